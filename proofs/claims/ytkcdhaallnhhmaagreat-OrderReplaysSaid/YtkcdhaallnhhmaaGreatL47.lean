/- Part 47 of the proof: OrdAp, JEvents, OrdAft, LinC, OrdLin. -/
import Derived.Test.YtkcdhaallnhhmaaGreatL39
import Derived.Test.YtkcdhaallnhhmaaGreatL46
namespace Go.Proofs.YtkcdhaallnhhmaaGreat
set_option linter.unusedSimpArgs false
set_option linter.unusedVariables false
set_option linter.unusedSectionVars false
set_option maxRecDepth 100000
set_option maxHeartbeats 16000000
section
open Go.RowKit Go.Lib
section
variable {P:Nat→Prop} {w:World} {M:Nat} {c:Cfg} {rs rh n:Nat} {wd:Wd} {d:FlatD}
theorem ordAp_2 (h:FW P w M c rs rh n wd d) (hP:∀b,w.heap.size≤b→P b) (hc:CfgOk c rs rh) (hn:n≤100000) (e:EvtD) (he:e.ok) (hk:e.kind=2) :
 Calls Tryz.prog 68 #[.pointer (some ⟨M,0,none⟩),evV e] w (FWSays P w M c rs rh (n+1) d.L (.bool (applyE c rs rh wd e).2) (applyE c rs rh wd e).1):=by
 rw [applyE_2 hk];have CD:=jH (fun W (hW:jB w W)=>flDo_any e.call (h.below hW) (fun b hb=>hP b (Nat.le_trans hW.size hb)) hc hn he.call);have HLT:=jH (show M<w.heap.size∧d.L<w.heap.size from ⟨h.at_.lt,h.at_.map.lt⟩);obtain ⟨r,hr⟩:∃r,r=doW c rs rh wd e.call:=⟨_,rfl⟩;rw [←hr] at CD ⊢;have HEQ:=jH (fun U=>eqRep r.2 e.rep' U);obtain ⟨sb,hsb⟩:∃sb,sb=sameRep r.2 e.rep':=⟨_,rfl⟩;rw [←hsb] at HEQ;dsimp only
 rw [←hsb];obtain ⟨L,hLL⟩:∃L,L=d.L:=⟨_,rfl⟩;rw [←hLL] at CD HLT ⊢;obtain ⟨kind,task,nth,⟨ck,cid,ct,cv,ch,⟨mn,mx,tg,tol,win,hold⟩⟩,err,epoch,handle,cnt,sum,least,most,mean,atick,aload,awant,arepl,awhy,hi,lo,ntick,nload,nwant,nrepl,nwhy⟩:=e;dsimp only at hk;subst hk;obtain ⟨nw,rp⟩:=r;unfold EvtD.rep' at HEQ;unfold callV repV repC at CD;unfold evV;dsimp only at CD HEQ ⊢;have EQ9:∀U,(binOp .eql 76 (.agg #[.int .i64 rp.err,.int .i64 rp.ep,.int .i64 rp.hd,.int .i64 rp.st.cnt,.int .i64 rp.st.sum,.int .i64 rp.st.least,.int .i64 rp.st.most,.int .i64 rp.st.mean,.int .i64 rp.adv.tick,.int .i64 rp.adv.load,.int .i64 rp.adv.want,.int .i64 rp.adv.repl,.int .i64 rp.adv.why]) (.agg #[.int .i64 err,.int .i64 epoch,.int .i64 handle,.int .i64 cnt,.int .i64 sum,.int .i64 least,.int .i64 most,.int .i64 mean,.int .i64 atick,.int .i64 aload,.int .i64 awant,.int .i64 arepl,.int .i64 awhy])).run Tryz.prog U=.ok (.bool sb) U:=HEQ.out
 clear h hP hc hn he hr hsb hLL HEQ
 go_enter Tryz.func68,Tryz.ntmps68
 go_upto_region 3 with fail
 refine name_world ?_;intro W1 hW1;have hb1:jB w W1:=by rw [hW1];exact balloc jR _
 have hx1:W1.heap[w.heap.size]?=some (.cells #[.int .i64 2,.int .i64 task,.int .i64 nth,.int .i64 ck,.string cid,.int .i64 ct,.int .i64 cv,.int .i64 ch,.int .i64 mn,.int .i64 mx,.int .i64 tg,.int .i64 tol,.int .i64 win,.int .i64 hold,.int .i64 err,.int .i64 epoch,.int .i64 handle,.int .i64 cnt,.int .i64 sum,.int .i64 least,.int .i64 most,.int .i64 mean,.int .i64 atick,.int .i64 aload,.int .i64 awant,.int .i64 arepl,.int .i64 awhy,.int .u64 (hi:Nat),.int .u64 (lo:Nat),.int .i64 ntick,.int .i64 nload,.int .i64 nwant,.int .i64 nrepl,.int .i64 nwhy] 132 (0,0)):=by rw [hW1];exact heap_alloc_new _ _
 clear hW1;have HB1:=jH hb1;have HX1:=jH hx1;clear hb1 hx1;have ra:∀U:World,U.heap[w.heap.size]?=some (.cells #[.int .i64 2,.int .i64 task,.int .i64 nth,.int .i64 ck,.string cid,.int .i64 ct,.int .i64 cv,.int .i64 ch,.int .i64 mn,.int .i64 mx,.int .i64 tg,.int .i64 tol,.int .i64 win,.int .i64 hold,.int .i64 err,.int .i64 epoch,.int .i64 handle,.int .i64 cnt,.int .i64 sum,.int .i64 least,.int .i64 most,.int .i64 mean,.int .i64 atick,.int .i64 aload,.int .i64 awant,.int .i64 arepl,.int .i64 awhy,.int .u64 (hi:Nat),.int .u64 (lo:Nat),.int .i64 ntick,.int .i64 nload,.int .i64 nwant,.int .i64 nrepl,.int .i64 nwhy] 132 (0,0))→∀i,U.cell? ⟨w.heap.size,i,none⟩=(#[.int .i64 2,.int .i64 task,.int .i64 nth,.int .i64 ck,.string cid,.int .i64 ct,.int .i64 cv,.int .i64 ch,.int .i64 mn,.int .i64 mx,.int .i64 tg,.int .i64 tol,.int .i64 win,.int .i64 hold,.int .i64 err,.int .i64 epoch,.int .i64 handle,.int .i64 cnt,.int .i64 sum,.int .i64 least,.int .i64 most,.int .i64 mean,.int .i64 atick,.int .i64 aload,.int .i64 awant,.int .i64 arepl,.int .i64 awhy,.int .u64 (hi:Nat),.int .u64 (lo:Nat),.int .i64 ntick,.int .i64 nload,.int .i64 nwant,.int .i64 nrepl,.int .i64 nwhy]:Array Value)[i]?:=fun U hU i=>(box_cells jR hU).1 i
 have hS00:W1.heap[w.heap.size]?=some (.cells #[.int .i64 2,.int .i64 task,.int .i64 nth,.int .i64 ck,.string cid,.int .i64 ct,.int .i64 cv,.int .i64 ch,.int .i64 mn,.int .i64 mx,.int .i64 tg,.int .i64 tol,.int .i64 win,.int .i64 hold,.int .i64 err,.int .i64 epoch,.int .i64 handle,.int .i64 cnt,.int .i64 sum,.int .i64 least,.int .i64 most,.int .i64 mean,.int .i64 atick,.int .i64 aload,.int .i64 awant,.int .i64 arepl,.int .i64 awhy,.int .u64 (hi:Nat),.int .u64 (lo:Nat),.int .i64 ntick,.int .i64 nload,.int .i64 nwant,.int .i64 nrepl,.int .i64 nwhy] 132 (0,0)):=HX1.out
 have hS0:W1.drew.heap[w.heap.size]?=some (.cells #[.int .i64 2,.int .i64 task,.int .i64 nth,.int .i64 ck,.string cid,.int .i64 ct,.int .i64 cv,.int .i64 ch,.int .i64 mn,.int .i64 mx,.int .i64 tg,.int .i64 tol,.int .i64 win,.int .i64 hold,.int .i64 err,.int .i64 epoch,.int .i64 handle,.int .i64 cnt,.int .i64 sum,.int .i64 least,.int .i64 most,.int .i64 mean,.int .i64 atick,.int .i64 aload,.int .i64 awant,.int .i64 arepl,.int .i64 awhy,.int .u64 (hi:Nat),.int .u64 (lo:Nat),.int .i64 ntick,.int .i64 nload,.int .i64 nwant,.int .i64 nrepl,.int .i64 nwhy] 132 (0,0)):=HX1.out
 go_region_held3 (fun U:World=>U.heap[w.heap.size]?=some (.cells #[.int .i64 2,.int .i64 task,.int .i64 nth,.int .i64 ck,.string cid,.int .i64 ct,.int .i64 cv,.int .i64 ch,.int .i64 mn,.int .i64 mx,.int .i64 tg,.int .i64 tol,.int .i64 win,.int .i64 hold,.int .i64 err,.int .i64 epoch,.int .i64 handle,.int .i64 cnt,.int .i64 sum,.int .i64 least,.int .i64 most,.int .i64 mean,.int .i64 atick,.int .i64 aload,.int .i64 awant,.int .i64 arepl,.int .i64 awhy,.int .u64 (hi:Nat),.int .u64 (lo:Nat),.int .i64 ntick,.int .i64 nload,.int .i64 nwant,.int .i64 nrepl,.int .i64 nwhy] 132 (0,0)))
   (first
     | with_reducible exact hS0
     | with_reducible exact HS2.out)
   (first
     | (go_at_call 41
        refine calls_named ?_;intro V hV;have hd:jB W1 V:=by rw [hV];first|exact jR.drew|exact jR
        clear hV;refine (CD.out V (bthen HB1.out hd)).mono ?_;rintro e u2 ⟨d',rfl,hfw,hl9,hu⟩;have hU:=(Upd.of_below (bthen HB1.out hd) [M,L]).trans hu;have HF2:=jH hfw;have HL2:=jH hl9;have HU2:=jH hU;have HS2:=jH (show u2.heap[w.heap.size]?=some (.cells #[.int .i64 2,.int .i64 task,.int .i64 nth,.int .i64 ck,.string cid,.int .i64 ct,.int .i64 cv,.int .i64 ch,.int .i64 mn,.int .i64 mx,.int .i64 tg,.int .i64 tol,.int .i64 win,.int .i64 hold,.int .i64 err,.int .i64 epoch,.int .i64 handle,.int .i64 cnt,.int .i64 sum,.int .i64 least,.int .i64 most,.int .i64 mean,.int .i64 atick,.int .i64 aload,.int .i64 awant,.int .i64 arepl,.int .i64 awhy,.int .u64 (hi:Nat),.int .u64 (lo:Nat),.int .i64 ntick,.int .i64 nload,.int .i64 nwant,.int .i64 nrepl,.int .i64 nwhy] 132 (0,0)) from upd_at ((Upd.of_below hd [M,L]).trans hu) (by have:=HLT.out;simp only [List.mem_cons,List.not_mem_nil,or_false];omega) HX1.out)
        clear hd hfw hl9 hu hU))
 all_goals
   refine then_named ?_;intro U9 hU9;have hk9:jB u2 U9:=by rw [hU9];first|exact jR|exact jR.drew
   have HEND:=jH (show FWSays P w M c rs rh (n+1) L (.bool sb) nw (.returned (.bool sb)) U9 from ⟨d',rfl,HF2.out.below hk9,HL2.out,HU2.out.trans (Upd.of_below hk9 _)⟩);clear hU9 hk9;go_wp2_with fail
   go_ret
   exact HEND.out
theorem ordAp_6s (h:FW P w M c rs rh n wd d) (hP:∀b,w.heap.size≤b→P b) (hc:CfgOk c rs rh) (hn:n≤100000) (e:EvtD) (he:e.ok) (hk:e.kind=6) (id:ByteArray) (hid:keyId e.hi e.lo=some id) :
 Calls Tryz.prog 68 #[.pointer (some ⟨M,0,none⟩),evV e] w (FWSays P w M c rs rh (n+1) d.L (.bool (applyE c rs rh wd e).2) (applyE c rs rh wd e).1):=by
 rw [applyE_6s hk hid];have hik:=keyId_is hid;have hm:id.size≤maxLen:=idS_max (show idS id=true from hik.1);have CU:=jH (fun W=>unpack_yes e.hi e.lo id W he.hi he.lo hik);have CN:=jH (fun W (hW:jB w W)=>flNote_any ⟨id,hm⟩ e.adv' (h.below hW) (fun b hb=>hP b (Nat.le_trans hW.size hb)) hc (show idS id=true from hik.1));obtain ⟨r,hr⟩:∃r,r=noteW c rs rh wd id e.adv':=⟨_,rfl⟩;dsimp only at CN;rw [←hr] at CN ⊢
 obtain ⟨kind,task,nth,⟨ck,cid,ct,cv,ch,⟨mn,mx,tg,tol,win,hold⟩⟩,err,epoch,handle,cnt,sum,least,most,mean,atick,aload,awant,arepl,awhy,hi,lo,ntick,nload,nwant,nrepl,nwhy⟩:=e;dsimp only at hk;subst hk;obtain ⟨nw,nb⟩:=r;unfold EvtD.adv' advC at CN;unfold keyV at CU;unfold evV;dsimp only at CN CU ⊢;obtain ⟨L,hLL⟩:∃L,L=d.L:=⟨_,rfl⟩;rw [←hLL] at CN ⊢;clear h hP hc hn he hr hLL hik hm hid
 go_enter Tryz.func68,Tryz.ntmps68
 go_wp2_with (first
  | (go_at_call 107
     refine calls_named ?_;intro W1 hW1;have hb1:jB w W1:=by rw [hW1];exact balloc jR _
     have hx1:W1.heap[w.heap.size]?=some (.cells #[.int .i64 6,.int .i64 task,.int .i64 nth,.int .i64 ck,.string cid,.int .i64 ct,.int .i64 cv,.int .i64 ch,.int .i64 mn,.int .i64 mx,.int .i64 tg,.int .i64 tol,.int .i64 win,.int .i64 hold,.int .i64 err,.int .i64 epoch,.int .i64 handle,.int .i64 cnt,.int .i64 sum,.int .i64 least,.int .i64 most,.int .i64 mean,.int .i64 atick,.int .i64 aload,.int .i64 awant,.int .i64 arepl,.int .i64 awhy,.int .u64 (hi:Nat),.int .u64 (lo:Nat),.int .i64 ntick,.int .i64 nload,.int .i64 nwant,.int .i64 nrepl,.int .i64 nwhy] 132 (0,0)):=by rw [hW1];exact heap_alloc_new _ _
     clear hW1;refine (CU.out W1).mono ?_;rintro e w2 ⟨rfl,hb⟩;have HB2:=jH (bthen hb1 hb);have HX2:=jH (jK hb hx1);obtain ⟨q1,q2,q3⟩:=box_cells jR HX2.out;clear hb1 hx1 hb)
  | (go_at_call 45
     refine (CN.out w2 HB2.out).mono ?_;rintro e u2 ⟨d',rfl,hfw,hl9,hu⟩;have HEND:=jH (show FWSays P w M c rs rh (n+1) L (.bool nb) nw (.returned (.bool nb)) u2 from ⟨d',rfl,hfw,hl9,(Upd.of_below HB2.out _).trans hu⟩);clear hfw hl9 hu q1 q2 q3))
 go_ret
 exact HEND.out
theorem ordAp_6n (h:FW P w M c rs rh n wd d) (hP:∀b,w.heap.size≤b→P b) (hc:CfgOk c rs rh) (hn:n≤100000) (e:EvtD) (he:e.ok) (hk:e.kind=6) (hid:∀l,¬IsKey e.hi e.lo l) :
 Calls Tryz.prog 68 #[.pointer (some ⟨M,0,none⟩),evV e] w (FWSays P w M c rs rh (n+1) d.L (.bool (applyE c rs rh wd e).2) (applyE c rs rh wd e).1):=by
 rw [applyE_6n hk (keyId_no hid)];have CU:=jH (fun W=>unpack_no e.hi e.lo W he.hi he.lo hid);have CN:=jH (fun W (hW:jB w W)=>flNote_bad ⟨⟨#[]⟩,by decide⟩ e.adv' (h.below hW) hc (by decide));have HSAME:=jH (fun (W:World) (hW:jB w W)=>h.same (v:=.bool false) (Nat.le_succ n) hW);obtain ⟨kind,task,nth,⟨ck,cid,ct,cv,ch,⟨mn,mx,tg,tol,win,hold⟩⟩,err,epoch,handle,cnt,sum,least,most,mean,atick,aload,awant,arepl,awhy,hi,lo,ntick,nload,nwant,nrepl,nwhy⟩:=e
 dsimp only at hk;subst hk;unfold EvtD.adv' advC at CN;unfold keyV at CU;unfold evV;dsimp only at CN CU ⊢;clear h hP hc hn he hid
 go_enter Tryz.func68,Tryz.ntmps68
 go_wp2_with (first
  | (go_at_call 107
     refine calls_named ?_;intro W1 hW1;have hb1:jB w W1:=by rw [hW1];exact balloc jR _
     have hx1:W1.heap[w.heap.size]?=some (.cells #[.int .i64 6,.int .i64 task,.int .i64 nth,.int .i64 ck,.string cid,.int .i64 ct,.int .i64 cv,.int .i64 ch,.int .i64 mn,.int .i64 mx,.int .i64 tg,.int .i64 tol,.int .i64 win,.int .i64 hold,.int .i64 err,.int .i64 epoch,.int .i64 handle,.int .i64 cnt,.int .i64 sum,.int .i64 least,.int .i64 most,.int .i64 mean,.int .i64 atick,.int .i64 aload,.int .i64 awant,.int .i64 arepl,.int .i64 awhy,.int .u64 (hi:Nat),.int .u64 (lo:Nat),.int .i64 ntick,.int .i64 nload,.int .i64 nwant,.int .i64 nrepl,.int .i64 nwhy] 132 (0,0)):=by rw [hW1];exact heap_alloc_new _ _
     clear hW1;refine (CU.out W1).mono ?_;rintro e w2 ⟨rfl,hb⟩;have HB2:=jH (bthen hb1 hb);have HX2:=jH (jK hb hx1);obtain ⟨q1,q2,q3⟩:=box_cells jR HX2.out;clear hb1 hx1 hb)
  | (go_at_call 45
     refine (CN.out w2 HB2.out).mono ?_;rintro e u2 ⟨rfl,hb⟩;have HEND:=jH (HSAME.out u2 (bthen HB2.out hb));clear hb q1 q2 q3))
 go_ret
 exact HEND.out
theorem ordAp_no (h:FW P w M c rs rh n wd d) (hP:∀b,w.heap.size≤b→P b) (hc:CfgOk c rs rh) (hn:n≤100000) (e:EvtD) (he:e.ok) (h2:e.kind≠2) (h6:e.kind≠6) :
 Calls Tryz.prog 68 #[.pointer (some ⟨M,0,none⟩),evV e] w (FWSays P w M c rs rh (n+1) d.L (.bool (applyE c rs rh wd e).2) (applyE c rs rh wd e).1):=by
 rw [applyE_no h2 h6];have HSAME:=jH (fun (W:World) (hW:jB w W)=>h.same (v:=.bool true) (Nat.le_succ n) hW);obtain ⟨kind,task,nth,⟨ck,cid,ct,cv,ch,⟨mn,mx,tg,tol,win,hold⟩⟩,err,epoch,handle,cnt,sum,least,most,mean,atick,aload,awant,arepl,awhy,hi,lo,ntick,nload,nwant,nrepl,nwhy⟩:=e;unfold evV;dsimp only at h2 h6 ⊢;have z2:(kind == 2)=false:=by simpa using h2
 have z6:(kind == 6)=false:=by simpa using h6
 clear h hP hc hn he h2 h6
 go_enter Tryz.func68,Tryz.ntmps68
 go_wp2_with fail
 go_ret
 exact HSAME.out _ (balloc jR _)
theorem ordAp_any (h:FW P w M c rs rh n wd d) (hP:∀b,w.heap.size≤b→P b) (hc:CfgOk c rs rh) (hn:n≤100000) (e:EvtD) (he:e.ok) :
 Calls Tryz.prog 68 #[.pointer (some ⟨M,0,none⟩),evV e] w (FWSays P w M c rs rh (n+1) d.L (.bool (applyE c rs rh wd e).2) (applyE c rs rh wd e).1):=by
 by_cases h2:e.kind=2
 · exact ordAp_2 h hP hc hn e he h2
 · by_cases h6:e.kind=6
   · cases hk:keyId e.hi e.lo with
     | some id=>exact ordAp_6s h hP hc hn e he h6 id hk
     | none=>exact ordAp_6n h hP hc hn e he h6 (keyId_none hk)
   · exact ordAp_no h hP hc hn e he h2 h6
end
end
section
open Go.RowKit Go.Lib
theorem eEv:EltOf 82 132 34 280 (.agg #[.int .i64 0,.int .i64 0,.int .i64 0,.int .i64 0,.string ⟨#[]⟩,.int .i64 0,.int .i64 0,.int .i64 0,.int .i64 0,.int .i64 0,.int .i64 0,.int .i64 0,.int .i64 0,.int .i64 0,.int .i64 0,.int .i64 0,.int .i64 0,.int .i64 0,.int .i64 0,.int .i64 0,.int .i64 0,.int .i64 0,.int .i64 0,.int .i64 0,.int .i64 0,.int .i64 0,.int .i64 0,.int .u64 0,.int .u64 0,.int .i64 0,.int .i64 0,.int .i64 0,.int .i64 0,.int .i64 0]) evC :=
 ⟨by kernel_rfl,by kernel_rfl,rfl,by decide,by decide,fun _=>rfl,fun x u hu=>evC_one x u hu⟩
theorem events_any (v:Value) (es:List EvtD) (w:World) (he:RowIn 34 evC w v es) (hel:es.length≤100) :
 Calls Tryz.prog 33 #[v] w fun e w'=>∃u,e=.returned u∧RowIn 34 evC w' u es∧jB w w':=by
 obtain ⟨A,c,rfl,hAc,h0⟩:=id he;clear h0;have HE:=jH he;have HAC:=jH hAc;clear he hAc
 go_enter Tryz.func33,Tryz.ntmps33
 go_wp2_with fail
 go_loopg [3,8] es.length (fun g s3 s8 wr=>∃k:Nat,k≤es.length∧es.length - k≤g∧s8=.int .i64 k∧OwnL evC 132 34 w.heap.size wr s3 (es.take k)∧jB w wr)
 case atStart=>exact ⟨0,Nat.zero_le _,Nat.le_refl _,rfl,OwnL.nil _ _,jR⟩
 case round =>
  obtain ⟨k,hk,hg,rfl,hown,hbw⟩:=hrel;rename World=>wr
  have HBr:=jH hbw
  by_cases hlt:k<es.length
  · as_aux_lemma =>
     obtain ⟨b1,o1,rfl,hb1,hc⟩:=(HE.out.below HBr.out).at_ hlt;obtain ⟨B1,e1,rfl⟩:=hown.form;have hcl:(evC es[k]).length=34:=rfl;have hone:∀v∈evC es[k],v.oneCell'=true:=evC_one _;have HT2:=jH (show es.take (k+1)=es.take k++[es[k]] from List.take_succ_eq_append_getElem hlt);have htl:(es.take k).length≤100:=by rw [List.length_take];omega
     generalize es.take k=ys at hown HT2 htl ⊢;have HY:=jH hown;have HYL:=jH htl;obtain ⟨cs,hcs⟩:∃cs,cs=evC es[k]:=⟨_,rfl⟩;rw [←hcs] at hc hcl hone;generalize es[k]=x at hcs HT2;have HCS:=jH hcs;have hst:=store_new (P:=Tryz.prog) wr 137 cs 34 hcl (by kernel_rfl) hone;have HC:=jH hc;have HCL:=jH hcl;clear hc hcl hone hown htl hcs hbw
     go_wp2_with (first
      | (refine wpList_load_list rfl 137 (.tmp 10) rfl b1 (o1+k * 34) cs HC.out (by rfl) _ Tryz.underlying137 (by rfl) (by rw [HCL.out];kernel_rfl) ?_)
      | (refine wpList_load_list rfl 137 (.tmp 5) rfl wr.heap.size 0 cs (new_cells _ _ _) (by rfl) _ Tryz.underlying137 (by rfl) (by rw [HCL.out];kernel_rfl) ?_)
      | (refine wpList_build_one eEv (by decide) rfl (.tmp 13) rfl cs HCL.out (by rfl) ?_)
      | (at_builtin
         refine wpList_appendL eEv (by rfl) (by rfl) w.heap.size ys [x] (.slice B1 ys.length e1) _ (by rfl) (by rfl) ((HY.out.below (balloc jR _)).below (balloc jR _)) (RowIn.lit (n:=34) (f:=evC) (wr.alloc _) x cs.toArray _ _ rfl (by simp [HCS.out])) (by have:=HYL.out;simp;omega) (by have:=HBr.out.size;simp;omega) ?_;intro out A2 c2 w2 hout hown hg hor;have HOU:=jH (show out=ys++[x] from hout);have hb7:Below w.heap.size wr w2:=((jR.alloc HBr.out.size _).alloc (by have:=HBr.out.size;simp;omega) _).trans (grown_own hg HY.out (by have:=HBr.out.size;simp;omega))
         have HO:=jH hown;have HB7:=jH hb7;clear hown hout hg hor hb7))
     go_roundg (es.length - (k+1))
     case measure=>omega
     case rel=>exact ⟨k+1,hlt,Nat.le_refl _,by go_num,by rw [HT2.out,←HOU.out];exact HO.out,HBr.out.trans HB7.out⟩
  · obtain rfl:k=es.length:=by omega
    rw [List.take_length] at hown;have HO:=jH (hown.row eEv);clear hown hbw;go_wp2_with fail
    go_ret
    exact ⟨_,rfl,HO.out,HBr.out⟩
end
section
open Go.RowKit Go.Lib
theorem replayE_drop {c:Cfg} {rs rh:Nat} {wd:Wd} {l:List EvtD} {k:Nat} {i:Int} (hk:k<l.length) :
 replayE c rs rh wd i (l.drop k)=if (applyE c rs rh wd l[k]).2=true then replayE c rs rh (applyE c rs rh wd l[k]).1 (i+1) (l.drop (k+1)) else i:=by
 rw [List.drop_eq_getElem_cons hk];rfl
theorem ordReplay_any (c:Cfg) (rs rh k0:Nat) (v:Value) (es:List EvtD) (w:World) (hc:CfgOk c rs rh) (hk0:(k0:Int)=c.st) (he:RowIn 34 evC w v es) (heok:∀e∈es,e.ok) (hel:es.length≤100) :
 Calls Tryz.prog 34 #[cfgV c,v] w (jP w (.int .i64 (replayE c rs rh (newW k0) 0 es))):=by
 obtain ⟨A,cp,rfl,hAc,h0⟩:=id he;clear h0;have HE:=jH he;have HAC:=jH hAc;have HEOK:=jH heok;have HEL:=jH hel;have q9:(es.length:Int)≤100:=by omega
 have HCC:=jH hc;have CF:=jH (fun W=>fw_new c rs rh k0 W hc hk0);obtain ⟨ans,hans⟩:∃r,r=replayE c rs rh (newW k0) 0 es:=⟨_,rfl⟩;rw [←hans];have HANS:=jH hans;unfold cfgV at CF ⊢;clear he hAc heok hc hk0 hel hans
 go_enter Tryz.func34,Tryz.ntmps34
 go_wp2_with (first
  | (go_at_call 10
     refine calls_named ?_;intro W1 hW1;have hb1:jB w W1:=by rw [hW1];exact balloc jR _
     clear hW1;refine (CF.out W1).mono ?_;rintro e w2 ⟨M,f0,rfl,hf,h1,h2,hb⟩;have HF2:=jH hf;have HML:=jH (show w.heap.size≤M∧w.heap.size≤f0.L from ⟨Nat.le_trans hb1.size h1,Nat.le_trans hb1.size h2⟩);have HB2:=jH (bthen hb1 hb);clear hb1 hf h1 h2 hb))
 obtain ⟨L,hLL⟩:∃L,L=f0.L:=⟨_,rfl⟩;have HF0:=jH (show FW (fun b=>b≠M∧b≠L) w2 M c rs rh 0 (newW k0) f0∧f0.L=L by rw [hLL];exact ⟨HF2.out,rfl⟩);have HLO:=jH (show w.heap.size≤M∧w.heap.size≤L by rw [hLL];exact HML.out);clear hLL HF2 HML
 go_loopg [12] es.length (fun g s12 wr=>∃(k:Nat) (wd:Wd) (d:FlatD),k≤es.length∧es.length - k≤g∧s12=.int .i64 k∧FW (fun b=>b≠M∧b≠L) wr M c rs rh k wd d∧d.L=L∧jB w wr∧Hid (replayE c rs rh wd k (es.drop k)=ans))
 case atStart=>exact ⟨0,_,f0,Nat.zero_le _,Nat.le_refl _,rfl,HF0.out.1,HF0.out.2,HB2.out,jH (by rw [HANS.out];rfl)⟩
 case round =>
  obtain ⟨k,wd,d,hk,hg,rfl,hfw,hdl,hb,HR⟩:=hrel;rename World=>wr
  have HF:=jH hfw;have HDL:=jH hdl;have HBr:=jH hb;clear hfw hdl hb HF0
  by_cases hlt:k<es.length
  · have z1:(k:Int)<(es.length:Int):=by omega
    have z2:(0:Int)≤(k:Int):=by omega
    obtain ⟨b1,o1,rfl,hb1,hc⟩:=(HE.out.below HBr.out).at_ hlt;have hcl:(evC es[k]).length=34:=rfl;have hone:∀v∈evC es[k],v.oneCell'=true:=evC_one _;have HRR:=jH ((replayE_drop (i:=(k:Int)) (wd:=wd) (c:=c) (rs:=rs) (rh:=rh) hlt).symm.trans HR.out);have hM:=HF.out.at_.lt;have hL:L<wr.heap.size:=by have:=HF.out.at_.map.lt;rwa [HDL.out] at this
    have CA:=jH (fun W (hW:jB wr W)=>ordAp_any (HF.out.below hW) (fun b hb=>by have:=hW.size;omega) HCC.out (by have:=HEL.out;omega) es[k] (HEOK.out _ (List.getElem_mem hlt)));rw [HDL.out] at CA;obtain ⟨r,hr⟩:∃r,r=applyE c rs rh wd es[k]:=⟨_,rfl⟩;rw [←hr] at CA HRR;obtain ⟨cs,hcs⟩:∃cs,cs=evC es[k]:=⟨_,rfl⟩;have CA9:=jH (fun W (hW:jB wr W)=>show Calls Tryz.prog 68 #[.pointer (some ⟨M,0,none⟩),.agg cs.toArray] W (FWSays (fun b=>b≠M∧b≠L) W M c rs rh (k+1) L (.bool r.2) r.1) by rw [hcs];exact CA.out W hW)
    rw [←hcs] at hc hcl hone;have hst:=store_new (P:=Tryz.prog) wr 132 cs 34 hcl (by kernel_rfl) hone;have HC:=jH hc;have HCL:=jH hcl;clear hc hcl hone hcs hr CA hM hL;obtain ⟨nw,sb⟩:=r;dsimp only at CA9 HRR
    cases sb with
    | true =>
      have HR2:=jH (show replayE c rs rh nw ((k+1:Nat):Int) (es.drop (k+1))=ans from by have h9:=HRR.out;rw [if_pos rfl] at h9;exact h9);clear HRR HR
      go_wp2_with (first
       | (refine wpList_load_list rfl 132 (.tmp 15) rfl b1 (o1+k * 34) cs HC.out (by rfl) _ Tryz.underlying132 (by rfl) (by rw [HCL.out];kernel_rfl) ?_)
       | (refine wpList_load_list rfl 132 (.tmp 7) rfl wr.heap.size 0 cs (new_cells _ _ _) (by rfl) _ Tryz.underlying132 (by rfl) (by rw [HCL.out];kernel_rfl) ?_)
       | (go_at_call 68
          refine (CA9.out _ (balloc jR _)).mono ?_;rintro e u ⟨d',rfl,hfw,hdl,hu⟩;have HF9:=jH hfw;have HD9:=jH hdl;have HU9:=jH ((Upd.of_below (balloc jR _) [M,L]).trans hu);clear hfw hdl hu))
      go_roundg (es.length - (k+1))
      case measure=>omega
      case rel =>
       refine ⟨k+1,nw,d',hlt,Nat.le_refl _,by go_num,HF9.out,HD9.out,?_,HR2⟩;exact HBr.out.trans (HU9.out.below HBr.out.size (fun r hr=>by
        simp only [List.mem_cons,List.not_mem_nil,or_false] at hr
        rcases hr with rfl|rfl
        · exact HLO.out.1
        · exact HLO.out.2))
    | false =>
      have HR2:=jH (show (k:Int)=ans from by have h9:=HRR.out;rw [if_neg (by simp)] at h9;exact h9);clear HRR HR
      go_wp2_with (first
       | (refine wpList_load_list rfl 132 (.tmp 15) rfl b1 (o1+k * 34) cs HC.out (by rfl) _ Tryz.underlying132 (by rfl) (by rw [HCL.out];kernel_rfl) ?_)
       | (refine wpList_load_list rfl 132 (.tmp 7) rfl wr.heap.size 0 cs (new_cells _ _ _) (by rfl) _ Tryz.underlying132 (by rfl) (by rw [HCL.out];kernel_rfl) ?_)
       | (go_at_call 68
          refine (CA9.out _ (balloc jR _)).mono ?_;rintro e u ⟨d',rfl,hfw,hdl,hu⟩;have HU9:=jH ((Upd.of_below (balloc jR _) [M,L]).trans hu);clear hfw hdl hu))
      go_ret
      refine ⟨by rw [←HR2.out];rfl,?_⟩;exact HBr.out.trans (HU9.out.below HBr.out.size (fun r hr=>by
       simp only [List.mem_cons,List.not_mem_nil,or_false] at hr
       rcases hr with rfl|rfl
       · exact HLO.out.1
       · exact HLO.out.2))
  · obtain rfl:k=es.length:=by omega
    have z1:¬(es.length:Int)<(es.length:Int):=by omega
    have HR2:=jH (show (-1:Int)=ans from by have h9:=HR.out;rw [List.drop_length] at h9;exact h9);clear HR;go_wp2_with fail
    go_ret
    exact ⟨by rw [←HR2.out];rfl,HBr.out⟩
end
section
open Go.RowKit Go.Lib
def Bol (b:Bool) (w:World) (e:Ending) (w':World):Prop:=e=.returned (.bool b)∧jB w w'
def Num (r:Int) (w:World) (e:Ending) (w':World):Prop:=e=.returned (.int .i64 r)∧jB w w'
theorem lin_f {b:Bool} (c:Cfg) (A:Option Addr) (n cp:Nat) (r:Int) (w:World)
    (CT0:∀W,jB w W→Calls Tryz.prog 75 #[.slice A n cp] W (Bol false W))
    (CO0:∀W,jB w W→Calls Tryz.prog 35 #[.slice A n cp] W (Bol b W))
    (CR0:∀W,jB w W→Calls Tryz.prog 34 #[.agg #[.int .i64 c.st,.int .i64 c.sa,.int .i64 c.lo,.int .i64 c.hi],.slice A n cp] W (Num r W)) :
    Calls Tryz.prog 38 #[.agg #[.int .i64 c.st,.int .i64 c.sa,.int .i64 c.lo,.int .i64 c.hi],.slice A n cp] w (Bol false w):=by
  have CT:=jH CT0;have CO:=jH CO0;have CR:=jH CR0;clear CT0 CO0 CR0;obtain ⟨st,sa,lo,hi⟩:=c;dsimp only at CR ⊢
  go_enter Tryz.func38,Tryz.ntmps38
  go_wp2_with (first
   | (go_at_call 75
      refine calls_named ?_;intro W1 hW1;have hb1:jB w W1:=by rw [hW1];exact balloc jR _
      have hc1:W1.heap[w.heap.size]?=some (.cells #[.int .i64 st,.int .i64 sa,.int .i64 lo,.int .i64 hi] 23 (0,0)):=by rw [hW1];exact heap_alloc_new _ _
      clear hW1;refine (CT.out W1 hb1).mono ?_;rintro e w2 ⟨rfl,hb⟩;have HB2:=jH (bthen hb1 hb);have HC2:=jH (jK hb hc1);clear hb1 hc1 hb)
   | (go_at_call 35
      refine (CO.out w2 HB2.out).mono ?_;rintro e w3 ⟨rfl,hb⟩;have HB3:=jH (bthen HB2.out hb);have HC3:=jH (jK hb HC2.out);obtain ⟨q1,q2,q3⟩:=box_cells jR HC3.out;clear hb)
   | (go_at_call 34
      refine (CR.out w3 HB3.out).mono ?_;rintro e w4 ⟨rfl,hb⟩;have HB4:=jH (bthen HB3.out hb);clear hb))
  go_ret
  exact ⟨rfl,HB2.out⟩
theorem lin_tf (c:Cfg) (A:Option Addr) (n cp:Nat) (r:Int) (w:World)
    (CT0:∀W,jB w W→Calls Tryz.prog 75 #[.slice A n cp] W (Bol true W))
    (CO0:∀W,jB w W→Calls Tryz.prog 35 #[.slice A n cp] W (Bol false W))
    (CR0:∀W,jB w W→Calls Tryz.prog 34 #[.agg #[.int .i64 c.st,.int .i64 c.sa,.int .i64 c.lo,.int .i64 c.hi],.slice A n cp] W (Num r W)) :
    Calls Tryz.prog 38 #[.agg #[.int .i64 c.st,.int .i64 c.sa,.int .i64 c.lo,.int .i64 c.hi],.slice A n cp] w (Bol false w):=by
  have CT:=jH CT0;have CO:=jH CO0;have CR:=jH CR0;clear CT0 CO0 CR0;obtain ⟨st,sa,lo,hi⟩:=c;dsimp only at CR ⊢
  go_enter Tryz.func38,Tryz.ntmps38
  go_wp2_with (first
   | (go_at_call 75
      refine calls_named ?_;intro W1 hW1;have hb1:jB w W1:=by rw [hW1];exact balloc jR _
      have hc1:W1.heap[w.heap.size]?=some (.cells #[.int .i64 st,.int .i64 sa,.int .i64 lo,.int .i64 hi] 23 (0,0)):=by rw [hW1];exact heap_alloc_new _ _
      clear hW1;refine (CT.out W1 hb1).mono ?_;rintro e w2 ⟨rfl,hb⟩;have HB2:=jH (bthen hb1 hb);have HC2:=jH (jK hb hc1);clear hb1 hc1 hb)
   | (go_at_call 35
      refine (CO.out w2 HB2.out).mono ?_;rintro e w3 ⟨rfl,hb⟩;have HB3:=jH (bthen HB2.out hb);have HC3:=jH (jK hb HC2.out);obtain ⟨q1,q2,q3⟩:=box_cells jR HC3.out;clear hb)
   | (go_at_call 34
      refine (CR.out w3 HB3.out).mono ?_;rintro e w4 ⟨rfl,hb⟩;have HB4:=jH (bthen HB3.out hb);clear hb))
  go_ret
  exact ⟨rfl,HB3.out⟩
theorem lin_tt (c:Cfg) (A:Option Addr) (n cp:Nat) (r:Int) (w:World)
    (CT0:∀W,jB w W→Calls Tryz.prog 75 #[.slice A n cp] W (Bol true W))
    (CO0:∀W,jB w W→Calls Tryz.prog 35 #[.slice A n cp] W (Bol true W))
    (CR0:∀W,jB w W→Calls Tryz.prog 34 #[.agg #[.int .i64 c.st,.int .i64 c.sa,.int .i64 c.lo,.int .i64 c.hi],.slice A n cp] W (Num r W)) :
    Calls Tryz.prog 38 #[.agg #[.int .i64 c.st,.int .i64 c.sa,.int .i64 c.lo,.int .i64 c.hi],.slice A n cp] w (Bol (decide (r<0)) w):=by
  have CT:=jH CT0;have CO:=jH CO0;have CR:=jH CR0;clear CT0 CO0 CR0;obtain ⟨st,sa,lo,hi⟩:=c;dsimp only at CR ⊢
  go_enter Tryz.func38,Tryz.ntmps38
  go_wp2_with (first
   | (go_at_call 75
      refine calls_named ?_;intro W1 hW1;have hb1:jB w W1:=by rw [hW1];exact balloc jR _
      have hc1:W1.heap[w.heap.size]?=some (.cells #[.int .i64 st,.int .i64 sa,.int .i64 lo,.int .i64 hi] 23 (0,0)):=by rw [hW1];exact heap_alloc_new _ _
      clear hW1;refine (CT.out W1 hb1).mono ?_;rintro e w2 ⟨rfl,hb⟩;have HB2:=jH (bthen hb1 hb);have HC2:=jH (jK hb hc1);clear hb1 hc1 hb)
   | (go_at_call 35
      refine (CO.out w2 HB2.out).mono ?_;rintro e w3 ⟨rfl,hb⟩;have HB3:=jH (bthen HB2.out hb);have HC3:=jH (jK hb HC2.out);obtain ⟨q1,q2,q3⟩:=box_cells jR HC3.out;clear hb)
   | (go_at_call 34
      refine (CR.out w3 HB3.out).mono ?_;rintro e w4 ⟨rfl,hb⟩;have HB4:=jH (bthen HB3.out hb);clear hb))
  go_ret
  exact ⟨rfl,HB4.out⟩
end
section
open Go.RowKit Go.Lib
noncomputable def linW (c:Cfg) (rs rh k0:Nat) (es:List EvtD):Bool:=rightT (fun _=>trk0) es && (toldG [] es && decide (replayE c rs rh (newW k0) 0 es<0))
theorem linear_any (c:Cfg) (rs rh k0:Nat) (v:Value) (es:List EvtD) (w:World) (hc:CfgOk c rs rh) (hk0:(k0:Int)=c.st) (he:RowIn 34 evC w v es) (heok:∀e∈es,e.ok) (hel:es.length≤100) :
 Calls Tryz.prog 38 #[cfgV c,v] w (jP w (.bool (linW c rs rh k0 es))):=by
 have CT:=fun W (hW:jB w W)=>tright_any v es W (he.below hW) heok hel
 have CO:=fun W (hW:jB w W)=>otold_any v es W (he.below hW) heok hel
 have CR:=fun W (hW:jB w W)=>ordReplay_any c rs rh k0 v es W hc hk0 (he.below hW) heok hel
 unfold linW;obtain ⟨A,cp,rfl⟩:=he.form
 cases ha:rightT (fun _=>trk0) es with
 | false =>
   rw [ha] at CT;exact lin_f c A es.length cp _ w CT CO CR
 | true =>
   rw [ha] at CT
   cases hb:toldG [] es with
   | false =>
     rw [hb] at CO;exact lin_tf c A es.length cp _ w CT CO CR
   | true =>
     rw [hb] at CO;exact lin_tt c A es.length cp _ w CT CO CR
end
end Go.Proofs.YtkcdhaallnhhmaaGreat
