/- Part 48 of the proof: OrdAp. -/
import Derived.Test.YtpmfcpdelkchaaaGreatL38
import Derived.Test.YtpmfcpdelkchaaaGreatL47
namespace Go.Proofs.YtpmfcpdelkchaaaGreat
set_option linter.unusedSimpArgs false
set_option linter.unusedVariables false
set_option linter.unusedSectionVars false
set_option maxRecDepth 100000
set_option maxHeartbeats 16000000
section
open Go.RowKit Go.Lib
section
variable {P:Nat→Prop} {w:World} {M:Nat} {c:Cfg} {rs rh n:Nat} {wd:Wd} {d:FlatD}
theorem ordAp_2 (h:FW P w M c rs rh n wd d) (hP:∀b,w.heap.size≤b→P b) (hc:CfgOk c rs rh) (hn:n≤100000) (e:EvtD) (he:e.ok) (hk:e.kind=2) :
 Calls Tryz.prog 86 #[.pointer (some ⟨M,0,none⟩),evV e] w (FWSays P w M c rs rh (n+1) d.L (.bool (applyE c rs rh wd e).2) (applyE c rs rh wd e).1):=by
 rw [applyE_2 hk];have CD:=jH (fun W (hW:jB w W)=>flDo_any e.call (h.below hW) (fun b hb=>hP b (Nat.le_trans hW.size hb)) hc hn he.call);have HLT:=jH (show M<w.heap.size∧d.L<w.heap.size from ⟨h.at_.lt,h.at_.map.lt⟩);obtain ⟨r,hr⟩:∃r,r=doW c rs rh wd e.call:=⟨_,rfl⟩;rw [←hr] at CD ⊢;have HEQ:=jH (fun U=>eqRep r.2 e.rep' U);obtain ⟨sb,hsb⟩:∃sb,sb=sameRep r.2 e.rep':=⟨_,rfl⟩;rw [←hsb] at HEQ;dsimp only
 rw [←hsb];obtain ⟨L,hLL⟩:∃L,L=d.L:=⟨_,rfl⟩;rw [←hLL] at CD HLT ⊢;obtain ⟨kind,task,nth,⟨ck,cid,ct,cv,ch,⟨mn,mx,tg,tol,win,hold⟩⟩,err,epoch,handle,cnt,sum,least,most,mean,atick,aload,awant,arepl,awhy,hi,lo,ntick,nload,nwant,nrepl,nwhy⟩:=e;dsimp only at hk;subst hk;obtain ⟨nw,rp⟩:=r;unfold EvtD.rep' at HEQ;unfold callV repV repC at CD;unfold evV;dsimp only at CD HEQ ⊢;have EQ9:∀U,(binOp .eql 76 (.agg #[.int .i64 rp.err,.int .i64 rp.ep,.int .i64 rp.hd,.int .i64 rp.st.cnt,.int .i64 rp.st.sum,.int .i64 rp.st.least,.int .i64 rp.st.most,.int .i64 rp.st.mean,.int .i64 rp.adv.tick,.int .i64 rp.adv.load,.int .i64 rp.adv.want,.int .i64 rp.adv.repl,.int .i64 rp.adv.why]) (.agg #[.int .i64 err,.int .i64 epoch,.int .i64 handle,.int .i64 cnt,.int .i64 sum,.int .i64 least,.int .i64 most,.int .i64 mean,.int .i64 atick,.int .i64 aload,.int .i64 awant,.int .i64 arepl,.int .i64 awhy])).run Tryz.prog U=.ok (.bool sb) U:=HEQ.out
 clear h hP hc hn he hr hsb hLL HEQ
 go_enter Tryz.func86,Tryz.ntmps86
 go_upto_region 3 with fail
 refine name_world ?_;intro W1 hW1;have hb1:jB w W1:=by rw [hW1];exact balloc jR _
 have hx1:W1.heap[w.heap.size]?=some (.cells #[.int .i64 2,.int .i64 task,.int .i64 nth,.int .i64 ck,.string cid,.int .i64 ct,.int .i64 cv,.int .i64 ch,.int .i64 mn,.int .i64 mx,.int .i64 tg,.int .i64 tol,.int .i64 win,.int .i64 hold,.int .i64 err,.int .i64 epoch,.int .i64 handle,.int .i64 cnt,.int .i64 sum,.int .i64 least,.int .i64 most,.int .i64 mean,.int .i64 atick,.int .i64 aload,.int .i64 awant,.int .i64 arepl,.int .i64 awhy,.int .u64 (hi:Nat),.int .u64 (lo:Nat),.int .i64 ntick,.int .i64 nload,.int .i64 nwant,.int .i64 nrepl,.int .i64 nwhy] 148 (0,0)):=by rw [hW1];exact heap_alloc_new _ _
 clear hW1;have HB1:=jH hb1;have HX1:=jH hx1;clear hb1 hx1;have ra:∀U:World,U.heap[w.heap.size]?=some (.cells #[.int .i64 2,.int .i64 task,.int .i64 nth,.int .i64 ck,.string cid,.int .i64 ct,.int .i64 cv,.int .i64 ch,.int .i64 mn,.int .i64 mx,.int .i64 tg,.int .i64 tol,.int .i64 win,.int .i64 hold,.int .i64 err,.int .i64 epoch,.int .i64 handle,.int .i64 cnt,.int .i64 sum,.int .i64 least,.int .i64 most,.int .i64 mean,.int .i64 atick,.int .i64 aload,.int .i64 awant,.int .i64 arepl,.int .i64 awhy,.int .u64 (hi:Nat),.int .u64 (lo:Nat),.int .i64 ntick,.int .i64 nload,.int .i64 nwant,.int .i64 nrepl,.int .i64 nwhy] 148 (0,0))→∀i,U.cell? ⟨w.heap.size,i,none⟩=(#[.int .i64 2,.int .i64 task,.int .i64 nth,.int .i64 ck,.string cid,.int .i64 ct,.int .i64 cv,.int .i64 ch,.int .i64 mn,.int .i64 mx,.int .i64 tg,.int .i64 tol,.int .i64 win,.int .i64 hold,.int .i64 err,.int .i64 epoch,.int .i64 handle,.int .i64 cnt,.int .i64 sum,.int .i64 least,.int .i64 most,.int .i64 mean,.int .i64 atick,.int .i64 aload,.int .i64 awant,.int .i64 arepl,.int .i64 awhy,.int .u64 (hi:Nat),.int .u64 (lo:Nat),.int .i64 ntick,.int .i64 nload,.int .i64 nwant,.int .i64 nrepl,.int .i64 nwhy]:Array Value)[i]?:=fun U hU i=>(box_cells jR hU).1 i
 have hS00:W1.heap[w.heap.size]?=some (.cells #[.int .i64 2,.int .i64 task,.int .i64 nth,.int .i64 ck,.string cid,.int .i64 ct,.int .i64 cv,.int .i64 ch,.int .i64 mn,.int .i64 mx,.int .i64 tg,.int .i64 tol,.int .i64 win,.int .i64 hold,.int .i64 err,.int .i64 epoch,.int .i64 handle,.int .i64 cnt,.int .i64 sum,.int .i64 least,.int .i64 most,.int .i64 mean,.int .i64 atick,.int .i64 aload,.int .i64 awant,.int .i64 arepl,.int .i64 awhy,.int .u64 (hi:Nat),.int .u64 (lo:Nat),.int .i64 ntick,.int .i64 nload,.int .i64 nwant,.int .i64 nrepl,.int .i64 nwhy] 148 (0,0)):=HX1.out
 have hS0:W1.drew.heap[w.heap.size]?=some (.cells #[.int .i64 2,.int .i64 task,.int .i64 nth,.int .i64 ck,.string cid,.int .i64 ct,.int .i64 cv,.int .i64 ch,.int .i64 mn,.int .i64 mx,.int .i64 tg,.int .i64 tol,.int .i64 win,.int .i64 hold,.int .i64 err,.int .i64 epoch,.int .i64 handle,.int .i64 cnt,.int .i64 sum,.int .i64 least,.int .i64 most,.int .i64 mean,.int .i64 atick,.int .i64 aload,.int .i64 awant,.int .i64 arepl,.int .i64 awhy,.int .u64 (hi:Nat),.int .u64 (lo:Nat),.int .i64 ntick,.int .i64 nload,.int .i64 nwant,.int .i64 nrepl,.int .i64 nwhy] 148 (0,0)):=HX1.out
 go_region_held3 (fun U:World=>U.heap[w.heap.size]?=some (.cells #[.int .i64 2,.int .i64 task,.int .i64 nth,.int .i64 ck,.string cid,.int .i64 ct,.int .i64 cv,.int .i64 ch,.int .i64 mn,.int .i64 mx,.int .i64 tg,.int .i64 tol,.int .i64 win,.int .i64 hold,.int .i64 err,.int .i64 epoch,.int .i64 handle,.int .i64 cnt,.int .i64 sum,.int .i64 least,.int .i64 most,.int .i64 mean,.int .i64 atick,.int .i64 aload,.int .i64 awant,.int .i64 arepl,.int .i64 awhy,.int .u64 (hi:Nat),.int .u64 (lo:Nat),.int .i64 ntick,.int .i64 nload,.int .i64 nwant,.int .i64 nrepl,.int .i64 nwhy] 148 (0,0)))
   (first
     | with_reducible exact hS0
     | with_reducible exact HS2.out)
   (first
     | (go_at_call 51
        refine calls_named ?_;intro V hV;have hd:jB W1 V:=by rw [hV];first|exact jR.drew|exact jR
        clear hV;refine (CD.out V (bthen HB1.out hd)).mono ?_;rintro e u2 ⟨d',rfl,hfw,hl9,hu⟩;have hU:=(Upd.of_below (bthen HB1.out hd) [M,L]).trans hu;have HF2:=jH hfw;have HL2:=jH hl9;have HU2:=jH hU;have HS2:=jH (show u2.heap[w.heap.size]?=some (.cells #[.int .i64 2,.int .i64 task,.int .i64 nth,.int .i64 ck,.string cid,.int .i64 ct,.int .i64 cv,.int .i64 ch,.int .i64 mn,.int .i64 mx,.int .i64 tg,.int .i64 tol,.int .i64 win,.int .i64 hold,.int .i64 err,.int .i64 epoch,.int .i64 handle,.int .i64 cnt,.int .i64 sum,.int .i64 least,.int .i64 most,.int .i64 mean,.int .i64 atick,.int .i64 aload,.int .i64 awant,.int .i64 arepl,.int .i64 awhy,.int .u64 (hi:Nat),.int .u64 (lo:Nat),.int .i64 ntick,.int .i64 nload,.int .i64 nwant,.int .i64 nrepl,.int .i64 nwhy] 148 (0,0)) from upd_at ((Upd.of_below hd [M,L]).trans hu) (by have:=HLT.out;simp only [List.mem_cons,List.not_mem_nil,or_false];omega) HX1.out)
        clear hd hfw hl9 hu hU))
 all_goals
   refine then_named ?_;intro U9 hU9;have hk9:jB u2 U9:=by rw [hU9];first|exact jR|exact jR.drew
   have HEND:=jH (show FWSays P w M c rs rh (n+1) L (.bool sb) nw (.returned (.bool sb)) U9 from ⟨d',rfl,HF2.out.below hk9,HL2.out,HU2.out.trans (Upd.of_below hk9 _)⟩);clear hU9 hk9;go_wp2_with fail
   go_ret
   exact HEND.out
theorem ordAp_6s (h:FW P w M c rs rh n wd d) (hP:∀b,w.heap.size≤b→P b) (hc:CfgOk c rs rh) (hn:n≤100000) (e:EvtD) (he:e.ok) (hk:e.kind=6) (id:ByteArray) (hid:keyId e.hi e.lo=some id) :
 Calls Tryz.prog 86 #[.pointer (some ⟨M,0,none⟩),evV e] w (FWSays P w M c rs rh (n+1) d.L (.bool (applyE c rs rh wd e).2) (applyE c rs rh wd e).1):=by
 rw [applyE_6s hk hid];have hik:=keyId_is hid;have hm:id.size≤maxLen:=idS_max (show idS id=true from hik.1);have CU:=jH (fun W=>unpack_yes e.hi e.lo id W he.hi he.lo hik);have CN:=jH (fun W (hW:jB w W)=>flNote_any ⟨id,hm⟩ e.adv' (h.below hW) (fun b hb=>hP b (Nat.le_trans hW.size hb)) hc (show idS id=true from hik.1));obtain ⟨r,hr⟩:∃r,r=noteW c rs rh wd id e.adv':=⟨_,rfl⟩;dsimp only at CN;rw [←hr] at CN ⊢
 obtain ⟨kind,task,nth,⟨ck,cid,ct,cv,ch,⟨mn,mx,tg,tol,win,hold⟩⟩,err,epoch,handle,cnt,sum,least,most,mean,atick,aload,awant,arepl,awhy,hi,lo,ntick,nload,nwant,nrepl,nwhy⟩:=e;dsimp only at hk;subst hk;obtain ⟨nw,nb⟩:=r;unfold EvtD.adv' advC at CN;unfold keyV at CU;unfold evV;dsimp only at CN CU ⊢;obtain ⟨L,hLL⟩:∃L,L=d.L:=⟨_,rfl⟩;rw [←hLL] at CN ⊢;clear h hP hc hn he hr hLL hik hm hid
 go_enter Tryz.func86,Tryz.ntmps86
 go_wp2_with (first
  | (go_at_call 135
     refine calls_named ?_;intro W1 hW1;have hb1:jB w W1:=by rw [hW1];exact balloc jR _
     have hx1:W1.heap[w.heap.size]?=some (.cells #[.int .i64 6,.int .i64 task,.int .i64 nth,.int .i64 ck,.string cid,.int .i64 ct,.int .i64 cv,.int .i64 ch,.int .i64 mn,.int .i64 mx,.int .i64 tg,.int .i64 tol,.int .i64 win,.int .i64 hold,.int .i64 err,.int .i64 epoch,.int .i64 handle,.int .i64 cnt,.int .i64 sum,.int .i64 least,.int .i64 most,.int .i64 mean,.int .i64 atick,.int .i64 aload,.int .i64 awant,.int .i64 arepl,.int .i64 awhy,.int .u64 (hi:Nat),.int .u64 (lo:Nat),.int .i64 ntick,.int .i64 nload,.int .i64 nwant,.int .i64 nrepl,.int .i64 nwhy] 148 (0,0)):=by rw [hW1];exact heap_alloc_new _ _
     clear hW1;refine (CU.out W1).mono ?_;rintro e w2 ⟨rfl,hb⟩;have HB2:=jH (bthen hb1 hb);have HX2:=jH (jK hb hx1);obtain ⟨q1,q2,q3⟩:=box_cells jR HX2.out;clear hb1 hx1 hb)
  | (go_at_call 64
     refine (CN.out w2 HB2.out).mono ?_;rintro e u2 ⟨d',rfl,hfw,hl9,hu⟩;have HEND:=jH (show FWSays P w M c rs rh (n+1) L (.bool nb) nw (.returned (.bool nb)) u2 from ⟨d',rfl,hfw,hl9,(Upd.of_below HB2.out _).trans hu⟩);clear hfw hl9 hu q1 q2 q3))
 go_ret
 exact HEND.out
theorem ordAp_6n (h:FW P w M c rs rh n wd d) (hP:∀b,w.heap.size≤b→P b) (hc:CfgOk c rs rh) (hn:n≤100000) (e:EvtD) (he:e.ok) (hk:e.kind=6) (hid:∀l,¬IsKey e.hi e.lo l) :
 Calls Tryz.prog 86 #[.pointer (some ⟨M,0,none⟩),evV e] w (FWSays P w M c rs rh (n+1) d.L (.bool (applyE c rs rh wd e).2) (applyE c rs rh wd e).1):=by
 rw [applyE_6n hk (keyId_no hid)];have CU:=jH (fun W=>unpack_no e.hi e.lo W he.hi he.lo hid);have CN:=jH (fun W (hW:jB w W)=>flNote_bad ⟨⟨#[]⟩,by decide⟩ e.adv' (h.below hW) hc (by decide));have HSAME:=jH (fun (W:World) (hW:jB w W)=>h.same (v:=.bool false) (Nat.le_succ n) hW);obtain ⟨kind,task,nth,⟨ck,cid,ct,cv,ch,⟨mn,mx,tg,tol,win,hold⟩⟩,err,epoch,handle,cnt,sum,least,most,mean,atick,aload,awant,arepl,awhy,hi,lo,ntick,nload,nwant,nrepl,nwhy⟩:=e
 dsimp only at hk;subst hk;unfold EvtD.adv' advC at CN;unfold keyV at CU;unfold evV;dsimp only at CN CU ⊢;clear h hP hc hn he hid
 go_enter Tryz.func86,Tryz.ntmps86
 go_wp2_with (first
  | (go_at_call 135
     refine calls_named ?_;intro W1 hW1;have hb1:jB w W1:=by rw [hW1];exact balloc jR _
     have hx1:W1.heap[w.heap.size]?=some (.cells #[.int .i64 6,.int .i64 task,.int .i64 nth,.int .i64 ck,.string cid,.int .i64 ct,.int .i64 cv,.int .i64 ch,.int .i64 mn,.int .i64 mx,.int .i64 tg,.int .i64 tol,.int .i64 win,.int .i64 hold,.int .i64 err,.int .i64 epoch,.int .i64 handle,.int .i64 cnt,.int .i64 sum,.int .i64 least,.int .i64 most,.int .i64 mean,.int .i64 atick,.int .i64 aload,.int .i64 awant,.int .i64 arepl,.int .i64 awhy,.int .u64 (hi:Nat),.int .u64 (lo:Nat),.int .i64 ntick,.int .i64 nload,.int .i64 nwant,.int .i64 nrepl,.int .i64 nwhy] 148 (0,0)):=by rw [hW1];exact heap_alloc_new _ _
     clear hW1;refine (CU.out W1).mono ?_;rintro e w2 ⟨rfl,hb⟩;have HB2:=jH (bthen hb1 hb);have HX2:=jH (jK hb hx1);obtain ⟨q1,q2,q3⟩:=box_cells jR HX2.out;clear hb1 hx1 hb)
  | (go_at_call 64
     refine (CN.out w2 HB2.out).mono ?_;rintro e u2 ⟨rfl,hb⟩;have HEND:=jH (HSAME.out u2 (bthen HB2.out hb));clear hb q1 q2 q3))
 go_ret
 exact HEND.out
theorem ordAp_no (h:FW P w M c rs rh n wd d) (hP:∀b,w.heap.size≤b→P b) (hc:CfgOk c rs rh) (hn:n≤100000) (e:EvtD) (he:e.ok) (h2:e.kind≠2) (h6:e.kind≠6) :
 Calls Tryz.prog 86 #[.pointer (some ⟨M,0,none⟩),evV e] w (FWSays P w M c rs rh (n+1) d.L (.bool (applyE c rs rh wd e).2) (applyE c rs rh wd e).1):=by
 rw [applyE_no h2 h6];have HSAME:=jH (fun (W:World) (hW:jB w W)=>h.same (v:=.bool true) (Nat.le_succ n) hW);obtain ⟨kind,task,nth,⟨ck,cid,ct,cv,ch,⟨mn,mx,tg,tol,win,hold⟩⟩,err,epoch,handle,cnt,sum,least,most,mean,atick,aload,awant,arepl,awhy,hi,lo,ntick,nload,nwant,nrepl,nwhy⟩:=e;unfold evV;dsimp only at h2 h6 ⊢;have z2:(kind == 2)=false:=by simpa using h2
 have z6:(kind == 6)=false:=by simpa using h6
 clear h hP hc hn he h2 h6
 go_enter Tryz.func86,Tryz.ntmps86
 go_wp2_with fail
 go_ret
 exact HSAME.out _ (balloc jR _)
theorem ordAp_any (h:FW P w M c rs rh n wd d) (hP:∀b,w.heap.size≤b→P b) (hc:CfgOk c rs rh) (hn:n≤100000) (e:EvtD) (he:e.ok) :
 Calls Tryz.prog 86 #[.pointer (some ⟨M,0,none⟩),evV e] w (FWSays P w M c rs rh (n+1) d.L (.bool (applyE c rs rh wd e).2) (applyE c rs rh wd e).1):=by
 by_cases h2:e.kind=2
 · exact ordAp_2 h hP hc hn e he h2
 · by_cases h6:e.kind=6
   · cases hk:keyId e.hi e.lo with
     | some id=>exact ordAp_6s h hP hc hn e he h6 id hk
     | none=>exact ordAp_6n h hP hc hn e he h6 (keyId_none hk)
   · exact ordAp_no h hP hc hn e he h2 h6
end
end
end Go.Proofs.YtpmfcpdelkchaaaGreat
