/- Part 48 of the proof: RefAp. -/
import Derived.Test.YtkcdhaallnhhmaaGreatL33
import Derived.Test.YtkcdhaallnhhmaaGreatL43
import Derived.Test.YtkcdhaallnhhmaaGreatL44
namespace Go.Proofs.YtkcdhaallnhhmaaGreat
set_option linter.unusedSimpArgs false
set_option linter.unusedVariables false
set_option linter.unusedSectionVars false
set_option maxRecDepth 100000
set_option maxHeartbeats 16000000
section
open Go.RowKit Go.Lib
theorem rid_yes (hi lo:Nat) (s:ByteArray) (w:World) (h1:hi<18446744073709551616) (h2:lo<18446744073709551616) (h:IsKey hi lo s.data.toList) :
 Calls Tryz.prog 110 #[keyV hi lo] w (jP w (.string s)) :=
 (rid35_loop hi lo w h1 h2).mono fun e w' ⟨hp,hb⟩=>by
   rcases hp with ⟨t,ht,rfl⟩|⟨hn,_⟩
   · have:t=s:=ByteArray.ext (Array.toList_inj.1 (ht.one h))
     rw [this];exact ⟨rfl,hb⟩
   · exact absurd h (hn _)
theorem rid_no (hi lo:Nat) (w:World) (h1:hi<18446744073709551616) (h2:lo<18446744073709551616) (h:∀l,¬IsKey hi lo l) :
 Calls Tryz.prog 110 #[keyV hi lo] w (jP w (.string ⟨#[]⟩)) :=
 (rid35_loop hi lo w h1 h2).mono fun e w' ⟨hp,hb⟩=>by
   rcases hp with ⟨t,ht,rfl⟩|⟨_,rfl⟩
   · exact absurd ht (h _)
   · exact ⟨rfl,hb⟩
theorem id_ne {hi lo:Nat} {s:ByteArray} (h:IsKey hi lo s.data.toList):s.toList.isEmpty=false:=by
 have h1:=h.1;unfold idL at h1;simp only [Bool.and_eq_true,decide_eq_true_eq] at h1
 rw [ByteArray.toList_eq]
 cases hl:s.data.toList with
 | nil=>rw [hl] at h1;simp at h1
 | cons _ _=>rfl
theorem three_boxes35 (w:World) (a b c:Obj):∀W,W=((w.alloc a).alloc b).alloc c→W.heap[w.heap.size]?=some a∧W.heap[w.heap.size+1]?=some b∧W.heap[w.heap.size+1+1]?=some c∧jB w W:=by
 rintro W rfl;exact ⟨box3_0 w a b c,box3_1 w a b c,box3_2 w a b c,balloc (balloc (balloc jR _) _) _⟩
theorem refAp_end {P:Nat→Prop} {w w1 W7 W9:World} {c:Cfg} {R:Nat} {x':WdH} {r:Wd × Bool} (hx:WdIn (Out P w.heap.size w1.heap.size) W7 x') (ha:absW x'=r.1) (hb:jB w W7) (hR:w.heap.size≤R) (hR1:R<w1.heap.size) (h2:∀k,k≠R→W9.heap[k]?=W7.heap[k]?) (h3:W9.heap.size=W7.heap.size) (h4:∀n,n≤R→Below n W7 W9) :
 NoteSays P w c r (.returned (.tuple #[.agg (wdC c x').toArray,.bool r.2])) W9 :=
 ⟨x',rfl,hx.home (Nat.le_of_eq h3.symm) (fun b hb _=>h2 b (by omega)),ha,hb.trans (h4 _ hR)⟩
theorem noteSays_below {P:Nat→Prop} {w w1 w2:World} {c:Cfg} {r:Wd × Bool} {e:Ending} (h:NoteSays P w c r e w1) (hb:jB w1 w2):NoteSays P w c r e w2:=by
 obtain ⟨x,h1,h2,h3,h4⟩:=h;exact ⟨x,h1,h2.below hb,h3,bthen h4 hb⟩
section
variable {P:Nat→Prop} {w:World} {c:Cfg} {rs rh n:Nat} {x:WdH}
theorem refAp_2 (hP:∀b,w.heap.size≤b→P b) (hx:WdIn P w x) (hc:RoomOk c rs rh) (hst:okSt c.st=true) (hk:WdOk c rs rh n (absW x)) (hn:n≤100000) (e:EvtD) (he:e.ok) (hk2:e.kind=2) :
 Calls Tryz.prog 73 #[.agg (wdC c x).toArray,evV e] w (NoteSays P w c (applyE c rs rh (absW x) e)):=by
 rw [applyE_2 hk2];have CD:=jH (fun W (hW:jB w W)=>do21_any (Out P w.heap.size W.heap.size) c rs rh n x e.call W (out_new hP hW.size) (hx.out hW) hc hst hk hn he.call);obtain ⟨r,hr⟩:∃r,r=doW c rs rh (absW x) e.call:=⟨_,rfl⟩;rw [←hr] at CD ⊢;have HEQ:=jH (fun U=>eqRep r.2 e.rep' U);obtain ⟨sb,hsb⟩:∃sb,sb=sameRep r.2 e.rep':=⟨_,rfl⟩;rw [←hsb] at HEQ ⊢;obtain ⟨kind,task,nth,⟨ck,cid,ct,cv,ch,⟨mn,mx,tg,tol,win,hold⟩⟩,err,epoch,handle,cnt,sum,least,most,mean,atick,aload,awant,arepl,awhy,hi,lo,ntick,nload,nwant,nrepl,nwhy⟩:=e
 dsimp only at hk2;subst hk2;obtain ⟨nw,rp⟩:=r;unfold EvtD.rep' at HEQ;unfold repV repC at HEQ;unfold callV at CD;unfold evV;unfold wdC at CD ⊢;dsimp only at CD HEQ ⊢;have EQ9:∀U,(binOp .eql 76 (.agg #[.int .i64 rp.err,.int .i64 rp.ep,.int .i64 rp.hd,.int .i64 rp.st.cnt,.int .i64 rp.st.sum,.int .i64 rp.st.least,.int .i64 rp.st.most,.int .i64 rp.st.mean,.int .i64 rp.adv.tick,.int .i64 rp.adv.load,.int .i64 rp.adv.want,.int .i64 rp.adv.repl,.int .i64 rp.adv.why]) (.agg #[.int .i64 err,.int .i64 epoch,.int .i64 handle,.int .i64 cnt,.int .i64 sum,.int .i64 least,.int .i64 most,.int .i64 mean,.int .i64 atick,.int .i64 aload,.int .i64 awant,.int .i64 arepl,.int .i64 awhy])).run Tryz.prog U=.ok (.bool sb) U:=HEQ.out
 have CD9:=jH (fun W (hW:jB w W)=>show Calls Tryz.prog 47 #[.agg #[.int .i64 c.st,.int .i64 c.sa,.int .i64 c.lo,.int .i64 c.hi,.slice x.sA x.st.length x.sc,.slice x.cA x.cuts.length x.cc,.int .i64 x.ep,.bool x.over],.agg #[.int .i64 ck,.string cid,.int .i64 ct,.int .i64 cv,.int .i64 ch,.int .i64 mn,.int .i64 mx,.int .i64 tg,.int .i64 tol,.int .i64 win,.int .i64 hold]] W fun e w'=>∃x',e=.returned (.tuple #[.agg #[.int .i64 c.st,.int .i64 c.sa,.int .i64 c.lo,.int .i64 c.hi,.slice x'.sA x'.st.length x'.sc,.slice x'.cA x'.cuts.length x'.cc,.int .i64 x'.ep,.bool x'.over],.agg #[.int .i64 rp.err,.int .i64 rp.ep,.int .i64 rp.hd,.int .i64 rp.st.cnt,.int .i64 rp.st.sum,.int .i64 rp.st.least,.int .i64 rp.st.most,.int .i64 rp.st.mean,.int .i64 rp.adv.tick,.int .i64 rp.adv.load,.int .i64 rp.adv.want,.int .i64 rp.adv.repl,.int .i64 rp.adv.why]])∧WdIn (Out P w.heap.size W.heap.size) w' x'∧absW x'=nw∧jB W w' from CD.out W hW)
 clear hP hx hc hst hk hn he hr hsb HEQ CD
 go_enter Tryz.func73,Tryz.ntmps73
 go_upto_region 1 with fail
 refine name_world ?_;intro W1 hW1;obtain ⟨k0,k1,k2,hb⟩:=three_boxes35 w _ _ _ W1 hW1;clear hW1;have HX1:=jH (show W1.heap[w.heap.size]?=some (.cells #[.int .i64 c.st,.int .i64 c.sa,.int .i64 c.lo,.int .i64 c.hi,.slice x.sA x.st.length x.sc,.slice x.cA x.cuts.length x.cc,.int .i64 x.ep,.bool x.over] 32 (0,0)) from k0);have HE1:=jH (show W1.heap[w.heap.size+1]?=some (.cells #[.int .i64 2,.int .i64 task,.int .i64 nth,.int .i64 ck,.string cid,.int .i64 ct,.int .i64 cv,.int .i64 ch,.int .i64 mn,.int .i64 mx,.int .i64 tg,.int .i64 tol,.int .i64 win,.int .i64 hold,.int .i64 err,.int .i64 epoch,.int .i64 handle,.int .i64 cnt,.int .i64 sum,.int .i64 least,.int .i64 most,.int .i64 mean,.int .i64 atick,.int .i64 aload,.int .i64 awant,.int .i64 arepl,.int .i64 awhy,.int .u64 (hi:Nat),.int .u64 (lo:Nat),.int .i64 ntick,.int .i64 nload,.int .i64 nwant,.int .i64 nrepl,.int .i64 nwhy] 137 (0,0)) from k1)
 have HR1:=jH (show W1.heap[w.heap.size+1+1]?=some (.cells #[.int .i64 0,.int .i64 0,.int .i64 0,.int .i64 0,.slice none 0 0,.slice none 0 0,.int .i64 0,.bool false] 32 (0,0)) from k2);have HB1:=jH hb;have HT1:=jH (show w.heap.size+1+1<W1.heap.size from (jL k2));obtain ⟨b1,b2,b3⟩:=box_cells jR HX1.out;obtain ⟨c1,c2,c3⟩:=box_cells jR HE1.out;clear k0 k1 k2 hb
 go_upto_region 3 with (first
  | (go_at_call 47
     refine (CD9.out W1 HB1.out).mono ?_;rintro e w2 ⟨x',rfl,hw,ha,hb⟩;have HW2:=jH hw;have HA2:=jH ha;have HB2:=jH hb;clear hw ha hb b1 b2 b3 c1 c2 c3))
 refine name_world ?_;intro W3 hW3;have hd3:jB w2 W3:=by rw [hW3];exact balloc (balloc jR _) _
 have HB13:=jH (bthen HB2.out hd3);have HO3:=jH (show W3.heap[w2.heap.size]?=some (.cells #[.int .i64 c.st,.int .i64 c.sa,.int .i64 c.lo,.int .i64 c.hi,.slice x'.sA x'.st.length x'.sc,.slice x'.cA x'.cuts.length x'.cc,.int .i64 x'.ep,.bool x'.over] 32 (0,0)) by rw [hW3];exact box_old _ _ _);have HQ3:=jH (show W3.heap[w2.heap.size+1]?=some (.cells #[.int .i64 rp.err,.int .i64 rp.ep,.int .i64 rp.hd,.int .i64 rp.st.cnt,.int .i64 rp.st.sum,.int .i64 rp.st.least,.int .i64 rp.st.most,.int .i64 rp.st.mean,.int .i64 rp.adv.tick,.int .i64 rp.adv.load,.int .i64 rp.adv.want,.int .i64 rp.adv.repl,.int .i64 rp.adv.why] 76 (0,0)) by rw [hW3];exact box_new _ _ _)
 have HE3:=jH (jK HB13.out HE1.out);have HRX:=jH (jK HB13.out HR1.out);have HW3:=jH (HW2.out.below hd3);have HB3:=jH (HB1.out.trans (HB13.out.mono (HB1.out.size)));clear hW3 hd3;have hne1:¬w2.heap.size=w.heap.size+1+1:=by have:=HT1.out;have:=HB2.out.size;omega
 have hne2:¬w2.heap.size+1=w.heap.size+1+1:=by have:=HT1.out;have:=HB2.out.size;omega
 have hne3:¬w.heap.size+1+1=w2.heap.size:=fun h=>hne1 h.symm
 have hne4:¬w.heap.size+1+1=w2.heap.size+1:=fun h=>hne2 h.symm
 have hdr:jB W3 W3.drew:=jR.drew;have HRX9:=jH (jK hdr HRX.out);obtain ⟨g1,g2,g3⟩:=box_cells jR HRX9.out;obtain ⟨m1,m2,m3⟩:=box_cells jR HRX.out;obtain ⟨o1,o2,o3⟩:=box_cells hdr HO3.out;obtain ⟨o4,o5,o6⟩:=box_cells jR HO3.out;obtain ⟨s1,s2,s3⟩:=box_cells hdr HQ3.out;obtain ⟨s4,s5,s6⟩:=box_cells jR HQ3.out;obtain ⟨e1,e2,e3⟩:=box_cells hdr HE3.out;obtain ⟨e4,e5,e6⟩:=box_cells jR HE3.out;clear hdr
 go_region
 all_goals
   refine then_named ?_;intro W9 hW9;have hW9':W9=(stor W3 (w.heap.size+1+1) 0 [.int .i64 c.st,.int .i64 c.sa,.int .i64 c.lo,.int .i64 c.hi,.slice x'.sA x'.st.length x'.sc,.slice x'.cA x'.cuts.length x'.cc,.int .i64 x'.ep,.bool x'.over]).drew:=hW9;obtain ⟨U,hU⟩:∃U,U=stor W3 (w.heap.size+1+1) 0 [.int .i64 c.st,.int .i64 c.sa,.int .i64 c.lo,.int .i64 c.hi,.slice x'.sA x'.st.length x'.sc,.slice x'.cA x'.cuts.length x'.cc,.int .i64 x'.ep,.bool x'.over]:=⟨_,rfl⟩
   rw [←hU] at hW9';obtain ⟨t1,t2,t3,t4⟩:=stor_at HRX.out [.int .i64 c.st,.int .i64 c.sa,.int .i64 c.lo,.int .i64 c.hi,.slice x'.sA x'.st.length x'.sc,.slice x'.cA x'.cuts.length x'.cc,.int .i64 x'.ep,.bool x'.over] rfl U hU;have hd9:jB U W9:=by rw [hW9'];exact jR.drew
   obtain ⟨a9,a8,a7⟩:=box_cells hd9 t1;have HEND:=jH (noteSays_below (refAp_end (c:=c) (r:=(nw,sb)) HW3.out HA2.out HB3.out (by omega) HT1.out t2 t3 t4) hd9);unfold wdC at HEND;clear hW9 hW9' hU t1 t2 t3 t4 hd9 g1 g2 g3 m1 m2 m3 o1 o2 o3 o4 o5 o6 s1 s2 s3 s4 s5 s6 e1 e2 e3 e4 e5 e6;go_wp2_with fail
   exact bodyPost_ret (v:=.tuple #[.agg #[.int .i64 c.st,.int .i64 c.sa,.int .i64 c.lo,.int .i64 c.hi,.slice x'.sA x'.st.length x'.sc,.slice x'.cA x'.cuts.length x'.cc,.int .i64 x'.ep,.bool x'.over],.bool sb]) (by simp [results,Tryz.results73,go_sem,a9]) rfl HEND.out
theorem refAp_6s (hP:∀b,w.heap.size≤b→P b) (hx:WdIn P w x) (hc:RoomOk c rs rh) (hst:okSt c.st=true) (hk:WdOk c rs rh n (absW x)) (hn:n≤100000) (e:EvtD) (he:e.ok) (hk2:e.kind=6) (id:ByteArray) (hid:keyId e.hi e.lo=some id) :
 Calls Tryz.prog 73 #[.agg (wdC c x).toArray,evV e] w (NoteSays P w c (applyE c rs rh (absW x) e)):=by
 rw [applyE_6s hk2 hid];have hik:=keyId_is hid;have hm:id.size≤maxLen:=idS_max (show idS id=true from hik.1);have hne:=id_ne hik;have CU:=jH (fun W=>rid_yes e.hi e.lo id W he.hi he.lo hik);have CN:=jH (fun W (hW:jB w W) (W2:World) (hW2:jB W W2)=>note21_any (Out P w.heap.size W.heap.size) c rs rh n x id e.adv' W2 (fun b hb=>out_new hP hW.size b (Nat.le_trans hW2.size hb)) ((hx.out hW).below hW2) hc hst hk hn hm)
 have HAB:=jH (rfl:absW x=absW x);obtain ⟨r,hr⟩:∃r,r=noteW c rs rh (absW x) id e.adv':=⟨_,rfl⟩;rw [←hr] at CN ⊢;obtain ⟨kind,task,nth,⟨ck,cid,ct,cv,ch,⟨mn,mx,tg,tol,win,hold⟩⟩,err,epoch,handle,cnt,sum,least,most,mean,atick,aload,awant,arepl,awhy,hi,lo,ntick,nload,nwant,nrepl,nwhy⟩:=e;dsimp only at hk2;subst hk2;obtain ⟨nw,nb⟩:=r;unfold EvtD.adv' advC at CN;unfold keyV at CU;unfold evV;unfold wdC at CN ⊢
 dsimp only at CN CU ⊢;have CN9:=jH (fun W (hW:jB w W) (W2:World) (hW2:jB W W2)=>show Calls Tryz.prog 46 #[.agg #[.int .i64 c.st,.int .i64 c.sa,.int .i64 c.lo,.int .i64 c.hi,.slice x.sA x.st.length x.sc,.slice x.cA x.cuts.length x.cc,.int .i64 x.ep,.bool x.over],.string id,.agg #[.int .i64 ntick,.int .i64 nload,.int .i64 nwant,.int .i64 nrepl,.int .i64 nwhy]] W2 fun e w'=>∃x',e=.returned (.tuple #[.agg #[.int .i64 c.st,.int .i64 c.sa,.int .i64 c.lo,.int .i64 c.hi,.slice x'.sA x'.st.length x'.sc,.slice x'.cA x'.cuts.length x'.cc,.int .i64 x'.ep,.bool x'.over],.bool nb])∧WdIn (Out P w.heap.size W.heap.size) w' x'∧absW x'=nw∧jB W2 w' from CN.out W hW W2 hW2)
 clear hP hx hc hst hk hn he hr hik hm hid HAB CN
 go_enter Tryz.func73,Tryz.ntmps73
 go_upto_region 1 with fail
 refine name_world ?_;intro W1 hW1;obtain ⟨k0,k1,k2,hb⟩:=three_boxes35 w _ _ _ W1 hW1;clear hW1;have HX1:=jH (show W1.heap[w.heap.size]?=some (.cells #[.int .i64 c.st,.int .i64 c.sa,.int .i64 c.lo,.int .i64 c.hi,.slice x.sA x.st.length x.sc,.slice x.cA x.cuts.length x.cc,.int .i64 x.ep,.bool x.over] 32 (0,0)) from k0);have HE1:=jH (show W1.heap[w.heap.size+1]?=some (.cells #[.int .i64 6,.int .i64 task,.int .i64 nth,.int .i64 ck,.string cid,.int .i64 ct,.int .i64 cv,.int .i64 ch,.int .i64 mn,.int .i64 mx,.int .i64 tg,.int .i64 tol,.int .i64 win,.int .i64 hold,.int .i64 err,.int .i64 epoch,.int .i64 handle,.int .i64 cnt,.int .i64 sum,.int .i64 least,.int .i64 most,.int .i64 mean,.int .i64 atick,.int .i64 aload,.int .i64 awant,.int .i64 arepl,.int .i64 awhy,.int .u64 (hi:Nat),.int .u64 (lo:Nat),.int .i64 ntick,.int .i64 nload,.int .i64 nwant,.int .i64 nrepl,.int .i64 nwhy] 137 (0,0)) from k1)
 have HR1:=jH (show W1.heap[w.heap.size+1+1]?=some (.cells #[.int .i64 0,.int .i64 0,.int .i64 0,.int .i64 0,.slice none 0 0,.slice none 0 0,.int .i64 0,.bool false] 32 (0,0)) from k2);have HB1:=jH hb;have HT1:=jH (show w.heap.size+1+1<W1.heap.size from (jL k2));obtain ⟨b1,b2,b3⟩:=box_cells jR HX1.out;obtain ⟨c1,c2,c3⟩:=box_cells jR HE1.out;clear k0 k1 k2 hb
 go_upto_region 9 with (first
  | (go_at_call 110
     refine (CU.out W1).mono ?_;rintro e w2 ⟨rfl,hb⟩;have HB2:=jH hb;have HX2:=jH (jK hb HX1.out);have HE2:=jH (jK hb HE1.out);clear hb b1 b2 b3 c1 c2 c3;obtain ⟨b1,b2,b3⟩:=box_cells jR HX2.out;obtain ⟨c1,c2,c3⟩:=box_cells jR HE2.out)
  | (go_at_call 46
     refine (CN9.out W1 HB1.out w2 HB2.out).mono ?_;rintro e w4 ⟨x',rfl,hw,ha,hb⟩;have HW4:=jH hw;have HA4:=jH ha;have HB4:=jH (bthen HB2.out hb);clear hw ha hb b1 b2 b3 c1 c2 c3))
 refine name_world ?_;intro W5 hW5;have hd5:jB w4 W5:=by rw [hW5];exact balloc jR _
 have HB15:=jH (bthen HB4.out hd5);have HO5:=jH (show W5.heap[w4.heap.size]?=some (.cells #[.int .i64 c.st,.int .i64 c.sa,.int .i64 c.lo,.int .i64 c.hi,.slice x'.sA x'.st.length x'.sc,.slice x'.cA x'.cuts.length x'.cc,.int .i64 x'.ep,.bool x'.over] 32 (0,0)) by rw [hW5];exact heap_alloc_new _ _);have HRX:=jH (jK HB15.out HR1.out);have HW5:=jH (HW4.out.below hd5);have HB5:=jH (HB1.out.trans (HB15.out.mono (HB1.out.size)))
 clear hW5 hd5;obtain ⟨g1,g2,g3⟩:=box_cells jR HRX.out;obtain ⟨d1,d2,d3⟩:=box_cells jR HO5.out;go_wp2_with fail
 refine post_named ?_;intro W9 hW9;have hW9':W9=stor W5 (w.heap.size+1+1) 0 [.int .i64 c.st,.int .i64 c.sa,.int .i64 c.lo,.int .i64 c.hi,.slice x'.sA x'.st.length x'.sc,.slice x'.cA x'.cuts.length x'.cc,.int .i64 x'.ep,.bool x'.over]:=hW9;obtain ⟨t1,t2,t3,t4⟩:=stor_at HRX.out [.int .i64 c.st,.int .i64 c.sa,.int .i64 c.lo,.int .i64 c.hi,.slice x'.sA x'.st.length x'.sc,.slice x'.cA x'.cuts.length x'.cc,.int .i64 x'.ep,.bool x'.over] rfl W9 hW9'
 obtain ⟨a9,a8,a7⟩:=box_cells jR t1;have HEND:=jH (refAp_end (c:=c) (r:=(nw,nb)) HW5.out HA4.out HB5.out (by omega) HT1.out t2 t3 t4);unfold wdC at HEND;clear hW9 hW9' t1 t2 t3 t4;exact bodyPost_ret (v:=.tuple #[.agg #[.int .i64 c.st,.int .i64 c.sa,.int .i64 c.lo,.int .i64 c.hi,.slice x'.sA x'.st.length x'.sc,.slice x'.cA x'.cuts.length x'.cc,.int .i64 x'.ep,.bool x'.over],.bool nb]) (by simp [results,Tryz.results73,go_sem,a9]) rfl HEND.out
theorem refAp_6n (hP:∀b,w.heap.size≤b→P b) (hx:WdIn P w x) (hc:RoomOk c rs rh) (hst:okSt c.st=true) (hk:WdOk c rs rh n (absW x)) (hn:n≤100000) (e:EvtD) (he:e.ok) (hk2:e.kind=6) (hid:∀l,¬IsKey e.hi e.lo l) :
 Calls Tryz.prog 73 #[.agg (wdC c x).toArray,evV e] w (NoteSays P w c (applyE c rs rh (absW x) e)):=by
 rw [applyE_6n hk2 (keyId_no hid)];have CU:=jH (fun W=>rid_no e.hi e.lo W he.hi he.lo hid);have HO:=jH (fun W (hW:jB w W)=>hx.out hW);obtain ⟨kind,task,nth,⟨ck,cid,ct,cv,ch,⟨mn,mx,tg,tol,win,hold⟩⟩,err,epoch,handle,cnt,sum,least,most,mean,atick,aload,awant,arepl,awhy,hi,lo,ntick,nload,nwant,nrepl,nwhy⟩:=e;dsimp only at hk2;subst hk2;unfold keyV at CU;unfold evV;unfold wdC;dsimp only at CU ⊢;obtain ⟨nw,hnw⟩:∃r,r=absW x:=⟨_,rfl⟩
 have HNW:=jH hnw.symm;rw [←hnw];clear hP hx hc hst hk hn he hid hnw
 go_enter Tryz.func73,Tryz.ntmps73
 go_upto_region 1 with fail
 refine name_world ?_;intro W1 hW1;obtain ⟨k0,k1,k2,hb⟩:=three_boxes35 w _ _ _ W1 hW1;clear hW1;have HX1:=jH (show W1.heap[w.heap.size]?=some (.cells #[.int .i64 c.st,.int .i64 c.sa,.int .i64 c.lo,.int .i64 c.hi,.slice x.sA x.st.length x.sc,.slice x.cA x.cuts.length x.cc,.int .i64 x.ep,.bool x.over] 32 (0,0)) from k0);have HE1:=jH (show W1.heap[w.heap.size+1]?=some (.cells #[.int .i64 6,.int .i64 task,.int .i64 nth,.int .i64 ck,.string cid,.int .i64 ct,.int .i64 cv,.int .i64 ch,.int .i64 mn,.int .i64 mx,.int .i64 tg,.int .i64 tol,.int .i64 win,.int .i64 hold,.int .i64 err,.int .i64 epoch,.int .i64 handle,.int .i64 cnt,.int .i64 sum,.int .i64 least,.int .i64 most,.int .i64 mean,.int .i64 atick,.int .i64 aload,.int .i64 awant,.int .i64 arepl,.int .i64 awhy,.int .u64 (hi:Nat),.int .u64 (lo:Nat),.int .i64 ntick,.int .i64 nload,.int .i64 nwant,.int .i64 nrepl,.int .i64 nwhy] 137 (0,0)) from k1)
 have HR1:=jH (show W1.heap[w.heap.size+1+1]?=some (.cells #[.int .i64 0,.int .i64 0,.int .i64 0,.int .i64 0,.slice none 0 0,.slice none 0 0,.int .i64 0,.bool false] 32 (0,0)) from k2);have HB1:=jH hb;have HT1:=jH (show w.heap.size+1+1<W1.heap.size from (jL k2));obtain ⟨b1,b2,b3⟩:=box_cells jR HX1.out;obtain ⟨c1,c2,c3⟩:=box_cells jR HE1.out;clear k0 k1 k2 hb
 go_wp2_with (first
  | (go_at_call 110
     refine (CU.out W1).mono ?_;rintro e w2 ⟨rfl,hb⟩;have HB2:=jH (HB1.out.trans (hb.mono HB1.out.size));have HX2:=jH (jK hb HX1.out);have HRX:=jH (jK hb HR1.out);have HW2:=jH ((HO.out W1 HB1.out).below hb);clear hb b1 b2 b3 c1 c2 c3;obtain ⟨b1,b2,b3⟩:=box_cells jR HX2.out;obtain ⟨g1,g2,g3⟩:=box_cells jR HRX.out))
 refine post_named ?_;intro W9 hW9;have hW9':W9=stor w2 (w.heap.size+1+1) 0 [.int .i64 c.st,.int .i64 c.sa,.int .i64 c.lo,.int .i64 c.hi,.slice x.sA x.st.length x.sc,.slice x.cA x.cuts.length x.cc,.int .i64 x.ep,.bool x.over]:=hW9;obtain ⟨t1,t2,t3,t4⟩:=stor_at HRX.out [.int .i64 c.st,.int .i64 c.sa,.int .i64 c.lo,.int .i64 c.hi,.slice x.sA x.st.length x.sc,.slice x.cA x.cuts.length x.cc,.int .i64 x.ep,.bool x.over] rfl W9 hW9'
 obtain ⟨a9,a8,a7⟩:=box_cells jR t1;have HEND:=jH (refAp_end (c:=c) (r:=(nw,false)) HW2.out HNW.out HB2.out (by omega) HT1.out t2 t3 t4);unfold wdC at HEND;clear hW9 hW9' t1 t2 t3 t4;exact bodyPost_ret (v:=.tuple #[.agg #[.int .i64 c.st,.int .i64 c.sa,.int .i64 c.lo,.int .i64 c.hi,.slice x.sA x.st.length x.sc,.slice x.cA x.cuts.length x.cc,.int .i64 x.ep,.bool x.over],.bool false]) (by simp [results,Tryz.results73,go_sem,a9]) rfl HEND.out
theorem refAp_no (hP:∀b,w.heap.size≤b→P b) (hx:WdIn P w x) (hc:RoomOk c rs rh) (hst:okSt c.st=true) (hk:WdOk c rs rh n (absW x)) (hn:n≤100000) (e:EvtD) (he:e.ok) (h2:e.kind≠2) (h6:e.kind≠6) :
 Calls Tryz.prog 73 #[.agg (wdC c x).toArray,evV e] w (NoteSays P w c (applyE c rs rh (absW x) e)):=by
 rw [applyE_no h2 h6];have HO:=jH (fun W (hW:jB w W)=>hx.out hW);obtain ⟨kind,task,nth,⟨ck,cid,ct,cv,ch,⟨mn,mx,tg,tol,win,hold⟩⟩,err,epoch,handle,cnt,sum,least,most,mean,atick,aload,awant,arepl,awhy,hi,lo,ntick,nload,nwant,nrepl,nwhy⟩:=e;unfold evV;unfold wdC;dsimp only at h2 h6 ⊢;have z2:(kind == 2)=false:=by simpa using h2
 have z6:(kind == 6)=false:=by simpa using h6
 obtain ⟨nw,hnw⟩:∃r,r=absW x:=⟨_,rfl⟩;have HNW:=jH hnw.symm;rw [←hnw];clear hP hx hc hst hk hn he h2 h6 hnw
 go_enter Tryz.func73,Tryz.ntmps73
 go_upto_region 1 with fail
 refine name_world ?_;intro W1 hW1;obtain ⟨k0,k1,k2,hb⟩:=three_boxes35 w _ _ _ W1 hW1;clear hW1;have HX1:=jH (show W1.heap[w.heap.size]?=some (.cells #[.int .i64 c.st,.int .i64 c.sa,.int .i64 c.lo,.int .i64 c.hi,.slice x.sA x.st.length x.sc,.slice x.cA x.cuts.length x.cc,.int .i64 x.ep,.bool x.over] 32 (0,0)) from k0);have HE1:=jH (show W1.heap[w.heap.size+1]?=some (.cells #[.int .i64 kind,.int .i64 task,.int .i64 nth,.int .i64 ck,.string cid,.int .i64 ct,.int .i64 cv,.int .i64 ch,.int .i64 mn,.int .i64 mx,.int .i64 tg,.int .i64 tol,.int .i64 win,.int .i64 hold,.int .i64 err,.int .i64 epoch,.int .i64 handle,.int .i64 cnt,.int .i64 sum,.int .i64 least,.int .i64 most,.int .i64 mean,.int .i64 atick,.int .i64 aload,.int .i64 awant,.int .i64 arepl,.int .i64 awhy,.int .u64 (hi:Nat),.int .u64 (lo:Nat),.int .i64 ntick,.int .i64 nload,.int .i64 nwant,.int .i64 nrepl,.int .i64 nwhy] 137 (0,0)) from k1)
 have HR1:=jH (show W1.heap[w.heap.size+1+1]?=some (.cells #[.int .i64 0,.int .i64 0,.int .i64 0,.int .i64 0,.slice none 0 0,.slice none 0 0,.int .i64 0,.bool false] 32 (0,0)) from k2);have HB1:=jH hb;have HT1:=jH (show w.heap.size+1+1<W1.heap.size from (jL k2));obtain ⟨b1,b2,b3⟩:=box_cells jR HX1.out;obtain ⟨c1,c2,c3⟩:=box_cells jR HE1.out;clear k0 k1 k2 hb;have HW1:=jH (HO.out W1 HB1.out);have HRX:=HR1
 obtain ⟨g1,g2,g3⟩:=box_cells jR HRX.out;go_wp2_with fail
 refine post_named ?_;intro W9 hW9;have hW9':W9=stor W1 (w.heap.size+1+1) 0 [.int .i64 c.st,.int .i64 c.sa,.int .i64 c.lo,.int .i64 c.hi,.slice x.sA x.st.length x.sc,.slice x.cA x.cuts.length x.cc,.int .i64 x.ep,.bool x.over]:=hW9;obtain ⟨t1,t2,t3,t4⟩:=stor_at HRX.out [.int .i64 c.st,.int .i64 c.sa,.int .i64 c.lo,.int .i64 c.hi,.slice x.sA x.st.length x.sc,.slice x.cA x.cuts.length x.cc,.int .i64 x.ep,.bool x.over] rfl W9 hW9'
 obtain ⟨a9,a8,a7⟩:=box_cells jR t1;have HEND:=jH (refAp_end (c:=c) (r:=(nw,true)) HW1.out HNW.out HB1.out (by omega) HT1.out t2 t3 t4);unfold wdC at HEND;clear hW9 hW9' t1 t2 t3 t4;exact bodyPost_ret (v:=.tuple #[.agg #[.int .i64 c.st,.int .i64 c.sa,.int .i64 c.lo,.int .i64 c.hi,.slice x.sA x.st.length x.sc,.slice x.cA x.cuts.length x.cc,.int .i64 x.ep,.bool x.over],.bool true]) (by simp [results,Tryz.results73,go_sem,a9]) rfl HEND.out
theorem refAp_any (hP:∀b,w.heap.size≤b→P b) (hx:WdIn P w x) (hc:RoomOk c rs rh) (hst:okSt c.st=true) (hk:WdOk c rs rh n (absW x)) (hn:n≤100000) (e:EvtD) (he:e.ok) :
 Calls Tryz.prog 73 #[.agg (wdC c x).toArray,evV e] w (NoteSays P w c (applyE c rs rh (absW x) e)):=by
 by_cases h2:e.kind=2
 · exact refAp_2 hP hx hc hst hk hn e he h2
 · by_cases h6:e.kind=6
   · cases hq:keyId e.hi e.lo with
     | some id=>exact refAp_6s hP hx hc hst hk hn e he h6 id hq
     | none=>exact refAp_6n hP hx hc hst hk hn e he h6 (keyId_none hq)
   · exact refAp_no hP hx hc hst hk hn e he h2 h6
end
end
end Go.Proofs.YtkcdhaallnhhmaaGreat
