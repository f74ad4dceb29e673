/- Part 49 of the proof: W21L. -/
import Derived.Test.YtkcdhaallnhhmaaGreatQ41
import Derived.Test.YtkcdhaallnhhmaaGreatQ46
import Derived.Test.YtkcdhaallnhhmaaGreatQ48
namespace Go.Proofs.YtkcdhaallnhhmaaGreat
set_option linter.unusedSimpArgs false
set_option linter.unusedVariables false
set_option linter.unusedSectionVars false
set_option maxRecDepth 100000
set_option maxHeartbeats 16000000
section
open Go.RowKit Go.Lib
theorem four_boxes (w:World) (a b c d:Obj):∀W,W=(((w.alloc a).alloc b).alloc c).alloc d→W.heap[w.heap.size]?=some a∧W.heap[w.heap.size+1]?=some b∧W.heap[w.heap.size+1+1]?=some c∧W.heap[w.heap.size+1+1+1]?=some d∧jB w W:=by
 rintro W rfl;refine ⟨(Below.heap_alloc _ _ _ (by simp;omega)).trans (box3_0 w a b c),(Below.heap_alloc _ _ _ (by simp)).trans (box3_1 w a b c),(Below.heap_alloc _ _ _ (by simp)).trans (box3_2 w a b c),?_,balloc (balloc (balloc (balloc jR _) _) _) _⟩;have h:=heap_alloc_new (((w.alloc a).alloc b).alloc c) d
 simpa using h
theorem do21_bad (P:Nat→Prop) (c:Cfg) (rs rh n:Nat) (x:WdH) (kind:Int) (id:ByteArray) (tick val handle:Int) (p:Pol) (w:World) (hP:∀b,w.heap.size≤b→P b) (hx:WdIn P w x) (hc:RoomOk c rs rh) (hst:okSt c.st=true) (hk:WdOk c rs rh n (absW x)) (hn:n≤100000) (hd:CallD.ok ⟨kind,id,tick,val,handle,p⟩) (hck:chkC ⟨kind,id,tick,val,handle,p⟩≠0) :
 Calls Tryz.prog 47 #[.agg (wdC c x).toArray,callV ⟨kind,id,tick,val,handle,p⟩] w (RepSays P w c (doW c rs rh (absW x) ⟨kind,id,tick,val,handle,p⟩)):=by
 obtain ⟨r,hr⟩:∃r,r=doW c rs rh (absW x) ⟨kind,id,tick,val,handle,p⟩:=⟨_,rfl⟩;rw [←hr];unfold doW at hr;rw [if_pos hck] at hr;have CC:=jH (fun W=>ref21Check_any ⟨kind,id,tick,val,handle,p⟩ W hd);obtain ⟨ef,hef⟩:∃ef,ef=chkC ⟨kind,id,tick,val,handle,p⟩:=⟨_,rfl⟩;rw [←hef] at CC hr hck;have z0:(ef == 0)=false:=by simpa using hck
 have z0c:(ef != 0)=true:=by simpa using hck
 have HX:=jH hx;have HRR:=jH hr;obtain ⟨sA,sc,st,cA,cc,cuts,ep,over⟩:=x;unfold callV at CC ⊢;unfold wdC;dsimp only at CC ⊢;clear hP hx hc hst hk hn hd hck hr hef
 go_enter Tryz.func47,Tryz.ntmps47
 go_upto_region 1 with fail
 refine name_world ?_;intro W1 hW1;obtain ⟨k0,k1,k2,k3,hb⟩:=four_boxes w _ _ _ _ W1 hW1;clear hW1;have HX1:=jH k0;have HC1:=jH k1;have HA1:=jH k2;have HR1:=jH k3;have HB1:=jH hb;obtain ⟨y1,y2,y3⟩:=box_cells jR HC1.out;clear k0 k1 k2 k3 hb;go_wp2_with fail
 refine (CC.out W1).mono ?_;rintro e w2 ⟨rfl,hb2⟩;have HX2:=jH (jK hb2 HX1.out);have HC2:=jH (jK hb2 HC1.out);have HA2:=jH (jK hb2 HA1.out);have HR2:=jH (jK hb2 HR1.out);have HB2:=jH (bthen HB1.out hb2);obtain ⟨b1,b2,b3⟩:=box_cells jR HX2.out;obtain ⟨c1,c2,c3⟩:=box_cells jR HC2.out;obtain ⟨d1,d2,d3⟩:=box_cells jR HA2.out;obtain ⟨g1,g2,g3⟩:=box_cells jR HR2.out;clear hb2 y1 y2 y3;go_simp;go_wp2_with fail
 refine post_named ?_;intro W9 hW9;obtain ⟨V,hV⟩:∃V,V=stor (stor w2 (w.heap.size+1+1) 0 [.int .i64 c.st,.int .i64 c.sa,.int .i64 c.lo,.int .i64 c.hi,.slice sA st.length sc,.slice cA cuts.length cc,.int .i64 ep,.bool over]) (w.heap.size+1+1+1) 0 [.int .i64 ef,.int .i64 0,.int .i64 0,.int .i64 0,.int .i64 0,.int .i64 0,.int .i64 0,.int .i64 0,.int .i64 0,.int .i64 0,.int .i64 0,.int .i64 0,.int .i64 0]:=⟨_,rfl⟩
 have hW9':W9=stor (stor w2 (w.heap.size+1+1) 0 [.int .i64 c.st,.int .i64 c.sa,.int .i64 c.lo,.int .i64 c.hi,.slice sA st.length sc,.slice cA cuts.length cc,.int .i64 ep,.bool over]) (w.heap.size+1+1+1) 0 [.int .i64 ef,.int .i64 0,.int .i64 0,.int .i64 0,.int .i64 0,.int .i64 0,.int .i64 0,.int .i64 0,.int .i64 0,.int .i64 0,.int .i64 0,.int .i64 0,.int .i64 0]:=hW9;rw [←hV] at hW9';have hd9:jB V W9:=by rw [hW9'];exact jR
 obtain ⟨S,hS⟩:∃S,S=stor w2 (w.heap.size+1+1) 0 [.int .i64 c.st,.int .i64 c.sa,.int .i64 c.lo,.int .i64 c.hi,.slice sA st.length sc,.slice cA cuts.length cc,.int .i64 ep,.bool over]:=⟨_,rfl⟩;rw [←hS] at hV;obtain ⟨s1,s2,s3,s4⟩:=stor_at HA2.out [.int .i64 c.st,.int .i64 c.sa,.int .i64 c.lo,.int .i64 c.hi,.slice sA st.length sc,.slice cA cuts.length cc,.int .i64 ep,.bool over] rfl S hS;have hr9:=(s2 (w.heap.size+1+1+1) (by omega)).trans HR2.out
 obtain ⟨t1,t2,t3,t4⟩:=stor_at hr9 [.int .i64 ef,.int .i64 0,.int .i64 0,.int .i64 0,.int .i64 0,.int .i64 0,.int .i64 0,.int .i64 0,.int .i64 0,.int .i64 0,.int .i64 0,.int .i64 0,.int .i64 0] rfl V hV;have hs1:=(t2 (w.heap.size+1+1) (by omega)).trans s1;obtain ⟨a9,a8,a7⟩:=box_cells hd9 hs1;obtain ⟨g9,g8,g7⟩:=box_cells hd9 t1;have hk9:∀b,b≠w.heap.size+1+1→b≠w.heap.size+1+1+1→b<w2.heap.size→W9.heap[b]?=w2.heap[b]?:=fun b q1 q2 q3=>(hd9.block b (by rw [t3,s3];exact q3)).trans ((t2 b q2).trans (s2 b q1))
 have hz9:w2.heap.size≤W9.heap.size:=by have:=hd9.size;omega
 have hBV:Below w.heap.size w2 V:=(s4 _ (by omega)).trans (t4 _ (by omega));clear hW9 hW9' hS hV;have hb9:=bthen (HB2.out.trans hBV) hd9;refine bodyPost_ret (v:=.tuple #[.agg #[.int .i64 c.st,.int .i64 c.sa,.int .i64 c.lo,.int .i64 c.hi,.slice sA st.length sc,.slice cA cuts.length cc,.int .i64 ep,.bool over],.agg #[.int .i64 ef,.int .i64 0,.int .i64 0,.int .i64 0,.int .i64 0,.int .i64 0,.int .i64 0,.int .i64 0,.int .i64 0,.int .i64 0,.int .i64 0,.int .i64 0,.int .i64 0]]) (by simp [results,Tryz.results47,go_sem,a9,g9]) rfl ?_
 exact ⟨⟨sA,sc,st,cA,cc,cuts,ep,over⟩,by rw [HRR.out];rfl,HX.out.below hb9,by rw [HRR.out],hb9⟩
theorem do21_1 (P:Nat→Prop) (c:Cfg) (rs rh n:Nat) (x:WdH) (id:ByteArray) (tick val handle:Int) (p:Pol) (w:World) (hP:∀b,w.heap.size≤b→P b) (hx:WdIn P w x) (hc:RoomOk c rs rh) (hst:okSt c.st=true) (hk:WdOk c rs rh n (absW x)) (hn:n≤100000) (hd:CallD.ok ⟨1,id,tick,val,handle,p⟩) (hck:chkC ⟨1,id,tick,val,handle,p⟩=0) :
 Calls Tryz.prog 47 #[.agg (wdC c x).toArray,callV ⟨1,id,tick,val,handle,p⟩] w (RepSays P w c (doW c rs rh (absW x) ⟨1,id,tick,val,handle,p⟩)):=by
 obtain ⟨r,hr⟩:∃r,r=doW c rs rh (absW x) ⟨1,id,tick,val,handle,p⟩:=⟨_,rfl⟩;rw [←hr];unfold doW at hr;rw [if_neg (by rw [hck];simp)] at hr;dsimp only at hr;rw [if_pos rfl] at hr;have CC:=jH (fun W=>ref21Check_any ⟨1,id,tick,val,handle,p⟩ W hd);rw [hck] at CC;have hst6:c.st≤64:=by have:=okSt_bd _ hst;omega
 have hmm:id.size≤maxLen:=hd.2.1;obtain ⟨q,hq⟩:∃q,q=oneW c rs rh (absW x) id ⟨0,(tick,val),pol0,adv0⟩:=⟨_,rfl⟩;rw [←hq] at hr;have CO:=jH (fun (W:World) (hW:jB w W)=>show Calls Tryz.prog 89 #[.agg (wdC c x).toArray,.string id,.agg #[.int .i64 0,.int .i64 tick,.int .i64 val,.int .i64 0,.int .i64 0,.int .i64 0,.int .i64 0,.int .i64 0,.int .i64 0,.int .i64 0,.int .i64 0,.int .i64 0,.int .i64 0,.int .i64 0]] W (OneSays (Out P w.heap.size W.heap.size) W c q) from by
  have h9:=one21_any (Out P w.heap.size W.heap.size) c rs rh n x id ⟨0,(tick,val),pol0,adv0⟩ W (out_new hP hW.size) (hx.out hW) hc hst hk hn hmm (show ¬(0:Int)<0 by decide) (show (0:Int)≠1 by decide) (show ¬3<(0:Int) by decide);rw [←hq] at h9;exact h9)
 have HX:=jH hx;have HRR:=jH hr;obtain ⟨sA,sc,st,cA,cc,cuts,ep,over⟩:=x;unfold callV at CC ⊢;unfold wdC at CO ⊢;dsimp only at CC CO ⊢;clear hP hx hc hst hk hn hd hck hr hq hst6 hmm
 go_enter Tryz.func47,Tryz.ntmps47
 go_upto_region 1 with fail
 refine name_world ?_;intro W1 hW1;obtain ⟨k0,k1,k2,k3,hb⟩:=four_boxes w _ _ _ _ W1 hW1;clear hW1;have HX1:=jH k0;have HC1:=jH k1;have HA1:=jH k2;have HR1:=jH k3;have HB1:=jH hb;obtain ⟨y1,y2,y3⟩:=box_cells jR HC1.out;clear k0 k1 k2 k3 hb;go_wp2_with fail
 refine (CC.out W1).mono ?_;rintro e w2 ⟨rfl,hb2⟩;have HX2:=jH (jK hb2 HX1.out);have HC2:=jH (jK hb2 HC1.out);have HA2:=jH (jK hb2 HA1.out);have HR2:=jH (jK hb2 HR1.out);have HB2:=jH (bthen HB1.out hb2);obtain ⟨b1,b2,b3⟩:=box_cells jR HX2.out;obtain ⟨c1,c2,c3⟩:=box_cells jR HC2.out;obtain ⟨d1,d2,d3⟩:=box_cells jR HA2.out;obtain ⟨g1,g2,g3⟩:=box_cells jR HR2.out;clear hb2 y1 y2 y3;go_simp;go_wp2_with fail
 refine calls_named ?_;intro W3 hW3;have hb3:jB w2 W3:=by rw [hW3];first|exact jR|exact balloc jR _|exact jR.drew
 clear hW3;refine (CO.out W3 (bthen HB2.out hb3)).mono ?_;rintro e w5 ⟨z,rfl,hz,habs,hb5⟩;have HZ:=jH hz;have HAB:=jH habs;have hq5:=bthen hb3 hb5;have HB5:=jH (bthen HB2.out hq5);have HA5:=jH (jK hq5 HA2.out);have HR5:=jH (jK hq5 HR2.out);have HLT:=jH (show w.heap.size+1+1+1<W3.heap.size from Nat.lt_of_lt_of_le (jL HR2.out) hb3.size);obtain ⟨e1,e2,e3⟩:=box_cells jR HA5.out;obtain ⟨f1,f2,f3⟩:=box_cells jR HR5.out
 clear hz habs hb3 hb5 hq5 b1 b2 b3 c1 c2 c3 d1 d2 d3 g1 g2 g3;unfold wdC;go_simp;go_wp2_with fail
 refine post_named ?_;intro W9 hW9;obtain ⟨V,hV⟩:∃V,V=stor (stor w5 (w.heap.size+1+1) 0 [.int .i64 c.st,.int .i64 c.sa,.int .i64 c.lo,.int .i64 c.hi,.slice z.sA z.st.length z.sc,.slice z.cA z.cuts.length z.cc,.int .i64 z.ep,.bool z.over]) (w.heap.size+1+1+1) 0 [.int .i64 q.2,.int .i64 0,.int .i64 0,.int .i64 0,.int .i64 0,.int .i64 0,.int .i64 0,.int .i64 0,.int .i64 0,.int .i64 0,.int .i64 0,.int .i64 0,.int .i64 0]:=⟨_,rfl⟩
 have hW9':W9=(stor (stor w5 (w.heap.size+1+1) 0 [.int .i64 c.st,.int .i64 c.sa,.int .i64 c.lo,.int .i64 c.hi,.slice z.sA z.st.length z.sc,.slice z.cA z.cuts.length z.cc,.int .i64 z.ep,.bool z.over]) (w.heap.size+1+1+1) 0 [.int .i64 q.2,.int .i64 0,.int .i64 0,.int .i64 0,.int .i64 0,.int .i64 0,.int .i64 0,.int .i64 0,.int .i64 0,.int .i64 0,.int .i64 0,.int .i64 0,.int .i64 0]).alloc (.cells #[.int .i64 c.st,.int .i64 c.sa,.int .i64 c.lo,.int .i64 c.hi,.slice z.sA z.st.length z.sc,.slice z.cA z.cuts.length z.cc,.int .i64 z.ep,.bool z.over] 32 (0,0)):=hW9
 rw [←hV] at hW9';have hd9:jB V W9:=by rw [hW9'];exact balloc jR _
 obtain ⟨S,hS⟩:∃S,S=stor w5 (w.heap.size+1+1) 0 [.int .i64 c.st,.int .i64 c.sa,.int .i64 c.lo,.int .i64 c.hi,.slice z.sA z.st.length z.sc,.slice z.cA z.cuts.length z.cc,.int .i64 z.ep,.bool z.over]:=⟨_,rfl⟩;rw [←hS] at hV;obtain ⟨s1,s2,s3,s4⟩:=stor_at HA5.out [.int .i64 c.st,.int .i64 c.sa,.int .i64 c.lo,.int .i64 c.hi,.slice z.sA z.st.length z.sc,.slice z.cA z.cuts.length z.cc,.int .i64 z.ep,.bool z.over] rfl S hS
 have hr9:=(s2 (w.heap.size+1+1+1) (by omega)).trans HR5.out;obtain ⟨t1,t2,t3,t4⟩:=stor_at hr9 [.int .i64 q.2,.int .i64 0,.int .i64 0,.int .i64 0,.int .i64 0,.int .i64 0,.int .i64 0,.int .i64 0,.int .i64 0,.int .i64 0,.int .i64 0,.int .i64 0,.int .i64 0] rfl V hV;have hs1:=(t2 (w.heap.size+1+1) (by omega)).trans s1;obtain ⟨a9,a8,a7⟩:=box_cells hd9 hs1;obtain ⟨g9,g8,g7⟩:=box_cells hd9 t1;have hk9:∀b,b≠w.heap.size+1+1→b≠w.heap.size+1+1+1→b<w5.heap.size→W9.heap[b]?=w5.heap[b]?:=fun b q1 q2 q3=>(hd9.block b (by rw [t3,s3];exact q3)).trans ((t2 b q2).trans (s2 b q1))
 have hz9:w5.heap.size≤W9.heap.size:=by have:=hd9.size;omega
 have hBV:Below w.heap.size w5 V:=(s4 _ (by omega)).trans (t4 _ (by omega));clear hW9 hW9' hS hV;have hb9:=bthen (HB5.out.trans hBV) hd9;refine bodyPost_ret (v:=.tuple #[.agg #[.int .i64 c.st,.int .i64 c.sa,.int .i64 c.lo,.int .i64 c.hi,.slice z.sA z.st.length z.sc,.slice z.cA z.cuts.length z.cc,.int .i64 z.ep,.bool z.over],.agg #[.int .i64 q.2,.int .i64 0,.int .i64 0,.int .i64 0,.int .i64 0,.int .i64 0,.int .i64 0,.int .i64 0,.int .i64 0,.int .i64 0,.int .i64 0,.int .i64 0,.int .i64 0]]) (by simp [results,Tryz.results47,go_sem,a9,g9]) rfl ?_
 have hlt:=HLT.out;exact ⟨z,by rw [HRR.out];rfl,HZ.out.home (by omega) (fun b hb hlt9=>hk9 b (by omega) (by omega) hlt9),by rw [HRR.out];exact HAB.out,hb9⟩
theorem do21_6 (P:Nat→Prop) (c:Cfg) (rs rh n:Nat) (x:WdH) (id:ByteArray) (tick val handle:Int) (p:Pol) (w:World) (hP:∀b,w.heap.size≤b→P b) (hx:WdIn P w x) (hc:RoomOk c rs rh) (hst:okSt c.st=true) (hk:WdOk c rs rh n (absW x)) (hn:n≤100000) (hd:CallD.ok ⟨6,id,tick,val,handle,p⟩) (hck:chkC ⟨6,id,tick,val,handle,p⟩=0) :
 Calls Tryz.prog 47 #[.agg (wdC c x).toArray,callV ⟨6,id,tick,val,handle,p⟩] w (RepSays P w c (doW c rs rh (absW x) ⟨6,id,tick,val,handle,p⟩)):=by
 obtain ⟨r,hr⟩:∃r,r=doW c rs rh (absW x) ⟨6,id,tick,val,handle,p⟩:=⟨_,rfl⟩;rw [←hr];unfold doW at hr;rw [if_neg (by rw [hck];simp)] at hr;dsimp only at hr;rw [if_neg (by decide)] at hr;rw [if_neg (by decide)] at hr;rw [if_neg (by decide)] at hr;rw [if_neg (by decide)] at hr;rw [if_neg (by decide)] at hr;rw [if_pos rfl] at hr;have CC:=jH (fun W=>ref21Check_any ⟨6,id,tick,val,handle,p⟩ W hd);rw [hck] at CC
 have hst6:c.st≤64:=by have:=okSt_bd _ hst;omega
 have hmm:id.size≤maxLen:=hd.2.1;obtain ⟨q,hq⟩:∃q,q=oneW c rs rh (absW x) id ⟨2,(0,0),p,adv0⟩:=⟨_,rfl⟩;rw [←hq] at hr;have CO:=jH (fun (W:World) (hW:jB w W)=>show Calls Tryz.prog 89 #[.agg (wdC c x).toArray,.string id,.agg #[.int .i64 2,.int .i64 0,.int .i64 0,.int .i64 p.mn,.int .i64 p.mx,.int .i64 p.tg,.int .i64 p.tol,.int .i64 p.win,.int .i64 p.hold,.int .i64 0,.int .i64 0,.int .i64 0,.int .i64 0,.int .i64 0]] W (OneSays (Out P w.heap.size W.heap.size) W c q) from by
  have h9:=one21_any (Out P w.heap.size W.heap.size) c rs rh n x id ⟨2,(0,0),p,adv0⟩ W (out_new hP hW.size) (hx.out hW) hc hst hk hn hmm (show ¬(2:Int)<0 by decide) (show (2:Int)≠1 by decide) (show ¬3<(2:Int) by decide);rw [←hq] at h9;exact h9)
 have HX:=jH hx;have HRR:=jH hr;obtain ⟨sA,sc,st,cA,cc,cuts,ep,over⟩:=x;unfold callV at CC ⊢;unfold wdC at CO ⊢;dsimp only at CC CO ⊢;clear hP hx hc hst hk hn hd hck hr hq hst6 hmm
 go_enter Tryz.func47,Tryz.ntmps47
 go_upto_region 1 with fail
 refine name_world ?_;intro W1 hW1;obtain ⟨k0,k1,k2,k3,hb⟩:=four_boxes w _ _ _ _ W1 hW1;clear hW1;have HX1:=jH k0;have HC1:=jH k1;have HA1:=jH k2;have HR1:=jH k3;have HB1:=jH hb;obtain ⟨y1,y2,y3⟩:=box_cells jR HC1.out;clear k0 k1 k2 k3 hb;go_wp2_with fail
 refine (CC.out W1).mono ?_;rintro e w2 ⟨rfl,hb2⟩;have HX2:=jH (jK hb2 HX1.out);have HC2:=jH (jK hb2 HC1.out);have HA2:=jH (jK hb2 HA1.out);have HR2:=jH (jK hb2 HR1.out);have HB2:=jH (bthen HB1.out hb2);obtain ⟨b1,b2,b3⟩:=box_cells jR HX2.out;obtain ⟨c1,c2,c3⟩:=box_cells jR HC2.out;obtain ⟨d1,d2,d3⟩:=box_cells jR HA2.out;obtain ⟨g1,g2,g3⟩:=box_cells jR HR2.out;clear hb2 y1 y2 y3;go_simp;go_wp2_with fail
 refine calls_named ?_;intro W3 hW3;have hb3:jB w2 W3:=by rw [hW3];first|exact jR|exact balloc jR _|exact jR.drew
 clear hW3;refine (CO.out W3 (bthen HB2.out hb3)).mono ?_;rintro e w5 ⟨z,rfl,hz,habs,hb5⟩;have HZ:=jH hz;have HAB:=jH habs;have hq5:=bthen hb3 hb5;have HB5:=jH (bthen HB2.out hq5);have HA5:=jH (jK hq5 HA2.out);have HR5:=jH (jK hq5 HR2.out);have HLT:=jH (show w.heap.size+1+1+1<W3.heap.size from Nat.lt_of_lt_of_le (jL HR2.out) hb3.size);obtain ⟨e1,e2,e3⟩:=box_cells jR HA5.out;obtain ⟨f1,f2,f3⟩:=box_cells jR HR5.out
 clear hz habs hb3 hb5 hq5 b1 b2 b3 c1 c2 c3 d1 d2 d3 g1 g2 g3;unfold wdC;go_simp;go_wp2_with fail
 refine post_named ?_;intro W9 hW9;obtain ⟨V,hV⟩:∃V,V=stor (stor w5 (w.heap.size+1+1) 0 [.int .i64 c.st,.int .i64 c.sa,.int .i64 c.lo,.int .i64 c.hi,.slice z.sA z.st.length z.sc,.slice z.cA z.cuts.length z.cc,.int .i64 z.ep,.bool z.over]) (w.heap.size+1+1+1) 0 [.int .i64 q.2,.int .i64 0,.int .i64 0,.int .i64 0,.int .i64 0,.int .i64 0,.int .i64 0,.int .i64 0,.int .i64 0,.int .i64 0,.int .i64 0,.int .i64 0,.int .i64 0]:=⟨_,rfl⟩
 have hW9':W9=(stor (stor w5 (w.heap.size+1+1) 0 [.int .i64 c.st,.int .i64 c.sa,.int .i64 c.lo,.int .i64 c.hi,.slice z.sA z.st.length z.sc,.slice z.cA z.cuts.length z.cc,.int .i64 z.ep,.bool z.over]) (w.heap.size+1+1+1) 0 [.int .i64 q.2,.int .i64 0,.int .i64 0,.int .i64 0,.int .i64 0,.int .i64 0,.int .i64 0,.int .i64 0,.int .i64 0,.int .i64 0,.int .i64 0,.int .i64 0,.int .i64 0]).alloc (.cells #[.int .i64 c.st,.int .i64 c.sa,.int .i64 c.lo,.int .i64 c.hi,.slice z.sA z.st.length z.sc,.slice z.cA z.cuts.length z.cc,.int .i64 z.ep,.bool z.over] 32 (0,0)):=hW9
 rw [←hV] at hW9';have hd9:jB V W9:=by rw [hW9'];exact balloc jR _
 obtain ⟨S,hS⟩:∃S,S=stor w5 (w.heap.size+1+1) 0 [.int .i64 c.st,.int .i64 c.sa,.int .i64 c.lo,.int .i64 c.hi,.slice z.sA z.st.length z.sc,.slice z.cA z.cuts.length z.cc,.int .i64 z.ep,.bool z.over]:=⟨_,rfl⟩;rw [←hS] at hV;obtain ⟨s1,s2,s3,s4⟩:=stor_at HA5.out [.int .i64 c.st,.int .i64 c.sa,.int .i64 c.lo,.int .i64 c.hi,.slice z.sA z.st.length z.sc,.slice z.cA z.cuts.length z.cc,.int .i64 z.ep,.bool z.over] rfl S hS
 have hr9:=(s2 (w.heap.size+1+1+1) (by omega)).trans HR5.out;obtain ⟨t1,t2,t3,t4⟩:=stor_at hr9 [.int .i64 q.2,.int .i64 0,.int .i64 0,.int .i64 0,.int .i64 0,.int .i64 0,.int .i64 0,.int .i64 0,.int .i64 0,.int .i64 0,.int .i64 0,.int .i64 0,.int .i64 0] rfl V hV;have hs1:=(t2 (w.heap.size+1+1) (by omega)).trans s1;obtain ⟨a9,a8,a7⟩:=box_cells hd9 hs1;obtain ⟨g9,g8,g7⟩:=box_cells hd9 t1;have hk9:∀b,b≠w.heap.size+1+1→b≠w.heap.size+1+1+1→b<w5.heap.size→W9.heap[b]?=w5.heap[b]?:=fun b q1 q2 q3=>(hd9.block b (by rw [t3,s3];exact q3)).trans ((t2 b q2).trans (s2 b q1))
 have hz9:w5.heap.size≤W9.heap.size:=by have:=hd9.size;omega
 have hBV:Below w.heap.size w5 V:=(s4 _ (by omega)).trans (t4 _ (by omega));clear hW9 hW9' hS hV;have hb9:=bthen (HB5.out.trans hBV) hd9;refine bodyPost_ret (v:=.tuple #[.agg #[.int .i64 c.st,.int .i64 c.sa,.int .i64 c.lo,.int .i64 c.hi,.slice z.sA z.st.length z.sc,.slice z.cA z.cuts.length z.cc,.int .i64 z.ep,.bool z.over],.agg #[.int .i64 q.2,.int .i64 0,.int .i64 0,.int .i64 0,.int .i64 0,.int .i64 0,.int .i64 0,.int .i64 0,.int .i64 0,.int .i64 0,.int .i64 0,.int .i64 0,.int .i64 0]]) (by simp [results,Tryz.results47,go_sem,a9,g9]) rfl ?_
 have hlt:=HLT.out;exact ⟨z,by rw [HRR.out];rfl,HZ.out.home (by omega) (fun b hb hlt9=>hk9 b (by omega) (by omega) hlt9),by rw [HRR.out];exact HAB.out,hb9⟩
theorem do21_2 (P:Nat→Prop) (c:Cfg) (rs rh n:Nat) (x:WdH) (id:ByteArray) (tick val handle:Int) (p:Pol) (w:World) (hP:∀b,w.heap.size≤b→P b) (hx:WdIn P w x) (hc:RoomOk c rs rh) (hst:okSt c.st=true) (hk:WdOk c rs rh n (absW x)) (hn:n≤100000) (hd:CallD.ok ⟨2,id,tick,val,handle,p⟩) (hck:chkC ⟨2,id,tick,val,handle,p⟩=0) :
 Calls Tryz.prog 47 #[.agg (wdC c x).toArray,callV ⟨2,id,tick,val,handle,p⟩] w (RepSays P w c (doW c rs rh (absW x) ⟨2,id,tick,val,handle,p⟩)):=by
 obtain ⟨r,hr⟩:∃r,r=doW c rs rh (absW x) ⟨2,id,tick,val,handle,p⟩:=⟨_,rfl⟩;rw [←hr];unfold doW at hr;rw [if_neg (by rw [hck];simp)] at hr;dsimp only at hr;rw [if_neg (by decide)] at hr;rw [if_pos rfl] at hr;have CC:=jH (fun W=>ref21Check_any ⟨2,id,tick,val,handle,p⟩ W hd);rw [hck] at CC;have hst6:c.st≤64:=by have:=okSt_bd _ hst;omega
 have hmm:id.size≤maxLen:=hd.2.1;obtain ⟨q,hq⟩:∃q,q=trimW (absW x) tick:=⟨_,rfl⟩;rw [←hq] at hr;have CO:=jH (fun (W:World) (hW:jB w W)=>show Calls Tryz.prog 91 #[.agg (wdC c x).toArray,.int .i64 tick] W (Wd21Says (Out P w.heap.size W.heap.size) W c q) from hq ▸ trim21_any (Out P w.heap.size W.heap.size) c rs rh n x tick W (out_new hP hW.size) (hx.out hW) hc hst6 hk hn);have HX:=jH hx;have HRR:=jH hr
 obtain ⟨sA,sc,st,cA,cc,cuts,ep,over⟩:=x;unfold callV at CC ⊢;unfold wdC at CO ⊢;dsimp only at CC CO ⊢;clear hP hx hc hst hk hn hd hck hr hq hst6 hmm
 go_enter Tryz.func47,Tryz.ntmps47
 go_upto_region 1 with fail
 refine name_world ?_;intro W1 hW1;obtain ⟨k0,k1,k2,k3,hb⟩:=four_boxes w _ _ _ _ W1 hW1;clear hW1;have HX1:=jH k0;have HC1:=jH k1;have HA1:=jH k2;have HR1:=jH k3;have HB1:=jH hb;obtain ⟨y1,y2,y3⟩:=box_cells jR HC1.out;clear k0 k1 k2 k3 hb;go_wp2_with fail
 refine (CC.out W1).mono ?_;rintro e w2 ⟨rfl,hb2⟩;have HX2:=jH (jK hb2 HX1.out);have HC2:=jH (jK hb2 HC1.out);have HA2:=jH (jK hb2 HA1.out);have HR2:=jH (jK hb2 HR1.out);have HB2:=jH (bthen HB1.out hb2);obtain ⟨b1,b2,b3⟩:=box_cells jR HX2.out;obtain ⟨c1,c2,c3⟩:=box_cells jR HC2.out;obtain ⟨d1,d2,d3⟩:=box_cells jR HA2.out;obtain ⟨g1,g2,g3⟩:=box_cells jR HR2.out;clear hb2 y1 y2 y3;go_simp;go_wp2_with fail
 refine calls_named ?_;intro W3 hW3;have hb3:jB w2 W3:=by rw [hW3];first|exact jR|exact balloc jR _|exact jR.drew
 clear hW3;refine (CO.out W3 (bthen HB2.out hb3)).mono ?_;rintro e w5 ⟨z,rfl,hz,habs,hb5⟩;have HZ:=jH hz;have HAB:=jH habs;have hq5:=bthen hb3 hb5;have HB5:=jH (bthen HB2.out hq5);have HA5:=jH (jK hq5 HA2.out);have HR5:=jH (jK hq5 HR2.out);have HLT:=jH (show w.heap.size+1+1+1<W3.heap.size from Nat.lt_of_lt_of_le (jL HR2.out) hb3.size);obtain ⟨e1,e2,e3⟩:=box_cells jR HA5.out;obtain ⟨f1,f2,f3⟩:=box_cells jR HR5.out
 clear hz habs hb3 hb5 hq5 b1 b2 b3 c1 c2 c3 d1 d2 d3 g1 g2 g3;unfold wdC;go_simp;go_wp2_with fail
 refine post_named ?_;intro W9 hW9;obtain ⟨V,hV⟩:∃V,V=stor (stor w5 (w.heap.size+1+1) 0 [.int .i64 c.st,.int .i64 c.sa,.int .i64 c.lo,.int .i64 c.hi,.slice z.sA z.st.length z.sc,.slice z.cA z.cuts.length z.cc,.int .i64 z.ep,.bool z.over]) (w.heap.size+1+1+1) 0 [.int .i64 0,.int .i64 0,.int .i64 0,.int .i64 0,.int .i64 0,.int .i64 0,.int .i64 0,.int .i64 0,.int .i64 0,.int .i64 0,.int .i64 0,.int .i64 0,.int .i64 0]:=⟨_,rfl⟩
 have hW9':W9=stor (stor w5 (w.heap.size+1+1) 0 [.int .i64 c.st,.int .i64 c.sa,.int .i64 c.lo,.int .i64 c.hi,.slice z.sA z.st.length z.sc,.slice z.cA z.cuts.length z.cc,.int .i64 z.ep,.bool z.over]) (w.heap.size+1+1+1) 0 [.int .i64 0,.int .i64 0,.int .i64 0,.int .i64 0,.int .i64 0,.int .i64 0,.int .i64 0,.int .i64 0,.int .i64 0,.int .i64 0,.int .i64 0,.int .i64 0,.int .i64 0]:=hW9;rw [←hV] at hW9'
 have hd9:jB V W9:=by rw [hW9'];exact jR
 obtain ⟨S,hS⟩:∃S,S=stor w5 (w.heap.size+1+1) 0 [.int .i64 c.st,.int .i64 c.sa,.int .i64 c.lo,.int .i64 c.hi,.slice z.sA z.st.length z.sc,.slice z.cA z.cuts.length z.cc,.int .i64 z.ep,.bool z.over]:=⟨_,rfl⟩;rw [←hS] at hV;obtain ⟨s1,s2,s3,s4⟩:=stor_at HA5.out [.int .i64 c.st,.int .i64 c.sa,.int .i64 c.lo,.int .i64 c.hi,.slice z.sA z.st.length z.sc,.slice z.cA z.cuts.length z.cc,.int .i64 z.ep,.bool z.over] rfl S hS
 have hr9:=(s2 (w.heap.size+1+1+1) (by omega)).trans HR5.out;obtain ⟨t1,t2,t3,t4⟩:=stor_at hr9 [.int .i64 0,.int .i64 0,.int .i64 0,.int .i64 0,.int .i64 0,.int .i64 0,.int .i64 0,.int .i64 0,.int .i64 0,.int .i64 0,.int .i64 0,.int .i64 0,.int .i64 0] rfl V hV;have hs1:=(t2 (w.heap.size+1+1) (by omega)).trans s1;obtain ⟨a9,a8,a7⟩:=box_cells hd9 hs1;obtain ⟨g9,g8,g7⟩:=box_cells hd9 t1;have hk9:∀b,b≠w.heap.size+1+1→b≠w.heap.size+1+1+1→b<w5.heap.size→W9.heap[b]?=w5.heap[b]?:=fun b q1 q2 q3=>(hd9.block b (by rw [t3,s3];exact q3)).trans ((t2 b q2).trans (s2 b q1))
 have hz9:w5.heap.size≤W9.heap.size:=by have:=hd9.size;omega
 have hBV:Below w.heap.size w5 V:=(s4 _ (by omega)).trans (t4 _ (by omega));clear hW9 hW9' hS hV;have hb9:=bthen (HB5.out.trans hBV) hd9;refine bodyPost_ret (v:=.tuple #[.agg #[.int .i64 c.st,.int .i64 c.sa,.int .i64 c.lo,.int .i64 c.hi,.slice z.sA z.st.length z.sc,.slice z.cA z.cuts.length z.cc,.int .i64 z.ep,.bool z.over],.agg #[.int .i64 0,.int .i64 0,.int .i64 0,.int .i64 0,.int .i64 0,.int .i64 0,.int .i64 0,.int .i64 0,.int .i64 0,.int .i64 0,.int .i64 0,.int .i64 0,.int .i64 0]]) (by simp [results,Tryz.results47,go_sem,a9,g9]) rfl ?_
 have hlt:=HLT.out;exact ⟨z,by rw [HRR.out];rfl,HZ.out.home (by omega) (fun b hb hlt9=>hk9 b (by omega) (by omega) hlt9),by rw [HRR.out];exact HAB.out,hb9⟩
theorem do21_3 (P:Nat→Prop) (c:Cfg) (rs rh n:Nat) (x:WdH) (id:ByteArray) (tick val handle:Int) (p:Pol) (w:World) (hP:∀b,w.heap.size≤b→P b) (hx:WdIn P w x) (hc:RoomOk c rs rh) (hst:okSt c.st=true) (hk:WdOk c rs rh n (absW x)) (hn:n≤100000) (hd:CallD.ok ⟨3,id,tick,val,handle,p⟩) (hck:chkC ⟨3,id,tick,val,handle,p⟩=0) :
 Calls Tryz.prog 47 #[.agg (wdC c x).toArray,callV ⟨3,id,tick,val,handle,p⟩] w (RepSays P w c (doW c rs rh (absW x) ⟨3,id,tick,val,handle,p⟩)):=by
 obtain ⟨r,hr⟩:∃r,r=doW c rs rh (absW x) ⟨3,id,tick,val,handle,p⟩:=⟨_,rfl⟩;rw [←hr];unfold doW at hr;rw [if_neg (by rw [hck];simp)] at hr;dsimp only at hr;rw [if_neg (by decide)] at hr;rw [if_neg (by decide)] at hr;rw [if_pos rfl] at hr;have CC:=jH (fun W=>ref21Check_any ⟨3,id,tick,val,handle,p⟩ W hd);rw [hck] at CC;have hst6:c.st≤64:=by have:=okSt_bd _ hst;omega
 have hmm:id.size≤maxLen:=hd.2.1;obtain ⟨q,hq⟩:∃q,q=snapW (absW x):=⟨_,rfl⟩;rw [←hq] at hr;have CO:=jH (fun (W:World) (hW:jB w W)=>show Calls Tryz.prog 92 #[.agg (wdC c x).toArray] W (RepSays (Out P w.heap.size W.heap.size) W c q) from hq ▸ snap21_any (Out P w.heap.size W.heap.size) c rs rh n x W (out_new hP hW.size) (hx.out hW) hst6 hk hn);have HX:=jH hx;have HRR:=jH hr;obtain ⟨sA,sc,st,cA,cc,cuts,ep,over⟩:=x
 unfold callV at CC ⊢;unfold wdC at CO ⊢;dsimp only at CC CO ⊢;clear hP hx hc hst hk hn hd hck hr hq hst6 hmm
 go_enter Tryz.func47,Tryz.ntmps47
 go_upto_region 1 with fail
 refine name_world ?_;intro W1 hW1;obtain ⟨k0,k1,k2,k3,hb⟩:=four_boxes w _ _ _ _ W1 hW1;clear hW1;have HX1:=jH k0;have HC1:=jH k1;have HA1:=jH k2;have HR1:=jH k3;have HB1:=jH hb;obtain ⟨y1,y2,y3⟩:=box_cells jR HC1.out;clear k0 k1 k2 k3 hb;go_wp2_with fail
 refine (CC.out W1).mono ?_;rintro e w2 ⟨rfl,hb2⟩;have HX2:=jH (jK hb2 HX1.out);have HC2:=jH (jK hb2 HC1.out);have HA2:=jH (jK hb2 HA1.out);have HR2:=jH (jK hb2 HR1.out);have HB2:=jH (bthen HB1.out hb2);obtain ⟨b1,b2,b3⟩:=box_cells jR HX2.out;obtain ⟨c1,c2,c3⟩:=box_cells jR HC2.out;obtain ⟨d1,d2,d3⟩:=box_cells jR HA2.out;obtain ⟨g1,g2,g3⟩:=box_cells jR HR2.out;clear hb2 y1 y2 y3;go_simp;go_wp2_with fail
 refine calls_named ?_;intro W3 hW3;have hb3:jB w2 W3:=by rw [hW3];first|exact jR|exact balloc jR _|exact jR.drew
 clear hW3;refine (CO.out W3 (bthen HB2.out hb3)).mono ?_;rintro e w5 ⟨z,rfl,hz,habs,hb5⟩;have HZ:=jH hz;have HAB:=jH habs;have hq5:=bthen hb3 hb5;have HB5:=jH (bthen HB2.out hq5);have HA5:=jH (jK hq5 HA2.out);have HR5:=jH (jK hq5 HR2.out);have HLT:=jH (show w.heap.size+1+1+1<W3.heap.size from Nat.lt_of_lt_of_le (jL HR2.out) hb3.size);obtain ⟨e1,e2,e3⟩:=box_cells jR HA5.out;obtain ⟨f1,f2,f3⟩:=box_cells jR HR5.out
 clear hz habs hb3 hb5 hq5 b1 b2 b3 c1 c2 c3 d1 d2 d3 g1 g2 g3;unfold wdC repV repC;go_simp;go_wp2_with fail
 refine post_named ?_;intro W9 hW9;obtain ⟨V,hV⟩:∃V,V=stor (stor w5 (w.heap.size+1+1) 0 [.int .i64 c.st,.int .i64 c.sa,.int .i64 c.lo,.int .i64 c.hi,.slice z.sA z.st.length z.sc,.slice z.cA z.cuts.length z.cc,.int .i64 z.ep,.bool z.over]) (w.heap.size+1+1+1) 0 [.int .i64 q.2.err,.int .i64 q.2.ep,.int .i64 q.2.hd,.int .i64 q.2.st.cnt,.int .i64 q.2.st.sum,.int .i64 q.2.st.least,.int .i64 q.2.st.most,.int .i64 q.2.st.mean,.int .i64 q.2.adv.tick,.int .i64 q.2.adv.load,.int .i64 q.2.adv.want,.int .i64 q.2.adv.repl,.int .i64 q.2.adv.why]:=⟨_,rfl⟩
 have hW9':W9=stor (stor w5 (w.heap.size+1+1) 0 [.int .i64 c.st,.int .i64 c.sa,.int .i64 c.lo,.int .i64 c.hi,.slice z.sA z.st.length z.sc,.slice z.cA z.cuts.length z.cc,.int .i64 z.ep,.bool z.over]) (w.heap.size+1+1+1) 0 [.int .i64 q.2.err,.int .i64 q.2.ep,.int .i64 q.2.hd,.int .i64 q.2.st.cnt,.int .i64 q.2.st.sum,.int .i64 q.2.st.least,.int .i64 q.2.st.most,.int .i64 q.2.st.mean,.int .i64 q.2.adv.tick,.int .i64 q.2.adv.load,.int .i64 q.2.adv.want,.int .i64 q.2.adv.repl,.int .i64 q.2.adv.why]:=hW9
 rw [←hV] at hW9';have hd9:jB V W9:=by rw [hW9'];exact jR
 obtain ⟨S,hS⟩:∃S,S=stor w5 (w.heap.size+1+1) 0 [.int .i64 c.st,.int .i64 c.sa,.int .i64 c.lo,.int .i64 c.hi,.slice z.sA z.st.length z.sc,.slice z.cA z.cuts.length z.cc,.int .i64 z.ep,.bool z.over]:=⟨_,rfl⟩;rw [←hS] at hV;obtain ⟨s1,s2,s3,s4⟩:=stor_at HA5.out [.int .i64 c.st,.int .i64 c.sa,.int .i64 c.lo,.int .i64 c.hi,.slice z.sA z.st.length z.sc,.slice z.cA z.cuts.length z.cc,.int .i64 z.ep,.bool z.over] rfl S hS
 have hr9:=(s2 (w.heap.size+1+1+1) (by omega)).trans HR5.out;obtain ⟨t1,t2,t3,t4⟩:=stor_at hr9 [.int .i64 q.2.err,.int .i64 q.2.ep,.int .i64 q.2.hd,.int .i64 q.2.st.cnt,.int .i64 q.2.st.sum,.int .i64 q.2.st.least,.int .i64 q.2.st.most,.int .i64 q.2.st.mean,.int .i64 q.2.adv.tick,.int .i64 q.2.adv.load,.int .i64 q.2.adv.want,.int .i64 q.2.adv.repl,.int .i64 q.2.adv.why] rfl V hV;have hs1:=(t2 (w.heap.size+1+1) (by omega)).trans s1
 obtain ⟨a9,a8,a7⟩:=box_cells hd9 hs1;obtain ⟨g9,g8,g7⟩:=box_cells hd9 t1;have hk9:∀b,b≠w.heap.size+1+1→b≠w.heap.size+1+1+1→b<w5.heap.size→W9.heap[b]?=w5.heap[b]?:=fun b q1 q2 q3=>(hd9.block b (by rw [t3,s3];exact q3)).trans ((t2 b q2).trans (s2 b q1))
 have hz9:w5.heap.size≤W9.heap.size:=by have:=hd9.size;omega
 have hBV:Below w.heap.size w5 V:=(s4 _ (by omega)).trans (t4 _ (by omega));clear hW9 hW9' hS hV;have hb9:=bthen (HB5.out.trans hBV) hd9;refine bodyPost_ret (v:=.tuple #[.agg #[.int .i64 c.st,.int .i64 c.sa,.int .i64 c.lo,.int .i64 c.hi,.slice z.sA z.st.length z.sc,.slice z.cA z.cuts.length z.cc,.int .i64 z.ep,.bool z.over],.agg #[.int .i64 q.2.err,.int .i64 q.2.ep,.int .i64 q.2.hd,.int .i64 q.2.st.cnt,.int .i64 q.2.st.sum,.int .i64 q.2.st.least,.int .i64 q.2.st.most,.int .i64 q.2.st.mean,.int .i64 q.2.adv.tick,.int .i64 q.2.adv.load,.int .i64 q.2.adv.want,.int .i64 q.2.adv.repl,.int .i64 q.2.adv.why]]) (by simp [results,Tryz.results47,go_sem,a9,g9]) rfl ?_
 have hlt:=HLT.out;exact ⟨z,by rw [HRR.out];rfl,HZ.out.home (by omega) (fun b hb hlt9=>hk9 b (by omega) (by omega) hlt9),by rw [HRR.out];exact HAB.out,hb9⟩
theorem do21_4 (P:Nat→Prop) (c:Cfg) (rs rh n:Nat) (x:WdH) (id:ByteArray) (tick val handle:Int) (p:Pol) (w:World) (hP:∀b,w.heap.size≤b→P b) (hx:WdIn P w x) (hc:RoomOk c rs rh) (hst:okSt c.st=true) (hk:WdOk c rs rh n (absW x)) (hn:n≤100000) (hd:CallD.ok ⟨4,id,tick,val,handle,p⟩) (hck:chkC ⟨4,id,tick,val,handle,p⟩=0) :
 Calls Tryz.prog 47 #[.agg (wdC c x).toArray,callV ⟨4,id,tick,val,handle,p⟩] w (RepSays P w c (doW c rs rh (absW x) ⟨4,id,tick,val,handle,p⟩)):=by
 obtain ⟨r,hr⟩:∃r,r=doW c rs rh (absW x) ⟨4,id,tick,val,handle,p⟩:=⟨_,rfl⟩;rw [←hr];unfold doW at hr;rw [if_neg (by rw [hck];simp)] at hr;dsimp only at hr;rw [if_neg (by decide)] at hr;rw [if_neg (by decide)] at hr;rw [if_neg (by decide)] at hr;rw [if_pos rfl] at hr;have CC:=jH (fun W=>ref21Check_any ⟨4,id,tick,val,handle,p⟩ W hd);rw [hck] at CC;have hst6:c.st≤64:=by have:=okSt_bd _ hst;omega
 have hmm:id.size≤maxLen:=hd.2.1;obtain ⟨q,hq⟩:∃q,q=freeW (absW x) handle:=⟨_,rfl⟩;rw [←hq] at hr;have CO:=jH (fun (W:World) (hW:jB w W)=>show Calls Tryz.prog 93 #[.agg (wdC c x).toArray,.int .i64 handle] W (RepSays (Out P w.heap.size W.heap.size) W c q) from hq ▸ free21_any (Out P w.heap.size W.heap.size) c rs rh n x handle W (out_new hP hW.size) (hx.out hW) hk hn);have HX:=jH hx;have HRR:=jH hr;obtain ⟨sA,sc,st,cA,cc,cuts,ep,over⟩:=x
 unfold callV at CC ⊢;unfold wdC at CO ⊢;dsimp only at CC CO ⊢;clear hP hx hc hst hk hn hd hck hr hq hst6 hmm
 go_enter Tryz.func47,Tryz.ntmps47
 go_upto_region 1 with fail
 refine name_world ?_;intro W1 hW1;obtain ⟨k0,k1,k2,k3,hb⟩:=four_boxes w _ _ _ _ W1 hW1;clear hW1;have HX1:=jH k0;have HC1:=jH k1;have HA1:=jH k2;have HR1:=jH k3;have HB1:=jH hb;obtain ⟨y1,y2,y3⟩:=box_cells jR HC1.out;clear k0 k1 k2 k3 hb;go_wp2_with fail
 refine (CC.out W1).mono ?_;rintro e w2 ⟨rfl,hb2⟩;have HX2:=jH (jK hb2 HX1.out);have HC2:=jH (jK hb2 HC1.out);have HA2:=jH (jK hb2 HA1.out);have HR2:=jH (jK hb2 HR1.out);have HB2:=jH (bthen HB1.out hb2);obtain ⟨b1,b2,b3⟩:=box_cells jR HX2.out;obtain ⟨c1,c2,c3⟩:=box_cells jR HC2.out;obtain ⟨d1,d2,d3⟩:=box_cells jR HA2.out;obtain ⟨g1,g2,g3⟩:=box_cells jR HR2.out;clear hb2 y1 y2 y3;go_simp;go_wp2_with fail
 refine calls_named ?_;intro W3 hW3;have hb3:jB w2 W3:=by rw [hW3];first|exact jR|exact balloc jR _|exact jR.drew
 clear hW3;refine (CO.out W3 (bthen HB2.out hb3)).mono ?_;rintro e w5 ⟨z,rfl,hz,habs,hb5⟩;have HZ:=jH hz;have HAB:=jH habs;have hq5:=bthen hb3 hb5;have HB5:=jH (bthen HB2.out hq5);have HA5:=jH (jK hq5 HA2.out);have HR5:=jH (jK hq5 HR2.out);have HLT:=jH (show w.heap.size+1+1+1<W3.heap.size from Nat.lt_of_lt_of_le (jL HR2.out) hb3.size);obtain ⟨e1,e2,e3⟩:=box_cells jR HA5.out;obtain ⟨f1,f2,f3⟩:=box_cells jR HR5.out
 clear hz habs hb3 hb5 hq5 b1 b2 b3 c1 c2 c3 d1 d2 d3 g1 g2 g3;unfold wdC repV repC;go_simp;go_wp2_with fail
 refine post_named ?_;intro W9 hW9;obtain ⟨V,hV⟩:∃V,V=stor (stor w5 (w.heap.size+1+1) 0 [.int .i64 c.st,.int .i64 c.sa,.int .i64 c.lo,.int .i64 c.hi,.slice z.sA z.st.length z.sc,.slice z.cA z.cuts.length z.cc,.int .i64 z.ep,.bool z.over]) (w.heap.size+1+1+1) 0 [.int .i64 q.2.err,.int .i64 q.2.ep,.int .i64 q.2.hd,.int .i64 q.2.st.cnt,.int .i64 q.2.st.sum,.int .i64 q.2.st.least,.int .i64 q.2.st.most,.int .i64 q.2.st.mean,.int .i64 q.2.adv.tick,.int .i64 q.2.adv.load,.int .i64 q.2.adv.want,.int .i64 q.2.adv.repl,.int .i64 q.2.adv.why]:=⟨_,rfl⟩
 have hW9':W9=stor (stor w5 (w.heap.size+1+1) 0 [.int .i64 c.st,.int .i64 c.sa,.int .i64 c.lo,.int .i64 c.hi,.slice z.sA z.st.length z.sc,.slice z.cA z.cuts.length z.cc,.int .i64 z.ep,.bool z.over]) (w.heap.size+1+1+1) 0 [.int .i64 q.2.err,.int .i64 q.2.ep,.int .i64 q.2.hd,.int .i64 q.2.st.cnt,.int .i64 q.2.st.sum,.int .i64 q.2.st.least,.int .i64 q.2.st.most,.int .i64 q.2.st.mean,.int .i64 q.2.adv.tick,.int .i64 q.2.adv.load,.int .i64 q.2.adv.want,.int .i64 q.2.adv.repl,.int .i64 q.2.adv.why]:=hW9
 rw [←hV] at hW9';have hd9:jB V W9:=by rw [hW9'];exact jR
 obtain ⟨S,hS⟩:∃S,S=stor w5 (w.heap.size+1+1) 0 [.int .i64 c.st,.int .i64 c.sa,.int .i64 c.lo,.int .i64 c.hi,.slice z.sA z.st.length z.sc,.slice z.cA z.cuts.length z.cc,.int .i64 z.ep,.bool z.over]:=⟨_,rfl⟩;rw [←hS] at hV;obtain ⟨s1,s2,s3,s4⟩:=stor_at HA5.out [.int .i64 c.st,.int .i64 c.sa,.int .i64 c.lo,.int .i64 c.hi,.slice z.sA z.st.length z.sc,.slice z.cA z.cuts.length z.cc,.int .i64 z.ep,.bool z.over] rfl S hS
 have hr9:=(s2 (w.heap.size+1+1+1) (by omega)).trans HR5.out;obtain ⟨t1,t2,t3,t4⟩:=stor_at hr9 [.int .i64 q.2.err,.int .i64 q.2.ep,.int .i64 q.2.hd,.int .i64 q.2.st.cnt,.int .i64 q.2.st.sum,.int .i64 q.2.st.least,.int .i64 q.2.st.most,.int .i64 q.2.st.mean,.int .i64 q.2.adv.tick,.int .i64 q.2.adv.load,.int .i64 q.2.adv.want,.int .i64 q.2.adv.repl,.int .i64 q.2.adv.why] rfl V hV;have hs1:=(t2 (w.heap.size+1+1) (by omega)).trans s1
 obtain ⟨a9,a8,a7⟩:=box_cells hd9 hs1;obtain ⟨g9,g8,g7⟩:=box_cells hd9 t1;have hk9:∀b,b≠w.heap.size+1+1→b≠w.heap.size+1+1+1→b<w5.heap.size→W9.heap[b]?=w5.heap[b]?:=fun b q1 q2 q3=>(hd9.block b (by rw [t3,s3];exact q3)).trans ((t2 b q2).trans (s2 b q1))
 have hz9:w5.heap.size≤W9.heap.size:=by have:=hd9.size;omega
 have hBV:Below w.heap.size w5 V:=(s4 _ (by omega)).trans (t4 _ (by omega));clear hW9 hW9' hS hV;have hb9:=bthen (HB5.out.trans hBV) hd9;refine bodyPost_ret (v:=.tuple #[.agg #[.int .i64 c.st,.int .i64 c.sa,.int .i64 c.lo,.int .i64 c.hi,.slice z.sA z.st.length z.sc,.slice z.cA z.cuts.length z.cc,.int .i64 z.ep,.bool z.over],.agg #[.int .i64 q.2.err,.int .i64 q.2.ep,.int .i64 q.2.hd,.int .i64 q.2.st.cnt,.int .i64 q.2.st.sum,.int .i64 q.2.st.least,.int .i64 q.2.st.most,.int .i64 q.2.st.mean,.int .i64 q.2.adv.tick,.int .i64 q.2.adv.load,.int .i64 q.2.adv.want,.int .i64 q.2.adv.repl,.int .i64 q.2.adv.why]]) (by simp [results,Tryz.results47,go_sem,a9,g9]) rfl ?_
 have hlt:=HLT.out;exact ⟨z,by rw [HRR.out];rfl,HZ.out.home (by omega) (fun b hb hlt9=>hk9 b (by omega) (by omega) hlt9),by rw [HRR.out];exact HAB.out,hb9⟩
theorem do21_5 (P:Nat→Prop) (c:Cfg) (rs rh n:Nat) (x:WdH) (id:ByteArray) (tick val handle:Int) (p:Pol) (w:World) (hP:∀b,w.heap.size≤b→P b) (hx:WdIn P w x) (hc:RoomOk c rs rh) (hst:okSt c.st=true) (hk:WdOk c rs rh n (absW x)) (hn:n≤100000) (hd:CallD.ok ⟨5,id,tick,val,handle,p⟩) (hck:chkC ⟨5,id,tick,val,handle,p⟩=0) :
 Calls Tryz.prog 47 #[.agg (wdC c x).toArray,callV ⟨5,id,tick,val,handle,p⟩] w (RepSays P w c (doW c rs rh (absW x) ⟨5,id,tick,val,handle,p⟩)):=by
 obtain ⟨r,hr⟩:∃r,r=doW c rs rh (absW x) ⟨5,id,tick,val,handle,p⟩:=⟨_,rfl⟩;rw [←hr];unfold doW at hr;rw [if_neg (by rw [hck];simp)] at hr;dsimp only at hr;rw [if_neg (by decide)] at hr;rw [if_neg (by decide)] at hr;rw [if_neg (by decide)] at hr;rw [if_neg (by decide)] at hr;rw [if_pos rfl] at hr;have CC:=jH (fun W=>ref21Check_any ⟨5,id,tick,val,handle,p⟩ W hd);rw [hck] at CC;have hst6:c.st≤64:=by have:=okSt_bd _ hst;omega
 have hmm:id.size≤maxLen:=hd.2.1;obtain ⟨q,hq⟩:∃q,q=lookW (absW x) ⟨5,id,tick,val,handle,p⟩:=⟨_,rfl⟩;rw [←hq] at hr;have CO:=jH (fun (W:World) (hW:jB w W)=>show Calls Tryz.prog 94 #[.agg (wdC c x).toArray,.agg #[.int .i64 5,.string id,.int .i64 tick,.int .i64 val,.int .i64 handle,.int .i64 p.mn,.int .i64 p.mx,.int .i64 p.tg,.int .i64 p.tol,.int .i64 p.win,.int .i64 p.hold]] W (jP W (.agg #[.int .i64 q.err,.int .i64 q.ep,.int .i64 q.hd,.int .i64 q.st.cnt,.int .i64 q.st.sum,.int .i64 q.st.least,.int .i64 q.st.most,.int .i64 q.st.mean,.int .i64 q.adv.tick,.int .i64 q.adv.load,.int .i64 q.adv.want,.int .i64 q.adv.repl,.int .i64 q.adv.why])) from by
  have h9:=look21_any P c rs rh n x ⟨5,id,tick,val,handle,p⟩ W (hx.below hW) hst6 hk hn (by have:=hc.r2;have:=hc.h2;omega) hd;rw [←hq] at h9;exact h9)
 have HX:=jH hx;have HRR:=jH hr;obtain ⟨sA,sc,st,cA,cc,cuts,ep,over⟩:=x;unfold callV at CC ⊢;unfold wdC at CO ⊢;dsimp only at CC CO ⊢;clear hP hx hc hst hk hn hd hck hr hq hst6 hmm
 go_enter Tryz.func47,Tryz.ntmps47
 go_upto_region 1 with fail
 refine name_world ?_;intro W1 hW1;obtain ⟨k0,k1,k2,k3,hb⟩:=four_boxes w _ _ _ _ W1 hW1;clear hW1;have HX1:=jH k0;have HC1:=jH k1;have HA1:=jH k2;have HR1:=jH k3;have HB1:=jH hb;obtain ⟨y1,y2,y3⟩:=box_cells jR HC1.out;clear k0 k1 k2 k3 hb;go_wp2_with fail
 refine (CC.out W1).mono ?_;rintro e w2 ⟨rfl,hb2⟩;have HX2:=jH (jK hb2 HX1.out);have HC2:=jH (jK hb2 HC1.out);have HA2:=jH (jK hb2 HA1.out);have HR2:=jH (jK hb2 HR1.out);have HB2:=jH (bthen HB1.out hb2);obtain ⟨b1,b2,b3⟩:=box_cells jR HX2.out;obtain ⟨c1,c2,c3⟩:=box_cells jR HC2.out;obtain ⟨d1,d2,d3⟩:=box_cells jR HA2.out;obtain ⟨g1,g2,g3⟩:=box_cells jR HR2.out;clear hb2 y1 y2 y3;go_simp
 go_upto_region 15 with fail
 have rx2:∀U,jB w2 U→∀i,U.cell? ⟨w.heap.size,i,none⟩=(#[.int .i64 c.st,.int .i64 c.sa,.int .i64 c.lo,.int .i64 c.hi,.slice sA st.length sc,.slice cA cuts.length cc,.int .i64 ep,.bool over]:Array Value)[i]?:=fun U hU=>(box_cells hU HX2.out).1
 have ry2:∀U,jB w2 U→∀i,U.cell? ⟨w.heap.size+1,i,none⟩=(#[.int .i64 5,.string id,.int .i64 tick,.int .i64 val,.int .i64 handle,.int .i64 p.mn,.int .i64 p.mx,.int .i64 p.tg,.int .i64 p.tol,.int .i64 p.win,.int .i64 p.hold]:Array Value)[i]?:=fun U hU=>(box_cells hU HC2.out).1
 clear b1 b2 b3 c1 c2 c3 d1 d2 d3 g1 g2 g3;refine wp_region_E (S:=(fun U=>jB w2 U)) 4 (by kernel_rfl) ?hS1 (fun hHeld=>?_)
 case hS1=>(first|exact jR.drew|exact HQ5.out|(exfalso;rename_i hx;exact nomatch (show (true:Bool)=false from hx)))
 refine wpAnyE_take (i:=0) (v:=?v2) rfl (by kernel_rfl) (by kernel_rfl) (by kernel_rfl) (by kernel_rfl) (fun _ _ _ h=>h) (Or.inl ⟨by rfl,?hy2⟩) (by assumption) ?_
 case hy2 =>
  intro w' hSw
  (try dsimp only at hSw)
  go_simp
  try (with_reducible rfl)
 try simp only [Act.put,jA]
 refine wpAnyE_take (i:=1) (v:=?v3) rfl (by kernel_rfl) (by kernel_rfl) (by kernel_rfl) (by kernel_rfl) (fun _ _ _ h=>h) (Or.inl ⟨by rfl,?hy3⟩) (by assumption) ?_
 case hy3 =>
  intro w' hSw
  (try dsimp only at hSw)
  go_simp
  try (with_reducible rfl)
 try simp only [Act.put,jA]
 refine wpAnyE_take (i:=2) (v:=?v4) rfl (by kernel_rfl) (by kernel_rfl) (by kernel_rfl) (by kernel_rfl) (fun _ _ _ h=>h) (Or.inl ⟨by rfl,?hy4⟩) (by assumption) ?_
 case hy4 =>
  intro w' hSw
  (try dsimp only at hSw)
  go_simp
  try (with_reducible rfl)
 try simp only [Act.put,jA]
 refine wpAnyE_one (i:=3) (by kernel_rfl) rfl (fun K hK=>?_);go_simp
 (go_at_call 94
  refine calls_named ?_;intro W3 hW3;have hb3:jB w2 W3:=by rw [hW3];first|exact jR|exact jR.drew|exact below_drewN jR _
  clear hW3;refine (CO.out W3 (bthen HB2.out hb3)).mono ?_;rintro e w5 ⟨rfl,hb5⟩;have hq5:=bthen hb3 hb5;have HQ5:=jH hq5;have HB5:=jH (bthen HB2.out hq5);have HA5:=jH (jK hq5 HA2.out);have HR5:=jH (jK hq5 HR2.out);obtain ⟨e1,e2,e3⟩:=box_cells jR HA5.out;obtain ⟨f1,f2,f3⟩:=box_cells jR HR5.out;clear hb3 hb5 hq5)
 try go_simp
 refine hK.out _ _ ?hS5 (fun hHeld2=>?_)
 case hS5 =>
  intro _
  (first|exact jR.drew|exact HQ5.out|(exfalso;rename_i hx;exact nomatch (show (true:Bool)=false from hx)))
 clear hK K hHeld;have hHeld:=hHeld2 (by kernel_rfl);clear hHeld2
 try simp only [Act.put,jA]
 refine wpAnyE_one (i:=4) (by kernel_rfl) rfl (fun K hK=>?_);go_simp
 skip
 try go_simp
 refine hK.out _ _ ?hS6 (fun hHeld2=>?_)
 case hS6=>exact fun h=>nomatch (show (true:Bool)=false from h)
 clear hK K hHeld hHeld2
 try simp only [Act.put,jA]
 refine wpAnyE_one (i:=5) (by kernel_rfl) rfl (fun K hK=>?_);go_simp
 skip
 try go_simp
 refine hK.out _ _ ?hS7 (fun hHeld2=>?_)
 case hS7=>exact fun h=>nomatch (show (true:Bool)=false from h)
 clear hK K hHeld2
 try simp only [Act.put,jA]
 refine wpAnyE_done (by kernel_rfl) ?_ _;refine then_named ?_;intro W9 hW9;obtain ⟨V,hV⟩:∃V,V=stor (stor w5 (w.heap.size+1+1) 0 [.int .i64 c.st,.int .i64 c.sa,.int .i64 c.lo,.int .i64 c.hi,.slice sA st.length sc,.slice cA cuts.length cc,.int .i64 ep,.bool over]) (w.heap.size+1+1+1) 0 [.int .i64 q.err,.int .i64 q.ep,.int .i64 q.hd,.int .i64 q.st.cnt,.int .i64 q.st.sum,.int .i64 q.st.least,.int .i64 q.st.most,.int .i64 q.st.mean,.int .i64 q.adv.tick,.int .i64 q.adv.load,.int .i64 q.adv.want,.int .i64 q.adv.repl,.int .i64 q.adv.why]:=⟨_,rfl⟩
 have hW9':W9=stor (stor w5 (w.heap.size+1+1) 0 [.int .i64 c.st,.int .i64 c.sa,.int .i64 c.lo,.int .i64 c.hi,.slice sA st.length sc,.slice cA cuts.length cc,.int .i64 ep,.bool over]) (w.heap.size+1+1+1) 0 [.int .i64 q.err,.int .i64 q.ep,.int .i64 q.hd,.int .i64 q.st.cnt,.int .i64 q.st.sum,.int .i64 q.st.least,.int .i64 q.st.most,.int .i64 q.st.mean,.int .i64 q.adv.tick,.int .i64 q.adv.load,.int .i64 q.adv.want,.int .i64 q.adv.repl,.int .i64 q.adv.why]:=hW9
 rw [←hV] at hW9';have hd9:jB V W9:=by rw [hW9'];exact jR
 obtain ⟨S,hS⟩:∃S,S=stor w5 (w.heap.size+1+1) 0 [.int .i64 c.st,.int .i64 c.sa,.int .i64 c.lo,.int .i64 c.hi,.slice sA st.length sc,.slice cA cuts.length cc,.int .i64 ep,.bool over]:=⟨_,rfl⟩;rw [←hS] at hV;obtain ⟨s1,s2,s3,s4⟩:=stor_at HA5.out [.int .i64 c.st,.int .i64 c.sa,.int .i64 c.lo,.int .i64 c.hi,.slice sA st.length sc,.slice cA cuts.length cc,.int .i64 ep,.bool over] rfl S hS;have hr9:=(s2 (w.heap.size+1+1+1) (by omega)).trans HR5.out
 obtain ⟨t1,t2,t3,t4⟩:=stor_at hr9 [.int .i64 q.err,.int .i64 q.ep,.int .i64 q.hd,.int .i64 q.st.cnt,.int .i64 q.st.sum,.int .i64 q.st.least,.int .i64 q.st.most,.int .i64 q.st.mean,.int .i64 q.adv.tick,.int .i64 q.adv.load,.int .i64 q.adv.want,.int .i64 q.adv.repl,.int .i64 q.adv.why] rfl V hV;have hs1:=(t2 (w.heap.size+1+1) (by omega)).trans s1;obtain ⟨a9,a8,a7⟩:=box_cells hd9 hs1;obtain ⟨g9,g8,g7⟩:=box_cells hd9 t1
 have hk9:∀b,b≠w.heap.size+1+1→b≠w.heap.size+1+1+1→b<w5.heap.size→W9.heap[b]?=w5.heap[b]?:=fun b q1 q2 q3=>(hd9.block b (by rw [t3,s3];exact q3)).trans ((t2 b q2).trans (s2 b q1))
 have hz9:w5.heap.size≤W9.heap.size:=by have:=hd9.size;omega
 have hBV:Below w.heap.size w5 V:=(s4 _ (by omega)).trans (t4 _ (by omega));clear hW9 hW9' hS hV;have hb9:=bthen (HB5.out.trans hBV) hd9;clear rx2 ry2 e1 e2 e3 f1 f2 f3;go_wp2_with fail
 refine bodyPost_ret (v:=.tuple #[.agg #[.int .i64 c.st,.int .i64 c.sa,.int .i64 c.lo,.int .i64 c.hi,.slice sA st.length sc,.slice cA cuts.length cc,.int .i64 ep,.bool over],.agg #[.int .i64 q.err,.int .i64 q.ep,.int .i64 q.hd,.int .i64 q.st.cnt,.int .i64 q.st.sum,.int .i64 q.st.least,.int .i64 q.st.most,.int .i64 q.st.mean,.int .i64 q.adv.tick,.int .i64 q.adv.load,.int .i64 q.adv.want,.int .i64 q.adv.repl,.int .i64 q.adv.why]]) (by simp [results,Tryz.results47,go_sem,a9,g9]) rfl ?_
 exact ⟨⟨sA,sc,st,cA,cc,cuts,ep,over⟩,by rw [HRR.out];rfl,HX.out.below hb9,by rw [HRR.out],hb9⟩
theorem do21_7 (P:Nat→Prop) (c:Cfg) (rs rh n:Nat) (x:WdH) (id:ByteArray) (tick val handle:Int) (p:Pol) (w:World) (hP:∀b,w.heap.size≤b→P b) (hx:WdIn P w x) (hc:RoomOk c rs rh) (hst:okSt c.st=true) (hk:WdOk c rs rh n (absW x)) (hn:n≤100000) (hd:CallD.ok ⟨7,id,tick,val,handle,p⟩) (hck:chkC ⟨7,id,tick,val,handle,p⟩=0) :
 Calls Tryz.prog 47 #[.agg (wdC c x).toArray,callV ⟨7,id,tick,val,handle,p⟩] w (RepSays P w c (doW c rs rh (absW x) ⟨7,id,tick,val,handle,p⟩)):=by
 obtain ⟨r,hr⟩:∃r,r=doW c rs rh (absW x) ⟨7,id,tick,val,handle,p⟩:=⟨_,rfl⟩;rw [←hr];unfold doW at hr;rw [if_neg (by rw [hck];simp)] at hr;dsimp only at hr;rw [if_neg (by decide)] at hr;rw [if_neg (by decide)] at hr;rw [if_neg (by decide)] at hr;rw [if_neg (by decide)] at hr;rw [if_neg (by decide)] at hr;rw [if_neg (by decide)] at hr;rw [if_pos rfl] at hr;have CC:=jH (fun W=>ref21Check_any ⟨7,id,tick,val,handle,p⟩ W hd)
 rw [hck] at CC;have hst6:c.st≤64:=by have:=okSt_bd _ hst;omega
 have hmm:id.size≤maxLen:=hd.2.1;obtain ⟨q,hq⟩:∃q,q=readW (absW x) id:=⟨_,rfl⟩;rw [←hq] at hr;have CO:=jH (fun (W:World) (hW:jB w W)=>show Calls Tryz.prog 95 #[.agg (wdC c x).toArray,.string id] W (jP W (.agg #[.int .i64 q.err,.int .i64 q.ep,.int .i64 q.hd,.int .i64 q.st.cnt,.int .i64 q.st.sum,.int .i64 q.st.least,.int .i64 q.st.most,.int .i64 q.st.mean,.int .i64 q.adv.tick,.int .i64 q.adv.load,.int .i64 q.adv.want,.int .i64 q.adv.repl,.int .i64 q.adv.why])) from by
  have h9:=read21_any P c rs rh n x id W (fun b hb=>hP b (Nat.le_trans hW.size hb)) (hx.below hW) hst6 hk (by have:=hc.r2;have:=hc.h2;omega) hmm;rw [←hq] at h9;exact h9)
 have HX:=jH hx;have HRR:=jH hr;obtain ⟨sA,sc,st,cA,cc,cuts,ep,over⟩:=x;unfold callV at CC ⊢;unfold wdC at CO ⊢;dsimp only at CC CO ⊢;clear hP hx hc hst hk hn hd hck hr hq hst6 hmm
 go_enter Tryz.func47,Tryz.ntmps47
 go_upto_region 1 with fail
 refine name_world ?_;intro W1 hW1;obtain ⟨k0,k1,k2,k3,hb⟩:=four_boxes w _ _ _ _ W1 hW1;clear hW1;have HX1:=jH k0;have HC1:=jH k1;have HA1:=jH k2;have HR1:=jH k3;have HB1:=jH hb;obtain ⟨y1,y2,y3⟩:=box_cells jR HC1.out;clear k0 k1 k2 k3 hb;go_wp2_with fail
 refine (CC.out W1).mono ?_;rintro e w2 ⟨rfl,hb2⟩;have HX2:=jH (jK hb2 HX1.out);have HC2:=jH (jK hb2 HC1.out);have HA2:=jH (jK hb2 HA1.out);have HR2:=jH (jK hb2 HR1.out);have HB2:=jH (bthen HB1.out hb2);obtain ⟨b1,b2,b3⟩:=box_cells jR HX2.out;obtain ⟨c1,c2,c3⟩:=box_cells jR HC2.out;obtain ⟨d1,d2,d3⟩:=box_cells jR HA2.out;obtain ⟨g1,g2,g3⟩:=box_cells jR HR2.out;clear hb2 y1 y2 y3;go_simp
 go_upto_region 20 with fail
 have rx2:∀U,jB w2 U→∀i,U.cell? ⟨w.heap.size,i,none⟩=(#[.int .i64 c.st,.int .i64 c.sa,.int .i64 c.lo,.int .i64 c.hi,.slice sA st.length sc,.slice cA cuts.length cc,.int .i64 ep,.bool over]:Array Value)[i]?:=fun U hU=>(box_cells hU HX2.out).1
 have ry2:∀U,jB w2 U→∀i,U.cell? ⟨w.heap.size+1,i,none⟩=(#[.int .i64 7,.string id,.int .i64 tick,.int .i64 val,.int .i64 handle,.int .i64 p.mn,.int .i64 p.mx,.int .i64 p.tg,.int .i64 p.tol,.int .i64 p.win,.int .i64 p.hold]:Array Value)[i]?:=fun U hU=>(box_cells hU HC2.out).1
 clear b1 b2 b3 c1 c2 c3 d1 d2 d3 g1 g2 g3;refine wp_region_E (S:=(fun U=>jB w2 U)) 5 (by kernel_rfl) ?hS8 (fun hHeld=>?_)
 case hS8=>(first|exact jR.drew|exact HQ5.out|(exfalso;rename_i hx;exact nomatch (show (true:Bool)=false from hx)))
 refine wpAnyE_take (i:=0) (v:=?v9) rfl (by kernel_rfl) (by kernel_rfl) (by kernel_rfl) (by kernel_rfl) (fun _ _ _ h=>h) (Or.inl ⟨by rfl,?hy9⟩) (by assumption) ?_
 case hy9 =>
  intro w' hSw
  (try dsimp only at hSw)
  go_simp
  try (with_reducible rfl)
 try simp only [Act.put,jA]
 refine wpAnyE_take (i:=1) (v:=?v10) rfl (by kernel_rfl) (by kernel_rfl) (by kernel_rfl) (by kernel_rfl) (fun _ _ _ h=>h) (Or.inl ⟨by rfl,?hy10⟩) (by assumption) ?_
 case hy10 =>
  intro w' hSw
  (try dsimp only at hSw)
  go_simp
  try (with_reducible rfl)
 try simp only [Act.put,jA]
 refine wpAnyE_take (i:=2) (v:=?v11) rfl (by kernel_rfl) (by kernel_rfl) (by kernel_rfl) (by kernel_rfl) (fun _ _ _ h=>h) (Or.inl ⟨by rfl,?hy11⟩) (by assumption) ?_
 case hy11 =>
  intro w' hSw
  (try dsimp only at hSw)
  go_simp
  try (with_reducible rfl)
 try simp only [Act.put,jA]
 refine wpAnyE_take (i:=3) (v:=?v12) rfl (by kernel_rfl) (by kernel_rfl) (by kernel_rfl) (by kernel_rfl) (fun _ _ _ h=>h) (Or.inl ⟨by rfl,?hy12⟩) (by assumption) ?_
 case hy12 =>
  intro w' hSw
  (try dsimp only at hSw)
  go_simp
  try (with_reducible rfl)
 try simp only [Act.put,jA]
 refine wpAnyE_one (i:=4) (by kernel_rfl) rfl (fun K hK=>?_);go_simp
 (go_at_call 95
  refine calls_named ?_;intro W3 hW3;have hb3:jB w2 W3:=by rw [hW3];first|exact jR|exact jR.drew|exact below_drewN jR _
  clear hW3;refine (CO.out W3 (bthen HB2.out hb3)).mono ?_;rintro e w5 ⟨rfl,hb5⟩;have hq5:=bthen hb3 hb5;have HQ5:=jH hq5;have HB5:=jH (bthen HB2.out hq5);have HA5:=jH (jK hq5 HA2.out);have HR5:=jH (jK hq5 HR2.out);obtain ⟨e1,e2,e3⟩:=box_cells jR HA5.out;obtain ⟨f1,f2,f3⟩:=box_cells jR HR5.out;clear hb3 hb5 hq5)
 try go_simp
 refine hK.out _ _ ?hS13 (fun hHeld2=>?_)
 case hS13 =>
  intro _
  (first|exact jR.drew|exact HQ5.out|(exfalso;rename_i hx;exact nomatch (show (true:Bool)=false from hx)))
 clear hK K hHeld;have hHeld:=hHeld2 (by kernel_rfl);clear hHeld2
 try simp only [Act.put,jA]
 refine wpAnyE_one (i:=5) (by kernel_rfl) rfl (fun K hK=>?_);go_simp
 skip
 try go_simp
 refine hK.out _ _ ?hS14 (fun hHeld2=>?_)
 case hS14=>exact fun h=>nomatch (show (true:Bool)=false from h)
 clear hK K hHeld hHeld2
 try simp only [Act.put,jA]
 refine wpAnyE_one (i:=6) (by kernel_rfl) rfl (fun K hK=>?_);go_simp
 skip
 try go_simp
 refine hK.out _ _ ?hS15 (fun hHeld2=>?_)
 case hS15=>exact fun h=>nomatch (show (true:Bool)=false from h)
 clear hK K hHeld2
 try simp only [Act.put,jA]
 refine wpAnyE_done (by kernel_rfl) ?_ _;refine then_named ?_;intro W9 hW9;obtain ⟨V,hV⟩:∃V,V=stor (stor w5 (w.heap.size+1+1) 0 [.int .i64 c.st,.int .i64 c.sa,.int .i64 c.lo,.int .i64 c.hi,.slice sA st.length sc,.slice cA cuts.length cc,.int .i64 ep,.bool over]) (w.heap.size+1+1+1) 0 [.int .i64 q.err,.int .i64 q.ep,.int .i64 q.hd,.int .i64 q.st.cnt,.int .i64 q.st.sum,.int .i64 q.st.least,.int .i64 q.st.most,.int .i64 q.st.mean,.int .i64 q.adv.tick,.int .i64 q.adv.load,.int .i64 q.adv.want,.int .i64 q.adv.repl,.int .i64 q.adv.why]:=⟨_,rfl⟩
 have hW9':W9=stor (stor w5 (w.heap.size+1+1) 0 [.int .i64 c.st,.int .i64 c.sa,.int .i64 c.lo,.int .i64 c.hi,.slice sA st.length sc,.slice cA cuts.length cc,.int .i64 ep,.bool over]) (w.heap.size+1+1+1) 0 [.int .i64 q.err,.int .i64 q.ep,.int .i64 q.hd,.int .i64 q.st.cnt,.int .i64 q.st.sum,.int .i64 q.st.least,.int .i64 q.st.most,.int .i64 q.st.mean,.int .i64 q.adv.tick,.int .i64 q.adv.load,.int .i64 q.adv.want,.int .i64 q.adv.repl,.int .i64 q.adv.why]:=hW9
 rw [←hV] at hW9';have hd9:jB V W9:=by rw [hW9'];exact jR
 obtain ⟨S,hS⟩:∃S,S=stor w5 (w.heap.size+1+1) 0 [.int .i64 c.st,.int .i64 c.sa,.int .i64 c.lo,.int .i64 c.hi,.slice sA st.length sc,.slice cA cuts.length cc,.int .i64 ep,.bool over]:=⟨_,rfl⟩;rw [←hS] at hV;obtain ⟨s1,s2,s3,s4⟩:=stor_at HA5.out [.int .i64 c.st,.int .i64 c.sa,.int .i64 c.lo,.int .i64 c.hi,.slice sA st.length sc,.slice cA cuts.length cc,.int .i64 ep,.bool over] rfl S hS;have hr9:=(s2 (w.heap.size+1+1+1) (by omega)).trans HR5.out
 obtain ⟨t1,t2,t3,t4⟩:=stor_at hr9 [.int .i64 q.err,.int .i64 q.ep,.int .i64 q.hd,.int .i64 q.st.cnt,.int .i64 q.st.sum,.int .i64 q.st.least,.int .i64 q.st.most,.int .i64 q.st.mean,.int .i64 q.adv.tick,.int .i64 q.adv.load,.int .i64 q.adv.want,.int .i64 q.adv.repl,.int .i64 q.adv.why] rfl V hV;have hs1:=(t2 (w.heap.size+1+1) (by omega)).trans s1;obtain ⟨a9,a8,a7⟩:=box_cells hd9 hs1;obtain ⟨g9,g8,g7⟩:=box_cells hd9 t1
 have hk9:∀b,b≠w.heap.size+1+1→b≠w.heap.size+1+1+1→b<w5.heap.size→W9.heap[b]?=w5.heap[b]?:=fun b q1 q2 q3=>(hd9.block b (by rw [t3,s3];exact q3)).trans ((t2 b q2).trans (s2 b q1))
 have hz9:w5.heap.size≤W9.heap.size:=by have:=hd9.size;omega
 have hBV:Below w.heap.size w5 V:=(s4 _ (by omega)).trans (t4 _ (by omega));clear hW9 hW9' hS hV;have hb9:=bthen (HB5.out.trans hBV) hd9;clear rx2 ry2 e1 e2 e3 f1 f2 f3;go_wp2_with fail
 refine bodyPost_ret (v:=.tuple #[.agg #[.int .i64 c.st,.int .i64 c.sa,.int .i64 c.lo,.int .i64 c.hi,.slice sA st.length sc,.slice cA cuts.length cc,.int .i64 ep,.bool over],.agg #[.int .i64 q.err,.int .i64 q.ep,.int .i64 q.hd,.int .i64 q.st.cnt,.int .i64 q.st.sum,.int .i64 q.st.least,.int .i64 q.st.most,.int .i64 q.st.mean,.int .i64 q.adv.tick,.int .i64 q.adv.load,.int .i64 q.adv.want,.int .i64 q.adv.repl,.int .i64 q.adv.why]]) (by simp [results,Tryz.results47,go_sem,a9,g9]) rfl ?_
 exact ⟨⟨sA,sc,st,cA,cc,cuts,ep,over⟩,by rw [HRR.out];rfl,HX.out.below hb9,by rw [HRR.out],hb9⟩
theorem do21_8 (P:Nat→Prop) (c:Cfg) (rs rh n:Nat) (x:WdH) (id:ByteArray) (tick val handle:Int) (p:Pol) (w:World) (hP:∀b,w.heap.size≤b→P b) (hx:WdIn P w x) (hc:RoomOk c rs rh) (hst:okSt c.st=true) (hk:WdOk c rs rh n (absW x)) (hn:n≤100000) (hd:CallD.ok ⟨8,id,tick,val,handle,p⟩) (hck:chkC ⟨8,id,tick,val,handle,p⟩=0) :
 Calls Tryz.prog 47 #[.agg (wdC c x).toArray,callV ⟨8,id,tick,val,handle,p⟩] w (RepSays P w c (doW c rs rh (absW x) ⟨8,id,tick,val,handle,p⟩)):=by
 obtain ⟨r,hr⟩:∃r,r=doW c rs rh (absW x) ⟨8,id,tick,val,handle,p⟩:=⟨_,rfl⟩;rw [←hr];unfold doW at hr;rw [if_neg (by rw [hck];simp)] at hr;dsimp only at hr;rw [if_neg (by decide)] at hr;rw [if_neg (by decide)] at hr;rw [if_neg (by decide)] at hr;rw [if_neg (by decide)] at hr;rw [if_neg (by decide)] at hr;rw [if_neg (by decide)] at hr;rw [if_neg (by decide)] at hr;have CC:=jH (fun W=>ref21Check_any ⟨8,id,tick,val,handle,p⟩ W hd)
 rw [hck] at CC;have hst6:c.st≤64:=by have:=okSt_bd _ hst;omega
 have hmm:id.size≤maxLen:=hd.2.1;have HX:=jH hx;have HRR:=jH hr;obtain ⟨sA,sc,st,cA,cc,cuts,ep,over⟩:=x;unfold callV at CC ⊢;unfold wdC;dsimp only at CC ⊢;clear hP hx hc hst hk hn hd hck hr hst6 hmm;have hr:=HRR.out
 cases over
 · rw [if_neg (show ¬(absW ⟨sA,sc,st,cA,cc,cuts,ep,false⟩).over=true from fun h=>nomatch (show (false:Bool)=true from h))] at hr
   have HRR:=jH hr;clear hr
   go_enter Tryz.func47,Tryz.ntmps47
   go_upto_region 1 with fail
   refine name_world ?_;intro W1 hW1;obtain ⟨k0,k1,k2,k3,hb⟩:=four_boxes w _ _ _ _ W1 hW1;clear hW1;have HX1:=jH k0;have HC1:=jH k1;have HA1:=jH k2;have HR1:=jH k3;have HB1:=jH hb;obtain ⟨y1,y2,y3⟩:=box_cells jR HC1.out;clear k0 k1 k2 k3 hb;go_wp2_with fail
   refine (CC.out W1).mono ?_;rintro e w2 ⟨rfl,hb2⟩;have HX2:=jH (jK hb2 HX1.out);have HC2:=jH (jK hb2 HC1.out);have HA2:=jH (jK hb2 HA1.out);have HR2:=jH (jK hb2 HR1.out);have HB2:=jH (bthen HB1.out hb2);obtain ⟨b1,b2,b3⟩:=box_cells jR HX2.out;obtain ⟨c1,c2,c3⟩:=box_cells jR HC2.out;obtain ⟨d1,d2,d3⟩:=box_cells jR HA2.out;obtain ⟨g1,g2,g3⟩:=box_cells jR HR2.out;clear hb2 y1 y2 y3;go_simp;go_wp2_with fail
   refine post_named ?_;intro W9 hW9;obtain ⟨V,hV⟩:∃V,V=stor (stor w2 (w.heap.size+1+1) 0 [.int .i64 c.st,.int .i64 c.sa,.int .i64 c.lo,.int .i64 c.hi,.slice sA st.length sc,.slice cA cuts.length cc,.int .i64 ep,.bool true]) (w.heap.size+1+1+1) 0 [.int .i64 0,.int .i64 0,.int .i64 0,.int .i64 0,.int .i64 0,.int .i64 0,.int .i64 0,.int .i64 0,.int .i64 0,.int .i64 0,.int .i64 0,.int .i64 0,.int .i64 0]:=⟨_,rfl⟩
   have hW9':W9=(stor (stor w2 (w.heap.size+1+1) 0 [.int .i64 c.st,.int .i64 c.sa,.int .i64 c.lo,.int .i64 c.hi,.slice sA st.length sc,.slice cA cuts.length cc,.int .i64 ep,.bool true]) (w.heap.size+1+1+1) 0 [.int .i64 0,.int .i64 0,.int .i64 0,.int .i64 0,.int .i64 0,.int .i64 0,.int .i64 0,.int .i64 0,.int .i64 0,.int .i64 0,.int .i64 0,.int .i64 0,.int .i64 0]).alloc (.cells #[.int .i64 c.st,.int .i64 c.sa,.int .i64 c.lo,.int .i64 c.hi,.slice sA st.length sc,.slice cA cuts.length cc,.int .i64 ep,.bool true] 32 (0,0)):=hW9
   rw [←hV] at hW9';have hd9:jB V W9:=by rw [hW9'];exact balloc jR _
   obtain ⟨S,hS⟩:∃S,S=stor w2 (w.heap.size+1+1) 0 [.int .i64 c.st,.int .i64 c.sa,.int .i64 c.lo,.int .i64 c.hi,.slice sA st.length sc,.slice cA cuts.length cc,.int .i64 ep,.bool true]:=⟨_,rfl⟩;rw [←hS] at hV;obtain ⟨s1,s2,s3,s4⟩:=stor_at HA2.out [.int .i64 c.st,.int .i64 c.sa,.int .i64 c.lo,.int .i64 c.hi,.slice sA st.length sc,.slice cA cuts.length cc,.int .i64 ep,.bool true] rfl S hS;have hr9:=(s2 (w.heap.size+1+1+1) (by omega)).trans HR2.out
   obtain ⟨t1,t2,t3,t4⟩:=stor_at hr9 [.int .i64 0,.int .i64 0,.int .i64 0,.int .i64 0,.int .i64 0,.int .i64 0,.int .i64 0,.int .i64 0,.int .i64 0,.int .i64 0,.int .i64 0,.int .i64 0,.int .i64 0] rfl V hV;have hs1:=(t2 (w.heap.size+1+1) (by omega)).trans s1;obtain ⟨a9,a8,a7⟩:=box_cells hd9 hs1;obtain ⟨g9,g8,g7⟩:=box_cells hd9 t1;have hk9:∀b,b≠w.heap.size+1+1→b≠w.heap.size+1+1+1→b<w2.heap.size→W9.heap[b]?=w2.heap[b]?:=fun b q1 q2 q3=>(hd9.block b (by rw [t3,s3];exact q3)).trans ((t2 b q2).trans (s2 b q1))
   have hz9:w2.heap.size≤W9.heap.size:=by have:=hd9.size;omega
   have hBV:Below w.heap.size w2 V:=(s4 _ (by omega)).trans (t4 _ (by omega));clear hW9 hW9' hS hV;have hb9:=bthen (HB2.out.trans hBV) hd9;refine bodyPost_ret (v:=.tuple #[.agg #[.int .i64 c.st,.int .i64 c.sa,.int .i64 c.lo,.int .i64 c.hi,.slice sA st.length sc,.slice cA cuts.length cc,.int .i64 ep,.bool true],.agg #[.int .i64 0,.int .i64 0,.int .i64 0,.int .i64 0,.int .i64 0,.int .i64 0,.int .i64 0,.int .i64 0,.int .i64 0,.int .i64 0,.int .i64 0,.int .i64 0,.int .i64 0]]) (by simp [results,Tryz.results47,go_sem,a9,g9]) rfl ?_
   exact ⟨⟨sA,sc,st,cA,cc,cuts,ep,true⟩,by rw [HRR.out];rfl,HX.out.below hb9 |> fun h=>⟨h.sr,h.it,h.cr,h.ct⟩,by rw [HRR.out];rfl,hb9⟩
 · rw [if_pos (show (absW ⟨sA,sc,st,cA,cc,cuts,ep,true⟩).over=true from rfl)] at hr
   have HRR:=jH hr;clear hr
   go_enter Tryz.func47,Tryz.ntmps47
   go_upto_region 1 with fail
   refine name_world ?_;intro W1 hW1;obtain ⟨k0,k1,k2,k3,hb⟩:=four_boxes w _ _ _ _ W1 hW1;clear hW1;have HX1:=jH k0;have HC1:=jH k1;have HA1:=jH k2;have HR1:=jH k3;have HB1:=jH hb;obtain ⟨y1,y2,y3⟩:=box_cells jR HC1.out;clear k0 k1 k2 k3 hb;go_wp2_with fail
   refine (CC.out W1).mono ?_;rintro e w2 ⟨rfl,hb2⟩;have HX2:=jH (jK hb2 HX1.out);have HC2:=jH (jK hb2 HC1.out);have HA2:=jH (jK hb2 HA1.out);have HR2:=jH (jK hb2 HR1.out);have HB2:=jH (bthen HB1.out hb2);obtain ⟨b1,b2,b3⟩:=box_cells jR HX2.out;obtain ⟨c1,c2,c3⟩:=box_cells jR HC2.out;obtain ⟨d1,d2,d3⟩:=box_cells jR HA2.out;obtain ⟨g1,g2,g3⟩:=box_cells jR HR2.out;clear hb2 y1 y2 y3;go_simp;go_wp2_with fail
   refine post_named ?_;intro W9 hW9;obtain ⟨V,hV⟩:∃V,V=stor (stor w2 (w.heap.size+1+1) 0 [.int .i64 c.st,.int .i64 c.sa,.int .i64 c.lo,.int .i64 c.hi,.slice sA st.length sc,.slice cA cuts.length cc,.int .i64 ep,.bool true]) (w.heap.size+1+1+1) 0 [.int .i64 9,.int .i64 0,.int .i64 0,.int .i64 0,.int .i64 0,.int .i64 0,.int .i64 0,.int .i64 0,.int .i64 0,.int .i64 0,.int .i64 0,.int .i64 0,.int .i64 0]:=⟨_,rfl⟩
   have hW9':W9=stor (stor w2 (w.heap.size+1+1) 0 [.int .i64 c.st,.int .i64 c.sa,.int .i64 c.lo,.int .i64 c.hi,.slice sA st.length sc,.slice cA cuts.length cc,.int .i64 ep,.bool true]) (w.heap.size+1+1+1) 0 [.int .i64 9,.int .i64 0,.int .i64 0,.int .i64 0,.int .i64 0,.int .i64 0,.int .i64 0,.int .i64 0,.int .i64 0,.int .i64 0,.int .i64 0,.int .i64 0,.int .i64 0]:=hW9;rw [←hV] at hW9';have hd9:jB V W9:=by rw [hW9'];exact jR
   obtain ⟨S,hS⟩:∃S,S=stor w2 (w.heap.size+1+1) 0 [.int .i64 c.st,.int .i64 c.sa,.int .i64 c.lo,.int .i64 c.hi,.slice sA st.length sc,.slice cA cuts.length cc,.int .i64 ep,.bool true]:=⟨_,rfl⟩;rw [←hS] at hV;obtain ⟨s1,s2,s3,s4⟩:=stor_at HA2.out [.int .i64 c.st,.int .i64 c.sa,.int .i64 c.lo,.int .i64 c.hi,.slice sA st.length sc,.slice cA cuts.length cc,.int .i64 ep,.bool true] rfl S hS;have hr9:=(s2 (w.heap.size+1+1+1) (by omega)).trans HR2.out
   obtain ⟨t1,t2,t3,t4⟩:=stor_at hr9 [.int .i64 9,.int .i64 0,.int .i64 0,.int .i64 0,.int .i64 0,.int .i64 0,.int .i64 0,.int .i64 0,.int .i64 0,.int .i64 0,.int .i64 0,.int .i64 0,.int .i64 0] rfl V hV;have hs1:=(t2 (w.heap.size+1+1) (by omega)).trans s1;obtain ⟨a9,a8,a7⟩:=box_cells hd9 hs1;obtain ⟨g9,g8,g7⟩:=box_cells hd9 t1;have hk9:∀b,b≠w.heap.size+1+1→b≠w.heap.size+1+1+1→b<w2.heap.size→W9.heap[b]?=w2.heap[b]?:=fun b q1 q2 q3=>(hd9.block b (by rw [t3,s3];exact q3)).trans ((t2 b q2).trans (s2 b q1))
   have hz9:w2.heap.size≤W9.heap.size:=by have:=hd9.size;omega
   have hBV:Below w.heap.size w2 V:=(s4 _ (by omega)).trans (t4 _ (by omega));clear hW9 hW9' hS hV;have hb9:=bthen (HB2.out.trans hBV) hd9;refine bodyPost_ret (v:=.tuple #[.agg #[.int .i64 c.st,.int .i64 c.sa,.int .i64 c.lo,.int .i64 c.hi,.slice sA st.length sc,.slice cA cuts.length cc,.int .i64 ep,.bool true],.agg #[.int .i64 9,.int .i64 0,.int .i64 0,.int .i64 0,.int .i64 0,.int .i64 0,.int .i64 0,.int .i64 0,.int .i64 0,.int .i64 0,.int .i64 0,.int .i64 0,.int .i64 0]]) (by simp [results,Tryz.results47,go_sem,a9,g9]) rfl ?_
   exact ⟨⟨sA,sc,st,cA,cc,cuts,ep,true⟩,by rw [HRR.out];rfl,HX.out.below hb9,by rw [HRR.out],hb9⟩
theorem do21_any (P:Nat→Prop) (c:Cfg) (rs rh n:Nat) (x:WdH) (d:CallD) (w:World) (hP:∀b,w.heap.size≤b→P b) (hx:WdIn P w x) (hc:RoomOk c rs rh) (hst:okSt c.st=true) (hk:WdOk c rs rh n (absW x)) (hn:n≤100000) (hd:d.ok) :
 Calls Tryz.prog 47 #[.agg (wdC c x).toArray,callV d] w (RepSays P w c (doW c rs rh (absW x) d)):=by
 obtain ⟨kind,id,tick,val,handle,p⟩:=d
 by_cases hck:chkC ⟨kind,id,tick,val,handle,p⟩=0
 · have hkk:kind=1∨kind=2∨kind=3∨kind=4∨kind=5∨kind=6∨kind=7∨kind=8:=by
    rcases chk_kinds ⟨kind,id,tick,val,handle,p⟩ with h|h|h|h|h|h|h|h|h
    all_goals dsimp only at h
    all_goals first
     | omega
     | (exfalso
        unfold chkC at hck;rw [if_pos h] at hck
        cases hck)
   rcases hkk with rfl|rfl|rfl|rfl|rfl|rfl|rfl|rfl
   · exact do21_1 P c rs rh n x id tick val handle p w hP hx hc hst hk hn hd hck
   · exact do21_2 P c rs rh n x id tick val handle p w hP hx hc hst hk hn hd hck
   · exact do21_3 P c rs rh n x id tick val handle p w hP hx hc hst hk hn hd hck
   · exact do21_4 P c rs rh n x id tick val handle p w hP hx hc hst hk hn hd hck
   · exact do21_5 P c rs rh n x id tick val handle p w hP hx hc hst hk hn hd hck
   · exact do21_6 P c rs rh n x id tick val handle p w hP hx hc hst hk hn hd hck
   · exact do21_7 P c rs rh n x id tick val handle p w hP hx hc hst hk hn hd hck
   · exact do21_8 P c rs rh n x id tick val handle p w hP hx hc hst hk hn hd hck
 · exact do21_bad P c rs rh n x kind id tick val handle p w hP hx hc hst hk hn hd hck
end
end Go.Proofs.YtkcdhaallnhhmaaGreat
