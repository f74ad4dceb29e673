/- Part 40 of the proof. -/
import Derived.Test.YtmniiodpbebnmaaGreatJ39
namespace Go.Proofs.YtmniiodpbebnmaaGreat
set_option linter.unusedSimpArgs false
set_option linter.unusedVariables false
set_option linter.unusedSectionVars false
set_option maxRecDepth 100000
set_option maxHeartbeats 16000000
section
open Go.RowKit Go.Lib
theorem d0I (w:World) (a b c d:Obj):∀W,W=(((w.alloc a).alloc b).alloc c).alloc d→W.heap[w.heap.size]?=some a∧W.heap[w.heap.size+1]?=some b∧W.heap[w.heap.size+1+1]?=some c∧W.heap[w.heap.size+1+1+1]?=some d∧jB w W:=by
 rintro W rfl;refine ⟨(Below.heap_alloc _ _ _ (by simp;omega)).trans (f0B w a b c),(Below.heap_alloc _ _ _ (by simp)).trans (f0X w a b c),(Below.heap_alloc _ _ _ (by simp)).trans (f0Q w a b c),?_,a0C (a0C (a0C (a0C jR _) _) _) _⟩;have h:=heap_alloc_new (((w.alloc a).alloc b).alloc c) d
 simpa using h
theorem o1Z (P:Nat→Prop) (c:Cfg) (rs rh n:Nat) (x:WdH) (kind:Int) (id:ByteArray) (tick val handle:Int) (p:Pol) (w:World) (hP:∀b,w.heap.size≤b→P b) (hx:d0U P w x) (hc:f0Y c rs rh) (hst:e0X c.st=true) (hk:g0B c rs rh n (c0O x)) (hn:n≤100000) (hd:c0D.ok ⟨kind,id,tick,val,handle,p⟩) (hck:e0Y ⟨kind,id,tick,val,handle,p⟩≠0) :
 Calls Tryz.prog 16 #[.agg (wdC c x).toArray,b0A ⟨kind,id,tick,val,handle,p⟩] w (e0V P w c (doW c rs rh (c0O x) ⟨kind,id,tick,val,handle,p⟩)):=by
 obtain ⟨r,hr⟩:∃r,r=doW c rs rh (c0O x) ⟨kind,id,tick,val,handle,p⟩:=⟨_,rfl⟩;rw [←hr];unfold doW at hr;rw [if_pos hck] at hr;have CC:=jH (fun W=>b0T ⟨kind,id,tick,val,handle,p⟩ W hd);obtain ⟨ef,hef⟩:∃ef,ef=e0Y ⟨kind,id,tick,val,handle,p⟩:=⟨_,rfl⟩;rw [←hef] at CC hr hck;have z0:(ef == 0)=false:=by simpa using hck
 have z0c:(ef != 0)=true:=by simpa using hck
 have HX:=jH hx;have HRR:=jH hr;obtain ⟨sA,sc,st,cA,cc,cuts,ep,over⟩:=x;unfold b0A at CC ⊢;unfold wdC;dsimp only at CC ⊢;clear hP hx hc hst hk hn hd hck hr hef
 go_enter Tryz.func16,Tryz.ntmps16
 go_upto_region 1 with fail
 refine a0I ?_;intro W1 hW1;obtain ⟨k0,k1,k2,k3,hb⟩:=d0I w _ _ _ _ W1 hW1;clear hW1;have HX1:=jH k0;have HC1:=jH k1;have HA1:=jH k2;have HR1:=jH k3;have HB1:=jH hb;obtain ⟨y1,y2,y3⟩:=a0A jR HC1.out;clear k0 k1 k2 k3 hb;go_wp2_with fail
 refine (CC.out W1).mono ?_;rintro e w2 ⟨rfl,hb2⟩;have HX2:=jH (jK hb2 HX1.out);have HC2:=jH (jK hb2 HC1.out);have HA2:=jH (jK hb2 HA1.out);have HR2:=jH (jK hb2 HR1.out);have HB2:=jH (a0D HB1.out hb2);obtain ⟨b1,b2,b3⟩:=a0A jR HX2.out;obtain ⟨c1,c2,c3⟩:=a0A jR HC2.out;obtain ⟨d1,d2,d3⟩:=a0A jR HA2.out;obtain ⟨g1,g2,g3⟩:=a0A jR HR2.out;clear hb2 y1 y2 y3;go_simp;go_wp2_with fail
 refine a0H ?_;intro W9 hW9;obtain ⟨V,hV⟩:∃V,V=b0J (b0J w2 (w.heap.size+1+1) 0 [.int .i64 c.st,.int .i64 c.sa,.int .i64 c.lo,.int .i64 c.hi,.slice sA st.length sc,.slice cA cuts.length cc,.int .i64 ep,.bool over]) (w.heap.size+1+1+1) 0 [.int .i64 ef,.int .i64 0,.int .i64 0,.int .i64 0,.int .i64 0,.int .i64 0,.int .i64 0,.int .i64 0,.int .i64 0,.int .i64 0,.int .i64 0,.int .i64 0,.int .i64 0]:=⟨_,rfl⟩
 have hW9':W9=b0J (b0J w2 (w.heap.size+1+1) 0 [.int .i64 c.st,.int .i64 c.sa,.int .i64 c.lo,.int .i64 c.hi,.slice sA st.length sc,.slice cA cuts.length cc,.int .i64 ep,.bool over]) (w.heap.size+1+1+1) 0 [.int .i64 ef,.int .i64 0,.int .i64 0,.int .i64 0,.int .i64 0,.int .i64 0,.int .i64 0,.int .i64 0,.int .i64 0,.int .i64 0,.int .i64 0,.int .i64 0,.int .i64 0]:=hW9;rw [←hV] at hW9';have hd9:jB V W9:=by rw [hW9'];exact jR
 obtain ⟨S,hS⟩:∃S,S=b0J w2 (w.heap.size+1+1) 0 [.int .i64 c.st,.int .i64 c.sa,.int .i64 c.lo,.int .i64 c.hi,.slice sA st.length sc,.slice cA cuts.length cc,.int .i64 ep,.bool over]:=⟨_,rfl⟩;rw [←hS] at hV;obtain ⟨s1,s2,s3,s4⟩:=a0P HA2.out [.int .i64 c.st,.int .i64 c.sa,.int .i64 c.lo,.int .i64 c.hi,.slice sA st.length sc,.slice cA cuts.length cc,.int .i64 ep,.bool over] rfl S hS;have hr9:=(s2 (w.heap.size+1+1+1) (by omega)).trans HR2.out
 obtain ⟨t1,t2,t3,t4⟩:=a0P hr9 [.int .i64 ef,.int .i64 0,.int .i64 0,.int .i64 0,.int .i64 0,.int .i64 0,.int .i64 0,.int .i64 0,.int .i64 0,.int .i64 0,.int .i64 0,.int .i64 0,.int .i64 0] rfl V hV;have hs1:=(t2 (w.heap.size+1+1) (by omega)).trans s1;obtain ⟨a9,a8,a7⟩:=a0A hd9 hs1;obtain ⟨g9,g8,g7⟩:=a0A hd9 t1;have hk9:∀b,b≠w.heap.size+1+1→b≠w.heap.size+1+1+1→b<w2.heap.size→W9.heap[b]?=w2.heap[b]?:=fun b q1 q2 q3=>(hd9.block b (by rw [t3,s3];exact q3)).trans ((t2 b q2).trans (s2 b q1))
 have hz9:w2.heap.size≤W9.heap.size:=by have:=hd9.size;omega
 have hBV:Below w.heap.size w2 V:=(s4 _ (by omega)).trans (t4 _ (by omega));clear hW9 hW9' hS hV;have hb9:=a0D (HB2.out.trans hBV) hd9;refine bodyPost_ret (v:=.tuple #[.agg #[.int .i64 c.st,.int .i64 c.sa,.int .i64 c.lo,.int .i64 c.hi,.slice sA st.length sc,.slice cA cuts.length cc,.int .i64 ep,.bool over],.agg #[.int .i64 ef,.int .i64 0,.int .i64 0,.int .i64 0,.int .i64 0,.int .i64 0,.int .i64 0,.int .i64 0,.int .i64 0,.int .i64 0,.int .i64 0,.int .i64 0,.int .i64 0]]) (by simp [results,Tryz.results16,go_sem,a9,g9]) rfl ?_
 exact ⟨⟨sA,sc,st,cA,cc,cuts,ep,over⟩,by rw [HRR.out];rfl,HX.out.below hb9,by rw [HRR.out],hb9⟩
theorem do21_1 (P:Nat→Prop) (c:Cfg) (rs rh n:Nat) (x:WdH) (id:ByteArray) (tick val handle:Int) (p:Pol) (w:World) (hP:∀b,w.heap.size≤b→P b) (hx:d0U P w x) (hc:f0Y c rs rh) (hst:e0X c.st=true) (hk:g0B c rs rh n (c0O x)) (hn:n≤100000) (hd:c0D.ok ⟨1,id,tick,val,handle,p⟩) (hck:e0Y ⟨1,id,tick,val,handle,p⟩=0) :
 Calls Tryz.prog 16 #[.agg (wdC c x).toArray,b0A ⟨1,id,tick,val,handle,p⟩] w (e0V P w c (doW c rs rh (c0O x) ⟨1,id,tick,val,handle,p⟩)):=by
 obtain ⟨r,hr⟩:∃r,r=doW c rs rh (c0O x) ⟨1,id,tick,val,handle,p⟩:=⟨_,rfl⟩;rw [←hr];unfold doW at hr;rw [if_neg (by rw [hck];simp)] at hr;dsimp only at hr;rw [if_pos rfl] at hr;have CC:=jH (fun W=>b0T ⟨1,id,tick,val,handle,p⟩ W hd);rw [hck] at CC;have hst6:c.st≤64:=by have:=c0B _ hst;omega
 have hmm:id.size≤maxLen:=hd.2.1;obtain ⟨q,hq⟩:∃q,q=u0V c rs rh (c0O x) id ⟨0,(tick,val),k0L,c0U⟩:=⟨_,rfl⟩;rw [←hq] at hr;have CO:=jH (fun (W:World) (hW:jB w W)=>show Calls Tryz.prog 50 #[.agg (wdC c x).toArray,.string id,.agg #[.int .i64 0,.int .i64 tick,.int .i64 val,.int .i64 0,.int .i64 0,.int .i64 0,.int .i64 0,.int .i64 0,.int .i64 0,.int .i64 0,.int .i64 0,.int .i64 0,.int .i64 0,.int .i64 0]] W (s0H (Out P w.heap.size W.heap.size) W c q) from by
  have h9:=o0U (Out P w.heap.size W.heap.size) c rs rh n x id ⟨0,(tick,val),k0L,c0U⟩ W (k0O hP hW.size) (hx.out hW) hc hst hk hn hmm (show ¬(0:Int)<0 by decide) (show (0:Int)≠1 by decide) (show ¬3<(0:Int) by decide);rw [←hq] at h9;exact h9)
 have HX:=jH hx;have HRR:=jH hr;obtain ⟨sA,sc,st,cA,cc,cuts,ep,over⟩:=x;unfold b0A at CC ⊢;unfold wdC at CO ⊢;dsimp only at CC CO ⊢;clear hP hx hc hst hk hn hd hck hr hq hst6 hmm
 go_enter Tryz.func16,Tryz.ntmps16
 go_upto_region 1 with fail
 refine a0I ?_;intro W1 hW1;obtain ⟨k0,k1,k2,k3,hb⟩:=d0I w _ _ _ _ W1 hW1;clear hW1;have HX1:=jH k0;have HC1:=jH k1;have HA1:=jH k2;have HR1:=jH k3;have HB1:=jH hb;obtain ⟨y1,y2,y3⟩:=a0A jR HC1.out;clear k0 k1 k2 k3 hb;go_wp2_with fail
 refine (CC.out W1).mono ?_;rintro e w2 ⟨rfl,hb2⟩;have HX2:=jH (jK hb2 HX1.out);have HC2:=jH (jK hb2 HC1.out);have HA2:=jH (jK hb2 HA1.out);have HR2:=jH (jK hb2 HR1.out);have HB2:=jH (a0D HB1.out hb2);obtain ⟨b1,b2,b3⟩:=a0A jR HX2.out;obtain ⟨c1,c2,c3⟩:=a0A jR HC2.out;obtain ⟨d1,d2,d3⟩:=a0A jR HA2.out;obtain ⟨g1,g2,g3⟩:=a0A jR HR2.out;clear hb2 y1 y2 y3;go_simp;go_wp2_with fail
 refine a0B ?_;intro W3 hW3;have hb3:jB w2 W3:=by rw [hW3];first|exact jR|exact a0C jR _|exact jR.drew
 clear hW3;refine (CO.out W3 (a0D HB2.out hb3)).mono ?_;rintro e w5 ⟨z,rfl,hz,habs,hb5⟩;have HZ:=jH hz;have HAB:=jH habs;have hq5:=a0D hb3 hb5;have HB5:=jH (a0D HB2.out hq5);have HA5:=jH (jK hq5 HA2.out);have HR5:=jH (jK hq5 HR2.out);have HLT:=jH (show w.heap.size+1+1+1<W3.heap.size from Nat.lt_of_lt_of_le (jL HR2.out) hb3.size);obtain ⟨e1,e2,e3⟩:=a0A jR HA5.out;obtain ⟨f1,f2,f3⟩:=a0A jR HR5.out
 clear hz habs hb3 hb5 hq5 b1 b2 b3 c1 c2 c3 d1 d2 d3 g1 g2 g3;unfold wdC;go_simp;go_wp2_with fail
 refine a0H ?_;intro W9 hW9;obtain ⟨V,hV⟩:∃V,V=b0J (b0J w5 (w.heap.size+1+1) 0 [.int .i64 c.st,.int .i64 c.sa,.int .i64 c.lo,.int .i64 c.hi,.slice z.sA z.st.length z.sc,.slice z.cA z.cuts.length z.cc,.int .i64 z.ep,.bool z.over]) (w.heap.size+1+1+1) 0 [.int .i64 q.2,.int .i64 0,.int .i64 0,.int .i64 0,.int .i64 0,.int .i64 0,.int .i64 0,.int .i64 0,.int .i64 0,.int .i64 0,.int .i64 0,.int .i64 0,.int .i64 0]:=⟨_,rfl⟩
 have hW9':W9=(b0J (b0J w5 (w.heap.size+1+1) 0 [.int .i64 c.st,.int .i64 c.sa,.int .i64 c.lo,.int .i64 c.hi,.slice z.sA z.st.length z.sc,.slice z.cA z.cuts.length z.cc,.int .i64 z.ep,.bool z.over]) (w.heap.size+1+1+1) 0 [.int .i64 q.2,.int .i64 0,.int .i64 0,.int .i64 0,.int .i64 0,.int .i64 0,.int .i64 0,.int .i64 0,.int .i64 0,.int .i64 0,.int .i64 0,.int .i64 0,.int .i64 0]).alloc (.cells #[.int .i64 c.st,.int .i64 c.sa,.int .i64 c.lo,.int .i64 c.hi,.slice z.sA z.st.length z.sc,.slice z.cA z.cuts.length z.cc,.int .i64 z.ep,.bool z.over] 32 (0,0)):=hW9
 rw [←hV] at hW9';have hd9:jB V W9:=by rw [hW9'];exact a0C jR _
 obtain ⟨S,hS⟩:∃S,S=b0J w5 (w.heap.size+1+1) 0 [.int .i64 c.st,.int .i64 c.sa,.int .i64 c.lo,.int .i64 c.hi,.slice z.sA z.st.length z.sc,.slice z.cA z.cuts.length z.cc,.int .i64 z.ep,.bool z.over]:=⟨_,rfl⟩;rw [←hS] at hV;obtain ⟨s1,s2,s3,s4⟩:=a0P HA5.out [.int .i64 c.st,.int .i64 c.sa,.int .i64 c.lo,.int .i64 c.hi,.slice z.sA z.st.length z.sc,.slice z.cA z.cuts.length z.cc,.int .i64 z.ep,.bool z.over] rfl S hS
 have hr9:=(s2 (w.heap.size+1+1+1) (by omega)).trans HR5.out;obtain ⟨t1,t2,t3,t4⟩:=a0P hr9 [.int .i64 q.2,.int .i64 0,.int .i64 0,.int .i64 0,.int .i64 0,.int .i64 0,.int .i64 0,.int .i64 0,.int .i64 0,.int .i64 0,.int .i64 0,.int .i64 0,.int .i64 0] rfl V hV;have hs1:=(t2 (w.heap.size+1+1) (by omega)).trans s1;obtain ⟨a9,a8,a7⟩:=a0A hd9 hs1;obtain ⟨g9,g8,g7⟩:=a0A hd9 t1;have hk9:∀b,b≠w.heap.size+1+1→b≠w.heap.size+1+1+1→b<w5.heap.size→W9.heap[b]?=w5.heap[b]?:=fun b q1 q2 q3=>(hd9.block b (by rw [t3,s3];exact q3)).trans ((t2 b q2).trans (s2 b q1))
 have hz9:w5.heap.size≤W9.heap.size:=by have:=hd9.size;omega
 have hBV:Below w.heap.size w5 V:=(s4 _ (by omega)).trans (t4 _ (by omega));clear hW9 hW9' hS hV;have hb9:=a0D (HB5.out.trans hBV) hd9;refine bodyPost_ret (v:=.tuple #[.agg #[.int .i64 c.st,.int .i64 c.sa,.int .i64 c.lo,.int .i64 c.hi,.slice z.sA z.st.length z.sc,.slice z.cA z.cuts.length z.cc,.int .i64 z.ep,.bool z.over],.agg #[.int .i64 q.2,.int .i64 0,.int .i64 0,.int .i64 0,.int .i64 0,.int .i64 0,.int .i64 0,.int .i64 0,.int .i64 0,.int .i64 0,.int .i64 0,.int .i64 0,.int .i64 0]]) (by simp [results,Tryz.results16,go_sem,a9,g9]) rfl ?_
 have hlt:=HLT.out;exact ⟨z,by rw [HRR.out];rfl,HZ.out.home (by omega) (fun b hb hlt9=>hk9 b (by omega) (by omega) hlt9),by rw [HRR.out];exact HAB.out,hb9⟩
theorem do21_6 (P:Nat→Prop) (c:Cfg) (rs rh n:Nat) (x:WdH) (id:ByteArray) (tick val handle:Int) (p:Pol) (w:World) (hP:∀b,w.heap.size≤b→P b) (hx:d0U P w x) (hc:f0Y c rs rh) (hst:e0X c.st=true) (hk:g0B c rs rh n (c0O x)) (hn:n≤100000) (hd:c0D.ok ⟨6,id,tick,val,handle,p⟩) (hck:e0Y ⟨6,id,tick,val,handle,p⟩=0) :
 Calls Tryz.prog 16 #[.agg (wdC c x).toArray,b0A ⟨6,id,tick,val,handle,p⟩] w (e0V P w c (doW c rs rh (c0O x) ⟨6,id,tick,val,handle,p⟩)):=by
 obtain ⟨r,hr⟩:∃r,r=doW c rs rh (c0O x) ⟨6,id,tick,val,handle,p⟩:=⟨_,rfl⟩;rw [←hr];unfold doW at hr;rw [if_neg (by rw [hck];simp)] at hr;dsimp only at hr;rw [if_neg (by decide)] at hr;rw [if_neg (by decide)] at hr;rw [if_neg (by decide)] at hr;rw [if_neg (by decide)] at hr;rw [if_neg (by decide)] at hr;rw [if_pos rfl] at hr;have CC:=jH (fun W=>b0T ⟨6,id,tick,val,handle,p⟩ W hd);rw [hck] at CC
 have hst6:c.st≤64:=by have:=c0B _ hst;omega
 have hmm:id.size≤maxLen:=hd.2.1;obtain ⟨q,hq⟩:∃q,q=u0V c rs rh (c0O x) id ⟨2,(0,0),p,c0U⟩:=⟨_,rfl⟩;rw [←hq] at hr;have CO:=jH (fun (W:World) (hW:jB w W)=>show Calls Tryz.prog 50 #[.agg (wdC c x).toArray,.string id,.agg #[.int .i64 2,.int .i64 0,.int .i64 0,.int .i64 p.mn,.int .i64 p.mx,.int .i64 p.tg,.int .i64 p.tol,.int .i64 p.win,.int .i64 p.hold,.int .i64 0,.int .i64 0,.int .i64 0,.int .i64 0,.int .i64 0]] W (s0H (Out P w.heap.size W.heap.size) W c q) from by
  have h9:=o0U (Out P w.heap.size W.heap.size) c rs rh n x id ⟨2,(0,0),p,c0U⟩ W (k0O hP hW.size) (hx.out hW) hc hst hk hn hmm (show ¬(2:Int)<0 by decide) (show (2:Int)≠1 by decide) (show ¬3<(2:Int) by decide);rw [←hq] at h9;exact h9)
 have HX:=jH hx;have HRR:=jH hr;obtain ⟨sA,sc,st,cA,cc,cuts,ep,over⟩:=x;unfold b0A at CC ⊢;unfold wdC at CO ⊢;dsimp only at CC CO ⊢;clear hP hx hc hst hk hn hd hck hr hq hst6 hmm
 go_enter Tryz.func16,Tryz.ntmps16
 go_upto_region 1 with fail
 refine a0I ?_;intro W1 hW1;obtain ⟨k0,k1,k2,k3,hb⟩:=d0I w _ _ _ _ W1 hW1;clear hW1;have HX1:=jH k0;have HC1:=jH k1;have HA1:=jH k2;have HR1:=jH k3;have HB1:=jH hb;obtain ⟨y1,y2,y3⟩:=a0A jR HC1.out;clear k0 k1 k2 k3 hb;go_wp2_with fail
 refine (CC.out W1).mono ?_;rintro e w2 ⟨rfl,hb2⟩;have HX2:=jH (jK hb2 HX1.out);have HC2:=jH (jK hb2 HC1.out);have HA2:=jH (jK hb2 HA1.out);have HR2:=jH (jK hb2 HR1.out);have HB2:=jH (a0D HB1.out hb2);obtain ⟨b1,b2,b3⟩:=a0A jR HX2.out;obtain ⟨c1,c2,c3⟩:=a0A jR HC2.out;obtain ⟨d1,d2,d3⟩:=a0A jR HA2.out;obtain ⟨g1,g2,g3⟩:=a0A jR HR2.out;clear hb2 y1 y2 y3;go_simp;go_wp2_with fail
 refine a0B ?_;intro W3 hW3;have hb3:jB w2 W3:=by rw [hW3];first|exact jR|exact a0C jR _|exact jR.drew
 clear hW3;refine (CO.out W3 (a0D HB2.out hb3)).mono ?_;rintro e w5 ⟨z,rfl,hz,habs,hb5⟩;have HZ:=jH hz;have HAB:=jH habs;have hq5:=a0D hb3 hb5;have HB5:=jH (a0D HB2.out hq5);have HA5:=jH (jK hq5 HA2.out);have HR5:=jH (jK hq5 HR2.out);have HLT:=jH (show w.heap.size+1+1+1<W3.heap.size from Nat.lt_of_lt_of_le (jL HR2.out) hb3.size);obtain ⟨e1,e2,e3⟩:=a0A jR HA5.out;obtain ⟨f1,f2,f3⟩:=a0A jR HR5.out
 clear hz habs hb3 hb5 hq5 b1 b2 b3 c1 c2 c3 d1 d2 d3 g1 g2 g3;unfold wdC;go_simp;go_wp2_with fail
 refine a0H ?_;intro W9 hW9;obtain ⟨V,hV⟩:∃V,V=b0J (b0J w5 (w.heap.size+1+1) 0 [.int .i64 c.st,.int .i64 c.sa,.int .i64 c.lo,.int .i64 c.hi,.slice z.sA z.st.length z.sc,.slice z.cA z.cuts.length z.cc,.int .i64 z.ep,.bool z.over]) (w.heap.size+1+1+1) 0 [.int .i64 q.2,.int .i64 0,.int .i64 0,.int .i64 0,.int .i64 0,.int .i64 0,.int .i64 0,.int .i64 0,.int .i64 0,.int .i64 0,.int .i64 0,.int .i64 0,.int .i64 0]:=⟨_,rfl⟩
 have hW9':W9=(b0J (b0J w5 (w.heap.size+1+1) 0 [.int .i64 c.st,.int .i64 c.sa,.int .i64 c.lo,.int .i64 c.hi,.slice z.sA z.st.length z.sc,.slice z.cA z.cuts.length z.cc,.int .i64 z.ep,.bool z.over]) (w.heap.size+1+1+1) 0 [.int .i64 q.2,.int .i64 0,.int .i64 0,.int .i64 0,.int .i64 0,.int .i64 0,.int .i64 0,.int .i64 0,.int .i64 0,.int .i64 0,.int .i64 0,.int .i64 0,.int .i64 0]).alloc (.cells #[.int .i64 c.st,.int .i64 c.sa,.int .i64 c.lo,.int .i64 c.hi,.slice z.sA z.st.length z.sc,.slice z.cA z.cuts.length z.cc,.int .i64 z.ep,.bool z.over] 32 (0,0)):=hW9
 rw [←hV] at hW9';have hd9:jB V W9:=by rw [hW9'];exact a0C jR _
 obtain ⟨S,hS⟩:∃S,S=b0J w5 (w.heap.size+1+1) 0 [.int .i64 c.st,.int .i64 c.sa,.int .i64 c.lo,.int .i64 c.hi,.slice z.sA z.st.length z.sc,.slice z.cA z.cuts.length z.cc,.int .i64 z.ep,.bool z.over]:=⟨_,rfl⟩;rw [←hS] at hV;obtain ⟨s1,s2,s3,s4⟩:=a0P HA5.out [.int .i64 c.st,.int .i64 c.sa,.int .i64 c.lo,.int .i64 c.hi,.slice z.sA z.st.length z.sc,.slice z.cA z.cuts.length z.cc,.int .i64 z.ep,.bool z.over] rfl S hS
 have hr9:=(s2 (w.heap.size+1+1+1) (by omega)).trans HR5.out;obtain ⟨t1,t2,t3,t4⟩:=a0P hr9 [.int .i64 q.2,.int .i64 0,.int .i64 0,.int .i64 0,.int .i64 0,.int .i64 0,.int .i64 0,.int .i64 0,.int .i64 0,.int .i64 0,.int .i64 0,.int .i64 0,.int .i64 0] rfl V hV;have hs1:=(t2 (w.heap.size+1+1) (by omega)).trans s1;obtain ⟨a9,a8,a7⟩:=a0A hd9 hs1;obtain ⟨g9,g8,g7⟩:=a0A hd9 t1;have hk9:∀b,b≠w.heap.size+1+1→b≠w.heap.size+1+1+1→b<w5.heap.size→W9.heap[b]?=w5.heap[b]?:=fun b q1 q2 q3=>(hd9.block b (by rw [t3,s3];exact q3)).trans ((t2 b q2).trans (s2 b q1))
 have hz9:w5.heap.size≤W9.heap.size:=by have:=hd9.size;omega
 have hBV:Below w.heap.size w5 V:=(s4 _ (by omega)).trans (t4 _ (by omega));clear hW9 hW9' hS hV;have hb9:=a0D (HB5.out.trans hBV) hd9;refine bodyPost_ret (v:=.tuple #[.agg #[.int .i64 c.st,.int .i64 c.sa,.int .i64 c.lo,.int .i64 c.hi,.slice z.sA z.st.length z.sc,.slice z.cA z.cuts.length z.cc,.int .i64 z.ep,.bool z.over],.agg #[.int .i64 q.2,.int .i64 0,.int .i64 0,.int .i64 0,.int .i64 0,.int .i64 0,.int .i64 0,.int .i64 0,.int .i64 0,.int .i64 0,.int .i64 0,.int .i64 0,.int .i64 0]]) (by simp [results,Tryz.results16,go_sem,a9,g9]) rfl ?_
 have hlt:=HLT.out;exact ⟨z,by rw [HRR.out];rfl,HZ.out.home (by omega) (fun b hb hlt9=>hk9 b (by omega) (by omega) hlt9),by rw [HRR.out];exact HAB.out,hb9⟩
theorem do21_2 (P:Nat→Prop) (c:Cfg) (rs rh n:Nat) (x:WdH) (id:ByteArray) (tick val handle:Int) (p:Pol) (w:World) (hP:∀b,w.heap.size≤b→P b) (hx:d0U P w x) (hc:f0Y c rs rh) (hst:e0X c.st=true) (hk:g0B c rs rh n (c0O x)) (hn:n≤100000) (hd:c0D.ok ⟨2,id,tick,val,handle,p⟩) (hck:e0Y ⟨2,id,tick,val,handle,p⟩=0) :
 Calls Tryz.prog 16 #[.agg (wdC c x).toArray,b0A ⟨2,id,tick,val,handle,p⟩] w (e0V P w c (doW c rs rh (c0O x) ⟨2,id,tick,val,handle,p⟩)):=by
 obtain ⟨r,hr⟩:∃r,r=doW c rs rh (c0O x) ⟨2,id,tick,val,handle,p⟩:=⟨_,rfl⟩;rw [←hr];unfold doW at hr;rw [if_neg (by rw [hck];simp)] at hr;dsimp only at hr;rw [if_neg (by decide)] at hr;rw [if_pos rfl] at hr;have CC:=jH (fun W=>b0T ⟨2,id,tick,val,handle,p⟩ W hd);rw [hck] at CC;have hst6:c.st≤64:=by have:=c0B _ hst;omega
 have hmm:id.size≤maxLen:=hd.2.1;obtain ⟨q,hq⟩:∃q,q=q0I (c0O x) tick:=⟨_,rfl⟩;rw [←hq] at hr;have CO:=jH (fun (W:World) (hW:jB w W)=>show Calls Tryz.prog 51 #[.agg (wdC c x).toArray,.int .i64 tick] W (t0A (Out P w.heap.size W.heap.size) W c q) from hq ▸ e1G (Out P w.heap.size W.heap.size) c rs rh n x tick W (k0O hP hW.size) (hx.out hW) hc hst6 hk hn);have HX:=jH hx;have HRR:=jH hr
 obtain ⟨sA,sc,st,cA,cc,cuts,ep,over⟩:=x;unfold b0A at CC ⊢;unfold wdC at CO ⊢;dsimp only at CC CO ⊢;clear hP hx hc hst hk hn hd hck hr hq hst6 hmm
 go_enter Tryz.func16,Tryz.ntmps16
 go_upto_region 1 with fail
 refine a0I ?_;intro W1 hW1;obtain ⟨k0,k1,k2,k3,hb⟩:=d0I w _ _ _ _ W1 hW1;clear hW1;have HX1:=jH k0;have HC1:=jH k1;have HA1:=jH k2;have HR1:=jH k3;have HB1:=jH hb;obtain ⟨y1,y2,y3⟩:=a0A jR HC1.out;clear k0 k1 k2 k3 hb;go_wp2_with fail
 refine (CC.out W1).mono ?_;rintro e w2 ⟨rfl,hb2⟩;have HX2:=jH (jK hb2 HX1.out);have HC2:=jH (jK hb2 HC1.out);have HA2:=jH (jK hb2 HA1.out);have HR2:=jH (jK hb2 HR1.out);have HB2:=jH (a0D HB1.out hb2);obtain ⟨b1,b2,b3⟩:=a0A jR HX2.out;obtain ⟨c1,c2,c3⟩:=a0A jR HC2.out;obtain ⟨d1,d2,d3⟩:=a0A jR HA2.out;obtain ⟨g1,g2,g3⟩:=a0A jR HR2.out;clear hb2 y1 y2 y3;go_simp;go_wp2_with fail
 refine a0B ?_;intro W3 hW3;have hb3:jB w2 W3:=by rw [hW3];first|exact jR|exact a0C jR _|exact jR.drew
 clear hW3;refine (CO.out W3 (a0D HB2.out hb3)).mono ?_;rintro e w5 ⟨z,rfl,hz,habs,hb5⟩;have HZ:=jH hz;have HAB:=jH habs;have hq5:=a0D hb3 hb5;have HB5:=jH (a0D HB2.out hq5);have HA5:=jH (jK hq5 HA2.out);have HR5:=jH (jK hq5 HR2.out);have HLT:=jH (show w.heap.size+1+1+1<W3.heap.size from Nat.lt_of_lt_of_le (jL HR2.out) hb3.size);obtain ⟨e1,e2,e3⟩:=a0A jR HA5.out;obtain ⟨f1,f2,f3⟩:=a0A jR HR5.out
 clear hz habs hb3 hb5 hq5 b1 b2 b3 c1 c2 c3 d1 d2 d3 g1 g2 g3;unfold wdC;go_simp;go_wp2_with fail
 refine a0H ?_;intro W9 hW9;obtain ⟨V,hV⟩:∃V,V=b0J (b0J w5 (w.heap.size+1+1) 0 [.int .i64 c.st,.int .i64 c.sa,.int .i64 c.lo,.int .i64 c.hi,.slice z.sA z.st.length z.sc,.slice z.cA z.cuts.length z.cc,.int .i64 z.ep,.bool z.over]) (w.heap.size+1+1+1) 0 [.int .i64 0,.int .i64 0,.int .i64 0,.int .i64 0,.int .i64 0,.int .i64 0,.int .i64 0,.int .i64 0,.int .i64 0,.int .i64 0,.int .i64 0,.int .i64 0,.int .i64 0]:=⟨_,rfl⟩
 have hW9':W9=b0J (b0J w5 (w.heap.size+1+1) 0 [.int .i64 c.st,.int .i64 c.sa,.int .i64 c.lo,.int .i64 c.hi,.slice z.sA z.st.length z.sc,.slice z.cA z.cuts.length z.cc,.int .i64 z.ep,.bool z.over]) (w.heap.size+1+1+1) 0 [.int .i64 0,.int .i64 0,.int .i64 0,.int .i64 0,.int .i64 0,.int .i64 0,.int .i64 0,.int .i64 0,.int .i64 0,.int .i64 0,.int .i64 0,.int .i64 0,.int .i64 0]:=hW9;rw [←hV] at hW9'
 have hd9:jB V W9:=by rw [hW9'];exact jR
 obtain ⟨S,hS⟩:∃S,S=b0J w5 (w.heap.size+1+1) 0 [.int .i64 c.st,.int .i64 c.sa,.int .i64 c.lo,.int .i64 c.hi,.slice z.sA z.st.length z.sc,.slice z.cA z.cuts.length z.cc,.int .i64 z.ep,.bool z.over]:=⟨_,rfl⟩;rw [←hS] at hV;obtain ⟨s1,s2,s3,s4⟩:=a0P HA5.out [.int .i64 c.st,.int .i64 c.sa,.int .i64 c.lo,.int .i64 c.hi,.slice z.sA z.st.length z.sc,.slice z.cA z.cuts.length z.cc,.int .i64 z.ep,.bool z.over] rfl S hS
 have hr9:=(s2 (w.heap.size+1+1+1) (by omega)).trans HR5.out;obtain ⟨t1,t2,t3,t4⟩:=a0P hr9 [.int .i64 0,.int .i64 0,.int .i64 0,.int .i64 0,.int .i64 0,.int .i64 0,.int .i64 0,.int .i64 0,.int .i64 0,.int .i64 0,.int .i64 0,.int .i64 0,.int .i64 0] rfl V hV;have hs1:=(t2 (w.heap.size+1+1) (by omega)).trans s1;obtain ⟨a9,a8,a7⟩:=a0A hd9 hs1;obtain ⟨g9,g8,g7⟩:=a0A hd9 t1;have hk9:∀b,b≠w.heap.size+1+1→b≠w.heap.size+1+1+1→b<w5.heap.size→W9.heap[b]?=w5.heap[b]?:=fun b q1 q2 q3=>(hd9.block b (by rw [t3,s3];exact q3)).trans ((t2 b q2).trans (s2 b q1))
 have hz9:w5.heap.size≤W9.heap.size:=by have:=hd9.size;omega
 have hBV:Below w.heap.size w5 V:=(s4 _ (by omega)).trans (t4 _ (by omega));clear hW9 hW9' hS hV;have hb9:=a0D (HB5.out.trans hBV) hd9;refine bodyPost_ret (v:=.tuple #[.agg #[.int .i64 c.st,.int .i64 c.sa,.int .i64 c.lo,.int .i64 c.hi,.slice z.sA z.st.length z.sc,.slice z.cA z.cuts.length z.cc,.int .i64 z.ep,.bool z.over],.agg #[.int .i64 0,.int .i64 0,.int .i64 0,.int .i64 0,.int .i64 0,.int .i64 0,.int .i64 0,.int .i64 0,.int .i64 0,.int .i64 0,.int .i64 0,.int .i64 0,.int .i64 0]]) (by simp [results,Tryz.results16,go_sem,a9,g9]) rfl ?_
 have hlt:=HLT.out;exact ⟨z,by rw [HRR.out];rfl,HZ.out.home (by omega) (fun b hb hlt9=>hk9 b (by omega) (by omega) hlt9),by rw [HRR.out];exact HAB.out,hb9⟩
theorem do21_3 (P:Nat→Prop) (c:Cfg) (rs rh n:Nat) (x:WdH) (id:ByteArray) (tick val handle:Int) (p:Pol) (w:World) (hP:∀b,w.heap.size≤b→P b) (hx:d0U P w x) (hc:f0Y c rs rh) (hst:e0X c.st=true) (hk:g0B c rs rh n (c0O x)) (hn:n≤100000) (hd:c0D.ok ⟨3,id,tick,val,handle,p⟩) (hck:e0Y ⟨3,id,tick,val,handle,p⟩=0) :
 Calls Tryz.prog 16 #[.agg (wdC c x).toArray,b0A ⟨3,id,tick,val,handle,p⟩] w (e0V P w c (doW c rs rh (c0O x) ⟨3,id,tick,val,handle,p⟩)):=by
 obtain ⟨r,hr⟩:∃r,r=doW c rs rh (c0O x) ⟨3,id,tick,val,handle,p⟩:=⟨_,rfl⟩;rw [←hr];unfold doW at hr;rw [if_neg (by rw [hck];simp)] at hr;dsimp only at hr;rw [if_neg (by decide)] at hr;rw [if_neg (by decide)] at hr;rw [if_pos rfl] at hr;have CC:=jH (fun W=>b0T ⟨3,id,tick,val,handle,p⟩ W hd);rw [hck] at CC;have hst6:c.st≤64:=by have:=c0B _ hst;omega
 have hmm:id.size≤maxLen:=hd.2.1;obtain ⟨q,hq⟩:∃q,q=j0B (c0O x):=⟨_,rfl⟩;rw [←hq] at hr;have CO:=jH (fun (W:World) (hW:jB w W)=>show Calls Tryz.prog 52 #[.agg (wdC c x).toArray] W (e0V (Out P w.heap.size W.heap.size) W c q) from hq ▸ e1L (Out P w.heap.size W.heap.size) c rs rh n x W (k0O hP hW.size) (hx.out hW) hst6 hk hn);have HX:=jH hx;have HRR:=jH hr;obtain ⟨sA,sc,st,cA,cc,cuts,ep,over⟩:=x
 unfold b0A at CC ⊢;unfold wdC at CO ⊢;dsimp only at CC CO ⊢;clear hP hx hc hst hk hn hd hck hr hq hst6 hmm
 go_enter Tryz.func16,Tryz.ntmps16
 go_upto_region 1 with fail
 refine a0I ?_;intro W1 hW1;obtain ⟨k0,k1,k2,k3,hb⟩:=d0I w _ _ _ _ W1 hW1;clear hW1;have HX1:=jH k0;have HC1:=jH k1;have HA1:=jH k2;have HR1:=jH k3;have HB1:=jH hb;obtain ⟨y1,y2,y3⟩:=a0A jR HC1.out;clear k0 k1 k2 k3 hb;go_wp2_with fail
 refine (CC.out W1).mono ?_;rintro e w2 ⟨rfl,hb2⟩;have HX2:=jH (jK hb2 HX1.out);have HC2:=jH (jK hb2 HC1.out);have HA2:=jH (jK hb2 HA1.out);have HR2:=jH (jK hb2 HR1.out);have HB2:=jH (a0D HB1.out hb2);obtain ⟨b1,b2,b3⟩:=a0A jR HX2.out;obtain ⟨c1,c2,c3⟩:=a0A jR HC2.out;obtain ⟨d1,d2,d3⟩:=a0A jR HA2.out;obtain ⟨g1,g2,g3⟩:=a0A jR HR2.out;clear hb2 y1 y2 y3;go_simp;go_wp2_with fail
 refine a0B ?_;intro W3 hW3;have hb3:jB w2 W3:=by rw [hW3];first|exact jR|exact a0C jR _|exact jR.drew
 clear hW3;refine (CO.out W3 (a0D HB2.out hb3)).mono ?_;rintro e w5 ⟨z,rfl,hz,habs,hb5⟩;have HZ:=jH hz;have HAB:=jH habs;have hq5:=a0D hb3 hb5;have HB5:=jH (a0D HB2.out hq5);have HA5:=jH (jK hq5 HA2.out);have HR5:=jH (jK hq5 HR2.out);have HLT:=jH (show w.heap.size+1+1+1<W3.heap.size from Nat.lt_of_lt_of_le (jL HR2.out) hb3.size);obtain ⟨e1,e2,e3⟩:=a0A jR HA5.out;obtain ⟨f1,f2,f3⟩:=a0A jR HR5.out
 clear hz habs hb3 hb5 hq5 b1 b2 b3 c1 c2 c3 d1 d2 d3 g1 g2 g3;unfold wdC d0S e0I;go_simp;go_wp2_with fail
 refine a0H ?_;intro W9 hW9;obtain ⟨V,hV⟩:∃V,V=b0J (b0J w5 (w.heap.size+1+1) 0 [.int .i64 c.st,.int .i64 c.sa,.int .i64 c.lo,.int .i64 c.hi,.slice z.sA z.st.length z.sc,.slice z.cA z.cuts.length z.cc,.int .i64 z.ep,.bool z.over]) (w.heap.size+1+1+1) 0 [.int .i64 q.2.err,.int .i64 q.2.ep,.int .i64 q.2.hd,.int .i64 q.2.st.cnt,.int .i64 q.2.st.sum,.int .i64 q.2.st.least,.int .i64 q.2.st.most,.int .i64 q.2.st.mean,.int .i64 q.2.adv.tick,.int .i64 q.2.adv.load,.int .i64 q.2.adv.want,.int .i64 q.2.adv.repl,.int .i64 q.2.adv.why]:=⟨_,rfl⟩
 have hW9':W9=b0J (b0J w5 (w.heap.size+1+1) 0 [.int .i64 c.st,.int .i64 c.sa,.int .i64 c.lo,.int .i64 c.hi,.slice z.sA z.st.length z.sc,.slice z.cA z.cuts.length z.cc,.int .i64 z.ep,.bool z.over]) (w.heap.size+1+1+1) 0 [.int .i64 q.2.err,.int .i64 q.2.ep,.int .i64 q.2.hd,.int .i64 q.2.st.cnt,.int .i64 q.2.st.sum,.int .i64 q.2.st.least,.int .i64 q.2.st.most,.int .i64 q.2.st.mean,.int .i64 q.2.adv.tick,.int .i64 q.2.adv.load,.int .i64 q.2.adv.want,.int .i64 q.2.adv.repl,.int .i64 q.2.adv.why]:=hW9
 rw [←hV] at hW9';have hd9:jB V W9:=by rw [hW9'];exact jR
 obtain ⟨S,hS⟩:∃S,S=b0J w5 (w.heap.size+1+1) 0 [.int .i64 c.st,.int .i64 c.sa,.int .i64 c.lo,.int .i64 c.hi,.slice z.sA z.st.length z.sc,.slice z.cA z.cuts.length z.cc,.int .i64 z.ep,.bool z.over]:=⟨_,rfl⟩;rw [←hS] at hV;obtain ⟨s1,s2,s3,s4⟩:=a0P HA5.out [.int .i64 c.st,.int .i64 c.sa,.int .i64 c.lo,.int .i64 c.hi,.slice z.sA z.st.length z.sc,.slice z.cA z.cuts.length z.cc,.int .i64 z.ep,.bool z.over] rfl S hS
 have hr9:=(s2 (w.heap.size+1+1+1) (by omega)).trans HR5.out;obtain ⟨t1,t2,t3,t4⟩:=a0P hr9 [.int .i64 q.2.err,.int .i64 q.2.ep,.int .i64 q.2.hd,.int .i64 q.2.st.cnt,.int .i64 q.2.st.sum,.int .i64 q.2.st.least,.int .i64 q.2.st.most,.int .i64 q.2.st.mean,.int .i64 q.2.adv.tick,.int .i64 q.2.adv.load,.int .i64 q.2.adv.want,.int .i64 q.2.adv.repl,.int .i64 q.2.adv.why] rfl V hV;have hs1:=(t2 (w.heap.size+1+1) (by omega)).trans s1
 obtain ⟨a9,a8,a7⟩:=a0A hd9 hs1;obtain ⟨g9,g8,g7⟩:=a0A hd9 t1;have hk9:∀b,b≠w.heap.size+1+1→b≠w.heap.size+1+1+1→b<w5.heap.size→W9.heap[b]?=w5.heap[b]?:=fun b q1 q2 q3=>(hd9.block b (by rw [t3,s3];exact q3)).trans ((t2 b q2).trans (s2 b q1))
 have hz9:w5.heap.size≤W9.heap.size:=by have:=hd9.size;omega
 have hBV:Below w.heap.size w5 V:=(s4 _ (by omega)).trans (t4 _ (by omega));clear hW9 hW9' hS hV;have hb9:=a0D (HB5.out.trans hBV) hd9;refine bodyPost_ret (v:=.tuple #[.agg #[.int .i64 c.st,.int .i64 c.sa,.int .i64 c.lo,.int .i64 c.hi,.slice z.sA z.st.length z.sc,.slice z.cA z.cuts.length z.cc,.int .i64 z.ep,.bool z.over],.agg #[.int .i64 q.2.err,.int .i64 q.2.ep,.int .i64 q.2.hd,.int .i64 q.2.st.cnt,.int .i64 q.2.st.sum,.int .i64 q.2.st.least,.int .i64 q.2.st.most,.int .i64 q.2.st.mean,.int .i64 q.2.adv.tick,.int .i64 q.2.adv.load,.int .i64 q.2.adv.want,.int .i64 q.2.adv.repl,.int .i64 q.2.adv.why]]) (by simp [results,Tryz.results16,go_sem,a9,g9]) rfl ?_
 have hlt:=HLT.out;exact ⟨z,by rw [HRR.out];rfl,HZ.out.home (by omega) (fun b hb hlt9=>hk9 b (by omega) (by omega) hlt9),by rw [HRR.out];exact HAB.out,hb9⟩
theorem do21_4 (P:Nat→Prop) (c:Cfg) (rs rh n:Nat) (x:WdH) (id:ByteArray) (tick val handle:Int) (p:Pol) (w:World) (hP:∀b,w.heap.size≤b→P b) (hx:d0U P w x) (hc:f0Y c rs rh) (hst:e0X c.st=true) (hk:g0B c rs rh n (c0O x)) (hn:n≤100000) (hd:c0D.ok ⟨4,id,tick,val,handle,p⟩) (hck:e0Y ⟨4,id,tick,val,handle,p⟩=0) :
 Calls Tryz.prog 16 #[.agg (wdC c x).toArray,b0A ⟨4,id,tick,val,handle,p⟩] w (e0V P w c (doW c rs rh (c0O x) ⟨4,id,tick,val,handle,p⟩)):=by
 obtain ⟨r,hr⟩:∃r,r=doW c rs rh (c0O x) ⟨4,id,tick,val,handle,p⟩:=⟨_,rfl⟩;rw [←hr];unfold doW at hr;rw [if_neg (by rw [hck];simp)] at hr;dsimp only at hr;rw [if_neg (by decide)] at hr;rw [if_neg (by decide)] at hr;rw [if_neg (by decide)] at hr;rw [if_pos rfl] at hr;have CC:=jH (fun W=>b0T ⟨4,id,tick,val,handle,p⟩ W hd);rw [hck] at CC;have hst6:c.st≤64:=by have:=c0B _ hst;omega
 have hmm:id.size≤maxLen:=hd.2.1;obtain ⟨q,hq⟩:∃q,q=l0Z (c0O x) handle:=⟨_,rfl⟩;rw [←hq] at hr;have CO:=jH (fun (W:World) (hW:jB w W)=>show Calls Tryz.prog 53 #[.agg (wdC c x).toArray,.int .i64 handle] W (e0V (Out P w.heap.size W.heap.size) W c q) from hq ▸ e1E (Out P w.heap.size W.heap.size) c rs rh n x handle W (k0O hP hW.size) (hx.out hW) hk hn);have HX:=jH hx;have HRR:=jH hr;obtain ⟨sA,sc,st,cA,cc,cuts,ep,over⟩:=x
 unfold b0A at CC ⊢;unfold wdC at CO ⊢;dsimp only at CC CO ⊢;clear hP hx hc hst hk hn hd hck hr hq hst6 hmm
 go_enter Tryz.func16,Tryz.ntmps16
 go_upto_region 1 with fail
 refine a0I ?_;intro W1 hW1;obtain ⟨k0,k1,k2,k3,hb⟩:=d0I w _ _ _ _ W1 hW1;clear hW1;have HX1:=jH k0;have HC1:=jH k1;have HA1:=jH k2;have HR1:=jH k3;have HB1:=jH hb;obtain ⟨y1,y2,y3⟩:=a0A jR HC1.out;clear k0 k1 k2 k3 hb;go_wp2_with fail
 refine (CC.out W1).mono ?_;rintro e w2 ⟨rfl,hb2⟩;have HX2:=jH (jK hb2 HX1.out);have HC2:=jH (jK hb2 HC1.out);have HA2:=jH (jK hb2 HA1.out);have HR2:=jH (jK hb2 HR1.out);have HB2:=jH (a0D HB1.out hb2);obtain ⟨b1,b2,b3⟩:=a0A jR HX2.out;obtain ⟨c1,c2,c3⟩:=a0A jR HC2.out;obtain ⟨d1,d2,d3⟩:=a0A jR HA2.out;obtain ⟨g1,g2,g3⟩:=a0A jR HR2.out;clear hb2 y1 y2 y3;go_simp;go_wp2_with fail
 refine a0B ?_;intro W3 hW3;have hb3:jB w2 W3:=by rw [hW3];first|exact jR|exact a0C jR _|exact jR.drew
 clear hW3;refine (CO.out W3 (a0D HB2.out hb3)).mono ?_;rintro e w5 ⟨z,rfl,hz,habs,hb5⟩;have HZ:=jH hz;have HAB:=jH habs;have hq5:=a0D hb3 hb5;have HB5:=jH (a0D HB2.out hq5);have HA5:=jH (jK hq5 HA2.out);have HR5:=jH (jK hq5 HR2.out);have HLT:=jH (show w.heap.size+1+1+1<W3.heap.size from Nat.lt_of_lt_of_le (jL HR2.out) hb3.size);obtain ⟨e1,e2,e3⟩:=a0A jR HA5.out;obtain ⟨f1,f2,f3⟩:=a0A jR HR5.out
 clear hz habs hb3 hb5 hq5 b1 b2 b3 c1 c2 c3 d1 d2 d3 g1 g2 g3;unfold wdC d0S e0I;go_simp;go_wp2_with fail
 refine a0H ?_;intro W9 hW9;obtain ⟨V,hV⟩:∃V,V=b0J (b0J w5 (w.heap.size+1+1) 0 [.int .i64 c.st,.int .i64 c.sa,.int .i64 c.lo,.int .i64 c.hi,.slice z.sA z.st.length z.sc,.slice z.cA z.cuts.length z.cc,.int .i64 z.ep,.bool z.over]) (w.heap.size+1+1+1) 0 [.int .i64 q.2.err,.int .i64 q.2.ep,.int .i64 q.2.hd,.int .i64 q.2.st.cnt,.int .i64 q.2.st.sum,.int .i64 q.2.st.least,.int .i64 q.2.st.most,.int .i64 q.2.st.mean,.int .i64 q.2.adv.tick,.int .i64 q.2.adv.load,.int .i64 q.2.adv.want,.int .i64 q.2.adv.repl,.int .i64 q.2.adv.why]:=⟨_,rfl⟩
 have hW9':W9=b0J (b0J w5 (w.heap.size+1+1) 0 [.int .i64 c.st,.int .i64 c.sa,.int .i64 c.lo,.int .i64 c.hi,.slice z.sA z.st.length z.sc,.slice z.cA z.cuts.length z.cc,.int .i64 z.ep,.bool z.over]) (w.heap.size+1+1+1) 0 [.int .i64 q.2.err,.int .i64 q.2.ep,.int .i64 q.2.hd,.int .i64 q.2.st.cnt,.int .i64 q.2.st.sum,.int .i64 q.2.st.least,.int .i64 q.2.st.most,.int .i64 q.2.st.mean,.int .i64 q.2.adv.tick,.int .i64 q.2.adv.load,.int .i64 q.2.adv.want,.int .i64 q.2.adv.repl,.int .i64 q.2.adv.why]:=hW9
 rw [←hV] at hW9';have hd9:jB V W9:=by rw [hW9'];exact jR
 obtain ⟨S,hS⟩:∃S,S=b0J w5 (w.heap.size+1+1) 0 [.int .i64 c.st,.int .i64 c.sa,.int .i64 c.lo,.int .i64 c.hi,.slice z.sA z.st.length z.sc,.slice z.cA z.cuts.length z.cc,.int .i64 z.ep,.bool z.over]:=⟨_,rfl⟩;rw [←hS] at hV;obtain ⟨s1,s2,s3,s4⟩:=a0P HA5.out [.int .i64 c.st,.int .i64 c.sa,.int .i64 c.lo,.int .i64 c.hi,.slice z.sA z.st.length z.sc,.slice z.cA z.cuts.length z.cc,.int .i64 z.ep,.bool z.over] rfl S hS
 have hr9:=(s2 (w.heap.size+1+1+1) (by omega)).trans HR5.out;obtain ⟨t1,t2,t3,t4⟩:=a0P hr9 [.int .i64 q.2.err,.int .i64 q.2.ep,.int .i64 q.2.hd,.int .i64 q.2.st.cnt,.int .i64 q.2.st.sum,.int .i64 q.2.st.least,.int .i64 q.2.st.most,.int .i64 q.2.st.mean,.int .i64 q.2.adv.tick,.int .i64 q.2.adv.load,.int .i64 q.2.adv.want,.int .i64 q.2.adv.repl,.int .i64 q.2.adv.why] rfl V hV;have hs1:=(t2 (w.heap.size+1+1) (by omega)).trans s1
 obtain ⟨a9,a8,a7⟩:=a0A hd9 hs1;obtain ⟨g9,g8,g7⟩:=a0A hd9 t1;have hk9:∀b,b≠w.heap.size+1+1→b≠w.heap.size+1+1+1→b<w5.heap.size→W9.heap[b]?=w5.heap[b]?:=fun b q1 q2 q3=>(hd9.block b (by rw [t3,s3];exact q3)).trans ((t2 b q2).trans (s2 b q1))
 have hz9:w5.heap.size≤W9.heap.size:=by have:=hd9.size;omega
 have hBV:Below w.heap.size w5 V:=(s4 _ (by omega)).trans (t4 _ (by omega));clear hW9 hW9' hS hV;have hb9:=a0D (HB5.out.trans hBV) hd9;refine bodyPost_ret (v:=.tuple #[.agg #[.int .i64 c.st,.int .i64 c.sa,.int .i64 c.lo,.int .i64 c.hi,.slice z.sA z.st.length z.sc,.slice z.cA z.cuts.length z.cc,.int .i64 z.ep,.bool z.over],.agg #[.int .i64 q.2.err,.int .i64 q.2.ep,.int .i64 q.2.hd,.int .i64 q.2.st.cnt,.int .i64 q.2.st.sum,.int .i64 q.2.st.least,.int .i64 q.2.st.most,.int .i64 q.2.st.mean,.int .i64 q.2.adv.tick,.int .i64 q.2.adv.load,.int .i64 q.2.adv.want,.int .i64 q.2.adv.repl,.int .i64 q.2.adv.why]]) (by simp [results,Tryz.results16,go_sem,a9,g9]) rfl ?_
 have hlt:=HLT.out;exact ⟨z,by rw [HRR.out];rfl,HZ.out.home (by omega) (fun b hb hlt9=>hk9 b (by omega) (by omega) hlt9),by rw [HRR.out];exact HAB.out,hb9⟩
theorem do21_5 (P:Nat→Prop) (c:Cfg) (rs rh n:Nat) (x:WdH) (id:ByteArray) (tick val handle:Int) (p:Pol) (w:World) (hP:∀b,w.heap.size≤b→P b) (hx:d0U P w x) (hc:f0Y c rs rh) (hst:e0X c.st=true) (hk:g0B c rs rh n (c0O x)) (hn:n≤100000) (hd:c0D.ok ⟨5,id,tick,val,handle,p⟩) (hck:e0Y ⟨5,id,tick,val,handle,p⟩=0) :
 Calls Tryz.prog 16 #[.agg (wdC c x).toArray,b0A ⟨5,id,tick,val,handle,p⟩] w (e0V P w c (doW c rs rh (c0O x) ⟨5,id,tick,val,handle,p⟩)):=by
 obtain ⟨r,hr⟩:∃r,r=doW c rs rh (c0O x) ⟨5,id,tick,val,handle,p⟩:=⟨_,rfl⟩;rw [←hr];unfold doW at hr;rw [if_neg (by rw [hck];simp)] at hr;dsimp only at hr;rw [if_neg (by decide)] at hr;rw [if_neg (by decide)] at hr;rw [if_neg (by decide)] at hr;rw [if_neg (by decide)] at hr;rw [if_pos rfl] at hr;have CC:=jH (fun W=>b0T ⟨5,id,tick,val,handle,p⟩ W hd);rw [hck] at CC;have hst6:c.st≤64:=by have:=c0B _ hst;omega
 have hmm:id.size≤maxLen:=hd.2.1;obtain ⟨q,hq⟩:∃q,q=f1P (c0O x) ⟨5,id,tick,val,handle,p⟩:=⟨_,rfl⟩;rw [←hq] at hr;have CO:=jH (fun (W:World) (hW:jB w W)=>show Calls Tryz.prog 54 #[.agg (wdC c x).toArray,.agg #[.int .i64 5,.string id,.int .i64 tick,.int .i64 val,.int .i64 handle,.int .i64 p.mn,.int .i64 p.mx,.int .i64 p.tg,.int .i64 p.tol,.int .i64 p.win,.int .i64 p.hold]] W (jP W (.agg #[.int .i64 q.err,.int .i64 q.ep,.int .i64 q.hd,.int .i64 q.st.cnt,.int .i64 q.st.sum,.int .i64 q.st.least,.int .i64 q.st.most,.int .i64 q.st.mean,.int .i64 q.adv.tick,.int .i64 q.adv.load,.int .i64 q.adv.want,.int .i64 q.adv.repl,.int .i64 q.adv.why])) from by
  have h9:=d1W P c rs rh n x ⟨5,id,tick,val,handle,p⟩ W (hx.below hW) hst6 hk hn (by have:=hc.r2;have:=hc.h2;omega) hd;rw [←hq] at h9;exact h9)
 have HX:=jH hx;have HRR:=jH hr;obtain ⟨sA,sc,st,cA,cc,cuts,ep,over⟩:=x;unfold b0A at CC ⊢;unfold wdC at CO ⊢;dsimp only at CC CO ⊢;clear hP hx hc hst hk hn hd hck hr hq hst6 hmm
 go_enter Tryz.func16,Tryz.ntmps16
 go_upto_region 1 with fail
 refine a0I ?_;intro W1 hW1;obtain ⟨k0,k1,k2,k3,hb⟩:=d0I w _ _ _ _ W1 hW1;clear hW1;have HX1:=jH k0;have HC1:=jH k1;have HA1:=jH k2;have HR1:=jH k3;have HB1:=jH hb;obtain ⟨y1,y2,y3⟩:=a0A jR HC1.out;clear k0 k1 k2 k3 hb;go_wp2_with fail
 refine (CC.out W1).mono ?_;rintro e w2 ⟨rfl,hb2⟩;have HX2:=jH (jK hb2 HX1.out);have HC2:=jH (jK hb2 HC1.out);have HA2:=jH (jK hb2 HA1.out);have HR2:=jH (jK hb2 HR1.out);have HB2:=jH (a0D HB1.out hb2);obtain ⟨b1,b2,b3⟩:=a0A jR HX2.out;obtain ⟨c1,c2,c3⟩:=a0A jR HC2.out;obtain ⟨d1,d2,d3⟩:=a0A jR HA2.out;obtain ⟨g1,g2,g3⟩:=a0A jR HR2.out;clear hb2 y1 y2 y3;go_simp
 go_upto_region 15 with fail
 have rx2:∀U,jB w2 U→∀i,U.cell? ⟨w.heap.size,i,none⟩=(#[.int .i64 c.st,.int .i64 c.sa,.int .i64 c.lo,.int .i64 c.hi,.slice sA st.length sc,.slice cA cuts.length cc,.int .i64 ep,.bool over]:Array Value)[i]?:=fun U hU=>(a0A hU HX2.out).1
 have ry2:∀U,jB w2 U→∀i,U.cell? ⟨w.heap.size+1,i,none⟩=(#[.int .i64 5,.string id,.int .i64 tick,.int .i64 val,.int .i64 handle,.int .i64 p.mn,.int .i64 p.mx,.int .i64 p.tg,.int .i64 p.tol,.int .i64 p.win,.int .i64 p.hold]:Array Value)[i]?:=fun U hU=>(a0A hU HC2.out).1
 clear b1 b2 b3 c1 c2 c3 d1 d2 d3 g1 g2 g3;refine d0E (S:=(fun U=>jB w2 U)) 4 (by kernel_rfl) ?hS1 (fun hHeld=>?_)
 case hS1=>(first|exact jR.drew|exact HQ5.out|(exfalso;rename_i hx;exact nomatch (show (true:Bool)=false from hx)))
 refine a0L (i:=0) (v:=?v2) rfl (by kernel_rfl) (by kernel_rfl) (by kernel_rfl) (by kernel_rfl) (fun _ _ _ h=>h) (Or.inl ⟨by rfl,?hy2⟩) (by assumption) ?_
 case hy2 =>
  intro w' hSw
  (try dsimp only at hSw)
  go_simp
  try (with_reducible rfl)
 try simp only [Act.put,jA]
 refine a0L (i:=1) (v:=?v3) rfl (by kernel_rfl) (by kernel_rfl) (by kernel_rfl) (by kernel_rfl) (fun _ _ _ h=>h) (Or.inl ⟨by rfl,?hy3⟩) (by assumption) ?_
 case hy3 =>
  intro w' hSw
  (try dsimp only at hSw)
  go_simp
  try (with_reducible rfl)
 try simp only [Act.put,jA]
 refine a0L (i:=2) (v:=?v4) rfl (by kernel_rfl) (by kernel_rfl) (by kernel_rfl) (by kernel_rfl) (fun _ _ _ h=>h) (Or.inl ⟨by rfl,?hy4⟩) (by assumption) ?_
 case hy4 =>
  intro w' hSw
  (try dsimp only at hSw)
  go_simp
  try (with_reducible rfl)
 try simp only [Act.put,jA]
 refine a0W (i:=3) (by kernel_rfl) rfl (fun K hK=>?_);go_simp
 (go_at_call 54
  refine a0B ?_;intro W3 hW3;have hb3:jB w2 W3:=by rw [hW3];first|exact jR|exact jR.drew|exact a0F jR _
  clear hW3;refine (CO.out W3 (a0D HB2.out hb3)).mono ?_;rintro e w5 ⟨rfl,hb5⟩;have hq5:=a0D hb3 hb5;have HQ5:=jH hq5;have HB5:=jH (a0D HB2.out hq5);have HA5:=jH (jK hq5 HA2.out);have HR5:=jH (jK hq5 HR2.out);obtain ⟨e1,e2,e3⟩:=a0A jR HA5.out;obtain ⟨f1,f2,f3⟩:=a0A jR HR5.out;clear hb3 hb5 hq5)
 try go_simp
 refine hK.out _ _ ?hS5 (fun hHeld2=>?_)
 case hS5 =>
  intro _
  (first|exact jR.drew|exact HQ5.out|(exfalso;rename_i hx;exact nomatch (show (true:Bool)=false from hx)))
 clear hK K hHeld;have hHeld:=hHeld2 (by kernel_rfl);clear hHeld2
 try simp only [Act.put,jA]
 refine a0W (i:=4) (by kernel_rfl) rfl (fun K hK=>?_);go_simp
 skip
 try go_simp
 refine hK.out _ _ ?hS6 (fun hHeld2=>?_)
 case hS6=>exact fun h=>nomatch (show (true:Bool)=false from h)
 clear hK K hHeld hHeld2
 try simp only [Act.put,jA]
 refine a0W (i:=5) (by kernel_rfl) rfl (fun K hK=>?_);go_simp
 skip
 try go_simp
 refine hK.out _ _ ?hS7 (fun hHeld2=>?_)
 case hS7=>exact fun h=>nomatch (show (true:Bool)=false from h)
 clear hK K hHeld2
 try simp only [Act.put,jA]
 refine d0F (by kernel_rfl) ?_ _;refine a0T ?_;intro W9 hW9;obtain ⟨V,hV⟩:∃V,V=b0J (b0J w5 (w.heap.size+1+1) 0 [.int .i64 c.st,.int .i64 c.sa,.int .i64 c.lo,.int .i64 c.hi,.slice sA st.length sc,.slice cA cuts.length cc,.int .i64 ep,.bool over]) (w.heap.size+1+1+1) 0 [.int .i64 q.err,.int .i64 q.ep,.int .i64 q.hd,.int .i64 q.st.cnt,.int .i64 q.st.sum,.int .i64 q.st.least,.int .i64 q.st.most,.int .i64 q.st.mean,.int .i64 q.adv.tick,.int .i64 q.adv.load,.int .i64 q.adv.want,.int .i64 q.adv.repl,.int .i64 q.adv.why]:=⟨_,rfl⟩
 have hW9':W9=b0J (b0J w5 (w.heap.size+1+1) 0 [.int .i64 c.st,.int .i64 c.sa,.int .i64 c.lo,.int .i64 c.hi,.slice sA st.length sc,.slice cA cuts.length cc,.int .i64 ep,.bool over]) (w.heap.size+1+1+1) 0 [.int .i64 q.err,.int .i64 q.ep,.int .i64 q.hd,.int .i64 q.st.cnt,.int .i64 q.st.sum,.int .i64 q.st.least,.int .i64 q.st.most,.int .i64 q.st.mean,.int .i64 q.adv.tick,.int .i64 q.adv.load,.int .i64 q.adv.want,.int .i64 q.adv.repl,.int .i64 q.adv.why]:=hW9
 rw [←hV] at hW9';have hd9:jB V W9:=by rw [hW9'];exact jR
 obtain ⟨S,hS⟩:∃S,S=b0J w5 (w.heap.size+1+1) 0 [.int .i64 c.st,.int .i64 c.sa,.int .i64 c.lo,.int .i64 c.hi,.slice sA st.length sc,.slice cA cuts.length cc,.int .i64 ep,.bool over]:=⟨_,rfl⟩;rw [←hS] at hV;obtain ⟨s1,s2,s3,s4⟩:=a0P HA5.out [.int .i64 c.st,.int .i64 c.sa,.int .i64 c.lo,.int .i64 c.hi,.slice sA st.length sc,.slice cA cuts.length cc,.int .i64 ep,.bool over] rfl S hS;have hr9:=(s2 (w.heap.size+1+1+1) (by omega)).trans HR5.out
 obtain ⟨t1,t2,t3,t4⟩:=a0P hr9 [.int .i64 q.err,.int .i64 q.ep,.int .i64 q.hd,.int .i64 q.st.cnt,.int .i64 q.st.sum,.int .i64 q.st.least,.int .i64 q.st.most,.int .i64 q.st.mean,.int .i64 q.adv.tick,.int .i64 q.adv.load,.int .i64 q.adv.want,.int .i64 q.adv.repl,.int .i64 q.adv.why] rfl V hV;have hs1:=(t2 (w.heap.size+1+1) (by omega)).trans s1;obtain ⟨a9,a8,a7⟩:=a0A hd9 hs1;obtain ⟨g9,g8,g7⟩:=a0A hd9 t1
 have hk9:∀b,b≠w.heap.size+1+1→b≠w.heap.size+1+1+1→b<w5.heap.size→W9.heap[b]?=w5.heap[b]?:=fun b q1 q2 q3=>(hd9.block b (by rw [t3,s3];exact q3)).trans ((t2 b q2).trans (s2 b q1))
 have hz9:w5.heap.size≤W9.heap.size:=by have:=hd9.size;omega
 have hBV:Below w.heap.size w5 V:=(s4 _ (by omega)).trans (t4 _ (by omega));clear hW9 hW9' hS hV;have hb9:=a0D (HB5.out.trans hBV) hd9;clear rx2 ry2 e1 e2 e3 f1 f2 f3;go_wp2_with fail
 refine bodyPost_ret (v:=.tuple #[.agg #[.int .i64 c.st,.int .i64 c.sa,.int .i64 c.lo,.int .i64 c.hi,.slice sA st.length sc,.slice cA cuts.length cc,.int .i64 ep,.bool over],.agg #[.int .i64 q.err,.int .i64 q.ep,.int .i64 q.hd,.int .i64 q.st.cnt,.int .i64 q.st.sum,.int .i64 q.st.least,.int .i64 q.st.most,.int .i64 q.st.mean,.int .i64 q.adv.tick,.int .i64 q.adv.load,.int .i64 q.adv.want,.int .i64 q.adv.repl,.int .i64 q.adv.why]]) (by simp [results,Tryz.results16,go_sem,a9,g9]) rfl ?_
 exact ⟨⟨sA,sc,st,cA,cc,cuts,ep,over⟩,by rw [HRR.out];rfl,HX.out.below hb9,by rw [HRR.out],hb9⟩
theorem do21_7 (P:Nat→Prop) (c:Cfg) (rs rh n:Nat) (x:WdH) (id:ByteArray) (tick val handle:Int) (p:Pol) (w:World) (hP:∀b,w.heap.size≤b→P b) (hx:d0U P w x) (hc:f0Y c rs rh) (hst:e0X c.st=true) (hk:g0B c rs rh n (c0O x)) (hn:n≤100000) (hd:c0D.ok ⟨7,id,tick,val,handle,p⟩) (hck:e0Y ⟨7,id,tick,val,handle,p⟩=0) :
 Calls Tryz.prog 16 #[.agg (wdC c x).toArray,b0A ⟨7,id,tick,val,handle,p⟩] w (e0V P w c (doW c rs rh (c0O x) ⟨7,id,tick,val,handle,p⟩)):=by
 obtain ⟨r,hr⟩:∃r,r=doW c rs rh (c0O x) ⟨7,id,tick,val,handle,p⟩:=⟨_,rfl⟩;rw [←hr];unfold doW at hr;rw [if_neg (by rw [hck];simp)] at hr;dsimp only at hr;rw [if_neg (by decide)] at hr;rw [if_neg (by decide)] at hr;rw [if_neg (by decide)] at hr;rw [if_neg (by decide)] at hr;rw [if_neg (by decide)] at hr;rw [if_neg (by decide)] at hr;rw [if_pos rfl] at hr;have CC:=jH (fun W=>b0T ⟨7,id,tick,val,handle,p⟩ W hd)
 rw [hck] at CC;have hst6:c.st≤64:=by have:=c0B _ hst;omega
 have hmm:id.size≤maxLen:=hd.2.1;obtain ⟨q,hq⟩:∃q,q=g1T (c0O x) id:=⟨_,rfl⟩;rw [←hq] at hr;have CO:=jH (fun (W:World) (hW:jB w W)=>show Calls Tryz.prog 55 #[.agg (wdC c x).toArray,.string id] W (jP W (.agg #[.int .i64 q.err,.int .i64 q.ep,.int .i64 q.hd,.int .i64 q.st.cnt,.int .i64 q.st.sum,.int .i64 q.st.least,.int .i64 q.st.most,.int .i64 q.st.mean,.int .i64 q.adv.tick,.int .i64 q.adv.load,.int .i64 q.adv.want,.int .i64 q.adv.repl,.int .i64 q.adv.why])) from by
  have h9:=h1V P c rs rh n x id W (fun b hb=>hP b (Nat.le_trans hW.size hb)) (hx.below hW) hst6 hk (by have:=hc.r2;have:=hc.h2;omega) hmm;rw [←hq] at h9;exact h9)
 have HX:=jH hx;have HRR:=jH hr;obtain ⟨sA,sc,st,cA,cc,cuts,ep,over⟩:=x;unfold b0A at CC ⊢;unfold wdC at CO ⊢;dsimp only at CC CO ⊢;clear hP hx hc hst hk hn hd hck hr hq hst6 hmm
 go_enter Tryz.func16,Tryz.ntmps16
 go_upto_region 1 with fail
 refine a0I ?_;intro W1 hW1;obtain ⟨k0,k1,k2,k3,hb⟩:=d0I w _ _ _ _ W1 hW1;clear hW1;have HX1:=jH k0;have HC1:=jH k1;have HA1:=jH k2;have HR1:=jH k3;have HB1:=jH hb;obtain ⟨y1,y2,y3⟩:=a0A jR HC1.out;clear k0 k1 k2 k3 hb;go_wp2_with fail
 refine (CC.out W1).mono ?_;rintro e w2 ⟨rfl,hb2⟩;have HX2:=jH (jK hb2 HX1.out);have HC2:=jH (jK hb2 HC1.out);have HA2:=jH (jK hb2 HA1.out);have HR2:=jH (jK hb2 HR1.out);have HB2:=jH (a0D HB1.out hb2);obtain ⟨b1,b2,b3⟩:=a0A jR HX2.out;obtain ⟨c1,c2,c3⟩:=a0A jR HC2.out;obtain ⟨d1,d2,d3⟩:=a0A jR HA2.out;obtain ⟨g1,g2,g3⟩:=a0A jR HR2.out;clear hb2 y1 y2 y3;go_simp
 go_upto_region 20 with fail
 have rx2:∀U,jB w2 U→∀i,U.cell? ⟨w.heap.size,i,none⟩=(#[.int .i64 c.st,.int .i64 c.sa,.int .i64 c.lo,.int .i64 c.hi,.slice sA st.length sc,.slice cA cuts.length cc,.int .i64 ep,.bool over]:Array Value)[i]?:=fun U hU=>(a0A hU HX2.out).1
 have ry2:∀U,jB w2 U→∀i,U.cell? ⟨w.heap.size+1,i,none⟩=(#[.int .i64 7,.string id,.int .i64 tick,.int .i64 val,.int .i64 handle,.int .i64 p.mn,.int .i64 p.mx,.int .i64 p.tg,.int .i64 p.tol,.int .i64 p.win,.int .i64 p.hold]:Array Value)[i]?:=fun U hU=>(a0A hU HC2.out).1
 clear b1 b2 b3 c1 c2 c3 d1 d2 d3 g1 g2 g3;refine d0E (S:=(fun U=>jB w2 U)) 5 (by kernel_rfl) ?hS8 (fun hHeld=>?_)
 case hS8=>(first|exact jR.drew|exact HQ5.out|(exfalso;rename_i hx;exact nomatch (show (true:Bool)=false from hx)))
 refine a0L (i:=0) (v:=?v9) rfl (by kernel_rfl) (by kernel_rfl) (by kernel_rfl) (by kernel_rfl) (fun _ _ _ h=>h) (Or.inl ⟨by rfl,?hy9⟩) (by assumption) ?_
 case hy9 =>
  intro w' hSw
  (try dsimp only at hSw)
  go_simp
  try (with_reducible rfl)
 try simp only [Act.put,jA]
 refine a0L (i:=1) (v:=?v10) rfl (by kernel_rfl) (by kernel_rfl) (by kernel_rfl) (by kernel_rfl) (fun _ _ _ h=>h) (Or.inl ⟨by rfl,?hy10⟩) (by assumption) ?_
 case hy10 =>
  intro w' hSw
  (try dsimp only at hSw)
  go_simp
  try (with_reducible rfl)
 try simp only [Act.put,jA]
 refine a0L (i:=2) (v:=?v11) rfl (by kernel_rfl) (by kernel_rfl) (by kernel_rfl) (by kernel_rfl) (fun _ _ _ h=>h) (Or.inl ⟨by rfl,?hy11⟩) (by assumption) ?_
 case hy11 =>
  intro w' hSw
  (try dsimp only at hSw)
  go_simp
  try (with_reducible rfl)
 try simp only [Act.put,jA]
 refine a0L (i:=3) (v:=?v12) rfl (by kernel_rfl) (by kernel_rfl) (by kernel_rfl) (by kernel_rfl) (fun _ _ _ h=>h) (Or.inl ⟨by rfl,?hy12⟩) (by assumption) ?_
 case hy12 =>
  intro w' hSw
  (try dsimp only at hSw)
  go_simp
  try (with_reducible rfl)
 try simp only [Act.put,jA]
 refine a0W (i:=4) (by kernel_rfl) rfl (fun K hK=>?_);go_simp
 (go_at_call 55
  refine a0B ?_;intro W3 hW3;have hb3:jB w2 W3:=by rw [hW3];first|exact jR|exact jR.drew|exact a0F jR _
  clear hW3;refine (CO.out W3 (a0D HB2.out hb3)).mono ?_;rintro e w5 ⟨rfl,hb5⟩;have hq5:=a0D hb3 hb5;have HQ5:=jH hq5;have HB5:=jH (a0D HB2.out hq5);have HA5:=jH (jK hq5 HA2.out);have HR5:=jH (jK hq5 HR2.out);obtain ⟨e1,e2,e3⟩:=a0A jR HA5.out;obtain ⟨f1,f2,f3⟩:=a0A jR HR5.out;clear hb3 hb5 hq5)
 try go_simp
 refine hK.out _ _ ?hS13 (fun hHeld2=>?_)
 case hS13 =>
  intro _
  (first|exact jR.drew|exact HQ5.out|(exfalso;rename_i hx;exact nomatch (show (true:Bool)=false from hx)))
 clear hK K hHeld;have hHeld:=hHeld2 (by kernel_rfl);clear hHeld2
 try simp only [Act.put,jA]
 refine a0W (i:=5) (by kernel_rfl) rfl (fun K hK=>?_);go_simp
 skip
 try go_simp
 refine hK.out _ _ ?hS14 (fun hHeld2=>?_)
 case hS14=>exact fun h=>nomatch (show (true:Bool)=false from h)
 clear hK K hHeld hHeld2
 try simp only [Act.put,jA]
 refine a0W (i:=6) (by kernel_rfl) rfl (fun K hK=>?_);go_simp
 skip
 try go_simp
 refine hK.out _ _ ?hS15 (fun hHeld2=>?_)
 case hS15=>exact fun h=>nomatch (show (true:Bool)=false from h)
 clear hK K hHeld2
 try simp only [Act.put,jA]
 refine d0F (by kernel_rfl) ?_ _;refine a0T ?_;intro W9 hW9;obtain ⟨V,hV⟩:∃V,V=b0J (b0J w5 (w.heap.size+1+1) 0 [.int .i64 c.st,.int .i64 c.sa,.int .i64 c.lo,.int .i64 c.hi,.slice sA st.length sc,.slice cA cuts.length cc,.int .i64 ep,.bool over]) (w.heap.size+1+1+1) 0 [.int .i64 q.err,.int .i64 q.ep,.int .i64 q.hd,.int .i64 q.st.cnt,.int .i64 q.st.sum,.int .i64 q.st.least,.int .i64 q.st.most,.int .i64 q.st.mean,.int .i64 q.adv.tick,.int .i64 q.adv.load,.int .i64 q.adv.want,.int .i64 q.adv.repl,.int .i64 q.adv.why]:=⟨_,rfl⟩
 have hW9':W9=b0J (b0J w5 (w.heap.size+1+1) 0 [.int .i64 c.st,.int .i64 c.sa,.int .i64 c.lo,.int .i64 c.hi,.slice sA st.length sc,.slice cA cuts.length cc,.int .i64 ep,.bool over]) (w.heap.size+1+1+1) 0 [.int .i64 q.err,.int .i64 q.ep,.int .i64 q.hd,.int .i64 q.st.cnt,.int .i64 q.st.sum,.int .i64 q.st.least,.int .i64 q.st.most,.int .i64 q.st.mean,.int .i64 q.adv.tick,.int .i64 q.adv.load,.int .i64 q.adv.want,.int .i64 q.adv.repl,.int .i64 q.adv.why]:=hW9
 rw [←hV] at hW9';have hd9:jB V W9:=by rw [hW9'];exact jR
 obtain ⟨S,hS⟩:∃S,S=b0J w5 (w.heap.size+1+1) 0 [.int .i64 c.st,.int .i64 c.sa,.int .i64 c.lo,.int .i64 c.hi,.slice sA st.length sc,.slice cA cuts.length cc,.int .i64 ep,.bool over]:=⟨_,rfl⟩;rw [←hS] at hV;obtain ⟨s1,s2,s3,s4⟩:=a0P HA5.out [.int .i64 c.st,.int .i64 c.sa,.int .i64 c.lo,.int .i64 c.hi,.slice sA st.length sc,.slice cA cuts.length cc,.int .i64 ep,.bool over] rfl S hS;have hr9:=(s2 (w.heap.size+1+1+1) (by omega)).trans HR5.out
 obtain ⟨t1,t2,t3,t4⟩:=a0P hr9 [.int .i64 q.err,.int .i64 q.ep,.int .i64 q.hd,.int .i64 q.st.cnt,.int .i64 q.st.sum,.int .i64 q.st.least,.int .i64 q.st.most,.int .i64 q.st.mean,.int .i64 q.adv.tick,.int .i64 q.adv.load,.int .i64 q.adv.want,.int .i64 q.adv.repl,.int .i64 q.adv.why] rfl V hV;have hs1:=(t2 (w.heap.size+1+1) (by omega)).trans s1;obtain ⟨a9,a8,a7⟩:=a0A hd9 hs1;obtain ⟨g9,g8,g7⟩:=a0A hd9 t1
 have hk9:∀b,b≠w.heap.size+1+1→b≠w.heap.size+1+1+1→b<w5.heap.size→W9.heap[b]?=w5.heap[b]?:=fun b q1 q2 q3=>(hd9.block b (by rw [t3,s3];exact q3)).trans ((t2 b q2).trans (s2 b q1))
 have hz9:w5.heap.size≤W9.heap.size:=by have:=hd9.size;omega
 have hBV:Below w.heap.size w5 V:=(s4 _ (by omega)).trans (t4 _ (by omega));clear hW9 hW9' hS hV;have hb9:=a0D (HB5.out.trans hBV) hd9;clear rx2 ry2 e1 e2 e3 f1 f2 f3;go_wp2_with fail
 refine bodyPost_ret (v:=.tuple #[.agg #[.int .i64 c.st,.int .i64 c.sa,.int .i64 c.lo,.int .i64 c.hi,.slice sA st.length sc,.slice cA cuts.length cc,.int .i64 ep,.bool over],.agg #[.int .i64 q.err,.int .i64 q.ep,.int .i64 q.hd,.int .i64 q.st.cnt,.int .i64 q.st.sum,.int .i64 q.st.least,.int .i64 q.st.most,.int .i64 q.st.mean,.int .i64 q.adv.tick,.int .i64 q.adv.load,.int .i64 q.adv.want,.int .i64 q.adv.repl,.int .i64 q.adv.why]]) (by simp [results,Tryz.results16,go_sem,a9,g9]) rfl ?_
 exact ⟨⟨sA,sc,st,cA,cc,cuts,ep,over⟩,by rw [HRR.out];rfl,HX.out.below hb9,by rw [HRR.out],hb9⟩
theorem do21_8 (P:Nat→Prop) (c:Cfg) (rs rh n:Nat) (x:WdH) (id:ByteArray) (tick val handle:Int) (p:Pol) (w:World) (hP:∀b,w.heap.size≤b→P b) (hx:d0U P w x) (hc:f0Y c rs rh) (hst:e0X c.st=true) (hk:g0B c rs rh n (c0O x)) (hn:n≤100000) (hd:c0D.ok ⟨8,id,tick,val,handle,p⟩) (hck:e0Y ⟨8,id,tick,val,handle,p⟩=0) :
 Calls Tryz.prog 16 #[.agg (wdC c x).toArray,b0A ⟨8,id,tick,val,handle,p⟩] w (e0V P w c (doW c rs rh (c0O x) ⟨8,id,tick,val,handle,p⟩)):=by
 obtain ⟨r,hr⟩:∃r,r=doW c rs rh (c0O x) ⟨8,id,tick,val,handle,p⟩:=⟨_,rfl⟩;rw [←hr];unfold doW at hr;rw [if_neg (by rw [hck];simp)] at hr;dsimp only at hr;rw [if_neg (by decide)] at hr;rw [if_neg (by decide)] at hr;rw [if_neg (by decide)] at hr;rw [if_neg (by decide)] at hr;rw [if_neg (by decide)] at hr;rw [if_neg (by decide)] at hr;rw [if_neg (by decide)] at hr;have CC:=jH (fun W=>b0T ⟨8,id,tick,val,handle,p⟩ W hd)
 rw [hck] at CC;have hst6:c.st≤64:=by have:=c0B _ hst;omega
 have hmm:id.size≤maxLen:=hd.2.1;have HX:=jH hx;have HRR:=jH hr;obtain ⟨sA,sc,st,cA,cc,cuts,ep,over⟩:=x;unfold b0A at CC ⊢;unfold wdC;dsimp only at CC ⊢;clear hP hx hc hst hk hn hd hck hr hst6 hmm;have hr:=HRR.out
 cases over
 · rw [if_neg (show ¬(c0O ⟨sA,sc,st,cA,cc,cuts,ep,false⟩).over=true from fun h=>nomatch (show (false:Bool)=true from h))] at hr
   have HRR:=jH hr;clear hr
   go_enter Tryz.func16,Tryz.ntmps16
   go_upto_region 1 with fail
   refine a0I ?_;intro W1 hW1;obtain ⟨k0,k1,k2,k3,hb⟩:=d0I w _ _ _ _ W1 hW1;clear hW1;have HX1:=jH k0;have HC1:=jH k1;have HA1:=jH k2;have HR1:=jH k3;have HB1:=jH hb;obtain ⟨y1,y2,y3⟩:=a0A jR HC1.out;clear k0 k1 k2 k3 hb;go_wp2_with fail
   refine (CC.out W1).mono ?_;rintro e w2 ⟨rfl,hb2⟩;have HX2:=jH (jK hb2 HX1.out);have HC2:=jH (jK hb2 HC1.out);have HA2:=jH (jK hb2 HA1.out);have HR2:=jH (jK hb2 HR1.out);have HB2:=jH (a0D HB1.out hb2);obtain ⟨b1,b2,b3⟩:=a0A jR HX2.out;obtain ⟨c1,c2,c3⟩:=a0A jR HC2.out;obtain ⟨d1,d2,d3⟩:=a0A jR HA2.out;obtain ⟨g1,g2,g3⟩:=a0A jR HR2.out;clear hb2 y1 y2 y3;go_simp;go_wp2_with fail
   refine a0H ?_;intro W9 hW9;obtain ⟨V,hV⟩:∃V,V=b0J (b0J w2 (w.heap.size+1+1) 0 [.int .i64 c.st,.int .i64 c.sa,.int .i64 c.lo,.int .i64 c.hi,.slice sA st.length sc,.slice cA cuts.length cc,.int .i64 ep,.bool true]) (w.heap.size+1+1+1) 0 [.int .i64 0,.int .i64 0,.int .i64 0,.int .i64 0,.int .i64 0,.int .i64 0,.int .i64 0,.int .i64 0,.int .i64 0,.int .i64 0,.int .i64 0,.int .i64 0,.int .i64 0]:=⟨_,rfl⟩
   have hW9':W9=(b0J (b0J w2 (w.heap.size+1+1) 0 [.int .i64 c.st,.int .i64 c.sa,.int .i64 c.lo,.int .i64 c.hi,.slice sA st.length sc,.slice cA cuts.length cc,.int .i64 ep,.bool true]) (w.heap.size+1+1+1) 0 [.int .i64 0,.int .i64 0,.int .i64 0,.int .i64 0,.int .i64 0,.int .i64 0,.int .i64 0,.int .i64 0,.int .i64 0,.int .i64 0,.int .i64 0,.int .i64 0,.int .i64 0]).alloc (.cells #[.int .i64 c.st,.int .i64 c.sa,.int .i64 c.lo,.int .i64 c.hi,.slice sA st.length sc,.slice cA cuts.length cc,.int .i64 ep,.bool true] 32 (0,0)):=hW9
   rw [←hV] at hW9';have hd9:jB V W9:=by rw [hW9'];exact a0C jR _
   obtain ⟨S,hS⟩:∃S,S=b0J w2 (w.heap.size+1+1) 0 [.int .i64 c.st,.int .i64 c.sa,.int .i64 c.lo,.int .i64 c.hi,.slice sA st.length sc,.slice cA cuts.length cc,.int .i64 ep,.bool true]:=⟨_,rfl⟩;rw [←hS] at hV;obtain ⟨s1,s2,s3,s4⟩:=a0P HA2.out [.int .i64 c.st,.int .i64 c.sa,.int .i64 c.lo,.int .i64 c.hi,.slice sA st.length sc,.slice cA cuts.length cc,.int .i64 ep,.bool true] rfl S hS;have hr9:=(s2 (w.heap.size+1+1+1) (by omega)).trans HR2.out
   obtain ⟨t1,t2,t3,t4⟩:=a0P hr9 [.int .i64 0,.int .i64 0,.int .i64 0,.int .i64 0,.int .i64 0,.int .i64 0,.int .i64 0,.int .i64 0,.int .i64 0,.int .i64 0,.int .i64 0,.int .i64 0,.int .i64 0] rfl V hV;have hs1:=(t2 (w.heap.size+1+1) (by omega)).trans s1;obtain ⟨a9,a8,a7⟩:=a0A hd9 hs1;obtain ⟨g9,g8,g7⟩:=a0A hd9 t1;have hk9:∀b,b≠w.heap.size+1+1→b≠w.heap.size+1+1+1→b<w2.heap.size→W9.heap[b]?=w2.heap[b]?:=fun b q1 q2 q3=>(hd9.block b (by rw [t3,s3];exact q3)).trans ((t2 b q2).trans (s2 b q1))
   have hz9:w2.heap.size≤W9.heap.size:=by have:=hd9.size;omega
   have hBV:Below w.heap.size w2 V:=(s4 _ (by omega)).trans (t4 _ (by omega));clear hW9 hW9' hS hV;have hb9:=a0D (HB2.out.trans hBV) hd9;refine bodyPost_ret (v:=.tuple #[.agg #[.int .i64 c.st,.int .i64 c.sa,.int .i64 c.lo,.int .i64 c.hi,.slice sA st.length sc,.slice cA cuts.length cc,.int .i64 ep,.bool true],.agg #[.int .i64 0,.int .i64 0,.int .i64 0,.int .i64 0,.int .i64 0,.int .i64 0,.int .i64 0,.int .i64 0,.int .i64 0,.int .i64 0,.int .i64 0,.int .i64 0,.int .i64 0]]) (by simp [results,Tryz.results16,go_sem,a9,g9]) rfl ?_
   exact ⟨⟨sA,sc,st,cA,cc,cuts,ep,true⟩,by rw [HRR.out];rfl,HX.out.below hb9 |> fun h=>⟨h.sr,h.it,h.cr,h.ct⟩,by rw [HRR.out];rfl,hb9⟩
 · rw [if_pos (show (c0O ⟨sA,sc,st,cA,cc,cuts,ep,true⟩).over=true from rfl)] at hr
   have HRR:=jH hr;clear hr
   go_enter Tryz.func16,Tryz.ntmps16
   go_upto_region 1 with fail
   refine a0I ?_;intro W1 hW1;obtain ⟨k0,k1,k2,k3,hb⟩:=d0I w _ _ _ _ W1 hW1;clear hW1;have HX1:=jH k0;have HC1:=jH k1;have HA1:=jH k2;have HR1:=jH k3;have HB1:=jH hb;obtain ⟨y1,y2,y3⟩:=a0A jR HC1.out;clear k0 k1 k2 k3 hb;go_wp2_with fail
   refine (CC.out W1).mono ?_;rintro e w2 ⟨rfl,hb2⟩;have HX2:=jH (jK hb2 HX1.out);have HC2:=jH (jK hb2 HC1.out);have HA2:=jH (jK hb2 HA1.out);have HR2:=jH (jK hb2 HR1.out);have HB2:=jH (a0D HB1.out hb2);obtain ⟨b1,b2,b3⟩:=a0A jR HX2.out;obtain ⟨c1,c2,c3⟩:=a0A jR HC2.out;obtain ⟨d1,d2,d3⟩:=a0A jR HA2.out;obtain ⟨g1,g2,g3⟩:=a0A jR HR2.out;clear hb2 y1 y2 y3;go_simp;go_wp2_with fail
   refine a0H ?_;intro W9 hW9;obtain ⟨V,hV⟩:∃V,V=b0J (b0J w2 (w.heap.size+1+1) 0 [.int .i64 c.st,.int .i64 c.sa,.int .i64 c.lo,.int .i64 c.hi,.slice sA st.length sc,.slice cA cuts.length cc,.int .i64 ep,.bool true]) (w.heap.size+1+1+1) 0 [.int .i64 9,.int .i64 0,.int .i64 0,.int .i64 0,.int .i64 0,.int .i64 0,.int .i64 0,.int .i64 0,.int .i64 0,.int .i64 0,.int .i64 0,.int .i64 0,.int .i64 0]:=⟨_,rfl⟩
   have hW9':W9=b0J (b0J w2 (w.heap.size+1+1) 0 [.int .i64 c.st,.int .i64 c.sa,.int .i64 c.lo,.int .i64 c.hi,.slice sA st.length sc,.slice cA cuts.length cc,.int .i64 ep,.bool true]) (w.heap.size+1+1+1) 0 [.int .i64 9,.int .i64 0,.int .i64 0,.int .i64 0,.int .i64 0,.int .i64 0,.int .i64 0,.int .i64 0,.int .i64 0,.int .i64 0,.int .i64 0,.int .i64 0,.int .i64 0]:=hW9;rw [←hV] at hW9';have hd9:jB V W9:=by rw [hW9'];exact jR
   obtain ⟨S,hS⟩:∃S,S=b0J w2 (w.heap.size+1+1) 0 [.int .i64 c.st,.int .i64 c.sa,.int .i64 c.lo,.int .i64 c.hi,.slice sA st.length sc,.slice cA cuts.length cc,.int .i64 ep,.bool true]:=⟨_,rfl⟩;rw [←hS] at hV;obtain ⟨s1,s2,s3,s4⟩:=a0P HA2.out [.int .i64 c.st,.int .i64 c.sa,.int .i64 c.lo,.int .i64 c.hi,.slice sA st.length sc,.slice cA cuts.length cc,.int .i64 ep,.bool true] rfl S hS;have hr9:=(s2 (w.heap.size+1+1+1) (by omega)).trans HR2.out
   obtain ⟨t1,t2,t3,t4⟩:=a0P hr9 [.int .i64 9,.int .i64 0,.int .i64 0,.int .i64 0,.int .i64 0,.int .i64 0,.int .i64 0,.int .i64 0,.int .i64 0,.int .i64 0,.int .i64 0,.int .i64 0,.int .i64 0] rfl V hV;have hs1:=(t2 (w.heap.size+1+1) (by omega)).trans s1;obtain ⟨a9,a8,a7⟩:=a0A hd9 hs1;obtain ⟨g9,g8,g7⟩:=a0A hd9 t1;have hk9:∀b,b≠w.heap.size+1+1→b≠w.heap.size+1+1+1→b<w2.heap.size→W9.heap[b]?=w2.heap[b]?:=fun b q1 q2 q3=>(hd9.block b (by rw [t3,s3];exact q3)).trans ((t2 b q2).trans (s2 b q1))
   have hz9:w2.heap.size≤W9.heap.size:=by have:=hd9.size;omega
   have hBV:Below w.heap.size w2 V:=(s4 _ (by omega)).trans (t4 _ (by omega));clear hW9 hW9' hS hV;have hb9:=a0D (HB2.out.trans hBV) hd9;refine bodyPost_ret (v:=.tuple #[.agg #[.int .i64 c.st,.int .i64 c.sa,.int .i64 c.lo,.int .i64 c.hi,.slice sA st.length sc,.slice cA cuts.length cc,.int .i64 ep,.bool true],.agg #[.int .i64 9,.int .i64 0,.int .i64 0,.int .i64 0,.int .i64 0,.int .i64 0,.int .i64 0,.int .i64 0,.int .i64 0,.int .i64 0,.int .i64 0,.int .i64 0,.int .i64 0]]) (by simp [results,Tryz.results16,go_sem,a9,g9]) rfl ?_
   exact ⟨⟨sA,sc,st,cA,cc,cuts,ep,true⟩,by rw [HRR.out];rfl,HX.out.below hb9,by rw [HRR.out],hb9⟩
theorem q1J (P:Nat→Prop) (c:Cfg) (rs rh n:Nat) (x:WdH) (d:c0D) (w:World) (hP:∀b,w.heap.size≤b→P b) (hx:d0U P w x) (hc:f0Y c rs rh) (hst:e0X c.st=true) (hk:g0B c rs rh n (c0O x)) (hn:n≤100000) (hd:d.ok) :
 Calls Tryz.prog 16 #[.agg (wdC c x).toArray,b0A d] w (e0V P w c (doW c rs rh (c0O x) d)):=by
 obtain ⟨kind,id,tick,val,handle,p⟩:=d
 by_cases hck:e0Y ⟨kind,id,tick,val,handle,p⟩=0
 · have hkk:kind=1∨kind=2∨kind=3∨kind=4∨kind=5∨kind=6∨kind=7∨kind=8:=by
    rcases k0U ⟨kind,id,tick,val,handle,p⟩ with h|h|h|h|h|h|h|h|h
    all_goals dsimp only at h
    all_goals first
     | omega
     | (exfalso
        unfold e0Y at hck;rw [if_pos h] at hck
        cases hck)
   rcases hkk with rfl|rfl|rfl|rfl|rfl|rfl|rfl|rfl
   · exact do21_1 P c rs rh n x id tick val handle p w hP hx hc hst hk hn hd hck
   · exact do21_2 P c rs rh n x id tick val handle p w hP hx hc hst hk hn hd hck
   · exact do21_3 P c rs rh n x id tick val handle p w hP hx hc hst hk hn hd hck
   · exact do21_4 P c rs rh n x id tick val handle p w hP hx hc hst hk hn hd hck
   · exact do21_5 P c rs rh n x id tick val handle p w hP hx hc hst hk hn hd hck
   · exact do21_6 P c rs rh n x id tick val handle p w hP hx hc hst hk hn hd hck
   · exact do21_7 P c rs rh n x id tick val handle p w hP hx hc hst hk hn hd hck
   · exact do21_8 P c rs rh n x id tick val handle p w hP hx hc hst hk hn hd hck
 · exact o1Z P c rs rh n x kind id tick val handle p w hP hx hc hst hk hn hd hck
def f1K:SrH:=⟨none,0,[]⟩
structure NewW (w wr:World) (c:Cfg) (s:Value) (l:List SrH):Prop where
 b:jB w wr
 x0:wr.heap[w.heap.size]?=some (.cells #[.int .i64 c.st,.int .i64 c.sa,.int .i64 c.lo,.int .i64 c.hi] 23 (0,0))
 x1:wr.heap[w.heap.size+1]?=some (.cells #[.int .i64 0,.int .i64 0,.int .i64 0,.int .i64 0,.slice none 0 0,.slice none 0 0,.int .i64 0,.bool false] 32 (0,0))
 x2:wr.heap[w.heap.size+1+1]?=some (.cells #[.int .i64 c.st,.int .i64 c.sa,.int .i64 c.lo,.int .i64 c.hi,s,.slice none 0 0,.int .i64 0,.bool false] 32 (0,0))
 own:b0Q srC 176 1 (w.heap.size+3) wr s l
 sz:w.heap.size+3≤wr.heap.size
theorem NewW.put {w wr w2 w3:World} {c:Cfg} {s s2:Value} {l l2:List SrH} (h:NewW w wr c s l) (hb:Below (w.heap.size+3) wr w2) (ho:b0Q srC 176 1 (w.heap.size+3) w2 s2 l2) (h3:w3=w2.setCell ⟨w.heap.size+1+1,4,none⟩ s2):NewW w w3 c s2 l2:=by
 have hsz:=h.sz;have hb2:=hb.size;subst h3;refine ⟨h.b.trans ((hb.mono (by omega)).setCell (by simp;omega) _),?_,?_,?_,?_,?_⟩
 · exact a0U ((hb.block _ (by omega)).trans h.x0) (by omega)
 · exact a0U ((hb.block _ (by omega)).trans h.x1) (by omega)
 · exact a0E ((hb.block _ (by omega)).trans h.x2)
 · exact ho.kept (fun r hr=>a0U rfl (by have:=ho.lt hr;omega))
 · simp;omega
theorem i1J (P:Nat→Prop) (c:Cfg) (k:Nat) (w:World) (hP:∀b,w.heap.size≤b→P b) (hk:(k:Int)=c.st) (hk64:k≤64) :
 Calls Tryz.prog 14 #[j0Q c] w (t0A P w c (w0Z k)):=by
 have HP:=jH hP;have HK:=jH hk;unfold j0Q;obtain ⟨cs,ca,cl,ch⟩:=c;dsimp only at hk ⊢;subst hk;clear hP
 go_enter Tryz.func14,Tryz.ntmps14
 go_wp2_with fail
 refine a0I ?_;intro W hW;have HAT0:=jH (show NewW w W ⟨(k:Nat),ca,cl,ch⟩ (.slice none 0 0) [] by
  rw [hW];exact ⟨a0C (a0C (a0C jR _) _) _,f0B _ _ _ _,f0X _ _ _ _,f0Q _ _ _ _,b0Q.nil _ _,by simp⟩)
 clear hW;go_wp2
 go_loopg [4] k (fun g s4 wr=>∃(i:Nat) (s:Value),i≤k∧k - i≤g∧s4=.int .i64 i∧NewW w wr ⟨(k:Nat),ca,cl,ch⟩ s (List.replicate i f1K))
 case atStart=>exact ⟨0,_,Nat.zero_le _,Nat.le_refl _,rfl,HAT0.out⟩
 case round =>
  obtain ⟨i,s,hi,hg,rfl,hat⟩:=hrel;rename World=>wr
  obtain ⟨A3,c3,rfl⟩:=hat.own.form;have HAT:=jH hat;have HO:=jH hat.own;have hsz:=hat.sz;obtain ⟨a1,a2,a3⟩:=a0A jR hat.x0;obtain ⟨d1,d2,d3⟩:=a0A jR hat.x2;dsimp only at a1 d1;clear hat;have HPL:=jH (show (List.replicate i f1K).length=i from List.length_replicate);obtain ⟨m,hm⟩:∃m,m=List.replicate i f1K:=⟨_,rfl⟩;have HM:=jH hm;rw [←hm] at HO HAT HPL d1;clear hm
  by_cases hlt:i<k
  · have z1:(i:Int)<(k:Int):=by omega
    go_wp2_with (at_builtin;refine a0N eSr (by rfl) (by rfl) (w.heap.size+3) m [f1K] _ _ (by rfl) (by rfl) (HO.out.below (a0C jR _)) (a0O.lit wr f1K _ _ _ rfl rfl) (by have:=HPL.out;simp;omega) (by simp;omega) ?_;intro out2 A2 c2' w2 hout2 hown2 hg2 _
                 have hb2:Below (w.heap.size+3) wr w2:=(Below.mono (a0C (Below.refl wr.heap.size wr) _) hsz).trans (a0Z hg2 HO.out (by simp;omega));have HOWN:=jH hown2;have HOUT:=jH hout2;have HB4:=jH hb2;obtain ⟨e1,e2,e3⟩:=a0A jR ((hb2.block (w.heap.size+1+1) (by omega)).trans HAT.out.x2);clear hown2 hout2 hg2 hb2)
    go_roundg (k - (i+1))
    case measure=>omega
    case rel=>exact ⟨i+1,_,hlt,Nat.le_refl _,by go_num,by rw [List.replicate_succ',←HM.out,←HOUT.out];exact HAT.out.put HB4.out HOWN.out rfl⟩
  · obtain rfl:i=k:=by omega
    have z1:¬(i:Int)<(i:Int):=by omega
    have hx1:=HAT.out.x1;obtain ⟨f1,f2,f3⟩:=a0A jR hx1;go_wp2
    refine a0H ?_;intro W4 hW4;have hW4':W4=b0J wr (w.heap.size+1) 0 [.int .i64 i,.int .i64 ca,.int .i64 cl,.int .i64 ch,.slice A3 m.length c3,.slice none 0 0,.int .i64 0,.bool false]:=hW4;obtain ⟨s1,s2,s3,s4⟩:=a0P hx1 [.int .i64 i,.int .i64 ca,.int .i64 cl,.int .i64 ch,.slice A3 m.length c3,.slice none 0 0,.int .i64 0,.bool false] rfl W4 hW4';obtain ⟨a9,a8,a7⟩:=a0A jR s1;have hb9:jB w W4:=HAT.out.b.trans (s4 _ (by omega))
    clear hW4 hW4';refine bodyPost_ret (v:=.agg #[.int .i64 i,.int .i64 ca,.int .i64 cl,.int .i64 ch,.slice A3 m.length c3,.slice none 0 0,.int .i64 0,.bool false]) (by simp [results,Tryz.results14,go_sem,a9]) rfl ⟨⟨A3,c3,m,none,0,[],0,false⟩,rfl,⟨?_,?_,⟨a0O.nil,fun b o m c e hn=>by cases e⟩,fun y hy=>by cases hy⟩,?_,hb9⟩
    · exact ((e0U.own eSr HO.out).keepP (Nat.le_of_eq s3.symm) (fun b hb hlt=>s2 b (by omega))).imp (fun b hb=>HP.out b (by omega))
    · intro y hy
      rw [HM.out] at hy;rw [List.eq_of_mem_replicate hy];exact ⟨⟨a0O.nil,fun b o m c e hn=>by cases e⟩,fun y hy=>by cases hy⟩
    · rw [HM.out]
      simp [c0O,w0Z,f1K]
def r0C (c:Cfg) (rs rh:Nat) (w:Wd) (id:ByteArray):Wd × Adv × Int :=
 if idS id=false then (w,c0U,2)
 else if (d0K w id).2≠0 then (w,c0U,(d0K w id).2)
 else ((j0P c rs rh w id (d0K w id).1).1,(d0K w id).1,0)
theorem i1L {w:Wd} {id:ByteArray} (h:(d0K w id).2≠0):(d0K w id).1=c0U:=by
 revert h
 unfold d0K
 split
 · intro _;rfl
 · split
   · unfold n0K
     split
     · intro _;rfl
     · split
       · intro _;rfl
       · intro h;exact absurd rfl h
   · intro _;rfl
theorem e1H {w:Wd} {id:ByteArray} (h:(d0K w id).2=0):∃y,m0H w id=some y∧y.ruled=true∧d0K w id=n0K y.pol y.smp y.past:=by
 revert h
 unfold d0K
 split
 · intro h;exact absurd h (by decide)
 · rename_i y hy
   split
   · rename_i hr
     intro _;exact ⟨y,hy,hr,rfl⟩
   · intro h;exact absurd h (by decide)
structure Duo (B:Nat→Prop) (w:World) (S:Nat) (c:Cfg) (rs rh n:Nat) (wd:Wd) (d:d0M) (x:WdH):Prop where
 sw:SW B w S c rs rh n wd d
 wo:d0U (fun b=>b∉d.fp S∧B b) w x
 abs:c0O x=wd
theorem Duo.below {B:Nat→Prop} {w w':World} {S:Nat} {c:Cfg} {rs rh n:Nat} {wd:Wd} {d:d0M} {x:WdH} (h:Duo B w S c rs rh n wd d x) (hb:jB w w'):Duo B w' S c rs rh n wd d x :=
 ⟨h.sw.below hb,h.wo.below hb,h.abs⟩
theorem SW.new {B:Nat→Prop} {w:World} {S:Nat} {c:Cfg} {rs rh n:Nat} {wd:Wd} {d:d0M} (h:SW B w S c rs rh n wd d):∀b,w.heap.size≤b→b∉d.fp S:=fun b hb hq=>by have:=(h.at_.fpLt b hq).1;omega
theorem SW.avoidX {B:Nat→Prop} {w W:World} {S:Nat} {c:Cfg} {rs rh n X:Nat} {wd:Wd} {d:d0M} (h:SW B w S c rs rh n wd d) (hX:w.heap.size≤X) (hb:jB w W):SW (fun b=>B b∧b≠X) W S c rs rh n wd d :=
 ⟨h.at_.avoidX hX hb,h.ok,h.home,h.tot⟩
theorem SW.stored {B:Nat→Prop} {w W:World} {S:Nat} {c:Cfg} {rs rh n X:Nat} {wd:Wd} {d:d0M} (h:SW (fun b=>B b∧b≠X) w S c rs rh n wd d) (hs:W.heap.size=w.heap.size) (hk:∀r,r≠X→W.heap[r]?=w.heap[r]?):SW B W S c rs rh n wd d :=
 ⟨h.at_.stored hs hk,h.ok,h.home,h.tot⟩
theorem SW.mono1 {B:Nat→Prop} {w:World} {S:Nat} {c:Cfg} {rs rh n:Nat} {wd:Wd} {d:d0M} (h:SW B w S c rs rh n wd d):SW B w S c rs rh (n+1) wd d :=
 ⟨h.at_.mono (Nat.le_succ n),h.ok.mono (Nat.le_succ n),h.home,Nat.le_succ_of_le h.tot⟩
def Off (B:Nat→Prop) (fp:List Nat) (n0 n1 b:Nat):Prop:=(b∉fp∧B b)∧(b<n0∨n1≤b)
theorem d0U.off {B:Nat→Prop} {w W:World} {fp:List Nat} {x:WdH} (h:d0U (fun b=>b∉fp∧B b) w x) (hb:jB w W):d0U (Off B fp w.heap.size W.heap.size) W x :=
 (h.old.below hb).imp (fun b hb'=>⟨hb'.1,.inl hb'.2⟩)
theorem d0U.offUpd {B:Nat→Prop} {w w':World} {fp fp':List Nat} {n0 n1:Nat} {x:WdH} (h:d0U (Off B fp n0 n1) w x) (hu:Upd w w' fp fp'):d0U (Off B fp' n0 n1) w' x :=
 (h.old.keepP hu.size (fun b hb hlt=>hu.block b hlt hb.1.1.1)).imp (fun b hb=>⟨⟨fun hq=>(hu.fresh b hq).elim hb.1.1.1 (fun h9=>by have:=hb.2;omega),hb.1.1.2⟩,hb.1.2⟩)
theorem d0U.offEnd {B:Nat→Prop} {w w':World} {fp:List Nat} {n0 n1 X:Nat} {x:WdH} (h:d0U (Off B fp n0 n1) w x) (h0:n0≤X) (h1:X<n1) (hs:w'.heap.size=w.heap.size) (hk:∀r,r≠X→w'.heap[r]?=w.heap[r]?):d0U (fun b=>b∉fp∧B b) w' x :=
 (h.keepP (Nat.le_of_eq hs.symm) (fun b hb _=>hk b (by have:=hb.2;omega))).imp (fun b hb=>hb.1)
theorem SW.offNew {B B':Nat→Prop} {w W:World} {S:Nat} {c:Cfg} {rs rh n n0 n1:Nat} {wd:Wd} {d:d0M} (h:SW B' w S c rs rh n wd d) (hW:w.heap.size≤W.heap.size) (h1:n1≤W.heap.size) (hB:∀b,W.heap.size≤b→B b):∀b,W.heap.size≤b→Off B (d.fp S) n0 n1 b :=
 fun b hb=>⟨⟨h.new b (by omega),hB b hb⟩,.inr (by omega)⟩
theorem d0U.upd2 {B:Nat→Prop} {w w':World} {fp fp':List Nat} {x:WdH} (h:d0U (fun b=>b∉fp∧B b) w x) (hu:Upd w w' fp fp'):d0U (fun b=>b∉fp'∧B b) w' x :=
 (h.old.keepP hu.size (fun b hb hlt=>hu.block b hlt hb.1.1)).imp (fun b hb=>⟨fun hq=>(hu.fresh b hq).elim hb.1.1 (fun h9=>by have:=hb.2;omega),hb.1.2⟩)
theorem d1T {c:Cfg} {rs rh:Nat} {w:Wd} {id:ByteArray} (h:idS id=false):r0C c rs rh w id=(w,c0U,2):=by
 unfold r0C;rw [if_pos h]
theorem c1G {c:Cfg} {rs rh:Nat} {w:Wd} {id:ByteArray} (h:idS id=true) (he:(d0K w id).2≠0):r0C c rs rh w id=(w,c0U,(d0K w id).2):=by
 unfold r0C;rw [if_neg (by rw [h];decide),if_pos he]
theorem l1S {c:Cfg} {rs rh:Nat} {w:Wd} {id:ByteArray} (h:idS id=true) (he:(d0K w id).2=0):r0C c rs rh w id=((j0P c rs rh w id (d0K w id).1).1,(d0K w id).1,0):=by
 unfold r0C;rw [if_neg (by rw [h];decide),if_neg (by rw [he];decide)]
theorem m1S {B:Nat→Prop} {w:World} {S:Nat} {c:Cfg} {rs rh n:Nat} {wd:Wd} {d:d0M} (h:SW B w S c rs rh n wd d) (hB:∀b,w.heap.size≤b→B b) (hc:e0T c rs rh) (hn:n≤40) (id:ByteArray) (hm:id.size≤maxLen) :
 Calls Tryz.prog 44 #[.pointer (some ⟨S,0,none⟩),.string id] w (l0N B w S c rs rh (n+1) (d.fp S) (.tuple #[.agg (c0V (r0C c rs rh wd id).2.1).toArray,.int .i64 (r0C c rs rh wd id).2.2]) (r0C c rs rh wd id).1):=by
 have hst:e0X c.st=true:=by have:=hc.cfg;unfold i0L at this;simp only [Bool.and_eq_true] at this;exact this.1
 have hbd:=c0B _ hst;have hlo:c.lo≤256:=by have:=hc.cfg;unfold i0L at this;simp only [Bool.and_eq_true,decide_eq_true_eq] at this;omega
 have hl:(d.sts.length:Int)=c.st:=by rw [h.at_.len];exact h.ok.len
 have same:∀{v:Value} {e:Ending} {w':World},(e=.returned v∧jB w w')→l0N B w S c rs rh (n+1) (d.fp S) v wd e w':=fun hh=>⟨d,hh.1,(h.below hh.2).mono1,Upd.of_below hh.2 _⟩
 cases hid:idS id with
 | false =>
   rw [d1T hid];exact (g1U _ id w hm hid).mono (fun e w' hh=>same hh)
 | true =>
   by_cases he:(d0K wd id).2=0
   · rw [l1S hid he]
     obtain ⟨y,hy,hr,hp⟩:=e1H he;rw [hp] at he ⊢;refine (n0D w h.at_ hB hc h.ok h.home (by omega) id hm hid hy hr (a:=(n0K y.pol y.smp y.past).1) (er:=(n0K y.pol y.smp y.past).2) rfl).mono ?_;rintro e w' hh;obtain ⟨fp',rfl,⟨d',hd',rfl⟩,hu⟩:=hh.2 he;exact ⟨d',rfl,⟨hd',n1T h.ok hlo hc.room.h1,y0P h.home hst h.ok.len,Nat.le_trans p1X (Nat.succ_le_succ h.tot)⟩,hu⟩
   · rw [c1G hid he]
     cases hy:m0H wd id with
     | none =>
       have hpl:(d0K wd id).2=5:=by unfold d0K;rw [hy]
       rw [hpl];exact (z0R w h.at_ hl hst h.home id hm hid hy).mono (fun e w' hh=>same hh)
     | some y =>
       cases hr:y.ruled with
       | false =>
         have hpl:(d0K wd id).2=5:=by unfold d0K;rw [hy];dsimp only;rw [hr];rfl
         rw [hpl];exact (q0H w h.at_ hl hst h.home id hm hid hy hr).mono (fun e w' hh=>same hh)
       | true =>
         have hpl:d0K wd id=n0K y.pol y.smp y.past:=by unfold d0K;rw [hy];dsimp only;rw [hr];rfl
         rw [hpl] at he ⊢;exact (n0D w h.at_ hB hc h.ok h.home (by omega) id hm hid hy hr (a:=(n0K y.pol y.smp y.past).1) (er:=(n0K y.pol y.smp y.past).2) rfl).mono (fun e w' hh=>same (hh.1 he))
section
def n0A (B:Nat→Prop) (w:World) (S:Nat) (c:Cfg) (rs rh n:Nat) (fp:List Nat) (wd:Wd) (e:Ending) (w':World):Prop :=
 ∃d' x',e=.returned (.tuple #[.agg (wdC c x').toArray,.bool true])∧Duo B w' S c rs rh n wd d' x'∧Upd w w' fp (d'.fp S)
theorem m0D {B:Nat→Prop} {w w1 w5 W9:World} {S:Nat} {c:Cfg} {rs rh n X:Nat} {fp:List Nat} {wd:Wd} {d':d0M} {x':WdH} (h:SW (fun b=>B b∧b≠X) w5 S c rs rh n wd d') (hx:d0U (Off B (d'.fp S) w.heap.size w1.heap.size) w5 x') (ha:c0O x'=wd) (hu:Upd w w5 fp (d'.fp S)) (hX:w.heap.size≤X) (hX1:X<w1.heap.size)
    (h2:∀k,k≠X→W9.heap[k]?=w5.heap[k]?) (h3:W9.heap.size=w5.heap.size) (h4:∀n,n≤X→Below n w5 W9) :
    n0A B w S c rs rh n fp wd (.returned (.tuple #[.agg (wdC c x').toArray,.bool true])) W9 :=
  ⟨d',x',rfl,⟨h.stored h3 h2,hx.offEnd hX hX1 h3 h2,ha⟩,hu.thenB (h4 _ hX)⟩
theorem n0A.below {B:Nat→Prop} {w w1 w2:World} {S:Nat} {c:Cfg} {rs rh n:Nat} {fp:List Nat} {wd:Wd} {e:Ending} (h:n0A B w S c rs rh n fp wd e w1) (hb:jB w1 w2):n0A B w S c rs rh n fp wd e w2:=by
 obtain ⟨d',x',h1,h2,h3⟩:=h;exact ⟨d',x',h1,h2.below hb,h3.trans (Upd.of_below hb _)⟩
section
variable {B:Nat→Prop} {w:World} {S:Nat} {c:Cfg} {rs rh n:Nat} {wd:Wd} {d:d0M} {x:WdH}
theorem h1H (h:Duo B w S c rs rh n wd d x) (hB:∀b,w.heap.size≤b→B b) (hc:e0T c rs rh) (hn:n≤40) (id:ByteArray) (hm:id.size≤maxLen) (hid:idS id=false) :
 Calls Tryz.prog 41 #[.pointer (some ⟨S,0,none⟩),.agg (wdC c x).toArray,.string id] w (n0A B w S c rs rh (n+1) (d.fp S) (r0C c rs rh wd id).1):=by
 obtain ⟨wd',hwd⟩:∃r,r=(r0C c rs rh wd id).1:=⟨_,rfl⟩;rw [←hwd];have hdw:r0C c rs rh wd id=(wd,c0U,2):=d1T hid;have HSW:=jH (fun W (hW:jB w W)=>h.sw.avoidX (X:=w.heap.size+1) (Nat.le_succ _) hW);have hB1:∀W,jB w W→w.heap.size+1<W.heap.size→∀b,W.heap.size≤b→B b∧b≠w.heap.size+1:=fun W hW h1 b hb=>⟨hB b (Nat.le_trans hW.size hb),by omega⟩
 have CD:=jH (fun W (hW:jB w W) (h1:w.heap.size+1<W.heap.size)=>m1S (h.sw.avoidX (X:=w.heap.size+1) (Nat.le_succ _) hW) (hB1 W hW h1) hc hn id hm);rw [hdw] at hwd CD;dsimp only at hwd CD;have CI:=jH (fun W=>h0C id W hm);rw [hid] at CI;have HNF:=jH (show ∀r∈d.fp S,r<w.heap.size from fun r hr=>(h.sw.at_.fpLt r hr).1);have HBN:=jH hB;have HWO:=jH h.wo;have HAB:=jH h.abs;subst hwd;clear h hB hc hn hB1 hm hid hdw
 unfold wdC;unfold c0V c0U at CD;dsimp only at CD
 go_enter Tryz.func41,Tryz.ntmps41
 go_upto_region 3 with (first
  | (go_at_call 44
     refine a0B ?_;intro W1 hW1;have hb1:jB w W1:=by rw [hW1];exact a0C (a0C jR _) _
     have hx1:W1.heap[w.heap.size]?=some (.cells #[.int .i64 c.st,.int .i64 c.sa,.int .i64 c.lo,.int .i64 c.hi,.slice x.sA x.st.length x.sc,.slice x.cA x.cuts.length x.cc,.int .i64 x.ep,.bool x.over] 32 (0,0)):=by rw [hW1];exact c0J _ _ _
     have hr1:W1.heap[w.heap.size+1]?=some (.cells #[.int .i64 0,.int .i64 0,.int .i64 0,.int .i64 0,.slice none 0 0,.slice none 0 0,.int .i64 0,.bool false] 32 (0,0)):=by rw [hW1];exact b0R _ _ _
     have hlt1:w.heap.size+1<W1.heap.size:=(jL hr1);clear hW1;refine (CD.out W1 hb1 hlt1).mono ?_;rintro e w2 ⟨d',rfl,hd,hu⟩;have HSW2:=jH hd;have HU2:=jH ((Upd.of_below hb1 (d.fp S)).trans hu);have HX2:=jH (e0O hu (fun hq=>by have:=HNF.out _ hq;omega) hx1);have HR2:=jH (e0O hu (fun hq=>by have:=HNF.out _ hq;omega) hr1);have HWO2:=jH ((HWO.out.off hb1).offUpd hu);have HLT1:=jH hlt1;have HLT2:=jH hu.size
     clear hd hu hb1 hx1 hr1 hlt1)
  | (go_at_call 21
     refine (CI.out _).mono ?_;rintro e w3 ⟨rfl,rfl⟩))
 refine a0I ?_;intro W3 hW3;have hd3:jB w2 W3:=by rw [hW3];exact a0C jR _
 have HXX:=jH (jK hd3 HX2.out);have HRX:=jH (jK hd3 HR2.out);have HAX:=jH (show W3.heap[w2.heap.size]?=some (.cells #[.int .i64 0,.int .i64 0,.int .i64 0,.int .i64 0,.int .i64 0] 44 (0,0)) by rw [hW3];exact heap_alloc_new _ _);have HSW3:=jH (HSW2.out.below hd3);have HWO3:=jH (HWO2.out.below hd3);have HU3:=jH (HU2.out.trans (Upd.of_below hd3 _));clear hW3 hd3;have rb:∀U,jB W3 U→∀i,U.cell? ⟨w.heap.size,i,none⟩=(#[.int .i64 c.st,.int .i64 c.sa,.int .i64 c.lo,.int .i64 c.hi,.slice x.sA x.st.length x.sc,.slice x.cA x.cuts.length x.cc,.int .i64 x.ep,.bool x.over]:Array Value)[i]?:=fun U hU i=>(a0A hU HXX.out).1 i
 have ra:∀U,jB W3 U→∀i,U.cell? ⟨w2.heap.size,i,none⟩=(#[.int .i64 0,.int .i64 0,.int .i64 0,.int .i64 0,.int .i64 0]:Array Value)[i]?:=fun U hU i=>(a0A hU HAX.out).1 i
 have hdr:jB W3 W3.drew:=jR.drew;have HRX9:=jH (jK hdr HRX.out);have HDR:=jH hdr;obtain ⟨g1,g2,g3⟩:=a0A jR HRX9.out;obtain ⟨m1,m2,m3⟩:=a0A jR HRX.out;clear hdr;refine d0E (S:=(fun U=>jB W3 U)) 8 (by kernel_rfl) ?hS1 (fun hHeld=>?_)
 case hS1=>exact HDR.out
 refine a0L (i:=0) (v:=?v2) rfl (by kernel_rfl) (by kernel_rfl) (by kernel_rfl) (by kernel_rfl) (fun _ _ _ h=>h) (Or.inl ⟨by rfl,?hy2⟩) (by assumption) ?_
 case hy2 =>
  intro w' hSw
  (try dsimp only at hSw)
  go_simp
  try (with_reducible rfl)
 try simp only [Act.put,jA]
 refine a0L (i:=1) (v:=?v3) rfl (by kernel_rfl) (by kernel_rfl) (by kernel_rfl) (by kernel_rfl) (fun _ _ _ h=>h) (Or.inl ⟨by rfl,?hy3⟩) (by assumption) ?_
 case hy3 =>
  intro w' hSw
  (try dsimp only at hSw)
  go_simp
  try (with_reducible rfl)
 try simp only [Act.put,jA]
 refine a0L (i:=2) (v:=?v4) rfl (by kernel_rfl) (by kernel_rfl) (by kernel_rfl) (by kernel_rfl) (fun _ _ _ h=>h) (Or.inl ⟨by rfl,?hy4⟩) (by assumption) ?_
 case hy4 =>
  intro w' hSw
  (try dsimp only at hSw)
  go_simp
  try (with_reducible rfl)
 try simp only [Act.put,jA]
 refine a0L (i:=3) (v:=?v5) rfl (by kernel_rfl) (by kernel_rfl) (by kernel_rfl) (by kernel_rfl) (fun _ _ _ h=>h) (Or.inl ⟨by rfl,?hy5⟩) (by assumption) ?_
 case hy5 =>
  intro w' hSw
  (try dsimp only at hSw)
  go_simp
  try (with_reducible rfl)
 try simp only [Act.put,jA]
 refine a0L (i:=4) (v:=?v6) rfl (by kernel_rfl) (by kernel_rfl) (by kernel_rfl) (by kernel_rfl) (fun _ _ _ h=>h) (Or.inl ⟨by rfl,?hy6⟩) (by assumption) ?_
 case hy6 =>
  intro w' hSw
  (try dsimp only at hSw)
  go_simp
  try (with_reducible rfl)
 try simp only [Act.put,jA]
 refine b0Z (i:=5) (v:=?v7) rfl (by kernel_rfl) (by kernel_rfl) (by kernel_rfl) (by kernel_rfl) (fun _ _ _ h=>h) (Or.inl ⟨by rfl,?hy7⟩) (by assumption) ?_
 case hy7 =>
  intro w' hSw;clear hSw;go_simp
  try (with_reducible rfl)
 try simp only [Act.put,jA]
 refine b0Z (i:=6) (v:=?v8) rfl (by kernel_rfl) (by kernel_rfl) (by kernel_rfl) (by kernel_rfl) (fun _ _ _ h=>h) (Or.inl ⟨by rfl,?hy8⟩) (by assumption) ?_
 case hy8 =>
  intro w' hSw;clear hSw;go_simp
  try (with_reducible rfl)
 try simp only [Act.put,jA]
 refine b0Z (i:=7) (v:=?v9) rfl (by kernel_rfl) (by kernel_rfl) (by kernel_rfl) (by kernel_rfl) (fun _ _ _ h=>h) (Or.inl ⟨by rfl,?hy9⟩) (by assumption) ?_
 case hy9 =>
  intro w' hSw;clear hSw;go_simp
  try (with_reducible rfl)
 try simp only [Act.put,jA]
 refine a0W (i:=8) (by kernel_rfl) rfl (fun K hK=>?_);go_simp
 skip
 try go_simp
 refine hK.out _ _ ?hS10 (fun hHeld2=>?_)
 case hS10=>exact fun h=>nomatch (show (true:Bool)=false from h)
 clear hK K hHeld hHeld2
 try simp only [Act.put,jA]
 refine a0W (i:=9) (by kernel_rfl) rfl (fun K hK=>?_);go_simp
 skip
 try go_simp
 refine hK.out _ _ ?hS11 (fun hHeld2=>?_)
 case hS11=>exact fun h=>nomatch (show (true:Bool)=false from h)
 clear hK K hHeld2
 try simp only [Act.put,jA]
 refine d0F (by kernel_rfl) ?_ _;refine a0T ?_;intro W9 hW9;have hW9':W9=(b0J W3 (w.heap.size+1) 0 [.int .i64 c.st,.int .i64 c.sa,.int .i64 c.lo,.int .i64 c.hi,.slice x.sA x.st.length x.sc,.slice x.cA x.cuts.length x.cc,.int .i64 x.ep,.bool x.over]).drew:=hW9;obtain ⟨U,hU⟩:∃U,U=b0J W3 (w.heap.size+1) 0 [.int .i64 c.st,.int .i64 c.sa,.int .i64 c.lo,.int .i64 c.hi,.slice x.sA x.st.length x.sc,.slice x.cA x.cuts.length x.cc,.int .i64 x.ep,.bool x.over]:=⟨_,rfl⟩
 rw [←hU] at hW9';obtain ⟨t1,t2,t3,t4⟩:=a0P HRX.out [.int .i64 c.st,.int .i64 c.sa,.int .i64 c.lo,.int .i64 c.hi,.slice x.sA x.st.length x.sc,.slice x.cA x.cuts.length x.cc,.int .i64 x.ep,.bool x.over] rfl U hU;have hd9:jB U W9:=by rw [hW9'];exact jR.drew
 obtain ⟨a9,a8,a7⟩:=a0A hd9 t1;clear hW9 hW9';go_wp2_with fail
 exact bodyPost_ret (v:=.tuple #[.agg #[.int .i64 c.st,.int .i64 c.sa,.int .i64 c.lo,.int .i64 c.hi,.slice x.sA x.st.length x.sc,.slice x.cA x.cuts.length x.cc,.int .i64 x.ep,.bool x.over],.bool true]) (by simp [results,Tryz.results41,go_sem,a9]) rfl ((m0D HSW3.out HWO3.out HAB.out HU3.out (Nat.le_succ _) HLT1.out t2 t3 t4).below hd9)
theorem h1O (h:Duo B w S c rs rh n wd d x) (hB:∀b,w.heap.size≤b→B b) (hc:e0T c rs rh) (hn:n≤40) (id:ByteArray) (hm:id.size≤maxLen) (hid:idS id=true) (he:(d0K wd id).2≠0) :
 Calls Tryz.prog 41 #[.pointer (some ⟨S,0,none⟩),.agg (wdC c x).toArray,.string id] w (n0A B w S c rs rh (n+1) (d.fp S) (r0C c rs rh wd id).1):=by
 obtain ⟨wd',hwd⟩:∃r,r=(r0C c rs rh wd id).1:=⟨_,rfl⟩;rw [←hwd];have hdw:r0C c rs rh wd id=(wd,c0U,(d0K wd id).2):=c1G hid he;have HSW:=jH (fun W (hW:jB w W)=>h.sw.avoidX (X:=w.heap.size+1) (Nat.le_succ _) hW);have hB1:∀W,jB w W→w.heap.size+1<W.heap.size→∀b,W.heap.size≤b→B b∧b≠w.heap.size+1:=fun W hW h1 b hb=>⟨hB b (Nat.le_trans hW.size hb),by omega⟩
 have CD:=jH (fun W (hW:jB w W) (h1:w.heap.size+1<W.heap.size)=>m1S (h.sw.avoidX (X:=w.heap.size+1) (Nat.le_succ _) hW) (hB1 W hW h1) hc hn id hm);rw [hdw] at hwd CD;dsimp only at hwd CD;have CI:=jH (fun W=>h0C id W hm);rw [hid] at CI;have HNF:=jH (show ∀r∈d.fp S,r<w.heap.size from fun r hr=>(h.sw.at_.fpLt r hr).1);have HBN:=jH hB;have HWO:=jH h.wo;have HAB:=jH h.abs;have CP:=jH (fun (W:World) (P:Nat→Prop) (hP:∀b,W.heap.size≤b→P b) (hx:d0U P W x)=>r0W P c rs rh n x id W hP hx (c0B _ (show e0X c.st=true by have:=hc.cfg;unfold i0L at this;simp only [Bool.and_eq_true] at this;exact this.1)).2 (by rw [h.abs];exact h.sw.ok) ⟨by have:=hc.room.r2;omega,by have:=hc.room.h2;omega⟩ hm)
 rw [h.abs] at CP;rw [i1L he] at CP;subst hwd;have z0:((d0K wd' id).2 == 0)=false:=by simpa using he
 have z1:((d0K wd' id).2 != 0)=true:=by simpa using he
 clear h hB hc hn hB1 hm hid hdw;generalize (d0K wd' id).2=er at *;unfold wdC;unfold wdC c0V c0U at CP;unfold c0V c0U at CD;dsimp only at CD CP
 go_enter Tryz.func41,Tryz.ntmps41
 go_upto_region 6 with (first
  | (go_at_call 44
     refine a0B ?_;intro W1 hW1;have hb1:jB w W1:=by rw [hW1];exact a0C (a0C jR _) _
     have hx1:W1.heap[w.heap.size]?=some (.cells #[.int .i64 c.st,.int .i64 c.sa,.int .i64 c.lo,.int .i64 c.hi,.slice x.sA x.st.length x.sc,.slice x.cA x.cuts.length x.cc,.int .i64 x.ep,.bool x.over] 32 (0,0)):=by rw [hW1];exact c0J _ _ _
     have hr1:W1.heap[w.heap.size+1]?=some (.cells #[.int .i64 0,.int .i64 0,.int .i64 0,.int .i64 0,.slice none 0 0,.slice none 0 0,.int .i64 0,.bool false] 32 (0,0)):=by rw [hW1];exact b0R _ _ _
     have hlt1:w.heap.size+1<W1.heap.size:=(jL hr1);clear hW1;refine (CD.out W1 hb1 hlt1).mono ?_;rintro e w2 ⟨d',rfl,hd,hu⟩;have HSW2:=jH hd;have HU2:=jH ((Upd.of_below hb1 (d.fp S)).trans hu);have HX2:=jH (e0O hu (fun hq=>by have:=HNF.out _ hq;omega) hx1);have HR2:=jH (e0O hu (fun hq=>by have:=HNF.out _ hq;omega) hr1);have HWO2:=jH ((HWO.out.off hb1).offUpd hu);have HLT1:=jH hlt1;have HLT2:=jH hu.size
     obtain ⟨q1,q2,q3⟩:=a0A jR HX2.out;clear hd hu hb1 hx1 hr1 hlt1)
  | (go_at_call 21
     refine (CI.out _).mono ?_;rintro e w3 ⟨rfl,rfl⟩)
  | (go_at_call 48
     refine a0B ?_;intro V3 hV3;have hd3:jB w2 V3:=by rw [hV3];exact a0C jR _
     have ha3:V3.heap[w2.heap.size]?=some (.cells #[.int .i64 0,.int .i64 0,.int .i64 0,.int .i64 0,.int .i64 0] 44 (0,0)):=by rw [hV3];exact heap_alloc_new _ _
     clear hV3;refine (CP.out V3 _ (HSW2.out.offNew (B:=B) hd3.size (Nat.le_trans HLT2.out hd3.size) (fun b hb=>HBN.out b (Nat.le_trans (Nat.le_trans HU2.out.size hd3.size) hb))) (HWO2.out.below hd3)).mono ?_;rintro e w4 ⟨rfl,hb4⟩;have HB24:=jH (a0D hd3 hb4);have HA4:=jH (jK hb4 ha3);obtain ⟨p1,p2,p3⟩:=a0A HB24.out HX2.out;clear hd3 ha3 hb4))
 refine a0I ?_;intro W5 hW5;have hd5:jB w4 W5:=by rw [hW5];exact a0C jR _
 have hd25:=a0D HB24.out hd5;have HXX:=jH (jK hd25 HX2.out);have HRX:=jH (jK hd25 HR2.out);have HAX:=jH (jK hd5 HA4.out);have HSW5:=jH (HSW2.out.below hd25);have HWO5:=jH (HWO2.out.below hd25);have HU5:=jH (HU2.out.trans (Upd.of_below hd25 _));clear hW5 hd5 hd25 q1 q2 q3 p1 p2 p3;have rb:∀U,jB W5 U→∀i,U.cell? ⟨w.heap.size,i,none⟩=(#[.int .i64 c.st,.int .i64 c.sa,.int .i64 c.lo,.int .i64 c.hi,.slice x.sA x.st.length x.sc,.slice x.cA x.cuts.length x.cc,.int .i64 x.ep,.bool x.over]:Array Value)[i]?:=fun U hU i=>(a0A hU HXX.out).1 i
 have ra:∀U,jB W5 U→∀i,U.cell? ⟨w2.heap.size,i,none⟩=(#[.int .i64 0,.int .i64 0,.int .i64 0,.int .i64 0,.int .i64 0]:Array Value)[i]?:=fun U hU i=>(a0A hU HAX.out).1 i
 have hdr:jB W5 W5.drew:=jR.drew;have HRX9:=jH (jK hdr HRX.out);have HDR:=jH hdr;obtain ⟨g1,g2,g3⟩:=a0A jR HRX9.out;obtain ⟨m1,m2,m3⟩:=a0A jR HRX.out;clear hdr;refine d0E (S:=(fun U=>jB W5 U)) 9 (by kernel_rfl) ?hS12 (fun hHeld=>?_)
 case hS12=>exact HDR.out
 refine a0L (i:=0) (v:=?v13) rfl (by kernel_rfl) (by kernel_rfl) (by kernel_rfl) (by kernel_rfl) (fun _ _ _ h=>h) (Or.inl ⟨by rfl,?hy13⟩) (by assumption) ?_
 case hy13 =>
  intro w' hSw
  (try dsimp only at hSw)
  go_simp
  try (with_reducible rfl)
 try simp only [Act.put,jA]
 refine a0L (i:=1) (v:=?v14) rfl (by kernel_rfl) (by kernel_rfl) (by kernel_rfl) (by kernel_rfl) (fun _ _ _ h=>h) (Or.inl ⟨by rfl,?hy14⟩) (by assumption) ?_
 case hy14 =>
  intro w' hSw
  (try dsimp only at hSw)
  go_simp
  try (with_reducible rfl)
 try simp only [Act.put,jA]
 refine a0L (i:=2) (v:=?v15) rfl (by kernel_rfl) (by kernel_rfl) (by kernel_rfl) (by kernel_rfl) (fun _ _ _ h=>h) (Or.inl ⟨by rfl,?hy15⟩) (by assumption) ?_
 case hy15 =>
  intro w' hSw
  (try dsimp only at hSw)
  go_simp
  try (with_reducible rfl)
 try simp only [Act.put,jA]
 refine a0L (i:=3) (v:=?v16) rfl (by kernel_rfl) (by kernel_rfl) (by kernel_rfl) (by kernel_rfl) (fun _ _ _ h=>h) (Or.inl ⟨by rfl,?hy16⟩) (by assumption) ?_
 case hy16 =>
  intro w' hSw
  (try dsimp only at hSw)
  go_simp
  try (with_reducible rfl)
 try simp only [Act.put,jA]
 refine a0L (i:=4) (v:=?v17) rfl (by kernel_rfl) (by kernel_rfl) (by kernel_rfl) (by kernel_rfl) (fun _ _ _ h=>h) (Or.inl ⟨by rfl,?hy17⟩) (by assumption) ?_
 case hy17 =>
  intro w' hSw
  (try dsimp only at hSw)
  go_simp
  try (with_reducible rfl)
 try simp only [Act.put,jA]
 refine b0Z (i:=5) (v:=?v18) rfl (by kernel_rfl) (by kernel_rfl) (by kernel_rfl) (by kernel_rfl) (fun _ _ _ h=>h) (Or.inl ⟨by rfl,?hy18⟩) (by assumption) ?_
 case hy18 =>
  intro w' hSw;clear hSw;go_simp
  try (with_reducible rfl)
 try simp only [Act.put,jA]
 refine b0Z (i:=6) (v:=?v19) rfl (by kernel_rfl) (by kernel_rfl) (by kernel_rfl) (by kernel_rfl) (fun _ _ _ h=>h) (Or.inl ⟨by rfl,?hy19⟩) (by assumption) ?_
 case hy19 =>
  intro w' hSw;clear hSw;go_simp
  try (with_reducible rfl)
 try simp only [Act.put,jA]
 refine b0Z (i:=7) (v:=?v20) rfl (by kernel_rfl) (by kernel_rfl) (by kernel_rfl) (by kernel_rfl) (fun _ _ _ h=>h) (Or.inl ⟨by rfl,?hy20⟩) (by assumption) ?_
 case hy20 =>
  intro w' hSw;clear hSw;go_simp
  try (with_reducible rfl)
 try simp only [Act.put,jA]
 refine b0Z (i:=8) (v:=?v21) rfl (by kernel_rfl) (by kernel_rfl) (by kernel_rfl) (by kernel_rfl) (fun _ _ _ h=>h) (Or.inl ⟨by rfl,?hy21⟩) (by assumption) ?_
 case hy21 =>
  intro w' hSw;clear hSw;go_simp
  try (with_reducible rfl)
 try simp only [Act.put,jA]
 refine a0W (i:=9) (by kernel_rfl) rfl (fun K hK=>?_);go_simp
 skip
 try go_simp
 refine hK.out _ _ ?hS22 (fun hHeld2=>?_)
 case hS22=>exact fun h=>nomatch (show (true:Bool)=false from h)
 clear hK K hHeld hHeld2
 try simp only [Act.put,jA]
 refine a0W (i:=10) (by kernel_rfl) rfl (fun K hK=>?_);go_simp
 skip
 try go_simp
 refine hK.out _ _ ?hS23 (fun hHeld2=>?_)
 case hS23=>exact fun h=>nomatch (show (true:Bool)=false from h)
 clear hK K hHeld2
 try simp only [Act.put,jA]
 refine d0F (by kernel_rfl) ?_ _;refine a0T ?_;intro W9 hW9;have hW9':W9=(b0J W5 (w.heap.size+1) 0 [.int .i64 c.st,.int .i64 c.sa,.int .i64 c.lo,.int .i64 c.hi,.slice x.sA x.st.length x.sc,.slice x.cA x.cuts.length x.cc,.int .i64 x.ep,.bool x.over]).drew:=hW9;obtain ⟨U,hU⟩:∃U,U=b0J W5 (w.heap.size+1) 0 [.int .i64 c.st,.int .i64 c.sa,.int .i64 c.lo,.int .i64 c.hi,.slice x.sA x.st.length x.sc,.slice x.cA x.cuts.length x.cc,.int .i64 x.ep,.bool x.over]:=⟨_,rfl⟩
 rw [←hU] at hW9';obtain ⟨t1,t2,t3,t4⟩:=a0P HRX.out [.int .i64 c.st,.int .i64 c.sa,.int .i64 c.lo,.int .i64 c.hi,.slice x.sA x.st.length x.sc,.slice x.cA x.cuts.length x.cc,.int .i64 x.ep,.bool x.over] rfl U hU;have hd9:jB U W9:=by rw [hW9'];exact jR.drew
 obtain ⟨a9,a8,a7⟩:=a0A hd9 t1;clear hW9 hW9';go_wp2_with fail
 exact bodyPost_ret (v:=.tuple #[.agg #[.int .i64 c.st,.int .i64 c.sa,.int .i64 c.lo,.int .i64 c.hi,.slice x.sA x.st.length x.sc,.slice x.cA x.cuts.length x.cc,.int .i64 x.ep,.bool x.over],.bool true]) (by simp [results,Tryz.results41,go_sem,a9]) rfl ((m0D HSW5.out HWO5.out HAB.out HU5.out (Nat.le_succ _) HLT1.out t2 t3 t4).below hd9)
theorem l1L (h:Duo B w S c rs rh n wd d x) (hB:∀b,w.heap.size≤b→B b) (hc:e0T c rs rh) (hn:n≤40) (id:ByteArray) (hm:id.size≤maxLen) (hid:idS id=true) (he:(d0K wd id).2=0) :
 Calls Tryz.prog 41 #[.pointer (some ⟨S,0,none⟩),.agg (wdC c x).toArray,.string id] w (n0A B w S c rs rh (n+1) (d.fp S) (r0C c rs rh wd id).1):=by
 obtain ⟨wd',hwd⟩:∃r,r=(r0C c rs rh wd id).1:=⟨_,rfl⟩;rw [←hwd];have hdw:r0C c rs rh wd id=((j0P c rs rh wd id (d0K wd id).1).1,(d0K wd id).1,0):=l1S hid he;have HSW:=jH (fun W (hW:jB w W)=>h.sw.avoidX (X:=w.heap.size+1) (Nat.le_succ _) hW);have hB1:∀W,jB w W→w.heap.size+1<W.heap.size→∀b,W.heap.size≤b→B b∧b≠w.heap.size+1:=fun W hW h1 b hb=>⟨hB b (Nat.le_trans hW.size hb),by omega⟩
 have CD:=jH (fun W (hW:jB w W) (h1:w.heap.size+1<W.heap.size)=>m1S (h.sw.avoidX (X:=w.heap.size+1) (Nat.le_succ _) hW) (hB1 W hW h1) hc hn id hm);rw [hdw] at hwd CD;dsimp only at hwd CD;have CI:=jH (fun W=>h0C id W hm);rw [hid] at CI;have HNF:=jH (show ∀r∈d.fp S,r<w.heap.size from fun r hr=>(h.sw.at_.fpLt r hr).1);have HBN:=jH hB;have HWO:=jH h.wo;have HAB:=jH h.abs;have CP:=jH (fun (W:World) (P:Nat→Prop) (hP:∀b,W.heap.size≤b→P b) (hx:d0U P W x)=>r0W P c rs rh n x id W hP hx (c0B _ (show e0X c.st=true by have:=hc.cfg;unfold i0L at this;simp only [Bool.and_eq_true] at this;exact this.1)).2 (by rw [h.abs];exact h.sw.ok) ⟨by have:=hc.room.r2;omega,by have:=hc.room.h2;omega⟩ hm)
 rw [h.abs] at CP;rw [he] at CP;have CN:=jH (fun (W:World) (P:Nat→Prop) (hP:∀b,W.heap.size≤b→P b) (hx:d0U P W x)=>g1K P c rs rh n x id (d0K wd id).1 W hP hx hc.room (show e0X c.st=true by have:=hc.cfg;unfold i0L at this;simp only [Bool.and_eq_true] at this;exact this.1) (by rw [h.abs];exact h.sw.ok) (by omega) hm);rw [h.abs] at CN;have HWD:=jH hwd;clear h hB hc hn hB1 hm hid hdw hwd he
 generalize (d0K wd id).1=a at *;obtain ⟨nr,hnr⟩:∃r,r=j0P c rs rh wd id a:=⟨_,rfl⟩;rw [←hnr] at CN HWD CD;clear hnr;obtain ⟨nw,nb⟩:=nr
 (try dsimp only at CN)
 (try dsimp only at HWD)
 (try dsimp only at CD)
 unfold wdC;unfold wdC c0V at CP;unfold wdC c0V at CN;unfold c0V at CD
 (try dsimp only at CD)
 (try dsimp only at CP)
 (try dsimp only at CN)
 go_enter Tryz.func41,Tryz.ntmps41
 go_upto_region 8 with (first
  | (go_at_call 44
     refine a0B ?_;intro W1 hW1;have hb1:jB w W1:=by rw [hW1];exact a0C (a0C jR _) _
     have hx1:W1.heap[w.heap.size]?=some (.cells #[.int .i64 c.st,.int .i64 c.sa,.int .i64 c.lo,.int .i64 c.hi,.slice x.sA x.st.length x.sc,.slice x.cA x.cuts.length x.cc,.int .i64 x.ep,.bool x.over] 32 (0,0)):=by rw [hW1];exact c0J _ _ _
     have hr1:W1.heap[w.heap.size+1]?=some (.cells #[.int .i64 0,.int .i64 0,.int .i64 0,.int .i64 0,.slice none 0 0,.slice none 0 0,.int .i64 0,.bool false] 32 (0,0)):=by rw [hW1];exact b0R _ _ _
     have hlt1:w.heap.size+1<W1.heap.size:=(jL hr1);clear hW1;refine (CD.out W1 hb1 hlt1).mono ?_;rintro e w2 ⟨d',rfl,hd,hu⟩;have HSW2:=jH hd;have HU2:=jH ((Upd.of_below hb1 (d.fp S)).trans hu);have HX2:=jH (e0O hu (fun hq=>by have:=HNF.out _ hq;omega) hx1);have HR2:=jH (e0O hu (fun hq=>by have:=HNF.out _ hq;omega) hr1);have HWO2:=jH ((HWO.out.off hb1).offUpd hu);have HLT1:=jH hlt1;have HLT2:=jH hu.size
     obtain ⟨q1,q2,q3⟩:=a0A jR HX2.out;clear hd hu hb1 hx1 hr1 hlt1)
  | (go_at_call 21
     refine (CI.out _).mono ?_;rintro e w3 ⟨rfl,rfl⟩)
  | (go_at_call 48
     refine a0B ?_;intro V3 hV3;have hd3:jB w2 V3:=by rw [hV3];exact a0C jR _
     have ha3:V3.heap[w2.heap.size]?=some (.cells #[.int .i64 a.tick,.int .i64 a.load,.int .i64 a.want,.int .i64 a.repl,.int .i64 a.why] 44 (0,0)):=by rw [hV3];exact heap_alloc_new _ _
     clear hV3;refine (CP.out V3 _ (HSW2.out.offNew (B:=B) hd3.size (Nat.le_trans HLT2.out hd3.size) (fun b hb=>HBN.out b (Nat.le_trans (Nat.le_trans HU2.out.size hd3.size) hb))) (HWO2.out.below hd3)).mono ?_;rintro e w4 ⟨rfl,hb4⟩;have HB24:=jH (a0D hd3 hb4);have HA4:=jH (jK hb4 ha3);obtain ⟨p1,p2,p3⟩:=a0A HB24.out HX2.out;clear hd3 ha3 hb4)
  | (go_at_call 49
     refine a0B ?_;intro V5 hV5;have hd5:jB w4 V5:=by rw [hV5];exact a0C jR _
     have ha5:V5.heap[w4.heap.size]?=some (.cells #[.int .i64 a.tick,.int .i64 a.load,.int .i64 a.want,.int .i64 a.repl,.int .i64 a.why] 44 (0,0)):=by rw [hV5];exact heap_alloc_new _ _
     clear hV5;have hd25:=a0D HB24.out hd5;refine (CN.out V5 _ (HSW2.out.offNew (B:=B) hd25.size (Nat.le_trans HLT2.out hd25.size) (fun b hb=>HBN.out b (Nat.le_trans (Nat.le_trans HU2.out.size hd25.size) hb))) (HWO2.out.below hd25)).mono ?_;rintro e w6 ⟨x2,rfl,hwi,hab,hb6⟩;unfold wdC;have HWI6:=jH hwi;have HAB6:=jH hab;have HB26:=jH (a0D hd25 hb6);have HB46:=jH (a0D hd5 hb6);have HC6:=jH (jK hb6 ha5)
     clear hd5 ha5 hb6 hd25 hwi hab q1 q2 q3 p1 p2 p3))
 refine a0I ?_;intro W7 hW7;have hd7:jB w6 W7:=by rw [hW7];exact a0C jR _
 have hd27:=a0D HB26.out hd7;have HRX:=jH (jK hd27 HR2.out);have HAX:=jH (jK (a0D HB46.out hd7) HA4.out);have HCX:=jH (jK hd7 HC6.out);have HXX:=jH (show W7.heap[w6.heap.size]?=some (.cells #[.int .i64 c.st,.int .i64 c.sa,.int .i64 c.lo,.int .i64 c.hi,.slice x2.sA x2.st.length x2.sc,.slice x2.cA x2.cuts.length x2.cc,.int .i64 x2.ep,.bool x2.over] 32 (0,0)) by rw [hW7];exact heap_alloc_new _ _)
 have HSW7:=jH (HSW2.out.below hd27);have HWO7:=jH (HWI6.out.below hd7);have HU7:=jH (HU2.out.trans (Upd.of_below hd27 _));clear hW7 hd7 hd27;have HWW:=jH (show c0O x2=wd' by rw [HAB6.out,HWD.out]);have HSW8:=jH (show SW (fun b=>B b∧b≠w.heap.size+1) W7 S c rs rh (n+1) wd' d' by rw [HWD.out];exact HSW7.out);clear HSW7;have rb:∀U,jB W7 U→∀i,U.cell? ⟨w6.heap.size,i,none⟩=(#[.int .i64 c.st,.int .i64 c.sa,.int .i64 c.lo,.int .i64 c.hi,.slice x2.sA x2.st.length x2.sc,.slice x2.cA x2.cuts.length x2.cc,.int .i64 x2.ep,.bool x2.over]:Array Value)[i]?:=fun U hU i=>(a0A hU HXX.out).1 i
 have ra:∀U,jB W7 U→∀i,U.cell? ⟨w2.heap.size,i,none⟩=(#[.int .i64 a.tick,.int .i64 a.load,.int .i64 a.want,.int .i64 a.repl,.int .i64 a.why]:Array Value)[i]?:=fun U hU i=>(a0A hU HAX.out).1 i
 have rc:∀U,jB W7 U→∀i,U.cell? ⟨w4.heap.size,i,none⟩=(#[.int .i64 a.tick,.int .i64 a.load,.int .i64 a.want,.int .i64 a.repl,.int .i64 a.why]:Array Value)[i]?:=fun U hU i=>(a0A hU HCX.out).1 i
 have hdr:jB W7 W7.drew:=jR.drew;have HRX9:=jH (jK hdr HRX.out);have HDR:=jH hdr;obtain ⟨g1,g2,g3⟩:=a0A jR HRX9.out;obtain ⟨m1,m2,m3⟩:=a0A jR HRX.out;clear hdr;refine d0E (S:=(fun U=>jB W7 U)) 8 (by kernel_rfl) ?hS24 (fun hHeld=>?_)
 case hS24=>exact HDR.out
 refine a0L (i:=0) (v:=?v25) rfl (by kernel_rfl) (by kernel_rfl) (by kernel_rfl) (by kernel_rfl) (fun _ _ _ h=>h) (Or.inl ⟨by rfl,?hy25⟩) (by assumption) ?_
 case hy25 =>
  intro w' hSw
  (try dsimp only at hSw)
  go_simp
  try (with_reducible rfl)
 try simp only [Act.put,jA]
 refine a0L (i:=1) (v:=?v26) rfl (by kernel_rfl) (by kernel_rfl) (by kernel_rfl) (by kernel_rfl) (fun _ _ _ h=>h) (Or.inl ⟨by rfl,?hy26⟩) (by assumption) ?_
 case hy26 =>
  intro w' hSw
  (try dsimp only at hSw)
  go_simp
  try (with_reducible rfl)
 try simp only [Act.put,jA]
 refine a0L (i:=2) (v:=?v27) rfl (by kernel_rfl) (by kernel_rfl) (by kernel_rfl) (by kernel_rfl) (fun _ _ _ h=>h) (Or.inl ⟨by rfl,?hy27⟩) (by assumption) ?_
 case hy27 =>
  intro w' hSw
  (try dsimp only at hSw)
  go_simp
  try (with_reducible rfl)
 try simp only [Act.put,jA]
 refine a0L (i:=3) (v:=?v28) rfl (by kernel_rfl) (by kernel_rfl) (by kernel_rfl) (by kernel_rfl) (fun _ _ _ h=>h) (Or.inl ⟨by rfl,?hy28⟩) (by assumption) ?_
 case hy28 =>
  intro w' hSw
  (try dsimp only at hSw)
  go_simp
  try (with_reducible rfl)
 try simp only [Act.put,jA]
 refine a0L (i:=4) (v:=?v29) rfl (by kernel_rfl) (by kernel_rfl) (by kernel_rfl) (by kernel_rfl) (fun _ _ _ h=>h) (Or.inl ⟨by rfl,?hy29⟩) (by assumption) ?_
 case hy29 =>
  intro w' hSw
  (try dsimp only at hSw)
  go_simp
  try (with_reducible rfl)
 try simp only [Act.put,jA]
 refine b0Z (i:=5) (v:=?v30) rfl (by kernel_rfl) (by kernel_rfl) (by kernel_rfl) (by kernel_rfl) (fun _ _ _ h=>h) (Or.inl ⟨by rfl,?hy30⟩) (by assumption) ?_
 case hy30 =>
  intro w' hSw;clear hSw;go_simp
  try (with_reducible rfl)
 try simp only [Act.put,jA]
 refine b0Z (i:=6) (v:=?v31) rfl (by kernel_rfl) (by kernel_rfl) (by kernel_rfl) (by kernel_rfl) (fun _ _ _ h=>h) (Or.inl ⟨by rfl,?hy31⟩) (by assumption) ?_
 case hy31 =>
  intro w' hSw;clear hSw;go_simp
  try (with_reducible rfl)
 try simp only [Act.put,jA]
 refine b0Z (i:=7) (v:=?v32) rfl (by kernel_rfl) (by kernel_rfl) (by kernel_rfl) (by kernel_rfl) (fun _ _ _ h=>h) (Or.inl ⟨by rfl,?hy32⟩) (by assumption) ?_
 case hy32 =>
  intro w' hSw;clear hSw;go_simp
  try (with_reducible rfl)
 try simp only [Act.put,jA]
 refine a0W (i:=8) (by kernel_rfl) rfl (fun K hK=>?_);go_simp
 skip
 try go_simp
 refine hK.out _ _ ?hS33 (fun hHeld2=>?_)
 case hS33=>exact fun h=>nomatch (show (true:Bool)=false from h)
 clear hK K hHeld hHeld2
 try simp only [Act.put,jA]
 refine a0W (i:=9) (by kernel_rfl) rfl (fun K hK=>?_);go_simp
 skip
 try go_simp
 refine hK.out _ _ ?hS34 (fun hHeld2=>?_)
 case hS34=>exact fun h=>nomatch (show (true:Bool)=false from h)
 clear hK K hHeld2
 try simp only [Act.put,jA]
 refine d0F (by kernel_rfl) ?_ _;refine a0T ?_;intro W9 hW9;have hW9':W9=(b0J W7 (w.heap.size+1) 0 [.int .i64 c.st,.int .i64 c.sa,.int .i64 c.lo,.int .i64 c.hi,.slice x2.sA x2.st.length x2.sc,.slice x2.cA x2.cuts.length x2.cc,.int .i64 x2.ep,.bool x2.over]).drew:=hW9;obtain ⟨U,hU⟩:∃U,U=b0J W7 (w.heap.size+1) 0 [.int .i64 c.st,.int .i64 c.sa,.int .i64 c.lo,.int .i64 c.hi,.slice x2.sA x2.st.length x2.sc,.slice x2.cA x2.cuts.length x2.cc,.int .i64 x2.ep,.bool x2.over]:=⟨_,rfl⟩
 rw [←hU] at hW9';obtain ⟨t1,t2,t3,t4⟩:=a0P HRX.out [.int .i64 c.st,.int .i64 c.sa,.int .i64 c.lo,.int .i64 c.hi,.slice x2.sA x2.st.length x2.sc,.slice x2.cA x2.cuts.length x2.cc,.int .i64 x2.ep,.bool x2.over] rfl U hU;have hd9:jB U W9:=by rw [hW9'];exact jR.drew
 obtain ⟨a9,a8,a7⟩:=a0A hd9 t1;clear hW9 hW9';go_wp2_with fail
 exact bodyPost_ret (v:=.tuple #[.agg #[.int .i64 c.st,.int .i64 c.sa,.int .i64 c.lo,.int .i64 c.hi,.slice x2.sA x2.st.length x2.sc,.slice x2.cA x2.cuts.length x2.cc,.int .i64 x2.ep,.bool x2.over],.bool true]) (by simp [results,Tryz.results41,go_sem,a9]) rfl ((m0D HSW8.out HWO7.out HWW.out HU7.out (Nat.le_succ _) HLT1.out t2 t3 t4).below hd9)
theorem h1K (h:Duo B w S c rs rh n wd d x) (hB:∀b,w.heap.size≤b→B b) (hc:e0T c rs rh) (hn:n≤40) (id:ByteArray) (hm:id.size≤maxLen) :
 Calls Tryz.prog 41 #[.pointer (some ⟨S,0,none⟩),.agg (wdC c x).toArray,.string id] w (n0A B w S c rs rh (n+1) (d.fp S) (r0C c rs rh wd id).1):=by
 cases hid:idS id with
 | false=>exact h1H h hB hc hn id hm hid
 | true =>
   by_cases he:(d0K wd id).2=0
   · exact l1L h hB hc hn id hm hid he
   · exact h1O h hB hc hn id hm hid he
end
end
end
section
open Go.RowKit Go.Lib Go.Sort
theorem f0U.item {w:World} {c:Cfg} {rs rh n:Nat} {s:St} {l:List It} (h:f0U w c rs rh n s (l.map c0X)) {x:It} (hx:x∈l) :
 ∃(k:KO) (b:NE),x.key=k.1∧a0V s.es k=some b∧b0B w b.1 b.2.1 rs rh b.2.2∧j0R b.2.1 x.nd:=g1L h.at_ h.tells hx
theorem f0U.count {w:World} {c:Cfg} {rs rh n:Nat} {s:St} {l:List It} (h:f0U w c rs rh n s (l.map c0X)):s.es.length=l.length:=by
 have:=h.tells.len;rw [l0A] at this
 simpa using this
theorem f1N (B P:Nat→Prop) (S:Nat) (c:Cfg) (rs rh n:Nat) (wd:Wd) (d:d0M) (x:WdH) (w:World) (h:SW B w S c rs rh n wd d) (hx:d0U P w x) (ha:c0O x=wd) (hc:e0T c rs rh) (hn:n≤1000) :
 Calls Tryz.prog 43 #[.pointer (some ⟨S,0,none⟩),.agg (wdC c x).toArray] w (jP w (.bool true)):=by
 have hst:e0X c.st=true:=by have:=hc.cfg;unfold i0L at this;simp only [Bool.and_eq_true] at this;exact this.1
 have hbd:=c0B _ hst;have hroom:=hc.room;have hl:(d.sts.length:Int)=c.st:=by rw [h.at_.len];exact h.ok.len
 have hxl:wd.st.length=x.st.length:=by rw [←ha];simp [c0O]
 have hdl:d.sts.length=x.st.length:=h.at_.len.trans hxl;have hx64:x.st.length≤64:=by omega
 have HRS:=jH hroom.r2;have HRH:=jH hroom.h2;have CC:=jH (fun W (hW:jB w W)=>show Calls Tryz.prog 29 #[.pointer (some ⟨S,0,none⟩)] W fun e w'=>e=.returned (.int .i64 (x.st.length:Nat))∧w'=W from hdl ▸ i0U W (h.at_.below hW) (by omega));have CH:=jH (fun W (hW:jB w W) (k:Ky) (i:Nat) (hk:k.ok) (hki:c0Z k.1 k.2 c.st=(i:Int))=>show Calls Tryz.prog 30 #[.pointer (some ⟨S,0,none⟩),.agg #[.int .u64 k.1,.int .u64 k.2]] W (jP W (.int .i64 (i:Nat))) from hki ▸ f0D W (h.at_.below hW) (by omega) hl (by omega) k hk)
 have CS:=jH (fun W (hW:jB w W) i s hs=>d0V W (h.at_.below hW) i s hs (by omega));have HG:=jH (show ∀(i:Nat) (hi:i<x.st.length),∃s,d.sts[i]?=some s∧f0U w c rs rh n s (x.st[i].l.map c0X)∧(∀z∈x.st[i].l,c0Z z.key.1 z.key.2 c.st=(i:Int))∧b0D P w (.slice x.st[i].A x.st[i].l.length x.st[i].c) x.st[i].l∧x.st[i].l.length≤256 from fun i hi=>by
  have hs:=List.getElem?_eq_getElem (show i<d.sts.length by omega);have hR:wd.st[i]?=some (x.st[i].l.map c0X):=by
   rw [←ha]
   show (x.st.map fun s=>s.l.map c0X)[i]?=_
   rw [List.getElem?_map,List.getElem?_eq_getElem hi];rfl
  refine ⟨_,hs,h.at_.str i _ _ hs hR,fun z hz=>h.home i _ hR (c0X z) (List.mem_map.2 ⟨z,hz,rfl⟩),hx.it _ (List.getElem_mem hi),?_⟩;have:=h.ok.room _ (List.mem_of_getElem? hR)
  simpa using this)
 have HR:=jH hx.sr.1;clear h hx ha hc hst hbd hroom hl hxl hdl;obtain ⟨sA,sc,st,cA,cc,cuts,ep,over⟩:=x;dsimp only at HG HR CC hx64;unfold wdC;dsimp only
 go_enter Tryz.func43,Tryz.ntmps43
 go_upto_region 1 with fail
 refine a0I ?_;intro W1 hW1;have HB1:=jH (show jB w W1 by rw [hW1];exact a0C jR _);have HX1:=jH (show W1.heap[w.heap.size]?=some (.cells #[.int .i64 c.st,.int .i64 c.sa,.int .i64 c.lo,.int .i64 c.hi,.slice sA st.length sc,.slice cA cuts.length cc,.int .i64 ep,.bool over] 32 (0,0)) by rw [hW1];exact heap_alloc_new _ _);clear hW1;have rx:∀U,jB W1 U→∀i,U.cell? ⟨w.heap.size,i,none⟩=(#[.int .i64 c.st,.int .i64 c.sa,.int .i64 c.lo,.int .i64 c.hi,.slice sA st.length sc,.slice cA cuts.length cc,.int .i64 ep,.bool over]:Array Value)[i]?:=fun U hU i=>(a0A hU HX1.out).1 i
 have hS00:jB W1 W1:=jR;have hS0:jB W1 W1.drew:=hS00.drew
 go_region_held3 (fun U=>jB W1 U)
   (first
     | with_reducible exact hS0
     | with_reducible exact hS00)
   (first
     | (go_at_call 29
        refine (CC.out _ (a0D HB1.out ‹jB W1 _›)).mono ?_;rintro e w2 ⟨rfl,rfl⟩))
 all_goals
   refine a0T ?_;intro W2 hW2;have HB2:=jH (show jB W1 W2 by rw [hW2];first|exact hS0|exact hS00|exact a0F jR _);clear hW2 hS0 hS00;obtain ⟨b1,b2,b3⟩:=a0A HB2.out HX1.out;go_wp2_with fail
   clear b1 b2 b3 rx
   go_loopg [22] st.length (fun g s22 wr=>∃i:Nat,i≤st.length∧st.length - i≤g∧s22=.int .i64 i∧jB w wr)
   case atStart=>exact ⟨0,Nat.zero_le _,Nat.le_refl _,rfl,a0D HB1.out HB2.out⟩
   case round =>
    obtain ⟨i,hi,hg,rfl,hb⟩:=hrel;rename World=>wr
    have HB:=jH hb
    by_cases hlt:i<st.length
    · obtain ⟨s,hs,hok,hhome,hit,hl256⟩:=HG.out i hlt
      obtain ⟨bb,o,rfl,hbw,hcc⟩:=HR.out.at_ hlt;have q0:=(hb.cell (p:=⟨bb,_,none⟩) hbw).trans (hcc 0 _ rfl);simp only [Nat.add_zero,Nat.mul_one] at q0
      generalize st[i]=sr at q0 hok hhome hit hl256;obtain ⟨iA,ic,l⟩:=sr;dsimp only at q0 hok hhome hit hl256;have z1:(i:Int)<(st.length:Int):=by omega
      have z2:(0:Int)≤(i:Int):=by omega
      have HOK:=jH hok;have HHM:=jH hhome;have HIT:=jH hit;have HS:=jH hs;have CL:=jH (fun W (hW:jB w W)=>show Calls Tryz.prog 104 #[.pointer (some ⟨s.T,0,none⟩)] W (jP W (.int .i64 (l.length:Nat))) from hok.count ▸ q1Q s.T c s.ver s.es rs rh _ W (hok.at_.below hW).in_ (by rw [hok.count];omega));clear hs hok hhome hit hcc hb
      go_wp2_with (first
       | (go_at_call 32
          refine (CS.out _ HB.out i s HS.out).mono ?_;rintro e w5 ⟨rfl,rfl⟩)
       | (go_at_call 104
          refine (CL.out _ HB.out).mono ?_;rintro e w6 ⟨rfl,hb⟩;have HB6:=jH (a0D HB.out hb);clear hb q0))
      go_loopg [37] l.length (fun g s37 wq=>∃k:Nat,k≤l.length∧l.length - k≤g∧s37=.int .i64 k∧jB w wq)
      case atStart=>exact ⟨0,Nat.zero_le _,Nat.le_refl _,rfl,HB6.out⟩
      case round =>
       obtain ⟨k,hk,hg2,rfl,hb⟩:=hrel;rename World=>wq
       by_cases hlt2:k<l.length
       · have hxm:=List.getElem_mem hlt2
         obtain ⟨ko,b,hkey,hfb,hnode,hsame⟩:=HOK.out.item hxm;obtain ⟨ib,io,rfl,hbw2,hc⟩:=HIT.out.1.1.at_ hlt2;have hld:=HIT.out.2 _ hxm;have hhm:=HHM.out _ hxm;generalize l[k]=x at hc hkey hld hsame hhm;clear hxm;obtain ⟨key,xA,xc,pA,pc,nd⟩:=x;obtain rfl:key=ko.1:=hkey;have HF:=jH hfb;have HHK:=jH hhm;have h1:a0O 2 b0X w (.slice xA nd.smp.length xc) nd.smp:=hld.1.1;have h2:a0O 5 c0V w (.slice pA nd.past.length pc) nd.past:=hld.2.1
         have H1:=jH h1;have H2:=jH h2;have CG:=jH (fun W (hW:jB w W)=>j1K s.T s.M c s.ver s.es rs rh ko b W (HOK.out.at_.below hW) hfb);have CQ:=jH (fun W (hW:jB w W)=>h0G b.1 b.2.1 rs rh b.2.2 W (hnode.below hW));have CM:=jH (fun W (hW:jB w W)=>g0N b.1 b.2.1 rs rh b.2.2 W (hnode.below hW) HRS.out);have CA:=jH (fun W (hW:jB w W)=>j0F b.1 b.2.1 rs rh b.2.2 W (hnode.below hW) HRH.out)
         have hl1:b.2.1.smp.length≤1000000:=by obtain ⟨_,_,_,_,_,_,_,_,_,_,_,_,h8⟩:=hnode;have:=HRS.out;omega
         have hl2:b.2.1.past.length≤1000000:=by obtain ⟨_,_,_,_,_,_,hh,_⟩:=hnode;have:=hh.len;have:=HRH.out;omega
         rw [hsame.1] at CM hl1;rw [hsame.2.1] at CA hl2;rw [hsame.2.2.1,hsame.2.2.2] at CQ;have HL1:=jH hl1;have HL2:=jH hl2;have q0:=(hb.cell (p:=⟨ib,_,none⟩) hbw2).trans (hc 0 _ rfl);have q1:=(hb.cell (p:=⟨ib,_,none⟩) hbw2).trans (hc 1 _ rfl);have q2:=(hb.cell (p:=⟨ib,_,none⟩) hbw2).trans (hc 2 _ rfl);have q3:=(hb.cell (p:=⟨ib,_,none⟩) hbw2).trans (hc 3 _ rfl);have q4:=(hb.cell (p:=⟨ib,_,none⟩) hbw2).trans (hc 4 _ rfl)
         have q5:=(hb.cell (p:=⟨ib,_,none⟩) hbw2).trans (hc 5 _ rfl);have q6:=(hb.cell (p:=⟨ib,_,none⟩) hbw2).trans (hc 6 _ rfl);have q7:=(hb.cell (p:=⟨ib,_,none⟩) hbw2).trans (hc 7 _ rfl);have q8:=(hb.cell (p:=⟨ib,_,none⟩) hbw2).trans (hc 8 _ rfl);have q9:=(hb.cell (p:=⟨ib,_,none⟩) hbw2).trans (hc 9 _ rfl);have q10:=(hb.cell (p:=⟨ib,_,none⟩) hbw2).trans (hc 10 _ rfl);have q11:=(hb.cell (p:=⟨ib,_,none⟩) hbw2).trans (hc 11 _ rfl)
         simp only [Nat.add_zero] at q0
         have z3:(k:Int)<(l.length:Int):=by omega
         have z4:(0:Int)≤(k:Int):=by omega
         have HBQ:=jH hb;clear hfb hnode hsame hld hc hhm h1 h2 hl1 hl2 hb;generalize b.1=N at CG CQ CM CA
         go_upto_region 14 with (first
          | (go_at_call 105
             refine a0B ?_;intro V1 hV1;have hd1:jB wq V1:=by rw [hV1];exact a0C jR _
             have hx1:V1.heap[wq.heap.size]?=some (.cells #[.int .u64 ko.1.1,.int .u64 ko.1.2,.slice xA nd.smp.length xc,.slice pA nd.past.length pc,.int .i64 nd.pol.mn,.int .i64 nd.pol.mx,.int .i64 nd.pol.tg,.int .i64 nd.pol.tol,.int .i64 nd.pol.win,.int .i64 nd.pol.hold,.bool nd.ruled,.int .i64 (nd.ver:Nat)] 178 (0,0)):=by rw [hV1];exact heap_alloc_new _ _
             clear hV1;refine (CG.out V1 (a0D HBQ.out hd1)).mono ?_;rintro e u1 ⟨rfl,hd2⟩;have HI1:=jH (jK hd2 hx1);have HU1:=jH (a0D HBQ.out (a0D hd1 hd2));clear hd1 hd2 hx1 q0 q1 q2 q3 q4 q5 q6 q7 q8 q9 q10 q11)
          | (go_at_call 106
             refine (CQ.out u1 HU1.out).mono ?_;rintro e u2 ⟨rfl,hd3⟩;have HI2:=jH (jK hd3 HI1.out);have HU2:=jH (a0D HU1.out hd3);clear hd3))
         refine a0I ?_;intro W hW;have hd4:jB u2 W:=by rw [hW];exact a0C jR _
         have HW:=jH (a0D HU2.out hd4);have HX:=jH (jK hd4 HI2.out);have HP:=jH (show W.heap[u2.heap.size]?=some (.cells #[.int .i64 nd.pol.mn,.int .i64 nd.pol.mx,.int .i64 nd.pol.tg,.int .i64 nd.pol.tol,.int .i64 nd.pol.win,.int .i64 nd.pol.hold] 35 (0,0)) by rw [hW];exact heap_alloc_new _ _);clear hW hd4;have rl:∀U,jB W U→(∀j,U.cell? ⟨wq.heap.size,j,none⟩=(#[.int .u64 ko.1.1,.int .u64 ko.1.2,.slice xA nd.smp.length xc,.slice pA nd.past.length pc,.int .i64 nd.pol.mn,.int .i64 nd.pol.mx,.int .i64 nd.pol.tg,.int .i64 nd.pol.tol,.int .i64 nd.pol.win,.int .i64 nd.pol.hold,.bool nd.ruled,.int .i64 (nd.ver:Nat)]:Array Value)[j]?):=fun U hU=>(a0A hU HX.out).1
         have rp:∀U,jB W U→(∀j,U.cell? ⟨u2.heap.size,j,none⟩=(#[.int .i64 nd.pol.mn,.int .i64 nd.pol.mx,.int .i64 nd.pol.tg,.int .i64 nd.pol.tol,.int .i64 nd.pol.win,.int .i64 nd.pol.hold]:Array Value)[j]?):=fun U hU=>(a0A hU HP.out).1
         have hS00:jB W W:=jR;have hS0:jB W W.drew:=hS00.drew
         go_region_held3 (fun U=>jB W U)
           (first
             | with_reducible exact hS0
             | with_reducible exact HV7.out
             | with_reducible exact HV6.out
             | with_reducible exact HV5.out
             | with_reducible exact HV4.out
             | with_reducible exact HV3.out)
           (first
             | (go_at_call 30
                refine (CH.out _ (a0D HW.out ‹jB W _›) ko.1 i ko.2 HHK.out).mono ?_;rintro e v3 ⟨rfl,hb⟩;have HV3:=jH (a0D ‹jB W _› hb);clear hb)
             | (go_at_call 107
                refine (CM.out _ (a0D HW.out ‹jB W _›)).mono ?_;rintro e v4 ⟨A,c4,fq,rfl,hq,hf,hb⟩;have hb4:=a0D ‹jB W _› hb;have HQ4:=jH (hq.row d0J);have HV4:=jH hb4;clear hq hf hb hb4)
             | (go_at_call 69
                refine a0B ?_;intro V5 hV5;have hb5:jB v4 V5:=by rw [hV5];repeat (first|exact jR|refine Below.drew ?_)
                clear hV5;refine (h1M _ _ nd.smp V5 (HQ4.out.below hb5) (H1.out.below (a0D HW.out (a0D HV4.out hb5))) HL1.out).mono ?_;rintro e v5 ⟨rfl,hb⟩;have HV5:=jH (a0D HV4.out (a0D hb5 hb));clear hb5 hb)
             | (go_at_call 108
                refine (CA.out _ (a0D HW.out ‹jB W _›)).mono ?_;rintro e v6 ⟨A6,c6,fq6,rfl,hq,hf,hb⟩;have hb4:=a0D ‹jB W _› hb;have HQ6:=jH (hq.row q0L);have HV6:=jH hb4;clear hq hf hb hb4)
             | (go_at_call 70
                refine a0B ?_;intro V5 hV5;have hb5:jB v6 V5:=by rw [hV5];repeat (first|exact jR|refine Below.drew ?_)
                clear hV5;refine (a1H _ _ nd.past V5 (HQ6.out.below hb5) (H2.out.below (a0D HW.out (a0D HV6.out hb5))) HL2.out).mono ?_;rintro e v7 ⟨rfl,hb⟩;have HV7:=jH (a0D HV6.out (a0D hb5 hb));clear hb5 hb))
         all_goals
           go_wp2
           go_roundg (l.length - (k+1))
           case measure=>omega
           case rel=>exact ⟨k+1,hlt2,Nat.le_refl _,by go_num,a0D HW.out HV7.out⟩
       · obtain rfl:k=l.length:=by omega
         have z3:¬(l.length:Int)<(l.length:Int):=by omega
         go_wp2_with fail
         go_roundg (st.length - (i+1))
         case measure=>omega
         case rel=>exact ⟨i+1,hlt,Nat.le_refl _,by go_num,hb⟩
    · obtain rfl:i=st.length:=by omega
      have z1:¬(st.length:Int)<(st.length:Int):=by omega
      go_wp2_with fail
      go_ret
      exact ⟨rfl,HB.out⟩

end
section
open Go.RowKit Go.Lib Go.ChangeShapes Go.WideShapes Go.Joins
section
theorem j0C {n:Int} (h:(Lit.int .i64 n).wf=true):I64 n:=by simpa [Lit.wf,IntKind.min,IntKind.max,IntKind.signed,IntKind.bits,I64] using h
theorem s1D:Tryz.prog.cellsOf 35=6:=by kernel_rfl
theorem j1M:Tryz.prog.cellsOf 37=11:=by kernel_rfl
theorem n0B:Tryz.prog.cellsOf 2=1:=by kernel_rfl
theorem r1Q:Tryz.prog.cellsOf 3=1:=by kernel_rfl
theorem cl_str:Tryz.prog.cellsOf 9=1:=by kernel_rfl
theorem list6 {α:Type} {l:List α} (h:l.length=6):∃a0 a1 a2 a3 a4 a5,l=[a0,a1,a2,a3,a4,a5]:=by
 match l,h with
 | [a0,a1,a2,a3,a4,a5],_=>exact ⟨_,_,_,_,_,_,rfl⟩
theorem list11 {α:Type} {l:List α} (h:l.length=11):∃a0 a1 a2 a3 a4 a5 a6 a7 a8 a9 a10,l=[a0,a1,a2,a3,a4,a5,a6,a7,a8,a9,a10]:=by
 match l,h with
 | [a0,a1,a2,a3,a4,a5,a6,a7,a8,a9,a10],_=>exact ⟨_,_,_,_,_,_,_,_,_,_,_,rfl⟩
section
variable {H:Type} {enc:TypeId × Value→H} {w:World} {base:Nat} {spare:Nat→Bool} {held:Bool}
theorem e0E {fuel:Nat} {t:TypeId} (ht:Tryz.prog.underlying t=some (.int .i64)) (hc:Tryz.prog.cellsOf t=1) {cs:List Value} {xs:List (DataW H × List MemPlace)} {i o:Nat} (hi:i<xs.length) {v:Value} (hv:cs.drop o=v::cs.drop (o+1))
    (h:DataW.trod enc Tryz.prog w base spare held fuel t ((cs.drop o).take (Tryz.prog.cellsOf t))=xs[i]?):∃n,v=.int .i64 n∧I64 n:=by
  rw [hc,hv,List.take_succ_cons,List.take_zero,List.getElem?_eq_getElem hi] at h;obtain ⟨n,hn,_,hw⟩:=DataW.trod_int ht h;simp only [List.cons.injEq,and_true] at hn
  exact ⟨n,hn,j0C hw⟩
theorem j1X {fuel:Nat} {t:TypeId} (ht:Tryz.prog.underlying t=some .string) (hc:Tryz.prog.cellsOf t=1) {cs:List Value} {xs:List (DataW H × List MemPlace)} {i o:Nat} (hi:i<xs.length) {v:Value} (hv:cs.drop o=v::cs.drop (o+1))
    (h:DataW.trod enc Tryz.prog w base spare held fuel t ((cs.drop o).take (Tryz.prog.cellsOf t))=xs[i]?):∃s:ByteArray,v=.string s∧s.size≤maxLen:=by
  rw [hc,hv,List.take_succ_cons,List.take_zero,List.getElem?_eq_getElem hi] at h;obtain ⟨n,hn,_,hw⟩:=DataW.trod_string ht h;simp only [List.cons.injEq,and_true] at hn
  exact ⟨n,hn,hw⟩
theorem m1R {fuel:Nat} {cs:List Value} {x:DataW H × List MemPlace} (h:DataW.trod enc Tryz.prog w base spare held fuel 35 cs=some x) :
 ∃p:Pol,p.ok∧cs=[.int .i64 p.mn,.int .i64 p.mx,.int .i64 p.tg,.int .i64 p.tol,.int .i64 p.win,.int .i64 p.hold]:=by
 obtain ⟨xs,n,_,_,hl,hx,hf⟩:=DataW.trod_struct Tryz.underlying35 h;rw [s1D] at hl
 replace hx:xs.length=6:=hx
 obtain ⟨a0,a1,a2,a3,a4,a5,rfl⟩:=list6 hl;obtain ⟨n0,rfl,k0⟩:=e0E Tryz.underlying2 n0B (i:=0) (by omega) (o:=0) rfl (hf 0 _ rfl);obtain ⟨n1,rfl,k1⟩:=e0E Tryz.underlying2 n0B (i:=1) (by omega) (o:=1) rfl (hf 1 _ rfl);obtain ⟨n2,rfl,k2⟩:=e0E Tryz.underlying2 n0B (i:=2) (by omega) (o:=2) rfl (hf 2 _ rfl);obtain ⟨n3,rfl,k3⟩:=e0E Tryz.underlying2 n0B (i:=3) (by omega) (o:=3) rfl (hf 3 _ rfl)
 obtain ⟨n4,rfl,k4⟩:=e0E Tryz.underlying2 n0B (i:=4) (by omega) (o:=4) rfl (hf 4 _ rfl);obtain ⟨n5,rfl,k5⟩:=e0E Tryz.underlying2 n0B (i:=5) (by omega) (o:=5) rfl (hf 5 _ rfl);exact ⟨⟨n0,n1,n2,n3,n4,n5⟩,⟨k0,k1,k2,k3,k4,k5⟩,rfl⟩
theorem h1Q {fuel:Nat} {cs:List Value} {x:DataW H × List MemPlace} (h:DataW.trod enc Tryz.prog w base spare held fuel 37 cs=some x) :
 ∃c:c0D,c.ok∧cs=f0T c:=by
 obtain ⟨xs,n,_,_,hl,hx,hf⟩:=DataW.trod_struct Tryz.underlying37 h;rw [j1M] at hl
 replace hx:xs.length=6:=hx
 obtain ⟨a0,a1,a2,a3,a4,a5,a6,a7,a8,a9,a10,rfl⟩:=list11 hl;obtain ⟨n0,rfl,k0⟩:=e0E Tryz.underlying3 r1Q (i:=0) (by omega) (o:=0) rfl (hf 0 _ rfl);obtain ⟨n1,rfl,k1⟩:=j1X Tryz.underlying9 cl_str (i:=1) (by omega) (o:=1) rfl (hf 1 _ rfl);obtain ⟨n2,rfl,k2⟩:=e0E Tryz.underlying2 n0B (i:=2) (by omega) (o:=2) rfl (hf 2 _ rfl);obtain ⟨n3,rfl,k3⟩:=e0E Tryz.underlying2 n0B (i:=3) (by omega) (o:=3) rfl (hf 3 _ rfl)
 obtain ⟨n4,rfl,k4⟩:=e0E Tryz.underlying3 r1Q (i:=4) (by omega) (o:=4) rfl (hf 4 _ rfl);have h5:=hf 5 _ rfl;rw [List.getElem?_eq_getElem (by omega)] at h5;obtain ⟨p,k5,hp⟩:=m1R h5
 replace hp:([a5,a6,a7,a8,a9,a10]:List Value).take (Tryz.prog.cellsOf 35)=_:=hp
 rw [s1D] at hp;simp only [List.take_succ_cons,List.take_zero,List.cons.injEq,and_true] at hp
 obtain ⟨rfl,rfl,rfl,rfl,rfl,rfl⟩:=hp;exact ⟨⟨n0,n1,n2,n3,n4,p⟩,⟨k0,k1,k2,k3,k4,k5⟩,rfl⟩
theorem j1W {fuel:Nat} {cs:List Value} {x:DataW H × List MemPlace} (h:DataW.trod enc Tryz.prog w base spare held fuel 24 cs=some x) :
 ∃(v:Value) (l:List c0D),cs=[v]∧l.length≤maxLen∧(∀p∈l,p.ok)∧a0O 11 f0T w v l:=by
 haveI:Inhabited c0D:=⟨⟨0,⟨#[]⟩,0,0,0,⟨0,0,0,0,0,0⟩⟩⟩
 exact q1D (f:=f0T) Tryz.underlying24 j1M (by decide) (fun _ _ _ h=>h1Q h) h
end
end
end
section
open Go.RowKit Go.Lib Go.Sort
theorem b1V {c:Cfg} (hc:i0L c=true) (hok:c.ok):e0T c c.sa.toNat c.hi.toNat:=by
 have h:=hc;unfold i0L at h;simp only [Bool.and_eq_true,decide_eq_true_eq] at h
 exact ⟨hc,by omega,by omega,hok⟩
structure n0L (w wr:World) (S X:Nat) (c:Cfg) (rs rh k:Nat) (wd:Wd) (d:d0M) (x:WdH):Prop where
 duo:Duo (fun b=>w.heap.size≤b∧b≠X) wr S c rs rh k wd d x
 box:wr.heap[X]?=some (.cells (wdC c x).toArray 32 (0,0))
 off:X∉d.fp S
 b:jB w wr
 low:w.heap.size≤X
theorem n0L.below {w wr w':World} {S X:Nat} {c:Cfg} {rs rh k:Nat} {wd:Wd} {d:d0M} {x:WdH} (h:n0L w wr S X c rs rh k wd d x) (hb:jB wr w'):n0L w w' S X c rs rh k wd d x :=
 ⟨h.duo.below hb,(hb.block _ (Array.getElem?_eq_some_iff.1 h.box).1).trans h.box,h.off,a0D h.b hb,h.low⟩
theorem n0L.lt {w wr:World} {S X:Nat} {c:Cfg} {rs rh k:Nat} {wd:Wd} {d:d0M} {x:WdH} (h:n0L w wr S X c rs rh k wd d x):X<wr.heap.size:=(Array.getElem?_eq_some_iff.1 h.box).1
theorem n0L.new {w wr:World} {S X:Nat} {c:Cfg} {rs rh k:Nat} {wd:Wd} {d:d0M} {x:WdH} (h:n0L w wr S X c rs rh k wd d x) {W:World} (hs:wr.heap.size≤W.heap.size):∀b,W.heap.size≤b→w.heap.size≤b∧b≠X :=
 fun b hb=>by have:=h.lt;have:=h.b.size;omega
theorem n0L.put {w wr u W9:World} {S X:Nat} {c:Cfg} {rs rh k m:Nat} {wd wd':Wd} {d d':d0M} {x x':WdH} (h:n0L w wr S X c rs rh k wd d x) (hu:Upd wr u (d.fp S) (d'.fp S)) (hd:Duo (fun b=>w.heap.size≤b∧b≠X) u S c rs rh m wd' d' x') (h9:W9=b0J u X 0 (wdC c x')) :
 n0L w W9 S X c rs rh m wd' d' x':=by
 have hx:=e0O hu h.off h.box;obtain ⟨t1,t2,t3,t4⟩:=a0P hx (wdC c x') (by simp [wdC]) W9 h9;have hk:∀r,(w.heap.size≤r∧r≠X)→r<u.heap.size→W9.heap[r]?=u.heap[r]?∧(w.heap.size≤r∧r≠X):=fun r hr _=>⟨t2 r hr.2,hr⟩
 refine ⟨⟨⟨hd.sw.at_.keep (Nat.le_of_eq t3.symm) hk,hd.sw.ok,hd.sw.home,hd.sw.tot⟩,hd.wo.keepP (Nat.le_of_eq t3.symm) (fun b hb _=>t2 b hb.2.2),hd.abs⟩,t1,fun hq=>(hu.fresh X hq).elim h.off (fun h9=>by have:=h.lt;omega),?_,h.low⟩;exact (h.b.trans (hu.below h.b.size (fun r hr=>(h.duo.sw.at_.fpLt r hr).2.1))).trans (t4 _ h.low)
theorem e1B (c:Cfg) (v:Value) (l:List c0D) (w:World) (hv:a0O 11 f0T w v l) (hok:∀p∈l,p.ok) (hc:c.ok) (hcb:i0L c=false) :
 Calls Tryz.prog 9 #[j0Q c,v] w (jP w (.bool true)):=by
 obtain ⟨A,cp,rfl⟩:=hv.form;have CN:=jH (fun W=>f1O c W hcb hc);have CR:=jH (fun W=>h0F c W);rw [hcb] at CR;unfold j0Q at CN CR ⊢;clear hv hok hc hcb
 go_enter Tryz.func9,Tryz.ntmps9
 go_wp2_with (first
  | (go_at_call 26
     refine a0B ?_;intro W1 hW1;have HB1:=jH (show jB w W1 by rw [hW1];exact a0C jR _);have HC1:=jH (show W1.heap[w.heap.size]?=some (.cells #[.int .i64 c.st,.int .i64 c.sa,.int .i64 c.lo,.int .i64 c.hi] 23 (0,0)) by rw [hW1];exact heap_alloc_new _ _);clear hW1;refine (k0F W1).mono ?_;rintro e w2 ⟨rfl,hb⟩;have HB2:=jH (a0D HB1.out hb);have HC2:=jH (jK hb HC1.out);obtain ⟨c1,c2,c3⟩:=a0A jR HC2.out
     clear hb)
  | (go_at_call 27
     refine (CN.out _).mono ?_;rintro e w3 ⟨rfl,hb⟩;have HB3:=jH (a0D HB2.out hb);have HC3:=jH (jK hb HC2.out);clear c1 c2 c3;obtain ⟨c1,c2,c3⟩:=a0A jR HC3.out;clear hb)
  | (go_at_call 13
     have h9:=HB5;refine (CR.out _).mono ?_;rintro e w6 ⟨rfl,hb⟩;have HB6:=jH (a0D HB5.out hb);clear hb)
  | (go_at_call 13
     have h9:=HB4;refine (CR.out _).mono ?_;rintro e w5 ⟨rfl,hb⟩;have HB5:=jH (a0D HB4.out hb);have HC5:=jH (jK hb HC4.out);clear c1 c2 c3;obtain ⟨c1,c2,c3⟩:=a0A jR HC5.out;clear hb)
  | (go_at_call 13
     refine (CR.out _).mono ?_;rintro e w4 ⟨rfl,hb⟩;have HB4:=jH (a0D HB3.out hb);have HC4:=jH (jK hb HC3.out);clear c1 c2 c3;obtain ⟨c1,c2,c3⟩:=a0A jR HC4.out;clear hb))
 go_ret
 exact ⟨rfl,HB6.out⟩
theorem b1O (c:Cfg) (v:Value) (l:List c0D) (w:World) (hv:a0O 11 f0T w v l) (hok:∀p∈l,p.ok) (hc:c.ok) (hcb:i0L c=true) (hl:40<l.length) :
 Calls Tryz.prog 9 #[j0Q c,v] w (jP w (.bool true)):=by
 obtain ⟨A,cp,rfl⟩:=hv.form;have hcc:=b1V hcb hc;have CN:=jH (fun W=>j1O (w:=W) hcc);have CR:=jH (fun W=>h0F c W);rw [hcb] at CR;have q0:(40:Int)<(l.length:Int):=by omega
 unfold j0Q at CN CR ⊢;clear hv hok hc hcb hcc hl
 go_enter Tryz.func9,Tryz.ntmps9
 go_wp2_with (first
  | (go_at_call 26
     refine a0B ?_;intro W1 hW1;have HB1:=jH (show jB w W1 by rw [hW1];exact a0C jR _);have HC1:=jH (show W1.heap[w.heap.size]?=some (.cells #[.int .i64 c.st,.int .i64 c.sa,.int .i64 c.lo,.int .i64 c.hi] 23 (0,0)) by rw [hW1];exact heap_alloc_new _ _);clear hW1;refine (k0F W1).mono ?_;rintro e w2 ⟨rfl,hb⟩;have HB2:=jH (a0D HB1.out hb);have HC2:=jH (jK hb HC1.out);obtain ⟨c1,c2,c3⟩:=a0A jR HC2.out
     clear hb)
  | (go_at_call 27
     refine (CN.out _).mono ?_;rintro e w3 ⟨S,d0,rfl,hd,hb⟩;have HB3:=jH (a0D HB2.out hb);have HC3:=jH (jK hb HC2.out);clear c1 c2 c3;obtain ⟨c1,c2,c3⟩:=a0A jR HC3.out;clear hb hd)
  | (go_at_call 13
     have h9:=HB5;refine (CR.out _).mono ?_;rintro e w6 ⟨rfl,hb⟩;have HB6:=jH (a0D HB5.out hb);clear hb)
  | (go_at_call 13
     have h9:=HB4;refine (CR.out _).mono ?_;rintro e w5 ⟨rfl,hb⟩;have HB5:=jH (a0D HB4.out hb);have HC5:=jH (jK hb HC4.out);clear c1 c2 c3;obtain ⟨c1,c2,c3⟩:=a0A jR HC5.out;clear hb)
  | (go_at_call 13
     refine (CR.out _).mono ?_;rintro e w4 ⟨rfl,hb⟩;have HB4:=jH (a0D HB3.out hb);have HC4:=jH (jK hb HC3.out);clear c1 c2 c3;obtain ⟨c1,c2,c3⟩:=a0A jR HC4.out;clear hb))
 go_ret
 exact ⟨rfl,HB6.out⟩
theorem z0G (c:Cfg) (v:Value) (l:List c0D) (w:World) (hv:a0O 11 f0T w v l) (hok:∀p∈l,p.ok) (hc:c.ok) (hcb:i0L c=true) (hl:l.length≤40) :
 Calls Tryz.prog 9 #[j0Q c,v] w (jP w (.bool true)):=by
 obtain ⟨A,cp,rfl⟩:=hv.form;have hcc:=b1V hcb hc;have hst:e0X c.st=true:=by unfold i0L at hcb;simp only [Bool.and_eq_true] at hcb;exact hcb.1
 have hbd:=c0B _ hst;have HCC:=jH hcc;have CN:=jH (fun W=>j1O (w:=W) hcc);have CR:=jH (fun W=>h0F c W);rw [hcb] at CR;have CN2:=jH (fun W P hP=>i1J P c c.st.toNat W hP (by omega) (by omega));have HV:=jH hv;have HOK:=jH hok;have HST:=jH (And.intro hst hbd);obtain ⟨rs,hrs⟩:∃rs,rs=c.sa.toNat:=⟨_,rfl⟩;obtain ⟨rh,hrh⟩:∃rh,rh=c.hi.toNat:=⟨_,rfl⟩;rw [←hrs,←hrh] at HCC CN;have q0:¬(40:Int)<(l.length:Int):=by omega
 unfold j0Q at CN CR CN2 ⊢;clear hv hok hcc hcb hst hbd hrs hrh
 go_enter Tryz.func9,Tryz.ntmps9
 go_wp2_with (first
  | (go_at_call 26
     refine a0B ?_;intro W1 hW1;have HB1:=jH (show jB w W1 by rw [hW1];exact a0C jR _);have HC1:=jH (show W1.heap[w.heap.size]?=some (.cells #[.int .i64 c.st,.int .i64 c.sa,.int .i64 c.lo,.int .i64 c.hi] 23 (0,0)) by rw [hW1];exact heap_alloc_new _ _);clear hW1;refine (k0F W1).mono ?_;rintro e w2 ⟨rfl,hb⟩;have HB2:=jH (a0D HB1.out hb);have HC2:=jH (jK hb HC1.out);obtain ⟨c1,c2,c3⟩:=a0A jR HC2.out
     clear hb)
  | (go_at_call 27
     refine (CN.out _).mono ?_;rintro e w3 ⟨S,d0,rfl,hd,hb⟩;have HD3:=jH hd;have HB3:=jH hb;have HC3:=jH (jK hb HC2.out);clear c1 c2 c3;obtain ⟨c1,c2,c3⟩:=a0A jR HC3.out;clear hb hd)
  | (go_at_call 13
     refine (CR.out _).mono ?_;rintro e w4 ⟨rfl,hb⟩;have HB34:=jH hb;have HC4:=jH (jK hb HC3.out);clear c1 c2 c3;obtain ⟨c1,c2,c3⟩:=a0A jR HC4.out;clear hb)
  | (go_at_call 14
     refine (CN2.out w4 (fun b=>b∉d0.fp S∧w2.heap.size≤b) (fun b hb=>⟨HD3.out.new b (Nat.le_trans HB34.out.size hb),Nat.le_trans (Nat.le_trans HB3.out.size HB34.out.size) hb⟩)).mono ?_;rintro e w5 ⟨x0,rfl,hx0,hab0,hb⟩;unfold wdC;have HX5:=jH hx0;have HAB5:=jH hab0;have HB35:=jH (a0D HB34.out hb);clear hb hx0 hab0 c1 c2 c3))
 refine a0I ?_;intro W5 hW5;have hd5:jB w5 W5:=by rw [hW5];exact a0C jR _
 have hb5:W5.heap[w5.heap.size]?=some (.cells (wdC c x0).toArray 32 (0,0)):=by rw [hW5];exact heap_alloc_new _ _
 have HP0:=jH (show n0L w2 W5 S w5.heap.size c rs rh 0 (w0Z c.st.toNat) d0 x0 from
  ⟨⟨HD3.out.avoidX HB35.out.size (a0D HB35.out hd5),((HX5.out.old.below hd5).imp (fun b hb=>⟨hb.1.1,hb.1.2,by have:=hb.2;omega⟩)),HAB5.out⟩,hb5,fun hq=>by have:=(HD3.out.at_.fpLt _ hq).1;have:=HB35.out.size;omega,a0D HB3.out (a0D HB35.out hd5),Nat.le_trans HB3.out.size HB35.out.size⟩)
 clear hW5 hd5 hb5;generalize w5.heap.size=X at HP0
 try go_wp2_with fail
 go_loopg [46] l.length (fun g s46 wr=>∃(k:Nat) (wd:Wd) (d:d0M) (x:WdH),k≤l.length∧l.length - k≤g∧s46=.int .i64 k∧n0L w2 wr S X c rs rh k wd d x)
 case atStart=>exact ⟨0,_,d0,x0,Nat.zero_le _,Nat.le_refl _,rfl,HP0.out⟩
 case round =>
  obtain ⟨k,wd,d,x,hk,hg,rfl,hp⟩:=hrel;rename World=>wr
  have HP:=jH hp;clear hp
  by_cases hlt:k<l.length
  · have z1:(k:Int)<(l.length:Int):=by omega
    have z2:(0:Int)≤(k:Int):=by omega
    obtain ⟨b,o,rfl,hbw,hcx⟩:=HV.out.at_ hlt;have hxok:=HOK.out _ (List.getElem_mem hlt);generalize l[k]=xx at hcx hxok;have hbb:∀j u,(f0T xx)[j]?=some u→wr.cell? ⟨b,o+k * 11+j,none⟩=some u:=fun j u hu=>by
     have hlow:b<w2.heap.size:=Nat.lt_of_lt_of_le hbw HB2.out.size;exact (HP.out.b.cell (p:=⟨b,_,none⟩) hlow).trans ((HB2.out.cell (p:=⟨b,_,none⟩) hbw).trans (hcx j u hu))
    have CE:=jH (fun W (hW:jB wr W)=>h1K (HP.out.below hW).duo (HP.out.new hW.size) HCC.out (by omega) xx.id hxok.2.1);have CD:=jH (fun W (hW:jB wr W)=>y0N (HP.out.below hW).duo.sw (HP.out.new hW.size) HCC.out (by omega) xx hxok);have CD2:=jH (fun W (P:Nat→Prop) (hP:∀b,W.heap.size≤b→P b) (hx:d0U P W x)=>q1J P c rs rh k x xx W hP hx HCC.out.room HST.out.1 (by rw [HP.out.duo.abs];exact HP.out.duo.sw.ok) (by omega) hxok)
    rw [HP.out.duo.abs] at CD2;have CK1:=jH (fun W=>f0M xx W hxok);have CK2:=jH (fun W=>b0T xx W hxok);generalize e0Y xx=ck at CK1 CK2;have HFP:=jH (show ∀r∈d.fp S,r<wr.heap.size from fun r hr=>(HP.out.duo.sw.at_.fpLt r hr).1);obtain ⟨X1,X2,X3⟩:=a0A jR HP.out.box;unfold wdC at X1;have hne0:¬X=wr.heap.size:=by have:=HP.out.lt;omega
    have hne0b:¬wr.heap.size=X:=by have:=HP.out.lt;omega
    clear hcx hxok;obtain ⟨r,hr⟩:∃r,r=doW c rs rh wd xx:=⟨_,rfl⟩;rw [←hr] at CD CD2;clear hr;obtain ⟨dw,hdw⟩:∃r,r=(r0C c rs rh wd xx.id).1:=⟨_,rfl⟩;rw [←hdw] at CE;clear hdw;obtain ⟨kind,id,tick,val,handle,⟨p0,p1,p2,p3,p4,p5⟩⟩:=xx;have x0:=hbb 0 _ rfl;have x1:=hbb 1 _ rfl;have x2:=hbb 2 _ rfl;have x3:=hbb 3 _ rfl;have x4:=hbb 4 _ rfl;have x5:=hbb 5 _ rfl;have x6:=hbb 6 _ rfl;have x7:=hbb 7 _ rfl;have x8:=hbb 8 _ rfl
    have x9:=hbb 9 _ rfl;have x10:=hbb 10 _ rfl;rw [Nat.add_zero] at x0;unfold b0A at CD CD2 CK1 CK2;unfold wdC at CE CD2;dsimp only at x0 x1 x2 x3 x4 x5 x6 x7 x8 x9 x10 CE CD CD2 CK1 CK2;obtain ⟨nw9,rp⟩:=r;unfold d0S e0I at CD;dsimp only at CD;have CD2:=jH (fun W (P:Nat→Prop) (hP:∀b,W.heap.size≤b→P b) (hx:d0U P W x)=>show Calls Tryz.prog 16 #[.agg #[.int .i64 c.st,.int .i64 c.sa,.int .i64 c.lo,.int .i64 c.hi,.slice x.sA x.st.length x.sc,.slice x.cA x.cuts.length x.cc,.int .i64 x.ep,.bool x.over],.agg #[.int .i64 kind,.string id,.int .i64 tick,.int .i64 val,.int .i64 handle,.int .i64 p0,.int .i64 p1,.int .i64 p2,.int .i64 p3,.int .i64 p4,.int .i64 p5]] W fun e w'=>∃x',e=.returned (.tuple #[.agg #[.int .i64 c.st,.int .i64 c.sa,.int .i64 c.lo,.int .i64 c.hi,.slice x'.sA x'.st.length x'.sc,.slice x'.cA x'.cuts.length x'.cc,.int .i64 x'.ep,.bool x'.over],.agg #[.int .i64 rp.err,.int .i64 rp.ep,.int .i64 rp.hd,.int .i64 rp.st.cnt,.int .i64 rp.st.sum,.int .i64 rp.st.least,.int .i64 rp.st.most,.int .i64 rp.st.mean,.int .i64 rp.adv.tick,.int .i64 rp.adv.load,.int .i64 rp.adv.want,.int .i64 rp.adv.repl,.int .i64 rp.adv.why]])∧d0U P w' x'∧c0O x'=nw9∧jB W w' from CD2.out W P hP hx)
    clear hbb
    by_cases h0:kind=0
    · subst h0
      clear CD CD2 CK1 CK2
      go_upto_region 14 with (first
       | (go_at_call 41
          refine a0B ?_;intro V hV;have hd:jB wr V:=by rw [hV];exact a0C jR _
          clear hV;refine (CE.out V hd).mono ?_;rintro e u1 ⟨d',x',rfl,hduo,hu⟩;unfold wdC;have HDU:=jH hduo;have HUU:=jH ((Upd.of_below hd (d.fp S)).trans hu);have HXX:=jH (e0O ((Upd.of_below hd (d.fp S)).trans hu) HP.out.off HP.out.box);clear hd hduo hu x0 x1 x2 x3 x4 x5 x6 x7 x8 x9 x10 X1 X2 X3))
      refine a0I ?_;intro U hU;have hdU:jB u1 U:=by rw [hU];exact a0C jR _
      have hn1:U.heap[u1.heap.size]?=some (.cells #[.int .i64 c.st,.int .i64 c.sa,.int .i64 c.lo,.int .i64 c.hi,.slice x'.sA x'.st.length x'.sc,.slice x'.cA x'.cuts.length x'.cc,.int .i64 x'.ep,.bool x'.over] 32 (0,0)):=by rw [hU];exact heap_alloc_new _ _
      have hx9:=jK hdU HXX.out;have HDV:=jH (HDU.out.below hdU);have HUV:=jH (HUU.out.trans (Upd.of_below hdU _));obtain ⟨y1,y2,y3⟩:=a0A jR hn1;obtain ⟨g1,g2,g3⟩:=a0A jR hx9;unfold wdC at g1;clear hU hdU hn1 hx9 hne0 hne0b;go_wp2_with fail
      go_roundg (l.length - (k+1))
      case measure=>omega
      case rel =>
       refine ⟨k+1,dw,d',x',hlt,Nat.le_refl _,by go_num,?_⟩;exact HP.out.put HUV.out HDV.out rfl
    · have q3:(kind == 0)=false:=by simpa using h0
      clear CE
      go_upto_region 17 with (first
       | (go_at_call 28
          refine a0B ?_;intro V hV;have hd:jB wr V:=by rw [hV];exact a0C jR _
          have hd2:wr.heap.size<V.heap.size:=by rw [hV];simp
          have hx1:V.heap[wr.heap.size]?=some (.cells #[.int .i64 kind,.string id,.int .i64 tick,.int .i64 val,.int .i64 handle,.int .i64 p0,.int .i64 p1,.int .i64 p2,.int .i64 p3,.int .i64 p4,.int .i64 p5] 37 (0,0)):=by rw [hV];exact heap_alloc_new _ _
          clear hV;refine (CD.out V hd).mono ?_;rintro e u1 ⟨d',rfl,hsw,hu⟩;have HSW:=jH hsw;have hu1:=(Upd.of_below hd (d.fp S)).trans hu;have HUU:=jH hu1;have HXX:=jH (e0O hu1 HP.out.off HP.out.box);have HWI:=jH (HP.out.duo.wo.upd2 hu1);have HC1:=jH (e0O hu (fun hq=>Nat.lt_irrefl _ (HFP.out _ hq)) hx1);have HN:=jH (show ∀b,u1.heap.size≤b→b∉d'.fp S∧w2.heap.size≤b∧b≠X from fun b hb=>⟨hsw.new b hb,HP.out.new hu1.size b hb⟩)
          obtain ⟨y1,y2,y3⟩:=a0A jR HXX.out;unfold wdC at y1;obtain ⟨g1,g2,g3⟩:=a0A jR HC1.out;have hne:¬X=u1.heap.size:=by have:=HP.out.lt;have:=hd.size;have:=hu.size;omega
          have hne2:¬wr.heap.size=u1.heap.size:=by have:=hd2;have:=hu.size;omega
          have hne3:¬u1.heap.size=X:=fun h=>hne h.symm
          have hne4:¬u1.heap.size=wr.heap.size:=fun h=>hne2 h.symm
          clear hd hd2 hx1 hsw hu hu1 x0 x1 x2 x3 x4 x5 x6 x7 x8 x9 x10 X1 X2 X3)
       | (go_at_call 16
          refine a0B ?_;intro V2 hV2;have hd:jB u1 V2:=by rw [hV2];exact a0C jR _
          have hr1:V2.heap[u1.heap.size]?=some (.cells #[.int .i64 rp.err,.int .i64 rp.ep,.int .i64 rp.hd,.int .i64 rp.st.cnt,.int .i64 rp.st.sum,.int .i64 rp.st.least,.int .i64 rp.st.most,.int .i64 rp.st.mean,.int .i64 rp.adv.tick,.int .i64 rp.adv.load,.int .i64 rp.adv.want,.int .i64 rp.adv.repl,.int .i64 rp.adv.why] 46 (0,0)):=by rw [hV2];exact heap_alloc_new _ _
          clear hV2;refine (CD2.out V2 _ (fun b hb=>HN.out b (Nat.le_trans hd.size hb)) (HWI.out.below hd)).mono ?_;rintro e u2 ⟨x',rfl,hwi,hab,hb⟩;have HWI2:=jH hwi;have HAB2:=jH hab;have HB12:=jH (a0D hd hb);have HR2:=jH (jK hb hr1);have HC2x:=jH (jK (a0D hd hb) HC1.out);clear hd hr1 hwi hab hb y1 y2 y3 g1 g2 g3 hne hne2 hne3 hne4))
      refine a0I ?_;intro U hU;have hdU:jB u2 U:=by rw [hU];exact a0C (a0C jR _) _
      have HWU:=jH (show U.heap[u2.heap.size]?=some (.cells #[.int .i64 c.st,.int .i64 c.sa,.int .i64 c.lo,.int .i64 c.hi,.slice x'.sA x'.st.length x'.sc,.slice x'.cA x'.cuts.length x'.cc,.int .i64 x'.ep,.bool x'.over] 32 (0,0)) by rw [hU];exact c0J _ _ _);have HQU:=jH (show U.heap[u2.heap.size+1]?=some (.cells #[.int .i64 rp.err,.int .i64 rp.ep,.int .i64 rp.hd,.int .i64 rp.st.cnt,.int .i64 rp.st.sum,.int .i64 rp.st.least,.int .i64 rp.st.most,.int .i64 rp.st.mean,.int .i64 rp.adv.tick,.int .i64 rp.adv.load,.int .i64 rp.adv.want,.int .i64 rp.adv.repl,.int .i64 rp.adv.why] 46 (0,0)) by rw [hU];exact b0R _ _ _)
      have HRU:=jH (jK hdU HR2.out);have HCU:=jH (jK hdU HC2x.out);have HB1U:=jH (a0D HB12.out hdU);have HDU:=jH (show Duo (fun b=>w2.heap.size≤b∧b≠X) U S c rs rh (k+1) nw9 d' x' from ⟨HSW.out.below (a0D HB12.out hdU),HWI2.out.below hdU,HAB2.out⟩);clear hU hdU;have r1:∀W,jB U W→∀j,W.cell? ⟨u1.heap.size,j,none⟩=(#[.int .i64 rp.err,.int .i64 rp.ep,.int .i64 rp.hd,.int .i64 rp.st.cnt,.int .i64 rp.st.sum,.int .i64 rp.st.least,.int .i64 rp.st.most,.int .i64 rp.st.mean,.int .i64 rp.adv.tick,.int .i64 rp.adv.load,.int .i64 rp.adv.want,.int .i64 rp.adv.repl,.int .i64 rp.adv.why]:Array Value)[j]?:=fun W hW j=>(a0A hW HRU.out).1 j
      have r2:∀W,jB U W→∀j,W.cell? ⟨u2.heap.size+1,j,none⟩=(#[.int .i64 rp.err,.int .i64 rp.ep,.int .i64 rp.hd,.int .i64 rp.st.cnt,.int .i64 rp.st.sum,.int .i64 rp.st.least,.int .i64 rp.st.most,.int .i64 rp.st.mean,.int .i64 rp.adv.tick,.int .i64 rp.adv.load,.int .i64 rp.adv.want,.int .i64 rp.adv.repl,.int .i64 rp.adv.why]:Array Value)[j]?:=fun W hW j=>(a0A hW HQU.out).1 j
      have r3:∀W,jB U W→∀j,W.cell? ⟨wr.heap.size,j,none⟩=(#[.int .i64 kind,.string id,.int .i64 tick,.int .i64 val,.int .i64 handle,.int .i64 p0,.int .i64 p1,.int .i64 p2,.int .i64 p3,.int .i64 p4,.int .i64 p5]:Array Value)[j]?:=fun W hW j=>(a0A hW HCU.out).1 j
      have hS00:jB U U:=jR;have hS0:jB U U.drew:=hS00.drew
      go_region_held3 (fun W=>jB U W)
        (first
          | with_reducible exact hS0
          | with_reducible exact HK2.out
          | with_reducible exact HK1.out)
        (first
          | (go_at_call 42
             refine a0B ?_;intro V3 hV3;have hd:jB U V3:=by rw [hV3];first|assumption|exact HK2.out|exact HK2.out.drew|exact jR|exact jR.drew
             clear hV3;refine (CK1.out V3).mono ?_;rintro e u3 ⟨rfl,hb⟩;have HK1:=jH (a0D hd hb);clear hd hb)
          | (go_at_call 33
             refine a0B ?_;intro V4 hV4;have hd:jB U V4:=by rw [hV4];first|assumption|exact HK1.out|exact HK1.out.drew|exact jR|exact jR.drew
             clear hV4;refine (CK2.out V4).mono ?_;rintro e u4 ⟨rfl,hb⟩;have HK2:=jH (a0D hd hb);clear hd hb))
      all_goals
        refine a0T ?_;intro U9 hU9;have HK9:=jH (show jB U U9 by rw [hU9];first|exact HK2.out|exact HK1.out|exact HK2.out.drew|exact HK1.out.drew);clear hU9;obtain ⟨y1,y2,y3⟩:=a0A HK9.out HWU.out;have HXX9:=jH (jK (a0D HB1U.out HK9.out) HXX.out);obtain ⟨g1,g2,g3⟩:=a0A jR HXX9.out;unfold wdC at g1;go_wp2_with fail
        go_roundg (l.length - (k+1))
        case measure=>omega
        case rel =>
         refine ⟨k+1,nw9,d',x',hlt,Nat.le_refl _,by go_num,?_⟩;exact HP.out.put (HUU.out.trans (Upd.of_below (a0D HB1U.out HK9.out) _)) (HDU.out.below HK9.out) rfl
  · obtain rfl:k=l.length:=by omega
    have z1:¬(l.length:Int)<(l.length:Int):=by omega
    have CT:=jH (fun W (hW:jB wr W)=>f1N (fun b=>w2.heap.size≤b∧b≠X) _ S c rs rh l.length wd d x W (HP.out.below hW).duo.sw (HP.out.below hW).duo.wo HP.out.duo.abs HCC.out (by omega));obtain ⟨y1,y2,y3⟩:=a0A jR HP.out.box;unfold wdC at y1 CT
    go_wp2_with (first
     | (go_at_call 43
        refine (CT.out wr jR).mono ?_;rintro e w9 ⟨rfl,hb⟩;have HB9:=jH (a0D HP.out.b hb);clear hb))
    go_ret
    exact ⟨rfl,HB2.out.trans (HB9.out.mono HB2.out.size)⟩
theorem h1E (c:Cfg) (v:Value) (l:List c0D) (w:World) (hv:a0O 11 f0T w v l) (hok:∀p∈l,p.ok) (hc:c.ok) :
 Calls Tryz.prog 9 #[j0Q c,v] w (jP w (.bool true)):=by
 cases hcb:i0L c with
 | false=>exact e1B c v l w hv hok hc hcb
 | true =>
   by_cases hl:l.length≤40
   · exact z0G c v l w hv hok hc hcb hl
   · exact b1O c v l w hv hok hc hcb (by omega)
end
end Go.Proofs.YtmniiodpbebnmaaGreat
