/- Part 36 of the proof. -/
import Derived.Test.YtmniiodpbebnmaaGreatJ35
namespace Go.Proofs.YtmniiodpbebnmaaGreat
set_option linter.unusedSimpArgs false
set_option linter.unusedVariables false
set_option linter.unusedSectionVars false
set_option maxRecDepth 100000
set_option maxHeartbeats 16000000
section
open Go.RowKit Go.Lib
theorem e1L (P:Nat→Prop) (c:Cfg) (rs rh n:Nat) (x:WdH) (w:World) (hP:∀b,w.heap.size≤b→P b) (hx:d0U P w x) (hst:c.st≤64) (hk:g0B c rs rh n (c0O x)) (hn:n≤100000) :
 Calls Tryz.prog 52 #[.agg (wdC c x).toArray] w (e0V P w c (j0B (c0O x))):=by
 have hcl:x.cuts.length≤100000:=by have:=hk.cuts;simp [c0O] at this;omega
 have hep:0≤x.ep∧x.ep≤n:=hk.ep;obtain ⟨hw1,hw2,hw3⟩:=b1S hk hst;obtain ⟨r,hr⟩:∃r,r=j0B (c0O x):=⟨_,rfl⟩;rw [←hr];unfold j0B at hr;rw [←s0Q,←n0X] at hr;have htl:(r0K x).length=x.cuts.length:=by unfold r0K;simp
 have CT:=jH (fun (W:World) (hW:jB w W)=>k0M P c x W (hx.below hW) hcl);have CA:=jH (fun (W:World) (hW:jB w W)=>x0K (Out P w.heap.size W.heap.size) c x W (k0O hP hW.size) (hx.out hW) hw1 (by omega));generalize hte:r0K x=t at hr htl CT;generalize hal:u0E x=L at hr CA;have CF:=jH (fun (W:World) (A:Option Addr) (cp:Nat) (h:a0O 1 nmC W (.slice A t.length cp) t)=>e1R _ t W h (by omega))
 have HX:=jH hx;have HP:=jH hP;have hcr:a0O 3 cuC w (.slice x.cA x.cuts.length x.cc) x.cuts:=hx.cr.1;have hcit:∀s∈x.cuts,b0D P w (.slice s.A s.l.length s.c) s.l:=hx.ct;obtain ⟨sA,sc,st,cA,cc,cuts,ep,over⟩:=x;dsimp only at htl hcl hcr hcit hep;unfold wdC at CT CA ⊢;dsimp only at CT CA ⊢;clear hx hP hk hte hal hw1 hw2 hw3
 by_cases he:64≤f0V t
 · rw [if_pos he] at hr
   have z0:((64:Int)≤(f0V t:Nat)):=by omega
   have HRR:=jH hr;clear he hr htl hcl hcr hcit hep;generalize f0V t=lv at CF z0 HRR
   go_enter Tryz.func52,Tryz.ntmps52
   go_wp2_with (first
   | (go_at_call 117
      refine a0B ?_;intro W1 hW1;have hb:jB w W1:=by rw [hW1];exact a0C (a0C (a0C jR _) _) _
      have k0:W1.heap[w.heap.size]?=some (.cells #[.int .i64 c.st,.int .i64 c.sa,.int .i64 c.lo,.int .i64 c.hi,.slice sA st.length sc,.slice cA cuts.length cc,.int .i64 ep,.bool over] 32 (0,0)):=by rw [hW1];exact f0B _ _ _ _
      have k1:W1.heap[w.heap.size+1]?=some (.cells #[.int .i64 0,.int .i64 0,.int .i64 0,.int .i64 0,.slice none 0 0,.slice none 0 0,.int .i64 0,.bool false] 32 (0,0)):=by rw [hW1];exact f0X _ _ _ _
      have k2:W1.heap[w.heap.size+1+1]?=some (.cells #[.int .i64 0,.int .i64 0,.int .i64 0,.int .i64 0,.int .i64 0,.int .i64 0,.int .i64 0,.int .i64 0,.int .i64 0,.int .i64 0,.int .i64 0,.int .i64 0,.int .i64 0] 46 (0,0)):=by rw [hW1];exact f0Q _ _ _ _
      clear hW1;refine (CT.out W1 hb).mono ?_;rintro e w2 ⟨tA,tc,rfl,hrow,hb2⟩;have HT2:=jH hrow;have HX2:=jH (jK hb2 k0);have HA2:=jH (jK hb2 k1);have HR2:=jH (jK hb2 k2);have HB2:=jH (a0D hb hb2);clear k0 k1 k2 hb hb2 hrow)
   | (go_at_call 116
      refine (CF.out w2 tA tc HT2.out).mono ?_;rintro e w3 ⟨rfl,hb3⟩;have HX3:=jH (jK hb3 HX2.out);have HA3:=jH (jK hb3 HA2.out);have HR3:=jH (jK hb3 HR2.out);have HB3:=jH (a0D HB2.out hb3);obtain ⟨b1,b2,b3⟩:=a0A jR HX3.out;obtain ⟨c1,c2,c3⟩:=a0A jR HA3.out;obtain ⟨d1,d2,d3⟩:=a0A jR HR3.out;clear hb3))
   refine a0H ?_;intro W9 hW9;have hW9':W9=b0J (b0J w3 (w.heap.size+1) 0 [.int .i64 c.st,.int .i64 c.sa,.int .i64 c.lo,.int .i64 c.hi,.slice sA st.length sc,.slice cA cuts.length cc,.int .i64 ep,.bool over]) (w.heap.size+1+1) 0 [.int .i64 6,.int .i64 0,.int .i64 0,.int .i64 0,.int .i64 0,.int .i64 0,.int .i64 0,.int .i64 0,.int .i64 0,.int .i64 0,.int .i64 0,.int .i64 0,.int .i64 0]:=hW9;obtain ⟨S,hS⟩:∃S,S=b0J w3 (w.heap.size+1) 0 [.int .i64 c.st,.int .i64 c.sa,.int .i64 c.lo,.int .i64 c.hi,.slice sA st.length sc,.slice cA cuts.length cc,.int .i64 ep,.bool over]:=⟨_,rfl⟩
   rw [←hS] at hW9';obtain ⟨s1,s2,s3,s4⟩:=a0P HA3.out [.int .i64 c.st,.int .i64 c.sa,.int .i64 c.lo,.int .i64 c.hi,.slice sA st.length sc,.slice cA cuts.length cc,.int .i64 ep,.bool over] rfl S hS;have hr9:=(s2 (w.heap.size+1+1) (by omega)).trans HR3.out;obtain ⟨t1,t2,t3,t4⟩:=a0P hr9 [.int .i64 6,.int .i64 0,.int .i64 0,.int .i64 0,.int .i64 0,.int .i64 0,.int .i64 0,.int .i64 0,.int .i64 0,.int .i64 0,.int .i64 0,.int .i64 0,.int .i64 0] rfl W9 hW9'
   have hs1:=(t2 (w.heap.size+1) (by omega)).trans s1;obtain ⟨a9,a8,a7⟩:=a0A jR hs1;obtain ⟨g9,g8,g7⟩:=a0A jR t1;have hk9:∀b,b≠w.heap.size+1→b≠w.heap.size+1+1→W9.heap[b]?=w3.heap[b]?:=fun b q1 q2=>(t2 b q2).trans (s2 b q1)
   have hb9:jB w W9:=HB3.out.trans ((s4 _ (by omega)).trans (t4 _ (by omega)));refine bodyPost_ret (v:=.tuple #[.agg #[.int .i64 c.st,.int .i64 c.sa,.int .i64 c.lo,.int .i64 c.hi,.slice sA st.length sc,.slice cA cuts.length cc,.int .i64 ep,.bool over],.agg #[.int .i64 6,.int .i64 0,.int .i64 0,.int .i64 0,.int .i64 0,.int .i64 0,.int .i64 0,.int .i64 0,.int .i64 0,.int .i64 0,.int .i64 0,.int .i64 0,.int .i64 0]]) (by simp [results,Tryz.results52,go_sem,a9,g9]) rfl ⟨⟨sA,sc,st,cA,cc,cuts,ep,over⟩,by rw [HRR.out];rfl,HX.out.below hb9,by rw [HRR.out],hb9⟩
 · rw [if_neg he] at hr
   have z0:¬((64:Int)≤(f0V t:Nat)):=by omega
   obtain ⟨e1,he1⟩:∃e1,e1=ep+1:=⟨_,rfl⟩;have z1:IntKind.i64.wrap (ep+1)=e1:=by rw [IntKind.wrap_i64];omega
   have z1b:wrap64 (ep+1)=e1:=by unfold wrap64;omega
   have HE1:=jH he1;have HRR:=jH hr;have HCR:=jH hcr;have HCI:=jH hcit;have HLN:=jH hcl;clear he hr htl hcl hcr hcit hep he1;generalize f0V t=lv at CF z0
   go_enter Tryz.func52,Tryz.ntmps52
   go_upto_region 5 with (first
   | (go_at_call 117
      refine a0B ?_;intro W1 hW1;have hb:jB w W1:=by rw [hW1];exact a0C (a0C (a0C jR _) _) _
      have k0:W1.heap[w.heap.size]?=some (.cells #[.int .i64 c.st,.int .i64 c.sa,.int .i64 c.lo,.int .i64 c.hi,.slice sA st.length sc,.slice cA cuts.length cc,.int .i64 ep,.bool over] 32 (0,0)):=by rw [hW1];exact f0B _ _ _ _
      have k1:W1.heap[w.heap.size+1]?=some (.cells #[.int .i64 0,.int .i64 0,.int .i64 0,.int .i64 0,.slice none 0 0,.slice none 0 0,.int .i64 0,.bool false] 32 (0,0)):=by rw [hW1];exact f0X _ _ _ _
      have k2:W1.heap[w.heap.size+1+1]?=some (.cells #[.int .i64 0,.int .i64 0,.int .i64 0,.int .i64 0,.int .i64 0,.int .i64 0,.int .i64 0,.int .i64 0,.int .i64 0,.int .i64 0,.int .i64 0,.int .i64 0,.int .i64 0] 46 (0,0)):=by rw [hW1];exact f0Q _ _ _ _
      clear hW1;refine (CT.out W1 hb).mono ?_;rintro e w2 ⟨tA,tc,rfl,hrow,hb2⟩;have HT2:=jH hrow;have HX2:=jH (jK hb2 k0);have HA2:=jH (jK hb2 k1);have HR2:=jH (jK hb2 k2);have HB2:=jH (a0D hb hb2);clear k0 k1 k2 hb hb2 hrow)
   | (go_at_call 116
      refine (CF.out w2 tA tc HT2.out).mono ?_;rintro e w3 ⟨rfl,hb3⟩;have HX3:=jH (jK hb3 HX2.out);have HA3:=jH (jK hb3 HA2.out);have HR3:=jH (jK hb3 HR2.out);have HB3:=jH (a0D HB2.out hb3);obtain ⟨b1,b2,b3⟩:=a0A jR HX3.out;obtain ⟨c1,c2,c3⟩:=a0A jR HA3.out;obtain ⟨d1,d2,d3⟩:=a0A jR HR3.out;clear hb3))
   refine a0I ?_;intro W5 hW5;have hx7:W5.heap[w3.heap.size]?=some (.cells #[.int .i64 c.st,.int .i64 c.sa,.int .i64 c.lo,.int .i64 c.hi,.slice sA st.length sc,.slice cA cuts.length cc,.int .i64 e1,.bool over] 32 (0,0)):=by rw [hW5];first|exact heap_alloc_new _ _|exact a0E (heap_alloc_new _ _)
   have hb5:jB w3 W5:=by rw [hW5];first|exact a0C jR _|exact (a0C jR _).setCell (by simp) _
   have HX7:=jH hx7;have HX5:=jH (jK hb5 HX3.out);have HA5:=jH (jK hb5 HA3.out);have HR5:=jH (jK hb5 HR3.out);have HB5:=jH (a0D HB3.out hb5);have HCR5:=jH (HCR.out.below HB5.out);have HLT:=jH (show w.heap.size+1<w3.heap.size∧w.heap.size+1+1<w3.heap.size∧w3.heap.size<W5.heap.size from ⟨(jL HA3.out),(jL HR3.out),(jL hx7)⟩);clear hW5 hx7 hb5 b1 b2 b3 c1 c2 c3 d1 d2 d3;have rx:∀U,jB W5 U→∀j,U.cell? ⟨w.heap.size,j,none⟩=(#[.int .i64 c.st,.int .i64 c.sa,.int .i64 c.lo,.int .i64 c.hi,.slice sA st.length sc,.slice cA cuts.length cc,.int .i64 ep,.bool over]:Array Value)[j]?:=fun U hU j=>(a0A hU HX5.out).1 j
   have ry:∀U,jB W5 U→∀j,U.cell? ⟨w3.heap.size,j,none⟩=(#[.int .i64 c.st,.int .i64 c.sa,.int .i64 c.lo,.int .i64 c.hi,.slice sA st.length sc,.slice cA cuts.length cc,.int .i64 e1,.bool over]:Array Value)[j]?:=fun U hU j=>(a0A hU HX7.out).1 j
   refine d0E (S:=(fun U=>jB W5 U)) 12 (by kernel_rfl) ?hS1 (fun hHeld=>?_)
   case hS1=>(first|exact jR.drew|exact a0C jR.drew _|exact HB6.out|exact HB8.out|exact a0C HB8.out _|exact HB9.out)
   refine a0L (i:=1) (v:=?v2) rfl (by kernel_rfl) (by kernel_rfl) (by kernel_rfl) (by kernel_rfl) (fun _ _ _ h=>h) (Or.inl ⟨by rfl,?hy2⟩) (by assumption) ?_
   case hy2 =>
    intro w' hSw
    (try dsimp only at hSw)
    go_simp
    try (with_reducible rfl)
   try simp only [Act.put,jA]
   refine a0L (i:=2) (v:=?v3) rfl (by kernel_rfl) (by kernel_rfl) (by kernel_rfl) (by kernel_rfl) (fun _ _ _ h=>h) (Or.inl ⟨by rfl,?hy3⟩) (by assumption) ?_
   case hy3 =>
    intro w' hSw
    (try dsimp only at hSw)
    go_simp
    try (with_reducible rfl)
   try simp only [Act.put,jA]
   refine a0L (i:=4) (v:=?v4) rfl (by kernel_rfl) (by kernel_rfl) (by kernel_rfl) (by kernel_rfl) (fun _ _ _ h=>h) (Or.inl ⟨by rfl,?hy4⟩) (by assumption) ?_
   case hy4 =>
    intro w' hSw
    (try dsimp only at hSw)
    go_simp
    try (with_reducible rfl)
   try simp only [Act.put,jA]
   refine a0L (i:=5) (v:=?v5) rfl (by kernel_rfl) (by kernel_rfl) (by kernel_rfl) (by kernel_rfl) (fun _ _ _ h=>h) (Or.inl ⟨by rfl,?hy5⟩) (by assumption) ?_
   case hy5 =>
    intro w' hSw
    (try dsimp only at hSw)
    go_simp
    try (with_reducible rfl)
   try simp only [Act.put,jA]
   refine a0L (i:=6) (v:=?v6) rfl (by kernel_rfl) (by kernel_rfl) (by kernel_rfl) (by kernel_rfl) (fun _ _ _ h=>h) (Or.inl ⟨by rfl,?hy6⟩) (by assumption) ?_
   case hy6 =>
    intro w' hSw
    (try dsimp only at hSw)
    go_simp
    try (with_reducible rfl)
   try simp only [Act.put,jA]
   refine a0W (i:=0) (by kernel_rfl) rfl (fun K hK=>?_);go_simp
   skip
   try go_simp
   refine hK.out _ _ ?hS7 (fun hHeld2=>?_)
   case hS7 =>
    intro _
    (first|exact jR.drew|exact a0C jR.drew _|exact HB6.out|exact HB8.out|exact a0C HB8.out _|exact HB9.out)
   clear hK K hHeld;have hHeld:=hHeld2 (by kernel_rfl);clear hHeld2
   try simp only [Act.put,jA]
   refine a0W (i:=3) (by kernel_rfl) rfl (fun K hK=>?_)
   (refine d0B eCu (by rfl) (.tmp 16) (.tmp 18) (by rfl) W5.heap.size [] cuts _ _ (by rfl) (by rfl) (b0Q.lit0 _ _ _ _ (by simp) (Nat.le_refl _)) (HCR5.out.below (by repeat (first|exact jR|refine a0C ?_ _|refine Below.drew ?_|refine a0F ?_ _))) (by have:=HLN.out;simp;omega) (by simp) ?_
    intro out6 A6 c6 w6 hout6 hown6 hg6 _;have hb6:jB W5 w6:=Below.trans (by repeat (first|exact Below.refl W5.heap.size W5|refine a0C ?_ _|refine Below.drew ?_|refine a0F ?_ _)) (c0H hg6 (by simp) (fun r hr=>Nat.le_of_eq (Option.some.inj hr)));have ho6:cuts=out6:=by simpa using hout6.symm
    subst ho6;have HB6:=jH hb6;have HO6:=jH hown6;clear hb6 hown6 hg6 hout6)
   refine hK.out _ _ ?hS8 (fun hHeld2=>?_)
   case hS8 =>
    intro _
    (first|exact jR.drew|exact a0C jR.drew _|exact HB6.out|exact HB8.out|exact a0C HB8.out _|exact HB9.out)
   clear hK K hHeld;have hHeld:=hHeld2 (by kernel_rfl);clear hHeld2
   try simp only [Act.put,jA]
   refine a0W (i:=7) (by kernel_rfl) rfl (fun K hK=>?_);go_simp
   (go_at_call 118
    refine a0B ?_;intro W7 hW7;have hb7:jB w6 W7:=by rw [hW7];first|exact jR|exact jR.drew
    clear hW7;refine (CA.out W7 (a0D HB5.out (a0D HB6.out hb7))).mono ?_;rintro e w8 ⟨A8,c8,rfl,hit8,hb8⟩;have HI8:=jH hit8;have HB78:=jH (And.intro hb7 hb8);have HB8:=jH (a0D HB6.out (a0D hb7 hb8));clear hit8 hb7 hb8)
   try go_simp
   refine hK.out _ _ ?hS9 (fun hHeld2=>?_)
   case hS9 =>
    intro _
    (first|exact jR.drew|exact a0C jR.drew _|exact HB6.out|exact HB8.out|exact a0C HB8.out _|exact HB9.out)
   clear hK K hHeld;have hHeld:=hHeld2 (by kernel_rfl);clear hHeld2
   try simp only [Act.put,jA]
   refine a0L (i:=8) (v:=?v10) rfl (by kernel_rfl) (by kernel_rfl) (by kernel_rfl) (by kernel_rfl) (fun _ _ _ h=>h) (Or.inl ⟨by rfl,?hy10⟩) (by assumption) ?_
   case hy10 =>
    intro w' hSw
    (try dsimp only at hSw)
    go_simp
    try (with_reducible rfl)
   try simp only [Act.put,jA]
   refine a0W (i:=9) (by kernel_rfl) rfl (fun K hK=>?_);go_simp
   skip
   try go_simp
   refine hK.out _ _ ?hS11 (fun hHeld2=>?_)
   case hS11 =>
    intro _
    (first|exact jR.drew|exact a0C jR.drew _|exact HB6.out|exact HB8.out|exact a0C HB8.out _|exact HB9.out)
   clear hK K hHeld;have hHeld:=hHeld2 (by kernel_rfl);clear hHeld2
   try simp only [Act.put,jA]
   refine a0W (i:=10) (by kernel_rfl) rfl (fun K hK=>?_)
   (refine d0B eCu (by rfl) (.tmp 19) (.tmp 25) (by rfl) W5.heap.size cuts [⟨e1,A8,c8,L,false⟩] (.slice A6 cuts.length c6) _ (by rfl) (by rfl) ((HO6.out.below (a0D HB78.out.1 HB78.out.2)).below (by repeat (first|exact jR|refine a0C ?_ _|refine Below.drew ?_|refine a0F ?_ _))) (a0O.lit (n:=3) (f:=cuC) _ ⟨e1,A8,c8,L,false⟩ _ _ _ (by first|rfl|simp) rfl) (by have:=HLN.out;simp;omega) (by have:=HB8.out.size;simp;omega) ?_
    intro out9 A9 c9 w9 hout9 hown9 hg9 hblk9;obtain ⟨U9,hU9⟩:∃U,U=w8.alloc (.cells #[.int .i64 e1,.slice A8 L.length c8,.bool false] 202 (0,0)):=⟨_,rfl⟩;rw [←hU9] at hg9 hblk9;have hbu:jB w8 U9:=by rw [hU9];exact a0C jR _
    have hb9:jB W5 w9:=(a0D HB8.out hbu).trans (c0H hg9 (a0D HB8.out hbu).size (fun r hr=>(HO6.out.lt hr).1));have HB9:=jH hb9;have HBU:=jH hbu;have HG9:=jH hg9;have HO9:=jH hown9;have HOUT9:=jH hout9;obtain ⟨e1',e2',e3'⟩:=a0A jR (jK hb9 HX7.out);clear hU9 hbu hb9 hg9 hown9 hout9 hblk9)
   refine hK.out _ _ ?hS12 (fun hHeld2=>?_)
   case hS12 =>
    intro _
    (first|exact jR.drew|exact a0C jR.drew _|exact HB6.out|exact HB8.out|exact a0C HB8.out _|exact HB9.out)
   clear hK K hHeld;have hHeld:=hHeld2 (by kernel_rfl);clear hHeld2
   try simp only [Act.put,jA]
   refine a0L (i:=11) (v:=?v13) rfl (by kernel_rfl) (by kernel_rfl) (by kernel_rfl) (by kernel_rfl) (fun _ _ _ h=>h) (Or.inl ⟨by rfl,?hy13⟩) (by assumption) ?_
   case hy13 =>
    intro w' hSw
    (try dsimp only at hSw)
    go_simp
    try (with_reducible rfl)
   try simp only [Act.put,jA]
   refine a0W (i:=12) (by kernel_rfl) rfl (fun K hK=>?_);go_simp
   skip
   try go_simp
   refine hK.out _ _ ?hS14 (fun hHeld2=>?_)
   case hS14=>exact fun h=>nomatch (show (true:Bool)=false from h)
   clear hK K hHeld hHeld2
   try simp only [Act.put,jA]
   refine d0F (by kernel_rfl) ?_ _;refine a0T ?_;intro W12 hW12;obtain ⟨m,hm⟩:∃m,m=out9.length:=⟨_,rfl⟩;rw [←hm] at hW12 ⊢;have HM:=jH (show m=cuts.length+1 by rw [hm,HOUT9.out];simp);have hlt:=HLT.out;have hx12:W12.heap[w3.heap.size]?=some (.cells #[.int .i64 c.st,.int .i64 c.sa,.int .i64 c.lo,.int .i64 c.hi,.slice sA st.length sc,.slice A9 m c9,.int .i64 e1,.bool over] 32 (0,0)):=by rw [hW12];exact a0E ((HB9.out.block _ (by omega)).trans HX7.out)
   have ha12:=a0U (r:=w3.heap.size) (i:=5) (v:=.slice A9 m c9) (jK HB9.out HA5.out) (by omega);have hr12:=a0U (r:=w3.heap.size) (i:=5) (v:=.slice A9 m c9) (jK HB9.out HR5.out) (by omega);rw [←hW12] at ha12 hr12;have HK12:=jH (show ∀b,b≠w3.heap.size→W12.heap[b]?=w9.heap[b]? from fun b hb=>by rw [hW12];exact a0U rfl hb);have HB12:=jH (show jB w W12 by rw [hW12];exact (a0D HB5.out HB9.out).setCell (by have:=HB3.out.size;simp;omega) _)
   have HX12:=jH hx12;have HA12:=jH ha12;have HR12:=jH hr12;have HML:=jH hm;clear hm hx12 ha12 hr12 hlt rx ry e1' e2' e3';have hS12:W12.heap.size=w9.heap.size:=by rw [hW12];simp
   have HS12:=jH hS12;clear hW12 hS12;obtain ⟨e1',e2',e3'⟩:=a0A jR HX12.out;obtain ⟨b1,b2,b3⟩:=a0A jR HA12.out;obtain ⟨c1,c2,c3⟩:=a0A jR HR12.out;have y7:¬w3.heap.size=w.heap.size+1:=by have:=HLT.out;omega
   have y8:¬w3.heap.size=w.heap.size+1+1:=by have:=HLT.out;omega
   go_wp2_with fail
   go_region
   all_goals
     refine a0T ?_;intro W13 hW13;obtain ⟨W9,hW9⟩:∃V,V=b0J (b0J W12 (w.heap.size+1) 0 [.int .i64 c.st,.int .i64 c.sa,.int .i64 c.lo,.int .i64 c.hi,.slice sA st.length sc,.slice A9 m c9,.int .i64 e1,.bool over]) (w.heap.size+1+1) 0 [.int .i64 0,.int .i64 e1,.int .i64 (m:Nat),.int .i64 0,.int .i64 0,.int .i64 0,.int .i64 0,.int .i64 0,.int .i64 0,.int .i64 0,.int .i64 0,.int .i64 0,.int .i64 0]:=⟨_,rfl⟩
     have hW13':W13=(b0J (b0J W12 (w.heap.size+1) 0 [.int .i64 c.st,.int .i64 c.sa,.int .i64 c.lo,.int .i64 c.hi,.slice sA st.length sc,.slice A9 m c9,.int .i64 e1,.bool over]) (w.heap.size+1+1) 0 [.int .i64 0,.int .i64 e1,.int .i64 (m:Nat),.int .i64 0,.int .i64 0,.int .i64 0,.int .i64 0,.int .i64 0,.int .i64 0,.int .i64 0,.int .i64 0,.int .i64 0,.int .i64 0]).drew:=hW13;rw [←hW9] at hW13';have hd:jB W9 W13∧W13.heap=W9.heap:=by
      rw [hW13'];exact ⟨jR.drew,rfl⟩
     clear hW13';obtain ⟨hd1,hd2⟩:=hd;clear hW13;have hW9':W9=b0J (b0J W12 (w.heap.size+1) 0 [.int .i64 c.st,.int .i64 c.sa,.int .i64 c.lo,.int .i64 c.hi,.slice sA st.length sc,.slice A9 m c9,.int .i64 e1,.bool over]) (w.heap.size+1+1) 0 [.int .i64 0,.int .i64 e1,.int .i64 (m:Nat),.int .i64 0,.int .i64 0,.int .i64 0,.int .i64 0,.int .i64 0,.int .i64 0,.int .i64 0,.int .i64 0,.int .i64 0,.int .i64 0]:=hW9
     obtain ⟨S,hS⟩:∃S,S=b0J W12 (w.heap.size+1) 0 [.int .i64 c.st,.int .i64 c.sa,.int .i64 c.lo,.int .i64 c.hi,.slice sA st.length sc,.slice A9 m c9,.int .i64 e1,.bool over]:=⟨_,rfl⟩;rw [←hS] at hW9';obtain ⟨s1,s2,s3,s4⟩:=a0P HA12.out [.int .i64 c.st,.int .i64 c.sa,.int .i64 c.lo,.int .i64 c.hi,.slice sA st.length sc,.slice A9 m c9,.int .i64 e1,.bool over] rfl S hS;have hr9:=(s2 (w.heap.size+1+1) (by omega)).trans HR12.out
     obtain ⟨t1,t2,t3,t4⟩:=a0P hr9 [.int .i64 0,.int .i64 e1,.int .i64 (m:Nat),.int .i64 0,.int .i64 0,.int .i64 0,.int .i64 0,.int .i64 0,.int .i64 0,.int .i64 0,.int .i64 0,.int .i64 0,.int .i64 0] rfl W9 hW9';have hs1:=(t2 (w.heap.size+1) (by omega)).trans s1;obtain ⟨a9,a8,a7⟩:=a0A jR hs1;obtain ⟨g9,g8,g7⟩:=a0A jR t1;have hk9:∀b,b≠w.heap.size+1→b≠w.heap.size+1+1→W9.heap[b]?=W12.heap[b]?:=fun b q1 q2=>(t2 b q2).trans (s2 b q1)
     have hb9:jB w W9:=HB12.out.trans ((s4 _ (by omega)).trans (t4 _ (by omega)));have hb13:jB w W13:=a0D hb9 hd1;obtain ⟨p9,p8,p7⟩:=a0A hd1 hs1;obtain ⟨q9,q8,q7⟩:=a0A hd1 t1;have hk13:∀b,b≠w.heap.size+1→b≠w.heap.size+1+1→b≠w3.heap.size→W13.heap[b]?=w9.heap[b]?:=fun b u1 u2 u3=>by rw [hd2];exact (hk9 b u1 u2).trans (HK12.out b u3)
     have hs13:W13.heap.size=w9.heap.size:=by rw [hd2,t3,s3,HS12.out]
     clear hW9 hW9' a9 a8 a7 g9 g8 g7 b1 b2 b3 c1 c2 c3 e1' e2' e3';go_wp2_with fail
     have hm:=HML.out;subst hm;have hout:=HOUT9.out;subst hout;have he1:=HE1.out;subst he1;have hlt:=HLT.out;have h3s:=HB3.out.size;have h6:=HB6.out.size;have h78:=HB78.out.1.size;have hfin:d0U P W13 ⟨sA,sc,st,A9,c9,cuts++[⟨ep+1,A8,c8,L,false⟩],ep+1,over⟩:=by
      refine HX.out.cutsAt hb13 HP.out ((HO9.out.kept (fun r hr=>by have:=HO9.out.lt hr;exact hk13 r (by omega) (by omega) (by omega))).lower (by omega)) ?_ _ _;intro s hs
      rcases List.mem_append.1 hs with hs|hs
      · exact (HCI.out s hs).below hb13
      · rw [List.mem_singleton.1 hs]
        have h9:b0D (Out P w.heap.size W7.heap.size) w9 (.slice A8 L.length c8) L:=(HI8.out.below HBU.out).old.keepP HG9.out.size (fun b hb _=>HG9.out.block b hb.2 (fun e=>by have:=HO6.out.lt e.symm;have:=hb.1.2;omega)) |>.imp (fun b hb=>hb.1);exact (h9.keepP (by omega) (fun b hb hlt9=>hk13 b (by have:=hb.2;omega) (by have:=hb.2;omega) (by have:=hb.2;omega))).imp (fun b hb=>hb.1)
     exact bodyPost_ret (v:=.tuple #[.agg #[.int .i64 c.st,.int .i64 c.sa,.int .i64 c.lo,.int .i64 c.hi,.slice sA st.length sc,.slice A9 (cuts++[(⟨ep+1,A8,c8,L,false⟩:CuH)]).length c9,.int .i64 (ep+1),.bool over],.agg #[.int .i64 0,.int .i64 (ep+1),.int .i64 ((cuts++[(⟨ep+1,A8,c8,L,false⟩:CuH)]).length:Nat),.int .i64 0,.int .i64 0,.int .i64 0,.int .i64 0,.int .i64 0,.int .i64 0,.int .i64 0,.int .i64 0,.int .i64 0,.int .i64 0]]) (by simp [results,Tryz.results52,go_sem,p9,q9]) rfl ⟨_,by rw [HRR.out];simp [wdC,d0S,e0I,st0,c0U,c0O],hfin,by rw [HRR.out];simp [c0O,absC],hb13⟩
theorem s1F {w2 w6:World} {B:Nat} {z:Array Value} (hz:w6.heap[B]?=some (.cells z 42 (0,0))) (hle:w2.heap.size≤B) (hb:jB w2 w6) (a b c d e:Value) (hn:z.size=5:=by rfl) :
 (b0J w6 B 0 [a,b,c,d,e]).heap[B]?=some (.cells #[a,b,c,d,e] 42 (0,0))∧w2.heap.size≤B∧jB w2 (b0J w6 B 0 [a,b,c,d,e]):=by
 obtain ⟨s1,s2,s3,s4⟩:=a0P hz [a,b,c,d,e] hn _ rfl;exact ⟨s1,hle,hb.trans (s4 _ hle)⟩
theorem q1P {w2 w6:World} (hb:jB w2 w6) (a b c d e:Value) :
 (w6.alloc (.cells #[a,b,c,d,e] 42)).heap[w6.heap.size]?=some (.cells #[a,b,c,d,e] 42 (0,0))∧w2.heap.size≤w6.heap.size∧jB w2 (w6.alloc (.cells #[a,b,c,d,e] 42)) :=
 ⟨heap_alloc_new _ _,hb.size,a0C hb _⟩
theorem y0G (v:Value) (l:List Smp) (w:World) (hv:a0O 2 b0X w v l) (hl:l.length≤1000000) (hi:r0Y l) :
 Calls Tryz.prog 191 #[v] w (jP w (.int .i64 (p0S (c0P l) 0))):=by
 obtain ⟨A,c,rfl⟩:=hv.form;have CV:=jH (j0Z _ l w hv hl);have hvl:(c0P l).length≤1000000:=by rw [j0L];exact hl
 have CS:=jH (fun (W:World) (A:Option Addr) (c:Nat) (h:a0O 1 nmC W (.slice A (c0P l).length c) (c0P l))=>h1R _ (c0P l) W h hvl (fun n hn=>by have:=j0K hi n hn;unfold I64;omega));generalize c0P l=vs at CV CS;clear hv hl hi hvl
 go_enter Tryz.func191,Tryz.ntmps191
 go_wp2_with (first
  | (go_at_call 190
     refine CV.out.mono ?_;rintro e w2 ⟨A2,c2,rfl,hown,hb2⟩;have HO:=jH (hown.row eNm);have HB:=jH hb2;clear hown hb2)
  | (go_at_call 231
     refine (CS.out _ _ _ HO.out).mono ?_;rintro e w3 ⟨rfl,rfl⟩))
 go_ret
 exact ⟨rfl,HB.out⟩
theorem f1M (v:Value) (l:List Smp) (w:World) (hv:a0O 2 b0X w v l) (hl:l.length≤1000000) (hi:r0Y l) :
 Calls Tryz.prog 123 #[v] w (jP w (stV (q0F (c0P l)))):=by
 obtain ⟨A,c,rfl⟩:=hv.form;have CV:=jH (fun (W:World) (hW:jB w W)=>j0Z _ l W (hv.below hW) hl);have CS:=jH (fun (W:World) (hW:jB w W)=>y0G _ l W (hv.below hW) hl hi);have CM:=jH (fun (W:World) (hW:jB w W)=>l0M _ l W (hv.below hW) hl hi);have hvl:(c0P l).length≤1000000:=by rw [j0L];exact hl
 generalize c0P l=vs at CV CS CM hvl ⊢;clear hv hl hi;obtain ⟨r,hr⟩:∃r,r=q0F vs:=⟨_,rfl⟩;rw [←hr];obtain ⟨m,hm⟩:∃m,m=vs.length:=⟨_,rfl⟩;rw [←hm] at CV;obtain ⟨sm,hsm⟩:∃s,s=p0S vs 0:=⟨_,rfl⟩;rw [←hsm] at CS;obtain ⟨mn,hmn⟩:∃s,s=f0P vs:=⟨_,rfl⟩;rw [←hmn] at CM
 by_cases h0:m=0
 · have hvs:vs=[]:=List.length_eq_zero_iff.1 (by omega)
   rw [hvs] at hr;have hr:r=st0:=hr;subst h0;rw [hr];clear hr hm hsm hmn hvs hvl CS CM
   go_enter Tryz.func123,Tryz.ntmps123
   go_wp2_with (first
   | (go_at_call 190
      refine a0B ?_;intro W1 hW1;have hb1:jB w W1:=by rw [hW1];exact a0C jR _
      have hx1:W1.heap[w.heap.size]?=some (.cells #[.int .i64 0,.int .i64 0,.int .i64 0,.int .i64 0,.int .i64 0] 42 (0,0)):=by rw [hW1];exact heap_alloc_new _ _
      clear hW1;refine (CV.out W1 hb1).mono ?_;rintro e w2 ⟨A2,c2,rfl,hown,hb2⟩;have HB2:=jH (a0D hb1 hb2);have HX2:=jH (jK hb2 hx1);obtain ⟨b1,b2,b3⟩:=a0A jR HX2.out;clear hown hb1 hb2 hx1))
   refine a0H ?_;intro W9 hW9;have hW9':W9=b0J w2 w.heap.size 0 [.int .i64 0,.int .i64 0,.int .i64 0,.int .i64 0,.int .i64 0]:=hW9;obtain ⟨s1,s2,s3,s4⟩:=a0P HX2.out [.int .i64 0,.int .i64 0,.int .i64 0,.int .i64 0,.int .i64 0] rfl W9 hW9';obtain ⟨a9,a8,a7⟩:=a0A jR s1;clear hW9 hW9';exact bodyPost_ret (v:=.agg #[.int .i64 0,.int .i64 0,.int .i64 0,.int .i64 0,.int .i64 0]) (by simp [results,Tryz.results123,go_sem,a9]) rfl ⟨rfl,HB2.out.trans (s4 _ (Nat.le_refl _))⟩
 · obtain ⟨v0,hv0⟩:∃z,vs[0]?=some z:=⟨vs[0]'(by omega),List.getElem?_eq_getElem (by omega)⟩
   have hr2:r=⟨(m:Nat),sm,vs.foldl min v0,vs.foldl max v0,(mn:Nat)⟩:=by
    rw [hr,hsm,hmn,hm];unfold q0F
    cases vs with
    | nil=>cases hv0
    | cons a t =>
      have:a=v0:=by simpa using hv0
      subst this;rw [if_neg (by simp)];simp [d1V,e1W]
   have HRR:=jH hr2;have HM:=jH hm;have HV0:=jH hv0;have hm9:m≤1000000:=by omega
   have q0:((m:Int) == 0)=false:=by simp;omega
   have q0b:decide ((m:Int)=0)=false:=by simp;omega
   have q1:(0:Int)<(m:Int):=by omega
   have q1n:0<m:=by omega
   clear hr hr2 hm hv0 hvl hsm hmn h0
   go_enter Tryz.func123,Tryz.ntmps123
   go_upto_region 4 with (first
   | (go_at_call 190
      refine a0B ?_;intro W1 hW1;have hb1:jB w W1:=by rw [hW1];exact a0C jR _
      have hx1:W1.heap[w.heap.size]?=some (.cells #[.int .i64 0,.int .i64 0,.int .i64 0,.int .i64 0,.int .i64 0] 42 (0,0)):=by rw [hW1];exact heap_alloc_new _ _
      clear hW1;refine (CV.out W1 hb1).mono ?_;rintro e w2 ⟨A2,c2,rfl,hown,hb2⟩;have HB2:=jH (a0D hb1 hb2);have HX2:=jH (jK hb2 hx1);have HO2:=jH (show a0O 1 nmC w2 (.slice A2 vs.length c2) vs by have h9:=hown.row eNm;rw [←HM.out];exact h9);clear hown hb1 hb2 hx1))
   have hml:0<vs.length:=by have:=HM.out;omega
   obtain ⟨b,o,rfl,hbw,hc⟩:=HO2.out.at_ hml;have hc0:=hc 0 _ rfl;have hv00:vs[0]=v0:=by have:=HV0.out;rw [List.getElem?_eq_getElem hml] at this;exact Option.some.inj this
   rw [hv00] at hc0;simp only [Nat.zero_mul,Nat.add_zero] at hc0
   have rv:∀U,jB w2 U→U.cell? ⟨b,o,none⟩=some (.int .i64 v0):=fun U hU=>(hU.cell (p:=⟨b,o,none⟩) hbw).trans hc0
   clear hc hc0 hv00 hml
   go_cut [4] (fun s4 wx=>∃B,s4=.pointer (some ⟨B,0,none⟩)∧wx.heap[B]?=some (.cells #[.int .i64 (m:Nat),.int .i64 sm,.int .i64 v0,.int .i64 v0,.int .i64 (mn:Nat)] 42 (0,0))∧w2.heap.size≤B∧jB w2 wx)
   case first =>
    have hS00:jB w2 w2:=jR;have hS0:jB w2 w2.drew:=hS00.drew
    go_region_held3 (fun U=>jB w2 U)
      (first
        | with_reducible exact hS0
        | with_reducible exact HB4.out
        | with_reducible exact HB6.out
        | with_reducible exact a0C HB6.out _
        | with_reducible exact a0C HB4.out _
        | with_reducible exact Below.drew (a0C hS00 _)
        | with_reducible exact a0C hS0 _
        | (iterate 5 (with_reducible refine Below.setCell ?_ (by first|exact Nat.le_refl _|exact HB4.out.size|exact HB6.out.size) _)
           first
            | with_reducible exact HB6.out
            | with_reducible exact a0C HB6.out _))
      (first
      | (go_at_call 191
         refine a0B ?_;intro W3 hW3;have hz:W3.heap[w2.heap.size]?=some (.cells #[.int .i64 0,.int .i64 0,.int .i64 0,.int .i64 0,.int .i64 0] 42 (0,0)):=by
          first
           | (with_reducible refine f0R hW3 ?_
              rfl)
           | (with_reducible refine d0Y hW3 ?_
              rfl)
         subst hW3;refine (CS.out _ (a0D HB2.out ‹jB w2 _›)).mono ?_;rintro e w4 ⟨rfl,hb4⟩;have HZ4:=jH (jK hb4 hz);have HB4:=jH (a0D ‹jB w2 _› hb4);clear hb4 hz)
      | (go_at_call 191
         refine a0B ?_;intro W3 hW3;subst hW3;refine (CS.out _ (a0D HB2.out ‹jB w2 _›)).mono ?_;rintro e w4 ⟨rfl,hb4⟩;have HB4:=jH (a0D ‹jB w2 _› hb4);clear hb4)
      | (go_at_call 178
         refine a0B ?_;intro W5 hW5;have hz:W5.heap[w4.heap.size]?=some (.cells #[.int .i64 0,.int .i64 0,.int .i64 0,.int .i64 0,.int .i64 0] 42 (0,0)):=by
          first
           | (with_reducible refine f0R hW5 ?_
              rfl)
           | (with_reducible refine d0Y hW5 ?_
              rfl)
         subst hW5;refine (CM.out _ (a0D HB2.out (a0C HB4.out _))).mono ?_;rintro e w6 ⟨rfl,hb6⟩;have HZ6:=jH (jK hb6 hz);have HB6:=jH (a0D (a0C HB4.out _) hb6);obtain ⟨z1,z2,z3⟩:=a0A jR HZ6.out;clear hb6 hz)
      | (go_at_call 178
         refine a0B ?_;intro W5 hW5;have hz:=HZ4.out;subst hW5;refine (CM.out _ (a0D HB2.out HB4.out)).mono ?_;rintro e w6 ⟨rfl,hb6⟩;have HZ6:=jH (jK hb6 hz);have HB6:=jH (a0D HB4.out hb6);obtain ⟨z1,z2,z3⟩:=a0A jR HZ6.out;clear hb6 hz)
      | (go_at_call 178
         refine a0B ?_;intro W5 hW5;subst hW5;refine (CM.out _ (a0D HB2.out HB4.out)).mono ?_;rintro e w6 ⟨rfl,hb6⟩;have HB6:=jH (a0D HB4.out hb6);clear hb6))
    all_goals
      go_wp2_with fail
      go_meet
      refine ⟨_,rfl,?_⟩
      first
       | exact s1F HZ6.out (by first|exact Nat.le_refl _|exact HB4.out.size) HB6.out _ _ _ _ _
       | exact q1P HB6.out _ _ _ _ _
       | trace_state
   case rest =>
    obtain ⟨B,rfl,hB,hle,hb⟩:=hcut;have HLE:=jH hle;have HROW:=jH HO2.out;have HSTART:=jH (And.intro hB hb);clear hle rv hB hb;go_wp2
    go_loopg [5] m (fun g s5 wr=>∃i:Nat,i≤m∧m - i≤g∧s5=.int .i64 i∧wr.heap[B]?=some (.cells #[.int .i64 (m:Nat),.int .i64 sm,.int .i64 ((vs.take i).foldl min v0),.int .i64 ((vs.take i).foldl max v0),.int .i64 (mn:Nat)] 42 (0,0))∧jB w2 wr)
    case atStart=>exact ⟨0,Nat.zero_le _,Nat.le_refl _,rfl,HSTART.out.1,HSTART.out.2⟩
    case round =>
     obtain ⟨i,hi,hg,rfl,hB,hb⟩:=hrel;rename World=>wr
     have HBL:=jH hB;have HB:=jH hb;obtain ⟨e1,e2,e3⟩:=a0A jR hB
     by_cases hlt:i<m
     · have hlt2:i<vs.length:=by have:=HM.out;omega
       have z1:(i:Int)<(m:Int):=by omega
       have z2:(0:Int)≤(i:Int):=by omega
       obtain ⟨b',o',hbo,hbw',hc⟩:=HROW.out.at_ hlt2;injection hbo with hbo
       injection hbo with hbo1 hbo2
       subst hbo1 hbo2;have hc0:=(hb.cell (p:=⟨b,_,none⟩) hbw').trans (hc 0 _ rfl);simp only [Nat.mul_one,Nat.add_zero] at hc0
       have HT:=jH (show (vs.take (i+1)).foldl min v0=min ((vs.take i).foldl min v0) vs[i]∧(vs.take (i+1)).foldl max v0=max ((vs.take i).foldl max v0) vs[i] by rw [List.take_succ_eq_append_getElem hlt2,List.foldl_append,List.foldl_append];exact ⟨rfl,rfl⟩);have hbwr:b<wr.heap.size:=Nat.lt_of_lt_of_le hbw' hb.size;generalize vs[i]=v at hc0 HT;generalize (vs.take i).foldl min v0=lo at HT HBL e1 hB;generalize (vs.take i).foldl max v0=hi' at HT HBL e1 hB
       have hne:¬b=B:=by have:=HLE.out;omega
       have hne2:¬B=b:=fun h=>hne h.symm
       clear hc hb hB
       by_cases h1:v<lo
       · by_cases h2:hi'<v
         · have HE:=jH (show (vs.take (i+1)).foldl min v0=v∧(vs.take (i+1)).foldl max v0=v by rw [HT.out.1,HT.out.2];omega)
           go_wp2_with fail
           go_quiet (fail)
           go_wp2_with fail
           go_quiet (fail)
           go_wp2_with fail
           go_roundg (m - (i+1))
           case measure=>omega
           case rel =>
            refine ⟨i+1,hlt,Nat.le_refl _,by go_num,?_,by repeat (first|exact HB.out|refine a0F ?_ _|refine Below.drew ?_|refine Below.setCell ?_ (by exact HLE.out) _)⟩;rw [HE.out.1,HE.out.2]
            first
             | exact HBL.out
             | exact a0E HBL.out
             | exact a0E (a0E HBL.out)
         · have HE:=jH (show (vs.take (i+1)).foldl min v0=v∧(vs.take (i+1)).foldl max v0=hi' by rw [HT.out.1,HT.out.2];omega)
           go_wp2_with fail
           go_quiet (fail)
           go_wp2_with fail
           go_quiet (fail)
           go_wp2_with fail
           go_roundg (m - (i+1))
           case measure=>omega
           case rel =>
            refine ⟨i+1,hlt,Nat.le_refl _,by go_num,?_,by repeat (first|exact HB.out|refine a0F ?_ _|refine Below.drew ?_|refine Below.setCell ?_ (by exact HLE.out) _)⟩;rw [HE.out.1,HE.out.2]
            first
             | exact HBL.out
             | exact a0E HBL.out
             | exact a0E (a0E HBL.out)
       · by_cases h2:hi'<v
         · have HE:=jH (show (vs.take (i+1)).foldl min v0=lo∧(vs.take (i+1)).foldl max v0=v by rw [HT.out.1,HT.out.2];omega)
           go_wp2_with fail
           go_quiet (fail)
           go_wp2_with fail
           go_quiet (fail)
           go_wp2_with fail
           go_roundg (m - (i+1))
           case measure=>omega
           case rel =>
            refine ⟨i+1,hlt,Nat.le_refl _,by go_num,?_,by repeat (first|exact HB.out|refine a0F ?_ _|refine Below.drew ?_|refine Below.setCell ?_ (by exact HLE.out) _)⟩;rw [HE.out.1,HE.out.2]
            first
             | exact HBL.out
             | exact a0E HBL.out
             | exact a0E (a0E HBL.out)
         · have HE:=jH (show (vs.take (i+1)).foldl min v0=lo∧(vs.take (i+1)).foldl max v0=hi' by rw [HT.out.1,HT.out.2];omega)
           go_wp2_with fail
           go_quiet (fail)
           go_wp2_with fail
           go_quiet (fail)
           go_wp2_with fail
           go_roundg (m - (i+1))
           case measure=>omega
           case rel =>
            refine ⟨i+1,hlt,Nat.le_refl _,by go_num,?_,by repeat (first|exact HB.out|refine a0F ?_ _|refine Below.drew ?_|refine Below.setCell ?_ (by exact HLE.out) _)⟩;rw [HE.out.1,HE.out.2]
            first
             | exact HBL.out
             | exact a0E HBL.out
             | exact a0E (a0E HBL.out)
     · obtain rfl:i=m:=by omega
       have z1:¬(i:Int)<(i:Int):=by omega
       rw [show vs.take i=vs by rw [HM.out,List.take_length]] at e1 HBL hB;have hR:=jK hb HX2.out;have HRX:=jH hR;obtain ⟨f1,f2,f3⟩:=a0A jR hR;have hne:¬B=w.heap.size:=by have:=HLE.out;have:=(jL HX2.out);omega
       generalize vs.foldl min v0=lo at e1 HRR HBL hB;generalize vs.foldl max v0=hi' at e1 HRR HBL hB;clear hb hR hB;go_wp2
       refine a0H ?_;intro W9 hW9;have hW9':W9=b0J wr w.heap.size 0 [.int .i64 (i:Nat),.int .i64 sm,.int .i64 lo,.int .i64 hi',.int .i64 (mn:Nat)]:=hW9;obtain ⟨s1,s2,s3,s4⟩:=a0P HRX.out [.int .i64 (i:Nat),.int .i64 sm,.int .i64 lo,.int .i64 hi',.int .i64 (mn:Nat)] rfl W9 hW9';obtain ⟨a9,a8,a7⟩:=a0A jR s1;clear hW9 hW9';exact bodyPost_ret (v:=.agg #[.int .i64 (i:Nat),.int .i64 sm,.int .i64 lo,.int .i64 hi',.int .i64 (mn:Nat)]) (by simp [results,Tryz.results123,go_sem,a9]) rfl ⟨by rw [HRR.out];rfl,(a0D HB2.out HB.out).trans (s4 _ (Nat.le_refl _))⟩
end
end Go.Proofs.YtmniiodpbebnmaaGreat
