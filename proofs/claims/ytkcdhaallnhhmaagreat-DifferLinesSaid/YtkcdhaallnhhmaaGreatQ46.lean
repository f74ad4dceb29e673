/- Part 46 of the proof: W21I. -/
import Derived.Test.YtkcdhaallnhhmaaGreatQ45
namespace Go.Proofs.YtkcdhaallnhhmaaGreat
set_option linter.unusedSimpArgs false
set_option linter.unusedVariables false
set_option linter.unusedSectionVars false
set_option maxRecDepth 100000
set_option maxHeartbeats 16000000
section
open Go.RowKit Go.Lib
theorem snap21_any (P:Nat→Prop) (c:Cfg) (rs rh n:Nat) (x:WdH) (w:World) (hP:∀b,w.heap.size≤b→P b) (hx:WdIn P w x) (hst:c.st≤64) (hk:WdOk c rs rh n (absW x)) (hn:n≤100000) :
 Calls Tryz.prog 92 #[.agg (wdC c x).toArray] w (RepSays P w c (snapW (absW x))):=by
 have hcl:x.cuts.length≤100000:=by have:=hk.cuts;simp [absW] at this;omega
 have hep:0≤x.ep∧x.ep≤n:=hk.ep;obtain ⟨hw1,hw2,hw3⟩:=wd_facts hk hst;obtain ⟨r,hr⟩:∃r,r=snapW (absW x):=⟨_,rfl⟩;rw [←hr];unfold snapW at hr;rw [←tabX_abs,←allX_abs] at hr;have htl:(tabX x).length=x.cuts.length:=by unfold tabX;simp
 have CT:=jH (fun (W:World) (hW:jB w W)=>table21_any P c x W (hx.below hW) hcl);have CA:=jH (fun (W:World) (hW:jB w W)=>all21_any (Out P w.heap.size W.heap.size) c x W (out_new hP hW.size) (hx.out hW) hw1 (by omega));generalize hte:tabX x=t at hr htl CT;generalize hal:allX x=L at hr CA;have CF:=jH (fun (W:World) (A:Option Addr) (cp:Nat) (h:RowIn 1 nmC W (.slice A t.length cp) t)=>live20_any _ t W h (by omega))
 have HX:=jH hx;have HP:=jH hP;have hcr:RowIn 3 cuC w (.slice x.cA x.cuts.length x.cc) x.cuts:=hx.cr.1;have hcit:∀s∈x.cuts,ItemsIn P w (.slice s.A s.l.length s.c) s.l:=hx.ct;obtain ⟨sA,sc,st,cA,cc,cuts,ep,over⟩:=x;dsimp only at htl hcl hcr hcit hep;unfold wdC at CT CA ⊢;dsimp only at CT CA ⊢;clear hx hP hk hte hal hw1 hw2 hw3
 by_cases he:64≤liveT t
 · rw [if_pos he] at hr
   have z0:((64:Int)≤(liveT t:Nat)):=by omega
   have HRR:=jH hr;clear he hr htl hcl hcr hcit hep;generalize liveT t=lv at CF z0 HRR
   go_enter Tryz.func92,Tryz.ntmps92
   go_wp2_with (first
   | (go_at_call 142
      refine calls_named ?_;intro W1 hW1;have hb:jB w W1:=by rw [hW1];exact balloc (balloc (balloc jR _) _) _
      have k0:W1.heap[w.heap.size]?=some (.cells #[.int .i64 c.st,.int .i64 c.sa,.int .i64 c.lo,.int .i64 c.hi,.slice sA st.length sc,.slice cA cuts.length cc,.int .i64 ep,.bool over] 32 (0,0)):=by rw [hW1];exact box3_0 _ _ _ _
      have k1:W1.heap[w.heap.size+1]?=some (.cells #[.int .i64 0,.int .i64 0,.int .i64 0,.int .i64 0,.slice none 0 0,.slice none 0 0,.int .i64 0,.bool false] 32 (0,0)):=by rw [hW1];exact box3_1 _ _ _ _
      have k2:W1.heap[w.heap.size+1+1]?=some (.cells #[.int .i64 0,.int .i64 0,.int .i64 0,.int .i64 0,.int .i64 0,.int .i64 0,.int .i64 0,.int .i64 0,.int .i64 0,.int .i64 0,.int .i64 0,.int .i64 0,.int .i64 0] 76 (0,0)):=by rw [hW1];exact box3_2 _ _ _ _
      clear hW1;refine (CT.out W1 hb).mono ?_;rintro e w2 ⟨tA,tc,rfl,hrow,hb2⟩;have HT2:=jH hrow;have HX2:=jH (jK hb2 k0);have HA2:=jH (jK hb2 k1);have HR2:=jH (jK hb2 k2);have HB2:=jH (bthen hb hb2);clear k0 k1 k2 hb hb2 hrow)
   | (go_at_call 141
      refine (CF.out w2 tA tc HT2.out).mono ?_;rintro e w3 ⟨rfl,hb3⟩;have HX3:=jH (jK hb3 HX2.out);have HA3:=jH (jK hb3 HA2.out);have HR3:=jH (jK hb3 HR2.out);have HB3:=jH (bthen HB2.out hb3);obtain ⟨b1,b2,b3⟩:=box_cells jR HX3.out;obtain ⟨c1,c2,c3⟩:=box_cells jR HA3.out;obtain ⟨d1,d2,d3⟩:=box_cells jR HR3.out;clear hb3))
   refine post_named ?_;intro W9 hW9;have hW9':W9=stor (stor w3 (w.heap.size+1) 0 [.int .i64 c.st,.int .i64 c.sa,.int .i64 c.lo,.int .i64 c.hi,.slice sA st.length sc,.slice cA cuts.length cc,.int .i64 ep,.bool over]) (w.heap.size+1+1) 0 [.int .i64 6,.int .i64 0,.int .i64 0,.int .i64 0,.int .i64 0,.int .i64 0,.int .i64 0,.int .i64 0,.int .i64 0,.int .i64 0,.int .i64 0,.int .i64 0,.int .i64 0]:=hW9;obtain ⟨S,hS⟩:∃S,S=stor w3 (w.heap.size+1) 0 [.int .i64 c.st,.int .i64 c.sa,.int .i64 c.lo,.int .i64 c.hi,.slice sA st.length sc,.slice cA cuts.length cc,.int .i64 ep,.bool over]:=⟨_,rfl⟩
   rw [←hS] at hW9';obtain ⟨s1,s2,s3,s4⟩:=stor_at HA3.out [.int .i64 c.st,.int .i64 c.sa,.int .i64 c.lo,.int .i64 c.hi,.slice sA st.length sc,.slice cA cuts.length cc,.int .i64 ep,.bool over] rfl S hS;have hr9:=(s2 (w.heap.size+1+1) (by omega)).trans HR3.out;obtain ⟨t1,t2,t3,t4⟩:=stor_at hr9 [.int .i64 6,.int .i64 0,.int .i64 0,.int .i64 0,.int .i64 0,.int .i64 0,.int .i64 0,.int .i64 0,.int .i64 0,.int .i64 0,.int .i64 0,.int .i64 0,.int .i64 0] rfl W9 hW9'
   have hs1:=(t2 (w.heap.size+1) (by omega)).trans s1;obtain ⟨a9,a8,a7⟩:=box_cells jR hs1;obtain ⟨g9,g8,g7⟩:=box_cells jR t1;have hk9:∀b,b≠w.heap.size+1→b≠w.heap.size+1+1→W9.heap[b]?=w3.heap[b]?:=fun b q1 q2=>(t2 b q2).trans (s2 b q1)
   have hb9:jB w W9:=HB3.out.trans ((s4 _ (by omega)).trans (t4 _ (by omega)));refine bodyPost_ret (v:=.tuple #[.agg #[.int .i64 c.st,.int .i64 c.sa,.int .i64 c.lo,.int .i64 c.hi,.slice sA st.length sc,.slice cA cuts.length cc,.int .i64 ep,.bool over],.agg #[.int .i64 6,.int .i64 0,.int .i64 0,.int .i64 0,.int .i64 0,.int .i64 0,.int .i64 0,.int .i64 0,.int .i64 0,.int .i64 0,.int .i64 0,.int .i64 0,.int .i64 0]]) (by simp [results,Tryz.results92,go_sem,a9,g9]) rfl ⟨⟨sA,sc,st,cA,cc,cuts,ep,over⟩,by rw [HRR.out];rfl,HX.out.below hb9,by rw [HRR.out],hb9⟩
 · rw [if_neg he] at hr
   have z0:¬((64:Int)≤(liveT t:Nat)):=by omega
   obtain ⟨e1,he1⟩:∃e1,e1=ep+1:=⟨_,rfl⟩;have z1:IntKind.i64.wrap (ep+1)=e1:=by rw [IntKind.wrap_i64];omega
   have z1b:wrap64 (ep+1)=e1:=by unfold wrap64;omega
   have HE1:=jH he1;have HRR:=jH hr;have HCR:=jH hcr;have HCI:=jH hcit;have HLN:=jH hcl;clear he hr htl hcl hcr hcit hep he1;generalize liveT t=lv at CF z0
   go_enter Tryz.func92,Tryz.ntmps92
   go_upto_region 5 with (first
   | (go_at_call 142
      refine calls_named ?_;intro W1 hW1;have hb:jB w W1:=by rw [hW1];exact balloc (balloc (balloc jR _) _) _
      have k0:W1.heap[w.heap.size]?=some (.cells #[.int .i64 c.st,.int .i64 c.sa,.int .i64 c.lo,.int .i64 c.hi,.slice sA st.length sc,.slice cA cuts.length cc,.int .i64 ep,.bool over] 32 (0,0)):=by rw [hW1];exact box3_0 _ _ _ _
      have k1:W1.heap[w.heap.size+1]?=some (.cells #[.int .i64 0,.int .i64 0,.int .i64 0,.int .i64 0,.slice none 0 0,.slice none 0 0,.int .i64 0,.bool false] 32 (0,0)):=by rw [hW1];exact box3_1 _ _ _ _
      have k2:W1.heap[w.heap.size+1+1]?=some (.cells #[.int .i64 0,.int .i64 0,.int .i64 0,.int .i64 0,.int .i64 0,.int .i64 0,.int .i64 0,.int .i64 0,.int .i64 0,.int .i64 0,.int .i64 0,.int .i64 0,.int .i64 0] 76 (0,0)):=by rw [hW1];exact box3_2 _ _ _ _
      clear hW1;refine (CT.out W1 hb).mono ?_;rintro e w2 ⟨tA,tc,rfl,hrow,hb2⟩;have HT2:=jH hrow;have HX2:=jH (jK hb2 k0);have HA2:=jH (jK hb2 k1);have HR2:=jH (jK hb2 k2);have HB2:=jH (bthen hb hb2);clear k0 k1 k2 hb hb2 hrow)
   | (go_at_call 141
      refine (CF.out w2 tA tc HT2.out).mono ?_;rintro e w3 ⟨rfl,hb3⟩;have HX3:=jH (jK hb3 HX2.out);have HA3:=jH (jK hb3 HA2.out);have HR3:=jH (jK hb3 HR2.out);have HB3:=jH (bthen HB2.out hb3);obtain ⟨b1,b2,b3⟩:=box_cells jR HX3.out;obtain ⟨c1,c2,c3⟩:=box_cells jR HA3.out;obtain ⟨d1,d2,d3⟩:=box_cells jR HR3.out;clear hb3))
   refine name_world ?_;intro W5 hW5;have hx7:W5.heap[w3.heap.size]?=some (.cells #[.int .i64 c.st,.int .i64 c.sa,.int .i64 c.lo,.int .i64 c.hi,.slice sA st.length sc,.slice cA cuts.length cc,.int .i64 e1,.bool over] 32 (0,0)):=by rw [hW5];first|exact heap_alloc_new _ _|exact setCell_block (heap_alloc_new _ _)
   have hb5:jB w3 W5:=by rw [hW5];first|exact balloc jR _|exact (balloc jR _).setCell (by simp) _
   have HX7:=jH hx7;have HX5:=jH (jK hb5 HX3.out);have HA5:=jH (jK hb5 HA3.out);have HR5:=jH (jK hb5 HR3.out);have HB5:=jH (bthen HB3.out hb5);have HCR5:=jH (HCR.out.below HB5.out);have HLT:=jH (show w.heap.size+1<w3.heap.size∧w.heap.size+1+1<w3.heap.size∧w3.heap.size<W5.heap.size from ⟨(jL HA3.out),(jL HR3.out),(jL hx7)⟩);clear hW5 hx7 hb5 b1 b2 b3 c1 c2 c3 d1 d2 d3;have rx:∀U,jB W5 U→∀j,U.cell? ⟨w.heap.size,j,none⟩=(#[.int .i64 c.st,.int .i64 c.sa,.int .i64 c.lo,.int .i64 c.hi,.slice sA st.length sc,.slice cA cuts.length cc,.int .i64 ep,.bool over]:Array Value)[j]?:=fun U hU j=>(box_cells hU HX5.out).1 j
   have ry:∀U,jB W5 U→∀j,U.cell? ⟨w3.heap.size,j,none⟩=(#[.int .i64 c.st,.int .i64 c.sa,.int .i64 c.lo,.int .i64 c.hi,.slice sA st.length sc,.slice cA cuts.length cc,.int .i64 e1,.bool over]:Array Value)[j]?:=fun U hU j=>(box_cells hU HX7.out).1 j
   refine wp_region_E (S:=(fun U=>jB W5 U)) 12 (by kernel_rfl) ?hS1 (fun hHeld=>?_)
   case hS1=>(first|exact jR.drew|exact balloc jR.drew _|exact HB6.out|exact HB8.out|exact balloc HB8.out _|exact HB9.out)
   refine wpAnyE_take (i:=1) (v:=?v2) rfl (by kernel_rfl) (by kernel_rfl) (by kernel_rfl) (by kernel_rfl) (fun _ _ _ h=>h) (Or.inl ⟨by rfl,?hy2⟩) (by assumption) ?_
   case hy2 =>
    intro w' hSw
    (try dsimp only at hSw)
    go_simp
    try (with_reducible rfl)
   try simp only [Act.put,jA]
   refine wpAnyE_take (i:=2) (v:=?v3) rfl (by kernel_rfl) (by kernel_rfl) (by kernel_rfl) (by kernel_rfl) (fun _ _ _ h=>h) (Or.inl ⟨by rfl,?hy3⟩) (by assumption) ?_
   case hy3 =>
    intro w' hSw
    (try dsimp only at hSw)
    go_simp
    try (with_reducible rfl)
   try simp only [Act.put,jA]
   refine wpAnyE_take (i:=4) (v:=?v4) rfl (by kernel_rfl) (by kernel_rfl) (by kernel_rfl) (by kernel_rfl) (fun _ _ _ h=>h) (Or.inl ⟨by rfl,?hy4⟩) (by assumption) ?_
   case hy4 =>
    intro w' hSw
    (try dsimp only at hSw)
    go_simp
    try (with_reducible rfl)
   try simp only [Act.put,jA]
   refine wpAnyE_take (i:=5) (v:=?v5) rfl (by kernel_rfl) (by kernel_rfl) (by kernel_rfl) (by kernel_rfl) (fun _ _ _ h=>h) (Or.inl ⟨by rfl,?hy5⟩) (by assumption) ?_
   case hy5 =>
    intro w' hSw
    (try dsimp only at hSw)
    go_simp
    try (with_reducible rfl)
   try simp only [Act.put,jA]
   refine wpAnyE_take (i:=6) (v:=?v6) rfl (by kernel_rfl) (by kernel_rfl) (by kernel_rfl) (by kernel_rfl) (fun _ _ _ h=>h) (Or.inl ⟨by rfl,?hy6⟩) (by assumption) ?_
   case hy6 =>
    intro w' hSw
    (try dsimp only at hSw)
    go_simp
    try (with_reducible rfl)
   try simp only [Act.put,jA]
   refine wpAnyE_one (i:=0) (by kernel_rfl) rfl (fun K hK=>?_);go_simp
   skip
   try go_simp
   refine hK.out _ _ ?hS7 (fun hHeld2=>?_)
   case hS7 =>
    intro _
    (first|exact jR.drew|exact balloc jR.drew _|exact HB6.out|exact HB8.out|exact balloc HB8.out _|exact HB9.out)
   clear hK K hHeld;have hHeld:=hHeld2 (by kernel_rfl);clear hHeld2
   try simp only [Act.put,jA]
   refine wpAnyE_one (i:=3) (by kernel_rfl) rfl (fun K hK=>?_)
   (refine step_appendL eCu (by rfl) (.tmp 16) (.tmp 18) (by rfl) W5.heap.size [] cuts _ _ (by rfl) (by rfl) (OwnL.lit0 _ _ _ _ (by simp) (Nat.le_refl _)) (HCR5.out.below (by repeat (first|exact jR|refine balloc ?_ _|refine Below.drew ?_|refine below_drewN ?_ _))) (by have:=HLN.out;simp;omega) (by simp) ?_
    intro out6 A6 c6 w6 hout6 hown6 hg6 _;have hb6:jB W5 w6:=Below.trans (by repeat (first|exact Below.refl W5.heap.size W5|refine balloc ?_ _|refine Below.drew ?_|refine below_drewN ?_ _)) (grown_below hg6 (by simp) (fun r hr=>Nat.le_of_eq (Option.some.inj hr)));have ho6:cuts=out6:=by simpa using hout6.symm
    subst ho6;have HB6:=jH hb6;have HO6:=jH hown6;clear hb6 hown6 hg6 hout6)
   refine hK.out _ _ ?hS8 (fun hHeld2=>?_)
   case hS8 =>
    intro _
    (first|exact jR.drew|exact balloc jR.drew _|exact HB6.out|exact HB8.out|exact balloc HB8.out _|exact HB9.out)
   clear hK K hHeld;have hHeld:=hHeld2 (by kernel_rfl);clear hHeld2
   try simp only [Act.put,jA]
   refine wpAnyE_one (i:=7) (by kernel_rfl) rfl (fun K hK=>?_);go_simp
   (go_at_call 103
    refine calls_named ?_;intro W7 hW7;have hb7:jB w6 W7:=by rw [hW7];first|exact jR|exact jR.drew
    clear hW7;refine (CA.out W7 (bthen HB5.out (bthen HB6.out hb7))).mono ?_;rintro e w8 ⟨A8,c8,rfl,hit8,hb8⟩;have HI8:=jH hit8;have HB78:=jH (And.intro hb7 hb8);have HB8:=jH (bthen HB6.out (bthen hb7 hb8));clear hit8 hb7 hb8)
   try go_simp
   refine hK.out _ _ ?hS9 (fun hHeld2=>?_)
   case hS9 =>
    intro _
    (first|exact jR.drew|exact balloc jR.drew _|exact HB6.out|exact HB8.out|exact balloc HB8.out _|exact HB9.out)
   clear hK K hHeld;have hHeld:=hHeld2 (by kernel_rfl);clear hHeld2
   try simp only [Act.put,jA]
   refine wpAnyE_take (i:=8) (v:=?v10) rfl (by kernel_rfl) (by kernel_rfl) (by kernel_rfl) (by kernel_rfl) (fun _ _ _ h=>h) (Or.inl ⟨by rfl,?hy10⟩) (by assumption) ?_
   case hy10 =>
    intro w' hSw
    (try dsimp only at hSw)
    go_simp
    try (with_reducible rfl)
   try simp only [Act.put,jA]
   refine wpAnyE_one (i:=9) (by kernel_rfl) rfl (fun K hK=>?_);go_simp
   skip
   try go_simp
   refine hK.out _ _ ?hS11 (fun hHeld2=>?_)
   case hS11 =>
    intro _
    (first|exact jR.drew|exact balloc jR.drew _|exact HB6.out|exact HB8.out|exact balloc HB8.out _|exact HB9.out)
   clear hK K hHeld;have hHeld:=hHeld2 (by kernel_rfl);clear hHeld2
   try simp only [Act.put,jA]
   refine wpAnyE_one (i:=10) (by kernel_rfl) rfl (fun K hK=>?_)
   (refine step_appendL eCu (by rfl) (.tmp 19) (.tmp 25) (by rfl) W5.heap.size cuts [⟨e1,A8,c8,L,false⟩] (.slice A6 cuts.length c6) _ (by rfl) (by rfl) ((HO6.out.below (bthen HB78.out.1 HB78.out.2)).below (by repeat (first|exact jR|refine balloc ?_ _|refine Below.drew ?_|refine below_drewN ?_ _))) (RowIn.lit (n:=3) (f:=cuC) _ ⟨e1,A8,c8,L,false⟩ _ _ _ (by first|rfl|simp) rfl) (by have:=HLN.out;simp;omega) (by have:=HB8.out.size;simp;omega) ?_
    intro out9 A9 c9 w9 hout9 hown9 hg9 hblk9;obtain ⟨U9,hU9⟩:∃U,U=w8.alloc (.cells #[.int .i64 e1,.slice A8 L.length c8,.bool false] 226 (0,0)):=⟨_,rfl⟩;rw [←hU9] at hg9 hblk9;have hbu:jB w8 U9:=by rw [hU9];exact balloc jR _
    have hb9:jB W5 w9:=(bthen HB8.out hbu).trans (grown_below hg9 (bthen HB8.out hbu).size (fun r hr=>(HO6.out.lt hr).1));have HB9:=jH hb9;have HBU:=jH hbu;have HG9:=jH hg9;have HO9:=jH hown9;have HOUT9:=jH hout9;obtain ⟨e1',e2',e3'⟩:=box_cells jR (jK hb9 HX7.out);clear hU9 hbu hb9 hg9 hown9 hout9 hblk9)
   refine hK.out _ _ ?hS12 (fun hHeld2=>?_)
   case hS12 =>
    intro _
    (first|exact jR.drew|exact balloc jR.drew _|exact HB6.out|exact HB8.out|exact balloc HB8.out _|exact HB9.out)
   clear hK K hHeld;have hHeld:=hHeld2 (by kernel_rfl);clear hHeld2
   try simp only [Act.put,jA]
   refine wpAnyE_take (i:=11) (v:=?v13) rfl (by kernel_rfl) (by kernel_rfl) (by kernel_rfl) (by kernel_rfl) (fun _ _ _ h=>h) (Or.inl ⟨by rfl,?hy13⟩) (by assumption) ?_
   case hy13 =>
    intro w' hSw
    (try dsimp only at hSw)
    go_simp
    try (with_reducible rfl)
   try simp only [Act.put,jA]
   refine wpAnyE_one (i:=12) (by kernel_rfl) rfl (fun K hK=>?_);go_simp
   skip
   try go_simp
   refine hK.out _ _ ?hS14 (fun hHeld2=>?_)
   case hS14=>exact fun h=>nomatch (show (true:Bool)=false from h)
   clear hK K hHeld hHeld2
   try simp only [Act.put,jA]
   refine wpAnyE_done (by kernel_rfl) ?_ _;refine then_named ?_;intro W12 hW12;obtain ⟨m,hm⟩:∃m,m=out9.length:=⟨_,rfl⟩;rw [←hm] at hW12 ⊢;have HM:=jH (show m=cuts.length+1 by rw [hm,HOUT9.out];simp);have hlt:=HLT.out;have hx12:W12.heap[w3.heap.size]?=some (.cells #[.int .i64 c.st,.int .i64 c.sa,.int .i64 c.lo,.int .i64 c.hi,.slice sA st.length sc,.slice A9 m c9,.int .i64 e1,.bool over] 32 (0,0)):=by rw [hW12];exact setCell_block ((HB9.out.block _ (by omega)).trans HX7.out)
   have ha12:=heap_set_ne (r:=w3.heap.size) (i:=5) (v:=.slice A9 m c9) (jK HB9.out HA5.out) (by omega);have hr12:=heap_set_ne (r:=w3.heap.size) (i:=5) (v:=.slice A9 m c9) (jK HB9.out HR5.out) (by omega);rw [←hW12] at ha12 hr12;have HK12:=jH (show ∀b,b≠w3.heap.size→W12.heap[b]?=w9.heap[b]? from fun b hb=>by rw [hW12];exact heap_set_ne rfl hb);have HB12:=jH (show jB w W12 by rw [hW12];exact (bthen HB5.out HB9.out).setCell (by have:=HB3.out.size;simp;omega) _)
   have HX12:=jH hx12;have HA12:=jH ha12;have HR12:=jH hr12;have HML:=jH hm;clear hm hx12 ha12 hr12 hlt rx ry e1' e2' e3';have hS12:W12.heap.size=w9.heap.size:=by rw [hW12];simp
   have HS12:=jH hS12;clear hW12 hS12;obtain ⟨e1',e2',e3'⟩:=box_cells jR HX12.out;obtain ⟨b1,b2,b3⟩:=box_cells jR HA12.out;obtain ⟨c1,c2,c3⟩:=box_cells jR HR12.out;have y7:¬w3.heap.size=w.heap.size+1:=by have:=HLT.out;omega
   have y8:¬w3.heap.size=w.heap.size+1+1:=by have:=HLT.out;omega
   go_wp2_with fail
   go_region
   all_goals
     refine then_named ?_;intro W13 hW13;obtain ⟨W9,hW9⟩:∃V,V=stor (stor W12 (w.heap.size+1) 0 [.int .i64 c.st,.int .i64 c.sa,.int .i64 c.lo,.int .i64 c.hi,.slice sA st.length sc,.slice A9 m c9,.int .i64 e1,.bool over]) (w.heap.size+1+1) 0 [.int .i64 0,.int .i64 e1,.int .i64 (m:Nat),.int .i64 0,.int .i64 0,.int .i64 0,.int .i64 0,.int .i64 0,.int .i64 0,.int .i64 0,.int .i64 0,.int .i64 0,.int .i64 0]:=⟨_,rfl⟩
     have hW13':W13=(stor (stor W12 (w.heap.size+1) 0 [.int .i64 c.st,.int .i64 c.sa,.int .i64 c.lo,.int .i64 c.hi,.slice sA st.length sc,.slice A9 m c9,.int .i64 e1,.bool over]) (w.heap.size+1+1) 0 [.int .i64 0,.int .i64 e1,.int .i64 (m:Nat),.int .i64 0,.int .i64 0,.int .i64 0,.int .i64 0,.int .i64 0,.int .i64 0,.int .i64 0,.int .i64 0,.int .i64 0,.int .i64 0]).drew:=hW13;rw [←hW9] at hW13';have hd:jB W9 W13∧W13.heap=W9.heap:=by
      rw [hW13'];exact ⟨jR.drew,rfl⟩
     clear hW13';obtain ⟨hd1,hd2⟩:=hd;clear hW13;have hW9':W9=stor (stor W12 (w.heap.size+1) 0 [.int .i64 c.st,.int .i64 c.sa,.int .i64 c.lo,.int .i64 c.hi,.slice sA st.length sc,.slice A9 m c9,.int .i64 e1,.bool over]) (w.heap.size+1+1) 0 [.int .i64 0,.int .i64 e1,.int .i64 (m:Nat),.int .i64 0,.int .i64 0,.int .i64 0,.int .i64 0,.int .i64 0,.int .i64 0,.int .i64 0,.int .i64 0,.int .i64 0,.int .i64 0]:=hW9
     obtain ⟨S,hS⟩:∃S,S=stor W12 (w.heap.size+1) 0 [.int .i64 c.st,.int .i64 c.sa,.int .i64 c.lo,.int .i64 c.hi,.slice sA st.length sc,.slice A9 m c9,.int .i64 e1,.bool over]:=⟨_,rfl⟩;rw [←hS] at hW9';obtain ⟨s1,s2,s3,s4⟩:=stor_at HA12.out [.int .i64 c.st,.int .i64 c.sa,.int .i64 c.lo,.int .i64 c.hi,.slice sA st.length sc,.slice A9 m c9,.int .i64 e1,.bool over] rfl S hS;have hr9:=(s2 (w.heap.size+1+1) (by omega)).trans HR12.out
     obtain ⟨t1,t2,t3,t4⟩:=stor_at hr9 [.int .i64 0,.int .i64 e1,.int .i64 (m:Nat),.int .i64 0,.int .i64 0,.int .i64 0,.int .i64 0,.int .i64 0,.int .i64 0,.int .i64 0,.int .i64 0,.int .i64 0,.int .i64 0] rfl W9 hW9';have hs1:=(t2 (w.heap.size+1) (by omega)).trans s1;obtain ⟨a9,a8,a7⟩:=box_cells jR hs1;obtain ⟨g9,g8,g7⟩:=box_cells jR t1;have hk9:∀b,b≠w.heap.size+1→b≠w.heap.size+1+1→W9.heap[b]?=W12.heap[b]?:=fun b q1 q2=>(t2 b q2).trans (s2 b q1)
     have hb9:jB w W9:=HB12.out.trans ((s4 _ (by omega)).trans (t4 _ (by omega)));have hb13:jB w W13:=bthen hb9 hd1;obtain ⟨p9,p8,p7⟩:=box_cells hd1 hs1;obtain ⟨q9,q8,q7⟩:=box_cells hd1 t1;have hk13:∀b,b≠w.heap.size+1→b≠w.heap.size+1+1→b≠w3.heap.size→W13.heap[b]?=w9.heap[b]?:=fun b u1 u2 u3=>by rw [hd2];exact (hk9 b u1 u2).trans (HK12.out b u3)
     have hs13:W13.heap.size=w9.heap.size:=by rw [hd2,t3,s3,HS12.out]
     clear hW9 hW9' a9 a8 a7 g9 g8 g7 b1 b2 b3 c1 c2 c3 e1' e2' e3';go_wp2_with fail
     have hm:=HML.out;subst hm;have hout:=HOUT9.out;subst hout;have he1:=HE1.out;subst he1;have hlt:=HLT.out;have h3s:=HB3.out.size;have h6:=HB6.out.size;have h78:=HB78.out.1.size;have hfin:WdIn P W13 ⟨sA,sc,st,A9,c9,cuts++[⟨ep+1,A8,c8,L,false⟩],ep+1,over⟩:=by
      refine HX.out.cutsAt hb13 HP.out ((HO9.out.kept (fun r hr=>by have:=HO9.out.lt hr;exact hk13 r (by omega) (by omega) (by omega))).lower (by omega)) ?_ _ _;intro s hs
      rcases List.mem_append.1 hs with hs|hs
      · exact (HCI.out s hs).below hb13
      · rw [List.mem_singleton.1 hs]
        have h9:ItemsIn (Out P w.heap.size W7.heap.size) w9 (.slice A8 L.length c8) L:=(HI8.out.below HBU.out).old.keepP HG9.out.size (fun b hb _=>HG9.out.block b hb.2 (fun e=>by have:=HO6.out.lt e.symm;have:=hb.1.2;omega)) |>.imp (fun b hb=>hb.1);exact (h9.keepP (by omega) (fun b hb hlt9=>hk13 b (by have:=hb.2;omega) (by have:=hb.2;omega) (by have:=hb.2;omega))).imp (fun b hb=>hb.1)
     exact bodyPost_ret (v:=.tuple #[.agg #[.int .i64 c.st,.int .i64 c.sa,.int .i64 c.lo,.int .i64 c.hi,.slice sA st.length sc,.slice A9 (cuts++[(⟨ep+1,A8,c8,L,false⟩:CuH)]).length c9,.int .i64 (ep+1),.bool over],.agg #[.int .i64 0,.int .i64 (ep+1),.int .i64 ((cuts++[(⟨ep+1,A8,c8,L,false⟩:CuH)]).length:Nat),.int .i64 0,.int .i64 0,.int .i64 0,.int .i64 0,.int .i64 0,.int .i64 0,.int .i64 0,.int .i64 0,.int .i64 0,.int .i64 0]]) (by simp [results,Tryz.results92,go_sem,p9,q9]) rfl ⟨_,by rw [HRR.out];simp [wdC,repV,repC,st0,adv0,absW],hfin,by rw [HRR.out];simp [absW,absC],hb13⟩
end
end Go.Proofs.YtkcdhaallnhhmaaGreat
