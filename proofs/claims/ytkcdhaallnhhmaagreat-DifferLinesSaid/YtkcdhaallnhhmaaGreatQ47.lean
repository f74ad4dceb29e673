/- Part 47 of the proof: W21J. -/
import Derived.Test.YtkcdhaallnhhmaaGreatQ45
namespace Go.Proofs.YtkcdhaallnhhmaaGreat
set_option linter.unusedSimpArgs false
set_option linter.unusedVariables false
set_option linter.unusedSectionVars false
set_option maxRecDepth 100000
set_option maxHeartbeats 16000000
section
open Go.RowKit Go.Lib
theorem stat_in {w2 w6:World} {B:Nat} {z:Array Value} (hz:w6.heap[B]?=some (.cells z 72 (0,0))) (hle:w2.heap.size≤B) (hb:jB w2 w6) (a b c d e:Value) (hn:z.size=5:=by rfl) :
 (stor w6 B 0 [a,b,c,d,e]).heap[B]?=some (.cells #[a,b,c,d,e] 72 (0,0))∧w2.heap.size≤B∧jB w2 (stor w6 B 0 [a,b,c,d,e]):=by
 obtain ⟨s1,s2,s3,s4⟩:=stor_at hz [a,b,c,d,e] hn _ rfl;exact ⟨s1,hle,hb.trans (s4 _ hle)⟩
theorem stat_new {w2 w6:World} (hb:jB w2 w6) (a b c d e:Value) :
 (w6.alloc (.cells #[a,b,c,d,e] 72)).heap[w6.heap.size]?=some (.cells #[a,b,c,d,e] 72 (0,0))∧w2.heap.size≤w6.heap.size∧jB w2 (w6.alloc (.cells #[a,b,c,d,e] 72)) :=
 ⟨heap_alloc_new _ _,hb.size,balloc hb _⟩
theorem ref9Sum_any (v:Value) (l:List Smp) (w:World) (hv:RowIn 2 smpC w v l) (hl:l.length≤1000000) (hi:smpI l) :
 Calls Tryz.prog 185 #[v] w (jP w (.int .i64 (sumE (valsW l) 0))):=by
 obtain ⟨A,c,rfl⟩:=hv.form;have CV:=jH (refVals_any _ l w hv hl);have hvl:(valsW l).length≤1000000:=by rw [vals_len];exact hl
 have CS:=jH (fun (W:World) (A:Option Addr) (c:Nat) (h:RowIn 1 nmC W (.slice A (valsW l).length c) (valsW l))=>refSum_any _ (valsW l) W h hvl (fun n hn=>by have:=vals_i64 hi n hn;unfold I64;omega));generalize valsW l=vs at CV CS;clear hv hl hi hvl
 go_enter Tryz.func185,Tryz.ntmps185
 go_wp2_with (first
  | (go_at_call 170
     refine CV.out.mono ?_;rintro e w2 ⟨A2,c2,rfl,hown,hb2⟩;have HO:=jH (hown.row eNm);have HB:=jH hb2;clear hown hb2)
  | (go_at_call 215
     refine (CS.out _ _ _ HO.out).mono ?_;rintro e w3 ⟨rfl,rfl⟩))
 go_ret
 exact ⟨rfl,HB.out⟩
theorem stat21_any (v:Value) (l:List Smp) (w:World) (hv:RowIn 2 smpC w v l) (hl:l.length≤1000000) (hi:smpI l) :
 Calls Tryz.prog 144 #[v] w (jP w (stV (statN (valsW l)))):=by
 obtain ⟨A,c,rfl⟩:=hv.form;have CV:=jH (fun (W:World) (hW:jB w W)=>refVals_any _ l W (hv.below hW) hl);have CS:=jH (fun (W:World) (hW:jB w W)=>ref9Sum_any _ l W (hv.below hW) hl hi);have CM:=jH (fun (W:World) (hW:jB w W)=>refMean16_any _ l W (hv.below hW) hl hi);have hvl:(valsW l).length≤1000000:=by rw [vals_len];exact hl
 generalize valsW l=vs at CV CS CM hvl ⊢;clear hv hl hi;obtain ⟨r,hr⟩:∃r,r=statN vs:=⟨_,rfl⟩;rw [←hr];obtain ⟨m,hm⟩:∃m,m=vs.length:=⟨_,rfl⟩;rw [←hm] at CV;obtain ⟨sm,hsm⟩:∃s,s=sumE vs 0:=⟨_,rfl⟩;rw [←hsm] at CS;obtain ⟨mn,hmn⟩:∃s,s=meanN vs:=⟨_,rfl⟩;rw [←hmn] at CM
 by_cases h0:m=0
 · have hvs:vs=[]:=List.length_eq_zero_iff.1 (by omega)
   rw [hvs] at hr;have hr:r=st0:=hr;subst h0;rw [hr];clear hr hm hsm hmn hvs hvl CS CM
   go_enter Tryz.func144,Tryz.ntmps144
   go_wp2_with (first
   | (go_at_call 170
      refine calls_named ?_;intro W1 hW1;have hb1:jB w W1:=by rw [hW1];exact balloc jR _
      have hx1:W1.heap[w.heap.size]?=some (.cells #[.int .i64 0,.int .i64 0,.int .i64 0,.int .i64 0,.int .i64 0] 72 (0,0)):=by rw [hW1];exact heap_alloc_new _ _
      clear hW1;refine (CV.out W1 hb1).mono ?_;rintro e w2 ⟨A2,c2,rfl,hown,hb2⟩;have HB2:=jH (bthen hb1 hb2);have HX2:=jH (jK hb2 hx1);obtain ⟨b1,b2,b3⟩:=box_cells jR HX2.out;clear hown hb1 hb2 hx1))
   refine post_named ?_;intro W9 hW9;have hW9':W9=stor w2 w.heap.size 0 [.int .i64 0,.int .i64 0,.int .i64 0,.int .i64 0,.int .i64 0]:=hW9;obtain ⟨s1,s2,s3,s4⟩:=stor_at HX2.out [.int .i64 0,.int .i64 0,.int .i64 0,.int .i64 0,.int .i64 0] rfl W9 hW9';obtain ⟨a9,a8,a7⟩:=box_cells jR s1;clear hW9 hW9';exact bodyPost_ret (v:=.agg #[.int .i64 0,.int .i64 0,.int .i64 0,.int .i64 0,.int .i64 0]) (by simp [results,Tryz.results144,go_sem,a9]) rfl ⟨rfl,HB2.out.trans (s4 _ (Nat.le_refl _))⟩
 · obtain ⟨v0,hv0⟩:∃z,vs[0]?=some z:=⟨vs[0]'(by omega),List.getElem?_eq_getElem (by omega)⟩
   have hr2:r=⟨(m:Nat),sm,vs.foldl min v0,vs.foldl max v0,(mn:Nat)⟩:=by
    rw [hr,hsm,hmn,hm];unfold statN
    cases vs with
    | nil=>cases hv0
    | cons a t =>
      have:a=v0:=by simpa using hv0
      subst this;rw [if_neg (by simp)];simp [minL,maxL]
   have HRR:=jH hr2;have HM:=jH hm;have HV0:=jH hv0;have hm9:m≤1000000:=by omega
   have q0:((m:Int) == 0)=false:=by simp;omega
   have q0b:decide ((m:Int)=0)=false:=by simp;omega
   have q1:(0:Int)<(m:Int):=by omega
   have q1n:0<m:=by omega
   clear hr hr2 hm hv0 hvl hsm hmn h0
   go_enter Tryz.func144,Tryz.ntmps144
   go_upto_region 4 with (first
   | (go_at_call 170
      refine calls_named ?_;intro W1 hW1;have hb1:jB w W1:=by rw [hW1];exact balloc jR _
      have hx1:W1.heap[w.heap.size]?=some (.cells #[.int .i64 0,.int .i64 0,.int .i64 0,.int .i64 0,.int .i64 0] 72 (0,0)):=by rw [hW1];exact heap_alloc_new _ _
      clear hW1;refine (CV.out W1 hb1).mono ?_;rintro e w2 ⟨A2,c2,rfl,hown,hb2⟩;have HB2:=jH (bthen hb1 hb2);have HX2:=jH (jK hb2 hx1);have HO2:=jH (show RowIn 1 nmC w2 (.slice A2 vs.length c2) vs by have h9:=hown.row eNm;rw [←HM.out];exact h9);clear hown hb1 hb2 hx1))
   have hml:0<vs.length:=by have:=HM.out;omega
   obtain ⟨b,o,rfl,hbw,hc⟩:=HO2.out.at_ hml;have hc0:=hc 0 _ rfl;have hv00:vs[0]=v0:=by have:=HV0.out;rw [List.getElem?_eq_getElem hml] at this;exact Option.some.inj this
   rw [hv00] at hc0;simp only [Nat.zero_mul,Nat.add_zero] at hc0
   have rv:∀U,jB w2 U→U.cell? ⟨b,o,none⟩=some (.int .i64 v0):=fun U hU=>(hU.cell (p:=⟨b,o,none⟩) hbw).trans hc0
   clear hc hc0 hv00 hml
   go_cut [4] (fun s4 wx=>∃B,s4=.pointer (some ⟨B,0,none⟩)∧wx.heap[B]?=some (.cells #[.int .i64 (m:Nat),.int .i64 sm,.int .i64 v0,.int .i64 v0,.int .i64 (mn:Nat)] 72 (0,0))∧w2.heap.size≤B∧jB w2 wx)
   case first =>
    have hS00:jB w2 w2:=jR;have hS0:jB w2 w2.drew:=hS00.drew
    go_region_held3 (fun U=>jB w2 U)
      (first
        | with_reducible exact hS0
        | with_reducible exact HB4.out
        | with_reducible exact HB6.out
        | with_reducible exact balloc HB6.out _
        | with_reducible exact balloc HB4.out _
        | with_reducible exact Below.drew (balloc hS00 _)
        | with_reducible exact balloc hS0 _
        | (iterate 5 (with_reducible refine Below.setCell ?_ (by first|exact Nat.le_refl _|exact HB4.out.size|exact HB6.out.size) _)
           first
            | with_reducible exact HB6.out
            | with_reducible exact balloc HB6.out _))
      (first
      | (go_at_call 185
         refine calls_named ?_;intro W3 hW3;have hz:W3.heap[w2.heap.size]?=some (.cells #[.int .i64 0,.int .i64 0,.int .i64 0,.int .i64 0,.int .i64 0] 72 (0,0)):=by
          first
           | (with_reducible refine new_at hW3 ?_
              rfl)
           | (with_reducible refine new_atd hW3 ?_
              rfl)
         subst hW3;refine (CS.out _ (bthen HB2.out ‹jB w2 _›)).mono ?_;rintro e w4 ⟨rfl,hb4⟩;have HZ4:=jH (jK hb4 hz);have HB4:=jH (bthen ‹jB w2 _› hb4);clear hb4 hz)
      | (go_at_call 185
         refine calls_named ?_;intro W3 hW3;subst hW3;refine (CS.out _ (bthen HB2.out ‹jB w2 _›)).mono ?_;rintro e w4 ⟨rfl,hb4⟩;have HB4:=jH (bthen ‹jB w2 _› hb4);clear hb4)
      | (go_at_call 127
         refine calls_named ?_;intro W5 hW5;have hz:W5.heap[w4.heap.size]?=some (.cells #[.int .i64 0,.int .i64 0,.int .i64 0,.int .i64 0,.int .i64 0] 72 (0,0)):=by
          first
           | (with_reducible refine new_at hW5 ?_
              rfl)
           | (with_reducible refine new_atd hW5 ?_
              rfl)
         subst hW5;refine (CM.out _ (bthen HB2.out (balloc HB4.out _))).mono ?_;rintro e w6 ⟨rfl,hb6⟩;have HZ6:=jH (jK hb6 hz);have HB6:=jH (bthen (balloc HB4.out _) hb6);obtain ⟨z1,z2,z3⟩:=box_cells jR HZ6.out;clear hb6 hz)
      | (go_at_call 127
         refine calls_named ?_;intro W5 hW5;have hz:=HZ4.out;subst hW5;refine (CM.out _ (bthen HB2.out HB4.out)).mono ?_;rintro e w6 ⟨rfl,hb6⟩;have HZ6:=jH (jK hb6 hz);have HB6:=jH (bthen HB4.out hb6);obtain ⟨z1,z2,z3⟩:=box_cells jR HZ6.out;clear hb6 hz)
      | (go_at_call 127
         refine calls_named ?_;intro W5 hW5;subst hW5;refine (CM.out _ (bthen HB2.out HB4.out)).mono ?_;rintro e w6 ⟨rfl,hb6⟩;have HB6:=jH (bthen HB4.out hb6);clear hb6))
    all_goals
      go_wp2_with fail
      go_meet
      refine ⟨_,rfl,?_⟩
      first
       | exact stat_in HZ6.out (by first|exact Nat.le_refl _|exact HB4.out.size) HB6.out _ _ _ _ _
       | exact stat_new HB6.out _ _ _ _ _
       | trace_state
   case rest =>
    obtain ⟨B,rfl,hB,hle,hb⟩:=hcut;have HLE:=jH hle;have HROW:=jH HO2.out;have HSTART:=jH (And.intro hB hb);clear hle rv hB hb;go_wp2
    go_loopg [5] m (fun g s5 wr=>∃i:Nat,i≤m∧m - i≤g∧s5=.int .i64 i∧wr.heap[B]?=some (.cells #[.int .i64 (m:Nat),.int .i64 sm,.int .i64 ((vs.take i).foldl min v0),.int .i64 ((vs.take i).foldl max v0),.int .i64 (mn:Nat)] 72 (0,0))∧jB w2 wr)
    case atStart=>exact ⟨0,Nat.zero_le _,Nat.le_refl _,rfl,HSTART.out.1,HSTART.out.2⟩
    case round =>
     obtain ⟨i,hi,hg,rfl,hB,hb⟩:=hrel;rename World=>wr
     have HBL:=jH hB;have HB:=jH hb;obtain ⟨e1,e2,e3⟩:=box_cells jR hB
     by_cases hlt:i<m
     · have hlt2:i<vs.length:=by have:=HM.out;omega
       have z1:(i:Int)<(m:Int):=by omega
       have z2:(0:Int)≤(i:Int):=by omega
       obtain ⟨b',o',hbo,hbw',hc⟩:=HROW.out.at_ hlt2;injection hbo with hbo
       injection hbo with hbo1 hbo2
       subst hbo1 hbo2;have hc0:=(hb.cell (p:=⟨b,_,none⟩) hbw').trans (hc 0 _ rfl);simp only [Nat.mul_one,Nat.add_zero] at hc0
       have HT:=jH (show (vs.take (i+1)).foldl min v0=min ((vs.take i).foldl min v0) vs[i]∧(vs.take (i+1)).foldl max v0=max ((vs.take i).foldl max v0) vs[i] by rw [List.take_succ_eq_append_getElem hlt2,List.foldl_append,List.foldl_append];exact ⟨rfl,rfl⟩);have hbwr:b<wr.heap.size:=Nat.lt_of_lt_of_le hbw' hb.size;generalize vs[i]=v at hc0 HT;generalize (vs.take i).foldl min v0=lo at HT HBL e1 hB;generalize (vs.take i).foldl max v0=hi' at HT HBL e1 hB
       have hne:¬b=B:=by have:=HLE.out;omega
       have hne2:¬B=b:=fun h=>hne h.symm
       clear hc hb hB
       by_cases h1:v<lo
       · by_cases h2:hi'<v
         · have HE:=jH (show (vs.take (i+1)).foldl min v0=v∧(vs.take (i+1)).foldl max v0=v by rw [HT.out.1,HT.out.2];omega)
           go_wp2_with fail
           go_quiet (fail)
           go_wp2_with fail
           go_quiet (fail)
           go_wp2_with fail
           go_roundg (m - (i+1))
           case measure=>omega
           case rel =>
            refine ⟨i+1,hlt,Nat.le_refl _,by go_num,?_,by repeat (first|exact HB.out|refine below_drewN ?_ _|refine Below.drew ?_|refine Below.setCell ?_ (by exact HLE.out) _)⟩;rw [HE.out.1,HE.out.2]
            first
             | exact HBL.out
             | exact setCell_block HBL.out
             | exact setCell_block (setCell_block HBL.out)
         · have HE:=jH (show (vs.take (i+1)).foldl min v0=v∧(vs.take (i+1)).foldl max v0=hi' by rw [HT.out.1,HT.out.2];omega)
           go_wp2_with fail
           go_quiet (fail)
           go_wp2_with fail
           go_quiet (fail)
           go_wp2_with fail
           go_roundg (m - (i+1))
           case measure=>omega
           case rel =>
            refine ⟨i+1,hlt,Nat.le_refl _,by go_num,?_,by repeat (first|exact HB.out|refine below_drewN ?_ _|refine Below.drew ?_|refine Below.setCell ?_ (by exact HLE.out) _)⟩;rw [HE.out.1,HE.out.2]
            first
             | exact HBL.out
             | exact setCell_block HBL.out
             | exact setCell_block (setCell_block HBL.out)
       · by_cases h2:hi'<v
         · have HE:=jH (show (vs.take (i+1)).foldl min v0=lo∧(vs.take (i+1)).foldl max v0=v by rw [HT.out.1,HT.out.2];omega)
           go_wp2_with fail
           go_quiet (fail)
           go_wp2_with fail
           go_quiet (fail)
           go_wp2_with fail
           go_roundg (m - (i+1))
           case measure=>omega
           case rel =>
            refine ⟨i+1,hlt,Nat.le_refl _,by go_num,?_,by repeat (first|exact HB.out|refine below_drewN ?_ _|refine Below.drew ?_|refine Below.setCell ?_ (by exact HLE.out) _)⟩;rw [HE.out.1,HE.out.2]
            first
             | exact HBL.out
             | exact setCell_block HBL.out
             | exact setCell_block (setCell_block HBL.out)
         · have HE:=jH (show (vs.take (i+1)).foldl min v0=lo∧(vs.take (i+1)).foldl max v0=hi' by rw [HT.out.1,HT.out.2];omega)
           go_wp2_with fail
           go_quiet (fail)
           go_wp2_with fail
           go_quiet (fail)
           go_wp2_with fail
           go_roundg (m - (i+1))
           case measure=>omega
           case rel =>
            refine ⟨i+1,hlt,Nat.le_refl _,by go_num,?_,by repeat (first|exact HB.out|refine below_drewN ?_ _|refine Below.drew ?_|refine Below.setCell ?_ (by exact HLE.out) _)⟩;rw [HE.out.1,HE.out.2]
            first
             | exact HBL.out
             | exact setCell_block HBL.out
             | exact setCell_block (setCell_block HBL.out)
     · obtain rfl:i=m:=by omega
       have z1:¬(i:Int)<(i:Int):=by omega
       rw [show vs.take i=vs by rw [HM.out,List.take_length]] at e1 HBL hB;have hR:=jK hb HX2.out;have HRX:=jH hR;obtain ⟨f1,f2,f3⟩:=box_cells jR hR;have hne:¬B=w.heap.size:=by have:=HLE.out;have:=(jL HX2.out);omega
       generalize vs.foldl min v0=lo at e1 HRR HBL hB;generalize vs.foldl max v0=hi' at e1 HRR HBL hB;clear hb hR hB;go_wp2
       refine post_named ?_;intro W9 hW9;have hW9':W9=stor wr w.heap.size 0 [.int .i64 (i:Nat),.int .i64 sm,.int .i64 lo,.int .i64 hi',.int .i64 (mn:Nat)]:=hW9;obtain ⟨s1,s2,s3,s4⟩:=stor_at HRX.out [.int .i64 (i:Nat),.int .i64 sm,.int .i64 lo,.int .i64 hi',.int .i64 (mn:Nat)] rfl W9 hW9';obtain ⟨a9,a8,a7⟩:=box_cells jR s1;clear hW9 hW9';exact bodyPost_ret (v:=.agg #[.int .i64 (i:Nat),.int .i64 sm,.int .i64 lo,.int .i64 hi',.int .i64 (mn:Nat)]) (by simp [results,Tryz.results144,go_sem,a9]) rfl ⟨by rw [HRR.out];rfl,(bthen HB2.out HB.out).trans (s4 _ (Nat.le_refl _))⟩
end
end Go.Proofs.YtkcdhaallnhhmaaGreat
