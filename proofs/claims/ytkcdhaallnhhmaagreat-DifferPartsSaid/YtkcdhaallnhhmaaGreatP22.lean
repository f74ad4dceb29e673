/- Part 22 of the proof: Win2. -/
import Derived.Test.YtkcdhaallnhhmaaGreatP15
namespace Go.Proofs.YtkcdhaallnhhmaaGreat
set_option linter.unusedSimpArgs false
set_option linter.unusedVariables false
set_option linter.unusedSectionVars false
set_option maxRecDepth 100000
set_option maxHeartbeats 16000000
section
open Go.RowKit Go.Lib
theorem winCut_any (v:Value) (l:List Smp) (a b:Int) (w:World) (hv:RowIn 2 smpC w v l) (hl:l.length≤1000000) :
 Calls Tryz.prog 168 #[v,.int .i64 a,.int .i64 b] w fun e w'=>∃A c,e=.returned (.slice A (winC l a b).length c)∧OwnL smpC 118 2 w.heap.size w' (.slice A (winC l a b).length c) (winC l a b)∧jB w w':=by
 obtain ⟨A,c,rfl⟩:=hv.form;have HV:=jH hv;have HL:=jH hl;have hl9:l.length≤9223372036854775807:=by omega
 clear hv hl
 go_enter Tryz.func168,Tryz.ntmps168
 go_wp2
 go_loopg [7,12] l.length (fun g s7 s12 wr=>∃k:Nat,k≤l.length∧l.length - k≤g∧s12=.int .i64 k∧OwnL smpC 118 2 w.heap.size wr s7 (winC (l.take k) a b)∧jB w wr)
 case atStart=>exact ⟨0,Nat.zero_le _,Nat.le_refl _,rfl,by simp [winC];exact OwnL.nil _ _,jR⟩
 case round =>
  obtain ⟨k,hk,hg,rfl,hown,hb⟩:=hrel;rename World=>wr
  obtain ⟨pre,hpre⟩:∃pre,pre=winC (l.take k) a b:=⟨_,rfl⟩;rw [←hpre] at hown;obtain ⟨A5,c5,rfl⟩:=hown.form;have HPL:=jH (show pre.length≤k by rw [hpre];exact Nat.le_trans (cut_len _ _ _) (by simp;omega));have HPRE:=jH hpre;have HO:=jH hown;have HB:=jH hb;clear hpre hown hb
  by_cases hlt:k<l.length
  · obtain ⟨b1,o1,rfl,hb1,hc⟩:=(HV.out.below HB.out).at_ hlt
    have z1:(0:Int)≤(k:Int):=by omega
    have z2:(k:Int)<(l.length:Int):=by omega
    have HTK:=jH (show winC (l.take (k+1)) a b=pre++if a≤l[k].1∧l[k].1≤b then [l[k]] else [] by rw [List.take_succ_eq_append_getElem hlt,winC_snoc,HPRE.out]);generalize l[k]=x at hc HTK;have d0:=hc 0 _ rfl;have d1:=hc 1 _ rfl;rw [Nat.add_zero] at d0;have HK:=jH hlt;clear hc
    by_cases h1:a≤x.1
    · by_cases h2:x.1≤b
      · as_aux_lemma =>
        go_wp2_with (first
         | (at_builtin
            refine wpList_appendL eSmp (by rfl) (by rfl) w.heap.size pre [x] (.slice A5 pre.length c5) _ (by rfl) (by rfl) ((HO.out.below (balloc (balloc jR _) _))) (RowIn.lit _ x _ _ (wr.heap.size+1) (by simp) rfl) (by have:=HPL.out;have:=HL.out;have:=HK.out;simp;omega) (by have:=HB.out.size;simp;omega) ?_;intro out2 A9 c9 w13 hout2 hown2 hg2 _;have HO13:=jH hout2;have HW13:=jH hown2;have HB13:=jH (show jB w w13 from (balloc (balloc HB.out _) _).trans (grown_own hg2 HO.out (by have:=HB.out.size;simp;omega)))
            clear hout2 hown2 hg2))
        go_roundg (l.length - (k+1))
        case measure=>omega
        case rel=>exact ⟨k+1,HK.out,Nat.le_refl _,by go_num,by rw [HTK.out,if_pos ⟨h1,h2⟩,←HO13.out];exact HW13.out,HB13.out⟩
      · as_aux_lemma =>
        go_wp2_with fail
        go_roundg (l.length - (k+1))
        case measure=>omega
        case rel=>exact ⟨k+1,HK.out,Nat.le_refl _,by go_num,by rw [HTK.out,if_neg (by omega),List.append_nil];exact HO.out.below (balloc jR _),balloc HB.out _⟩
    · as_aux_lemma =>
      go_wp2_with fail
      go_roundg (l.length - (k+1))
      case measure=>omega
      case rel=>exact ⟨k+1,HK.out,Nat.le_refl _,by go_num,by rw [HTK.out,if_neg (by omega),List.append_nil];exact HO.out.below (balloc jR _),balloc HB.out _⟩
  · obtain rfl:k=l.length:=by omega
    have hp:=HPRE.out;rw [List.take_length] at hp;have HP:=jH hp;clear hp;go_wp2_with fail
    go_ret
    exact ⟨A5,c5,by rw [HP.out];rfl,by rw [←HP.out];exact HO.out,HB.out⟩
theorem winVals_any (v:Value) (l:List Smp) (w:World) (hv:RowIn 2 smpC w v l) (hl:l.length≤1000000) :
 Calls Tryz.prog 197 #[v] w fun e w'=>∃A c,e=.returned (.slice A (valsW l).length c)∧OwnL nmC 2 1 w.heap.size w' (.slice A (valsW l).length c) (valsW l)∧jB w w':=by
 obtain ⟨A,c,rfl⟩:=hv.form;have HV:=jH hv;have HL:=jH hl;have hl9:l.length≤9223372036854775807:=by omega
 clear hv hl
 go_enter Tryz.func197,Tryz.ntmps197
 go_wp2
 go_loopg [3,8] l.length (fun g s7 s12 wr=>∃k:Nat,k≤l.length∧l.length - k≤g∧s12=.int .i64 k∧OwnL nmC 2 1 w.heap.size wr s7 (valsW (l.take k))∧jB w wr)
 case atStart=>exact ⟨0,Nat.zero_le _,Nat.le_refl _,rfl,by simp [valsW];exact OwnL.nil _ _,jR⟩
 case round =>
  obtain ⟨k,hk,hg,rfl,hown,hb⟩:=hrel;rename World=>wr
  obtain ⟨pre,hpre⟩:∃pre,pre=valsW (l.take k):=⟨_,rfl⟩;rw [←hpre] at hown;obtain ⟨A5,c5,rfl⟩:=hown.form;have HPL:=jH (show pre.length≤k by rw [hpre,vals_len];simp;omega);have HPRE:=jH hpre;have HO:=jH hown;have HB:=jH hb;clear hpre hown hb
  by_cases hlt:k<l.length
  · obtain ⟨b1,o1,rfl,hb1,hc⟩:=(HV.out.below HB.out).at_ hlt
    have z1:(0:Int)≤(k:Int):=by omega
    have z2:(k:Int)<(l.length:Int):=by omega
    have HTK:=jH (show valsW (l.take (k+1))=pre++[max l[k].2 0] by rw [List.take_succ_eq_append_getElem hlt,valsW_snoc,HPRE.out]);generalize l[k]=x at hc HTK;have d0:=hc 0 _ rfl;have d1:=hc 1 _ rfl;rw [Nat.add_zero] at d0;have HK:=jH hlt;clear hc
    go_wp2_with (first
     | (at_builtin
        refine wpList_appendL eNm (by rfl) (by rfl) w.heap.size pre [max x.2 0] (.slice A5 pre.length c5) _ (by rfl) (by rfl) ((HO.out.below (balloc (balloc jR _) _))) (RowIn.lit _ (max x.2 0) _ _ (wr.heap.size+1) (by simp) (by simp [nmC])) (by have:=HPL.out;have:=HL.out;have:=HK.out;simp;omega) (by have:=HB.out.size;simp;omega) ?_;intro out2 A9 c9 w13 hout2 hown2 hg2 _;have HO13:=jH hout2;have HW13:=jH hown2
        have HB13:=jH (show jB w w13 from (balloc (balloc HB.out _) _).trans (grown_own hg2 HO.out (by have:=HB.out.size;simp;omega)));clear hout2 hown2 hg2))
    go_roundg (l.length - (k+1))
    case measure=>omega
    case rel=>exact ⟨k+1,HK.out,Nat.le_refl _,by go_num,by rw [HTK.out,←HO13.out];exact HW13.out,HB13.out⟩
  · obtain rfl:k=l.length:=by omega
    have hp:=HPRE.out;rw [List.take_length] at hp;have HP:=jH hp;clear hp;go_wp2_with fail
    go_ret
    exact ⟨A5,c5,by rw [HP.out];rfl,by rw [←HP.out];exact HO.out,HB.out⟩
theorem slMin_any (v:Value) (l:List Int) (w:World) (hv:RowIn 1 nmC w v l) (hl:l.length≤1000000) (hne:l≠[]) :
 Calls Tryz.prog 199 #[v] w fun e w'=>e=.returned (.int .i64 (minL l))∧w=w':=by
 obtain ⟨A,c,rfl⟩:=hv.form;have HV:=jH hv;have hl9:l.length≤9223372036854775807:=by omega
 have hp:0<l.length:=List.length_pos_iff.2 hne;have z0:¬(l.length:Int)<1:=by omega
 have z3:(0:Int)<(l.length:Int):=by omega
 obtain ⟨b1,o1,rfl,hb1,hc⟩:=HV.out.at_ hp;have d0:=hc 0 _ rfl;simp only [Nat.zero_mul,Nat.add_zero] at d0
 have HP:=jH hp;have HFST:=jH (show minL (l.take 1)=l[0] by
  rw [List.take_one]
  cases l with
  | nil=>exact absurd rfl hne
  | cons a l=>rfl)
 generalize l[0]=x0 at d0 HFST;clear hv hc hne hp
 go_enter Tryz.func199,Tryz.ntmps199
 go_wp2
 go_loopg [3,4] l.length (fun g s3 s8 wr=>∃k:Nat,1≤k∧k≤l.length∧l.length - k≤g∧s8=.int .i64 k∧s3=.int .i64 (minL (l.take k))∧w=wr)
 case atStart=>exact ⟨1,Nat.le_refl _,HP.out,by omega,rfl,by rw [HFST.out],rfl⟩
 case round =>
  obtain ⟨k,hk1,hk,hg,rfl,rfl,rfl⟩:=hrel
  by_cases hlt:k<l.length
  · obtain ⟨b2,o2,he,hb2,hc⟩:=HV.out.at_ hlt
    injection he with he
    injection he with e1 e2
    subst e1 e2;have z1:(0:Int)≤(k:Int):=by omega
    have z2:(k:Int)<(l.length:Int):=by omega
    have HS:=jH (show minL (l.take (k+1))=min (minL (l.take k)) l[k] by rw [List.take_succ_eq_append_getElem hlt,minL_snoc (by intro q;have:=congrArg List.length q;rw [List.length_take,List.length_nil] at this;omega)]);have d2:=hc 0 _ rfl;rw [Nat.add_zero,Nat.mul_one] at d2;generalize minL (l.take k)=s at HS ⊢;generalize l[k]=x at HS d2;clear hc d0;go_wp2
    go_roundg (l.length - (k+1))
    case measure=>omega
    case rel=>exact ⟨k+1,by omega,hlt,Nat.le_refl _,by go_num,by rw [HS.out],rfl⟩
  · obtain rfl:k=l.length:=by omega
    rw [List.take_length];go_wp2
    go_ret
    exact ⟨rfl,rfl⟩
theorem slMax_any (v:Value) (l:List Int) (w:World) (hv:RowIn 1 nmC w v l) (hl:l.length≤1000000) (hne:l≠[]) :
 Calls Tryz.prog 200 #[v] w fun e w'=>e=.returned (.int .i64 (maxL l))∧w=w':=by
 obtain ⟨A,c,rfl⟩:=hv.form;have HV:=jH hv;have hl9:l.length≤9223372036854775807:=by omega
 have hp:0<l.length:=List.length_pos_iff.2 hne;have z0:¬(l.length:Int)<1:=by omega
 have z3:(0:Int)<(l.length:Int):=by omega
 obtain ⟨b1,o1,rfl,hb1,hc⟩:=HV.out.at_ hp;have d0:=hc 0 _ rfl;simp only [Nat.zero_mul,Nat.add_zero] at d0
 have HP:=jH hp;have HFST:=jH (show maxL (l.take 1)=l[0] by
  rw [List.take_one]
  cases l with
  | nil=>exact absurd rfl hne
  | cons a l=>rfl)
 generalize l[0]=x0 at d0 HFST;clear hv hc hne hp
 go_enter Tryz.func200,Tryz.ntmps200
 go_wp2
 go_loopg [3,4] l.length (fun g s3 s8 wr=>∃k:Nat,1≤k∧k≤l.length∧l.length - k≤g∧s8=.int .i64 k∧s3=.int .i64 (maxL (l.take k))∧w=wr)
 case atStart=>exact ⟨1,Nat.le_refl _,HP.out,by omega,rfl,by rw [HFST.out],rfl⟩
 case round =>
  obtain ⟨k,hk1,hk,hg,rfl,rfl,rfl⟩:=hrel
  by_cases hlt:k<l.length
  · obtain ⟨b2,o2,he,hb2,hc⟩:=HV.out.at_ hlt
    injection he with he
    injection he with e1 e2
    subst e1 e2;have z1:(0:Int)≤(k:Int):=by omega
    have z2:(k:Int)<(l.length:Int):=by omega
    have HS:=jH (show maxL (l.take (k+1))=max (maxL (l.take k)) l[k] by rw [List.take_succ_eq_append_getElem hlt,maxL_snoc (by intro q;have:=congrArg List.length q;rw [List.length_take,List.length_nil] at this;omega)]);have d2:=hc 0 _ rfl;rw [Nat.add_zero,Nat.mul_one] at d2;generalize maxL (l.take k)=s at HS ⊢;generalize l[k]=x at HS d2;clear hc d0;go_wp2
    go_roundg (l.length - (k+1))
    case measure=>omega
    case rel=>exact ⟨k+1,by omega,hlt,Nat.le_refl _,by go_num,by rw [HS.out],rfl⟩
  · obtain rfl:k=l.length:=by omega
    rw [List.take_length];go_wp2
    go_ret
    exact ⟨rfl,rfl⟩
end
end Go.Proofs.YtkcdhaallnhhmaaGreat
