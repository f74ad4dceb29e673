/- Part 27 of the proof: Win2, Late, DecOf, StoJ. -/
import Derived.Test.YtkcdhaallnhhmaaGreatQ24
namespace Go.Proofs.YtkcdhaallnhhmaaGreat
set_option linter.unusedSimpArgs false
set_option linter.unusedVariables false
set_option linter.unusedSectionVars false
set_option maxRecDepth 100000
set_option maxHeartbeats 16000000
section
open Go.RowKit Go.Lib
theorem winCut_any (v:Value) (l:List Smp) (a b:Int) (w:World) (hv:RowIn 2 smpC w v l) (hl:l.length≤1000000) :
 Calls Tryz.prog 168 #[v,.int .i64 a,.int .i64 b] w fun e w'=>∃A c,e=.returned (.slice A (winC l a b).length c)∧OwnL smpC 118 2 w.heap.size w' (.slice A (winC l a b).length c) (winC l a b)∧jB w w':=by
 obtain ⟨A,c,rfl⟩:=hv.form;have HV:=jH hv;have HL:=jH hl;have hl9:l.length≤9223372036854775807:=by omega
 clear hv hl
 go_enter Tryz.func168,Tryz.ntmps168
 go_wp2
 go_loopg [7,12] l.length (fun g s7 s12 wr=>∃k:Nat,k≤l.length∧l.length - k≤g∧s12=.int .i64 k∧OwnL smpC 118 2 w.heap.size wr s7 (winC (l.take k) a b)∧jB w wr)
 case atStart=>exact ⟨0,Nat.zero_le _,Nat.le_refl _,rfl,by simp [winC];exact OwnL.nil _ _,jR⟩
 case round =>
  obtain ⟨k,hk,hg,rfl,hown,hb⟩:=hrel;rename World=>wr
  obtain ⟨pre,hpre⟩:∃pre,pre=winC (l.take k) a b:=⟨_,rfl⟩;rw [←hpre] at hown;obtain ⟨A5,c5,rfl⟩:=hown.form;have HPL:=jH (show pre.length≤k by rw [hpre];exact Nat.le_trans (cut_len _ _ _) (by simp;omega));have HPRE:=jH hpre;have HO:=jH hown;have HB:=jH hb;clear hpre hown hb
  by_cases hlt:k<l.length
  · obtain ⟨b1,o1,rfl,hb1,hc⟩:=(HV.out.below HB.out).at_ hlt
    have z1:(0:Int)≤(k:Int):=by omega
    have z2:(k:Int)<(l.length:Int):=by omega
    have HTK:=jH (show winC (l.take (k+1)) a b=pre++if a≤l[k].1∧l[k].1≤b then [l[k]] else [] by rw [List.take_succ_eq_append_getElem hlt,winC_snoc,HPRE.out]);generalize l[k]=x at hc HTK;have d0:=hc 0 _ rfl;have d1:=hc 1 _ rfl;rw [Nat.add_zero] at d0;have HK:=jH hlt;clear hc
    by_cases h1:a≤x.1
    · by_cases h2:x.1≤b
      · as_aux_lemma =>
        go_wp2_with (first
         | (at_builtin
            refine wpList_appendL eSmp (by rfl) (by rfl) w.heap.size pre [x] (.slice A5 pre.length c5) _ (by rfl) (by rfl) ((HO.out.below (balloc (balloc jR _) _))) (RowIn.lit _ x _ _ (wr.heap.size+1) (by simp) rfl) (by have:=HPL.out;have:=HL.out;have:=HK.out;simp;omega) (by have:=HB.out.size;simp;omega) ?_;intro out2 A9 c9 w13 hout2 hown2 hg2 _;have HO13:=jH hout2;have HW13:=jH hown2;have HB13:=jH (show jB w w13 from (balloc (balloc HB.out _) _).trans (grown_own hg2 HO.out (by have:=HB.out.size;simp;omega)))
            clear hout2 hown2 hg2))
        go_roundg (l.length - (k+1))
        case measure=>omega
        case rel=>exact ⟨k+1,HK.out,Nat.le_refl _,by go_num,by rw [HTK.out,if_pos ⟨h1,h2⟩,←HO13.out];exact HW13.out,HB13.out⟩
      · as_aux_lemma =>
        go_wp2_with fail
        go_roundg (l.length - (k+1))
        case measure=>omega
        case rel=>exact ⟨k+1,HK.out,Nat.le_refl _,by go_num,by rw [HTK.out,if_neg (by omega),List.append_nil];exact HO.out.below (balloc jR _),balloc HB.out _⟩
    · as_aux_lemma =>
      go_wp2_with fail
      go_roundg (l.length - (k+1))
      case measure=>omega
      case rel=>exact ⟨k+1,HK.out,Nat.le_refl _,by go_num,by rw [HTK.out,if_neg (by omega),List.append_nil];exact HO.out.below (balloc jR _),balloc HB.out _⟩
  · obtain rfl:k=l.length:=by omega
    have hp:=HPRE.out;rw [List.take_length] at hp;have HP:=jH hp;clear hp;go_wp2_with fail
    go_ret
    exact ⟨A5,c5,by rw [HP.out];rfl,by rw [←HP.out];exact HO.out,HB.out⟩
theorem winVals_any (v:Value) (l:List Smp) (w:World) (hv:RowIn 2 smpC w v l) (hl:l.length≤1000000) :
 Calls Tryz.prog 197 #[v] w fun e w'=>∃A c,e=.returned (.slice A (valsW l).length c)∧OwnL nmC 2 1 w.heap.size w' (.slice A (valsW l).length c) (valsW l)∧jB w w':=by
 obtain ⟨A,c,rfl⟩:=hv.form;have HV:=jH hv;have HL:=jH hl;have hl9:l.length≤9223372036854775807:=by omega
 clear hv hl
 go_enter Tryz.func197,Tryz.ntmps197
 go_wp2
 go_loopg [3,8] l.length (fun g s7 s12 wr=>∃k:Nat,k≤l.length∧l.length - k≤g∧s12=.int .i64 k∧OwnL nmC 2 1 w.heap.size wr s7 (valsW (l.take k))∧jB w wr)
 case atStart=>exact ⟨0,Nat.zero_le _,Nat.le_refl _,rfl,by simp [valsW];exact OwnL.nil _ _,jR⟩
 case round =>
  obtain ⟨k,hk,hg,rfl,hown,hb⟩:=hrel;rename World=>wr
  obtain ⟨pre,hpre⟩:∃pre,pre=valsW (l.take k):=⟨_,rfl⟩;rw [←hpre] at hown;obtain ⟨A5,c5,rfl⟩:=hown.form;have HPL:=jH (show pre.length≤k by rw [hpre,vals_len];simp;omega);have HPRE:=jH hpre;have HO:=jH hown;have HB:=jH hb;clear hpre hown hb
  by_cases hlt:k<l.length
  · obtain ⟨b1,o1,rfl,hb1,hc⟩:=(HV.out.below HB.out).at_ hlt
    have z1:(0:Int)≤(k:Int):=by omega
    have z2:(k:Int)<(l.length:Int):=by omega
    have HTK:=jH (show valsW (l.take (k+1))=pre++[max l[k].2 0] by rw [List.take_succ_eq_append_getElem hlt,valsW_snoc,HPRE.out]);generalize l[k]=x at hc HTK;have d0:=hc 0 _ rfl;have d1:=hc 1 _ rfl;rw [Nat.add_zero] at d0;have HK:=jH hlt;clear hc
    go_wp2_with (first
     | (at_builtin
        refine wpList_appendL eNm (by rfl) (by rfl) w.heap.size pre [max x.2 0] (.slice A5 pre.length c5) _ (by rfl) (by rfl) ((HO.out.below (balloc (balloc jR _) _))) (RowIn.lit _ (max x.2 0) _ _ (wr.heap.size+1) (by simp) (by simp [nmC])) (by have:=HPL.out;have:=HL.out;have:=HK.out;simp;omega) (by have:=HB.out.size;simp;omega) ?_;intro out2 A9 c9 w13 hout2 hown2 hg2 _;have HO13:=jH hout2;have HW13:=jH hown2
        have HB13:=jH (show jB w w13 from (balloc (balloc HB.out _) _).trans (grown_own hg2 HO.out (by have:=HB.out.size;simp;omega)));clear hout2 hown2 hg2))
    go_roundg (l.length - (k+1))
    case measure=>omega
    case rel=>exact ⟨k+1,HK.out,Nat.le_refl _,by go_num,by rw [HTK.out,←HO13.out];exact HW13.out,HB13.out⟩
  · obtain rfl:k=l.length:=by omega
    have hp:=HPRE.out;rw [List.take_length] at hp;have HP:=jH hp;clear hp;go_wp2_with fail
    go_ret
    exact ⟨A5,c5,by rw [HP.out];rfl,by rw [←HP.out];exact HO.out,HB.out⟩
theorem slMin_any (v:Value) (l:List Int) (w:World) (hv:RowIn 1 nmC w v l) (hl:l.length≤1000000) (hne:l≠[]) :
 Calls Tryz.prog 199 #[v] w fun e w'=>e=.returned (.int .i64 (minL l))∧w=w':=by
 obtain ⟨A,c,rfl⟩:=hv.form;have HV:=jH hv;have hl9:l.length≤9223372036854775807:=by omega
 have hp:0<l.length:=List.length_pos_iff.2 hne;have z0:¬(l.length:Int)<1:=by omega
 have z3:(0:Int)<(l.length:Int):=by omega
 obtain ⟨b1,o1,rfl,hb1,hc⟩:=HV.out.at_ hp;have d0:=hc 0 _ rfl;simp only [Nat.zero_mul,Nat.add_zero] at d0
 have HP:=jH hp;have HFST:=jH (show minL (l.take 1)=l[0] by
  rw [List.take_one]
  cases l with
  | nil=>exact absurd rfl hne
  | cons a l=>rfl)
 generalize l[0]=x0 at d0 HFST;clear hv hc hne hp
 go_enter Tryz.func199,Tryz.ntmps199
 go_wp2
 go_loopg [3,4] l.length (fun g s3 s8 wr=>∃k:Nat,1≤k∧k≤l.length∧l.length - k≤g∧s8=.int .i64 k∧s3=.int .i64 (minL (l.take k))∧w=wr)
 case atStart=>exact ⟨1,Nat.le_refl _,HP.out,by omega,rfl,by rw [HFST.out],rfl⟩
 case round =>
  obtain ⟨k,hk1,hk,hg,rfl,rfl,rfl⟩:=hrel
  by_cases hlt:k<l.length
  · obtain ⟨b2,o2,he,hb2,hc⟩:=HV.out.at_ hlt
    injection he with he
    injection he with e1 e2
    subst e1 e2;have z1:(0:Int)≤(k:Int):=by omega
    have z2:(k:Int)<(l.length:Int):=by omega
    have HS:=jH (show minL (l.take (k+1))=min (minL (l.take k)) l[k] by rw [List.take_succ_eq_append_getElem hlt,minL_snoc (by intro q;have:=congrArg List.length q;rw [List.length_take,List.length_nil] at this;omega)]);have d2:=hc 0 _ rfl;rw [Nat.add_zero,Nat.mul_one] at d2;generalize minL (l.take k)=s at HS ⊢;generalize l[k]=x at HS d2;clear hc d0;go_wp2
    go_roundg (l.length - (k+1))
    case measure=>omega
    case rel=>exact ⟨k+1,by omega,hlt,Nat.le_refl _,by go_num,by rw [HS.out],rfl⟩
  · obtain rfl:k=l.length:=by omega
    rw [List.take_length];go_wp2
    go_ret
    exact ⟨rfl,rfl⟩
theorem slMax_any (v:Value) (l:List Int) (w:World) (hv:RowIn 1 nmC w v l) (hl:l.length≤1000000) (hne:l≠[]) :
 Calls Tryz.prog 200 #[v] w fun e w'=>e=.returned (.int .i64 (maxL l))∧w=w':=by
 obtain ⟨A,c,rfl⟩:=hv.form;have HV:=jH hv;have hl9:l.length≤9223372036854775807:=by omega
 have hp:0<l.length:=List.length_pos_iff.2 hne;have z0:¬(l.length:Int)<1:=by omega
 have z3:(0:Int)<(l.length:Int):=by omega
 obtain ⟨b1,o1,rfl,hb1,hc⟩:=HV.out.at_ hp;have d0:=hc 0 _ rfl;simp only [Nat.zero_mul,Nat.add_zero] at d0
 have HP:=jH hp;have HFST:=jH (show maxL (l.take 1)=l[0] by
  rw [List.take_one]
  cases l with
  | nil=>exact absurd rfl hne
  | cons a l=>rfl)
 generalize l[0]=x0 at d0 HFST;clear hv hc hne hp
 go_enter Tryz.func200,Tryz.ntmps200
 go_wp2
 go_loopg [3,4] l.length (fun g s3 s8 wr=>∃k:Nat,1≤k∧k≤l.length∧l.length - k≤g∧s8=.int .i64 k∧s3=.int .i64 (maxL (l.take k))∧w=wr)
 case atStart=>exact ⟨1,Nat.le_refl _,HP.out,by omega,rfl,by rw [HFST.out],rfl⟩
 case round =>
  obtain ⟨k,hk1,hk,hg,rfl,rfl,rfl⟩:=hrel
  by_cases hlt:k<l.length
  · obtain ⟨b2,o2,he,hb2,hc⟩:=HV.out.at_ hlt
    injection he with he
    injection he with e1 e2
    subst e1 e2;have z1:(0:Int)≤(k:Int):=by omega
    have z2:(k:Int)<(l.length:Int):=by omega
    have HS:=jH (show maxL (l.take (k+1))=max (maxL (l.take k)) l[k] by rw [List.take_succ_eq_append_getElem hlt,maxL_snoc (by intro q;have:=congrArg List.length q;rw [List.length_take,List.length_nil] at this;omega)]);have d2:=hc 0 _ rfl;rw [Nat.add_zero,Nat.mul_one] at d2;generalize maxL (l.take k)=s at HS ⊢;generalize l[k]=x at HS d2;clear hc d0;go_wp2
    go_roundg (l.length - (k+1))
    case measure=>omega
    case rel=>exact ⟨k+1,by omega,hlt,Nat.le_refl _,by go_num,by rw [HS.out],rfl⟩
  · obtain rfl:k=l.length:=by omega
    rw [List.take_length];go_wp2
    go_ret
    exact ⟨rfl,rfl⟩
end
section
open Go.RowKit Go.Lib
def latF (l:List Smp) (b:Int):Int:=l.foldl (fun b x=>max b x.1) b
theorem latF_snoc (l:List Smp) (x:Smp) (b:Int):latF (l++[x]) b=max (latF l b) x.1:=by simp [latF]
theorem latF_all {l:List Smp} (h:0<l.length):latF l l[0].1=latestI l:=by
 cases l with
 | nil=>simp at h
 | cons s l=>simp [latF,latestI]
theorem now_last (p:Pol) {l:List Adv} (h:0<l.length):nowI p l=(l[l.length - 1]'(by omega)).repl:=by
 unfold nowI;rw [List.getLast?_eq_getElem?,List.getElem?_eq_getElem (by omega)]
theorem refLate_any (v:Value) (l:List Smp) (w:World) (hv:RowIn 2 smpC w v l) (hl:l.length≤1000000) (h0:0<l.length) :
 Calls Tryz.prog 126 #[v] w (jP w (.int .i64 (latestI l))):=by
 obtain ⟨A,c,rfl⟩:=hv.form;have HV:=jH hv;have HL:=jH hl;have hl9:l.length≤9223372036854775807:=by omega
 have z8:(0:Int)<(l.length:Int):=by omega
 have z9:¬((l.length:Nat):Int)=0:=by omega
 have z7:(((l.length:Nat):Int) == 0)=false:=beq_eq_false_iff_ne.2 z9;have HA:=jH (latF_all h0);obtain ⟨b0,o0,rfl,hb0,hc0⟩:=hv.at_ h0;generalize l[0]=s at HA hc0;have c0:=hc0 0 _ rfl;rw [Nat.add_zero] at c0;clear hv hl hc0
 go_enter Tryz.func126,Tryz.ntmps126
 go_wp2
 go_loopg [3,4] l.length (fun g s7 s12 wr=>∃k:Nat,k≤l.length∧l.length - k≤g∧s12=.int .i64 k∧s7=.int .i64 (latF (l.take k) s.1)∧jB w wr)
 case atStart=>exact ⟨0,Nat.zero_le _,Nat.le_refl _,rfl,rfl,jR⟩
 case round =>
  obtain ⟨k,hk,hg,rfl,rfl,hb⟩:=hrel;rename World=>wr
  have HB:=jH hb;clear hb
  by_cases hlt:k<l.length
  · obtain ⟨b1,o1,e1,hb1,hc⟩:=(HV.out.below HB.out).at_ hlt
    cases e1
    have z1:(0:Int)≤(k:Int):=by omega
    have z2:(k:Int)<(l.length:Int):=by omega
    have HTK:=jH (show latF (l.take (k+1)) s.1=max (latF (l.take k) s.1) l[k].1 by rw [List.take_succ_eq_append_getElem hlt,latF_snoc]);generalize l[k]=x at hc HTK;generalize latF (l.take k) s.1=q at HTK;have d0:=hc 0 _ rfl;have d1:=hc 1 _ rfl;rw [Nat.add_zero] at d0;have HK:=jH hlt;clear hc
    by_cases q1:q<x.1
    · have HN:=jH (show max q x.1=x.1 by omega)
      as_aux_lemma =>
       go_wp2_with fail
       go_roundg (l.length - (k+1))
       case measure=>omega
       case rel=>exact ⟨k+1,HK.out,Nat.le_refl _,by go_num,by rw [HTK.out,HN.out],by first|exact HB.out|exact balloc HB.out _⟩
    · have HN:=jH (show max q x.1=q by omega)
      as_aux_lemma =>
       go_wp2_with fail
       go_roundg (l.length - (k+1))
       case measure=>omega
       case rel=>exact ⟨k+1,HK.out,Nat.le_refl _,by go_num,by rw [HTK.out,HN.out],by first|exact HB.out|exact balloc HB.out _⟩
  · obtain rfl:k=l.length:=by omega
    rw [List.take_length];obtain ⟨q,hq⟩:∃q,q=latF l s.1:=⟨_,rfl⟩;rw [←hq];rw [←hq] at HA;have HST:=HA;clear hq;go_wp2_with fail
    go_ret
    exact ⟨by rw [←HST.out];rfl,HB.out⟩
theorem refWhy_any (p:Pol) (held:Bool) (op now til:Int) (w:World) :
 Calls Tryz.prog 134 #[polV p,.bool held,.int .i64 op,.int .i64 now,.int .i64 til] w (jP w (.int .i64 (whyI p held op now til))):=by
 unfold polV;obtain ⟨q,hq⟩:∃q,q=whyI p held op now til:=⟨_,rfl⟩;rw [←hq];have HQ:=jH hq;clear hq
 cases held
 all_goals
   go_enter Tryz.func134,Tryz.ntmps134
   go_wp2
   all_goals
     go_ret
     refine ⟨ret_int ?_,balloc jR _⟩;rw [HQ.out];unfold whyI;simp only [Bool.false_eq_true,if_false,if_true,ite_false,ite_true]
     repeat' split
     all_goals omega
theorem refNow_any (p:Pol) (v:Value) (l:List Adv) (w:World) (hv:RowIn 5 advC w v l) (hl:l.length≤1000000) :
 Calls Tryz.prog 130 #[polV p,v] w (jP w (.int .i64 (nowI p l))):=by
 obtain ⟨A,c,rfl⟩:=hv.form;unfold polV
 by_cases h0:0<l.length
 · have HN:=jH (now_last p h0)
   have z9:¬((l.length:Nat):Int)=0:=by omega
   have z7:(((l.length:Nat):Int) == 0)=false:=beq_eq_false_iff_ne.2 z9;obtain ⟨n,hn⟩:∃n,n=l.length - 1:=⟨_,rfl⟩;have hlt:n<l.length:=by omega
   have HN2:=jH (show nowI p l=l[n].repl by rw [HN.out];simp only [hn]);obtain ⟨b0,o0,rfl,hb0,hc0⟩:=(hv.below (balloc (Below.refl w.heap.size w) (.cells #[.int .i64 p.mn,.int .i64 p.mx,.int .i64 p.tg,.int .i64 p.tol,.int .i64 p.win,.int .i64 p.hold] 46))).at_ hlt;have hw:wrap64 ((n:Nat):Int)=(n:Nat):=by unfold wrap64;omega
   have hw2:((l.length:Nat) - 1:Int)=(n:Nat):=by omega
   have z1:(0:Int)≤(n:Int):=by omega
   have z2:(n:Int)<(l.length:Int):=by omega
   generalize l[n]=x at hc0 HN2;have c3:=hc0 3 _ rfl;clear hv hl hc0 HN hn
   go_enter Tryz.func130,Tryz.ntmps130
   go_wp2
   go_ret
   exact ⟨by rw [HN2.out];rfl,balloc jR _⟩
 · have hz:l=[]:=List.length_eq_zero_iff.1 (by omega)
   subst hz;have HN:=jH (show nowI p []=p.mn from rfl);clear hv hl
   go_enter Tryz.func130,Tryz.ntmps130
   go_wp2
   go_ret
   exact ⟨by rw [HN.out];rfl,balloc jR _⟩
end
section
open Go.RowKit Go.Lib
theorem latF_i64 {l:List Smp} (h:smpI l):∀b,I64 b→I64 (latF l b):=by
 induction l with
 | nil=>exact fun b hb=>hb
 | cons x l ih =>
   intro b hb;have hx:=(h x (List.mem_cons_self ..)).1;exact ih (fun s hs=>h s (List.mem_cons_of_mem _ hs)) (max b x.1) (by unfold I64 at *;omega)
theorem latestI_ok {l:List Smp} (hne:l≠[]) (h:smpI l):I64 (latestI l):=by
 cases l with
 | nil=>exact absurd rfl hne
 | cons s l=>exact latF_i64 (fun x hx=>h x (List.mem_cons_of_mem _ hx)) s.1 (h s (List.mem_cons_self ..)).1
end
section
open Go.RowKit Go.Lib Go.Sort
open Go.ChangeMaps (setBlock)
section
variable {B:Nat→Prop} {S:Nat} {c:Cfg} {rs rh n:Nat} {wd:Wd} {d:StoD}
theorem upd_at {w w':World} {fp fp':List Nat} {X:Nat} (hu:Upd w w' fp fp') (hX:X∉fp) {o:Obj} (h:w.heap[X]?=some o):w'.heap[X]?=some o:=(hu.block X (jL h) hX).trans h
end
end
end Go.Proofs.YtkcdhaallnhhmaaGreat
