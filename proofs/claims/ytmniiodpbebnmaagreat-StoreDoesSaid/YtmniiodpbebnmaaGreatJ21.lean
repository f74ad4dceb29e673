/- Part 21 of the proof. -/
import Derived.Test.YtmniiodpbebnmaaGreatJ20
namespace Go.Proofs.YtmniiodpbebnmaaGreat
set_option linter.unusedSimpArgs false
set_option linter.unusedVariables false
set_option linter.unusedSectionVars false
set_option maxRecDepth 100000
set_option maxHeartbeats 16000000
section
open Go.RowKit Go.Lib
theorem eNm:i0N 196 2 1 8 (.int .i64 0) nmC :=
 ⟨by kernel_rfl,by kernel_rfl,rfl,by decide,by decide,fun _=>rfl,fun x u hu=>by
  simp only [nmC,List.mem_cons,List.not_mem_nil,or_false] at hu
  rcases hu with rfl
  rfl⟩
theorem r0V (a b:Int) (w:World) (ha:I64 a) (hb:I64 b) :
 Calls Tryz.prog 241 #[.int .i64 a,.int .i64 b] w fun e w'=>e=.returned (.int .i64 (d0R (a - b)))∧w=w':=by
 by_cases h:b = -9223372036854775808
 · subst h
   obtain ⟨s,hs⟩:∃s,s=d0R (a+9223372036854775807):=⟨_,rfl⟩;obtain ⟨t,ht⟩:∃t:Int,t=if decide (a<0)=true then 1 else 0:=⟨_,rfl⟩;have HE:=jH (show d0R (s+t)=d0R (a - -9223372036854775808) by rw [hs,ht];exact s1L ha _ rfl);have HT:=jH ht;have HS:=jH (show I64 s by rw [hs];exact l0F _);have HS2:=jH hs;have HA:=jH ha;have HTI:=jH (show I64 t by rw [ht];unfold I64;split <;> omega);clear hs ht ha hb
   go_enter Tryz.func241,Tryz.ntmps241
   go_wp2_with (first
    | (go_at_call 286
       refine (e1U _ _).mono ?_;rw [←HT.out];rintro e w1 ⟨rfl,rfl⟩;have HB:=jH True.intro)
    | (go_at_call 240
       have h9:=HB;refine (h0P s t _ HS.out HTI.out).mono ?_;rw [HE.out];rintro e w1 ⟨rfl,rfl⟩;clear h9)
    | (go_at_call 240
       refine (h0P a 9223372036854775807 _ HA.out (by unfold I64;omega)).mono ?_;rw [←HS2.out];rintro e w1 ⟨rfl,rfl⟩))
   go_ret
   exact ⟨rfl,rfl⟩
 · have HE:=jH (show d0R (a+IntKind.i64.wrap (-b))=d0R (a - b) from q1I ha hb h)
   have hn:I64 (-b):=by unfold I64 at *;omega
   have q1:wrap64 (-b) = -b:=by unfold I64 at hn;unfold wrap64;omega
   have q2:IntKind.i64.wrap (-b) = -b:=by unfold I64 at hn;rw [IntKind.wrap_i64];omega
   rw [q2] at HE;have HA:=jH ha;have HN:=jH hn;have q3:(b == -9223372036854775808)=false:=by simpa using h
   clear ha hb hn
   go_enter Tryz.func241,Tryz.ntmps241
   go_wp2_with (first
    | (go_at_call 240
       refine (h0P a (-b) _ HA.out HN.out).mono ?_;rw [HE.out];rintro e w1 ⟨rfl,rfl⟩))
   go_ret
   exact ⟨rfl,rfl⟩
theorem b1Q (a b:Int) (w:World) (ha:I64 a) (hb:I64 b) :
 Calls Tryz.prog 198 #[.int .i64 a,.int .i64 b] w fun e w'=>e=.returned (.int .i64 (i0X a b))∧w=w':=by
 have C1:=jH (r0V a b w ha hb);have C2:=jH (h0P (d0R (a - b)) 1 w (l0F _) (by unfold I64;omega));unfold i0X;generalize d0R (a - b)=s at C1 C2 ⊢;generalize d0R (s+1)=t at C2 ⊢;clear ha hb
 go_enter Tryz.func198,Tryz.ntmps198
 go_wp2_with (first
  | (go_at_call 241
     refine C1.out.mono ?_;rintro e w1 ⟨rfl,rfl⟩)
  | (go_at_call 240
     refine C2.out.mono ?_;rintro e w1 ⟨rfl,rfl⟩))
 go_ret
 exact ⟨rfl,rfl⟩
theorem e1K (v:Value) (l:List Int) (w:World) (hv:a0O 1 nmC w v l) (hl:l.length≤1000000) (hi:∀n∈l,I64 n) :
 Calls Tryz.prog 236 #[v] w fun e w'=>e=.returned (.int .i64 (p0S l 0))∧w=w':=by
 obtain ⟨A,c,rfl⟩:=hv.form;have HV:=jH hv;have HI:=jH hi;have hl9:l.length≤9223372036854775807:=by omega
 clear hv hi
 go_enter Tryz.func236,Tryz.ntmps236
 go_wp2
 go_loopg [3,8] l.length (fun g s3 s8 wr=>∃k:Nat,k≤l.length∧l.length - k≤g∧s8=.int .i64 k∧s3=.int .i64 (p0S (l.take k) 0)∧w=wr)
 case atStart=>exact ⟨0,Nat.zero_le _,Nat.le_refl _,rfl,by simp [p0S],rfl⟩
 case round =>
  obtain ⟨k,hk,hg,rfl,rfl,rfl⟩:=hrel
  by_cases hlt:k<l.length
  · obtain ⟨b1,o1,rfl,hb1,hc⟩:=HV.out.at_ hlt
    have z1:(0:Int)≤(k:Int):=by omega
    have z2:(k:Int)<(l.length:Int):=by omega
    have HS:=jH (show p0S (l.take (k+1)) 0=d0R (p0S (l.take k) 0+l[k]) by rw [List.take_succ_eq_append_getElem hlt,o0E]);have d0:=hc 0 _ rfl;rw [Nat.add_zero,Nat.mul_one] at d0;have HN:=jH (h0P (p0S (l.take k) 0) l[k] w (t0V _ _ f1I) (HI.out _ (List.getElem_mem hlt)));rw [←HS.out] at HN;generalize p0S (l.take k) 0=s at HN ⊢;generalize l[k]=x at HN d0;clear hc HS
    go_wp2_with (first
     | (go_at_call 240
        refine HN.out.mono ?_;rintro e w1 ⟨rfl,rfl⟩))
    go_roundg (l.length - (k+1))
    case measure=>omega
    case rel=>exact ⟨k+1,hlt,Nat.le_refl _,by go_num,rfl,rfl⟩
  · obtain rfl:k=l.length:=by omega
    rw [List.take_length];go_wp2
    go_ret
    exact ⟨rfl,rfl⟩
theorem g1Z (v:Value) (l:List Smp) (a b:Int) (w:World) (hv:a0O 2 b0X w v l) (hl:l.length≤1000000) :
 Calls Tryz.prog 197 #[v,.int .i64 a,.int .i64 b] w fun e w'=>∃A c,e=.returned (.slice A (j0G l a b).length c)∧b0Q b0X 111 2 w.heap.size w' (.slice A (j0G l a b).length c) (j0G l a b)∧jB w w':=by
 obtain ⟨A,c,rfl⟩:=hv.form;have HV:=jH hv;have HL:=jH hl;have hl9:l.length≤9223372036854775807:=by omega
 clear hv hl
 go_enter Tryz.func197,Tryz.ntmps197
 go_wp2
 go_loopg [7,12] l.length (fun g s7 s12 wr=>∃k:Nat,k≤l.length∧l.length - k≤g∧s12=.int .i64 k∧b0Q b0X 111 2 w.heap.size wr s7 (j0G (l.take k) a b)∧jB w wr)
 case atStart=>exact ⟨0,Nat.zero_le _,Nat.le_refl _,rfl,by simp [j0G];exact b0Q.nil _ _,jR⟩
 case round =>
  obtain ⟨k,hk,hg,rfl,hown,hb⟩:=hrel;rename World=>wr
  obtain ⟨pre,hpre⟩:∃pre,pre=j0G (l.take k) a b:=⟨_,rfl⟩;rw [←hpre] at hown;obtain ⟨A5,c5,rfl⟩:=hown.form;have HPL:=jH (show pre.length≤k by rw [hpre];exact Nat.le_trans (s0E _ _ _) (by simp;omega));have HPRE:=jH hpre;have HO:=jH hown;have HB:=jH hb;clear hpre hown hb
  by_cases hlt:k<l.length
  · obtain ⟨b1,o1,rfl,hb1,hc⟩:=(HV.out.below HB.out).at_ hlt
    have z1:(0:Int)≤(k:Int):=by omega
    have z2:(k:Int)<(l.length:Int):=by omega
    have HTK:=jH (show j0G (l.take (k+1)) a b=pre++if a≤l[k].1∧l[k].1≤b then [l[k]] else [] by rw [List.take_succ_eq_append_getElem hlt,w0P,HPRE.out]);generalize l[k]=x at hc HTK;have d0:=hc 0 _ rfl;have d1:=hc 1 _ rfl;rw [Nat.add_zero] at d0;have HK:=jH hlt;clear hc
    by_cases h1:a≤x.1
    · by_cases h2:x.1≤b
      · as_aux_lemma =>
        go_wp2_with (first
         | (at_builtin
            refine a0N d0J (by rfl) (by rfl) w.heap.size pre [x] (.slice A5 pre.length c5) _ (by rfl) (by rfl) ((HO.out.below (a0C (a0C jR _) _))) (a0O.lit _ x _ _ (wr.heap.size+1) (by simp) rfl) (by have:=HPL.out;have:=HL.out;have:=HK.out;simp;omega) (by have:=HB.out.size;simp;omega) ?_;intro out2 A9 c9 w13 hout2 hown2 hg2 _;have HO13:=jH hout2;have HW13:=jH hown2;have HB13:=jH (show jB w w13 from (a0C (a0C HB.out _) _).trans (a0Z hg2 HO.out (by have:=HB.out.size;simp;omega)))
            clear hout2 hown2 hg2))
        go_roundg (l.length - (k+1))
        case measure=>omega
        case rel=>exact ⟨k+1,HK.out,Nat.le_refl _,by go_num,by rw [HTK.out,if_pos ⟨h1,h2⟩,←HO13.out];exact HW13.out,HB13.out⟩
      · as_aux_lemma =>
        go_wp2_with fail
        go_roundg (l.length - (k+1))
        case measure=>omega
        case rel=>exact ⟨k+1,HK.out,Nat.le_refl _,by go_num,by rw [HTK.out,if_neg (by omega),List.append_nil];exact HO.out.below (a0C jR _),a0C HB.out _⟩
    · as_aux_lemma =>
      go_wp2_with fail
      go_roundg (l.length - (k+1))
      case measure=>omega
      case rel=>exact ⟨k+1,HK.out,Nat.le_refl _,by go_num,by rw [HTK.out,if_neg (by omega),List.append_nil];exact HO.out.below (a0C jR _),a0C HB.out _⟩
  · obtain rfl:k=l.length:=by omega
    have hp:=HPRE.out;rw [List.take_length] at hp;have HP:=jH hp;clear hp;go_wp2_with fail
    go_ret
    exact ⟨A5,c5,by rw [HP.out];rfl,by rw [←HP.out];exact HO.out,HB.out⟩
theorem x0Y (v:Value) (l:List Smp) (w:World) (hv:a0O 2 b0X w v l) (hl:l.length≤1000000) :
 Calls Tryz.prog 235 #[v] w fun e w'=>∃A c,e=.returned (.slice A (c0P l).length c)∧b0Q nmC 2 1 w.heap.size w' (.slice A (c0P l).length c) (c0P l)∧jB w w':=by
 obtain ⟨A,c,rfl⟩:=hv.form;have HV:=jH hv;have HL:=jH hl;have hl9:l.length≤9223372036854775807:=by omega
 clear hv hl
 go_enter Tryz.func235,Tryz.ntmps235
 go_wp2
 go_loopg [3,8] l.length (fun g s7 s12 wr=>∃k:Nat,k≤l.length∧l.length - k≤g∧s12=.int .i64 k∧b0Q nmC 2 1 w.heap.size wr s7 (c0P (l.take k))∧jB w wr)
 case atStart=>exact ⟨0,Nat.zero_le _,Nat.le_refl _,rfl,by simp [c0P];exact b0Q.nil _ _,jR⟩
 case round =>
  obtain ⟨k,hk,hg,rfl,hown,hb⟩:=hrel;rename World=>wr
  obtain ⟨pre,hpre⟩:∃pre,pre=c0P (l.take k):=⟨_,rfl⟩;rw [←hpre] at hown;obtain ⟨A5,c5,rfl⟩:=hown.form;have HPL:=jH (show pre.length≤k by rw [hpre,j0L];simp;omega);have HPRE:=jH hpre;have HO:=jH hown;have HB:=jH hb;clear hpre hown hb
  by_cases hlt:k<l.length
  · obtain ⟨b1,o1,rfl,hb1,hc⟩:=(HV.out.below HB.out).at_ hlt
    have z1:(0:Int)≤(k:Int):=by omega
    have z2:(k:Int)<(l.length:Int):=by omega
    have HTK:=jH (show c0P (l.take (k+1))=pre++[max l[k].2 0] by rw [List.take_succ_eq_append_getElem hlt,r0X,HPRE.out]);generalize l[k]=x at hc HTK;have d0:=hc 0 _ rfl;have d1:=hc 1 _ rfl;rw [Nat.add_zero] at d0;have HK:=jH hlt;clear hc
    go_wp2_with (first
     | (at_builtin
        refine a0N eNm (by rfl) (by rfl) w.heap.size pre [max x.2 0] (.slice A5 pre.length c5) _ (by rfl) (by rfl) ((HO.out.below (a0C (a0C jR _) _))) (a0O.lit _ (max x.2 0) _ _ (wr.heap.size+1) (by simp) (by simp [nmC])) (by have:=HPL.out;have:=HL.out;have:=HK.out;simp;omega) (by have:=HB.out.size;simp;omega) ?_;intro out2 A9 c9 w13 hout2 hown2 hg2 _;have HO13:=jH hout2;have HW13:=jH hown2
        have HB13:=jH (show jB w w13 from (a0C (a0C HB.out _) _).trans (a0Z hg2 HO.out (by have:=HB.out.size;simp;omega)));clear hout2 hown2 hg2))
    go_roundg (l.length - (k+1))
    case measure=>omega
    case rel=>exact ⟨k+1,HK.out,Nat.le_refl _,by go_num,by rw [HTK.out,←HO13.out];exact HW13.out,HB13.out⟩
  · obtain rfl:k=l.length:=by omega
    have hp:=HPRE.out;rw [List.take_length] at hp;have HP:=jH hp;clear hp;go_wp2_with fail
    go_ret
    exact ⟨A5,c5,by rw [HP.out];rfl,by rw [←HP.out];exact HO.out,HB.out⟩
theorem i1T (v:Value) (l:List Int) (w:World) (hv:a0O 1 nmC w v l) (hl:l.length≤1000000) (hne:l≠[]) :
 Calls Tryz.prog 237 #[v] w fun e w'=>e=.returned (.int .i64 (d1V l))∧w=w':=by
 obtain ⟨A,c,rfl⟩:=hv.form;have HV:=jH hv;have hl9:l.length≤9223372036854775807:=by omega
 have hp:0<l.length:=List.length_pos_iff.2 hne;have z0:¬(l.length:Int)<1:=by omega
 have z3:(0:Int)<(l.length:Int):=by omega
 obtain ⟨b1,o1,rfl,hb1,hc⟩:=HV.out.at_ hp;have d0:=hc 0 _ rfl;simp only [Nat.zero_mul,Nat.add_zero] at d0
 have HP:=jH hp;have HFST:=jH (show d1V (l.take 1)=l[0] by
  rw [List.take_one]
  cases l with
  | nil=>exact absurd rfl hne
  | cons a l=>rfl)
 generalize l[0]=x0 at d0 HFST;clear hv hc hne hp
 go_enter Tryz.func237,Tryz.ntmps237
 go_wp2
 go_loopg [3,4] l.length (fun g s3 s8 wr=>∃k:Nat,1≤k∧k≤l.length∧l.length - k≤g∧s8=.int .i64 k∧s3=.int .i64 (d1V (l.take k))∧w=wr)
 case atStart=>exact ⟨1,Nat.le_refl _,HP.out,by omega,rfl,by rw [HFST.out],rfl⟩
 case round =>
  obtain ⟨k,hk1,hk,hg,rfl,rfl,rfl⟩:=hrel
  by_cases hlt:k<l.length
  · obtain ⟨b2,o2,he,hb2,hc⟩:=HV.out.at_ hlt
    injection he with he
    injection he with e1 e2
    subst e1 e2;have z1:(0:Int)≤(k:Int):=by omega
    have z2:(k:Int)<(l.length:Int):=by omega
    have HS:=jH (show d1V (l.take (k+1))=min (d1V (l.take k)) l[k] by rw [List.take_succ_eq_append_getElem hlt,i1V (by intro q;have:=congrArg List.length q;rw [List.length_take,List.length_nil] at this;omega)]);have d2:=hc 0 _ rfl;rw [Nat.add_zero,Nat.mul_one] at d2;generalize d1V (l.take k)=s at HS ⊢;generalize l[k]=x at HS d2;clear hc d0;go_wp2
    go_roundg (l.length - (k+1))
    case measure=>omega
    case rel=>exact ⟨k+1,by omega,hlt,Nat.le_refl _,by go_num,by rw [HS.out],rfl⟩
  · obtain rfl:k=l.length:=by omega
    rw [List.take_length];go_wp2
    go_ret
    exact ⟨rfl,rfl⟩
theorem i1R (v:Value) (l:List Int) (w:World) (hv:a0O 1 nmC w v l) (hl:l.length≤1000000) (hne:l≠[]) :
 Calls Tryz.prog 238 #[v] w fun e w'=>e=.returned (.int .i64 (e1W l))∧w=w':=by
 obtain ⟨A,c,rfl⟩:=hv.form;have HV:=jH hv;have hl9:l.length≤9223372036854775807:=by omega
 have hp:0<l.length:=List.length_pos_iff.2 hne;have z0:¬(l.length:Int)<1:=by omega
 have z3:(0:Int)<(l.length:Int):=by omega
 obtain ⟨b1,o1,rfl,hb1,hc⟩:=HV.out.at_ hp;have d0:=hc 0 _ rfl;simp only [Nat.zero_mul,Nat.add_zero] at d0
 have HP:=jH hp;have HFST:=jH (show e1W (l.take 1)=l[0] by
  rw [List.take_one]
  cases l with
  | nil=>exact absurd rfl hne
  | cons a l=>rfl)
 generalize l[0]=x0 at d0 HFST;clear hv hc hne hp
 go_enter Tryz.func238,Tryz.ntmps238
 go_wp2
 go_loopg [3,4] l.length (fun g s3 s8 wr=>∃k:Nat,1≤k∧k≤l.length∧l.length - k≤g∧s8=.int .i64 k∧s3=.int .i64 (e1W (l.take k))∧w=wr)
 case atStart=>exact ⟨1,Nat.le_refl _,HP.out,by omega,rfl,by rw [HFST.out],rfl⟩
 case round =>
  obtain ⟨k,hk1,hk,hg,rfl,rfl,rfl⟩:=hrel
  by_cases hlt:k<l.length
  · obtain ⟨b2,o2,he,hb2,hc⟩:=HV.out.at_ hlt
    injection he with he
    injection he with e1 e2
    subst e1 e2;have z1:(0:Int)≤(k:Int):=by omega
    have z2:(k:Int)<(l.length:Int):=by omega
    have HS:=jH (show e1W (l.take (k+1))=max (e1W (l.take k)) l[k] by rw [List.take_succ_eq_append_getElem hlt,l1K (by intro q;have:=congrArg List.length q;rw [List.length_take,List.length_nil] at this;omega)]);have d2:=hc 0 _ rfl;rw [Nat.add_zero,Nat.mul_one] at d2;generalize e1W (l.take k)=s at HS ⊢;generalize l[k]=x at HS d2;clear hc d0;go_wp2
    go_roundg (l.length - (k+1))
    case measure=>omega
    case rel=>exact ⟨k+1,by omega,hlt,Nat.le_refl _,by go_num,by rw [HS.out],rfl⟩
  · obtain rfl:k=l.length:=by omega
    rw [List.take_length];go_wp2
    go_ret
    exact ⟨rfl,rfl⟩
theorem d0H {w wr w':World} {B:Nat} {cs:Array Value} {T:TypeId} (h:wr.heap[B]?=some (.cells cs T (0,0))) (hb:jB wr w'):w'.heap[B]?=some (.cells cs T (0,0)) :=
 jK hb h
theorem s0K (v:Value) (l:List Int) (w:World) (hv:a0O 1 nmC w v l) (hl:l.length≤1000000) (hi:∀n∈l,0≤n∧n≤9223372036854775807) :
 Calls Tryz.prog 284 #[v] w (jP w (l0Y (g0U l))):=by
 obtain ⟨A,c,rfl⟩:=hv.form;have HV:=jH hv;have HI:=jH hi;have HL:=jH hl;have hl9:l.length≤9223372036854775807:=by omega
 clear hv hi hl
 go_enter Tryz.func284,Tryz.ntmps284
 go_wp2
 go_loopg [8] l.length (fun g s8 wr=>∃(k a b:Nat),k≤l.length∧l.length - k≤g∧s8=.int .i64 k∧Hid (a=g0U (l.take k) / 18446744073709551616∧b=g0U (l.take k) % 18446744073709551616)∧jB w wr∧wr.heap[w.heap.size]?=some (.cells #[.int .u64 0,.int .u64 0] 272 (0,0))∧wr.heap[w.heap.size+1]?=some (.cells #[.int .u64 a,.int .u64 b] 272 (0,0)))
 case atStart=>exact ⟨0,0,0,Nat.zero_le _,Nat.le_refl _,rfl,jH (by simp [g0U]),a0C (a0C jR _) _,c0J _ _ _,b0R _ _ _⟩
 case round =>
  obtain ⟨k,a,b,hk,hg,rfl,HAB,hb,hz,hq⟩:=hrel;rename World=>wr
  have HB:=jH hb;have HZ:=jH hz;have HQ:=jH hq;obtain ⟨a1,a2,a3⟩:=a0A jR hz;obtain ⟨c1,c2,c3⟩:=a0A jR hq;clear hb hz hq
  by_cases hlt:k<l.length
  · obtain ⟨b1,o1,rfl,hb1,hc⟩:=(HV.out.below HB.out).at_ hlt
    have z1:(0:Int)≤(k:Int):=by omega
    have z2:(k:Int)<(l.length:Int):=by omega
    have HTK:=jH (show g0U (l.take (k+1))=g0U (l.take k)+l[k].toNat by rw [List.take_succ_eq_append_getElem hlt,w0M]);have hx:=HI.out _ (List.getElem_mem hlt);have HTL:=jH (show g0U (l.take k)≤1000000 * 9223372036854775807 from Nat.le_trans (o0F (fun n hn=>(HI.out n (List.mem_of_mem_take hn)).2)) (Nat.mul_le_mul_right _ (by rw [List.length_take];have:=HL.out;omega)));generalize l[k]=x at hc HTK hx
    have d0:=hc 0 _ rfl;rw [Nat.add_zero,Nat.mul_one] at d0;have HK:=jH hlt;clear hc
    by_cases h0:0<x
    · obtain ⟨y,rfl⟩:∃y:Nat,x=y:=⟨x.toNat,by omega⟩
      have hy:y≤9223372036854775807:=by omega
      have q1:IntKind.u64.wrap (y:Int)=(y:Int):=c0E y (by omega);obtain ⟨a',ha'⟩:∃a',a'=g0U (l.take (k+1)) / 18446744073709551616:=⟨_,rfl⟩;obtain ⟨b',hb'⟩:∃b',b'=g0U (l.take (k+1)) % 18446744073709551616:=⟨_,rfl⟩;have HAB2:=jH (And.intro ha' hb');have CA:=jH (fun W=>show Calls Tryz.prog 242 #[.agg #[.int .u64 a,.int .u64 b],.agg #[.int .u64 0,.int .u64 y]] W (jP W (.tuple #[.agg #[.int .u64 a',.int .u64 b'],.bool true])) from by
       have h:=k0E (g0U (l.take k)) y (by have:=HTL.out;omega) W;have e1:y / 18446744073709551616=0:=Nat.div_eq_of_lt (by omega);have e2:y % 18446744073709551616=y:=Nat.mod_eq_of_lt (by omega);have e3:g0U (l.take k)+y=g0U (l.take (k+1)):=by rw [HTK.out];simp
       unfold l0Y at h;rw [e3,e1,e2,←HAB.out.1,←HAB.out.2,←ha',←hb'] at h;exact h)
      have h0':(0:Int)<(y:Int):=h0;clear ha' hb' hx hy h0
      as_aux_lemma =>
      go_wp2_with (first
       | (go_at_call 242
          refine (CA.out wr).mono ?_;rintro e w3 ⟨rfl,hb3⟩;have HZ3:=jH (d0H (w:=w) HZ.out hb3);have HQ3:=jH (d0H (w:=w) HQ.out hb3);obtain ⟨e1,e2,e3⟩:=a0A jR HQ3.out;have HB3:=jH (a0D HB.out hb3);clear hb3))
      go_roundg (l.length - (k+1))
      case measure=>omega
      case rel=>exact ⟨k+1,a',b',HK.out,Nat.le_refl _,by go_num,HAB2,(HB3.out.setCell (by simp) _).setCell (by simp) _,a0U (a0U HZ3.out (by omega)) (by omega),a0E (a0E HQ3.out)⟩
    · obtain rfl:x=0:=by omega
      have e3:g0U (l.take (k+1))=g0U (l.take k):=by rw [HTK.out];simp
      have HAB2:=jH (show a=g0U (l.take (k+1)) / 18446744073709551616∧b=g0U (l.take (k+1)) % 18446744073709551616 by rw [e3];exact HAB.out);clear e3 hx h0
      as_aux_lemma =>
      go_wp2_with fail
      go_roundg (l.length - (k+1))
      case measure=>omega
      case rel=>exact ⟨k+1,a,b,HK.out,Nat.le_refl _,by go_num,HAB2,HB.out,HZ.out,HQ.out⟩
  · obtain rfl:k=l.length:=by omega
    rw [List.take_length] at HAB;go_wp2_with fail
    have hz2:=a0E (i:=1) (v:=.int .u64 b) (a0E (i:=0) (v:=.int .u64 a) HZ.out);obtain ⟨f1,f2,f3⟩:=a0A jR hz2;refine bodyPost_ret (v:=.agg #[.int .u64 a,.int .u64 b]) (by simp [results,Tryz.results284,go_sem,f1]) rfl ⟨?_,(HB.out.setCell (Nat.le_refl _) _).setCell (Nat.le_refl _) _⟩;unfold l0Y;rw [HAB.out.1,HAB.out.2]
theorem o1O (t d:Nat) (hd:0<d):(t+(d - 1)) / d=if 0<t % d then t / d+1 else t / d:=by
 have h:=Nat.div_add_mod t d;have hm:=Nat.mod_lt t hd;generalize t / d=q at *;generalize t % d=r at *;subst h
 split
 · rw [Nat.add_assoc,Nat.mul_add_div hd]
   have:(r+(d - 1)) / d=1:=by
    rw [Nat.div_eq_iff hd];omega
   omega
 · rw [Nat.add_assoc,Nat.mul_add_div hd,Nat.div_eq_of_lt (by omega)]
   rfl
theorem w0V (v:Value) (l:List Int) (w:World) (hv:a0O 1 nmC w v l) (hl:l.length≤1000000) (hi:∀n∈l,0≤n∧n≤9223372036854775807) :
 Calls Tryz.prog 239 #[v] w (jP w (.int .i64 (f0P l:Nat))):=by
 obtain ⟨A,c,rfl⟩:=hv.form;have hl9:l.length≤9223372036854775807:=by omega
 by_cases hne:l=[]
 · have q1:(l.length:Int)=0:=by rw [hne];rfl
   have HM:=jH (show f0P l=0 by rw [hne];rfl);have q2:((l.length:Int) == 0)=true:=by simp [hne]
   clear hv hi hne
   go_enter Tryz.func239,Tryz.ntmps239
   go_wp2_with fail
   go_ret
   exact ⟨by rw [HM.out];rfl,jR⟩
 · have hp:0<l.length:=List.length_pos_iff.2 hne
   have CT:=jH (s0K _ l w hv hl hi);have htl:=o0F (fun n hn=>(hi n hn).2);have hml:=n0V (fun n hn=>(hi n hn).2);have hmn:f0P l=if 0<g0U l % l.length then g0U l / l.length+1 else g0U l / l.length:=by
    unfold f0P;rw [if_neg hne,o1O _ _ hp]
   have q0:¬(l.length:Int)=0:=by omega
   have q1:((l.length:Int) == 0)=false:=by simpa using hne
   have q2:IntKind.u64.wrap (l.length:Int)=(l.length:Int):=c0E _ (by omega);have htl2:g0U l≤1000000 * 9223372036854775807:=Nat.le_trans htl (Nat.mul_le_mul_right _ hl);generalize g0U l=t at CT hmn htl2;generalize hm:f0P l=m at hml hmn ⊢;obtain ⟨qa,hqa⟩:∃qa,qa=t / l.length / 18446744073709551616:=⟨_,rfl⟩;obtain ⟨qb,hqb⟩:∃qb,qb=t / l.length % 18446744073709551616:=⟨_,rfl⟩;obtain ⟨r,hr⟩:∃r,r=t % l.length:=⟨_,rfl⟩
   obtain ⟨n,hn⟩:∃n,n=l.length:=⟨_,rfl⟩;have hqle:t / l.length≤t:=Nat.div_le_self _ _;have CD:=jH (fun W=>show Calls Tryz.prog 283 #[l0Y t,.int .u64 l.length] W (jP W (.tuple #[.agg #[.int .u64 qa,.int .u64 qb],.int .u64 r,.bool true])) from by
    have h:=a1I t l.length (by omega) hp (by omega) W;unfold l0Y at h ⊢;rw [←hqa,←hqb,←hr] at h;exact h)
   by_cases hr0:0<r
   · rw [←hr,if_pos hr0] at hmn
     have CA:=jH (fun W=>show Calls Tryz.prog 242 #[.agg #[.int .u64 qa,.int .u64 qb],.agg #[.int .u64 0,.int .u64 1]] W (jP W (.tuple #[.agg #[.int .u64 0,.int .u64 m],.bool true])) from by
      have h:=k0E (t / l.length) 1 (by omega) W;unfold l0Y at h;rw [←hqa,←hqb,←hmn,show m / 18446744073709551616=0 from Nat.div_eq_of_lt (by omega),show m % 18446744073709551616=m from Nat.mod_eq_of_lt (by omega)] at h;exact h)
     have CS:=jH (fun W=>show Calls Tryz.prog 285 #[.agg #[.int .u64 0,.int .u64 m]] W (jP W (.int .i64 m)) from by
      have h:=l0K m hml W;unfold l0Y at h;rw [show m / 18446744073709551616=0 from Nat.div_eq_of_lt (by omega),show m % 18446744073709551616=m from Nat.mod_eq_of_lt (by omega)] at h;exact h)
     have q5:(0:Int)<(r:Int):=by omega
     clear hv hi hne hp htl hml hmn htl2 hqa hqb hr hn hqle hr0 hm n
     go_enter Tryz.func239,Tryz.ntmps239
     go_wp2_with (first
      | (go_at_call 284
         refine CT.out.mono ?_;rintro e w1 ⟨rfl,hb1⟩;have HB1:=jH hb1;clear hb1)
      | (go_at_call 283
         refine (CD.out w1).mono ?_;rintro e w2 ⟨rfl,hb2⟩;have HB2:=jH (a0D HB1.out hb2);clear hb2)
      | (go_at_call 242
         refine a0B ?_;intro W3 hW3;have hb3:jB w2 W3:=by rw [hW3];exact a0C jR _
         have hx3:W3.heap[w2.heap.size]?=some (.cells #[.int .u64 qa,.int .u64 qb] 272 (0,0)):=by rw [hW3];exact heap_alloc_new _ _
         clear hW3;refine (CA.out W3).mono ?_;rintro e w4 ⟨rfl,hb4⟩;have HX4:=jH (d0H (w:=w) hx3 hb4);obtain ⟨e1,e2,e3⟩:=a0A jR HX4.out;have HB4:=jH (a0D HB2.out (a0D hb3 hb4));have HS4:=jH (show w.heap.size≤w2.heap.size from HB2.out.size);clear hb3 hx3 hb4)
      | (go_at_call 285
         refine (CS.out _).mono ?_;rintro e w5 ⟨rfl,hb5⟩;have HB5:=jH (a0D ((HB4.out.setCell HS4.out _).setCell HS4.out _) hb5);clear hb5))
     go_ret
     exact ⟨rfl,HB5.out⟩
   · rw [←hr,if_neg hr0] at hmn
     have CS:=jH (fun W=>show Calls Tryz.prog 285 #[.agg #[.int .u64 qa,.int .u64 qb]] W (jP W (.int .i64 m)) from by
      have h:=l0K m hml W;unfold l0Y at h;rw [hmn,←hqa,←hqb] at h;rw [hmn];exact h)
     obtain rfl:r=0:=by omega
     clear hv hi hne hp htl hml hmn htl2 hqa hqb hr hn hqle hr0 hm n
     go_enter Tryz.func239,Tryz.ntmps239
     go_wp2_with (first
      | (go_at_call 284
         refine CT.out.mono ?_;rintro e w1 ⟨rfl,hb1⟩;have HB1:=jH hb1;clear hb1)
      | (go_at_call 283
         refine (CD.out w1).mono ?_;rintro e w2 ⟨rfl,hb2⟩;have HB2:=jH (a0D HB1.out hb2);clear hb2)
      | (go_at_call 285
         refine (CS.out _).mono ?_;rintro e w5 ⟨rfl,hb5⟩;have HB5:=jH (a0D (a0C HB2.out _) hb5);clear hb5))
     go_ret
     exact ⟨rfl,HB5.out⟩
theorem j1Z (v:Value) (l:List Smp) (w:World) (hv:a0O 2 b0X w v l) (hl:l.length≤1000000) (hi:r0Y l) :
 Calls Tryz.prog 196 #[v] w (jP w (stV (q0F (c0P l)))):=by
 have CV:=jH (fun W (hW:jB w W)=>x0Y v l W (hv.below hW) hl);have hvi:=j0K hi;have hvl:(c0P l).length≤1000000:=by rw [j0L];exact hl
 have HLL:=jH hvl;have HVI:=jH hvi;have hl9:(c0P l).length≤9223372036854775807:=by omega
 clear hv hi hl hvi hvl;generalize c0P l=n at *
 by_cases hne:n=[]
 · subst hne
   have HST:=jH (show q0F []=st0 from rfl);have q2:(((([]:List Int).length:Nat):Int) == 0)=true:=rfl;clear hl9
   go_enter Tryz.func196,Tryz.ntmps196
   go_wp2_with (first
    | (go_at_call 235
       refine a0B ?_;intro W1 hW1;have hb1:jB w W1:=by rw [hW1];exact a0C jR _
       have hx1:W1.heap[w.heap.size]?=some (.cells #[.int .i64 0,.int .i64 0,.int .i64 0,.int .i64 0,.int .i64 0] 42 (0,0)):=by rw [hW1];exact heap_alloc_new _ _
       clear hW1;refine (CV.out W1 hb1).mono ?_;rintro e w2 ⟨A,c,rfl,ho,hb2⟩;have HX2:=jH (d0H (w:=w) hx1 hb2);obtain ⟨e1,e2,e3⟩:=a0A jR HX2.out;have HB2:=jH (a0D hb1 hb2);clear hb1 hx1 ho hb2))
   have hz2:=a0E (i:=4) (v:=.int .i64 0) (a0E (i:=3) (v:=.int .i64 0) (a0E (i:=2) (v:=.int .i64 0) (a0E (i:=1) (v:=.int .i64 0) (a0E (i:=0) (v:=.int .i64 0) HX2.out))));obtain ⟨f1,f2,f3⟩:=a0A jR hz2;refine bodyPost_ret (v:=.agg #[.int .i64 0,.int .i64 0,.int .i64 0,.int .i64 0,.int .i64 0]) (by simp [results,Tryz.results196,go_sem,f1]) rfl ⟨by rw [HST.out];rfl,((((HB2.out.setCell (Nat.le_refl _) _).setCell (Nat.le_refl _) _).setCell (Nat.le_refl _) _).setCell (Nat.le_refl _) _).setCell (Nat.le_refl _) _⟩
 · have hp:0<n.length:=List.length_pos_iff.2 hne
   have HST:=jH (show q0F n=⟨n.length,p0S n 0,d1V n,e1W n,f0P n⟩ by unfold q0F;rw [if_neg hne]);have q0:¬(n.length:Int)=0:=by omega
   have q1:((n.length:Int) == 0)=false:=by simpa using hne
   have CS:=jH (fun v W (h:a0O 1 nmC W v n)=>e1K v n W h HLL.out (fun m hm=>by have:=HVI.out m hm;unfold I64;omega));have CMi:=jH (fun v W (h:a0O 1 nmC W v n)=>i1T v n W h HLL.out hne);have CMa:=jH (fun v W (h:a0O 1 nmC W v n)=>i1R v n W h HLL.out hne);have CMe:=jH (fun v W (h:a0O 1 nmC W v n)=>w0V v n W h HLL.out HVI.out);generalize p0S n 0=s1 at CS HST;generalize d1V n=s2 at CMi HST
   generalize e1W n=s3 at CMa HST;generalize f0P n=s4 at CMe HST;clear hne hp
   go_enter Tryz.func196,Tryz.ntmps196
   go_wp2_with (first
    | (go_at_call 235
       refine a0B ?_;intro W1 hW1;have hb1:jB w W1:=by rw [hW1];exact a0C jR _
       have hx1:W1.heap[w.heap.size]?=some (.cells #[.int .i64 0,.int .i64 0,.int .i64 0,.int .i64 0,.int .i64 0] 42 (0,0)):=by rw [hW1];exact heap_alloc_new _ _
       clear hW1;refine (CV.out W1 hb1).mono ?_;rintro e w2 ⟨A,c,rfl,ho,hb2⟩;have HX2:=jH (d0H (w:=w) hx1 hb2);obtain ⟨e1,e2,e3⟩:=a0A jR HX2.out;have HB2:=jH (a0D hb1 hb2);have HR2:=jH (ho.row eNm);clear hb1 hx1 ho hb2)
    | (go_at_call 236
       refine (CS.out _ w2 HR2.out).mono ?_;rintro e w3 ⟨rfl,rfl⟩)
    | (go_at_call 237
       refine (CMi.out _ w2 HR2.out).mono ?_;rintro e w3 ⟨rfl,rfl⟩)
    | (go_at_call 238
       refine (CMa.out _ w2 HR2.out).mono ?_;rintro e w3 ⟨rfl,rfl⟩)
    | (go_at_call 239
       refine (CMe.out _ w2 HR2.out).mono ?_;rintro e w3 ⟨rfl,hb3⟩;have HX3:=jH (d0H (w:=w) HX2.out hb3);obtain ⟨g1,g2,g3⟩:=a0A jR HX3.out;have HB3:=jH (a0D HB2.out hb3);clear hb3))
   have hz2:=a0E (i:=4) (v:=.int .i64 s4) (a0E (i:=3) (v:=.int .i64 s3) (a0E (i:=2) (v:=.int .i64 s2) (a0E (i:=1) (v:=.int .i64 s1) (a0E (i:=0) (v:=.int .i64 n.length) HX3.out))));obtain ⟨f1,f2,f3⟩:=a0A jR hz2;refine bodyPost_ret (v:=.agg #[.int .i64 n.length,.int .i64 s1,.int .i64 s2,.int .i64 s3,.int .i64 s4]) (by simp [results,Tryz.results196,go_sem,f1]) rfl ⟨by rw [HST.out];rfl,((((HB3.out.setCell (Nat.le_refl _) _).setCell (Nat.le_refl _) _).setCell (Nat.le_refl _) _).setCell (Nat.le_refl _) _).setCell (Nat.le_refl _) _⟩
theorem u0X (v:Value) (l:List Smp) (til wd:Int) (w:World) (hv:a0O 2 b0X w v l) (hl:l.length≤1000000) (hi:r0Y l) (ht:I64 til) (hw:I64 wd) :
 Calls Tryz.prog 134 #[v,.int .i64 til,.int .i64 wd] w (jP w (stV (i0P l til wd))):=by
 have CF:=jH (fun W=>b1Q til wd W ht hw);have CC:=jH (fun W (hW:jB w W)=>g1Z v l (i0X til wd) til W (hv.below hW) hl);have COf:=jH (fun v W (h:a0O 2 b0X W v (j0G l (i0X til wd) til))=>j1Z v _ W h (Nat.le_trans (s0E _ _ _) hl) (hi.cut _ _));unfold i0P;generalize j0G l (i0X til wd) til=m at CC COf ⊢;generalize i0X til wd=f at CF CC;generalize q0F (c0P m)=s at COf ⊢
 obtain ⟨s0,s1,s2,s3,s4⟩:=s;unfold stV at COf ⊢;simp only at COf ⊢
 clear hv hl hi ht hw
 go_enter Tryz.func134,Tryz.ntmps134
 go_wp2_with (first
  | (go_at_call 198
     refine a0B ?_;intro W1 hW1;have HB1:=jH (show jB w W1 by rw [hW1];exact a0C jR _);have HX1:=jH (show W1.heap[w.heap.size]?=some (.cells #[.int .i64 0,.int .i64 0,.int .i64 0,.int .i64 0,.int .i64 0] 42 (0,0)) by rw [hW1];exact heap_alloc_new _ _);clear hW1;refine (CF.out W1).mono ?_;rintro e w2 ⟨rfl,rfl⟩)
  | (go_at_call 197
     refine (CC.out W1 HB1.out).mono ?_;rintro e w2 ⟨A,c,rfl,ho,hb2⟩;have HX2:=jH (d0H (w:=w) HX1.out hb2);have HB2:=jH (a0D HB1.out hb2);have HR2:=jH (ho.row d0J);clear ho hb2)
  | (go_at_call 196
     refine (COf.out _ w2 HR2.out).mono ?_;rintro e w3 ⟨rfl,hb3⟩;have HX3:=jH (d0H (w:=w) HX2.out hb3);obtain ⟨g1,g2,g3⟩:=a0A jR HX3.out;have HB3:=jH (a0D HB2.out hb3);clear hb3))
 have hz2:=a0E (i:=4) (v:=.int .i64 s4) (a0E (i:=3) (v:=.int .i64 s3) (a0E (i:=2) (v:=.int .i64 s2) (a0E (i:=1) (v:=.int .i64 s1) (a0E (i:=0) (v:=.int .i64 s0) HX3.out))));obtain ⟨f1,f2,f3⟩:=a0A jR hz2;exact bodyPost_ret (v:=.agg #[.int .i64 s0,.int .i64 s1,.int .i64 s2,.int .i64 s3,.int .i64 s4]) (by simp [results,Tryz.results134,go_sem,f1]) rfl ⟨rfl,((((HB3.out.setCell (Nat.le_refl _) _).setCell (Nat.le_refl _) _).setCell (Nat.le_refl _) _).setCell (Nat.le_refl _) _).setCell (Nat.le_refl _) _⟩
theorem j0M {a b:Int} (ha:0≤a):a.tdiv b=a / b:=Int.tdiv_eq_ediv_of_nonneg ha
theorem s1R {a b:Int} (hb:1≤b) (h:0<a.tmod b):a.tdiv b+1=i0H a b:=by
 have ha:0<a:=by
  by_cases h0:0<a
  · exact h0
  · exfalso
    have h1:=Int.mul_tdiv_add_tmod a b;have:a.tmod b≤0:=by
     rw [←Int.neg_neg a,Int.neg_tmod];have:=Int.tmod_nonneg b (show 0≤-a by omega);omega
    omega
 unfold i0H;rw [if_neg (by omega),if_neg (by omega),j0M (by omega),j0M (by omega)];rw [Int.tmod_eq_emod_of_nonneg (by omega)] at h;have h1:=Int.mul_ediv_add_emod a b;have h2:=Int.emod_lt_of_pos a (show 0<b by omega);have e:a - 1=(a % b - 1)+b * (a / b):=by omega
 have h3:(a % b - 1) / b=0:=Int.ediv_eq_zero_of_lt (by omega) (by omega);have h4:(a - 1) / b=a / b:=by
  rw [e,Int.add_mul_ediv_left _ _ (by omega),h3];omega
 omega
theorem s1Z {a b:Int} (hb:1≤b) (h:¬0<a.tmod b):a.tdiv b=i0H a b:=by
 unfold i0H;rw [if_neg (by omega)]
 by_cases h0:a≤0
 · rw [if_pos h0]
 · rw [if_neg h0,j0M (by omega),j0M (by omega)]
   rw [Int.tmod_eq_emod_of_nonneg (by omega)] at h;have h1:=Int.mul_ediv_add_emod a b;have h2:=Int.emod_nonneg a (show b≠0 by omega);have e:a - 1=(b - 1)+b * (a / b - 1):=by rw [Int.mul_sub];omega
   have h3:(b - 1) / b=0:=Int.ediv_eq_zero_of_lt (by omega) (by omega);rw [e,Int.add_mul_ediv_left _ _ (by omega),h3];omega
theorem z0B (a b:Int) (w:World) (ha:I64 a) (hb:I64 b) :
 Calls Tryz.prog 199 #[.int .i64 a,.int .i64 b] w fun e w'=>e=.returned (.int .i64 (i0H a b))∧w'=w:=by
 by_cases h1:b<1
 · have HC:=jH (show i0H a b=0 by unfold i0H;rw [if_pos h1])
   clear ha hb
   go_enter Tryz.func199,Tryz.ntmps199
   go_wp2
   go_ret
   exact ⟨by rw [HC.out];rfl,rfl⟩
 · have HI:=b1R (b:=b) ha
   have q0:(b == 0)=false:=by simp;omega
   have q1:¬b=0:=by omega
   have HHI:=jH (fun h:0<a.tmod b=>s1R (a:=a) (b:=b) (by omega) h);have HLO:=jH (fun h:¬0<a.tmod b=>s1Z (a:=a) (b:=b) (by omega) h);have HII:=jH HI;clear HI ha hb
   go_enter Tryz.func199,Tryz.ntmps199
   go_wp2
   · rename_i h5
     have h6:=HHI.out h5;have h7:=HII.out;rw [←h6] at h7;go_ret
     refine ⟨c0G ?_,rfl⟩;rw [←h6];generalize a.tdiv b=q at h7;unfold wrap64;unfold I64 at h7;omega
   · rename_i h5
     have h6:=HLO.out (by omega);have h7:=HII.out;rw [←h6] at h7;go_ret
     refine ⟨c0G ?_,rfl⟩;rw [←h6];generalize a.tdiv b=q at h7;unfold wrap64;unfold I64 at h7;omega
end
section
open Go.RowKit Go.Lib Go.Sort
def q1Y (l:List En) (nd:En→Nd) (til wd:Int) (k:Ky):StD:=match d0L l k with|none=>st0|some n=>i0P (nd (k,n)).smp til wd
def SmpOk (l:List En) (nd:En→Nd):Prop:=∀x∈l,r0Y (nd x).smp
theorem z0I (C:Nat) (ep:Int) (l:List En) (nd:En→Nd) (rs rh:Nat) (k:Ky) (til wd:Int) (w:World) (h:z0E w C ep l) (hr:Ris l) (hl:l.length≤1000) (hn:m1G w l nd rs rh) (hs:SmpOk l nd) (hrs:rs≤256) (ht:I64 til) (hw:I64 wd) :
 Calls Tryz.prog 155 #[.pointer (some ⟨C,0,none⟩),.agg #[.int .u64 k.1,.int .u64 k.2],.int .i64 til,.int .i64 wd] w (jP w (.tuple #[stV (q1Y l nd til wd k),.bool (d0L l k).isSome])):=by
 have CG:=jH (fun W (hW:jB w W)=>e1X C ep l k W (h.below hW) hr hl);unfold q1Y
 cases hf:d0L l k with
 | none =>
   have e0:ptr (none:Option Nat)=.pointer none:=rfl;rw [hf,e0] at CG;simp only [Option.isSome_none] at CG ⊢
   clear h hr hl hn hs hf e0
   go_enter Tryz.func155,Tryz.ntmps155
   go_wp2_with (first
    | (go_at_call 100
       refine a0B ?_;intro W1 hW1;have hb1:jB w W1:=by rw [hW1];exact a0C (a0C jR _) _
       have hx1:W1.heap[w.heap.size+1]?=some (.cells #[.int .i64 0,.int .i64 0,.int .i64 0,.int .i64 0,.int .i64 0] 42 (0,0)):=by rw [hW1];exact b0R _ _ _
       clear hW1;refine (CG.out W1 hb1).mono ?_;rintro e w2 ⟨rfl,hb2⟩;have HX2:=jH (d0H (w:=w) hx1 hb2);obtain ⟨e1,e2,e3⟩:=a0A jR HX2.out;have HB2:=jH (a0D hb1 hb2);clear hb1 hx1 hb2))
   have hz2:=a0E (i:=4) (v:=.int .i64 0) (a0E (i:=3) (v:=.int .i64 0) (a0E (i:=2) (v:=.int .i64 0) (a0E (i:=1) (v:=.int .i64 0) (a0E (i:=0) (v:=.int .i64 0) HX2.out))));obtain ⟨f1,f2,f3⟩:=a0A jR hz2;refine bodyPost_ret (v:=.tuple #[.agg #[.int .i64 0,.int .i64 0,.int .i64 0,.int .i64 0,.int .i64 0],.bool false]) (by simp [results,Tryz.results155,go_sem,f1]) rfl ⟨rfl,?_⟩
   exact ((((HB2.out.setCell (by simp) _).setCell (by simp) _).setCell (by simp) _).setCell (by simp) _).setCell (by simp) _
 | some n =>
   have e0:ptr (some n)=.pointer (some ⟨n,0,none⟩):=rfl;rw [hf,e0] at CG;simp only [Option.isSome_some] at CG ⊢
   have hm:=u0I hf;obtain ⟨fp,hnd⟩:=hn _ hm;have hsm:=hs _ hm;have CSm:=jH (fun W (hW:jB w W)=>g0N n (nd (k,n)) rs rh fp W (hnd.below hW) hrs);have hlen:(nd (k,n)).smp.length≤1000000:=by have:=hnd.ok.len;omega
   generalize (nd (k,n)).smp=sm at hsm CSm hlen ⊢;have CAt:=jH (fun v W (hv:a0O 2 b0X W v sm)=>u0X v sm til wd W hv hlen hsm ht hw);generalize i0P sm til wd=s at CAt ⊢;obtain ⟨s0,s1,s2,s3,s4⟩:=s;unfold stV at CAt ⊢;simp only at CAt ⊢
   clear h hr hl hn hs hf e0 hm hnd hsm hlen
   go_enter Tryz.func155,Tryz.ntmps155
   go_wp2_with (first
    | (go_at_call 100
       refine a0B ?_;intro W1 hW1;have hb1:jB w W1:=by rw [hW1];exact a0C (a0C jR _) _
       have hx1:W1.heap[w.heap.size+1]?=some (.cells #[.int .i64 0,.int .i64 0,.int .i64 0,.int .i64 0,.int .i64 0] 42 (0,0)):=by rw [hW1];exact b0R _ _ _
       clear hW1;refine (CG.out W1 hb1).mono ?_;rintro e w2 ⟨rfl,hb2⟩;have HX2:=jH (d0H (w:=w) hx1 hb2);have HB2:=jH (a0D hb1 hb2);clear hb1 hx1 hb2)
    | (go_at_call 107
       refine (CSm.out w2 HB2.out).mono ?_;rintro e w3 ⟨A,c,f,rfl,hr,_,hb3⟩;have HR3:=jH (hr.row d0J);have HX3:=jH (d0H (w:=w) HX2.out hb3);have HB3:=jH (a0D HB2.out hb3);clear hr hb3)
    | (go_at_call 134
       refine (CAt.out _ w3 HR3.out).mono ?_;rintro e w4 ⟨rfl,hb4⟩;have HX4:=jH (d0H (w:=w) HX3.out hb4);obtain ⟨e1,e2,e3⟩:=a0A jR HX4.out;have HB4:=jH (a0D HB3.out hb4);clear hb4))
   have hz2:=a0E (i:=4) (v:=.int .i64 s4) (a0E (i:=3) (v:=.int .i64 s3) (a0E (i:=2) (v:=.int .i64 s2) (a0E (i:=1) (v:=.int .i64 s1) (a0E (i:=0) (v:=.int .i64 s0) HX4.out))));obtain ⟨f1,f2,f3⟩:=a0A jR hz2;refine bodyPost_ret (v:=.tuple #[.agg #[.int .i64 s0,.int .i64 s1,.int .i64 s2,.int .i64 s3,.int .i64 s4],.bool true]) (by simp [results,Tryz.results155,go_sem,f1]) rfl ⟨rfl,?_⟩
   exact ((((HB4.out.setCell (by simp) _).setCell (by simp) _).setCell (by simp) _).setCell (by simp) _).setCell (by simp) _
end
end Go.Proofs.YtmniiodpbebnmaaGreat
