/- Part 26 of the proof: Ref09, Mean16, Ref16. -/
import Derived.Test.YtpmfcpdelkchaaaGreatL22
import Derived.Test.YtpmfcpdelkchaaaGreatL25
namespace Go.Proofs.YtpmfcpdelkchaaaGreat
set_option linter.unusedSimpArgs false
set_option linter.unusedVariables false
set_option linter.unusedSectionVars false
set_option maxRecDepth 100000
set_option maxHeartbeats 16000000
section
open Go.RowKit Go.Lib
theorem refFrom_any (a b:Int) (w:World) (ha:I64 a) (hb:I64 b) :
 Calls Tryz.prog 153 #[.int .i64 a,.int .i64 b] w fun e w'=>e=.returned (.int .i64 (fromW a b))∧w=w':=by
 have C1:=jH (refSub_any a b w ha hb);have C2:=jH (refAdd_any (endsI (a - b)) 1 w (endsI_i64 _) (by unfold I64;omega));unfold fromW;generalize endsI (a - b)=s at C1 C2 ⊢;generalize endsI (s+1)=t at C2 ⊢;clear ha hb
 go_enter Tryz.func153,Tryz.ntmps153
 go_wp2_with (first
  | (go_at_call 209
     refine C1.out.mono ?_;rintro e w1 ⟨rfl,rfl⟩)
  | (go_at_call 208
     refine C2.out.mono ?_;rintro e w1 ⟨rfl,rfl⟩))
 go_ret
 exact ⟨rfl,rfl⟩
theorem refSum_any (v:Value) (l:List Int) (w:World) (hv:RowIn 1 nmC w v l) (hl:l.length≤1000000) (hi:∀n∈l,I64 n) :
 Calls Tryz.prog 249 #[v] w fun e w'=>e=.returned (.int .i64 (sumE l 0))∧w=w':=by
 obtain ⟨A,c,rfl⟩:=hv.form;have HV:=jH hv;have HI:=jH hi;have hl9:l.length≤9223372036854775807:=by omega
 clear hv hi
 go_enter Tryz.func249,Tryz.ntmps249
 go_wp2
 go_loopg [3,4] l.length (fun g s3 s8 wr=>∃k:Nat,k≤l.length∧l.length - k≤g∧s8=.int .i64 k∧s3=.int .i64 (sumE (l.take k) 0)∧w=wr)
 case atStart=>exact ⟨0,Nat.zero_le _,Nat.le_refl _,rfl,by simp [sumE],rfl⟩
 case round =>
  obtain ⟨k,hk,hg,rfl,rfl,rfl⟩:=hrel
  by_cases hlt:k<l.length
  · obtain ⟨b1,o1,rfl,hb1,hc⟩:=HV.out.at_ hlt
    have z1:(0:Int)≤(k:Int):=by omega
    have z2:(k:Int)<(l.length:Int):=by omega
    have HS:=jH (show sumE (l.take (k+1)) 0=endsI (sumE (l.take k) 0+l[k]) by rw [List.take_succ_eq_append_getElem hlt,sumE_snoc]);have d0:=hc 0 _ rfl;rw [Nat.add_zero,Nat.mul_one] at d0;have HN:=jH (refAdd_any (sumE (l.take k) 0) l[k] w (sumE_i64 _ _ i64_0) (HI.out _ (List.getElem_mem hlt)));rw [←HS.out] at HN;generalize sumE (l.take k) 0=s at HN ⊢;generalize l[k]=x at HN d0;clear hc HS
    go_wp2_with (first
     | (go_at_call 208
        refine HN.out.mono ?_;rintro e w1 ⟨rfl,rfl⟩))
    go_roundg (l.length - (k+1))
    case measure=>omega
    case rel=>exact ⟨k+1,hlt,Nat.le_refl _,by go_num,rfl,rfl⟩
  · obtain rfl:k=l.length:=by omega
    rw [List.take_length];go_wp2
    go_ret
    exact ⟨rfl,rfl⟩
theorem refCut_any (v:Value) (l:List Smp) (a b:Int) (w:World) (hv:RowIn 2 smpC w v l) (hl:l.length≤1000000) :
 Calls Tryz.prog 152 #[v,.int .i64 a,.int .i64 b] w fun e w'=>∃A c,e=.returned (.slice A (winC l a b).length c)∧OwnL smpC 138 2 w.heap.size w' (.slice A (winC l a b).length c) (winC l a b)∧jB w w':=by
 obtain ⟨A,c,rfl⟩:=hv.form;have HV:=jH hv;have HL:=jH hl;have hl9:l.length≤9223372036854775807:=by omega
 clear hv hl
 go_enter Tryz.func152,Tryz.ntmps152
 go_wp2
 go_loopg [7,8] l.length (fun g s7 s12 wr=>∃k:Nat,k≤l.length∧l.length - k≤g∧s12=.int .i64 k∧OwnL smpC 138 2 w.heap.size wr s7 (winC (l.take k) a b)∧jB w wr)
 case atStart=>exact ⟨0,Nat.zero_le _,Nat.le_refl _,rfl,by simp [winC];exact OwnL.nil _ _,jR⟩
 case round =>
  obtain ⟨k,hk,hg,rfl,hown,hb⟩:=hrel;rename World=>wr
  obtain ⟨pre,hpre⟩:∃pre,pre=winC (l.take k) a b:=⟨_,rfl⟩;rw [←hpre] at hown;obtain ⟨A5,c5,rfl⟩:=hown.form;have HPL:=jH (show pre.length≤k by rw [hpre];exact Nat.le_trans (cut_len _ _ _) (by simp;omega));have HPRE:=jH hpre;have HO:=jH hown;have HB:=jH hb;clear hpre hown hb
  by_cases hlt:k<l.length
  · obtain ⟨b1,o1,rfl,hb1,hc⟩:=(HV.out.below HB.out).at_ hlt
    have z1:(0:Int)≤(k:Int):=by omega
    have z2:(k:Int)<(l.length:Int):=by omega
    have HTK:=jH (show winC (l.take (k+1)) a b=pre++if a≤l[k].1∧l[k].1≤b then [l[k]] else [] by rw [List.take_succ_eq_append_getElem hlt,winC_snoc,HPRE.out]);generalize l[k]=x at hc HTK;have d0:=hc 0 _ rfl;have d1:=hc 1 _ rfl;rw [Nat.add_zero] at d0;have HK:=jH hlt;clear hc
    by_cases h1:a≤x.1
    · by_cases h2:x.1≤b
      · as_aux_lemma =>
        go_wp2_with (first
         | (at_builtin
            refine wpList_appendL eSmp (by rfl) (by rfl) w.heap.size pre [x] (.slice A5 pre.length c5) _ (by rfl) (by rfl) (HO.out.below (balloc jR _)) (RowIn.lit _ x _ _ wr.heap.size rfl rfl) (by have:=HPL.out;have:=HL.out;have:=HK.out;simp;omega) (by have:=HB.out.size;simp;omega) ?_;intro out2 A9 c9 w13 hout2 hown2 hg2 _;have HO13:=jH hout2;have HW13:=jH hown2;have HB13:=jH (show jB w w13 from (balloc HB.out _).trans (grown_own hg2 HO.out (by have:=HB.out.size;simp;omega)))
            clear hout2 hown2 hg2))
        go_roundg (l.length - (k+1))
        case measure=>omega
        case rel=>exact ⟨k+1,HK.out,Nat.le_refl _,by go_num,by rw [HTK.out,if_pos ⟨h1,h2⟩,←HO13.out];exact HW13.out,HB13.out⟩
      · as_aux_lemma =>
        go_wp2_with fail
        go_roundg (l.length - (k+1))
        case measure=>omega
        case rel=>exact ⟨k+1,HK.out,Nat.le_refl _,by go_num,by rw [HTK.out,if_neg (by omega),List.append_nil];exact HO.out,HB.out⟩
    · as_aux_lemma =>
      go_wp2_with fail
      go_roundg (l.length - (k+1))
      case measure=>omega
      case rel=>exact ⟨k+1,HK.out,Nat.le_refl _,by go_num,by rw [HTK.out,if_neg (by omega),List.append_nil];exact HO.out,HB.out⟩
  · obtain rfl:k=l.length:=by omega
    have hp:=HPRE.out;rw [List.take_length] at hp;have HP:=jH hp;clear hp;go_wp2_with fail
    go_ret
    exact ⟨A5,c5,by rw [HP.out];rfl,by rw [←HP.out];exact HO.out,HB.out⟩
theorem refVals_any (v:Value) (l:List Smp) (w:World) (hv:RowIn 2 smpC w v l) (hl:l.length≤1000000) :
 Calls Tryz.prog 210 #[v] w fun e w'=>∃A c,e=.returned (.slice A (valsW l).length c)∧OwnL nmC 2 1 w.heap.size w' (.slice A (valsW l).length c) (valsW l)∧jB w w':=by
 obtain ⟨A,c,rfl⟩:=hv.form;have HV:=jH hv;have HL:=jH hl;have hl9:l.length≤9223372036854775807:=by omega
 clear hv hl
 go_enter Tryz.func210,Tryz.ntmps210
 go_wp2
 go_loopg [3,4] l.length (fun g s7 s12 wr=>∃k:Nat,k≤l.length∧l.length - k≤g∧s12=.int .i64 k∧OwnL nmC 2 1 w.heap.size wr s7 (valsW (l.take k))∧jB w wr)
 case atStart=>exact ⟨0,Nat.zero_le _,Nat.le_refl _,rfl,by simp [valsW];exact OwnL.nil _ _,jR⟩
 case round =>
  obtain ⟨k,hk,hg,rfl,hown,hb⟩:=hrel;rename World=>wr
  obtain ⟨pre,hpre⟩:∃pre,pre=valsW (l.take k):=⟨_,rfl⟩;rw [←hpre] at hown;obtain ⟨A5,c5,rfl⟩:=hown.form;have HPL:=jH (show pre.length≤k by rw [hpre,vals_len];simp;omega);have HPRE:=jH hpre;have HO:=jH hown;have HB:=jH hb;clear hpre hown hb
  by_cases hlt:k<l.length
  · obtain ⟨b1,o1,rfl,hb1,hc⟩:=(HV.out.below HB.out).at_ hlt
    have z1:(0:Int)≤(k:Int):=by omega
    have z2:(k:Int)<(l.length:Int):=by omega
    have HTK:=jH (show valsW (l.take (k+1))=pre++[max l[k].2 0] by rw [List.take_succ_eq_append_getElem hlt,valsW_snoc,HPRE.out]);generalize l[k]=x at hc HTK;have d0:=hc 0 _ rfl;have d1:=hc 1 _ rfl;rw [Nat.add_zero] at d0;have HK:=jH hlt;clear hc
    by_cases h0:x.2<0
    · rw [Int.max_eq_right (by omega)] at HTK
      as_aux_lemma =>
      go_wp2_with (first
       | (at_builtin
          refine wpList_appendL eNm (by rfl) (by rfl) w.heap.size pre [0] (.slice A5 pre.length c5) _ (by rfl) (by rfl) (HO.out.below (balloc jR _)) (RowIn.lit _ (0) _ _ wr.heap.size rfl (by simp [nmC])) (by have:=HPL.out;have:=HL.out;have:=HK.out;simp;omega) (by have:=HB.out.size;simp;omega) ?_;intro out2 A9 c9 w13 hout2 hown2 hg2 _;have HO13:=jH hout2;have HW13:=jH hown2;have HB13:=jH (show jB w w13 from (balloc HB.out _).trans (grown_own hg2 HO.out (by have:=HB.out.size;simp;omega)))
          clear hout2 hown2 hg2))
      go_roundg (l.length - (k+1))
      case measure=>omega
      case rel=>exact ⟨k+1,HK.out,Nat.le_refl _,by go_num,by rw [HTK.out,←HO13.out];exact HW13.out,HB13.out⟩
    · rw [Int.max_eq_left (by omega)] at HTK
      as_aux_lemma =>
      go_wp2_with (first
       | (at_builtin
          refine wpList_appendL eNm (by rfl) (by rfl) w.heap.size pre [x.2] (.slice A5 pre.length c5) _ (by rfl) (by rfl) (HO.out.below (balloc jR _)) (RowIn.lit _ (x.2) _ _ wr.heap.size rfl (by simp [nmC])) (by have:=HPL.out;have:=HL.out;have:=HK.out;simp;omega) (by have:=HB.out.size;simp;omega) ?_;intro out2 A9 c9 w13 hout2 hown2 hg2 _;have HO13:=jH hout2;have HW13:=jH hown2;have HB13:=jH (show jB w w13 from (balloc HB.out _).trans (grown_own hg2 HO.out (by have:=HB.out.size;simp;omega)))
          clear hout2 hown2 hg2))
      go_roundg (l.length - (k+1))
      case measure=>omega
      case rel=>exact ⟨k+1,HK.out,Nat.le_refl _,by go_num,by rw [HTK.out,←HO13.out];exact HW13.out,HB13.out⟩
  · obtain rfl:k=l.length:=by omega
    have hp:=HPRE.out;rw [List.take_length] at hp;have HP:=jH hp;clear hp;go_wp2_with fail
    go_ret
    exact ⟨A5,c5,by rw [HP.out];rfl,by rw [←HP.out];exact HO.out,HB.out⟩
end
section
open Go.RowKit Go.Lib
def AtM (l:List Int):Prop:=∀(v:Value) (m:Nat) (W:World),RowIn 1 nmC W v l→m≤9223372036854775807 →
  Calls Tryz.prog 227 #[v,.int .i64 (m:Nat)] W (jP W (.bool (decide (meanN l≤m))))
theorem halve_law {lo hi d h m m1:Nat} (hd:d=hi - lo) (hh:h=d / 2) (hm:m=lo+h) (hm1:m1=m+1) (hlt:lo<hi) (h3:hi≤9223372036854775807) :
 wrap64 ((hi:Int) - (lo:Int))=(d:Int)∧wrap64 ((d:Int).tdiv 2)=(h:Int)∧(d:Int).tdiv 2=(h:Int)∧wrap64 (h:Int)=(h:Int)∧wrap64 ((lo:Int)+(h:Int))=(m:Int)∧wrap64 ((m:Int)+1)=(m1:Int):=by
 have e:(d:Int).tdiv 2=(h:Int):=by rw [tdiv_pos (by omega)];omega
 rw [e];refine ⟨?_,?_,rfl,?_,?_,?_⟩
 all_goals
   clear e;unfold wrap64;omega
theorem cmpN_ge (a b:Nat):decide (0≤cmpN a b)=decide (b≤a):=by
 unfold cmpN
 by_cases h:a=b
 · rw [if_pos h];subst h;simp
 · rw [if_neg h]
   by_cases k:a<b
   · rw [if_pos k];simp;omega
   · rw [if_neg k];simp;omega
theorem atLeast_any (n:List Int) (hi:∀x∈n,0≤x∧x≤9223372036854775807) (hl:n.length≤1000000):AtM n:=by
 intro v m w hv hm;obtain ⟨A,c,rfl⟩:=hv.form
 by_cases h0:n=[]
 · subst h0
   have HR:=jH (show decide (meanN []≤m)=true by unfold meanN;simp);rw [HR.out];clear hi hl hv hm HR
   go_enter Tryz.func227,Tryz.ntmps227
   go_wp2
   go_ret
   exact ⟨rfl,jR⟩
 · have hp:0<n.length:=List.length_pos_iff.2 h0
   have z1:¬(n.length:Int)=0:=by omega
   have z2:¬n.length=0:=by omega
   have g1:IntKind.u64.wrap (m:Int)=(m:Int):=u64_wrap m (by omega);have g2:IntKind.u64.wrap (n.length:Int)=(n.length:Int):=u64_wrap _ (by omega);obtain ⟨a,ha⟩:∃a,a=m * n.length:=⟨_,rfl⟩;obtain ⟨t,ht⟩:∃t,t=totN n:=⟨_,rfl⟩;have la:a≤9223372036854775807 * 1000000:=ha ▸ Nat.mul_le_mul hm hl;have lt:t≤1000000 * 9223372036854775807:=ht ▸ Nat.le_trans (totN_le (fun x hx=>(hi x hx).2)) (Nat.mul_le_mul_right _ hl)
   have C1:=jH (fun W=>show Calls Tryz.prog 264 #[.int .u64 (m:Nat),.int .u64 (n.length:Nat)] W (jP W (.agg (bitsL a.testBit).toArray)) from ha ▸ numMul_any m n.length (by omega) (by omega) W);have CT:=jH (fun (W:World) (hW:jB w W)=>show Calls Tryz.prog 266 #[.slice A n.length c] W (jP W (.agg (bitsL t.testBit).toArray)) from ht ▸ numTotal_any _ n W (hv.below hW) hl hi);have CC:=jH (fun W=>show Calls Tryz.prog 265 #[.agg (bitsL a.testBit).toArray,.agg (bitsL t.testBit).toArray] W (jP W (.int .i64 (cmpN a t))) from numCmp_any a t (by omega) (by omega) W)
   have HR:=jH (show decide (0≤cmpN a t)=decide (meanN n≤m) by rw [cmpN_ge,ha,ht];exact decide_eq_decide.2 (meanN_least h0 m));rw [←HR.out];generalize cmpN a t=r at CC ⊢;have hst:=fun W=>bits_store W W.heap.size rfl a.testBit
   clear HR ha ht la lt hp h0 hi hl hv hm
   go_enter Tryz.func227,Tryz.ntmps227
   go_wp2_with (go_at_call 264;refine (C1.out _).mono ?_;rintro e w2 ⟨rfl,hb2⟩;have HB2':=jH hb2;clear hb2)
   refine name_world ?_;intro w4 hW4;have HX4:=jH (show BitB w4 w2.heap.size a.testBit by rw [hW4];exact bit_new w2 a.testBit);have HB2:=jH (show jB w w4 by rw [hW4];exact balloc HB2'.out _);clear hW4 hst;have HB4r:=jH (Below.refl w4.heap.size w4);refine wp_region_held_drew (S:=(fun U:World=>jB w4 U)) (by kernel_rfl) ?hS1 (fun hHeld=>?_)
   case hS1=>first|with_reducible exact HB4r.out|exact HB4r.out.drew|with_reducible exact HB5.out|with_reducible exact HB6.out
   refine wpAnyH_take (i:=0) (v:=.agg (bitsL a.testBit).toArray) rfl (by kernel_rfl) (by kernel_rfl) (by kernel_rfl) (fun _ _ _ h=>h) (yieldsIf_load_mid (by rfl) 326 (.tmp 5) (by rfl) w2.heap.size (0) (by rfl) (bitsL a.testBit) _ (fun U hU=>(HX4.out.below hU).range) Tryz.underlying326 (by rfl) (num_size _)) (by assumption) ?_
   try simp only [Act.put,jA]
   refine wpAnyH_take (i:=1) (v:=?v2) rfl (by kernel_rfl) (by kernel_rfl) (by kernel_rfl) (fun _ _ _ h=>h) (Or.inl ⟨by rfl,?hy2⟩) (by assumption) ?_
   case hy2 =>
    intro w' hSw
    (try dsimp only at hSw)
    go_simp
    try (with_reducible rfl)
   try simp only [Act.put,jA]
   refine wpAnyH_ready (rs:=[2]) (by kernel_rfl) (by simp) ?_;refine AllReadyH.cons rfl (fun K hK=>?_) AllReadyH.nil;go_simp
   go_at_call 266
   refine calls_named ?_;intro W5 hW5;have hb5:jB w4 W5:=by rw [hW5];first|exact jR|exact jR.drew
   clear hW5;refine (CT.out W5 (bthen HB2.out hb5)).mono ?_;rintro e w5 ⟨rfl,hb6⟩;have HB5:=jH (bthen hb5 hb6);clear hb5 hb6
   try go_simp
   refine hK.out _ _ ?hS3 (fun hHeld2=>?_)
   case hS3=>first|with_reducible exact HB4r.out|exact HB4r.out.drew|with_reducible exact HB5.out|with_reducible exact HB6.out
   clear hK K hHeld;have hHeld:=hHeld2;clear hHeld2
   try simp only [Act.put,jA]
   refine wpAnyH_ready (rs:=[3]) (by kernel_rfl) (by simp) ?_;refine AllReadyH.cons rfl (fun K hK=>?_) AllReadyH.nil;go_simp
   go_at_call 265
   refine (CC.out w5).mono ?_;rintro e w6 ⟨rfl,hb6⟩;have HB6:=jH (bthen HB5.out hb6);clear hb6
   try go_simp
   refine hK.out _ _ ?hS4 (fun hHeld2=>?_)
   case hS4=>first|with_reducible exact HB4r.out|exact HB4r.out.drew|with_reducible exact HB5.out|with_reducible exact HB6.out
   clear hK K hHeld;have hHeld:=hHeld2;clear hHeld2
   try simp only [Act.put,jA]
   refine wpAnyH_take (i:=4) (v:=?v5) rfl (by kernel_rfl) (by kernel_rfl) (by kernel_rfl) (fun _ _ _ h=>h) (Or.inl ⟨by rfl,?hy5⟩) (by assumption) ?_
   case hy5 =>
    intro w' hSw
    (try dsimp only at hSw)
    go_simp
    try (with_reducible rfl)
   try simp only [Act.put,jA]
   refine wpAnyH_take (i:=5) (v:=?v6) rfl (by kernel_rfl) (by kernel_rfl) (by kernel_rfl) (fun _ _ _ h=>h) (Or.inl ⟨by rfl,?hy6⟩) (by assumption) ?_
   case hy6 =>
    intro w' hSw
    (try dsimp only at hSw)
    go_simp
    try (with_reducible rfl)
   try simp only [Act.put,jA]
   refine wpAnyH_done (by kernel_rfl) ?_ _;go_wp2
   go_ret
   exact ⟨rfl,bthen HB2.out HB6.out⟩
theorem refMean16_of (v:Value) (l:List Smp) (w:World) (HA:AtM (valsW l)) (hv:RowIn 2 smpC w v l) (hl:l.length≤1000000) (hi:smpI l) :
 Calls Tryz.prog 172 #[v] w (jP w (.int .i64 (meanN (valsW l):Nat))):=by
 have CV:=jH (refVals_any v l w hv hl);have hM:meanN (valsW l)≤9223372036854775807:=meanN_le (fun n hn=>(vals_i64 hi n hn).2);have CA:=jH HA;clear HA hv hi hl;generalize valsW l=n at *;obtain ⟨M,hMe⟩:∃M,M=meanN n:=⟨_,rfl⟩;have CA2:=jH (fun (v:Value) (m:Nat) (W:World) (h:RowIn 1 nmC W v n) (hm:m≤9223372036854775807)=>hMe ▸ CA.out v m W h hm);rw [←hMe] at hM ⊢;clear CA hMe;have HM:=jH hM;clear hM
 go_enter Tryz.func172,Tryz.ntmps172
 go_wp2_with (go_at_call 210;refine CV.out.mono ?_;rintro e w2 ⟨A,c,rfl,hown,hb2⟩;have HB:=jH hb2;have HO:=jH hown;clear hb2 hown)
 clear CV
 go_loopg [4,5] 9223372036854775807 (fun g s4 s5 wr=>∃lo hi:Nat,s4=.int .i64 (lo:Nat)∧s5=.int .i64 (hi:Nat)∧Hid (lo≤M∧M≤hi∧hi≤9223372036854775807∧hi - lo≤g)∧jB w2 wr)
 case atStart=>exact ⟨0,9223372036854775807,rfl,rfl,jH ⟨Nat.zero_le _,HM.out,Nat.le_refl _,by omega⟩,jR⟩
 case round =>
  obtain ⟨lo,hi,rfl,rfl,HH,hb⟩:=hrel;rename World=>wr
  have HBB:=jH hb;have HRW:=jH ((HO.out.row eNm).below hb);clear hb
  by_cases hlt:lo<hi
  · obtain ⟨h1,h2,h3,h4⟩:=HH.out
    obtain ⟨d,hd⟩:∃d:Nat,d=hi - lo:=⟨_,rfl⟩;obtain ⟨h,hh⟩:∃h:Nat,h=d / 2:=⟨_,rfl⟩;obtain ⟨m,hm⟩:∃m,m=lo+h:=⟨_,rfl⟩;obtain ⟨m1,hm1⟩:∃m1:Nat,m1=m+1:=⟨_,rfl⟩;have z1:(lo:Int)<(hi:Int):=by omega
    have CM:=jH (CA2.out _ m wr HRW.out (by omega))
    by_cases q:M≤m
    · rw [decide_eq_true q] at CM
      have HG:=jH (show lo≤M∧M≤m∧m≤9223372036854775807∧m - lo≤m - lo by omega);have HD:=jH (show m - lo<hi - lo∧hi - m1<hi - lo by omega);obtain ⟨x1,x2,x2b,x2c,x3,x5⟩:=halve_law hd hh hm hm1 hlt h3;clear hm hd hh hm1 hlt h1 h2 h3 h4 q
      as_aux_lemma =>
       go_wp2_with (go_at_call 227;refine CM.out.mono ?_;rintro e w5 ⟨rfl,hb5⟩;have HB5:=jH (bthen HBB.out hb5);clear hb5)
       go_roundg (m - lo)
       case measure=>have h8:=HD.out;have h9:=HH.out;omega
       case rel=>exact ⟨lo,m,rfl,rfl,HG,HB5.out⟩
    · rw [decide_eq_false q] at CM
      have HG:=jH (show m1≤M∧M≤hi∧hi≤9223372036854775807∧hi - m1≤hi - m1 by omega);have HD:=jH (show m - lo<hi - lo∧hi - m1<hi - lo by omega);obtain ⟨x1,x2,x2b,x2c,x3,x5⟩:=halve_law hd hh hm hm1 hlt h3;clear hm hd hh hm1 hlt h1 h2 h3 h4 q
      as_aux_lemma =>
       go_wp2_with (go_at_call 227;refine CM.out.mono ?_;rintro e w5 ⟨rfl,hb5⟩;have HB5:=jH (bthen HBB.out hb5);clear hb5)
       go_roundg (hi - m1)
       case measure=>have h8:=HD.out;have h9:=HH.out;omega
       case rel=>exact ⟨m1,hi,by first|rfl|rw [x5],rfl,HG,HB5.out⟩
  · have HE:=jH (show M=lo by have:=HH.out;omega)
    have z1:¬(lo:Int)<(hi:Int):=by omega
    go_wp2_with fail
    go_ret
    exact ⟨by rw [HE.out];rfl,bthen HB.out HBB.out⟩
theorem refMean16_any (v:Value) (l:List Smp) (w:World) (hv:RowIn 2 smpC w v l) (hl:l.length≤1000000) (hi:smpI l) :
 Calls Tryz.prog 172 #[v] w (jP w (.int .i64 (meanN (valsW l):Nat))) :=
 refMean16_of v l w (atLeast_any _ (vals_i64 hi) (by rw [vals_len];exact hl)) hv hl hi
end
section
open Go.RowKit Go.Lib
theorem ref13Near_any (p:Pol) (load now:Int) (w:World) (hn:I64 load) (hq:I64 p.tg) :
 Calls Tryz.prog 228 #[polV p,.int .i64 load,.int .i64 now] w (jP w (.bool (nearI p load now))):=by
 by_cases h:polB p=false∨now<1∨1073741824<now
 · rw [nearI_out h]
   exact ref13Near_out p load now w h
 · have hp:polB p=true:=by
    cases hp:polB p
    · exact absurd (Or.inl hp) h
    · rfl
   exact ref13Near_in p load now w hp (by omega) (by omega) hn hq
theorem ref13Open_any (p:Pol) (load now:Int) (w:World) (hn:I64 load) (hq:I64 p.tg) :
 Calls Tryz.prog 174 #[polV p,.int .i64 load,.int .i64 now] w (jP w (.int .i64 (openI p load now))):=by
 have CN:=jH (fun W=>ref13Near_any p load now W hn hq);have CW:=jH (fun W=>ref13Want_any p load W hn hq);unfold openI;clear hn hq;generalize nearI p load now=near at CN ⊢;generalize wantP p load=m at CW ⊢;unfold polV at CN CW ⊢
 cases near
 all_goals
   go_enter Tryz.func174,Tryz.ntmps174
   go_wp2_with (first
    | (go_at_call 228
       refine calls_named ?_;intro W1 hW1;have hb1:jB w W1:=by rw [hW1];exact balloc jR _
       have hx1:W1.heap[w.heap.size]?=some (.cells #[.int .i64 p.mn,.int .i64 p.mx,.int .i64 p.tg,.int .i64 p.tol,.int .i64 p.win,.int .i64 p.hold] 46 (0,0)):=by rw [hW1];exact heap_alloc_new _ _
       clear hW1;refine (CN.out W1).mono ?_;rintro e w2 ⟨rfl,hb2⟩;have HB2:=jH (bthen hb1 hb2);obtain ⟨hx2,R0⟩:=box_rule hx1 hb2;clear hb1 hb2 hx1 hx2)
    | (go_at_call 229
       refine (CW.out _).mono ?_;rintro e w4 ⟨rfl,hb4⟩))
   go_ret
   exact ⟨rfl,by repeat (first|exact HB2.out|refine bthen ?_ hb4|refine below_drewN ?_ _|refine Below.drew ?_)⟩
theorem ref16Of_any (p:Pol) (l:List Smp) (past:List Adv) (vs vp:Value) (w:World) (hs:RowIn 2 smpC w vs l) (hp:RowIn 5 advC w vp past) (hl:l.length≤1000000) (hl2:past.length≤1000000) (hi:smpI l) (ho:p.ok) :
 Calls Tryz.prog 124 #[polV p,vs,vp] w (jP w (.tuple #[.agg (advC (decI p l past).1).toArray,.int .i64 (decI p l past).2])):=by
 obtain ⟨A,c,rfl⟩:=hs.form;obtain ⟨A2,c2,rfl⟩:=hp.form
 cases hpb:polB p
 · have HC:=jH (r12right_any p)
   have HE:=jH (hpb);have HD:=jH (show decI p l past=(adv0,7) by unfold decI;rw [if_pos hpb]);rw [HD.out];clear hpb HD hs hp hi ho hl hl2;unfold polV;unfold polV at HC
   go_enter Tryz.func124,Tryz.ntmps124
   go_wp2_with (first
   | (go_at_call 144
      refine calls_named ?_;intro W1 hW1;have hb1:jB w W1:=by rw [hW1];exact balloc (balloc jR _) _
      have hx1:W1.heap[w.heap.size]?=some (.cells #[.int .i64 p.mn,.int .i64 p.mx,.int .i64 p.tg,.int .i64 p.tol,.int .i64 p.win,.int .i64 p.hold] 46 (0,0)):=by rw [hW1];exact box_old _ _ _
      have hy1:W1.heap[w.heap.size+1]?=some (.cells #[.int .i64 0,.int .i64 0,.int .i64 0,.int .i64 0,.int .i64 0] 74 (0,0)):=by rw [hW1];exact box_new _ _ _
      clear hW1;refine (HC.out W1).mono ?_;rw [HE.out];rintro e w2 ⟨rfl,hb2⟩;have HB2:=jH (bthen hb1 hb2);obtain ⟨hx2,R0⟩:=box_rule hx1 hb2;obtain ⟨hy2,R1⟩:=box_rule hy1 hb2;have HY2:=jH hy2;have rc0:∀U,jB w2 U→U.cell? ⟨w.heap.size,0,none⟩=some (.int .i64 p.mn):=fun U hU=>R0 U 0 hU
      have rc1:∀U,jB w2 U→U.cell? ⟨w.heap.size,1,none⟩=some (.int .i64 p.mx):=fun U hU=>R0 U 1 hU
      have rc2:∀U,jB w2 U→U.cell? ⟨w.heap.size,2,none⟩=some (.int .i64 p.tg):=fun U hU=>R0 U 2 hU
      have rc3:∀U,jB w2 U→U.cell? ⟨w.heap.size,3,none⟩=some (.int .i64 p.tol):=fun U hU=>R0 U 3 hU
      have rc4:∀U,jB w2 U→U.cell? ⟨w.heap.size,4,none⟩=some (.int .i64 p.win):=fun U hU=>R0 U 4 hU
      have rc5:∀U,jB w2 U→U.cell? ⟨w.heap.size,5,none⟩=some (.int .i64 p.hold):=fun U hU=>R0 U 5 hU
      have rr0:∀U,jB w2 U→U.cell? ⟨w.heap.size+1,0,none⟩=some (.int .i64 0):=fun U hU=>R1 U 0 hU
      have rr1:∀U,jB w2 U→U.cell? ⟨w.heap.size+1,1,none⟩=some (.int .i64 0):=fun U hU=>R1 U 1 hU
      have rr2:∀U,jB w2 U→U.cell? ⟨w.heap.size+1,2,none⟩=some (.int .i64 0):=fun U hU=>R1 U 2 hU
      have rr3:∀U,jB w2 U→U.cell? ⟨w.heap.size+1,3,none⟩=some (.int .i64 0):=fun U hU=>R1 U 3 hU
      have rr4:∀U,jB w2 U→U.cell? ⟨w.heap.size+1,4,none⟩=some (.int .i64 0):=fun U hU=>R1 U 4 hU
      have rf:∀U j,jB w2 U→U.frozen? ⟨w.heap.size+1,j,none⟩=false:=fun U j hU=>(box_cells hU HY2.out).2.1 j
      clear hb1 hb2 hx1 hx2 hy1 hy2 R0 R1))
   have HBE:=jH HB2.out;refine post_named ?_;intro W9 hW9;have hW9':W9=stor w2 (w.heap.size+1) 0 [.int .i64 0,.int .i64 0,.int .i64 0,.int .i64 0,.int .i64 0]:=hW9;obtain ⟨s1,s2,s3,s4⟩:=stor_at (HY2.out) [.int .i64 0,.int .i64 0,.int .i64 0,.int .i64 0,.int .i64 0] rfl W9 hW9';obtain ⟨a9,a8,a7⟩:=box_cells jR s1;clear hW9 hW9';exact bodyPost_ret (v:=.tuple #[.agg #[.int .i64 0,.int .i64 0,.int .i64 0,.int .i64 0,.int .i64 0],.int .i64 7]) (by simp [results,Tryz.results124,go_sem,a9]) rfl ⟨rfl,HBE.out.trans (s4 _ (Nat.le_succ _))⟩
 · have HC:=jH (r12right_any p)
   have HE:=jH (hpb)
   by_cases hne:l=[]
   · subst hne
     have HD:=jH (show decI p [] past=(adv0,5) by unfold decI;rw [if_neg (by rw [hpb];simp),if_pos rfl]);rw [HD.out];clear hpb HD hs hp hi ho hl hl2;unfold polV;unfold polV at HC
     go_enter Tryz.func124,Tryz.ntmps124
     go_wp2_with (first
     | (go_at_call 144
        refine calls_named ?_;intro W1 hW1;have hb1:jB w W1:=by rw [hW1];exact balloc (balloc jR _) _
        have hx1:W1.heap[w.heap.size]?=some (.cells #[.int .i64 p.mn,.int .i64 p.mx,.int .i64 p.tg,.int .i64 p.tol,.int .i64 p.win,.int .i64 p.hold] 46 (0,0)):=by rw [hW1];exact box_old _ _ _
        have hy1:W1.heap[w.heap.size+1]?=some (.cells #[.int .i64 0,.int .i64 0,.int .i64 0,.int .i64 0,.int .i64 0] 74 (0,0)):=by rw [hW1];exact box_new _ _ _
        clear hW1;refine (HC.out W1).mono ?_;rw [HE.out];rintro e w2 ⟨rfl,hb2⟩;have HB2:=jH (bthen hb1 hb2);obtain ⟨hx2,R0⟩:=box_rule hx1 hb2;obtain ⟨hy2,R1⟩:=box_rule hy1 hb2;have HY2:=jH hy2;have rc0:∀U,jB w2 U→U.cell? ⟨w.heap.size,0,none⟩=some (.int .i64 p.mn):=fun U hU=>R0 U 0 hU
        have rc1:∀U,jB w2 U→U.cell? ⟨w.heap.size,1,none⟩=some (.int .i64 p.mx):=fun U hU=>R0 U 1 hU
        have rc2:∀U,jB w2 U→U.cell? ⟨w.heap.size,2,none⟩=some (.int .i64 p.tg):=fun U hU=>R0 U 2 hU
        have rc3:∀U,jB w2 U→U.cell? ⟨w.heap.size,3,none⟩=some (.int .i64 p.tol):=fun U hU=>R0 U 3 hU
        have rc4:∀U,jB w2 U→U.cell? ⟨w.heap.size,4,none⟩=some (.int .i64 p.win):=fun U hU=>R0 U 4 hU
        have rc5:∀U,jB w2 U→U.cell? ⟨w.heap.size,5,none⟩=some (.int .i64 p.hold):=fun U hU=>R0 U 5 hU
        have rr0:∀U,jB w2 U→U.cell? ⟨w.heap.size+1,0,none⟩=some (.int .i64 0):=fun U hU=>R1 U 0 hU
        have rr1:∀U,jB w2 U→U.cell? ⟨w.heap.size+1,1,none⟩=some (.int .i64 0):=fun U hU=>R1 U 1 hU
        have rr2:∀U,jB w2 U→U.cell? ⟨w.heap.size+1,2,none⟩=some (.int .i64 0):=fun U hU=>R1 U 2 hU
        have rr3:∀U,jB w2 U→U.cell? ⟨w.heap.size+1,3,none⟩=some (.int .i64 0):=fun U hU=>R1 U 3 hU
        have rr4:∀U,jB w2 U→U.cell? ⟨w.heap.size+1,4,none⟩=some (.int .i64 0):=fun U hU=>R1 U 4 hU
        have rf:∀U j,jB w2 U→U.frozen? ⟨w.heap.size+1,j,none⟩=false:=fun U j hU=>(box_cells hU HY2.out).2.1 j
        clear hb1 hb2 hx1 hx2 hy1 hy2 R0 R1))
     have HBE:=jH (bthen HB2.out jR);refine post_named ?_;intro W9 hW9;have hW9':W9=stor w2 (w.heap.size+1) 0 [.int .i64 0,.int .i64 0,.int .i64 0,.int .i64 0,.int .i64 0]:=hW9;obtain ⟨s1,s2,s3,s4⟩:=stor_at (HY2.out) [.int .i64 0,.int .i64 0,.int .i64 0,.int .i64 0,.int .i64 0] rfl W9 hW9';obtain ⟨a9,a8,a7⟩:=box_cells jR s1;clear hW9 hW9';exact bodyPost_ret (v:=.tuple #[.agg #[.int .i64 0,.int .i64 0,.int .i64 0,.int .i64 0,.int .i64 0],.int .i64 5]) (by simp [results,Tryz.results124,go_sem,a9]) rfl ⟨rfl,HBE.out.trans (s4 _ (Nat.le_succ _))⟩
   · have hpos:0<l.length:=List.length_pos_iff.2 hne
     obtain ⟨tick,htk⟩:∃t,t=latestI l:=⟨_,rfl⟩;have hti:I64 tick:=by rw [htk];exact latestI_ok hne hi
     have CL:=jH (fun (W:World) (hW:jB w W)=>show Calls Tryz.prog 171 #[.slice A l.length c] W (jP W (.int .i64 tick)) from htk ▸ refLate_any _ l W (hs.below hW) hl hpos);obtain ⟨fr,hfr⟩:∃x,x=fromW tick p.win:=⟨_,rfl⟩;obtain ⟨cu,hcu⟩:∃x,x=winC l fr tick:=⟨_,rfl⟩;obtain ⟨load,hld⟩:∃x:Int,x=(meanN (valsW (winC l (fromW tick p.win) tick)):Nat):=⟨_,rfl⟩;have hlo:I64 load:=by rw [hld];have:=meanN_le (l:=valsW (winC l (fromW tick p.win) tick)) (fun n hn=>(vals_i64 (hi.cut _ _) n hn).2);unfold I64;omega
     have hcui:smpI cu:=by rw [hcu];exact hi.cut _ _
     have hcul:cu.length≤1000000:=by rw [hcu];exact Nat.le_trans (cut_len _ _ _) hl
     have hld2:load=(meanN (valsW cu):Nat):=by rw [hld,hcu,hfr]
     have CFR:=jH (fun (W:World) (hW:jB w W)=>show Calls Tryz.prog 153 #[.int .i64 tick,.int .i64 p.win] W (jP W (.int .i64 fr)) from (by rw [hfr];exact (refFrom_any tick p.win W hti ho.2.2.2.2.1).mono (fun e w' h=>⟨h.1,h.2 ▸ jR⟩)));have CCU:=jH (fun (W:World) (hW:jB w W)=>show Calls Tryz.prog 152 #[.slice A l.length c,.int .i64 fr,.int .i64 tick] W fun e w'=>∃A3 c3,e=.returned (.slice A3 cu.length c3)∧OwnL smpC 138 2 W.heap.size w' (.slice A3 cu.length c3) cu∧jB W w' from hcu ▸ refCut_any _ l fr tick W (hs.below hW) hl)
     have CME:=jH (fun (W:World) (v:Value) (hv:RowIn 2 smpC W v cu)=>show Calls Tryz.prog 172 #[v] W (jP W (.int .i64 load)) from hld2 ▸ refMean16_any v cu W hv hcul hcui);obtain ⟨now,hnow⟩:∃x,x=nowI p past:=⟨_,rfl⟩;have CN:=jH (fun (W:World) (hW:jB w W)=>show Calls Tryz.prog 173 #[polV p,.slice A2 past.length c2] W (jP W (.int .i64 now)) from hnow ▸ refNow_any p _ past W (hp.below hW) hl2);obtain ⟨op,hop⟩:∃x,x=openI p load now:=⟨_,rfl⟩
     obtain ⟨want,hwa⟩:∃x,x=boundI p op:=⟨_,rfl⟩;have COp:=jH (fun (W:World) (hW:jB w W)=>show Calls Tryz.prog 174 #[polV p,.int .i64 load,.int .i64 now] W (jP W (.int .i64 op)) from hop ▸ ref13Open_any p load now W hlo ho.2.2.1);have CB1:=jH (fun (W:World) (hW:jB w W)=>show Calls Tryz.prog 175 #[polV p,.int .i64 op] W (jP W (.int .i64 want)) from hwa ▸ ref13Bound_any p op W);obtain ⟨ns,hns⟩:∃x,x=(steadyI p tick want past).1:=⟨_,rfl⟩
     obtain ⟨held,hhe⟩:∃x,x=(steadyI p tick want past).2:=⟨_,rfl⟩;obtain ⟨til,htil⟩:∃x,x=boundI p ns:=⟨_,rfl⟩;obtain ⟨wy,hwy⟩:∃x,x=whyI p held op now til:=⟨_,rfl⟩;have CSt:=jH (fun (W:World) (hW:jB w W)=>show Calls Tryz.prog 176 #[polV p,.int .i64 tick,.int .i64 want,.slice A2 past.length c2] W (jP W (.tuple #[.int .i64 ns,.bool held])) from hns ▸ hhe ▸ ref15_any p tick want _ past W (hp.below hW) hl2 hti ho.2.2.2.2.2)
     have CBd:=jH (fun (W:World) (hW:jB w W)=>show Calls Tryz.prog 175 #[polV p,.int .i64 ns] W (jP W (.int .i64 til)) from htil ▸ ref13Bound_any p ns W);have CWy:=jH (fun (W:World) (hW:jB w W)=>show Calls Tryz.prog 177 #[polV p,.bool held,.int .i64 op,.int .i64 now,.int .i64 til] W (jP W (.int .i64 wy)) from hwy ▸ refWhy_any p held op now til W);have HD:=jH (show decI p l past=(⟨tick,load,want,til,wy⟩,0) by
      unfold decI;rw [if_neg (by rw [hpb];simp),if_neg hne];simp only [←htk,←hld,←hnow,←hop,←hwa,←hns,←hhe,←htil,←hwy])
     rw [HD.out];have HZ:=jH (show ¬(l.length:Int)=0∧¬l.length=0 by omega);clear htk hfr hcu hld hld2 hcui hcul hnow hop hwa hns hhe htil hwy HD hpb hne hpos hlo hti hs hp hi ho hl hl2;unfold polV;unfold polV at HC CN CSt CBd CWy COp CB1;have hz0:¬(l.length:Int)=0:=HZ.out.1;have hz1:¬l.length=0:=HZ.out.2
     go_enter Tryz.func124,Tryz.ntmps124
     go_wp2_with (first
      | (go_at_call 144
         refine calls_named ?_;intro W1 hW1;have hb1:jB w W1:=by rw [hW1];exact balloc (balloc jR _) _
         have hx1:W1.heap[w.heap.size]?=some (.cells #[.int .i64 p.mn,.int .i64 p.mx,.int .i64 p.tg,.int .i64 p.tol,.int .i64 p.win,.int .i64 p.hold] 46 (0,0)):=by rw [hW1];exact box_old _ _ _
         have hy1:W1.heap[w.heap.size+1]?=some (.cells #[.int .i64 0,.int .i64 0,.int .i64 0,.int .i64 0,.int .i64 0] 74 (0,0)):=by rw [hW1];exact box_new _ _ _
         clear hW1;refine (HC.out W1).mono ?_;rw [HE.out];rintro e w2 ⟨rfl,hb2⟩;have HB2:=jH (bthen hb1 hb2);obtain ⟨hx2,R0⟩:=box_rule hx1 hb2;obtain ⟨hy2,R1⟩:=box_rule hy1 hb2;have HY2:=jH hy2;have rc0:∀U,jB w2 U→U.cell? ⟨w.heap.size,0,none⟩=some (.int .i64 p.mn):=fun U hU=>R0 U 0 hU
         have rc1:∀U,jB w2 U→U.cell? ⟨w.heap.size,1,none⟩=some (.int .i64 p.mx):=fun U hU=>R0 U 1 hU
         have rc2:∀U,jB w2 U→U.cell? ⟨w.heap.size,2,none⟩=some (.int .i64 p.tg):=fun U hU=>R0 U 2 hU
         have rc3:∀U,jB w2 U→U.cell? ⟨w.heap.size,3,none⟩=some (.int .i64 p.tol):=fun U hU=>R0 U 3 hU
         have rc4:∀U,jB w2 U→U.cell? ⟨w.heap.size,4,none⟩=some (.int .i64 p.win):=fun U hU=>R0 U 4 hU
         have rc5:∀U,jB w2 U→U.cell? ⟨w.heap.size,5,none⟩=some (.int .i64 p.hold):=fun U hU=>R0 U 5 hU
         have rr0:∀U,jB w2 U→U.cell? ⟨w.heap.size+1,0,none⟩=some (.int .i64 0):=fun U hU=>R1 U 0 hU
         have rr1:∀U,jB w2 U→U.cell? ⟨w.heap.size+1,1,none⟩=some (.int .i64 0):=fun U hU=>R1 U 1 hU
         have rr2:∀U,jB w2 U→U.cell? ⟨w.heap.size+1,2,none⟩=some (.int .i64 0):=fun U hU=>R1 U 2 hU
         have rr3:∀U,jB w2 U→U.cell? ⟨w.heap.size+1,3,none⟩=some (.int .i64 0):=fun U hU=>R1 U 3 hU
         have rr4:∀U,jB w2 U→U.cell? ⟨w.heap.size+1,4,none⟩=some (.int .i64 0):=fun U hU=>R1 U 4 hU
         have rf:∀U j,jB w2 U→U.frozen? ⟨w.heap.size+1,j,none⟩=false:=fun U j hU=>(box_cells hU HY2.out).2.1 j
         clear hb1 hb2 hx1 hx2 hy1 hy2 R0 R1)
      | (go_at_call 171
         refine calls_named ?_;intro W3 hW3;have hq3:jB w2 W3:=by rw [hW3];first|exact jR|assumption|exact jR.drew|exact Below.drew (by assumption)
         clear hW3;refine (CL.out W3 (bthen HB2.out hq3)).mono ?_;rintro e w3 ⟨rfl,hb3⟩;have hk3:jB w2 w3:=bthen hq3 hb3;clear hb3 hq3)
      | (go_at_call 153
         refine calls_named ?_;intro W4 hW4;have hq4:jB w2 W4:=by rw [hW4];first|exact jR|assumption|exact jR.drew|exact Below.drew (by assumption)
         clear hW4;refine (CFR.out W4 (bthen HB2.out hq4)).mono ?_;rintro e w4 ⟨rfl,hb4⟩;have hk4:jB w2 w4:=bthen hq4 hb4;clear hb4 hq4)
      | (go_at_call 152
         refine calls_named ?_;intro W5 hW5;have hq5:jB w2 W5:=by rw [hW5];first|exact jR|assumption
         clear hW5;refine (CCU.out W5 (bthen HB2.out hq5)).mono ?_;rintro e w5 ⟨A3,c3,rfl,hown,hb5⟩;have HOW:=jH (hown.row eSmp);have hk5:jB w2 w5:=bthen hq5 hb5;clear hb5 hq5 hown)
      | (go_at_call 172
         refine (CME.out w5 _ HOW.out).mono ?_;rintro e w6 ⟨rfl,hb6⟩;have hk6:jB w2 w6:=bthen hk5 hb6;clear hb6)
      | (go_at_call 173
         refine calls_named ?_;intro W7 hW7;have hq7:jB w2 W7:=by rw [hW7];first|exact jR|assumption|exact jR.drew|exact Below.drew (by assumption)
         clear hW7;refine (CN.out W7 (bthen HB2.out hq7)).mono ?_;rintro e w7 ⟨rfl,hb7⟩;have hk7:jB w2 w7:=bthen hq7 hb7;clear hb7 hq7)
      | (go_at_call 174
         refine calls_named ?_;intro W8 hW8;have hq8:jB w2 W8:=by rw [hW8];first|exact jR|assumption|exact jR.drew|exact Below.drew (by assumption)
         clear hW8;refine (COp.out W8 (bthen HB2.out hq8)).mono ?_;rintro e w8 ⟨rfl,hb8⟩;have hk8:jB w2 w8:=bthen hq8 hb8;clear hb8 hq8)
      | (go_at_call 175
         refine calls_named ?_;intro W9 hW9;have hq9:jB w2 W9:=by rw [hW9];first|exact jR|assumption|exact jR.drew|exact Below.drew (by assumption)
         clear hW9
         with_reducible refine (CB1.out W9 (bthen HB2.out hq9)).mono ?_
         rintro e w9 ⟨rfl,hb9⟩;have hk9:jB w2 w9:=bthen hq9 hb9;clear hb9 hq9)
      | (go_at_call 176
         refine calls_named ?_;intro W10 hW10;have hq10:jB w2 W10:=by rw [hW10];first|exact jR|assumption|exact jR.drew|exact Below.drew (by assumption)
         clear hW10;refine (CSt.out W10 (bthen HB2.out hq10)).mono ?_;rintro e w10 ⟨rfl,hb10⟩;have hk10:jB w2 w10:=bthen hq10 hb10;clear hb10 hq10)
      | (go_at_call 175
         refine calls_named ?_;intro W11 hW11;have hq11:jB w2 W11:=by rw [hW11];first|exact jR|assumption|exact jR.drew|exact Below.drew (by assumption)
         clear hW11
         with_reducible refine (CBd.out W11 (bthen HB2.out hq11)).mono ?_
         rintro e w11 ⟨rfl,hb11⟩;have hk11:jB w2 w11:=bthen hq11 hb11;clear hb11 hq11)
      | (go_at_call 177
         refine calls_named ?_;intro W12 hW12;have hq12:jB w2 W12:=by rw [hW12];first|exact jR|assumption|exact jR.drew|exact Below.drew (by assumption)
         clear hW12;refine (CWy.out W12 (bthen HB2.out hq12)).mono ?_;rintro e w12 ⟨rfl,hb12⟩;have hk12:jB w2 w12:=bthen hq12 hb12;clear hb12 hq12))
     have HBE:=jH (bthen HB2.out hk12);refine post_named ?_;intro W9 hW9;have hW9':W9=stor w12 (w.heap.size+1) 0 [.int .i64 tick,.int .i64 load,.int .i64 want,.int .i64 til,.int .i64 wy]:=hW9;obtain ⟨s1,s2,s3,s4⟩:=stor_at (jK hk12 HY2.out) [.int .i64 tick,.int .i64 load,.int .i64 want,.int .i64 til,.int .i64 wy] rfl W9 hW9';obtain ⟨a9,a8,a7⟩:=box_cells jR s1;clear hW9 hW9';exact bodyPost_ret (v:=.tuple #[.agg #[.int .i64 tick,.int .i64 load,.int .i64 want,.int .i64 til,.int .i64 wy],.int .i64 0]) (by simp [results,Tryz.results124,go_sem,a9]) rfl ⟨rfl,HBE.out.trans (s4 _ (Nat.le_succ _))⟩
end
end Go.Proofs.YtpmfcpdelkchaaaGreat
