/- Part 20 of the proof: SLaw, SLaw4, Win, Ref09, NumB, TrOf. -/
import Derived.Test.YtkcdhaallnhhmaaGreatL18
namespace Go.Proofs.YtkcdhaallnhhmaaGreat
set_option linter.unusedSimpArgs false
set_option linter.unusedVariables false
set_option linter.unusedSectionVars false
set_option maxRecDepth 100000
set_option maxHeartbeats 16000000
section
open Go.RowKit Go.Lib Go.Sort
def sameN (x y:Nd):Prop:=x.smp=y.smp∧x.past=y.past∧x.pol=y.pol∧x.ruled=y.ruled
theorem sameN.refl (x:Nd):sameN x x:=⟨rfl,rfl,rfl,rfl⟩
def keysI (l:List It):List Ky:=l.map (·.key)
theorem sorted_at_unique {R:List (Ky × Nd)} (hs:(R.map (·.1)).Pairwise (fun a b=>ltK a b=true)) {q:Ky} {y z:Nd} (hy:(q,y)∈R) (hz:(q,z)∈R):y=z:=by
 induction R with
 | nil=>cases hy
 | cons a R ih =>
   rw [List.map_cons,List.pairwise_cons] at hs
   rcases List.mem_cons.1 hy with hy|hy
   · rcases List.mem_cons.1 hz with hz|hz
     · rw [←hy] at hz;injection hz with _ hz;exact hz.symm
     · have:=hs.1 q (List.mem_map.2 ⟨_,hz,rfl⟩)
       rw [←hy] at this;exact absurd this (by rw [ltK_irrefl q];simp)
   · rcases List.mem_cons.1 hz with hz|hz
     · have:=hs.1 q (List.mem_map.2 ⟨_,hy,rfl⟩)
       rw [←hz] at this;exact absurd this (by rw [ltK_irrefl q];simp)
     · exact ih hs.2 hy hz
theorem key_at {l:List It} {i:Nat} (h:i<l.length):(keysI l)[i]?=some l[i].key:=by simp [keysI,h]
theorem sorted_get {l:List It} (hs:(keysI l).Pairwise (fun a b=>ltK a b=true)) {i j:Nat} (hj:j<l.length) (hij:i<j):ltK (l[i]'(by omega)).key l[j].key=true:=by
 have:=(List.pairwise_iff_getElem.1 hs) i j (by simp [keysI];omega) (by simp [keysI];omega) hij
 simpa [keysI] using this
theorem hasI_iff {l:List It} (hs:(keysI l).Pairwise (fun a b=>ltK a b=true)) (k:Ky):hasI l k=true ↔ k∈keysI l:=by
 constructor
 · intro h
   unfold hasI at h
   split at h
   · rename_i hl
     rw [←of_decide_eq_true h];exact List.mem_map.2 ⟨_,List.getElem_mem hl,rfl⟩
   · cases h
 · intro h
   obtain ⟨x,hx,hk⟩:=List.mem_map.1 h;obtain ⟨i,hi,rfl⟩:=List.getElem_of_mem hx;have h1:atI l k≤i:=by
    rcases Nat.lt_or_ge i (atI l k) with h'|h'
    · have:=atI_lt hi h'
      rw [hk,ltK_irrefl] at this
      cases this
    · exact h'
   have h2:atI l k=i:=by
    rcases Nat.lt_or_ge (atI l k) i with h'|h'
    · have h3:=sorted_get hs hi h'
      rw [hk] at h3;rw [atI_ge (by omega)] at h3
      cases h3
    · omega
   unfold hasI;rw [dif_pos (by omega)];simp only [h2,hk,decide_true]
theorem above_at {l:List It} (hs:(keysI l).Pairwise (fun a b=>ltK a b=true)) {k:Ky} {j:Nat} (hj:j<l.length) (h:(if hasI l k=true then atI l k+1 else atI l k)≤j):ltK k l[j].key=true:=by
 cases hh:hasI l k with
 | true =>
   rw [hh,if_pos rfl] at h;have h1:∃hl:atI l k<l.length,l[atI l k].key=k:=by
    unfold hasI at hh
    split at hh
    · rename_i hl
      exact ⟨hl,of_decide_eq_true hh⟩
    · cases hh
   obtain ⟨hl,hk⟩:=h1;have:=sorted_get hs hj (show atI l k<j by omega);rw [hk] at this;exact this
 | false =>
   rw [hh,if_neg (by simp)] at h;have hne:l[j].key≠k:=fun e=>by
    have:=(hasI_iff hs k).2 (List.mem_map.2 ⟨_,List.getElem_mem hj,e⟩);rw [hh] at this
    cases this
   have hn:ltK l[j].key k=false:=by
    have h0:=atI_ge (l:=l) (k:=k) (by omega)
    cases hx:ltK l[j].key k with
    | false=>rfl
    | true =>
      rcases Nat.lt_or_ge (atI l k) j with h'|h'
      · rw [ltK_trans (sorted_get hs hj h') hx] at h0
        cases h0
      · have:atI l k=j:=by omega
        simp only [this] at h0
        rw [h0] at hx
        cases hx
   cases hx:ltK k l[j].key with
   | true=>rfl
   | false=>exact absurd (ltK_total hn hx) hne
theorem mem_outI {l:List It} (hs:(keysI l).Pairwise (fun a b=>ltK a b=true)) (k:Ky) (y:Nd) (q:Ky) (z:Nd):(q,z)∈outI l k y ↔ (q=k∧z=y)∨((q,z)∈l.map absI∧q≠k):=by
 unfold outI;rw [List.mem_append,List.mem_append,List.mem_singleton]
 constructor
 · rintro ((h|h)|h)
   · obtain ⟨i,hi⟩:=List.getElem?_of_mem h
     rw [List.getElem?_take] at hi
     split at hi
     · rename_i hlt
       obtain ⟨hil,he⟩:=List.getElem?_eq_some_iff.1 hi;simp only [List.length_map] at hil
       simp only [List.getElem_map,absI,Prod.mk.injEq] at he
       refine .inr ⟨List.mem_of_mem_take h,fun e=>?_⟩;have:=atI_lt hil hlt;rw [he.1,e,ltK_irrefl] at this
       cases this
     · cases hi
   · injection h with h1 h2
     exact .inl ⟨h1,h2⟩
   · obtain ⟨i,hi⟩:=List.getElem?_of_mem h
     rw [List.getElem?_drop] at hi;obtain ⟨hil,he⟩:=List.getElem?_eq_some_iff.1 hi;simp only [List.length_map] at hil
     simp only [List.getElem_map,absI,Prod.mk.injEq] at he
     refine .inr ⟨List.mem_of_mem_drop h,fun e=>?_⟩;have:=above_at hs hil (Nat.le_add_right _ i);rw [he.1,e,ltK_irrefl] at this
     cases this
 · rintro (⟨rfl,rfl⟩|⟨h,hq⟩)
   · exact .inl (.inr rfl)
   · obtain ⟨x,hx,he⟩:=List.mem_map.1 h
     obtain ⟨i,hi,rfl⟩:=List.getElem_of_mem hx;simp only [absI,Prod.mk.injEq] at he
     by_cases h1:i<atI l k
     · refine .inl (.inl ?_)
       refine List.mem_of_getElem? (i:=i) ?_;rw [List.getElem?_take,if_pos h1];simp [hi,absI,he]
     · by_cases h2:(if hasI l k=true then atI l k+1 else atI l k)≤i
       · refine .inr ?_
         refine List.mem_of_getElem? (i:=i - (if hasI l k=true then atI l k+1 else atI l k)) ?_;rw [List.getElem?_drop,Nat.add_sub_cancel' h2];simp [hi,absI,he]
       · exfalso
         split at h2
         · rename_i hh
           have h3:i=atI l k:=by omega
           subst h3;obtain ⟨hl,hg⟩:=getL_has hh;unfold hasI at hh;rw [dif_pos hl] at hh;exact hq (he.1.symm.trans (of_decide_eq_true hh))
         · omega
theorem outI_sorted {l:List It} (hs:(keysI l).Pairwise (fun a b=>ltK a b=true)) (k:Ky) (y:Nd):((outI l k y).map (·.1)).Pairwise (fun a b=>ltK a b=true):=by
 unfold outI;simp only [List.map_append,List.map_cons,List.map_nil,List.map_take,List.map_drop,List.map_map]
 have e:(Prod.fst ∘ absI:It→Ky)=(·.key):=rfl;rw [show List.map ((fun x:Ky × Nd=>x.1) ∘ absI) l=keysI l from rfl];have hlow:∀q∈(keysI l).take (atI l k),ltK q k=true:=fun q hq=>by
  obtain ⟨i,hi⟩:=List.getElem?_of_mem hq;rw [List.getElem?_take] at hi
  split at hi
  · rename_i hlt
    have hil:i<l.length:=by have:=(List.getElem?_eq_some_iff.1 hi).1;simpa [keysI] using this
    rw [key_at hil] at hi;injection hi with hi
    rw [←hi];exact atI_lt hil hlt
  · cases hi
 have hhigh:∀q∈(keysI l).drop (if hasI l k=true then atI l k+1 else atI l k),ltK k q=true:=fun q hq=>by
  obtain ⟨i,hi⟩:=List.getElem?_of_mem hq;rw [List.getElem?_drop] at hi;have hil:(if hasI l k=true then atI l k+1 else atI l k)+i<l.length:=by have:=(List.getElem?_eq_some_iff.1 hi).1;simpa [keysI] using this
  rw [key_at hil] at hi;injection hi with hi
  rw [←hi];exact above_at hs hil (Nat.le_add_right _ i)
 rw [List.pairwise_append,List.pairwise_append];refine ⟨⟨hs.sublist (List.take_sublist _ _),List.pairwise_singleton _ _,fun a ha b hb=>?_⟩,hs.sublist (List.drop_sublist _ _),fun a ha b hb=>?_⟩
 · rw [List.mem_singleton.1 hb];exact hlow a ha
 · rcases List.mem_append.1 ha with ha|ha
   · exact ltK_trans (hlow a ha) (hhigh b hb)
   · rw [List.mem_singleton.1 ha];exact hhigh b hb
end
section
open Go.RowKit Go.Lib Go.Sort
theorem sameN.ok {rs rh:Nat} {x y:Nd} (h:sameN x y) (hx:NdOk rs rh x):NdOk rs rh y:=⟨by rw [←h.1];exact hx.ris,by rw [←h.1];exact hx.len,by rw [←h.2.1];exact hx.past⟩
end
section
open Go.RowKit Go.Lib
theorem eNm:EltOf 135 2 1 8 (.int .i64 0) nmC :=
 ⟨by kernel_rfl,by kernel_rfl,rfl,by decide,by decide,fun _=>rfl,fun x u hu=>by
  simp only [nmC,List.mem_cons,List.not_mem_nil,or_false] at hu
  rcases hu with rfl
  rfl⟩
theorem satSub_any (a b:Int) (w:World) (ha:I64 a) (hb:I64 b) :
 Calls Tryz.prog 203 #[.int .i64 a,.int .i64 b] w fun e w'=>e=.returned (.int .i64 (endsI (a - b)))∧w=w':=by
 by_cases h:b = -9223372036854775808
 · subst h
   obtain ⟨s,hs⟩:∃s,s=endsI (a+9223372036854775807):=⟨_,rfl⟩;obtain ⟨t,ht⟩:∃t:Int,t=if decide (a<0)=true then 1 else 0:=⟨_,rfl⟩;have HE:=jH (show endsI (s+t)=endsI (a - -9223372036854775808) by rw [hs,ht];exact sub_end ha _ rfl);have HT:=jH ht;have HS:=jH (show I64 s by rw [hs];exact endsI_i64 _);have HS2:=jH hs;have HA:=jH ha;have HTI:=jH (show I64 t by rw [ht];unfold I64;split <;> omega);clear hs ht ha hb
   go_enter Tryz.func203,Tryz.ntmps203
   go_wp2_with (first
    | (go_at_call 228
       refine (satBit_any _ _).mono ?_;rw [←HT.out];rintro e w1 ⟨rfl,rfl⟩;have HB:=jH True.intro)
    | (go_at_call 202
       have h9:=HB;refine (satAdd_any s t _ HS.out HTI.out).mono ?_;rw [HE.out];rintro e w1 ⟨rfl,rfl⟩;clear h9)
    | (go_at_call 202
       refine (satAdd_any a 9223372036854775807 _ HA.out (by unfold I64;omega)).mono ?_;rw [←HS2.out];rintro e w1 ⟨rfl,rfl⟩))
   go_ret
   exact ⟨rfl,rfl⟩
 · have HE:=jH (show endsI (a+IntKind.i64.wrap (-b))=endsI (a - b) from sub_ends ha hb h)
   have hn:I64 (-b):=by unfold I64 at *;omega
   have q1:wrap64 (-b) = -b:=by unfold I64 at hn;unfold wrap64;omega
   have q2:IntKind.i64.wrap (-b) = -b:=by unfold I64 at hn;rw [IntKind.wrap_i64];omega
   rw [q2] at HE;have HA:=jH ha;have HN:=jH hn;have q3:(b == -9223372036854775808)=false:=by simpa using h
   clear ha hb hn
   go_enter Tryz.func203,Tryz.ntmps203
   go_wp2_with (first
    | (go_at_call 202
       refine (satAdd_any a (-b) _ HA.out HN.out).mono ?_;rw [HE.out];rintro e w1 ⟨rfl,rfl⟩))
   go_ret
   exact ⟨rfl,rfl⟩
theorem winFrom_any (a b:Int) (w:World) (ha:I64 a) (hb:I64 b) :
 Calls Tryz.prog 169 #[.int .i64 a,.int .i64 b] w fun e w'=>e=.returned (.int .i64 (fromW a b))∧w=w':=by
 have C1:=jH (satSub_any a b w ha hb);have C2:=jH (satAdd_any (endsI (a - b)) 1 w (endsI_i64 _) (by unfold I64;omega));unfold fromW;generalize endsI (a - b)=s at C1 C2 ⊢;generalize endsI (s+1)=t at C2 ⊢;clear ha hb
 go_enter Tryz.func169,Tryz.ntmps169
 go_wp2_with (first
  | (go_at_call 203
     refine C1.out.mono ?_;rintro e w1 ⟨rfl,rfl⟩)
  | (go_at_call 202
     refine C2.out.mono ?_;rintro e w1 ⟨rfl,rfl⟩))
 go_ret
 exact ⟨rfl,rfl⟩
theorem satSum_any (v:Value) (l:List Int) (w:World) (hv:RowIn 1 nmC w v l) (hl:l.length≤1000000) (hi:∀n∈l,I64 n) :
 Calls Tryz.prog 198 #[v] w fun e w'=>e=.returned (.int .i64 (sumE l 0))∧w=w':=by
 obtain ⟨A,c,rfl⟩:=hv.form;have HV:=jH hv;have HI:=jH hi;have hl9:l.length≤9223372036854775807:=by omega
 clear hv hi
 go_enter Tryz.func198,Tryz.ntmps198
 go_wp2
 go_loopg [3,8] l.length (fun g s3 s8 wr=>∃k:Nat,k≤l.length∧l.length - k≤g∧s8=.int .i64 k∧s3=.int .i64 (sumE (l.take k) 0)∧w=wr)
 case atStart=>exact ⟨0,Nat.zero_le _,Nat.le_refl _,rfl,by simp [sumE],rfl⟩
 case round =>
  obtain ⟨k,hk,hg,rfl,rfl,rfl⟩:=hrel
  by_cases hlt:k<l.length
  · obtain ⟨b1,o1,rfl,hb1,hc⟩:=HV.out.at_ hlt
    have z1:(0:Int)≤(k:Int):=by omega
    have z2:(k:Int)<(l.length:Int):=by omega
    have HS:=jH (show sumE (l.take (k+1)) 0=endsI (sumE (l.take k) 0+l[k]) by rw [List.take_succ_eq_append_getElem hlt,sumE_snoc]);have d0:=hc 0 _ rfl;rw [Nat.add_zero,Nat.mul_one] at d0;have HN:=jH (satAdd_any (sumE (l.take k) 0) l[k] w (sumE_i64 _ _ i64_0) (HI.out _ (List.getElem_mem hlt)));rw [←HS.out] at HN;generalize sumE (l.take k) 0=s at HN ⊢;generalize l[k]=x at HN d0;clear hc HS
    go_wp2_with (first
     | (go_at_call 202
        refine HN.out.mono ?_;rintro e w1 ⟨rfl,rfl⟩))
    go_roundg (l.length - (k+1))
    case measure=>omega
    case rel=>exact ⟨k+1,hlt,Nat.le_refl _,by go_num,rfl,rfl⟩
  · obtain rfl:k=l.length:=by omega
    rw [List.take_length];go_wp2
    go_ret
    exact ⟨rfl,rfl⟩
end
section
open Go.RowKit Go.Lib
theorem refFrom_any (a b:Int) (w:World) (ha:I64 a) (hb:I64 b) :
 Calls Tryz.prog 129 #[.int .i64 a,.int .i64 b] w fun e w'=>e=.returned (.int .i64 (fromW a b))∧w=w':=by
 have C1:=jH (refSub_any a b w ha hb);have C2:=jH (refAdd_any (endsI (a - b)) 1 w (endsI_i64 _) (by unfold I64;omega));unfold fromW;generalize endsI (a - b)=s at C1 C2 ⊢;generalize endsI (s+1)=t at C2 ⊢;clear ha hb
 go_enter Tryz.func129,Tryz.ntmps129
 go_wp2_with (first
  | (go_at_call 173
     refine C1.out.mono ?_;rintro e w1 ⟨rfl,rfl⟩)
  | (go_at_call 172
     refine C2.out.mono ?_;rintro e w1 ⟨rfl,rfl⟩))
 go_ret
 exact ⟨rfl,rfl⟩
theorem refSum_any (v:Value) (l:List Int) (w:World) (hv:RowIn 1 nmC w v l) (hl:l.length≤1000000) (hi:∀n∈l,I64 n) :
 Calls Tryz.prog 215 #[v] w fun e w'=>e=.returned (.int .i64 (sumE l 0))∧w=w':=by
 obtain ⟨A,c,rfl⟩:=hv.form;have HV:=jH hv;have HI:=jH hi;have hl9:l.length≤9223372036854775807:=by omega
 clear hv hi
 go_enter Tryz.func215,Tryz.ntmps215
 go_wp2
 go_loopg [3,4] l.length (fun g s3 s8 wr=>∃k:Nat,k≤l.length∧l.length - k≤g∧s8=.int .i64 k∧s3=.int .i64 (sumE (l.take k) 0)∧w=wr)
 case atStart=>exact ⟨0,Nat.zero_le _,Nat.le_refl _,rfl,by simp [sumE],rfl⟩
 case round =>
  obtain ⟨k,hk,hg,rfl,rfl,rfl⟩:=hrel
  by_cases hlt:k<l.length
  · obtain ⟨b1,o1,rfl,hb1,hc⟩:=HV.out.at_ hlt
    have z1:(0:Int)≤(k:Int):=by omega
    have z2:(k:Int)<(l.length:Int):=by omega
    have HS:=jH (show sumE (l.take (k+1)) 0=endsI (sumE (l.take k) 0+l[k]) by rw [List.take_succ_eq_append_getElem hlt,sumE_snoc]);have d0:=hc 0 _ rfl;rw [Nat.add_zero,Nat.mul_one] at d0;have HN:=jH (refAdd_any (sumE (l.take k) 0) l[k] w (sumE_i64 _ _ i64_0) (HI.out _ (List.getElem_mem hlt)));rw [←HS.out] at HN;generalize sumE (l.take k) 0=s at HN ⊢;generalize l[k]=x at HN d0;clear hc HS
    go_wp2_with (first
     | (go_at_call 172
        refine HN.out.mono ?_;rintro e w1 ⟨rfl,rfl⟩))
    go_roundg (l.length - (k+1))
    case measure=>omega
    case rel=>exact ⟨k+1,hlt,Nat.le_refl _,by go_num,rfl,rfl⟩
  · obtain rfl:k=l.length:=by omega
    rw [List.take_length];go_wp2
    go_ret
    exact ⟨rfl,rfl⟩
theorem refCut_any (v:Value) (l:List Smp) (a b:Int) (w:World) (hv:RowIn 2 smpC w v l) (hl:l.length≤1000000) :
 Calls Tryz.prog 128 #[v,.int .i64 a,.int .i64 b] w fun e w'=>∃A c,e=.returned (.slice A (winC l a b).length c)∧OwnL smpC 118 2 w.heap.size w' (.slice A (winC l a b).length c) (winC l a b)∧jB w w':=by
 obtain ⟨A,c,rfl⟩:=hv.form;have HV:=jH hv;have HL:=jH hl;have hl9:l.length≤9223372036854775807:=by omega
 clear hv hl
 go_enter Tryz.func128,Tryz.ntmps128
 go_wp2
 go_loopg [7,8] l.length (fun g s7 s12 wr=>∃k:Nat,k≤l.length∧l.length - k≤g∧s12=.int .i64 k∧OwnL smpC 118 2 w.heap.size wr s7 (winC (l.take k) a b)∧jB w wr)
 case atStart=>exact ⟨0,Nat.zero_le _,Nat.le_refl _,rfl,by simp [winC];exact OwnL.nil _ _,jR⟩
 case round =>
  obtain ⟨k,hk,hg,rfl,hown,hb⟩:=hrel;rename World=>wr
  obtain ⟨pre,hpre⟩:∃pre,pre=winC (l.take k) a b:=⟨_,rfl⟩;rw [←hpre] at hown;obtain ⟨A5,c5,rfl⟩:=hown.form;have HPL:=jH (show pre.length≤k by rw [hpre];exact Nat.le_trans (cut_len _ _ _) (by simp;omega));have HPRE:=jH hpre;have HO:=jH hown;have HB:=jH hb;clear hpre hown hb
  by_cases hlt:k<l.length
  · obtain ⟨b1,o1,rfl,hb1,hc⟩:=(HV.out.below HB.out).at_ hlt
    have z1:(0:Int)≤(k:Int):=by omega
    have z2:(k:Int)<(l.length:Int):=by omega
    have HTK:=jH (show winC (l.take (k+1)) a b=pre++if a≤l[k].1∧l[k].1≤b then [l[k]] else [] by rw [List.take_succ_eq_append_getElem hlt,winC_snoc,HPRE.out]);generalize l[k]=x at hc HTK;have d0:=hc 0 _ rfl;have d1:=hc 1 _ rfl;rw [Nat.add_zero] at d0;have HK:=jH hlt;clear hc
    by_cases h1:a≤x.1
    · by_cases h2:x.1≤b
      · as_aux_lemma =>
        go_wp2_with (first
         | (at_builtin
            refine wpList_appendL eSmp (by rfl) (by rfl) w.heap.size pre [x] (.slice A5 pre.length c5) _ (by rfl) (by rfl) (HO.out.below (balloc jR _)) (RowIn.lit _ x _ _ wr.heap.size rfl rfl) (by have:=HPL.out;have:=HL.out;have:=HK.out;simp;omega) (by have:=HB.out.size;simp;omega) ?_;intro out2 A9 c9 w13 hout2 hown2 hg2 _;have HO13:=jH hout2;have HW13:=jH hown2;have HB13:=jH (show jB w w13 from (balloc HB.out _).trans (grown_own hg2 HO.out (by have:=HB.out.size;simp;omega)))
            clear hout2 hown2 hg2))
        go_roundg (l.length - (k+1))
        case measure=>omega
        case rel=>exact ⟨k+1,HK.out,Nat.le_refl _,by go_num,by rw [HTK.out,if_pos ⟨h1,h2⟩,←HO13.out];exact HW13.out,HB13.out⟩
      · as_aux_lemma =>
        go_wp2_with fail
        go_roundg (l.length - (k+1))
        case measure=>omega
        case rel=>exact ⟨k+1,HK.out,Nat.le_refl _,by go_num,by rw [HTK.out,if_neg (by omega),List.append_nil];exact HO.out,HB.out⟩
    · as_aux_lemma =>
      go_wp2_with fail
      go_roundg (l.length - (k+1))
      case measure=>omega
      case rel=>exact ⟨k+1,HK.out,Nat.le_refl _,by go_num,by rw [HTK.out,if_neg (by omega),List.append_nil];exact HO.out,HB.out⟩
  · obtain rfl:k=l.length:=by omega
    have hp:=HPRE.out;rw [List.take_length] at hp;have HP:=jH hp;clear hp;go_wp2_with fail
    go_ret
    exact ⟨A5,c5,by rw [HP.out];rfl,by rw [←HP.out];exact HO.out,HB.out⟩
theorem refVals_any (v:Value) (l:List Smp) (w:World) (hv:RowIn 2 smpC w v l) (hl:l.length≤1000000) :
 Calls Tryz.prog 170 #[v] w fun e w'=>∃A c,e=.returned (.slice A (valsW l).length c)∧OwnL nmC 2 1 w.heap.size w' (.slice A (valsW l).length c) (valsW l)∧jB w w':=by
 obtain ⟨A,c,rfl⟩:=hv.form;have HV:=jH hv;have HL:=jH hl;have hl9:l.length≤9223372036854775807:=by omega
 clear hv hl
 go_enter Tryz.func170,Tryz.ntmps170
 go_wp2
 go_loopg [3,4] l.length (fun g s7 s12 wr=>∃k:Nat,k≤l.length∧l.length - k≤g∧s12=.int .i64 k∧OwnL nmC 2 1 w.heap.size wr s7 (valsW (l.take k))∧jB w wr)
 case atStart=>exact ⟨0,Nat.zero_le _,Nat.le_refl _,rfl,by simp [valsW];exact OwnL.nil _ _,jR⟩
 case round =>
  obtain ⟨k,hk,hg,rfl,hown,hb⟩:=hrel;rename World=>wr
  obtain ⟨pre,hpre⟩:∃pre,pre=valsW (l.take k):=⟨_,rfl⟩;rw [←hpre] at hown;obtain ⟨A5,c5,rfl⟩:=hown.form;have HPL:=jH (show pre.length≤k by rw [hpre,vals_len];simp;omega);have HPRE:=jH hpre;have HO:=jH hown;have HB:=jH hb;clear hpre hown hb
  by_cases hlt:k<l.length
  · obtain ⟨b1,o1,rfl,hb1,hc⟩:=(HV.out.below HB.out).at_ hlt
    have z1:(0:Int)≤(k:Int):=by omega
    have z2:(k:Int)<(l.length:Int):=by omega
    have HTK:=jH (show valsW (l.take (k+1))=pre++[max l[k].2 0] by rw [List.take_succ_eq_append_getElem hlt,valsW_snoc,HPRE.out]);generalize l[k]=x at hc HTK;have d0:=hc 0 _ rfl;have d1:=hc 1 _ rfl;rw [Nat.add_zero] at d0;have HK:=jH hlt;clear hc
    by_cases h0:x.2<0
    · rw [Int.max_eq_right (by omega)] at HTK
      as_aux_lemma =>
      go_wp2_with (first
       | (at_builtin
          refine wpList_appendL eNm (by rfl) (by rfl) w.heap.size pre [0] (.slice A5 pre.length c5) _ (by rfl) (by rfl) (HO.out.below (balloc jR _)) (RowIn.lit _ (0) _ _ wr.heap.size rfl (by simp [nmC])) (by have:=HPL.out;have:=HL.out;have:=HK.out;simp;omega) (by have:=HB.out.size;simp;omega) ?_;intro out2 A9 c9 w13 hout2 hown2 hg2 _;have HO13:=jH hout2;have HW13:=jH hown2;have HB13:=jH (show jB w w13 from (balloc HB.out _).trans (grown_own hg2 HO.out (by have:=HB.out.size;simp;omega)))
          clear hout2 hown2 hg2))
      go_roundg (l.length - (k+1))
      case measure=>omega
      case rel=>exact ⟨k+1,HK.out,Nat.le_refl _,by go_num,by rw [HTK.out,←HO13.out];exact HW13.out,HB13.out⟩
    · rw [Int.max_eq_left (by omega)] at HTK
      as_aux_lemma =>
      go_wp2_with (first
       | (at_builtin
          refine wpList_appendL eNm (by rfl) (by rfl) w.heap.size pre [x.2] (.slice A5 pre.length c5) _ (by rfl) (by rfl) (HO.out.below (balloc jR _)) (RowIn.lit _ (x.2) _ _ wr.heap.size rfl (by simp [nmC])) (by have:=HPL.out;have:=HL.out;have:=HK.out;simp;omega) (by have:=HB.out.size;simp;omega) ?_;intro out2 A9 c9 w13 hout2 hown2 hg2 _;have HO13:=jH hout2;have HW13:=jH hown2;have HB13:=jH (show jB w w13 from (balloc HB.out _).trans (grown_own hg2 HO.out (by have:=HB.out.size;simp;omega)))
          clear hout2 hown2 hg2))
      go_roundg (l.length - (k+1))
      case measure=>omega
      case rel=>exact ⟨k+1,HK.out,Nat.le_refl _,by go_num,by rw [HTK.out,←HO13.out];exact HW13.out,HB13.out⟩
  · obtain rfl:k=l.length:=by omega
    have hp:=HPRE.out;rw [List.take_length] at hp;have HP:=jH hp;clear hp;go_wp2_with fail
    go_ret
    exact ⟨A5,c5,by rw [HP.out];rfl,by rw [←HP.out];exact HO.out,HB.out⟩
end
section
open Go.RowKit Go.Lib
theorem zero_bits:Tryz.zeroCells280=(bitsL fun _=>false).toArray:=by kernel_rfl
theorem num_size (f:Nat→Bool):(Tryz.prog.info? 280).map (·.size)=some (bitsL f).length:=by rw [bitsL_len];kernel_rfl
theorem num_sizeA (f:Nat→Bool):(Tryz.prog.info? 280).map (·.size)=some (bitsL f).toArray.size:=by rw [List.size_toArray,bitsL_len];kernel_rfl
theorem bits_one (f:Nat→Bool):(bitsL f).toArray.all (·.oneCell')=true:=all_oneCell_toArray (fun v hv=>by
 obtain ⟨j,_,rfl⟩:=List.mem_map.1 hv;rfl)
def BitB (w:World) (B:Nat) (f:Nat→Bool):Prop:=w.heap[B]?=some (.cells (bitsL f).toArray 280 (0,0))
theorem BitB.cell {w:World} {B:Nat} {f:Nat→Bool} (h:BitB w B f) {i:Nat} (hi:i<128):w.cell? ⟨B,i,none⟩=some (.bool (f i))∧w.frozen? ⟨B,i,none⟩=false:=by
 obtain ⟨h1,h2,_⟩:=box_cells (Below.refl w.heap.size w) h;refine ⟨?_,h2 i⟩;rw [h1 i]
 simpa using bitsL_get f i hi
theorem BitB.range {w:World} {B:Nat} {f:Nat→Bool} (h:BitB w B f):∀j v,(bitsL f)[j]?=some v→w.cell? ⟨B,0+j,none⟩=some v:=fun j v hj=>by
 obtain ⟨h1,_,_⟩:=box_cells (Below.refl w.heap.size w) h;rw [Nat.zero_add,h1 j]
 simpa using hj
theorem BitB.set {w:World} {B:Nat} {f:Nat→Bool} (h:BitB w B f) {i:Nat} (hi:i<128) (b:Bool):BitB (w.setCell ⟨B,i,none⟩ (.bool b)) B (updB f i b):=by
 have:=setCell_block (i:=i) (v:=.bool b) h;unfold BitB;rw [this,List.setIfInBounds_toArray,bitsL_set f i b hi]
theorem BitB.ne {w:World} {B C i:Nat} {v:Value} {f:Nat→Bool} (h:BitB w B f) (hn:B≠C):BitB (w.setCell ⟨C,i,none⟩ v) B f:=heap_set_ne h hn
theorem BitB.below {w w':World} {B:Nat} {f:Nat→Bool} (h:BitB w B f) (hb:jB w w'):BitB w' B f:=jK hb h
theorem BitB.there {w:World} {B:Nat} {f:Nat→Bool} (h:BitB w B f) (g:Nat→Bool):w.there B 0 (bitsL g).toArray.size:=fun j hj=>by
 rw [List.size_toArray,bitsL_len] at hj;obtain ⟨h1,h2⟩:=h.cell hj;rw [Nat.zero_add];exact ⟨by rw [h1];rfl,h2⟩
theorem setCells_stor:∀(vs:List Value) (w:World) (B i:Nat),w.setCells B i vs=stor w B i vs
  | [],w,B,i=>rfl
  | v::vs,w,B,i=>setCells_stor vs _ B (i+1)
theorem BitB.store {w:World} {B:Nat} {f:Nat→Bool} (h:BitB w B f) (g:Nat→Bool):BitB (w.setCells B 0 (bitsL g)) B g∧(∀k,k≠B→(w.setCells B 0 (bitsL g)).heap[k]?=w.heap[k]?)∧∀n,n≤B→Below n w (w.setCells B 0 (bitsL g)):=by
 obtain ⟨a,b,_,d⟩:=stor_at h (bitsL g) (by simp [bitsL_len]) _ (setCells_stor (bitsL g) w B 0);exact ⟨a,b,d⟩
theorem BitB.load {w:World} {B:Nat} {f:Nat→Bool} (h:BitB w B f):(loadVar 280 ⟨B,0,none⟩).run Tryz.prog w=.ok (.agg (bitsL f).toArray) w :=
 run_loadVar_mid w B 0 280 (bitsL f) _ h.range Tryz.underlying280 rfl (num_size f)
theorem bit_new (w:World) (f:Nat→Bool):BitB (w.alloc (.cells (bitsL f).toArray 280)) w.heap.size f:=heap_alloc_new _ _
end
section
open Go.RowKit Go.Lib
theorem eEvR:EltOf 81 137 34 280 (.agg #[.int .i64 0,.int .i64 0,.int .i64 0,.int .i64 0,.string ⟨#[]⟩,.int .i64 0,.int .i64 0,.int .i64 0,.int .i64 0,.int .i64 0,.int .i64 0,.int .i64 0,.int .i64 0,.int .i64 0,.int .i64 0,.int .i64 0,.int .i64 0,.int .i64 0,.int .i64 0,.int .i64 0,.int .i64 0,.int .i64 0,.int .i64 0,.int .i64 0,.int .i64 0,.int .i64 0,.int .i64 0,.int .u64 0,.int .u64 0,.int .i64 0,.int .i64 0,.int .i64 0,.int .i64 0,.int .i64 0]) evC :=
 ⟨by kernel_rfl,by kernel_rfl,rfl,by decide,by decide,fun _=>rfl,fun x u hu=>evC_one x u hu⟩
theorem ofE_snoc {t:Int} {es:List EvtD} {e:EvtD}:ofE t (es++[e])=if e.task=t then ofE t es++[e] else ofE t es:=by
 unfold ofE;rw [List.filter_append]
 by_cases h:e.task=t
 · rw [if_pos h,List.filter_cons_of_pos (by simpa using h)];rfl
 · rw [if_neg h,List.filter_cons_of_neg (by simpa using h)];simp
theorem ofE_len (t:Int) (es:List EvtD):(ofE t es).length≤es.length:=List.length_filter_le _ _
theorem of30_any (v:Value) (es:List EvtD) (t:Int) (w:World) (he:RowIn 34 evC w v es) (hel:es.length≤100) :
 Calls Tryz.prog 77 #[v,.int .i64 t] w fun e w'=>∃u,e=.returned u∧OwnL evC 137 34 w.heap.size w' u (ofE t es)∧jB w w':=by
 obtain ⟨A,c,rfl,hAc,h0⟩:=id he;clear h0;have HE:=jH he;have HEL:=jH hel;have q9:(es.length:Int)≤100:=by omega
 clear he hAc hel
 go_enter Tryz.func77,Tryz.ntmps77
 go_wp2_with fail
 go_loopg [5,6] es.length (fun g s5 s6 wr=>∃k:Nat,k≤es.length∧es.length - k≤g∧s6=.int .i64 k∧OwnL evC 137 34 w.heap.size wr s5 (ofE t (es.take k))∧jB w wr)
 case atStart=>exact ⟨0,Nat.zero_le _,Nat.le_refl _,rfl,OwnL.nil _ _,jR⟩
 case round =>
  obtain ⟨k,hk,hg,rfl,hown,hbw⟩:=hrel;rename World=>wr
  have HBr:=jH hbw
  by_cases hlt:k<es.length
  · have z1:(k:Int)<(es.length:Int):=by omega
    have z2:(0:Int)≤(k:Int):=by omega
    obtain ⟨b1,o1,rfl,hb1,hc⟩:=(HE.out.below HBr.out).at_ hlt;obtain ⟨B1,e1,rfl⟩:=hown.form;have hcl:(evC es[k]).length=34:=rfl;have HT2:=jH (show ofE t (es.take (k+1))=if es[k].task=t then ofE t (es.take k)++[es[k]] else ofE t (es.take k) by rw [List.take_succ_eq_append_getElem hlt,ofE_snoc]);have htl:(ofE t (es.take k)).length≤100:=Nat.le_trans (ofE_len _ _) (by rw [List.length_take];have:=HEL.out;omega)
    generalize ofE t (es.take k)=ys at hown HT2 htl ⊢;have HY:=jH hown;have HYL:=jH htl;have c1:wr.cell? ⟨b1,o1+k * 34+1,none⟩=some (.int .i64 es[k].task):=hc 1 _ rfl;obtain ⟨cs,hcs⟩:∃cs,cs=evC es[k]:=⟨_,rfl⟩;rw [←hcs] at hc hcl;generalize es[k]=x at hcs HT2 c1;have HCS:=jH hcs;have HC:=jH hc;have HCL:=jH hcl;clear hc hcl hown htl hcs hbw
    by_cases hx:x.task=t
    · have HT3:=jH (HT2.out.trans (if_pos hx))
      have zt:(x.task == t)=true:=by simpa using hx
      clear hx
      go_wp2_with (first
       | (refine wpList_load_list rfl 137 (.tmp 23) rfl b1 (o1+k * 34) cs HC.out (by rfl) _ Tryz.underlying137 (by rfl) (by rw [HCL.out];kernel_rfl) ?_)
       | (refine wpList_build_one eEvR (by decide) rfl (.tmp 24) rfl cs HCL.out (by rfl) ?_)
       | (at_builtin
          refine wpList_appendL eEvR (by rfl) (by rfl) w.heap.size ys [x] (.slice B1 ys.length e1) _ (by rfl) (by rfl) (HY.out.below (balloc jR _)) (RowIn.lit (n:=34) (f:=evC) wr x cs.toArray _ _ rfl (by simp [HCS.out])) (by have:=HYL.out;simp;omega) (by have:=HBr.out.size;simp;omega) ?_;intro out A2 c2 w3 hout hown hg hor;have HOU:=jH (show out=ys++[x] from hout);have hb7:jB w w3:=(bthen HBr.out (balloc jR _)).trans (grown_own hg HY.out (by have:=HBr.out.size;simp;omega))
          have HO:=jH hown;have HB7:=jH hb7;clear hown hout hg hor hb7))
      go_roundg (es.length - (k+1))
      case measure=>omega
      case rel=>exact ⟨k+1,hlt,Nat.le_refl _,by go_num,by rw [HT3.out,←HOU.out];exact HO.out,HB7.out⟩
    · have HT3:=jH (HT2.out.trans (if_neg hx))
      have zt:(x.task == t)=false:=by simpa using hx
      clear hx;go_wp2_with fail
      go_roundg (es.length - (k+1))
      case measure=>omega
      case rel=>exact ⟨k+1,hlt,Nat.le_refl _,by go_num,by rw [HT3.out];exact HY.out,HBr.out⟩
  · obtain rfl:k=es.length:=by omega
    have z1:¬(es.length:Int)<(es.length:Int):=by omega
    rw [List.take_length] at hown;obtain ⟨B1,e1,rfl⟩:=hown.form;have HO:=jH hown;clear hown hbw;go_wp2_with fail
    go_ret
    exact ⟨_,rfl,HO.out,HBr.out⟩
end
end Go.Proofs.YtkcdhaallnhhmaaGreat
