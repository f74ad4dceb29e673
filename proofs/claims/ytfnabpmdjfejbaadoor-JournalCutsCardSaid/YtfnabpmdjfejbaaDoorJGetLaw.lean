/- What bytes begin with: the call that is read, how many bytes it has, an error. -/
import Derived.Test.YtfnabpmdjfejbaaDoorJRPut
namespace Go.Proofs.YtfnabpmdjfejbaaDoor
set_option linter.unusedSimpArgs false
set_option linter.unusedVariables false
open Go.RowKit Go.Lib

def callZ : CallD := ⟨0, ⟨#[]⟩, 0, 0, 0, polZ⟩
def szB (b : List UInt8) : Nat := (b.getD 0 0).toNat + 1
def shortB (b : List UInt8) : Prop := b = [] ∨ b.length < (b.getD 0 0).toNat + 5
def headB (b : List UInt8) : List UInt8 := b.take (szB b)
def n1B (b : List UInt8) : Nat := ((headB b).getD 1 0).toNat
def idG (b : List UInt8) : ByteArray := ⟨(((headB b).take (2 + n1B b)).drop 2).toArray⟩
def numsG (b : List UInt8) : Option (List Int) := allB ((headB b).drop (2 + n1B b))
instance (b : List UInt8) : Decidable (shortB b) := by unfold shortB; exact inferInstance
def headOk (b : List UInt8) : Prop := sealB (headB b) = (b.take (szB b + 4)).drop (szB b) ∧ 2 ≤ szB b ∧ n1B b + 2 ≤ szB b
instance (b : List UInt8) : Decidable (headOk b) := by unfold headOk; exact inferInstance
def callG (b : List UInt8) (n : List Int) : CallD × Nat × Int :=
  if n = [] then (callZ, 0, 10) else if textE (callN n (idG b)) = 0 ∧ putB (callN n (idG b)) = b.take (szB b + 4) then (callN n (idG b), szB b + 4, 0) else (callZ, 0, 10)
def getB (b : List UInt8) : CallD × Nat × Int :=
  if shortB b then (callZ, 0, 11) else if ¬ headOk b then (callZ, 0, 10) else match numsG b with
    | none => (callZ, 0, 10)
    | some n => callG b n
theorem get_short {b : List UInt8} (h : shortB b) : getB b = (callZ, 0, 11) := by unfold getB; rw [if_pos h]
theorem get_bad {b : List UInt8} (h : ¬ shortB b) (he : (getB b).2.2 ≠ 0) : getB b = (callZ, 0, 10) := by
  unfold getB at he ⊢
  rw [if_neg h] at he ⊢
  split at he
  · rename_i h2; rw [if_pos h2]
  · rename_i h2
    rw [if_neg h2]
    split at he
    · rfl
    · rename_i n h3
      show callG b n = _
      unfold callG at he ⊢
      split at he
      · rename_i h4; rw [if_pos h4]
      · rename_i h4
        rw [if_neg h4]
        split at he
        · exact absurd rfl he
        · rename_i h5; rw [if_neg h5]
theorem get_ok {b : List UInt8} (he : (getB b).2.2 = 0) : ¬ shortB b ∧ (getB b).1.ok ∧ textE (getB b).1 = 0 ∧ putB (getB b).1 = b.take (getB b).2.1 ∧ (getB b).2.1 = szB b + 4 ∧ (getB b).2.1 ≤ b.length := by
  unfold getB at he ⊢
  split at he
  · simp at he
  · rename_i h1
    rw [if_neg h1]
    have hl : szB b + 4 ≤ b.length := by
      unfold shortB at h1
      unfold szB
      simp only [not_or, Nat.not_lt] at h1
      omega
    split at he
    · simp at he
    · rename_i h2
      rw [if_neg h2]
      split at he
      · simp at he
      · rename_i n h3
        change (callG b n).2.2 = 0 at he
        show ¬ shortB b ∧ (callG b n).1.ok ∧ textE (callG b n).1 = 0 ∧ putB (callG b n).1 = b.take (callG b n).2.1 ∧ (callG b n).2.1 = szB b + 4 ∧ (callG b n).2.1 ≤ b.length
        unfold callG at he ⊢
        split at he
        · simp at he
        · rename_i h4
          rw [if_neg h4]
          split at he
          · rename_i h5
            rw [if_pos h5]
            refine ⟨h1, callN_ok (allB_i64 _ _ _ (Nat.le_refl _) h3) ?_, h5.1, h5.2, rfl, hl⟩
            unfold idG
            show (List.toArray _).size ≤ maxLen
            have : szB b ≤ 256 := by
              unfold szB
              have := (b.getD 0 0).toNat_lt
              omega
            unfold headB maxLen
            simp
            omega
          · simp at he

/-- A call that is Bare has its numbers and its id alone. -/
theorem callN_bare (c : CallD) : callN (numsC (bareC c)) (bareC c).id = bareC c := by
  unfold bareC
  by_cases h1 : c.kind = 1
  · rw [if_pos h1]; simp [numsC, callN]
  rw [if_neg h1]
  by_cases h2 : c.kind = 2
  · rw [if_pos h2]; simp [numsC, callN]
  rw [if_neg h2]
  by_cases h4 : c.kind = 4
  · rw [if_pos h4]; simp [numsC, callN]
  rw [if_neg h4]
  by_cases h5 : c.kind = 5
  · rw [if_pos h5]; simp [numsC, callN]
  rw [if_neg h5]
  by_cases h6 : c.kind = 6
  · rw [if_pos h6]; simp [numsC, callN]
  rw [if_neg h6]
  by_cases h7 : c.kind = 7
  · rw [if_pos h7]; simp [numsC, callN]
  rw [if_neg h7]
  simp [numsC, callN, h1, h2, h4, h5, h6]
theorem bare_kind (c : CallD) : (bareC c).kind = c.kind := by
  unfold bareC
  repeat' split
  all_goals simp_all
theorem bare_bare (c : CallD) : bareC (bareC c) = bareC c := by
  unfold bareC
  by_cases h1 : c.kind = 1
  · simp [h1]
  by_cases h2 : c.kind = 2
  · simp [h2]
  by_cases h4 : c.kind = 4
  · simp [h4]
  by_cases h5 : c.kind = 5
  · simp [h5]
  by_cases h6 : c.kind = 6
  · simp [h6]
  by_cases h7 : c.kind = 7
  · simp [h7]
  simp [h1, h2, h4, h5, h6, h7]
theorem bare_text {c : CallD} (h : textE c = 0) : textE (bareC c) = 0 := by
  unfold textE at h ⊢
  rw [bare_kind]
  split at h
  · cases h
  · rename_i h1
    rw [if_neg h1]
    split at h
    · cases h
    · rename_i h2
      rw [if_neg]
      rintro ⟨h3, h4⟩
      rw [bare_named h3] at h4
      exact h2 ⟨h3, h4⟩
theorem put_bare (c : CallD) : putB (bareC c) = putB c := by unfold putB; rw [bare_bare]
theorem putB_len (c : CallD) : (putB c).length = (bodyB (bareC c)).length + 5 := by
  simp only [putB, sealP, allP, List.length_append, List.length_cons, sealB_len]

theorem get_put {c : CallD} (hc : c.ok) (he : textE c = 0) (rest : List UInt8) : getB (putB c ++ rest) = (bareC c, (putB c).length, 0) := by
  have hd := bareC_ok hc
  have hi := bare_id he
  have hbl := bodyB_len hd hi
  have hll := putB_len c
  have hc1 := callN_bare c
  have hc2 := bare_text he
  have hc3 := put_bare c
  have hni := numsC_i64 hd
  have hP : putB c = (UInt8.ofNat (bodyB (bareC c)).length :: bodyB (bareC c)) ++ sealB (UInt8.ofNat (bodyB (bareC c)).length :: bodyB (bareC c)) := rfl
  have hB : bodyB (bareC c) = (UInt8.ofNat (bareC c).id.size :: (bareC c).id.data.toList) ++ zputs (numsC (bareC c)) := rfl
  generalize bareC c = d at hd hi hbl hll hc1 hc2 hc3 hni hP hB ⊢
  have e0 : (UInt8.ofNat (bodyB d).length).toNat = (bodyB d).length := ofNat_toNat (by omega)
  have e1 : (UInt8.ofNat d.id.size).toNat = d.id.size := ofNat_toNat (by omega)
  have s3 : d.id.data.toList.length = d.id.size := by simp
  have hbs : (bodyB d).length = 1 + d.id.size + (zputs (numsC d)).length := by
    rw [hB]
    simp only [List.length_append, List.length_cons, s3]
    omega
  obtain ⟨n, hn⟩ : ∃ n, n = UInt8.ofNat (bodyB d).length := ⟨_, rfl⟩
  rw [← hn] at hP e0
  clear hn
  have g0 : (putB c ++ rest).getD 0 0 = n := by rw [hP]; rfl
  have hsz : szB (putB c ++ rest) = (bodyB d).length + 1 := by unfold szB; rw [g0, e0]
  have hsz2 : szB (putB c ++ rest) + 4 = (putB c).length := by rw [hsz, hll]
  have hh : headB (putB c ++ rest) = n :: bodyB d := by
    unfold headB
    rw [hsz, hP, List.append_assoc, List.take_left' (by simp)]
  have hseal : ((putB c ++ rest).take (szB (putB c ++ rest) + 4)).drop (szB (putB c ++ rest)) = sealB (n :: bodyB d) := by
    rw [hsz2, List.take_left, hsz, hP, List.drop_left' (by simp)]
  have hn1 : n1B (putB c ++ rest) = d.id.size := by
    unfold n1B
    rw [hh, hB]
    exact e1
  have hne : numsC d ≠ [] := by unfold numsC; repeat' split
                                all_goals simp
  have hid : idG (putB c ++ rest) = d.id := by
    unfold idG
    rw [hn1, hh, hB]
    apply bytes_ext
    show List.drop 2 (List.take (2 + d.id.size) _) = _
    rw [show 2 + d.id.size = d.id.size + 1 + 1 by omega, List.cons_append, List.take_succ_cons, List.take_succ_cons, List.take_left' s3]
    rfl
  have hnum : numsG (putB c ++ rest) = some (numsC d) := by
    unfold numsG
    rw [hn1, hh, hB]
    rw [show 2 + d.id.size = d.id.size + 1 + 1 by omega, List.cons_append, List.drop_succ_cons, List.drop_succ_cons, List.drop_left' s3]
    exact allB_put _ hni
  unfold getB
  rw [if_neg, if_neg, hnum]
  · show callG (putB c ++ rest) (numsC d) = _
    unfold callG
    rw [if_neg hne, hid, hc1, if_pos ⟨hc2, by rw [hsz2, List.take_left, hc3]⟩, hsz2]
  · rw [Decidable.not_not]
    exact ⟨by rw [hseal, hh], by rw [hsz]; omega, by rw [hn1, hsz]; omega⟩
  · unfold shortB
    rw [g0, e0, List.length_append]
    rintro (h | h)
    · have := congrArg List.length h
      simp only [List.length_append, List.length_nil] at this
      omega
    · omega
/-- A piece of a call's bytes is too short. -/
theorem get_piece {c : CallD} (hc : c.ok) (he : textE c = 0) {k : Nat} (hk : k < (putB c).length) : getB ((putB c).take k) = (callZ, 0, 11) := by
  refine get_short ?_
  have hbl := bodyB_len (bareC_ok hc) (bare_id he)
  have hll := putB_len c
  unfold shortB
  cases k with
  | zero => exact .inl rfl
  | succ k =>
    right
    have hP : putB c = UInt8.ofNat (bodyB (bareC c)).length :: (bodyB (bareC c) ++ sealB (UInt8.ofNat (bodyB (bareC c)).length :: bodyB (bareC c))) := rfl
    have g0 : ((putB c).take (k + 1)).getD 0 0 = UInt8.ofNat (bodyB (bareC c)).length := by rw [hP]; rfl
    rw [g0, ofNat_toNat (by omega), List.length_take]
    omega
end Go.Proofs.YtfnabpmdjfejbaaDoor
