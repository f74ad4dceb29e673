/- The plain law of batch: the last samples of each id and tick. -/
import Derived.Test.YtfnabpmdjfejbaaBCalls
import Derived.Test.YtfnabpmdjfejbaaMapIn
namespace Go.Proofs.Ytfnabpmdjfejbaa
set_option linter.unusedSimpArgs false
set_option linter.unusedVariables false
open Go.RowKit Go.Lib

def norm (c : CallD) : CallD := ⟨1, c.id, c.tick, c.val, 0, ⟨0, 0, 0, 0, 0, 0⟩⟩
def sp (a b : CallD) : Bool := decide (a.id = b.id) && decide (a.tick = b.tick)
theorem sp_iff (a b : CallD) : sp a b = true ↔ a.id = b.id ∧ a.tick = b.tick := by simp [sp]
/-- Is there a later one of its id and tick among the first m? -/
def later (l : List CallD) (c : CallD) (k m : Nat) : Bool := ((l.take m).drop k).any (fun x => sp x c)
theorem later_zero (l : List CallD) (c : CallD) (k : Nat) : later l c k k = false := by
  unfold later
  rw [List.drop_eq_nil_of_le (by rw [List.length_take]; omega)]
  rfl
theorem later_succ (l : List CallD) (c : CallD) (k m : Nat) (hk : k ≤ m) (h : m < l.length) : later l c k (m + 1) = (later l c k m || sp l[m] c) := by
  unfold later
  rw [List.take_succ_eq_append_getElem h, List.drop_append_of_le_length (by rw [List.length_take]; omega), List.any_append]
  simp
theorem later_iff (l : List CallD) (c : CallD) (k m : Nat) : later l c k m = true ↔ ∃ j, ∃ h : j < l.length, k ≤ j ∧ j < m ∧ sp l[j] c = true := by
  unfold later
  rw [List.any_eq_true]
  constructor
  · rintro ⟨x, hx, hs⟩
    obtain ⟨i, hi⟩ := List.getElem?_of_mem hx
    rw [List.getElem?_drop, List.getElem?_take] at hi
    split at hi
    · obtain ⟨h, rfl⟩ := List.getElem?_eq_some_iff.1 hi
      exact ⟨k + i, h, by omega, by omega, hs⟩
    · cases hi
  · rintro ⟨j, h, h1, h2, hs⟩
    refine ⟨l[j], List.mem_of_getElem? (i := j - k) ?_, hs⟩
    rw [List.getElem?_drop, List.getElem?_take, if_pos (by omega), show k + (j - k) = j by omega, List.getElem?_eq_getElem h]

/-- The last ones among the first k. -/
def lastP (l : List CallD) : Nat → List CallD
  | 0 => []
  | k + 1 => lastP l k ++ (if h : k < l.length then (if later l l[k] (k + 1) l.length = true then [] else [norm l[k]]) else [])
def lastL (l : List CallD) : List CallD := lastP l l.length
def lastR (l : List CallD) : List CallD := if fineB l = true then lastL l else []
theorem lastP_skip {l : List CallD} {k : Nat} (h : k < l.length) (hl : later l l[k] (k + 1) l.length = true) : lastP l (k + 1) = lastP l k := by simp [lastP, h, hl]
theorem lastP_keep {l : List CallD} {k : Nat} (h : k < l.length) (hl : later l l[k] (k + 1) l.length = false) : lastP l (k + 1) = lastP l k ++ [norm l[k]] := by simp [lastP, h, hl]
theorem lastP_len (l : List CallD) : ∀ k, (lastP l k).length ≤ k
  | 0 => Nat.le_refl _
  | k + 1 => by
    have := lastP_len l k
    rw [lastP, List.length_append]
    split
    · split
      · simp; omega
      · simp; omega
    · simp; omega
theorem lastR_len (l : List CallD) : (lastR l).length ≤ l.length := by
  unfold lastR
  split
  · exact lastP_len l _
  · exact Nat.zero_le _
theorem lastP_mem (l : List CallD) : ∀ k, ∀ c ∈ lastP l k, ∃ j, ∃ h : j < l.length, j < k ∧ later l l[j] (j + 1) l.length = false ∧ c = norm l[j]
  | 0, c, h => by simp [lastP] at h
  | k + 1, c, h => by
    rw [lastP, List.mem_append] at h
    rcases h with h | h
    · obtain ⟨j, hj, h1, h2⟩ := lastP_mem l k c h
      exact ⟨j, hj, by omega, h2⟩
    · split at h
      · rename_i hk
        split at h
        · simp at h
        · rename_i hl
          exact ⟨k, hk, by omega, by simpa using hl, by simpa using h⟩
      · simp at h
/-- No two of them have the same id and tick. -/
theorem lastP_pair (l : List CallD) : ∀ k, (lastP l k).Pairwise (fun a b => sp a b = false)
  | 0 => List.Pairwise.nil
  | k + 1 => by
    rw [lastP, List.pairwise_append]
    refine ⟨lastP_pair l k, ?_, ?_⟩
    · split
      · split
        · exact List.Pairwise.nil
        · exact List.pairwise_singleton _ _
      · exact List.Pairwise.nil
    · intro a ha b hb
      obtain ⟨j, hj, h1, h2, rfl⟩ := lastP_mem l k a ha
      split at hb
      · rename_i hk
        split at hb
        · simp at hb
        · rw [List.mem_singleton.1 hb]
          cases hs : sp (norm l[j]) (norm l[k]) with
          | false => rfl
          | true =>
            have : later l l[j] (j + 1) l.length = true := (later_iff ..).2 ⟨k, hk, by omega, hk, by
              have := (sp_iff _ _).1 hs
              exact (sp_iff _ _).2 ⟨this.1.symm, this.2.symm⟩⟩
            rw [this] at h2
            cases h2
      · simp at hb

/-! ### The map from places to where they were last -/
section
variable {α β : Type} [DecidableEq α]
theorem findM_putM (es : List (α × β)) (x y : α) (v : β) : findM (putM es x v) y = if y = x then some v else findM es y := by
  unfold putM
  by_cases hx : hasM es x = true
  · rw [if_pos hx]
    unfold findM
    induction es with
    | nil => simp [hasM] at hx
    | cons p es ih =>
      rw [List.map_cons, List.find?_cons, List.find?_cons]
      by_cases hp : p.1 = x
      · rw [if_pos hp]
        by_cases hy : y = x
        · subst hy
          simp
        · rw [if_neg hy]
          have h1 : decide (x = y) = false := by simp; exact fun e => hy e.symm
          have h2 : decide (p.1 = y) = false := by rw [hp]; exact h1
          simp only [h1, h2]
          have : (es.map (fun p => if p.1 = x then (x, v) else p)).find? (fun p => decide (p.1 = y)) = es.find? (fun p => decide (p.1 = y)) := by
            clear ih hx hp h2
            induction es with
            | nil => rfl
            | cons q es ih =>
              rw [List.map_cons, List.find?_cons, List.find?_cons, ih]
              by_cases hq : q.1 = x
              · rw [if_pos hq, hq]; simp [h1]
              · rw [if_neg hq]
          rw [this]
      · rw [if_neg hp]
        have hx' : hasM es x = true := by simpa [hasM, hp] using hx
        by_cases hy : p.1 = y
        · have hne : ¬ y = x := fun e => hp (hy.trans e)
          simp [hy, hne]
        · have h1 : decide (p.1 = y) = false := by simpa using hy
          simp only [h1]
          exact ih hx'
  · rw [if_neg hx]
    unfold findM
    rw [List.find?_append]
    have hno : ∀ p ∈ es, ¬ p.1 = x := fun p hp e => hx ((hasM_iff es x).2 (List.mem_map.2 ⟨p, hp, e⟩))
    by_cases hy : y = x
    · subst hy
      rw [if_pos rfl, List.find?_eq_none.2 (fun p hp => by simpa using hno p hp)]
      simp
    · rw [if_neg hy]
      have : decide (x = y) = false := by simp; exact fun e => hy e.symm
      rw [List.find?_cons, this]
      simp
end

abbrev PlK := { p : (Nat × Nat) × Int // p.1.1 < 18446744073709551616 ∧ p.1.2 < 18446744073709551616 ∧ I64 p.2 }
def plOf (c : CallD) (h : c.ok) : PlK := ⟨((hiN c.id.data.toList, loN c.id.data.toList), c.tick), Nat.lt_trans (hiN_lt _) (by decide), Nat.lt_trans (loN_lt _) (by decide), h.2.2.1⟩
theorem plOf_eq {a b : CallD} (ha : a.ok) (hb : b.ok) (h1 : idS a.id = true) (h2 : idS b.id = true) : plOf a ha = plOf b hb ↔ sp a b = true := by
  rw [sp_iff]
  constructor
  · intro h
    have h' := congrArg Subtype.val h
    simp only [plOf, Prod.mk.injEq] at h'
    refine ⟨?_, h'.2⟩
    have e := IsKey.one (hi := hiN a.id.data.toList) (lo := loN a.id.data.toList) (l := a.id.data.toList) (l' := b.id.data.toList) ⟨h1, rfl, rfl⟩ ⟨h2, h'.1.1.symm, h'.1.2.symm⟩
    have e2 : a.id.data = b.id.data := Array.toList_inj.1 e
    cases hA : a.id with
    | mk da => cases hB : b.id with
      | mk db => rw [hA, hB] at e2; rw [show da = db from e2]
  · rintro ⟨e1, e2⟩
    apply Subtype.ext
    simp only [plOf]
    rw [e1, e2]
end Go.Proofs.Ytfnabpmdjfejbaa
