/- The plain law: the queue and the reference's go on alike; what a queue keeps. -/
import Derived.Test.YtfnabpmdjfejbaaTold0
import Derived.Test.YtfnabpmdjfejbaaQGet
namespace Go.Proofs.Ytfnabpmdjfejbaa
set_option linter.unusedSimpArgs false
set_option linter.unusedVariables false

def lineQ (st : QSt) : List KO := st.front.reverse ++ st.back
theorem mem_kys (l : List KO) (k : KO) : k.1 ∈ kys l ↔ k ∈ l := by
  constructor
  · intro h
    obtain ⟨q, hq, e⟩ := List.mem_map.1 h
    rw [← Subtype.ext e]
    exact hq
  · intro h
    exact List.mem_map.2 ⟨k, h, rfl⟩
theorem mem_lessL (l : List Ky) (x p : Ky) : p ∈ lessL l x ↔ p ∈ l ∧ p ≠ x := by simp [lessL]
theorem mem_kys_strike (l : List KO) (k : KO) (p : Ky) : p ∈ kys (strikeL l k) ↔ p ∈ kys l ∧ p ≠ k.1 := by
  constructor
  · intro h
    obtain ⟨q, hq, rfl⟩ := List.mem_map.1 h
    obtain ⟨h1, h2⟩ := List.mem_filter.1 hq
    refine ⟨List.mem_map.2 ⟨q, h1, rfl⟩, fun e => ?_⟩
    simp at h2
    exact h2 (Subtype.ext e)
  · rintro ⟨h, hne⟩
    obtain ⟨q, hq, rfl⟩ := List.mem_map.1 h
    exact List.mem_map.2 ⟨q, List.mem_filter.2 ⟨hq, by simp; intro e; exact hne (congrArg Subtype.val e)⟩, rfl⟩
theorem mem_kys_ins (l : List KO) (k : KO) (p : Ky) : p ∈ kys (insL l k) ↔ p ∈ kys l ∨ p = k.1 := by
  unfold insL
  split
  · rename_i h
    constructor
    · exact .inl
    · rintro (h' | rfl)
      · exact h'
      · exact (mem_kys l k).2 h
  · simp [kys]

theorem tells_start : Tells ⟨[], [], [], [], false⟩ ⟨[], [], [], false⟩ := ⟨rfl, fun _ => Iff.rfl, fun _ => Iff.rfl, rfl⟩

theorem tells_add {st : QSt} {x : RQ} (h : Tells st x) (k : KO) : Tells (addQ st k).1 (addR x k.1).1 ∧ (addQ st k).2 = (addR x k.1).2 := by
  have hd : k.1 ∈ x.dirty ↔ k ∈ st.dirty := (h.dirty _).trans (mem_kys _ _)
  have hb : k.1 ∈ x.busy ↔ k ∈ st.busy := (h.busy _).trans (mem_kys _ _)
  unfold addQ addR
  by_cases c1 : st.over = true ∨ k ∈ st.dirty
  · have c1' : x.over = true ∨ k.1 ∈ x.dirty := by rw [h.over, hd]; exact c1
    rw [if_pos c1, if_pos c1']
    exact ⟨h, rfl⟩
  · have c1' : ¬ (x.over = true ∨ k.1 ∈ x.dirty) := by rw [h.over, hd]; exact c1
    rw [if_neg c1, if_neg c1']
    have hdd : ∀ p, p ∈ x.dirty ++ [k.1] ↔ p ∈ kys (st.dirty ++ [k]) := fun p => by simp [kys, h.dirty]
    by_cases c2 : k ∈ st.busy
    · have c2' := hb.2 c2
      rw [if_pos c2, if_pos c2']
      exact ⟨⟨h.line, h.busy, hdd, h.over⟩, rfl⟩
    · have c2' : k.1 ∉ x.busy := fun e => c2 (hb.1 e)
      rw [if_neg c2, if_neg c2']
      refine ⟨⟨?_, h.busy, hdd, h.over⟩, rfl⟩
      show x.line ++ [k.1] = kys (st.front.reverse ++ (st.back ++ [k]))
      rw [h.line]
      simp [kys]

theorem tells_done {st : QSt} {x : RQ} (h : Tells st x) (k : KO) : Tells (doneQ st k).1 (doneR x k.1).1 ∧ (doneQ st k).2.1 = (doneR x k.1).2.1 ∧ (doneQ st k).2.2 = if (doneR x k.1).2.2 then 0 else 5 := by
  have hd : k.1 ∈ x.dirty ↔ k ∈ st.dirty := (h.dirty _).trans (mem_kys _ _)
  have hb : k.1 ∈ x.busy ↔ k ∈ st.busy := (h.busy _).trans (mem_kys _ _)
  have hbb : ∀ p, p ∈ lessL x.busy k.1 ↔ p ∈ kys (strikeL st.busy k) := fun p => by rw [mem_lessL, mem_kys_strike, h.busy]
  unfold doneQ doneR
  by_cases c1 : k ∈ st.busy
  · have c1' : ¬ (k.1 ∉ x.busy) := fun e => e (hb.2 c1)
    rw [if_pos c1, if_neg c1']
    by_cases c2 : k ∈ st.dirty
    · have c2' := hd.2 c2
      rw [if_pos c2, if_pos c2']
      refine ⟨⟨?_, hbb, h.dirty, h.over⟩, rfl, rfl⟩
      show x.line ++ [k.1] = kys (st.front.reverse ++ (st.back ++ [k]))
      rw [h.line]
      simp [kys]
    · have c2' : k.1 ∉ x.dirty := fun e => c2 (hd.1 e)
      rw [if_neg c2, if_neg c2']
      exact ⟨⟨h.line, hbb, h.dirty, h.over⟩, rfl, rfl⟩
  · have c1' : k.1 ∉ x.busy := fun e => c1 (hb.1 e)
    rw [if_neg c1, if_pos c1']
    exact ⟨h, rfl, rfl⟩

theorem turnK_line (f b : List KO) : (turnK f b).1.reverse ++ (turnK f b).2 = f.reverse ++ b := by
  unfold turnK
  split
  · rename_i h; subst h; simp
  · rfl
theorem got_line {st : QSt} {f : List KO} {k : KO} (hf : (turnK st.front st.back).1 = f ++ [k]) : lineQ st = k :: lineQ (gotQ st f k) := by
  have := turnK_line st.front st.back
  rw [hf] at this
  unfold lineQ
  rw [← this]
  simp [gotQ]

theorem tells_got {st : QSt} {x : RQ} (h : Tells st x) {f : List KO} {k : KO} (hf : (turnK st.front st.back).1 = f ++ [k]) : Tells (gotQ st f k) (getR x).1 ∧ (getR x).2 = (k.1, true) := by
  have hl : x.line = k.1 :: kys (lineQ (gotQ st f k)) := by
    rw [h.line, show st.front.reverse ++ st.back = lineQ st from rfl, got_line hf]
    rfl
  unfold getR
  rw [hl]
  refine ⟨⟨rfl, fun p => ?_, fun p => ?_, h.over⟩, rfl⟩
  · show p ∈ x.busy ++ [k.1] ↔ p ∈ kys (insL st.busy k)
    rw [mem_kys_ins, List.mem_append, List.mem_singleton, h.busy]
  · show p ∈ lessL x.dirty k.1 ↔ p ∈ kys (strikeL st.dirty k)
    rw [mem_kys_strike, mem_lessL, h.dirty]
theorem tells_none {st : QSt} {x : RQ} (h : Tells st x) (hz : st.front = [] ∧ st.back = []) : getR x = (x, (0, 0), false) := by
  have hl : x.line = [] := by rw [h.line, hz.1, hz.2]; rfl
  unfold getR
  rw [hl]
theorem tells_shut {st : QSt} {x : RQ} (h : Tells st x) : Tells { st with over := true } { x with over := true } := ⟨h.line, h.busy, h.dirty, rfl⟩

/-! ### Sizes -/
theorem small_add {st : QSt} {n : Nat} (h : st.small n) (k : KO) : (addQ st k).1.small (n + 1) := by
  obtain ⟨h1, h2, h3⟩ := h
  unfold addQ
  split
  · exact ⟨by show st.front.length + st.back.length ≤ n + 1; omega, by show st.busy.length ≤ n + 1; omega, by show st.dirty.length ≤ n + 1; omega⟩
  · split
    · exact ⟨by show st.front.length + st.back.length ≤ n + 1; omega, by show st.busy.length ≤ n + 1; omega, by show (st.dirty ++ [k]).length ≤ n + 1; simp; omega⟩
    · exact ⟨by show st.front.length + (st.back ++ [k]).length ≤ n + 1; simp; omega, by show st.busy.length ≤ n + 1; omega, by show (st.dirty ++ [k]).length ≤ n + 1; simp; omega⟩
theorem small_done {st : QSt} {n : Nat} (h : st.small n) (k : KO) : (doneQ st k).1.small (n + 1) := by
  obtain ⟨h1, h2, h3⟩ := h
  have hs : (strikeL st.busy k).length ≤ st.busy.length := List.length_filter_le _ _
  unfold doneQ
  split
  · split
    · exact ⟨by show st.front.length + (st.back ++ [k]).length ≤ n + 1; simp; omega, by show (strikeL st.busy k).length ≤ n + 1; omega, by show st.dirty.length ≤ n + 1; omega⟩
    · exact ⟨by show st.front.length + st.back.length ≤ n + 1; omega, by show (strikeL st.busy k).length ≤ n + 1; omega, by show st.dirty.length ≤ n + 1; omega⟩
  · exact ⟨by show st.front.length + st.back.length ≤ n + 1; omega, by show st.busy.length ≤ n + 1; omega, by show st.dirty.length ≤ n + 1; omega⟩
theorem small_got {st : QSt} {n : Nat} (h : st.small n) {f : List KO} {k : KO} (hf : (turnK st.front st.back).1 = f ++ [k]) : (gotQ st f k).small (n + 1) := by
  obtain ⟨h1, h2, h3⟩ := h
  have hl := congrArg List.length (got_line hf)
  have hs : (strikeL st.dirty k).length ≤ st.dirty.length := List.length_filter_le _ _
  have hi : (insL st.busy k).length ≤ st.busy.length + 1 := by
    unfold insL
    split
    · omega
    · simp
  simp only [lineQ, List.length_append, List.length_reverse, List.length_cons] at hl
  exact ⟨by omega, by show (insL st.busy k).length ≤ n + 1; omega, by show (strikeL st.dirty k).length ≤ n + 1; omega⟩
theorem small_shut {st : QSt} {n : Nat} (h : st.small n) : ({ st with over := true } : QSt).small (n + 1) := ⟨Nat.le_succ_of_le h.l, Nat.le_succ_of_le h.b, Nat.le_succ_of_le h.d⟩
theorem smallR_shut {x : RQ} {n : Nat} (h : x.small n) : ({ x with over := true } : RQ).small (n + 1) := ⟨Nat.le_succ_of_le h.l, Nat.le_succ_of_le h.b, Nat.le_succ_of_le h.d⟩
theorem QSt.small.mono {st : QSt} {n m : Nat} (h : st.small n) (hm : n ≤ m) : st.small m := ⟨Nat.le_trans h.l hm, Nat.le_trans h.b hm, Nat.le_trans h.d hm⟩
theorem RQ.small.mono {x : RQ} {n m : Nat} (h : x.small n) (hm : n ≤ m) : x.small m := ⟨Nat.le_trans h.l hm, Nat.le_trans h.b hm, Nat.le_trans h.d hm⟩
theorem smallR_add {x : RQ} {n : Nat} (h : x.small n) (k : Ky) : (addR x k).1.small (n + 1) := by
  obtain ⟨h1, h2, h3⟩ := h
  unfold addR
  split
  · exact ⟨by show x.line.length ≤ n + 1; omega, by show x.busy.length ≤ n + 1; omega, by show x.dirty.length ≤ n + 1; omega⟩
  · split
    · exact ⟨by show x.line.length ≤ n + 1; omega, by show x.busy.length ≤ n + 1; omega, by show (x.dirty ++ [k]).length ≤ n + 1; simp; omega⟩
    · exact ⟨by show (x.line ++ [k]).length ≤ n + 1; simp; omega, by show x.busy.length ≤ n + 1; omega, by show (x.dirty ++ [k]).length ≤ n + 1; simp; omega⟩
theorem smallR_done {x : RQ} {n : Nat} (h : x.small n) (k : Ky) : (doneR x k).1.small (n + 1) := by
  obtain ⟨h1, h2, h3⟩ := h
  have hs : (lessL x.busy k).length ≤ x.busy.length := List.length_filter_le _ _
  unfold doneR
  split
  · exact ⟨by show x.line.length ≤ n + 1; omega, by show x.busy.length ≤ n + 1; omega, by show x.dirty.length ≤ n + 1; omega⟩
  · split
    · exact ⟨by show (x.line ++ [k]).length ≤ n + 1; simp; omega, by show (lessL x.busy k).length ≤ n + 1; omega, by show x.dirty.length ≤ n + 1; omega⟩
    · exact ⟨by show x.line.length ≤ n + 1; omega, by show (lessL x.busy k).length ≤ n + 1; omega, by show x.dirty.length ≤ n + 1; omega⟩
theorem smallR_get {x : RQ} {n : Nat} (h : x.small n) : (getR x).1.small (n + 1) := by
  obtain ⟨h1, h2, h3⟩ := h
  unfold getR
  cases hl : x.line with
  | nil => exact ⟨by show x.line.length ≤ n + 1; omega, by show x.busy.length ≤ n + 1; omega, by show x.dirty.length ≤ n + 1; omega⟩
  | cons k l =>
    have hs : (lessL x.dirty k).length ≤ x.dirty.length := List.length_filter_le _ _
    rw [hl] at h1
    simp only [List.length_cons] at h1
    exact ⟨by show l.length ≤ n + 1; omega, by show (x.busy ++ [k]).length ≤ n + 1; simp; omega, by show (lessL x.dirty k).length ≤ n + 1; omega⟩
end Go.Proofs.Ytfnabpmdjfejbaa
