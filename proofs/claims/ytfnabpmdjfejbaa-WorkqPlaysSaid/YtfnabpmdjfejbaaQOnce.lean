/- What a queue keeps: no key waits twice, nor while it is busy; who waits is dirty; who is dirty waits, or is busy. -/
import Derived.Test.YtfnabpmdjfejbaaQPlain
namespace Go.Proofs.Ytfnabpmdjfejbaa
set_option linter.unusedSimpArgs false
set_option linter.unusedVariables false

structure Keeps (st : QSt) : Prop where
  once : (lineQ st).Nodup
  apart : ∀ x ∈ lineQ st, x ∉ st.busy
  dirty : ∀ x ∈ lineQ st, x ∈ st.dirty
  all : ∀ x ∈ st.dirty, x ∈ lineQ st ∨ x ∈ st.busy

theorem keeps_start : Keeps ⟨[], [], [], [], false⟩ := ⟨List.nodup_nil, fun _ h => by simp [lineQ] at h, fun _ h => by simp [lineQ] at h, fun _ h => by simp at h⟩
theorem mem_strike (l : List KO) (x y : KO) : y ∈ strikeL l x ↔ y ∈ l ∧ y ≠ x := by simp [strikeL]
theorem mem_insL (l : List KO) (x y : KO) : y ∈ insL l x ↔ y ∈ l ∨ y = x := by
  unfold insL
  split
  · rename_i h
    exact ⟨.inl, fun h' => h'.elim id (fun e => e ▸ h)⟩
  · simp
theorem line_push (st : QSt) (k : KO) (d b : List KO) : lineQ { st with back := st.back ++ [k], dirty := d, busy := b } = lineQ st ++ [k] := by simp [lineQ]

theorem nodup_push {l : List KO} {k : KO} (h : l.Nodup) (hk : k ∉ l) : (l ++ [k]).Nodup := by
  rw [List.nodup_append]
  refine ⟨h, by simp, fun a ha c hc => ?_⟩
  simp only [List.mem_singleton] at hc
  subst hc
  exact fun e => hk (e ▸ ha)

theorem keeps_add {st : QSt} (h : Keeps st) (k : KO) : Keeps (addQ st k).1 := by
  unfold addQ
  by_cases c1 : st.over = true ∨ k ∈ st.dirty
  · rw [if_pos c1]; exact h
  · rw [if_neg c1]
    have hd : k ∉ st.dirty := fun e => c1 (.inr e)
    by_cases c2 : k ∈ st.busy
    · rw [if_pos c2]
      refine ⟨h.once, h.apart, fun x hx => List.mem_append_left _ (h.dirty x hx), fun x hx => ?_⟩
      rcases List.mem_append.1 hx with h' | h'
      · exact h.all x h'
      · rw [List.mem_singleton.1 h']; exact .inr c2
    · rw [if_neg c2]
      have hl : lineQ { st with dirty := st.dirty ++ [k], back := st.back ++ [k] } = lineQ st ++ [k] := by simp [lineQ]
      have hkl : k ∉ lineQ st := fun e => hd (h.dirty k e)
      refine ⟨by rw [hl]; exact nodup_push h.once hkl, fun x hx => ?_, fun x hx => ?_, fun x hx => ?_⟩
      · rw [hl] at hx
        rcases List.mem_append.1 hx with h' | h'
        · exact h.apart x h'
        · rw [List.mem_singleton.1 h']; exact c2
      · rw [hl] at hx
        rcases List.mem_append.1 hx with h' | h'
        · exact List.mem_append_left _ (h.dirty x h')
        · exact List.mem_append_right _ h'
      · rw [hl]
        rcases List.mem_append.1 hx with h' | h'
        · rcases h.all x h' with h2 | h2
          · exact .inl (List.mem_append_left _ h2)
          · exact .inr h2
        · exact .inl (List.mem_append_right _ h')

theorem keeps_done {st : QSt} (h : Keeps st) (k : KO) : Keeps (doneQ st k).1 := by
  unfold doneQ
  by_cases c1 : k ∈ st.busy
  · rw [if_pos c1]
    have hkl : k ∉ lineQ st := fun e => h.apart k e c1
    by_cases c2 : k ∈ st.dirty
    · rw [if_pos c2]
      have hl : lineQ { st with busy := strikeL st.busy k, back := st.back ++ [k] } = lineQ st ++ [k] := by simp [lineQ]
      refine ⟨by rw [hl]; exact nodup_push h.once hkl, fun x hx => ?_, fun x hx => ?_, fun x hx => ?_⟩
      · rw [hl] at hx
        intro hb
        obtain ⟨hb1, hb2⟩ := (mem_strike _ _ _).1 hb
        rcases List.mem_append.1 hx with h' | h'
        · exact h.apart x h' hb1
        · exact hb2 (List.mem_singleton.1 h')
      · rw [hl] at hx
        rcases List.mem_append.1 hx with h' | h'
        · exact h.dirty x h'
        · rw [List.mem_singleton.1 h']; exact c2
      · rw [hl]
        by_cases hx' : x = k
        · exact .inl (by rw [hx']; simp)
        · rcases h.all x hx with h2 | h2
          · exact .inl (List.mem_append_left _ h2)
          · exact .inr ((mem_strike _ _ _).2 ⟨h2, hx'⟩)
    · rw [if_neg c2]
      refine ⟨h.once, fun x hx hb => h.apart x hx ((mem_strike _ _ _).1 hb).1, h.dirty, fun x hx => ?_⟩
      rcases h.all x hx with h2 | h2
      · exact .inl h2
      · exact .inr ((mem_strike _ _ _).2 ⟨h2, fun e => c2 (e ▸ hx)⟩)
  · rw [if_neg c1]; exact h

theorem keeps_got {st : QSt} (h : Keeps st) {f : List KO} {k : KO} (hf : (turnK st.front st.back).1 = f ++ [k]) : Keeps (gotQ st f k) := by
  have hl := got_line hf
  have h1 := h.once
  rw [hl, List.nodup_cons] at h1
  refine ⟨h1.2, fun x hx hb => ?_, fun x hx => ?_, fun x hx => ?_⟩
  · rcases (mem_insL _ _ _).1 hb with h' | h'
    · exact h.apart x (by rw [hl]; exact List.mem_cons_of_mem _ hx) h'
    · subst h'; exact h1.1 hx
  · exact (mem_strike _ _ _).2 ⟨h.dirty x (by rw [hl]; exact List.mem_cons_of_mem _ hx), fun e => by subst e; exact h1.1 hx⟩
  · obtain ⟨h2, h3⟩ := (mem_strike _ _ _).1 hx
    rcases h.all x h2 with h4 | h4
    · rw [hl] at h4
      rcases List.mem_cons.1 h4 with h5 | h5
      · exact absurd h5 h3
      · exact .inl h5
    · exact .inr ((mem_insL _ _ _).2 (.inl h4))
theorem keeps_shut {st : QSt} (h : Keeps st) : Keeps { st with over := true } := ⟨h.once, h.apart, h.dirty, h.all⟩

/-! ### What Right asks -/
theorem once_at {l : List Ky} (h : l.Nodup) (i : Nat) (hi : i < l.length) : l[i] ∉ l.take i := by
  intro hm
  obtain ⟨j, hj⟩ := List.getElem?_of_mem hm
  rw [List.getElem?_take] at hj
  split at hj
  · rename_i hji
    have := nodup_inj h hj (List.getElem?_eq_getElem hi)
    omega
  · cases hj
theorem risL_idem (l : List Ky) : risL (risL l) = risL l := risL_congr (fun p => mem_risL l p)
theorem keeps_right {st : QSt} (h : Keeps st) :
    (∀ (i : Nat) (hi : i < (kys (lineQ st)).length), (kys (lineQ st))[i] ∉ (kys (lineQ st)).take i ∧ (kys (lineQ st))[i] ∉ risL (kys st.busy) ∧ (kys (lineQ st))[i] ∈ risL (kys st.dirty)) ∧
    (∀ x ∈ risL (kys st.dirty), x ∈ kys (lineQ st) ∨ x ∈ risL (kys st.busy)) := by
  refine ⟨fun i hi => ?_, fun x hx => ?_⟩
  · obtain ⟨q, hq, e⟩ := List.mem_map.1 (List.getElem_mem hi)
    refine ⟨once_at (kys_nodup h.once) i hi, ?_, ?_⟩
    · rw [mem_risL, ← e]
      exact fun h' => h.apart q hq ((mem_kys _ _).1 h')
    · rw [mem_risL, ← e]
      exact (mem_kys _ _).2 (h.dirty q hq)
  · rw [mem_risL] at hx
    obtain ⟨q, hq, rfl⟩ := List.mem_map.1 hx
    rw [mem_risL]
    rcases h.all q hq with h' | h'
    · exact .inl ((mem_kys _ _).2 h')
    · exact .inr ((mem_kys _ _).2 h')
end Go.Proofs.Ytfnabpmdjfejbaa
