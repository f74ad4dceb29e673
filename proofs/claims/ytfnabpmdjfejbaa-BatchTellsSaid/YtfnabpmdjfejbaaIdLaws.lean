/- The walks of the laws IdentPacks, IdentUnpacks, IdentOrders. -/
import Derived.Test.YtfnabpmdjfejbaaIdRef
import Derived.Deep.RegionHeld3
namespace Go.Proofs.Ytfnabpmdjfejbaa
set_option linter.unusedSimpArgs false
set_option linter.unusedVariables false
open Go.RowKit Go.Lib

theorem idS_a : idS { data := #[97] } = true := by decide
theorem idS_A : idS { data := #[65] } = false := by decide
theorem key_a : packV { data := #[97] } = .tuple #[.agg #[.int .u64 252201579132747776, .int .u64 0], .int .i64 0] := by
  simp [packV, idS_a]
  exact ⟨by decide, by decide⟩
theorem chk_A : chkV { data := #[65] } = 2 := by simp [chkV, idS_A]

theorem no_zero : ∀ l, ¬ IsKey 0 0 l := by
  intro l h
  have h0 := h.digs 0 (by omega)
  have hl := (idL_iff l).1 h.1
  rw [dig_at l 0 (by omega)] at h0
  have := hl.2.2 _ (List.getElem_mem (show 0 < l.length by omega))
  simp [okB, ← h0, atN] at this

/-- The cells of a key, and that nothing old has turned: shown anew behind a call. -/
theorem keepK {w a b : World} {g n : Nat} {x y : Value} (h : a.cell? ⟨g, 0, none⟩ = some x ∧ a.cell? ⟨g, 1, none⟩ = some y ∧ Below w.heap.size w a ∧ g < a.heap.size) (k : Below n a b) (e : n = a.heap.size) :
    b.cell? ⟨g, 0, none⟩ = some x ∧ b.cell? ⟨g, 1, none⟩ = some y ∧ Below w.heap.size w b ∧ g < b.heap.size := by
  subst e
  exact ⟨(k.cell (p := ⟨g, 0, none⟩) h.2.2.2).trans h.1, (k.cell (p := ⟨g, 1, none⟩) h.2.2.2).trans h.2.1, bthen h.2.2.1 k, Nat.lt_of_lt_of_le h.2.2.2 k.size⟩

theorem isKey_self (s : ByteArray) (h : idS s = true) : IsKey (hiN s.data.toList) (loN s.data.toList) s.data.toList := ⟨h, rfl, rfl⟩

theorem key_of {s : ByteArray} {hi lo : Nat} (h : IsKey hi lo s.data.toList) : idS s = true ∧ keyS s = keyV hi lo := by
  obtain ⟨h1, rfl, rfl⟩ := h
  exact ⟨h1, rfl⟩

theorem id_len {s : ByteArray} (h : idS s = true) : s.size ≤ maxLen := by
  have := (idS_okTo s h).2.1
  simp only [maxLen]
  omega
/-! ### Ids in order, keys in order -/

theorem keyN_lex (l m : List UInt8) (a : Nat) : ∀ n j, j < n → (∀ i, i < j → dig l (a + i) = dig m (a + i)) → dig l (a + j) < dig m (a + j) → keyN l a n < keyN m a n := by
  intro n
  induction n with
  | zero => intro j h; omega
  | succ n ih =>
    intro j h he hlt
    have h1 := dig_le l (a + n)
    have h2 := dig_le m (a + n)
    rw [keyN, keyN]
    rcases Nat.lt_or_ge j n with hj | hj
    · have := ih j hj he hlt
      omega
    · obtain rfl : j = n := by omega
      rw [keyN_congr l m a j he]
      omega

theorem key_lex (l m : List UInt8) (j : Nat) (hj : j < 20) (he : ∀ i, i < j → dig l i = dig m i) (hlt : dig l j < dig m j) : hiN l < hiN m ∨ hiN l = hiN m ∧ loN l < loN m := by
  rcases Nat.lt_or_ge j 10 with h | h
  · exact .inl (keyN_lex l m 0 10 j h (fun i hi => by simpa using he i hi) (by simpa using hlt))
  · refine .inr ⟨keyN_congr l m 0 10 (fun i hi => by simpa using he i (by omega)), keyN_lex l m 10 10 (j - 10) (by omega) (fun i hi => he _ (by omega)) ?_⟩
    rw [show 10 + (j - 10) = j by omega]
    exact hlt

theorem dig_cons_zero (a : UInt8) (l : List UInt8) : dig (a :: l) 0 = codeB a := rfl
theorem dig_cons_succ (a : UInt8) (l : List UInt8) (i : Nat) : dig (a :: l) (i + 1) = dig l i := rfl

/-- The first place where two texts of letters part. -/
theorem before_dig : ∀ (l m : List UInt8), (∀ b ∈ l, okB b = true) → (∀ b ∈ m, okB b = true) → beforeL l m = true → ∃ j, j < m.length ∧ (∀ i, i < j → dig l i = dig m i) ∧ dig l j < dig m j
  | [], [], _, _, h => by simp [beforeL] at h
  | [], b :: m, _, hm, _ => ⟨0, by simp, fun i hi => absurd hi (by omega), by
      have := hm b (by simp)
      rw [dig_cons_zero, dig_out [] 0 (by simp)]
      simp only [okB, decide_eq_true_eq] at this
      omega⟩
  | a :: l, [], _, _, h => by simp [beforeL] at h
  | a :: l, b :: m, hl, hm, h => by
    by_cases e : a = b
    · subst e
      rw [beforeL_cons] at h
      obtain ⟨j, h1, h2, h3⟩ := before_dig l m (fun x hx => hl x (by simp [hx])) (fun x hx => hm x (by simp [hx])) h
      refine ⟨j + 1, by simpa using h1, fun i hi => ?_, by simpa [dig_cons_succ] using h3⟩
      cases i with
      | zero => rfl
      | succ i => exact h2 i (by omega)
    · have hlt : a.toNat < b.toNat := by simpa [beforeL, e] using h
      exact ⟨0, by simp, fun i hi => absurd hi (by omega), by
        rw [dig_cons_zero, dig_cons_zero]
        exact (codeB_lt a b (hl a (by simp)) (hm b (by simp))).2 hlt⟩

theorem before_total : ∀ (l m : List UInt8), beforeL l m = false → l ≠ m → beforeL m l = true
  | [], [], _, h => absurd rfl h
  | [], b :: m, h, _ => by simp [beforeL] at h
  | a :: l, [], _, _ => rfl
  | a :: l, b :: m, h, hne => by
    by_cases e : a = b
    · subst e
      rw [beforeL_cons] at h ⊢
      exact before_total l m h (fun e => hne (by rw [e]))
    · have hge : ¬ a.toNat < b.toNat := by simpa [beforeL, e] using h
      have : a.toNat ≠ b.toNat := fun h => e (UInt8.toNat_inj.1 h)
      simp only [beforeL, if_neg (Ne.symm e), decide_eq_true_eq]
      omega

def wantI (s t : ByteArray) : Int := if beforeS s t = true then -1 else if s = t then 0 else 1

theorem cmp_key (s t : ByteArray) (hs : idS s = true) (ht : idS t = true) (h : beforeS s t = true) :
    hiN s.data.toList < hiN t.data.toList ∨ hiN s.data.toList = hiN t.data.toList ∧ loN s.data.toList < loN t.data.toList := by
  obtain ⟨_, _, h3⟩ := (idL_iff _).1 hs
  obtain ⟨_, h2', h3'⟩ := (idL_iff _).1 ht
  obtain ⟨j, hj, he, hlt⟩ := before_dig _ _ h3 h3' h
  exact key_lex _ _ j (by omega) he hlt

theorem bytes_ext {s t : ByteArray} (h : s.data.toList = t.data.toList) : s = t := by
  cases s; cases t
  simp at h
  rw [h]

theorem cmp_want (s t : ByteArray) (hs : idS s = true) (ht : idS t = true) :
    cmpI (hiN s.data.toList) (loN s.data.toList) (hiN t.data.toList) (loN t.data.toList) = wantI s t ∧ cmpI (hiN t.data.toList) (loN t.data.toList) (hiN s.data.toList) (loN s.data.toList) = - wantI s t := by
  unfold wantI cmpI
  cases hb : beforeS s t with
  | true =>
    have := cmp_key s t hs ht hb
    simp only [if_true]
    constructor
    · rw [if_neg (by omega), if_pos (by omega)]
    · rw [if_neg (by omega), if_neg (by omega)]; rfl
  | false =>
    by_cases e : s = t
    · subst e
      simp
    · have hb' : beforeS t s = true := before_total _ _ hb (fun h => e (bytes_ext h))
      have := cmp_key t s ht hs hb'
      simp only [e, if_false]
      constructor
      · rw [if_neg (by omega), if_neg (by omega)]; rfl
      · rw [if_neg (by omega), if_pos (by omega)]; rfl

end Go.Proofs.Ytfnabpmdjfejbaa
