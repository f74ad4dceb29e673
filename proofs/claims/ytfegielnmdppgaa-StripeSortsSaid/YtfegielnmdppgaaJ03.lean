/- Lists of keys: in memory, in order; the reference's Less, Same. -/
import Derived.Test.YtfegielnmdppgaaJ01
import Derived.Deep.LoopGhost
namespace Go.Proofs.Ytfegielnmdppgaa

section
set_option linter.unusedSimpArgs false
set_option linter.unusedVariables false
open Go.RowKit Go.Lib

abbrev Ky := Nat × Nat
def Ky.ok (p : Ky) : Prop := p.1 < 18446744073709551616 ∧ p.2 < 18446744073709551616
def ltK (p q : Ky) : Bool := if p.1 = q.1 then decide (p.2 < q.2) else decide (p.1 < q.1)

/-! ### Order -/
theorem ltK_irrefl (p : Ky) : ltK p p = false := by simp [ltK]
theorem ltK_trans {p q r : Ky} (h1 : ltK p q = true) (h2 : ltK q r = true) : ltK p r = true := by
  simp only [ltK] at *
  split at h1 <;> split at h2 <;> split <;> simp at * <;> omega
theorem ltK_total {p q : Ky} (h1 : ltK p q = false) (h2 : ltK q p = false) : p = q := by
  obtain ⟨a, b⟩ := p
  obtain ⟨c, d⟩ := q
  simp only [ltK] at *
  split at h1 <;> split at h2 <;> simp at * <;> omega
theorem ltK_asymm {p q : Ky} (h : ltK p q = true) : ltK q p = false := by
  cases h2 : ltK q p with
  | false => rfl
  | true => exact absurd (ltK_trans h h2) (by simp [ltK_irrefl])

/-- A key is laid into its place. -/
def insK (x : Ky) : List Ky → List Ky
  | [] => [x]
  | a :: l => if ltK a x then a :: insK x l else if a = x then a :: l else x :: a :: l
/-- Keys in order, each once, as the reference makes them. -/
def risL (l : List Ky) : List Ky := l.foldl (fun out x => insK x out) []

def RisK : List Ky → Prop
  | [] => True
  | [_] => True
  | a :: b :: l => ltK a b = true ∧ RisK (b :: l)

/-! ### The cells of keys -/
def cellsK (l : List Ky) : List Value := l.flatMap fun p => [.int .u64 p.1, .int .u64 p.2]
theorem cellsK_nil : cellsK [] = [] := rfl
theorem cellsK_cons (p : Ky) (l : List Ky) : cellsK (p :: l) = .int .u64 p.1 :: .int .u64 p.2 :: cellsK l := rfl
theorem cellsK_len (l : List Ky) : (cellsK l).length = l.length * 2 := by
  induction l with
  | nil => rfl
  | cons a l ih => rw [cellsK_cons]; simp only [List.length_cons, ih]; omega
theorem cellsK_one (l : List Ky) : ∀ u ∈ cellsK l, u.oneCell' = true := by
  intro u hu
  obtain ⟨p, _, h⟩ := List.mem_flatMap.1 hu
  simp at h
  rcases h with rfl | rfl <;> rfl
theorem cellsK_append (l m : List Ky) : cellsK (l ++ m) = cellsK l ++ cellsK m := by simp [cellsK]
theorem cellsK_at (l : List Ky) : ∀ (i : Nat) (p : Ky), l[i]? = some p → (cellsK l)[i * 2]? = some (.int .u64 p.1) ∧ (cellsK l)[i * 2 + 1]? = some (.int .u64 p.2) := by
  induction l with
  | nil => intro i p h; simp at h
  | cons a l ih =>
    intro i p h
    cases i with
    | zero => simp at h; subst h; exact ⟨rfl, rfl⟩
    | succ i =>
      simp at h
      obtain ⟨h1, h2⟩ := ih i p h
      rw [cellsK_cons]
      exact ⟨by rw [show (i + 1) * 2 = i * 2 + 1 + 1 by omega]; simpa using h1, by rw [show (i + 1) * 2 + 1 = i * 2 + 1 + 1 + 1 by omega]; simpa using h2⟩
theorem cellsK_take (l : List Ky) : ∀ k, (cellsK l).take (k * 2) = cellsK (l.take k) := by
  induction l with
  | nil => intro k; simp [cellsK_nil]
  | cons a l ih =>
    intro k
    cases k with
    | zero => simp [cellsK_nil]
    | succ k => rw [show (k + 1) * 2 = k * 2 + 1 + 1 by omega, cellsK_cons, List.take_succ_cons, List.take_succ_cons, ih, List.take_succ_cons, cellsK_cons]
theorem cellsK_drop (l : List Ky) : ∀ k, (cellsK l).drop (k * 2) = cellsK (l.drop k) := by
  induction l with
  | nil => intro k; simp [cellsK_nil]
  | cons a l ih =>
    intro k
    cases k with
    | zero => simp
    | succ k => rw [show (k + 1) * 2 = k * 2 + 1 + 1 by omega, cellsK_cons, List.drop_succ_cons, List.drop_succ_cons, ih, List.drop_succ_cons]

/-- A slice that holds these keys. -/
def KeysIn (w : World) (v : Value) (l : List Ky) : Prop :=
  ∃ A c, v = .slice A l.length c ∧ (0 < l.length → ∃ b o, A = some ⟨b, o, none⟩ ∧ b < w.heap.size ∧ ∀ j u, (cellsK l)[j]? = some u → w.cell? ⟨b, o + j, none⟩ = some u)
theorem KeysIn.below {w w' : World} {v : Value} {l : List Ky} (h : KeysIn w v l) (hb : Below w.heap.size w w') : KeysIn w' v l := by
  obtain ⟨A, c, hv, h⟩ := h
  refine ⟨A, c, hv, fun hn => ?_⟩
  obtain ⟨b, o, hA, hlt, h⟩ := h hn
  exact ⟨b, o, hA, Nat.lt_of_lt_of_le hlt hb.size, fun j u hu => (hb.cell (p := ⟨b, _, none⟩) hlt).trans (h j u hu)⟩
theorem KeysIn.at_ {w : World} {A : Option Addr} {c n : Nat} {l : List Ky} (h : KeysIn w (.slice A n c) l) {k : Nat} (hk : k < l.length) :
    ∃ b o, A = some ⟨b, o, none⟩ ∧ b < w.heap.size ∧ w.cell? ⟨b, o + k * 2, none⟩ = some (.int .u64 (l[k]).1) ∧ w.cell? ⟨b, o + k * 2 + 1, none⟩ = some (.int .u64 (l[k]).2) := by
  obtain ⟨A1, c1, hv, h⟩ := h
  injection hv with e1 e2 e3
  subst e1
  obtain ⟨b, o, hA, hlt, h⟩ := h (by omega)
  obtain ⟨h1, h2⟩ := cellsK_at l k l[k] (List.getElem?_eq_getElem hk)
  exact ⟨b, o, hA, hlt, h _ _ h1, h _ _ h2⟩
theorem KeysIn.len {w : World} {A : Option Addr} {c n : Nat} {l : List Ky} (h : KeysIn w (.slice A n c) l) : n = l.length := by
  obtain ⟨_, _, hv, _⟩ := h
  injection hv
theorem KeysIn.own {w : World} {base : Nat} {e : TypeId} {v : Value} {l : List Ky} (h : w.ownsRow base e 2 v l.length (cellsK l)) : KeysIn w v l := by
  obtain ⟨A, c, rfl⟩ := own_form h
  refine ⟨A, c, rfl, fun hn => ?_⟩
  have h0 := h
  rcases h.2 with ⟨hv, h0⟩ | ⟨g, cap, cur, hv, _⟩
  · omega
  · injection hv with e1 e2 e3
    subst e1 e3
    refine ⟨g, 0, rfl, (h.lt g rfl).2, fun j u hu => ?_⟩
    have hj := (List.getElem?_eq_some_iff.1 hu).1
    rw [cellsK_len] at hj
    rw [Nat.zero_add, h.cellAt j hj, hu]

/-! ### The reference's Less, Same -/
set_option maxRecDepth 100000 in
set_option maxHeartbeats 1000000 in
theorem less_any (p q : Ky) (w : World) (hp : p.ok) (hq : q.ok) :
    Calls Try.prog 9 #[keyV p.1 p.2, keyV q.1 q.2] w fun e w' => e = .returned (.bool (ltK p q)) ∧ Below w.heap.size w w' := by
  obtain ⟨a, b⟩ := p
  obtain ⟨c, d⟩ := q
  obtain ⟨h1, h2⟩ := hp
  obtain ⟨h3, h4⟩ := hq
  simp only at h1 h2 h3 h4 ⊢
  unfold keyV
  by_cases e1 : a = c
  · subst e1
    by_cases e3 : b < d
    · have hv : ltK (a, b) (a, d) = true := by simp [ltK, e3]
      rw [hv]
      clear hv
      go_enter Try.func9, Try.ntmps9
      go_wp2
      go_ret
      exact ⟨rfl, ((Below.refl _ _).alloc (Nat.le_refl _) _).alloc (by simp) _⟩
    · have hv : ltK (a, b) (a, d) = false := by simp [ltK, e3]
      rw [hv]
      clear hv
      go_enter Try.func9, Try.ntmps9
      go_wp2
      go_ret
      exact ⟨rfl, ((Below.refl _ _).alloc (Nat.le_refl _) _).alloc (by simp) _⟩
  · have q : ((a : Int) != (c : Int)) = true := by simp; omega
    by_cases e3 : a < c
    · have hv : ltK (a, b) (c, d) = true := by simp [ltK, e1, e3]
      rw [hv]
      clear hv
      go_enter Try.func9, Try.ntmps9
      go_wp2
      go_ret
      exact ⟨rfl, ((Below.refl _ _).alloc (Nat.le_refl _) _).alloc (by simp) _⟩
    · have hv : ltK (a, b) (c, d) = false := by simp [ltK, e1, e3]
      rw [hv]
      clear hv
      go_enter Try.func9, Try.ntmps9
      go_wp2
      go_ret
      exact ⟨rfl, ((Below.refl _ _).alloc (Nat.le_refl _) _).alloc (by simp) _⟩

def sameK (l m : List Ky) : Bool := decide (l = m)
end

end Go.Proofs.Ytfegielnmdppgaa
