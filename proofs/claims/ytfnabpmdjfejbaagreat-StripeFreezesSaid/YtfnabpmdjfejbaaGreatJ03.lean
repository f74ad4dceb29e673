/- Lists of keys: in memory, in order; the reference's Less, Same. -/
import Derived.Test.YtfnabpmdjfejbaaGreatJ01
import Derived.Deep.LoopGhost
namespace Go.Proofs.YtfnabpmdjfejbaaGreat

section
set_option linter.unusedSimpArgs false
set_option linter.unusedVariables false
open Go.RowKit Go.Lib

abbrev Ky := Nat × Nat
def Ky.ok (p : Ky) : Prop := p.1 < 18446744073709551616 ∧ p.2 < 18446744073709551616
def ltK (p q : Ky) : Bool := if p.1 = q.1 then decide (p.2 < q.2) else decide (p.1 < q.1)

/-! ### Order -/
theorem ltK_irrefl (p : Ky) : ltK p p = false := by simp [ltK]
theorem ltK_trans {p q r : Ky} (h1 : ltK p q = true) (h2 : ltK q r = true) : ltK p r = true := by
  simp only [ltK] at *
  split at h1 <;> split at h2 <;> split <;> simp at * <;> omega
theorem ltK_total {p q : Ky} (h1 : ltK p q = false) (h2 : ltK q p = false) : p = q := by
  obtain ⟨a, b⟩ := p
  obtain ⟨c, d⟩ := q
  simp only [ltK] at *
  split at h1 <;> split at h2 <;> simp at * <;> omega
theorem ltK_asymm {p q : Ky} (h : ltK p q = true) : ltK q p = false := by
  cases h2 : ltK q p with
  | false => rfl
  | true => exact absurd (ltK_trans h h2) (by simp [ltK_irrefl])

/-- A key is laid into its place. -/
def insK (x : Ky) : List Ky → List Ky
  | [] => [x]
  | a :: l => if ltK a x then a :: insK x l else if a = x then a :: l else x :: a :: l
/-- Keys in order, each once, as the reference makes them. -/
def risL (l : List Ky) : List Ky := l.foldl (fun out x => insK x out) []

def RisK : List Ky → Prop
  | [] => True
  | [_] => True
  | a :: b :: l => ltK a b = true ∧ RisK (b :: l)

/-! ### The cells of keys -/
def cellsK (l : List Ky) : List Value := l.flatMap fun p => [.int .u64 p.1, .int .u64 p.2]
theorem cellsK_nil : cellsK [] = [] := rfl
theorem cellsK_cons (p : Ky) (l : List Ky) : cellsK (p :: l) = .int .u64 p.1 :: .int .u64 p.2 :: cellsK l := rfl
theorem cellsK_len (l : List Ky) : (cellsK l).length = l.length * 2 := by
  induction l with
  | nil => rfl
  | cons a l ih => rw [cellsK_cons]; simp only [List.length_cons, ih]; omega
theorem cellsK_one (l : List Ky) : ∀ u ∈ cellsK l, u.oneCell' = true := by
  intro u hu
  obtain ⟨p, _, h⟩ := List.mem_flatMap.1 hu
  simp at h
  rcases h with rfl | rfl <;> rfl
theorem cellsK_append (l m : List Ky) : cellsK (l ++ m) = cellsK l ++ cellsK m := by simp [cellsK]
theorem cellsK_at (l : List Ky) : ∀ (i : Nat) (p : Ky), l[i]? = some p → (cellsK l)[i * 2]? = some (.int .u64 p.1) ∧ (cellsK l)[i * 2 + 1]? = some (.int .u64 p.2) := by
  induction l with
  | nil => intro i p h; simp at h
  | cons a l ih =>
    intro i p h
    cases i with
    | zero => simp at h; subst h; exact ⟨rfl, rfl⟩
    | succ i =>
      simp at h
      obtain ⟨h1, h2⟩ := ih i p h
      rw [cellsK_cons]
      exact ⟨by rw [show (i + 1) * 2 = i * 2 + 1 + 1 by omega]; simpa using h1, by rw [show (i + 1) * 2 + 1 = i * 2 + 1 + 1 + 1 by omega]; simpa using h2⟩
theorem cellsK_take (l : List Ky) : ∀ k, (cellsK l).take (k * 2) = cellsK (l.take k) := by
  induction l with
  | nil => intro k; simp [cellsK_nil]
  | cons a l ih =>
    intro k
    cases k with
    | zero => simp [cellsK_nil]
    | succ k => rw [show (k + 1) * 2 = k * 2 + 1 + 1 by omega, cellsK_cons, List.take_succ_cons, List.take_succ_cons, ih, List.take_succ_cons, cellsK_cons]
theorem cellsK_drop (l : List Ky) : ∀ k, (cellsK l).drop (k * 2) = cellsK (l.drop k) := by
  induction l with
  | nil => intro k; simp [cellsK_nil]
  | cons a l ih =>
    intro k
    cases k with
    | zero => simp
    | succ k => rw [show (k + 1) * 2 = k * 2 + 1 + 1 by omega, cellsK_cons, List.drop_succ_cons, List.drop_succ_cons, ih, List.drop_succ_cons]

/-- A slice that holds these keys. -/
def KeysIn (w : World) (v : Value) (l : List Ky) : Prop :=
  ∃ A c, v = .slice A l.length c ∧ (0 < l.length → ∃ b o, A = some ⟨b, o, none⟩ ∧ b < w.heap.size ∧ ∀ j u, (cellsK l)[j]? = some u → w.cell? ⟨b, o + j, none⟩ = some u)
theorem KeysIn.below {w w' : World} {v : Value} {l : List Ky} (h : KeysIn w v l) (hb : Below w.heap.size w w') : KeysIn w' v l := by
  obtain ⟨A, c, hv, h⟩ := h
  refine ⟨A, c, hv, fun hn => ?_⟩
  obtain ⟨b, o, hA, hlt, h⟩ := h hn
  exact ⟨b, o, hA, Nat.lt_of_lt_of_le hlt hb.size, fun j u hu => (hb.cell (p := ⟨b, _, none⟩) hlt).trans (h j u hu)⟩
theorem KeysIn.at_ {w : World} {A : Option Addr} {c n : Nat} {l : List Ky} (h : KeysIn w (.slice A n c) l) {k : Nat} (hk : k < l.length) :
    ∃ b o, A = some ⟨b, o, none⟩ ∧ b < w.heap.size ∧ w.cell? ⟨b, o + k * 2, none⟩ = some (.int .u64 (l[k]).1) ∧ w.cell? ⟨b, o + k * 2 + 1, none⟩ = some (.int .u64 (l[k]).2) := by
  obtain ⟨A1, c1, hv, h⟩ := h
  injection hv with e1 e2 e3
  subst e1
  obtain ⟨b, o, hA, hlt, h⟩ := h (by omega)
  obtain ⟨h1, h2⟩ := cellsK_at l k l[k] (List.getElem?_eq_getElem hk)
  exact ⟨b, o, hA, hlt, h _ _ h1, h _ _ h2⟩
theorem KeysIn.len {w : World} {A : Option Addr} {c n : Nat} {l : List Ky} (h : KeysIn w (.slice A n c) l) : n = l.length := by
  obtain ⟨_, _, hv, _⟩ := h
  injection hv
theorem KeysIn.own {w : World} {base : Nat} {e : TypeId} {v : Value} {l : List Ky} (h : w.ownsRow base e 2 v l.length (cellsK l)) : KeysIn w v l := by
  obtain ⟨A, c, rfl⟩ := own_form h
  refine ⟨A, c, rfl, fun hn => ?_⟩
  have h0 := h
  rcases h.2 with ⟨hv, h0⟩ | ⟨g, cap, cur, hv, _⟩
  · omega
  · injection hv with e1 e2 e3
    subst e1 e3
    refine ⟨g, 0, rfl, (h.lt g rfl).2, fun j u hu => ?_⟩
    have hj := (List.getElem?_eq_some_iff.1 hu).1
    rw [cellsK_len] at hj
    rw [Nat.zero_add, h.cellAt j hj, hu]

/-! ### The reference's Less, Same -/
set_option maxRecDepth 100000 in
set_option maxHeartbeats 1000000 in
theorem less_any (p q : Ky) (w : World) (hp : p.ok) (hq : q.ok) :
    Calls Tryz.prog 58 #[keyV p.1 p.2, keyV q.1 q.2] w fun e w' => e = .returned (.bool (ltK p q)) ∧ Below w.heap.size w w' := by
  obtain ⟨a, b⟩ := p
  obtain ⟨c, d⟩ := q
  obtain ⟨h1, h2⟩ := hp
  obtain ⟨h3, h4⟩ := hq
  simp only at h1 h2 h3 h4 ⊢
  unfold keyV
  by_cases e1 : a = c
  · subst e1
    by_cases e3 : b < d
    · have hv : ltK (a, b) (a, d) = true := by simp [ltK, e3]
      rw [hv]
      clear hv
      go_enter Tryz.func58, Tryz.ntmps58
      go_wp2
      go_ret
      exact ⟨rfl, ((Below.refl _ _).alloc (Nat.le_refl _) _).alloc (by simp) _⟩
    · have hv : ltK (a, b) (a, d) = false := by simp [ltK, e3]
      rw [hv]
      clear hv
      go_enter Tryz.func58, Tryz.ntmps58
      go_wp2
      go_ret
      exact ⟨rfl, ((Below.refl _ _).alloc (Nat.le_refl _) _).alloc (by simp) _⟩
  · have q : ((a : Int) != (c : Int)) = true := by simp; omega
    by_cases e3 : a < c
    · have hv : ltK (a, b) (c, d) = true := by simp [ltK, e1, e3]
      rw [hv]
      clear hv
      go_enter Tryz.func58, Tryz.ntmps58
      go_wp2
      go_ret
      exact ⟨rfl, ((Below.refl _ _).alloc (Nat.le_refl _) _).alloc (by simp) _⟩
    · have hv : ltK (a, b) (c, d) = false := by simp [ltK, e1, e3]
      rw [hv]
      clear hv
      go_enter Tryz.func58, Tryz.ntmps58
      go_wp2
      go_ret
      exact ⟨rfl, ((Below.refl _ _).alloc (Nat.le_refl _) _).alloc (by simp) _⟩

def sameK (l m : List Ky) : Bool := decide (l = m)

set_option maxRecDepth 100000 in
set_option maxHeartbeats 2000000 in
theorem same_any (v u : Value) (l m : List Ky) (w : World) (hv : KeysIn w v l) (hu : KeysIn w u m) (hl : l.length ≤ maxLen) (hm : m.length ≤ maxLen) :
    Calls Tryz.prog 36 #[v, u] w fun e w' => e = .returned (.bool (sameK l m)) ∧ Below w.heap.size w w' := by
  have hl' : l.length ≤ 9223372036854775807 := hl
  have hm' : m.length ≤ 9223372036854775807 := hm
  obtain ⟨A, c, rfl, h0⟩ := id hv
  obtain ⟨B, d, rfl, h1⟩ := id hu
  clear h0 h1
  by_cases hlen : l.length = m.length
  · go_enter Tryz.func36, Tryz.ntmps36
    have HV := Lib.hid hv
    have HU := Lib.hid hu
    have HL := Lib.hid hlen
    have q : ((l.length : Int) != (m.length : Int)) = false := by simp; omega
    clear hlen hv hu
    go_wp2
    go_loopg [5] l.length (fun g s5 wr => ∃ k n : Nat, k ≤ l.length ∧ l.length - k ≤ g ∧ s5 = .int .i64 k ∧ wr = w.drewN n ∧ l.take k = m.take k)
    case atStart => exact ⟨0, 0, Nat.zero_le _, Nat.le_refl _, rfl, rfl, rfl⟩
    case round =>
      obtain ⟨k, n, hk, hg, rfl, rfl, heq⟩ := hrel
      by_cases hlt : k < l.length
      · have hlt2 : k < m.length := by have := HL.out; omega
        obtain ⟨b1, o1, rfl, hb1, c1, c2⟩ := HV.out.at_ hlt
        obtain ⟨b2, o2, rfl, hb2, c3, c4⟩ := HU.out.at_ hlt2
        have Hq := Lib.hid heq
        clear heq
        by_cases he : l[k] = m[k]
        · have heq' : l.take (k + 1) = m.take (k + 1) := by
            rw [List.take_succ_eq_append_getElem hlt, List.take_succ_eq_append_getElem hlt2, Hq.out, he]
          have Hq2 := Lib.hid heq'
          rw [he] at c1 c2
          clear heq' he
          go_wp2_with fail
          go_quiet (fail)
          go_wp2
          go_roundg (l.length - (k + 1))
          case measure => omega
          case rel => exact ⟨k + 1, _, hlt, Nat.le_refl _, by go_num, rfl, Hq2.out⟩
        · have hf : sameK l m = false := by
            simp only [sameK, decide_eq_false_iff_not]
            intro h
            subst h
            exact he rfl
          have Hf := Lib.hid hf
          by_cases h1 : (l[k]).1 = (m[k]).1
          · have h2 : (((l[k]).2 : Int) == ((m[k]).2 : Int)) = false := by
              have : (l[k]).2 ≠ (m[k]).2 := fun h2 => he (Prod.ext h1 h2)
              simp; omega
            rw [h1] at c1
            clear hf he h1
            go_wp2_with fail
            go_quiet (fail)
            go_wp2
            go_ret
            exact ⟨by rw [Hf.out]; rfl, below_drewN (below_drewN (Below.refl _ _) _) _⟩
          · have h2 : (((l[k]).1 : Int) == ((m[k]).1 : Int)) = false := by simp; omega
            clear hf he h1
            go_wp2_with fail
            go_quiet (fail)
            go_wp2
            go_ret
            exact ⟨by rw [Hf.out]; rfl, below_drewN (below_drewN (Below.refl _ _) _) _⟩
      · obtain rfl : k = l.length := by omega
        have ht : sameK l m = true := by
          rw [List.take_length, HL.out, List.take_length] at heq
          simp [sameK, heq]
        have Ht := Lib.hid ht
        clear ht heq
        go_wp2
        go_ret
        exact ⟨by rw [Ht.out]; rfl, below_drewN (Below.refl _ _) _⟩
  · have hf : sameK l m = false := by
      simp only [sameK, decide_eq_false_iff_not]
      intro h
      exact hlen (by rw [h])
    have Hf := Lib.hid hf
    have q : ((l.length : Int) != (m.length : Int)) = true := by simp; omega
    clear hf hlen hv hu
    go_enter Tryz.func36, Tryz.ntmps36
    go_wp2
    go_ret
    exact ⟨by rw [Hf.out]; rfl, Below.refl _ _⟩
end

end Go.Proofs.YtfnabpmdjfejbaaGreat
