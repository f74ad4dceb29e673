/- Lists of keys: in memory, in order; the reference's Less, Same; Keys in order, each once: the reference's way and the sorted one's are one; Small laws on rows of keys of the call's own. -/
import Derived.Test.YtfegielnmdppgaaGreatJ01
import Derived.Deep.LoopGhost
import Derived.Lib.SlicesCompact
import Derived.Lib.SmallJoins
import Derived.Laws.AppendOwnNone
namespace Go.Proofs.YtfegielnmdppgaaGreat

section
set_option linter.unusedSimpArgs false
set_option linter.unusedVariables false
open Go.RowKit Go.Lib

abbrev Ky := Nat × Nat
def Ky.ok (p : Ky) : Prop := p.1 < 18446744073709551616 ∧ p.2 < 18446744073709551616
def ltK (p q : Ky) : Bool := if p.1 = q.1 then decide (p.2 < q.2) else decide (p.1 < q.1)

/-! ### Order -/
theorem ltK_irrefl (p : Ky) : ltK p p = false := by simp [ltK]
theorem ltK_trans {p q r : Ky} (h1 : ltK p q = true) (h2 : ltK q r = true) : ltK p r = true := by
  simp only [ltK] at *
  split at h1 <;> split at h2 <;> split <;> simp at * <;> omega
theorem ltK_total {p q : Ky} (h1 : ltK p q = false) (h2 : ltK q p = false) : p = q := by
  obtain ⟨a, b⟩ := p
  obtain ⟨c, d⟩ := q
  simp only [ltK] at *
  split at h1 <;> split at h2 <;> simp at * <;> omega
theorem ltK_asymm {p q : Ky} (h : ltK p q = true) : ltK q p = false := by
  cases h2 : ltK q p with
  | false => rfl
  | true => exact absurd (ltK_trans h h2) (by simp [ltK_irrefl])

/-- A key is laid into its place. -/
def insK (x : Ky) : List Ky → List Ky
  | [] => [x]
  | a :: l => if ltK a x then a :: insK x l else if a = x then a :: l else x :: a :: l
/-- Keys in order, each once, as the reference makes them. -/
def risL (l : List Ky) : List Ky := l.foldl (fun out x => insK x out) []

def RisK : List Ky → Prop
  | [] => True
  | [_] => True
  | a :: b :: l => ltK a b = true ∧ RisK (b :: l)

/-! ### The cells of keys -/
def cellsK (l : List Ky) : List Value := l.flatMap fun p => [.int .u64 p.1, .int .u64 p.2]
theorem cellsK_nil : cellsK [] = [] := rfl
theorem cellsK_cons (p : Ky) (l : List Ky) : cellsK (p :: l) = .int .u64 p.1 :: .int .u64 p.2 :: cellsK l := rfl
theorem cellsK_len (l : List Ky) : (cellsK l).length = l.length * 2 := by
  induction l with
  | nil => rfl
  | cons a l ih => rw [cellsK_cons]; simp only [List.length_cons, ih]; omega
theorem cellsK_one (l : List Ky) : ∀ u ∈ cellsK l, u.oneCell' = true := by
  intro u hu
  obtain ⟨p, _, h⟩ := List.mem_flatMap.1 hu
  simp at h
  rcases h with rfl | rfl <;> rfl
theorem cellsK_append (l m : List Ky) : cellsK (l ++ m) = cellsK l ++ cellsK m := by simp [cellsK]
theorem cellsK_at (l : List Ky) : ∀ (i : Nat) (p : Ky), l[i]? = some p → (cellsK l)[i * 2]? = some (.int .u64 p.1) ∧ (cellsK l)[i * 2 + 1]? = some (.int .u64 p.2) := by
  induction l with
  | nil => intro i p h; simp at h
  | cons a l ih =>
    intro i p h
    cases i with
    | zero => simp at h; subst h; exact ⟨rfl, rfl⟩
    | succ i =>
      simp at h
      obtain ⟨h1, h2⟩ := ih i p h
      rw [cellsK_cons]
      exact ⟨by rw [show (i + 1) * 2 = i * 2 + 1 + 1 by omega]; simpa using h1, by rw [show (i + 1) * 2 + 1 = i * 2 + 1 + 1 + 1 by omega]; simpa using h2⟩
theorem cellsK_take (l : List Ky) : ∀ k, (cellsK l).take (k * 2) = cellsK (l.take k) := by
  induction l with
  | nil => intro k; simp [cellsK_nil]
  | cons a l ih =>
    intro k
    cases k with
    | zero => simp [cellsK_nil]
    | succ k => rw [show (k + 1) * 2 = k * 2 + 1 + 1 by omega, cellsK_cons, List.take_succ_cons, List.take_succ_cons, ih, List.take_succ_cons, cellsK_cons]
theorem cellsK_drop (l : List Ky) : ∀ k, (cellsK l).drop (k * 2) = cellsK (l.drop k) := by
  induction l with
  | nil => intro k; simp [cellsK_nil]
  | cons a l ih =>
    intro k
    cases k with
    | zero => simp
    | succ k => rw [show (k + 1) * 2 = k * 2 + 1 + 1 by omega, cellsK_cons, List.drop_succ_cons, List.drop_succ_cons, ih, List.drop_succ_cons]

/-- A slice that holds these keys. -/
def KeysIn (w : World) (v : Value) (l : List Ky) : Prop :=
  ∃ A c, v = .slice A l.length c ∧ (0 < l.length → ∃ b o, A = some ⟨b, o, none⟩ ∧ b < w.heap.size ∧ ∀ j u, (cellsK l)[j]? = some u → w.cell? ⟨b, o + j, none⟩ = some u)
theorem KeysIn.below {w w' : World} {v : Value} {l : List Ky} (h : KeysIn w v l) (hb : Below w.heap.size w w') : KeysIn w' v l := by
  obtain ⟨A, c, hv, h⟩ := h
  refine ⟨A, c, hv, fun hn => ?_⟩
  obtain ⟨b, o, hA, hlt, h⟩ := h hn
  exact ⟨b, o, hA, Nat.lt_of_lt_of_le hlt hb.size, fun j u hu => (hb.cell (p := ⟨b, _, none⟩) hlt).trans (h j u hu)⟩
theorem KeysIn.at_ {w : World} {A : Option Addr} {c n : Nat} {l : List Ky} (h : KeysIn w (.slice A n c) l) {k : Nat} (hk : k < l.length) :
    ∃ b o, A = some ⟨b, o, none⟩ ∧ b < w.heap.size ∧ w.cell? ⟨b, o + k * 2, none⟩ = some (.int .u64 (l[k]).1) ∧ w.cell? ⟨b, o + k * 2 + 1, none⟩ = some (.int .u64 (l[k]).2) := by
  obtain ⟨A1, c1, hv, h⟩ := h
  injection hv with e1 e2 e3
  subst e1
  obtain ⟨b, o, hA, hlt, h⟩ := h (by omega)
  obtain ⟨h1, h2⟩ := cellsK_at l k l[k] (List.getElem?_eq_getElem hk)
  exact ⟨b, o, hA, hlt, h _ _ h1, h _ _ h2⟩
theorem KeysIn.len {w : World} {A : Option Addr} {c n : Nat} {l : List Ky} (h : KeysIn w (.slice A n c) l) : n = l.length := by
  obtain ⟨_, _, hv, _⟩ := h
  injection hv
theorem KeysIn.own {w : World} {base : Nat} {e : TypeId} {v : Value} {l : List Ky} (h : w.ownsRow base e 2 v l.length (cellsK l)) : KeysIn w v l := by
  obtain ⟨A, c, rfl⟩ := own_form h
  refine ⟨A, c, rfl, fun hn => ?_⟩
  have h0 := h
  rcases h.2 with ⟨hv, h0⟩ | ⟨g, cap, cur, hv, _⟩
  · omega
  · injection hv with e1 e2 e3
    subst e1 e3
    refine ⟨g, 0, rfl, (h.lt g rfl).2, fun j u hu => ?_⟩
    have hj := (List.getElem?_eq_some_iff.1 hu).1
    rw [cellsK_len] at hj
    rw [Nat.zero_add, h.cellAt j hj, hu]

/-! ### The reference's Less, Same -/
set_option maxRecDepth 100000 in
set_option maxHeartbeats 1000000 in
theorem less_any (p q : Ky) (w : World) (hp : p.ok) (hq : q.ok) :
    Calls Tryz.prog 138 #[keyV p.1 p.2, keyV q.1 q.2] w fun e w' => e = .returned (.bool (ltK p q)) ∧ Below w.heap.size w w' := by
  obtain ⟨a, b⟩ := p
  obtain ⟨c, d⟩ := q
  obtain ⟨h1, h2⟩ := hp
  obtain ⟨h3, h4⟩ := hq
  simp only at h1 h2 h3 h4 ⊢
  unfold keyV
  by_cases e1 : a = c
  · subst e1
    by_cases e3 : b < d
    · have hv : ltK (a, b) (a, d) = true := by simp [ltK, e3]
      rw [hv]
      clear hv
      go_enter Tryz.func138, Tryz.ntmps138
      go_wp2
      go_ret
      exact ⟨rfl, ((Below.refl _ _).alloc (Nat.le_refl _) _).alloc (by simp) _⟩
    · have hv : ltK (a, b) (a, d) = false := by simp [ltK, e3]
      rw [hv]
      clear hv
      go_enter Tryz.func138, Tryz.ntmps138
      go_wp2
      go_ret
      exact ⟨rfl, ((Below.refl _ _).alloc (Nat.le_refl _) _).alloc (by simp) _⟩
  · have q : ((a : Int) != (c : Int)) = true := by simp; omega
    by_cases e3 : a < c
    · have hv : ltK (a, b) (c, d) = true := by simp [ltK, e1, e3]
      rw [hv]
      clear hv
      go_enter Tryz.func138, Tryz.ntmps138
      go_wp2
      go_ret
      exact ⟨rfl, ((Below.refl _ _).alloc (Nat.le_refl _) _).alloc (by simp) _⟩
    · have hv : ltK (a, b) (c, d) = false := by simp [ltK, e1, e3]
      rw [hv]
      clear hv
      go_enter Tryz.func138, Tryz.ntmps138
      go_wp2
      go_ret
      exact ⟨rfl, ((Below.refl _ _).alloc (Nat.le_refl _) _).alloc (by simp) _⟩

def sameK (l m : List Ky) : Bool := decide (l = m)

set_option maxRecDepth 100000 in
set_option maxHeartbeats 2000000 in
theorem same_any (v u : Value) (l m : List Ky) (w : World) (hv : KeysIn w v l) (hu : KeysIn w u m) (hl : l.length ≤ maxLen) (hm : m.length ≤ maxLen) :
    Calls Tryz.prog 28 #[v, u] w fun e w' => e = .returned (.bool (sameK l m)) ∧ Below w.heap.size w w' := by
  have hl' : l.length ≤ 9223372036854775807 := hl
  have hm' : m.length ≤ 9223372036854775807 := hm
  obtain ⟨A, c, rfl, h0⟩ := id hv
  obtain ⟨B, d, rfl, h1⟩ := id hu
  clear h0 h1
  by_cases hlen : l.length = m.length
  · go_enter Tryz.func28, Tryz.ntmps28
    have HV := Lib.hid hv
    have HU := Lib.hid hu
    have HL := Lib.hid hlen
    have q : ((l.length : Int) != (m.length : Int)) = false := by simp; omega
    clear hlen hv hu
    go_wp2
    go_loopg [5] l.length (fun g s5 wr => ∃ k n : Nat, k ≤ l.length ∧ l.length - k ≤ g ∧ s5 = .int .i64 k ∧ wr = w.drewN n ∧ l.take k = m.take k)
    case atStart => exact ⟨0, 0, Nat.zero_le _, Nat.le_refl _, rfl, rfl, rfl⟩
    case round =>
      obtain ⟨k, n, hk, hg, rfl, rfl, heq⟩ := hrel
      by_cases hlt : k < l.length
      · have hlt2 : k < m.length := by have := HL.out; omega
        obtain ⟨b1, o1, rfl, hb1, c1, c2⟩ := HV.out.at_ hlt
        obtain ⟨b2, o2, rfl, hb2, c3, c4⟩ := HU.out.at_ hlt2
        have Hq := Lib.hid heq
        clear heq
        by_cases he : l[k] = m[k]
        · have heq' : l.take (k + 1) = m.take (k + 1) := by
            rw [List.take_succ_eq_append_getElem hlt, List.take_succ_eq_append_getElem hlt2, Hq.out, he]
          have Hq2 := Lib.hid heq'
          rw [he] at c1 c2
          clear heq' he
          go_wp2_with fail
          go_quiet (fail)
          go_wp2
          go_roundg (l.length - (k + 1))
          case measure => omega
          case rel => exact ⟨k + 1, _, hlt, Nat.le_refl _, by go_num, rfl, Hq2.out⟩
        · have hf : sameK l m = false := by
            simp only [sameK, decide_eq_false_iff_not]
            intro h
            subst h
            exact he rfl
          have Hf := Lib.hid hf
          by_cases h1 : (l[k]).1 = (m[k]).1
          · have h2 : (((l[k]).2 : Int) == ((m[k]).2 : Int)) = false := by
              have : (l[k]).2 ≠ (m[k]).2 := fun h2 => he (Prod.ext h1 h2)
              simp; omega
            rw [h1] at c1
            clear hf he h1
            go_wp2_with fail
            go_quiet (fail)
            go_wp2
            go_ret
            exact ⟨by rw [Hf.out]; rfl, below_drewN (below_drewN (Below.refl _ _) _) _⟩
          · have h2 : (((l[k]).1 : Int) == ((m[k]).1 : Int)) = false := by simp; omega
            clear hf he h1
            go_wp2_with fail
            go_quiet (fail)
            go_wp2
            go_ret
            exact ⟨by rw [Hf.out]; rfl, below_drewN (below_drewN (Below.refl _ _) _) _⟩
      · obtain rfl : k = l.length := by omega
        have ht : sameK l m = true := by
          rw [List.take_length, HL.out, List.take_length] at heq
          simp [sameK, heq]
        have Ht := Lib.hid ht
        clear ht heq
        go_wp2
        go_ret
        exact ⟨by rw [Ht.out]; rfl, below_drewN (Below.refl _ _) _⟩
  · have hf : sameK l m = false := by
      simp only [sameK, decide_eq_false_iff_not]
      intro h
      exact hlen (by rw [h])
    have Hf := Lib.hid hf
    have q : ((l.length : Int) != (m.length : Int)) = true := by simp; omega
    clear hf hlen hv hu
    go_enter Tryz.func28, Tryz.ntmps28
    go_wp2
    go_ret
    exact ⟨by rw [Hf.out]; rfl, Below.refl _ _⟩
end

section
set_option linter.unusedSimpArgs false
set_option linter.unusedVariables false
open Go.RowKit Go.Lib

theorem mem_insK (x y : Ky) : ∀ l : List Ky, y ∈ insK x l ↔ y = x ∨ y ∈ l
  | [] => by simp [insK]
  | a :: l => by
    rw [insK]
    split
    · rw [List.mem_cons, mem_insK x y l, List.mem_cons]
      constructor
      · rintro (h | h | h)
        · exact .inr (.inl h)
        · exact .inl h
        · exact .inr (.inr h)
      · rintro (h | h | h)
        · exact .inr (.inl h)
        · exact .inl h
        · exact .inr (.inr h)
    · split
      · rename_i h
        subst h
        simp
      · simp

theorem ins_pair (x : Ky) : ∀ l : List Ky, l.Pairwise (fun a b => ltK a b = true) → (insK x l).Pairwise (fun a b => ltK a b = true)
  | [], _ => by simp [insK]
  | a :: l, h => by
    rw [insK]
    rw [List.pairwise_cons] at h
    split
    · rename_i h1
      rw [List.pairwise_cons]
      refine ⟨fun y hy => ?_, ins_pair x l h.2⟩
      rcases (mem_insK x y l).1 hy with rfl | hy
      · exact h1
      · exact h.1 y hy
    · rename_i h1
      split
      · exact List.pairwise_cons.2 h
      · rename_i h2
        have h3 : ltK x a = true := by
          cases h4 : ltK x a with
          | true => rfl
          | false => exact absurd (ltK_total (by simpa using h1) h4) h2
        rw [List.pairwise_cons]
        refine ⟨fun y hy => ?_, List.pairwise_cons.2 h⟩
        rcases List.mem_cons.1 hy with rfl | hy
        · exact h3
        · exact ltK_trans h3 (h.1 y hy)

theorem foldl_ins (l : List Ky) : ∀ out : List Ky, out.Pairwise (fun a b => ltK a b = true) →
    (l.foldl (fun out x => insK x out) out).Pairwise (fun a b => ltK a b = true) ∧ ∀ y, y ∈ l.foldl (fun out x => insK x out) out ↔ y ∈ out ∨ y ∈ l := by
  induction l with
  | nil => intro out h; exact ⟨h, by simp⟩
  | cons a l ih =>
    intro out h
    obtain ⟨h1, h2⟩ := ih (insK a out) (ins_pair a out h)
    refine ⟨h1, fun y => ?_⟩
    rw [List.foldl_cons, h2, mem_insK, List.mem_cons]
    constructor
    · rintro ((h | h) | h)
      · exact .inr (.inl h)
      · exact .inl h
      · exact .inr (.inr h)
    · rintro (h | h | h)
      · exact .inl (.inr h)
      · exact .inl (.inl h)
      · exact .inr h

theorem risL_pair (l : List Ky) : (risL l).Pairwise (fun a b => ltK a b = true) := (foldl_ins l [] List.Pairwise.nil).1
theorem mem_risL (l : List Ky) (y : Ky) : y ∈ risL l ↔ y ∈ l := by simpa [risL] using (foldl_ins l [] List.Pairwise.nil).2 y
theorem len_insK (x : Ky) : ∀ l : List Ky, (insK x l).length ≤ l.length + 1
  | [] => by simp [insK]
  | a :: l => by
    have := len_insK x l
    rw [insK]
    split
    · simp; omega
    · split <;> simp
theorem len_foldl (l : List Ky) : ∀ out : List Ky, (l.foldl (fun out x => insK x out) out).length ≤ out.length + l.length := by
  induction l with
  | nil => intro out; simp
  | cons a l ih =>
    intro out
    have h1 := ih (insK a out)
    have h2 := len_insK a out
    simp only [List.foldl_cons, List.length_cons]
    omega
theorem len_risL (l : List Ky) : (risL l).length ≤ l.length := by simpa [risL] using len_foldl l []

/-- Two rising lists of the same keys are one. -/
theorem pair_unique : ∀ {l m : List Ky}, l.Pairwise (fun a b => ltK a b = true) → m.Pairwise (fun a b => ltK a b = true) → (∀ y, y ∈ l ↔ y ∈ m) → l = m
  | [], [], _, _, _ => rfl
  | [], b :: m, _, _, h => absurd ((h b).2 (by simp)) (by simp)
  | a :: l, [], _, _, h => absurd ((h a).1 (by simp)) (by simp)
  | a :: l, b :: m, h1, h2, h => by
    rw [List.pairwise_cons] at h1 h2
    have e : a = b := by
      have ha := (h a).1 (by simp)
      have hb := (h b).2 (by simp)
      rcases List.mem_cons.1 ha with e | ha
      · exact e
      · rcases List.mem_cons.1 hb with e | hb
        · exact e.symm
        · have := ltK_trans (h1.1 b hb) (h2.1 a ha)
          rw [ltK_irrefl] at this
          exact absurd this (by simp)
    subst e
    congr 1
    refine pair_unique h1.2 h2.2 fun y => ?_
    have hy := h y
    simp only [List.mem_cons] at hy
    constructor
    · intro hm
      rcases hy.1 (.inr hm) with rfl | hm'
      · have := h1.1 _ hm
        rw [ltK_irrefl] at this
        exact absurd this (by simp)
      · exact hm'
    · intro hm
      rcases hy.2 (.inr hm) with rfl | hm'
      · have := h2.1 _ hm
        rw [ltK_irrefl] at this
        exact absurd this (by simp)
      · exact hm'

/-- A sorted row, cut to what is kept of it. -/
theorem compact_pair (d : Array Ky) (hs : ∀ i j, i ≤ j → j < d.size → ltK d[j]! d[i]! = false) : (compactUpTo d d.size).Pairwise (fun a b => ltK a b = true) := by
  unfold compactUpTo
  rw [List.pairwise_map]
  refine (List.Pairwise.filter _ List.pairwise_lt_range).imp_of_mem ?_
  intro i j hi hj hij
  have hj2 := List.mem_filter.1 hj
  have hjn : j < d.size := List.mem_range.1 hj2.1
  have hk : j = 0 ∨ d[j]! ≠ d[j - 1]! := by simpa [keeps] using hj2.2
  have hne : d[j]! ≠ d[j - 1]! := hk.resolve_left (by omega)
  cases h : ltK d[i]! d[j]! with
  | true => rfl
  | false =>
    have h1 := hs i j (by omega) hjn
    have e := ltK_total h h1
    have h2 := hs i (j - 1) (by omega) (by omega)
    have h3 := hs (j - 1) j (by omega) hjn
    rw [e] at h2
    exact absurd (ltK_total h3 h2) (by exact fun e => hne e)
theorem mem_compact (d : Array Ky) : ∀ i, i < d.size → d[i]! ∈ compactUpTo d d.size := by
  intro i
  induction i with
  | zero =>
    intro h
    unfold compactUpTo
    exact List.mem_map.2 ⟨0, List.mem_filter.2 ⟨List.mem_range.2 h, by simp [keeps]⟩, rfl⟩
  | succ i ih =>
    intro h
    by_cases e : d[i + 1]! = d[i]!
    · rw [e]; exact ih (by omega)
    · unfold compactUpTo
      exact List.mem_map.2 ⟨i + 1, List.mem_filter.2 ⟨List.mem_range.2 h, by simp [keeps, e]⟩, rfl⟩
theorem compact_mem (d : Array Ky) (y : Ky) : y ∈ compactUpTo d d.size ↔ y ∈ d.toList := by
  constructor
  · intro h
    unfold compactUpTo at h
    obtain ⟨i, hi, rfl⟩ := List.mem_map.1 h
    have hn := List.mem_range.1 (List.mem_filter.1 hi).1
    rw [getElem!_pos d i hn]
    exact Array.getElem_mem_toList hn
  · intro h
    obtain ⟨i, hi, rfl⟩ := List.getElem_of_mem h
    have hn : i < d.size := by simpa using hi
    have := mem_compact d i hn
    rw [getElem!_pos d i hn] at this
    simpa using this

/-- Sorted, cut: as the reference has it. -/
theorem compact_sort (l : List Ky) : compactUpTo (l.mergeSort fun x y => !ltK y x).toArray (l.mergeSort fun x y => !ltK y x).toArray.size = risL l := by
  have hp : (l.mergeSort fun x y => !ltK y x).Pairwise (fun x y => (!ltK y x) = true) := by
    refine List.pairwise_mergeSort (fun a b c h1 h2 => ?_) (fun a b => ?_) l
    · simp only [Bool.not_eq_true'] at *
      cases h : ltK c a with
      | false => rfl
      | true =>
        cases h3 : ltK a b with
        | true => exact absurd (ltK_trans h h3) (by simp [h2])
        | false =>
          have := ltK_total h3 h1
          subst this
          rw [h2] at h
          exact absurd h (by simp)
    · cases h : ltK a b with
      | true => simp [ltK_asymm h]
      | false => simp
  have hl : (l.mergeSort fun x y => !ltK y x).length = l.length := List.length_mergeSort l
  refine pair_unique (compact_pair _ ?_) (risL_pair l) fun y => ?_
  · intro i j hij hj
    rcases Nat.lt_or_ge i j with h | h
    · have hj' : j < (l.mergeSort fun x y => !ltK y x).length := by simpa using hj
      have := List.pairwise_iff_getElem.1 hp i j (by omega) hj' h
      rw [getElem!_pos (l.mergeSort fun x y => !ltK y x).toArray j hj, getElem!_pos (l.mergeSort fun x y => !ltK y x).toArray i (by omega)]
      simpa using this
    · obtain rfl : i = j := by omega
      exact ltK_irrefl _
  · rw [compact_mem, mem_risL]
    simp
end

section
set_option linter.unusedSimpArgs false
set_option linter.unusedVariables false
open Go.RowKit Go.Lib

theorem key_info : (Tryz.prog.info? 40).map (fun i => (i.zero, i.size, i.bytes)) = some (some (.agg #[.int .u64 0, .int .u64 0]), 2, 16) := by kernel_rfl
theorem grown_below {B : Nat} {a b : World} {row : Option Nat} (h : a.grownBy b row) (hB : B ≤ a.heap.size) (hr : ∀ k, row = some k → B ≤ k) : Below B a b := (Below.refl B a).grown h hB hr
theorem own_lower {w : World} {base base' : Nat} {e : TypeId} {size : Nat} {v : Value} {n : Nat} {xs : List Value} (h : w.ownsRow base e size v n xs) (hb : base' ≤ base) : w.ownsRow base' e size v n xs := by
  refine ⟨h.1, ?_⟩
  rcases h.2 with hn | ⟨g, cap, cur, hv, hg, rest⟩
  · exact .inl hn
  · exact .inr ⟨g, cap, cur, hv, Nat.le_trans hb hg, rest⟩
end

end Go.Proofs.YtfegielnmdppgaaGreat
