/- A store and the world of the reference: what stays so, and where an id's load stands (plain); A flat map in memory, and the world of the reference that it tells: the predicates; flat.New; a flat map's home of an id; A whole row is stored into a block. -/
import Derived.Test.YtmniiodpbebnmaaGreatC18
import Derived.StringKeys
import Derived.Laws.Cover3
import Derived.Test.YtmniiodpbebnmaaGreatC07
import Derived.Test.YtmniiodpbebnmaaGreatC10
import Derived.Test.YtmniiodpbebnmaaGreatC04
namespace Go.Proofs.YtmniiodpbebnmaaGreat

section
set_option linter.unusedSimpArgs false
set_option linter.unusedVariables false
open Go.RowKit Go.Lib Go.Sort

/-! ### Finding -/
theorem findIt_mem {l : List Itm} {k : Ky} {y : Nd} (h : findIt l k = some y) : (k, y) ∈ l := by
  unfold findIt at h
  obtain ⟨q, hq, rfl⟩ := Option.map_eq_some_iff.1 h
  have h1 := List.find?_some hq
  simp at h1
  rw [← h1]
  exact List.mem_of_find?_eq_some hq
theorem findIt_none {l : List Itm} {k : Ky} (h : ∀ p ∈ l, p.1 ≠ k) : findIt l k = none := by
  unfold findIt
  rw [List.find?_eq_none.2 (fun p hp => by simpa using h p hp)]
  rfl
theorem findIt_append (a b : List Itm) (k : Ky) : findIt (a ++ b) k = (findIt a k).or (findIt b k) := by
  unfold findIt
  rw [List.find?_append]
  cases List.find? (fun p => decide (p.1 = k)) a <;> rfl
theorem findIt_sorted {R : List Itm} (hs : (R.map (·.1)).Pairwise (fun a b => ltK a b = true)) {k : Ky} {y : Nd} (h : (k, y) ∈ R) : findIt R k = some y := by
  unfold findIt
  cases hf : R.find? (fun p => decide (p.1 = k)) with
  | none => exact absurd (List.find?_eq_none.1 hf (k, y) h) (by simp)
  | some q =>
    have h1 := List.find?_some hf
    simp at h1
    have h2 := List.mem_of_find?_eq_some hf
    obtain ⟨a, b⟩ := q
    obtain rfl : a = k := h1
    rw [sorted_at_unique hs h2 h]
    rfl
theorem tells_find {S : List (KO × Nd)} {R : List Itm} (h : Tells18 S R) (k : KO) : match findM S k with | none => findIt R k.1 = none | some x => ∃ y, findIt R k.1 = some y ∧ sameN x y := by
  cases hf : findM S k with
  | some x =>
    obtain ⟨y, hy, hs⟩ := h.vals k x hf
    exact ⟨y, findIt_sorted h.sorted hy, hs⟩
  | none =>
    refine findIt_none (fun p hp e => ?_)
    have hk : p.1 ∈ keysS S := (h.keys p.1).1 (List.mem_map.2 ⟨p, hp, rfl⟩)
    obtain ⟨q, hq, e2⟩ := List.mem_map.1 hk
    have : q.1 = k := Subtype.ext (e2.trans e)
    have hh : hasM S k = true := (hasM_iff S k).2 (List.mem_map.2 ⟨q, hq, this⟩)
    obtain ⟨v, hv, _⟩ := findM_some hh
    rw [hf] at hv
    cases hv
theorem flat_none {ll : List (List Itm)} {k : Ky} (h : ∀ l ∈ ll, findIt l k = none) : findIt ll.flatten k = none := by
  induction ll with
  | nil => rfl
  | cons l ll ih =>
    rw [List.flatten_cons, findIt_append, h l (by simp), Option.none_or]
    exact ih (fun m hm => h m (by simp [hm]))
theorem flat_at {ll : List (List Itm)} {k : Ky} {i : Nat} {R : List Itm} (hi : ll[i]? = some R) (h : ∀ j l, ll[j]? = some l → j ≠ i → findIt l k = none) : findIt ll.flatten k = findIt R k := by
  induction ll generalizing i with
  | nil => simp at hi
  | cons l ll ih =>
    rw [List.flatten_cons, findIt_append]
    cases i with
    | zero =>
      simp at hi
      subst hi
      rw [flat_none (fun m hm => by
        obtain ⟨j, hj⟩ := List.getElem?_of_mem hm
        exact h (j + 1) m (by simpa using hj) (by omega))]
      exact Option.or_none
    | succ i =>
      rw [h 0 l (by simp) (by omega), Option.none_or]
      exact ih (by simpa using hi) (fun j m hm hj => h (j + 1) m (by simpa using hm) (by omega))
/-- A load stands in its home. -/
theorem load_home {c : Cfg} {wd : Wd} (h : HomeOk c wd) {k : Ky} {i : Nat} {R : List Itm} (hi : wd.st[i]? = some R) (hk : routeI k.1 k.2 c.st = (i : Int)) : findIt (allW wd) k = findIt R k :=
  flat_at hi (fun j l hl hj => findIt_none (fun p hp e => hj (by
    have := h j l hl p hp
    rw [e, hk] at this
    omega)))

/-! ### Homes -/
theorem HomeOk.set {c : Cfg} {wd : Wd} (h : HomeOk c wd) {i : Nat} {R : List Itm} (hR : ∀ p ∈ R, routeI p.1.1 p.1.2 c.st = (i : Int)) : HomeOk c { wd with st := wd.st.set i R } := by
  intro j Q hQ p hp
  have hQ : (wd.st.set i R)[j]? = some Q := hQ
  rw [List.getElem?_set] at hQ
  split at hQ
  · rename_i e
    split at hQ
    · injection hQ with hQ
      subst hQ
      rw [← e]
      exact hR p hp
    · cases hQ
  · exact h j Q hQ p hp
theorem atW_lt {c : Cfg} {wd : Wd} {id : ByteArray} (hst : okSt c.st = true) (hl : (wd.st.length : Int) = c.st) : atW c id < wd.st.length ∧ routeI (keyK id).1 (keyK id).2 c.st = (atW c id : Int) := by
  obtain ⟨h0, h1⟩ := route_lt (hi := (keyK id).1) (lo := (keyK id).2) hst
  unfold atW
  omega
theorem homeOk_trim {c : Cfg} {wd : Wd} {cut : Int} (h : HomeOk c wd) : HomeOk c (trimW wd cut) := by
  intro i R hR p hp
  have hR : (wd.st.map fun l => l.map fun p => (p.1, trimR cut p.2))[i]? = some R := hR
  rw [List.getElem?_map] at hR
  obtain ⟨Q, hQ, rfl⟩ := Option.map_eq_some_iff.1 hR
  obtain ⟨q, hq, rfl⟩ := List.mem_map.1 hp
  exact h i Q hQ q hq
theorem homeOk_new (c : Cfg) (n : Nat) : HomeOk c (newW n) := by
  intro i R hR p hp
  have := List.mem_of_getElem? hR
  rw [List.eq_of_mem_replicate this] at hp
  cases hp

/-! ### How many there are -/
theorem tot_new (n : Nat) : (allW (newW n)).length = 0 := by simp [allW, newW]
end

section
set_option linter.unusedSimpArgs false
set_option linter.unusedVariables false
open Go.RowKit Go.Lib

/-- A string, as a map's key. -/
abbrev SK := { s : ByteArray // s.size ≤ maxLen }
def skV (x : SK) : Value := .string x.1
theorem keysSk : KeysBy Tryz.prog 9 skV where
  law := Go.Maps.string_keyed Tryz.underlying9
  key x := ⟨_, Go.WideMaps.keyOf_string_mk Tryz.underlying9 x.2⟩
  inj x y h := by
    simp only [skV, Value.string.injEq] at h
    exact Subtype.ext h
/-- A workload's cells. -/
def ldC (x : It) : List Value := [.slice x.sA x.nd.smp.length x.sc, .slice x.pA x.nd.past.length x.pc, .int .i64 x.nd.pol.mn, .int .i64 x.nd.pol.mx, .int .i64 x.nd.pol.tg, .int .i64 x.nd.pol.tol, .int .i64 x.nd.pol.win, .int .i64 x.nd.pol.hold, .bool x.nd.ruled]
def ldV (x : It) : Value := .agg (ldC x).toArray
/-- Entries that tell these items. -/
def FlHas (es : List (SK × It)) (R : List Itm) : Prop := (∀ p ∈ es, idS p.1.1 = true) ∧ ∀ s : SK, idS s.1 = true → match findM es s with
  | none => findIt R (keyK s.1) = none
  | some x => ∃ y, findIt R (keyK s.1) = some y ∧ sameN x.nd y
/-- Items in the order of their keys. -/
abbrev SrtR (R : List Itm) : Prop := (R.map (·.1)).Pairwise (fun a b => ltK a b = true)
/-- All workloads, and how many each stripe has. -/
structure FlTells (c : Cfg) (es : List (SK × It)) (wd : Wd) : Prop where
  has : FlHas es (allW wd)
  keys : ∀ p ∈ allW wd, ∃ s : SK, idS s.1 = true ∧ keyK s.1 = p.1
  cnt : ∀ (i : Nat) R, wd.st[i]? = some R → R.length = (es.map (·.1)).countP fun s => decide (routeI (keyK s.1).1 (keyK s.1).2 c.st = (i : Int))
  srt : ∀ R ∈ wd.st, SrtR R
  home : HomeOk c wd
  lst : (wd.st.length : Int) = c.st
  nod : (es.map (·.1)).Nodup
/-- A cut, flatly. -/
structure FCut where
  ep : Int
  m : Option Nat
  es : List (SK × It)
  fr : Bool
def fcC (x : FCut) : List Value := [.int .i64 x.ep, .map x.m, .bool x.fr]
structure FlatD where
  L : Nat
  es : List (SK × It)
  A : Option Addr
  cp : Nat
  cuts : List FCut
/-- A flat map in block M, as it lies. P: where what is only read lies. -/
structure FlMem (P : Nat → Prop) (w : World) (M : Nat) (c : Cfg) (wd : Wd) (d : FlatD) : Prop where
  cell : w.heap[M]? = some (.cells #[.int .i64 c.st, .int .i64 c.sa, .int .i64 c.lo, .int .i64 c.hi, .map (some d.L), .slice d.A d.cuts.length d.cp, .int .i64 wd.ep, .bool wd.over] 103 (0, 0))
  map : MapIn skV ldV w d.L d.es
  ne : M ≠ d.L
  off : ∀ b, P b → b ≠ M ∧ b ≠ d.L
  rows : ∀ p ∈ d.es, LoadIn P w p.2
  len : d.cuts.length = wd.cuts.length
  row : RowG P 3 fcC w (.slice d.A d.cuts.length d.cp) d.cuts
  cut : ∀ (i : Nat) x q, d.cuts[i]? = some x → wd.cuts[i]? = some q → x.fr = q.freed ∧ (q.freed = false → x.ep = q.ep ∧ ∃ l, x.m = some l ∧ P l ∧ MapIn skV ldV w l x.es ∧ (∀ p ∈ x.es, LoadIn P w p.2) ∧ FlHas x.es q.items)
/-- A flat map in block M, and the world that it tells. -/
structure FlatAt (P : Nat → Prop) (w : World) (M : Nat) (c : Cfg) (rs rh n : Nat) (wd : Wd) (d : FlatD) : Prop extends FlMem P w M c wd d where
  tells : FlTells c d.es wd
theorem FlMem.lt {P : Nat → Prop} {w : World} {M : Nat} {c : Cfg} {wd : Wd} {d : FlatD} (h : FlMem P w M c wd d) : M < w.heap.size := (Array.getElem?_eq_some_iff.1 h.cell).1
theorem FlatAt.lt {P : Nat → Prop} {w : World} {M : Nat} {c : Cfg} {rs rh n : Nat} {wd : Wd} {d : FlatD} (h : FlatAt P w M c rs rh n wd d) : M < w.heap.size := h.toFlMem.lt
theorem RowG.ltG {α : Type} {P : Nat → Prop} {n : Nat} {f : α → List Value} {w : World} {v : Value} {l : List α} (h : RowG P n f w v l) : RowG (fun b => P b ∧ b < w.heap.size) n f w v l := by
  refine ⟨h.1, fun b o m c e hn => ⟨h.2 b o m c e hn, ?_⟩⟩
  obtain ⟨A, c2, rfl, hl, hx⟩ := h.1
  obtain ⟨b2, o2, rfl, hb, -⟩ := hx hn
  simp only [Value.slice.injEq, Option.some.injEq, Addr.mk.injEq] at e
  omega
theorem RowG.keepG {α : Type} {P Q : Nat → Prop} {n : Nat} {f : α → List Value} {w w' : World} {v : Value} {l : List α} (h : RowG P n f w v l) (hs : w.heap.size ≤ w'.heap.size) (hk : ∀ b, P b → b < w.heap.size → w'.heap[b]? = w.heap[b]? ∧ Q b) : RowG Q n f w' v l :=
  (h.ltG.keepP hs (fun b hb hlt => (hk b hb.1 hlt).1)).imp (fun b hb => (hk b hb.1 hb.2).2)
theorem LoadIn.keepG {P Q : Nat → Prop} {w w' : World} {x : It} (h : LoadIn P w x) (hs : w.heap.size ≤ w'.heap.size) (hk : ∀ b, P b → b < w.heap.size → w'.heap[b]? = w.heap[b]? ∧ Q b) : LoadIn Q w' x := ⟨h.1.keepG hs hk, h.2.keepG hs hk⟩
/-- What others do leaves a flat map. -/
theorem FlMem.keep {P Q : Nat → Prop} {w w' : World} {M : Nat} {c : Cfg} {wd : Wd} {d : FlatD} (h : FlMem P w M c wd d) (hs : w.heap.size ≤ w'.heap.size) (hM : w'.heap[M]? = w.heap[M]?) (hL : w'.heap[d.L]? = w.heap[d.L]?) (hk : ∀ b, P b → b < w.heap.size → w'.heap[b]? = w.heap[b]? ∧ Q b) (ho : ∀ b, Q b → b ≠ M ∧ b ≠ d.L) : FlMem Q w' M c wd d :=
  ⟨hM.trans h.cell, h.map.block hL, h.ne, ho, fun p hp => (h.rows p hp).keepG hs hk, h.len, h.row.keepG hs hk, fun i x q hx hq => ⟨(h.cut i x q hx hq).1, fun hf => by
    obtain ⟨h1, l, h2, h3, h4, h5, h6⟩ := (h.cut i x q hx hq).2 hf
    have h7 := hk l h3 h4.lt
    exact ⟨h1, l, h2, h7.2, h4.block h7.1, fun p hp => (h5 p hp).keepG hs hk, h6⟩⟩⟩
theorem FlatAt.keep {P Q : Nat → Prop} {w w' : World} {M : Nat} {c : Cfg} {rs rh n : Nat} {wd : Wd} {d : FlatD} (h : FlatAt P w M c rs rh n wd d) (hs : w.heap.size ≤ w'.heap.size) (hM : w'.heap[M]? = w.heap[M]?) (hL : w'.heap[d.L]? = w.heap[d.L]?) (hk : ∀ b, P b → b < w.heap.size → w'.heap[b]? = w.heap[b]? ∧ Q b) (ho : ∀ b, Q b → b ≠ M ∧ b ≠ d.L) : FlatAt Q w' M c rs rh n wd d :=
  ⟨h.toFlMem.keep hs hM hL hk ho, h.tells⟩
theorem FlMem.below {P : Nat → Prop} {w w' : World} {M : Nat} {c : Cfg} {wd : Wd} {d : FlatD} (h : FlMem P w M c wd d) (hb : Below w.heap.size w w') : FlMem P w' M c wd d :=
  h.keep hb.size (hb.block _ h.lt) (hb.block _ h.map.lt) (fun b hP hlt => ⟨hb.block b hlt, hP⟩) h.off
theorem FlatAt.below {P : Nat → Prop} {w w' : World} {M : Nat} {c : Cfg} {rs rh n : Nat} {wd : Wd} {d : FlatD} (h : FlatAt P w M c rs rh n wd d) (hb : Below w.heap.size w w') : FlatAt P w' M c rs rh n wd d :=
  ⟨h.toFlMem.below hb, h.tells⟩

/-! ### made, New, home -/
set_option maxRecDepth 100000 in
set_option maxHeartbeats 2000000 in
theorem flMade_any {P : Nat → Prop} {M : Nat} {c : Cfg} {rs rh n : Nat} {wd : Wd} {d : FlatD} (w : World) (h : FlatAt P w M c rs rh n wd d) :
    Calls Tryz.prog 57 #[.pointer (some ⟨M, 0, none⟩)] w fun e w' => e = .returned (.bool true) ∧ w' = w := by
  obtain ⟨a1, a2, a3⟩ := box_cells (Below.refl _ _) h.cell
  have hq : ∀ W, (binOp .neq 100 (.map (some d.L)) (.map none)).run Tryz.prog W = .ok (.bool true) W := fun W => run_neq_map_nil W _ _ _ (some d.L) Tryz.underlying100
  clear h
  go_enter Tryz.func57, Tryz.ntmps57
  go_wp2_with fail
  go_ret
  exact ⟨rfl, rfl⟩
set_option maxRecDepth 100000 in
set_option maxHeartbeats 2000000 in
theorem flMade_nil (w : World) :
    Calls Tryz.prog 57 #[.pointer none] w fun e w' => e = .returned (.bool false) ∧ w' = w := by
  go_enter Tryz.func57, Tryz.ntmps57
  go_wp2_with fail
  go_ret
  exact ⟨rfl, rfl⟩
end

section
set_option linter.unusedSimpArgs false
set_option linter.unusedVariables false
open Go.RowKit Go.Lib

set_option maxRecDepth 100000 in
set_option maxHeartbeats 2000000 in
theorem flNew_bad (c : Cfg) (w : World) (hc : c.ok) (hb : cfgE c ≠ 0) :
    Calls Tryz.prog 12 #[cfgV c] w fun e w' => e = .returned (.pointer none) ∧ Below w.heap.size w w' := by
  have CR := Lib.hid (fun W => nodeRight_any c W hc)
  have z0 : (cfgE c == 0) = false := by simpa using hb
  have z1 : (cfgE c != 0) = true := by simpa using hb
  generalize cfgE c = er at *
  unfold cfgV at CR ⊢
  clear hc hb
  go_enter Tryz.func12, Tryz.ntmps12
  go_wp2_with (first
    | (go_at_call 46
       refine calls_named ?_
       intro W1 hW1
       have hb1 : Below w.heap.size w W1 := by rw [hW1]; exact balloc (Below.refl _ _) _
       clear hW1
       refine (CR.out W1).mono ?_
       rintro e w2 ⟨rfl, hb2⟩
       have HB2 := Lib.hid (bthen hb1 hb2)
       clear hb1 hb2))
  go_ret
  exact ⟨rfl, HB2.out⟩

theorem flTells_new (c : Cfg) (k : Nat) (hk : (k : Int) = c.st) : FlTells c [] (newW k) := by
  have hall : allW (newW k) = [] := by
    have := tot_new k
    exact List.eq_nil_of_length_eq_zero this
  refine ⟨⟨(fun p hp => by cases hp), fun s _ => ?_⟩, fun p hp => ?_, fun i R hR => ?_, fun R hR => ?_, homeOk_new c k, ?_, List.nodup_nil⟩
  · show findIt (allW (newW k)) (keyK s.1) = none
    rw [hall]
    rfl
  · rw [hall] at hp
    cases hp
  · have := List.eq_of_mem_replicate (List.mem_of_getElem? hR)
    rw [this]
    rfl
  · rw [List.eq_of_mem_replicate hR]
    exact List.Pairwise.nil
  · rw [← hk]
    simp [newW]

set_option maxRecDepth 100000 in
set_option maxHeartbeats 2000000 in
theorem flNew_ok (c : Cfg) (rs rh k : Nat) (w : World) (hc : c.ok) (hb : cfgE c = 0) (hk : (k : Int) = c.st) :
    Calls Tryz.prog 12 #[cfgV c] w fun e w' => ∃ M d, e = .returned (.pointer (some ⟨M, 0, none⟩)) ∧ FlatAt (fun b => b ≠ M ∧ b ≠ d.L) w' M c rs rh 0 (newW k) d ∧ w.heap.size ≤ M ∧ w.heap.size ≤ d.L ∧ Below w.heap.size w w' := by
  have CR := Lib.hid (fun W => nodeRight_any c W hc)
  rw [hb] at CR
  have hmm := @run_makeMap Tryz.prog
  have HTL := Lib.hid (flTells_new c k hk)
  unfold cfgV at CR ⊢
  clear hc hb hk
  go_enter Tryz.func12, Tryz.ntmps12
  go_wp2_with (first
    | (go_at_call 46
       refine calls_named ?_
       intro W1 hW1
       have hb1 : Below w.heap.size w W1 := by rw [hW1]; exact balloc (Below.refl _ _) _
       have hx1 : W1.heap[w.heap.size]? = some (.cells #[.int .i64 c.st, .int .i64 c.sa, .int .i64 c.lo, .int .i64 c.hi] 23 (0, 0)) := by rw [hW1]; exact heap_alloc_new _ _
       clear hW1
       refine (CR.out W1).mono ?_
       rintro e w2 ⟨rfl, hb2⟩
       have HB2 := Lib.hid (bthen hb1 hb2)
       obtain ⟨a1, a2, a3⟩ := box_cells hb2 hx1
       clear hb1 hb2 hx1))
  refine post_named ?_
  intro W9 hW9
  have hW9' : W9 = (w2.alloc (.map #[] 0)).alloc (.cells #[.int .i64 c.st, .int .i64 c.sa, .int .i64 c.lo, .int .i64 c.hi, .map (some w2.heap.size), .slice none 0 0, .int .i64 0, .bool false] 103 (0, 0)) := hW9
  have hd9 : Below w2.heap.size w2 W9 := by rw [hW9']; exact balloc (balloc (Below.refl _ _) _) _
  have hm9 : MapIn skV ldV W9 w2.heap.size ([] : List (SK × It)) := by
    rw [hW9']
    exact (MapIn.made w2).below (balloc (Below.refl _ _) _)
  have hc9 : W9.heap[w2.heap.size + 1]? = some (.cells #[.int .i64 c.st, .int .i64 c.sa, .int .i64 c.lo, .int .i64 c.hi, .map (some w2.heap.size), .slice none 0 0, .int .i64 0, .bool false] 103 (0, 0)) := by rw [hW9']; exact box_new _ _ _
  clear hW9 hW9'
  have hs2 := HB2.out.size
  have hf9 : FlatAt (fun b => b ≠ w2.heap.size + 1 ∧ b ≠ w2.heap.size) W9 (w2.heap.size + 1) c rs rh 0 (newW k) ⟨w2.heap.size, [], none, 0, []⟩ :=
    ⟨⟨hc9, hm9, by show w2.heap.size + 1 ≠ w2.heap.size; omega, fun b hb => hb, (fun p hp => by cases hp), rfl, RowG.nil, (fun i x q hx hq => by cases hx)⟩, HTL.out⟩
  exact bodyPost_ret (v := .pointer (some ⟨w2.heap.size + 1, 0, none⟩)) (by simp [results, Tryz.results12, go_sem]) rfl ⟨w2.heap.size + 1, ⟨w2.heap.size, [], none, 0, []⟩, rfl, hf9, by omega, hs2, bthen HB2.out hd9⟩

set_option maxRecDepth 100000 in
set_option maxHeartbeats 2000000 in
theorem flHome_any (M : Nat) (c : Cfg) {cs : Array Value} {T : TypeId} (id : ByteArray) (w : World) (h : w.heap[M]? = some (.cells cs T (0, 0))) (h0 : cs[0]? = some (.int .i64 c.st)) (hst : okSt c.st = true) (hm : id.size ≤ maxLen) :
    Calls Tryz.prog 192 #[.pointer (some ⟨M, 0, none⟩), .string id] w fun e w' => e = .returned (.int .i64 (routeI (keyK id).1 (keyK id).2 c.st)) ∧ Below w.heap.size w w' := by
  have hbd := okSt_bd _ hst
  obtain ⟨pe, hpe⟩ : ∃ pe : Int, packV id = .tuple #[.agg #[.int .u64 (keyK id).1, .int .u64 (keyK id).2], .int .i64 pe] := by
    unfold packV keyK
    cases idS id with
    | true => exact ⟨0, rfl⟩
    | false => exact ⟨2, rfl⟩
  have CP := Lib.hid (fun W => show Calls Tryz.prog 81 #[.string id] W fun e w' => e = .returned (.tuple #[.agg #[.int .u64 (keyK id).1, .int .u64 (keyK id).2], .int .i64 pe]) ∧ Below W.heap.size W w' from hpe ▸ pack_any id W hm)
  have hk := keyK_ok id
  have CR := Lib.hid (fun W => routeOf_any (keyK id).1 (keyK id).2 c.st W hk.1 hk.2 (by unfold I64; omega))
  generalize keyK id = k at *
  have HM := Lib.hid h
  have rm : ∀ U, Below w.heap.size w U → U.cell? ⟨M, 0, none⟩ = some (.int .i64 c.st) := fun U hU => ((box_cells hU h).1 0).trans h0
  have hlt : M < w.heap.size := (Array.getElem?_eq_some_iff.1 h).1
  clear h h0 hpe hk hbd hst hm
  go_enter Tryz.func192, Tryz.ntmps192
  go_upto_region 2 with (first
    | (go_at_call 81
       refine (CP.out w).mono ?_
       rintro e w2 ⟨rfl, hb2⟩
       have HB2 := Lib.hid hb2
       clear hb2))
  refine name_world ?_
  intro W hW
  have hdW : Below w2.heap.size w2 W := by rw [hW]; exact balloc (Below.refl _ _) _
  have hk9 : W.heap[w2.heap.size]? = some (.cells #[.int .u64 k.1, .int .u64 k.2] 74 (0, 0)) := by rw [hW]; exact heap_alloc_new _ _
  have HB := Lib.hid (bthen HB2.out hdW)
  have HK := Lib.hid hk9
  clear hW hdW hk9
  have rk : ∀ U, Below W.heap.size W U → ∀ j, U.cell? ⟨w2.heap.size, j, none⟩ = (#[.int .u64 k.1, .int .u64 k.2] : Array Value)[j]? := fun U hU j => (box_cells hU HK.out).1 j
  have rn : ∀ U, Below W.heap.size W U → U.cell? ⟨M, 0, none⟩ = some (.int .i64 c.st) := fun U hU => rm U (bthen HB.out hU)
  clear rm
  have hS00 : Below W.heap.size W W := Below.refl _ _
  have hS0 : Below W.heap.size W W.drew := hS00.drew
  go_region_held3 (fun U => Below W.heap.size W U)
    (first
      | with_reducible exact hS0
      | with_reducible exact hS00
      | with_reducible exact HB5.out)
    (first
      | (go_at_call 88
         refine calls_named ?_
         intro V hV
         have hd : Below W.heap.size W V := by rw [hV]; first | assumption | exact Below.refl _ _ | exact (Below.refl _ _).drew
         clear hV
         refine (CR.out V).mono ?_
         rintro e w5 ⟨rfl, hb5⟩
         have HB5 := Lib.hid (bthen hd hb5)
         clear hb5 hd))
  all_goals go_wp2
  all_goals go_ret
  all_goals exact ⟨rfl, bthen HB.out HB5.out⟩
end

section
set_option linter.unusedSimpArgs false
set_option linter.unusedVariables false
open Go.RowKit Go.Lib

def stor (w : World) (B i : Nat) : List Value → World
  | [] => w
  | v :: vs => stor (w.setCell ⟨B, i, none⟩ v) B (i + 1) vs
theorem stor_one {w : World} {B i : Nat} {cs : Array Value} {T : TypeId} {fr : Nat × Nat} {v : Value} (h : w.heap[B]? = some (.cells cs T fr)) : (w.setCell ⟨B, i, none⟩ v).heap[B]? = some (.cells (cs.setIfInBounds i v) T fr) := by
  obtain ⟨hlt, hk⟩ := Array.getElem?_eq_some_iff.1 h
  show (w.heap.modify B _)[B]? = _
  rw [Array.getElem?_eq_getElem (by rw [Array.size_modify]; exact hlt), Array.getElem_modify_self, hk]
  simp
theorem stor_other {w : World} {B i k : Nat} {v : Value} (h : k ≠ B) : (w.setCell ⟨B, i, none⟩ v).heap[k]? = w.heap[k]? := by
  show (w.heap.modify B _)[k]? = _
  by_cases hk : k < w.heap.size
  · rw [Array.getElem?_eq_getElem (by rw [Array.size_modify]; exact hk), Array.getElem_modify_of_ne (Ne.symm h), Array.getElem?_eq_getElem hk]
  · rw [Array.getElem?_eq_none (by rw [Array.size_modify]; omega), Array.getElem?_eq_none (by omega)]
theorem stor_all : ∀ (vs : List Value) (w : World) (B i : Nat) (cs : Array Value) (T : TypeId), w.heap[B]? = some (.cells cs T (0, 0)) → cs.size = i + vs.length →
    (stor w B i vs).heap[B]? = some (.cells ((cs.toList.take i ++ vs).toArray) T (0, 0)) ∧ (∀ k, k ≠ B → (stor w B i vs).heap[k]? = w.heap[k]?) ∧ (stor w B i vs).heap.size = w.heap.size ∧ ∀ n, n ≤ B → Below n w (stor w B i vs) := by
  intro vs
  induction vs with
  | nil =>
    intro w B i cs T h hn
    refine ⟨?_, fun _ _ => rfl, rfl, fun n _ => Below.refl _ _⟩
    simp only [List.length_nil, Nat.add_zero] at hn
    rw [stor, h, List.append_nil, List.take_of_length_le (by simp; omega)]
  | cons v vs ih =>
    intro w B i cs T h hn
    simp only [List.length_cons] at hn
    have h1 := stor_one (i := i) (v := v) h
    obtain ⟨a1, a2, a3, a4⟩ := ih (w.setCell ⟨B, i, none⟩ v) B (i + 1) _ T h1 (by simp; omega)
    refine ⟨?_, fun k hk => (a2 k hk).trans (stor_other hk), a3.trans (by simp [World.setCell]), fun n hn => ((Below.refl _ _).setCell hn _).trans (a4 n hn)⟩
    rw [stor, a1]
    congr 3
    rw [Array.toList_setIfInBounds, List.take_add_one, List.take_set_of_le (Nat.le_refl _)]
    rw [List.getElem?_set_self (by simp; omega)]
    simp
theorem stor_at {w : World} {B : Nat} {cs : Array Value} {T : TypeId} (h : w.heap[B]? = some (.cells cs T (0, 0))) (vs : List Value) (hn : cs.size = vs.length) : ∀ W, W = stor w B 0 vs →
    W.heap[B]? = some (.cells vs.toArray T (0, 0)) ∧ (∀ k, k ≠ B → W.heap[k]? = w.heap[k]?) ∧ W.heap.size = w.heap.size ∧ ∀ n, n ≤ B → Below n w W := by
  rintro W rfl
  have := stor_all vs w B 0 cs T h (by omega)
  simpa using this
end

end Go.Proofs.YtmniiodpbebnmaaGreat
