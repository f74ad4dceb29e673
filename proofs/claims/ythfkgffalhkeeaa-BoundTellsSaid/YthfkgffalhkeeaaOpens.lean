/- Programs of calls as they come in. -/
import Derived.Test.YthfkgffalhkeeaaCallsAt
import Derived.Deep.Slices
import Derived.Lib.SmallJoins
namespace Go.Proofs.Ythfkgffalhkeeaa
open Go.RowKit Go.Lib Go.ChangeShapes Go.WideShapes Go.Joins

theorem i64_of_wf {n : Int} (h : (Lit.int .i64 n).wf = true) : I64 n := by simpa [Lit.wf, IntKind.min, IntKind.max, IntKind.signed, IntKind.bits, I64] using h

theorem cl_pol : Try.prog.cellsOf 58 = 6 := by kernel_rfl
theorem cl_call : Try.prog.cellsOf 60 = 11 := by kernel_rfl
theorem cl_calls : Try.prog.cellsOf 61 = 1 := by kernel_rfl
theorem cl_i64 : Try.prog.cellsOf 2 = 1 := by kernel_rfl
theorem cl_int : Try.prog.cellsOf 3 = 1 := by kernel_rfl
theorem cl_str : Try.prog.cellsOf 9 = 1 := by kernel_rfl

theorem list6 {α : Type} {l : List α} (h : l.length = 6) : ∃ a0 a1 a2 a3 a4 a5, l = [a0, a1, a2, a3, a4, a5] := by
  match l, h with
  | [a0, a1, a2, a3, a4, a5], _ => exact ⟨_, _, _, _, _, _, rfl⟩
theorem list11 {α : Type} {l : List α} (h : l.length = 11) : ∃ a0 a1 a2 a3 a4 a5 a6 a7 a8 a9 a10, l = [a0, a1, a2, a3, a4, a5, a6, a7, a8, a9, a10] := by
  match l, h with
  | [a0, a1, a2, a3, a4, a5, a6, a7, a8, a9, a10], _ => exact ⟨_, _, _, _, _, _, _, _, _, _, _, rfl⟩

section
variable {H : Type} {enc : TypeId × Value → H} {w : World} {base : Nat} {spare : Nat → Bool} {held : Bool}

/-- One field of a struct that is a number. -/
theorem field_i64 {fuel : Nat} {t : TypeId} (ht : Try.prog.underlying t = some (.int .i64)) (hc : Try.prog.cellsOf t = 1) {cs : List Value} {xs : List (DataW H × List MemPlace)} {i o : Nat} (hi : i < xs.length) {v : Value} (hv : cs.drop o = v :: cs.drop (o + 1))
    (h : DataW.trod enc Try.prog w base spare held fuel t ((cs.drop o).take (Try.prog.cellsOf t)) = xs[i]?) : ∃ n, v = .int .i64 n ∧ I64 n := by
  rw [hc, hv, List.take_succ_cons, List.take_zero, List.getElem?_eq_getElem hi] at h
  obtain ⟨n, hn, _, hw⟩ := DataW.trod_int ht h
  simp only [List.cons.injEq, and_true] at hn
  exact ⟨n, hn, i64_of_wf hw⟩

theorem field_str {fuel : Nat} {t : TypeId} (ht : Try.prog.underlying t = some .string) (hc : Try.prog.cellsOf t = 1) {cs : List Value} {xs : List (DataW H × List MemPlace)} {i o : Nat} (hi : i < xs.length) {v : Value} (hv : cs.drop o = v :: cs.drop (o + 1))
    (h : DataW.trod enc Try.prog w base spare held fuel t ((cs.drop o).take (Try.prog.cellsOf t)) = xs[i]?) : ∃ s : ByteArray, v = .string s ∧ s.size ≤ maxLen := by
  rw [hc, hv, List.take_succ_cons, List.take_zero, List.getElem?_eq_getElem hi] at h
  obtain ⟨n, hn, _, hw⟩ := DataW.trod_string ht h
  simp only [List.cons.injEq, and_true] at hn
  exact ⟨n, hn, hw⟩

theorem pol_reads {fuel : Nat} {cs : List Value} {x : DataW H × List MemPlace} (h : DataW.trod enc Try.prog w base spare held fuel 58 cs = some x) :
    ∃ p : Pol, p.ok ∧ cs = [.int .i64 p.mn, .int .i64 p.mx, .int .i64 p.tg, .int .i64 p.tol, .int .i64 p.win, .int .i64 p.hold] := by
  obtain ⟨xs, n, _, _, hl, hx, hf⟩ := DataW.trod_struct Try.underlying58 h
  rw [cl_pol] at hl
  replace hx : xs.length = 6 := hx
  obtain ⟨a0, a1, a2, a3, a4, a5, rfl⟩ := list6 hl
  obtain ⟨n0, rfl, k0⟩ := field_i64 Try.underlying2 cl_i64 (i := 0) (by omega) (o := 0) rfl (hf 0 _ rfl)
  obtain ⟨n1, rfl, k1⟩ := field_i64 Try.underlying2 cl_i64 (i := 1) (by omega) (o := 1) rfl (hf 1 _ rfl)
  obtain ⟨n2, rfl, k2⟩ := field_i64 Try.underlying2 cl_i64 (i := 2) (by omega) (o := 2) rfl (hf 2 _ rfl)
  obtain ⟨n3, rfl, k3⟩ := field_i64 Try.underlying2 cl_i64 (i := 3) (by omega) (o := 3) rfl (hf 3 _ rfl)
  obtain ⟨n4, rfl, k4⟩ := field_i64 Try.underlying2 cl_i64 (i := 4) (by omega) (o := 4) rfl (hf 4 _ rfl)
  obtain ⟨n5, rfl, k5⟩ := field_i64 Try.underlying2 cl_i64 (i := 5) (by omega) (o := 5) rfl (hf 5 _ rfl)
  exact ⟨⟨n0, n1, n2, n3, n4, n5⟩, ⟨k0, k1, k2, k3, k4, k5⟩, rfl⟩

theorem call_reads {fuel : Nat} {cs : List Value} {x : DataW H × List MemPlace} (h : DataW.trod enc Try.prog w base spare held fuel 60 cs = some x) :
    ∃ c : CallD, c.ok ∧ cs = callCells c := by
  obtain ⟨xs, n, _, _, hl, hx, hf⟩ := DataW.trod_struct Try.underlying60 h
  rw [cl_call] at hl
  replace hx : xs.length = 6 := hx
  obtain ⟨a0, a1, a2, a3, a4, a5, a6, a7, a8, a9, a10, rfl⟩ := list11 hl
  obtain ⟨n0, rfl, k0⟩ := field_i64 Try.underlying3 cl_int (i := 0) (by omega) (o := 0) rfl (hf 0 _ rfl)
  obtain ⟨n1, rfl, k1⟩ := field_str Try.underlying9 cl_str (i := 1) (by omega) (o := 1) rfl (hf 1 _ rfl)
  obtain ⟨n2, rfl, k2⟩ := field_i64 Try.underlying2 cl_i64 (i := 2) (by omega) (o := 2) rfl (hf 2 _ rfl)
  obtain ⟨n3, rfl, k3⟩ := field_i64 Try.underlying2 cl_i64 (i := 3) (by omega) (o := 3) rfl (hf 3 _ rfl)
  obtain ⟨n4, rfl, k4⟩ := field_i64 Try.underlying3 cl_int (i := 4) (by omega) (o := 4) rfl (hf 4 _ rfl)
  have h5 := hf 5 _ rfl
  rw [List.getElem?_eq_getElem (by omega)] at h5
  obtain ⟨p, k5, hp⟩ := pol_reads h5
  replace hp : ([a5, a6, a7, a8, a9, a10] : List Value).take (Try.prog.cellsOf 58) = _ := hp
  rw [cl_pol] at hp
  simp only [List.take_succ_cons, List.take_zero, List.cons.injEq, and_true] at hp
  obtain ⟨rfl, rfl, rfl, rfl, rfl, rfl⟩ := hp
  exact ⟨⟨n0, n1, n2, n3, n4, p⟩, ⟨k0, k1, k2, k3, k4, k5⟩, rfl⟩

theorem map_len {α : Type} (f : Nat → α) (n : Nat) : ((List.range n).map f).length = n := by simp
theorem map_at {α : Type} {f : Nat → α} {n k : Nat} {x : α} (h : ((List.range n).map f)[k]? = some x) : k < n ∧ x = f k := by
  simp only [List.getElem?_map, List.getElem?_range] at h
  by_cases hk : k < n
  · simp [hk] at h; exact ⟨hk, h.symm⟩
  · simp [hk] at h

/-- The spot of an address whose cells are read. -/
theorem read_first {a : Addr} {n k : Nat} {cs : List Value} (h : w.cells? base a n = some cs) (hk : k = n) (hn : 0 < k) : a.spot = none ∧ a.block < w.heap.size := by
  subst hk
  obtain ⟨_, hl, hc⟩ := World.cells?_some h
  have h0 := hc 0 hn
  rw [List.getElem?_eq_getElem (by omega)] at h0
  have ha : a.add 0 = a := rfl
  rw [ha] at h0
  exact ⟨World.cell?_spot h0, World.block_lt_of_cell? w _ h0⟩

theorem add_eq (b o i : Nat) : (Addr.mk b o none).add i = ⟨b, o + i, none⟩ := by
  unfold Addr.add
  split
  · subst_vars; rfl
  · rfl

theorem calls_read {fuel : Nat} {cs : List Value} {x : DataW H × List MemPlace} (h : DataW.trod enc Try.prog w base spare held fuel 61 cs = some x) :
    ∃ (v : Value) (xs : List CallD), cs = [v] ∧ xs.length ≤ maxLen ∧ CallsAt w v xs := by
  rcases Go.Deep.open_slice Try.underlying61 h with ⟨rfl, _⟩ | ⟨a, len, cap, m, n, D, Pl, rfl, _, hlc, hcm, hm, _, hr⟩
  · exact ⟨_, [], rfl, Nat.zero_le _, _, _, rfl, fun h => absurd h (Nat.lt_irrefl _)⟩
  · have hlm : len ≤ m := by rw [hm]; split <;> omega
    have hE := cl_call
    rw [hE] at hr
    have hch : ∀ i, i < len → ∃ c : CallD, c.ok ∧ w.cells? base (a.add (i * 11)) 11 = some (callCells c) := by
      intro i hi
      obtain ⟨cs', hcs, ht⟩ := hr i (Nat.lt_of_lt_of_le hi hlm)
      obtain ⟨c, hok, rfl⟩ := call_reads ht
      exact ⟨c, hok, hcs⟩
    haveI : Inhabited CallD := ⟨⟨0, ByteArray.empty, 0, 0, 0, ⟨0, 0, 0, 0, 0, 0⟩⟩⟩
    obtain ⟨f, hf⟩ := Go.Deep.choose_lt hch
    refine ⟨_, (List.range len).map f, rfl, by rw [map_len]; omega, some a, cap, by rw [map_len], fun hn => ?_⟩
    rw [map_len] at hn
    obtain ⟨b, o, s⟩ := a
    obtain ⟨hs, hb⟩ := read_first (hf 0 hn).2 rfl (by omega)
    have hs' : s = none := by simpa [Addr.add] using hs
    subst hs'
    refine ⟨b, o, rfl, by simpa [Addr.add] using hb, fun k x hk => ?_⟩
    obtain ⟨hk', rfl⟩ := map_at hk
    obtain ⟨hok, hc⟩ := hf k hk'
    refine ⟨hok, fun j u hu => ?_⟩
    obtain ⟨_, hl, hc⟩ := World.cells?_some hc
    have hj : j < 11 := by
      have := (List.getElem?_eq_some_iff.1 hu).1
      simpa [callCells] using this
    have := hc j hj
    rw [add_eq, add_eq] at this
    rw [this, hu]

theorem progs_read {fuel : Nat} {cs : List Value} {x : DataW H × List MemPlace} (h : DataW.trod enc Try.prog w base spare held fuel 39 cs = some x) :
    ∃ (v : Value) (ps : List (List CallD)), cs = [v] ∧ ps.length ≤ maxLen ∧ (∀ xs ∈ ps, xs.length ≤ maxLen) ∧ ProgsAt w v ps := by
  rcases Go.Deep.open_slice Try.underlying39 h with ⟨rfl, _⟩ | ⟨a, len, cap, m, n, D, Pl, rfl, _, hlc, hcm, hm, _, hr⟩
  · exact ⟨_, [], rfl, Nat.zero_le _, fun _ h => by simp at h, _, _, rfl, fun h => absurd h (Nat.lt_irrefl _)⟩
  · have hlm : len ≤ m := by rw [hm]; split <;> omega
    have hE := cl_calls
    rw [hE] at hr
    have hch : ∀ i, i < len → ∃ p : Value × List CallD, p.2.length ≤ maxLen ∧ CallsAt w p.1 p.2 ∧ w.cells? base (a.add (i * 1)) 1 = some [p.1] := by
      intro i hi
      obtain ⟨cs', hcs, ht⟩ := hr i (Nat.lt_of_lt_of_le hi hlm)
      obtain ⟨v, xs, rfl, h1, h2⟩ := calls_read ht
      exact ⟨(v, xs), h1, h2, hcs⟩
    haveI : Inhabited (Value × List CallD) := ⟨(.bool true, [])⟩
    obtain ⟨f, hf⟩ := Go.Deep.choose_lt hch
    refine ⟨_, (List.range len).map fun i => (f i).2, rfl, by rw [map_len]; omega, fun xs hxs => ?_, some a, cap, by rw [map_len], fun hn => ?_⟩
    · simp only [List.mem_map, List.mem_range] at hxs
      obtain ⟨i, hi, rfl⟩ := hxs
      exact (hf i hi).1
    rw [map_len] at hn
    obtain ⟨b, o, s⟩ := a
    obtain ⟨hs, hb⟩ := read_first (hf 0 hn).2.2 rfl (by omega)
    have hs' : s = none := by simpa [Addr.add] using hs
    subst hs'
    refine ⟨b, o, rfl, by simpa [Addr.add] using hb, fun k x hk => ?_⟩
    obtain ⟨hk', rfl⟩ := map_at hk
    obtain ⟨_, hat, hc⟩ := hf k hk'
    obtain ⟨_, hl, hc⟩ := World.cells?_some hc
    have := hc 0 (by omega)
    rw [add_eq, add_eq, Nat.mul_one, Nat.add_zero] at this
    exact ⟨_, this, hat⟩
end
end Go.Proofs.Ythfkgffalhkeeaa
