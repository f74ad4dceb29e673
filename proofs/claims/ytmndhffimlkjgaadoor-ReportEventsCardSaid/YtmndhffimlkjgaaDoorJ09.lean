/- Lists of things in memory: one law for append, one for a slice's part, whether nil or not; zig.Zig, Zag, Put; zig.Put; flywheelref04.Unlike: the bits of two bytes that are not alike. -/
import Derived.Test.YtmndhffimlkjgaaDoorJ07
import Derived.Test.YtmndhffimlkjgaaDoorJ08
import Derived.Laws.AppendOwnNone
import Derived.OwnWalk
import Derived.Deep.AppendLies
import Derived.Test.YtmndhffimlkjgaaDoorJ06
import Derived.Lib.Varint
import Derived.Laws.Bits64
import Derived.Laws.Bits64b
import Derived.Test.YtmndhffimlkjgaaDoorJ01
namespace Go.Proofs.YtmndhffimlkjgaaDoor

section
set_option linter.unusedSimpArgs false
set_option linter.unusedVariables false
open Go.RowKit Go.Lib

/-- A slice's type t, its elements' type e of n cells, each a thing's cells. -/
structure EltOf {α : Type} (t e : TypeId) (n bytes : Nat) (z : Value) (f : α → List Value) : Prop where
  ht : Tryd.prog.underlying t = some (.slice e)
  hi : (Tryd.prog.info? e).map (fun i => (i.zero, i.size, i.bytes)) = some (some z, n, bytes)
  hz : z.cells.size = n
  hn : 0 < n
  hb : bytes ≤ 1024
  len : ∀ x, (f x).length = n
  one : ∀ x, ∀ u ∈ f x, u.oneCell' = true

section
variable {α : Type} {t e : TypeId} {n bytes : Nat} {z : Value} {f : α → List Value}

def OwnL (f : α → List Value) (e : TypeId) (n base : Nat) (w : World) (v : Value) (l : List α) : Prop := w.ownsRow base e n v l.length (cellsOfRow f l)

theorem OwnL.row (E : EltOf t e n bytes z f) {base : Nat} {w : World} {v : Value} {l : List α} (h : OwnL f e n base w v l) : RowIn n f w v l := RowIn.own E.len h
theorem OwnL.below {base : Nat} {w w' : World} {v : Value} {l : List α} (h : OwnL f e n base w v l) (hb : Below w.heap.size w w') : OwnL f e n base w' v l := own_below h hb
theorem OwnL.lower {base base' : Nat} {w : World} {v : Value} {l : List α} (h : OwnL f e n base w v l) (hb : base' ≤ base) : OwnL f e n base' w v l := own_lower h hb
theorem OwnL.nil (base : Nat) (w : World) : OwnL f e n base w (.slice none 0 0) ([] : List α) := ⟨by simp [cellsOfRow], .inl ⟨rfl, rfl⟩⟩
theorem OwnL.form {base : Nat} {w : World} {v : Value} {l : List α} (h : OwnL f e n base w v l) : ∃ A c, v = .slice A l.length c := own_form h
theorem OwnL.lt {base : Nat} {w : World} {v : Value} {l : List α} (h : OwnL f e n base w v l) {r : Nat} (hr : v.ownBlock = some r) : base ≤ r ∧ r < w.heap.size := World.ownsRow.lt h r hr
theorem OwnL.kept {base : Nat} {w w' : World} {v : Value} {l : List α} (h : OwnL f e n base w v l) (hb : ∀ r, v.ownBlock = some r → w'.heap[r]? = w.heap[r]?) : OwnL f e n base w' v l := by
  refine ⟨h.1, ?_⟩
  rcases h.2 with hn | ⟨g, cap, cur, rfl, hg, hbk, rest⟩
  · exact .inl hn
  · exact .inr ⟨g, cap, cur, rfl, hg, (hb g rfl).trans hbk, rest⟩
theorem RowIn.form {w : World} {v : Value} {l : List α} (h : RowIn n f w v l) : ∃ A c, v = .slice A l.length c := by
  obtain ⟨A, c, hv, _⟩ := h
  exact ⟨A, c, hv⟩

/-- The one element of a literal. -/
theorem RowIn.lit (w : World) (x : α) (cs : Array Value) (T : TypeId) (B : Nat) (hB : w.heap.size = B) (hcs : f x = cs.toList) : RowIn n f (w.alloc (.cells cs T)) (.slice (some ⟨B, 0, none⟩) 1 1) [x] := by
  subst hB
  refine ⟨some ⟨w.heap.size, 0, none⟩, 1, rfl, Nat.le_refl _, fun _ => ⟨w.heap.size, 0, rfl, by simp, fun k y hk j u hu => ?_⟩⟩
  obtain rfl : k = 0 := by
    have := (List.getElem?_eq_some_iff.1 hk).1
    simp at this; omega
  obtain rfl : x = y := by simpa using hk
  rw [hcs] at hu
  rw [Nat.zero_mul, Nat.add_zero, Nat.zero_add, (startA w cs T).1 j]
  simpa using hu
/-- The elements of a literal of two. -/
theorem RowIn.lit2 (w : World) (x y : α) (cs : Array Value) (T : TypeId) (B : Nat) (hB : w.heap.size = B) (E : ∀ x, (f x).length = n) (hcs : f x ++ f y = cs.toList) : RowIn n f (w.alloc (.cells cs T)) (.slice (some ⟨B, 0, none⟩) 2 2) [x, y] := by
  subst hB
  refine ⟨some ⟨w.heap.size, 0, none⟩, 2, rfl, Nat.le_refl _, fun _ => ⟨w.heap.size, 0, rfl, by simp, fun k q hk j u hu => ?_⟩⟩
  have h1 := cellsOfRow_at E [x, y] k q hk j u hu
  rw [show cellsOfRow f [x, y] = f x ++ f y by simp [cellsOfRow], hcs] at h1
  rw [Nat.zero_add, (startA w cs T).1]
  simpa using h1
theorem OwnL.lit0 (base : Nat) (w : World) (T : TypeId) (B : Nat) (hB : w.heap.size = B) (hb : base ≤ B) : OwnL f T n base (w.alloc (.cells #[] T)) (.slice (some ⟨B, 0, none⟩) 0 0) ([] : List α) := by
  subst hB
  exact World.ownsRow_made w #[] 0 hb (Nat.zero_le _) (by simp)

theorem run_append_nil {P : Program} {w : World} (base : Nat) (t ty e : TypeId) (i : TypeInfo) (size c : Nat) (ht : P.underlying t = some (.slice e)) (hi : P.info? e = some i)
    (v : Value) (n : Nat) (xs : List Value) (hown : w.ownsRow base e size v n xs) :
    (Builtin.append_ #[t, t] ty #[v, .slice none 0 c]).run P w = .ok v w := by
  rcases hown.2 with ⟨rfl, rfl⟩ | ⟨g, cap, cur, rfl, _, _, hnc, _⟩
  · simp [Builtin.append_, run_underlying ht, sizeOf, typeInfo, hi, Builtin.lenOf, Builtin.firstCells]
  · simp [Builtin.append_, run_underlying ht, sizeOf, typeInfo, hi, Builtin.lenOf, Builtin.firstCells, hnc, storeCells]

set_option maxRecDepth 100000 in
/-- append of a list to a list of the call's own. -/
theorem run_appendL (E : EltOf t e n bytes z f) (w : World) (ty : TypeId) (base : Nat) (l m : List α) (v v2 : Value)
    (hown : OwnL f e n base w v l) (hm : RowIn n f w v2 m) (hlen : l.length + m.length ≤ 100000000) (hbase : base ≤ w.heap.size) :
    ∃ A c w', (Builtin.append_ #[t, t] ty #[v, v2]).run Tryd.prog w = .ok (.slice A (l ++ m).length c) w' ∧ OwnL f e n base w' (.slice A (l ++ m).length c) (l ++ m) ∧ w.grownBy w' v.ownBlock ∧ ((Value.slice A (l ++ m).length c).ownBlock = v.ownBlock ∨ (Value.slice A (l ++ m).length c).ownBlock = some w.heap.size) := by
  obtain ⟨i0, hi0, hz0, hz1, hz2⟩ := info_parts E.hi
  have hby := E.hb
  obtain ⟨A2, c2, rfl, hc2, hr⟩ := hm
  cases A2 with
  | none =>
    have h0 : m.length = 0 := by
      rcases Nat.eq_zero_or_pos m.length with h | h
      · exact h
      · obtain ⟨_, _, hA, _⟩ := hr h; cases hA
    obtain rfl : m = [] := List.eq_nil_of_length_eq_zero h0
    obtain ⟨A, c, rfl⟩ := own_form hown
    refine ⟨A, c, w, ?_, ?_, ⟨rfl, rfl, rfl, Nat.le_refl _, fun _ _ _ => rfl⟩, .inl ?_⟩
    · rw [List.append_nil]
      exact run_append_nil (P := Tryd.prog) (w := w) base t ty e i0 n c2 E.ht hi0 _ _ _ hown
    · rw [List.append_nil]; exact hown
    · rw [List.append_nil]
  | some ad =>
    obtain ⟨v', w', hrun, h2, h3, _, h5⟩ := run_append_own_at (P := Tryd.prog) w base t ty e i0 z n bytes E.ht hi0 hz0 hz1 hz2 E.hz E.hn v l.length (cellsOfRow f l) hown ad m.length c2 (cellsOfRow f m) (cellsOfRow_len E.len m) (fun j u hu => by
      obtain ⟨y, hy, hyu⟩ := cellsOfRow_split E.hn E.len m j u hu
      have hml : 0 < m.length := Nat.lt_of_le_of_lt (Nat.zero_le _) (List.getElem?_eq_some_iff.1 hy).1
      obtain ⟨b, o', hA, hlt, hat⟩ := hr hml
      injection hA with hA
      subst hA
      have h := hat (j / n) y hy (j % n) u hyu
      rw [add_at, ← h]
      have hd : j / n * n + j % n = j := by rw [Nat.mul_comm]; exact Nat.div_add_mod j n
      rw [Nat.add_assoc, hd]) (cellsOfRow_one E.one m) (by simp only [maxLen]; omega) (Nat.le_trans (Nat.mul_le_mul (by omega : l.length + m.length ≤ 100000000) hby) (by omega)) hbase
    have hlen2 : (l ++ m).length = l.length + m.length := by simp
    have h2' : OwnL f e n base w' v' (l ++ m) := by
      unfold OwnL
      rw [hlen2, cellsOfRow_append]
      exact h2
    obtain ⟨A, c, rfl⟩ := own_form h2'
    exact ⟨A, c, w', hrun, h2', h3, h5⟩

theorem wpList_appendL (E : EltOf t e n bytes z f) {w : World} {ops : Array Oper} {rest : List Oper} {o : Oper} {a : Act} {Q : Exit → Act → World → Prop} (hgd : o.guard = none) {s x : Operand}
    (ho : o.op = .call { callee := .builtin .append, args := #[s, x], argTypes := #[t, t] }) (base : Nat) (l m : List α) (v v2 : Value) (hs : a.eval s = v) (hx : a.eval x = v2)
    (hown : OwnL f e n base w v l) (hm : RowIn n f w v2 m) (hlen : l.length + m.length ≤ 100000000) (hbase : base ≤ w.heap.size)
    (h : ∀ (out : List α) A c w', out = l ++ m → OwnL f e n base w' (.slice A out.length c) out → w.grownBy w' v.ownBlock → ((Value.slice A out.length c).ownBlock = v.ownBlock ∨ (Value.slice A out.length c).ownBlock = some w.heap.size) → wpList Tryd.prog ops Q rest (a.put o.dst (.slice A out.length c)) w') :
    wpList Tryd.prog ops Q (o :: rest) a w := by
  refine wpList_plain hgd fun K hK => ?_
  obtain ⟨A, c, w', hrun, h2, h3, h4⟩ := run_appendL E w o.type base l m v v2 hown hm hlen hbase
  unfold Oper.wp
  simp [execOp, ho, resolve, invoke, builtin, hs, hx, hrun, Result.andThen]
  have h6 := hK _ _ (h _ A c w' rfl h2 h3 h4)
  rw [List.length_append] at h6
  exact h6

theorem step_appendL (E : EltOf t e n bytes z f) {w : World} {ops : Array Oper} {o : Oper} {a : Act} {K : Act → World → Prop} {Q : Exit → Act → World → Prop} {X : Prop} (hgd : o.guard = none) (s x : Operand)
    (ho : o.op = .call { callee := .builtin .append, args := #[s, x], argTypes := #[t, t] }) (base : Nat) (l m : List α) (v v2 : Value) (hs : a.eval s = v) (hx : a.eval x = v2)
    (hown : OwnL f e n base w v l) (hm : RowIn n f w v2 m) (hlen : l.length + m.length ≤ 100000000) (hbase : base ≤ w.heap.size)
    (h : ∀ (out : List α) A c w', out = l ++ m → OwnL f e n base w' (.slice A out.length c) out → w.grownBy w' v.ownBlock → ((Value.slice A out.length c).ownBlock = v.ownBlock ∨ (Value.slice A out.length c).ownBlock = some w.heap.size) → K (a.put o.dst (.slice A out.length c)) w') :
    if Region.wanted o (yielded ops a.tmps) = true then Oper.wp Tryd.prog o a w K Q else X := by
  have hw : Region.wanted o (yielded ops a.tmps) = true := by simp [Region.wanted, hgd]
  rw [if_pos hw]
  obtain ⟨A, c, w', hrun, h2, h3, h4⟩ := run_appendL E w o.type base l m v v2 hown hm hlen hbase
  unfold Oper.wp
  simp [execOp, ho, resolve, invoke, builtin, hs, hx, hrun, Result.andThen]
  have h6 := h _ A c w' rfl h2 h3 h4
  rw [List.length_append] at h6
  exact h6

/-- Behind an append all that lies below is as it was. -/
theorem grown_own {base : Nat} {w w' W : World} {v : Value} {l : List α} (hg : w.grownBy w' v.ownBlock) (hown : OwnL f e n base W v l) (hb : base ≤ w.heap.size) : Below base w w' :=
  grown_below hg hb (fun r hr => (hown.lt hr).1)

/-- A part of a list: what the walk's slice comes to, and what it holds. -/
theorem row_from (E : EltOf t e n bytes z f) {w : World} {A : Option Addr} {c : Nat} {l : List α} (h : RowIn n f w (.slice A l.length c) l) (a : Nat) (ha : a ≤ l.length) :
    ∃ (m : List α) (A2 : Option Addr) (c2 : Nat), m = l.drop a ∧ (∀ w' : World, (Instr.sliceAt t (.slice A l.length c) (some (.int .i64 a)) none none).run Tryd.prog w' = .ok (.slice A2 m.length c2) w') ∧ RowIn n f w (.slice A2 m.length c2) m := by
  obtain ⟨i0, hi0, hz0, hz1, hz2⟩ := info_parts E.hi
  have hp := RowIn.part h (i := a) (j := l.length) ha (Nat.le_refl _)
  rw [List.take_length] at hp
  have hlen : (l.drop a).length = l.length - a := by simp
  have hel : Tryd.prog.elem t = e := by simp [Program.elem, E.ht]
  refine ⟨l.drop a, _, _, rfl, fun w' => ?_, by rw [hlen]; exact hp⟩
  rw [run_sliceAt_slice _ t _ _ _ _ (by rw [hel]; exact E.ht), run_slice_l _ t A l.length c (by rw [hel]; exact E.ht) _ _ (by omega) (by omega), hel]
  simp [sizeOf, typeInfo, hi0, hz1, Result.andThen, sliced, hlen]
theorem row_to (E : EltOf t e n bytes z f) {w : World} {A : Option Addr} {c : Nat} {l : List α} (h : RowIn n f w (.slice A l.length c) l) (a : Nat) (ha : a ≤ l.length) :
    ∃ (m : List α) (A2 : Option Addr) (c2 : Nat), m = l.take a ∧ (∀ w' : World, (Instr.sliceAt t (.slice A l.length c) none (some (.int .i64 a)) none).run Tryd.prog w' = .ok (.slice A2 m.length c2) w') ∧ RowIn n f w (.slice A2 m.length c2) m := by
  obtain ⟨i0, hi0, hz0, hz1, hz2⟩ := info_parts E.hi
  have hcl : l.length ≤ c := by obtain ⟨_, _, hv, hc, _⟩ := h; injection hv with _ _ e3; omega
  have hp := RowIn.part h (i := 0) (j := a) (Nat.zero_le _) ha
  rw [List.drop_zero, Nat.zero_mul, Nat.sub_zero, Nat.sub_zero] at hp
  have hlen : (l.take a).length = a := by simp; omega
  have hel : Tryd.prog.elem t = e := by simp [Program.elem, E.ht]
  refine ⟨l.take a, _, _, rfl, fun w' => ?_, by rw [hlen]; exact hp⟩
  rw [run_sliceAt_slice _ t _ _ _ _ (by rw [hel]; exact E.ht), run_slice_h _ t A l.length c (by rw [hel]; exact E.ht) _ _ (by omega) (by omega), hel]
  simp [sizeOf, typeInfo, hi0, hz1, Result.andThen, sliced, hlen]
end
end

section
set_option linter.unusedSimpArgs false
set_option linter.unusedVariables false
open Go.RowKit Go.Lib

def byteC (b : UInt8) : List Value := [.int .u8 (b.toNat : Nat)]
theorem eByte : EltOf 72 5 1 1 (.int .u8 0) byteC :=
  ⟨by kernel_rfl, by kernel_rfl, rfl, by decide, by decide, fun _ => rfl, fun x u hu => by
    simp only [byteC, List.mem_cons, List.not_mem_nil, or_false] at hu
    subst hu
    rfl⟩
def numC (n : Int) : List Value := [.int .i64 n]
theorem xor_ones (a : Nat) (h : a < 18446744073709551616) : a ^^^ 18446744073709551615 = 18446744073709551615 - a := by
  have h1 := congrArg BitVec.toNat (BitVec.xor_allOnes (x := BitVec.ofNat 64 a))
  rw [BitVec.toNat_xor, BitVec.toNat_not, BitVec.toNat_ofNat, Nat.mod_eq_of_lt (by omega)] at h1
  rw [show (BitVec.allOnes 64).toNat = 18446744073709551615 from by decide] at h1
  omega
theorem zig_bits {n : Int} (h : I64 n) : bits BinOp.xor IntKind.u64 (IntKind.u64.wrap (IntKind.u64.wrap n * 2)) (IntKind.u64.wrap (n / 9223372036854775808)) = (zigN n : Nat) := by
  have hw : ∀ x : Int, IntKind.u64.wrap x = x % 18446744073709551616 := fun x => by simp [IntKind.wrap, IntKind.bits, IntKind.signed]
  unfold I64 at h
  unfold zigN
  rw [hw, hw, hw]
  by_cases h0 : 0 ≤ n
  · rw [if_pos h0]
    have e1 : (n % 18446744073709551616 * 2) % 18446744073709551616 = ((2 * n.toNat : Nat) : Int) := by omega
    have e2 : (n / 9223372036854775808) % 18446744073709551616 = ((0 : Nat) : Int) := by omega
    rw [e1, e2, bits_xor_u64_nat _ _ (by omega) (by decide), Nat.xor_zero]
  · rw [if_neg h0]
    have e1 : (n % 18446744073709551616 * 2) % 18446744073709551616 = ((18446744073709551616 - 2 * (-n).toNat : Nat) : Int) := by omega
    have e2 : (n / 9223372036854775808) % 18446744073709551616 = ((18446744073709551615 : Nat) : Int) := by omega
    rw [e1, e2, bits_xor_u64_nat _ _ (by omega) (by decide), xor_ones _ (by omega)]
    omega
theorem xor_m1 (a : Nat) (h : a < 9223372036854775808) : bits .xor .i64 (a : Int) (-1) = -1 - (a : Int) := by
  show IntKind.i64.wrap ((BitVec.ofInt 64 (a : Int) ^^^ BitVec.ofInt 64 (-1)).toNat : Nat) = _
  rw [show BitVec.ofInt 64 (-1) = BitVec.allOnes 64 from by decide, BitVec.xor_allOnes, BitVec.toNat_not, BitVec.ofInt_natCast, BitVec.toNat_ofNat, Nat.mod_eq_of_lt (by omega), IntKind.wrap_i64]
  omega
theorem xor_z (a : Nat) (h : a < 9223372036854775808) : bits .xor .i64 (a : Int) 0 = (a : Int) := by
  show IntKind.i64.wrap ((BitVec.ofInt 64 (a : Int) ^^^ BitVec.ofInt 64 0).toNat : Nat) = _
  rw [show BitVec.ofInt 64 0 = 0#64 from by decide, BitVec.xor_zero, BitVec.ofInt_natCast, BitVec.toNat_ofNat, Nat.mod_eq_of_lt (by omega), IntKind.wrap_i64]
  omega
theorem zag_bits {x : Nat} (h : x < 18446744073709551616) : bits BinOp.xor IntKind.i64 ((x : Int) / 2) (wrap64 (-wrap64 (bits BinOp.and IntKind.u64 (x : Int) 1))) = zagN x := by
  have e : bits BinOp.and IntKind.u64 (x : Int) 1 = ((x % 2 : Nat) : Int) := by
    have := bits_and_u64_nat x 1 h (by decide)
    rw [Nat.and_one_is_mod] at this
    exact this
  rw [e]
  unfold zagN wrap64
  have e2 : (x : Int) / 2 = ((x / 2 : Nat) : Int) := by omega
  rw [e2]
  by_cases h0 : x % 2 = 0
  · rw [if_pos h0, h0]
    exact xor_z _ (by omega)
  · rw [if_neg h0]
    have e3 : x % 2 = 1 := by omega
    rw [e3]
    exact xor_m1 _ (by omega)
end

section
set_option linter.unusedSimpArgs false
set_option linter.unusedVariables false
open Go.RowKit Go.Lib

theorem zputs_snoc (l : List Int) (n : Int) : zputs (l ++ [n]) = zputs l ++ zput n := by simp [zputs]
theorem big_byte {x : Nat} : bits .or .u8 ((x : Int) % 256) 128 = ((UInt8.ofNat (x % 128 + 128)).toNat : Nat) := by
  rw [u8_or128_any _ (by omega) (by omega), ofNat_toNat (by omega)]
  omega
theorem low_byte {x : Nat} (h : x < 128) : IntKind.u8.wrap (x : Int) = ((UInt8.ofNat x).toNat : Nat) := by
  rw [IntKind.wrap_u8, ofNat_toNat (by omega)]
  omega
end

section
set_option linter.unusedSimpArgs false
set_option linter.unusedVariables false
open Go.RowKit Go.Lib

theorem xor_step (a b k : Nat) : (a ^^^ b) % 2 ^ (k + 1) = (a ^^^ b) % 2 ^ k + if a / 2 ^ k % 2 = b / 2 ^ k % 2 then 0 else 2 ^ k := by
  have h1 : (a ^^^ b) / 2 ^ k % 2 = if a / 2 ^ k % 2 = b / 2 ^ k % 2 then 0 else 1 := by
    rw [← Nat.shiftRight_eq_div_pow, Nat.shiftRight_xor_distrib, Nat.shiftRight_eq_div_pow, Nat.shiftRight_eq_div_pow]
    have h2 := Nat.xor_mod_two_eq_one (a := a / 2 ^ k) (b := b / 2 ^ k)
    have h3 := Nat.mod_lt ((a / 2 ^ k) ^^^ (b / 2 ^ k)) (show 0 < 2 by decide)
    have h4 := Nat.mod_lt (a / 2 ^ k) (show 0 < 2 by decide)
    have h5 := Nat.mod_lt (b / 2 ^ k) (show 0 < 2 by decide)
    split <;> omega
  have h2 : (a ^^^ b) % 2 ^ (k + 1) = (a ^^^ b) % 2 ^ k + 2 ^ k * ((a ^^^ b) / 2 ^ k % 2) := by
    rw [Nat.pow_succ, Nat.mod_mul]
  rw [h2, h1]
  split <;> simp

theorem half_step (a k : Nat) : a / 2 ^ k / 2 = a / 2 ^ (k + 1) := by rw [Nat.div_div_eq_div_mul, Nat.pow_succ]

theorem xor_byte (h c : Nat) (hc : c < 256) : h - h % 256 + ((h % 256) ^^^ c) = h ^^^ c := by
  have h1 : (h ^^^ c) / 256 = h / 256 := by
    have := Nat.shiftRight_xor_distrib (a := h) (b := c) (i := 8)
    rw [Nat.shiftRight_eq_div_pow, Nat.shiftRight_eq_div_pow, Nat.shiftRight_eq_div_pow] at this
    have h2 : c / 2 ^ 8 = 0 := Nat.div_eq_of_lt hc
    rw [h2, Nat.xor_zero] at this
    exact this
  have h2 : (h ^^^ c) % 256 = (h % 256) ^^^ c := by
    have := Nat.xor_mod_two_pow (a := h) (b := c) (n := 8)
    rw [show (2 : Nat) ^ 8 = 256 from rfl, Nat.mod_eq_of_lt hc] at this
    exact this
  omega
end

end Go.Proofs.YtmndhffimlkjgaaDoor
