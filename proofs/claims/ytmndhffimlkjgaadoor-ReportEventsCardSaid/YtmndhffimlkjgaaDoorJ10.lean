/- Sums of 32 bits: fnv.Sum32, flywheelref04.Sum32; Bytes and strings: string(b), append(b, s...), bytes.Equal, journal.sum; journal.sum, flywheelref50.Seal; A call's numbers: journal.numbers, flywheelref50.numbers; journal.call: a call of its numbers and its id; line.verbs, Verb, named, Bare; flywheelref41.Verb, Named, Bare. -/
import Derived.Test.YtmndhffimlkjgaaDoorJ09
import Derived.Laws.Bits64
import Derived.Lib.AppendStr
import Derived.Laws.IdiomStrings
import Derived.BigRegion
namespace Go.Proofs.YtmndhffimlkjgaaDoor

section
set_option linter.unusedSimpArgs false
set_option linter.unusedVariables false
open Go.RowKit Go.Lib

def step32 (h b : Nat) : Nat := (h ^^^ b) * 16777619 % 4294967296
def sum32 (l : List UInt8) : Nat := l.foldl (fun h b => step32 h b.toNat) 2166136261
theorem step32_lt (h b : Nat) : step32 h b < 4294967296 := Nat.mod_lt _ (by decide)
theorem sum32_lt (l : List UInt8) : sum32 l < 4294967296 := by
  have : ∀ (l : List UInt8) (h : Nat), h < 4294967296 → l.foldl (fun h b => step32 h b.toNat) h < 4294967296 := by
    intro l
    induction l with
    | nil => exact fun h hh => hh
    | cons a l ih => exact fun h hh => ih _ (step32_lt _ _)
  exact this l _ (by decide)
theorem sum32_snoc (l : List UInt8) (b : UInt8) : sum32 (l ++ [b]) = step32 (sum32 l) b.toNat := by
  unfold sum32
  rw [List.foldl_append, List.foldl_cons, List.foldl_nil]
theorem wrap_u32' (n : Int) : IntKind.u32.wrap n = n % 4294967296 := by simp [IntKind.wrap, IntKind.bits, IntKind.signed]
theorem xor_u32 (a b : Nat) (ha : a < 4294967296) (hb : b < 4294967296) : bits .xor .u32 (a : Int) (b : Int) = ((a ^^^ b : Nat) : Int) := by
  show IntKind.u32.wrap ((BitVec.ofInt 32 (a : Int) ^^^ BitVec.ofInt 32 (b : Int)).toNat : Nat) = _
  rw [BitVec.ofInt_natCast, BitVec.ofInt_natCast, BitVec.toNat_xor, BitVec.toNat_ofNat, BitVec.toNat_ofNat, Nat.mod_eq_of_lt (by omega), Nat.mod_eq_of_lt (by omega), wrap_u32']
  have : a ^^^ b < 2 ^ 32 := Nat.xor_lt_two_pow (by omega) (by omega)
  omega
theorem step32_walk (h c : Nat) (hh : h < 4294967296) (hc : c < 256) : bits BinOp.xor IntKind.u32 (h : Int) (c : Int) * 16777619 % 4294967296 = (step32 h c : Nat) := by
  rw [xor_u32 h c hh (by omega)]
  unfold step32
  omega
end

section
set_option linter.unusedSimpArgs false
set_option linter.unusedVariables false
open Go.RowKit Go.Lib

theorem RowIn.byte {w : World} {A : Option Addr} {c : Nat} {l : List UInt8} (h : RowIn 1 byteC w (.slice A l.length c) l) (hl : l ≠ []) : ∃ b o, A = some ⟨b, o, none⟩ ∧ b < w.heap.size ∧ ∀ j (hj : j < l.length), w.cell? ⟨b, o + j, none⟩ = some (.int .u8 (l[j].toNat : Nat)) := by
  have h0 : 0 < l.length := by cases l with | nil => exact absurd rfl hl | cons => simp
  obtain ⟨b, o, rfl, hb, hc⟩ := h.at_ h0
  refine ⟨b, o, rfl, hb, fun j hj => ?_⟩
  obtain ⟨b', o', e, _, hc'⟩ := h.at_ hj
  simp only [Option.some.injEq, Addr.mk.injEq] at e
  obtain ⟨rfl, rfl, -⟩ := e
  have := hc' 0 _ rfl
  rw [Nat.add_zero, Nat.mul_one] at this
  exact this
/-- string(b). -/
theorem bytes_str {w : World} {v : Value} {l : List UInt8} (h : RowIn 1 byteC w v l) : (Go.convert 72 9 v).run Tryd.prog w = .ok (.string ⟨l.toArray⟩) w := by
  obtain ⟨A, c, rfl⟩ := h.form
  by_cases hl : l = []
  · subst hl
    rw [run_convert_bytes_string w _ _ 5 A _ c Tryd.underlying72 Tryd.underlying5 Tryd.underlying9]
    cases A with
    | none => simp [Conv.bytesToString]; rfl
    | some a =>
      have h0 : (loadCells a 0).run Tryd.prog w = .ok #[] w := by
        have := run_loadCells_list (P := Tryd.prog) w a [] (fun j v hj => by simp at hj)
        simpa using this
      have := run_bytesToString (P := Tryd.prog) w a 0 c [] (by simpa using h0)
      rw [List.length_nil, this]
      rfl
  · obtain ⟨b, o, rfl, _, hc⟩ := h.byte hl
    exact run_convert_bytes_back w _ _ 5 ⟨b, o, none⟩ c l Tryd.underlying72 Tryd.underlying5 Tryd.underlying9 (fun j hj => by
      have hplain : (⟨b, o, none⟩ : Addr).add j = ⟨b, o + j, none⟩ := by unfold Addr.add; split <;> simp_all
      rw [hplain]
      exact hc j hj)
theorem cellsOf_bytes (l : List UInt8) : cellsOfRow byteC l = l.map (fun b => Value.int .u8 (b.toNat : Nat)) := by
  induction l with
  | nil => rfl
  | cons a l ih => simp only [cellsOfRow, List.flatMap_cons, List.map_cons] at ih ⊢; rw [ih]; rfl
theorem strCells_bytes (s : ByteArray) : strCells s = cellsOfRow byteC s.data.toList := by
  rw [cellsOf_bytes]
  rfl
set_option maxRecDepth 100000 in
/-- append(b, s...). -/
theorem wpList_appendS {w : World} {ops : Array Oper} {rest : List Oper} {o : Oper} {a : Act} {Q : Exit → Act → World → Prop} (hgd : o.guard = none) {sl x : Operand}
    (ho : o.op = .call { callee := .builtin .append, args := #[sl, x], argTypes := #[72, 9] }) (base : Nat) (l : List UInt8) (s : ByteArray) (v : Value) (hs : a.eval sl = v) (hx : a.eval x = .string s)
    (hown : OwnL byteC 5 1 base w v l) (hlen : l.length + s.size ≤ 100000000) (hbase : base ≤ w.heap.size)
    (h : ∀ (out : List UInt8) A c w', out = l ++ s.data.toList → OwnL byteC 5 1 base w' (.slice A out.length c) out → w.grownBy w' v.ownBlock → wpList Tryd.prog ops Q rest (a.put o.dst (.slice A out.length c)) w') :
    wpList Tryd.prog ops Q (o :: rest) a w := by
  obtain ⟨i0, hi0, hz0, hz1, hz2⟩ := info_parts eByte.hi
  refine wpList_append_own_string w hgd sl x _ _ ho base 5 i0 Tryd.underlying72 Tryd.underlying9 hi0 hz0 hz1 hz2 v l.length (cellsOfRow byteC l) hs hown s hx (by unfold maxLen; omega) (by omega) hbase ?_
  intro v' w' h1 h2 _
  have e1 : l.length + s.size = (l ++ s.data.toList).length := by simp
  have e2 : cellsOfRow byteC l ++ strCells s = cellsOfRow byteC (l ++ s.data.toList) := by rw [strCells_bytes]; simp [cellsOfRow]
  rw [e1, e2] at h1
  obtain ⟨A, c, rfl⟩ := OwnL.form (f := byteC) (l := l ++ s.data.toList) h1
  exact h _ A c w' rfl h1 h2
end

section
set_option linter.unusedSimpArgs false
set_option linter.unusedVariables false
open Go.RowKit Go.Lib

theorem OwnL.lits {α : Type} {e : TypeId} {n : Nat} {f : α → List Value} (base : Nat) (w : World) (l : List α) (cs : Array Value) (B k : Nat) (hB : w.heap.size = B) (hb : base ≤ B) (hk : l.length = k) (hm : k ≤ maxLen) (hcs : cellsOfRow f l = cs.toList) (hs : cs.size = k * n) :
    OwnL f e n base (w.alloc (.cells cs e)) (.slice (some ⟨B, 0, none⟩) k k) l := by
  subst hB hk
  have := World.ownsRow_lit (base := base) (e := e) (size := n) w cs l.length hb hm hs
  unfold OwnL
  rw [hcs]
  exact this

def seal4 (h : Nat) : List UInt8 := [UInt8.ofNat (h % 256), UInt8.ofNat (h / 256 % 256), UInt8.ofNat (h / 65536 % 256), UInt8.ofNat (h / 16777216 % 256)]
def sealB (l : List UInt8) : List UInt8 := seal4 (sum32 l)
theorem sealB_len (l : List UInt8) : (sealB l).length = 4 := rfl

theorem seal_take (h k : Nat) (hk : k < 4) : (seal4 h).take (k + 1) = (seal4 h).take k ++ [UInt8.ofNat (h / 256 ^ k % 256)] := by
  match k, hk with
  | 0, _ => simp [seal4]
  | 1, _ => simp [seal4]
  | 2, _ => simp [seal4]
  | 3, _ => simp [seal4]
end

section
set_option linter.unusedSimpArgs false
set_option linter.unusedVariables false
open Go.RowKit Go.Lib

def numsC (c : CallD) : List Int :=
  if c.kind = 1 then [1, c.tick, c.val] else if c.kind = 2 then [2, c.tick] else if c.kind = 4 then [4, c.handle] else if c.kind = 5 then [5, c.handle, c.tick, c.val]
  else if c.kind = 6 then [6, c.pol.mn, c.pol.mx, c.pol.tg, c.pol.tol, c.pol.win, c.pol.hold] else [c.kind]
theorem numsC_len (c : CallD) : (numsC c).length ≤ 7 := by
  unfold numsC
  repeat' split
  all_goals simp
theorem numsC_i64 {c : CallD} (h : c.ok) : ∀ n ∈ numsC c, I64 n := by
  obtain ⟨h1, _, h2, h3, h4, h5, h6, h7, h8, h9, h10⟩ := h
  unfold numsC
  repeat' split
  all_goals
    simp only [List.forall_mem_cons, List.forall_mem_nil, and_true]
    (repeat' refine And.intro ?_ ?_)
    all_goals first | omega | (unfold I64 at *; omega) | (intro n hn; cases hn)
def NumSays (w : World) (l : List Int) (e : Ending) (w' : World) : Prop :=
  ∃ A c, e = .returned (.slice A l.length c) ∧ OwnL numC 2 1 w.heap.size w' (.slice A l.length c) l ∧ Below w.heap.size w w'
end

section
set_option linter.unusedSimpArgs false
set_option linter.unusedVariables false
open Go.RowKit Go.Lib

def polZ : Pol := ⟨0, 0, 0, 0, 0, 0⟩
def callN (n : List Int) (id : ByteArray) : CallD :=
  if n.getD 0 0 = 1 ∧ n.length = 3 then ⟨1, id, n.getD 1 0, n.getD 2 0, 0, polZ⟩
  else if n.getD 0 0 = 2 ∧ n.length = 2 then ⟨2, id, n.getD 1 0, 0, 0, polZ⟩
  else if n.getD 0 0 = 4 ∧ n.length = 2 then ⟨4, id, 0, 0, n.getD 1 0, polZ⟩
  else if n.getD 0 0 = 5 ∧ n.length = 4 then ⟨5, id, n.getD 2 0, n.getD 3 0, n.getD 1 0, polZ⟩
  else if n.getD 0 0 = 6 ∧ n.length = 7 then ⟨6, id, 0, 0, 0, ⟨n.getD 1 0, n.getD 2 0, n.getD 3 0, n.getD 4 0, n.getD 5 0, n.getD 6 0⟩⟩
  else ⟨n.getD 0 0, id, 0, 0, 0, polZ⟩

theorem getD_i64 {n : List Int} (h : ∀ x ∈ n, I64 x) (j : Nat) : I64 (n.getD j 0) := by
  by_cases hj : j < n.length
  · have e : n.getD j 0 = n[j] := by simp [List.getElem?_eq_getElem hj]
    rw [e]
    exact h _ (List.getElem_mem hj)
  · have e : n.getD j 0 = 0 := by simp [List.getElem?_eq_none (by omega : n.length ≤ j)]
    rw [e]
    unfold I64; omega
theorem callN_ok {n : List Int} {id : ByteArray} (h : ∀ x ∈ n, I64 x) (hid : id.size ≤ maxLen) : (callN n id).ok := by
  have g := getD_i64 h
  have z : I64 0 := by unfold I64; omega
  have k1 : I64 1 := by unfold I64; omega
  have k2 : I64 2 := by unfold I64; omega
  have k4 : I64 4 := by unfold I64; omega
  have k5 : I64 5 := by unfold I64; omega
  have k6 : I64 6 := by unfold I64; omega
  unfold callN
  repeat' split
  all_goals exact ⟨by first | assumption | exact g _, hid, by first | assumption | exact g _, by first | assumption | exact g _, by first | assumption | exact g _, by first | exact ⟨z, z, z, z, z, z⟩ | exact ⟨g _, g _, g _, g _, g _, g _⟩⟩
end

section
set_option linter.unusedSimpArgs false
set_option linter.unusedVariables false
open Go.RowKit Go.Lib

def namedB (k : Int) : Bool := k == 1 || (k == 5 || (k == 6 || k == 7))
set_option maxRecDepth 100000 in
set_option maxHeartbeats 4000000 in
theorem named_any (k : Int) (w : World) :
    Calls Tryd.prog 46 #[.int .i64 k] w fun e w' => e = .returned (.bool (namedB k)) ∧ Below w.heap.size w w' := by
  by_cases h1 : k = 1
  · subst h1
    go_enter Tryd.func46, Tryd.ntmps46
    go_wp2
    go_ret
    exact ⟨rfl, Below.refl _ _⟩
  by_cases h5 : k = 5
  · subst h5
    go_enter Tryd.func46, Tryd.ntmps46
    go_wp2
    go_ret
    exact ⟨rfl, Below.refl _ _⟩
  by_cases h6 : k = 6
  · subst h6
    go_enter Tryd.func46, Tryd.ntmps46
    go_wp2
    go_ret
    exact ⟨rfl, Below.refl _ _⟩
  have q1 : (k == 1) = false := by simp [h1]
  have q5 : (k == 5) = false := by simp [h5]
  have q6 : (k == 6) = false := by simp [h6]
  have HE := Lib.hid (show namedB k = (k == 7) by simp [namedB, q1, q5, q6])
  clear h1 h5 h6
  go_enter Tryd.func46, Tryd.ntmps46
  go_wp2
  go_ret
  exact ⟨by rw [HE.out]; rfl, Below.refl _ _⟩
set_option maxRecDepth 100000 in
set_option maxHeartbeats 4000000 in
theorem rnamed_any (k : Int) (w : World) :
    Calls Tryd.prog 34 #[.int .i64 k] w fun e w' => e = .returned (.bool (namedB k)) ∧ Below w.heap.size w w' := by
  by_cases h1 : k = 1
  · subst h1
    go_enter Tryd.func34, Tryd.ntmps34
    go_wp2
    go_ret
    exact ⟨rfl, Below.refl _ _⟩
  by_cases h5 : k = 5
  · subst h5
    go_enter Tryd.func34, Tryd.ntmps34
    go_wp2
    go_ret
    exact ⟨rfl, Below.refl _ _⟩
  by_cases h6 : k = 6
  · subst h6
    go_enter Tryd.func34, Tryd.ntmps34
    go_wp2
    go_ret
    exact ⟨rfl, Below.refl _ _⟩
  have q1 : (k == 1) = false := by simp [h1]
  have q5 : (k == 5) = false := by simp [h5]
  have q6 : (k == 6) = false := by simp [h6]
  have HE := Lib.hid (show namedB k = (k == 7) by simp [namedB, q1, q5, q6])
  clear h1 h5 h6
  go_enter Tryd.func34, Tryd.ntmps34
  go_wp2
  go_ret
  exact ⟨by rw [HE.out]; rfl, Below.refl _ _⟩

/-- A kind's word. -/
def verbB (k : Int) : ByteArray :=
  if k = 1 then ⟨#[105, 110, 103, 101, 115, 116]⟩ else if k = 2 then ⟨#[116, 114, 105, 109]⟩ else if k = 3 then ⟨#[115, 110, 97, 112]⟩ else if k = 4 then ⟨#[102, 114, 101, 101]⟩
  else if k = 5 then ⟨#[108, 111, 111, 107]⟩ else if k = 6 then ⟨#[115, 101, 116]⟩ else if k = 7 then ⟨#[114, 101, 97, 100]⟩ else if k = 8 then ⟨#[115, 104, 117, 116]⟩ else ⟨#[]⟩

def verbsV : Value := .agg #[.string ⟨#[]⟩, .string ⟨#[105, 110, 103, 101, 115, 116]⟩, .string ⟨#[116, 114, 105, 109]⟩, .string ⟨#[115, 110, 97, 112]⟩, .string ⟨#[102, 114, 101, 101]⟩, .string ⟨#[108, 111, 111, 107]⟩, .string ⟨#[115, 101, 116]⟩, .string ⟨#[114, 101, 97, 100]⟩, .string ⟨#[115, 104, 117, 116]⟩]
set_option maxRecDepth 100000 in
set_option maxHeartbeats 4000000 in
theorem verbs_any (w : World) :
    Calls Tryd.prog 63 #[] w fun e w' => e = .returned verbsV ∧ Below w.heap.size w w' := by
  go_enter Tryd.func63, Tryd.ntmps63
  go_wp2
  refine bodyPost_ret (v := verbsV) (by simp [results, Tryd.results63, go_sem, verbsV]) rfl ⟨rfl, ?_⟩
  repeat (first | exact Below.refl _ _ | with_reducible refine balloc ?_ _ | with_reducible refine Below.setCell ?_ (by simp) _ | with_reducible refine Below.drew ?_)
end

end Go.Proofs.YtmndhffimlkjgaaDoor
