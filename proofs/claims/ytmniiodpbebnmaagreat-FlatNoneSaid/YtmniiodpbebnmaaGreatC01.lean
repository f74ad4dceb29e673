/- Small lemmas on worlds and words that the walks of this seat share; The plain law of ids: letters, their numbers, keys of ids, digits of keys. Nothing of the program; Walks of ident's functions: each computes what the plain law says; Configs, policies and calls as plain data; what is wrong with them; A list of things of one size in memory: as it comes in, as it stands, as the call's own. -/
import Derived.Test.YtmniiodpbebnmaaGreatRows
import Derived.WalkKit
import Derived.WalkSpells
import Derived.WalkLawsBesides
import Derived.Lib.OthersKept
import Derived.Lib.Hide
import Derived.StillTailTactics
import Derived.Deep.QuietTactic
import Derived.BigQuiet
import Derived.Deep.RegionWith
import Derived.Deep.RegionHeld3
import Derived.Deep.Slices
import Derived.Deep.LoopGhost
import Derived.Lib.SmallJoins
namespace Go.Proofs.YtmniiodpbebnmaaGreat

section
set_option linter.unusedSimpArgs false
set_option linter.unusedVariables false
open Go.RowKit Go.Lib

@[go_sem] theorem setCell_drewN (w : World) (n : Nat) (a : Addr) (v : Value) : (w.drewN n).setCell a v = (w.setCell a v).drewN n := rfl

theorem bcell {W w1 : World} (hb : Below W.heap.size W w1) : (∀ b o, b < W.heap.size → w1.cell? ⟨b, o, none⟩ = W.cell? ⟨b, o, none⟩) ∧ (∀ b o, b < W.heap.size → w1.frozen? ⟨b, o, none⟩ = W.frozen? ⟨b, o, none⟩) :=
  ⟨fun b o h => hb.cell (p := ⟨b, o, none⟩) h, fun b o h => hb.frozen (p := ⟨b, o, none⟩) h⟩

theorem below_drewN {B : Nat} {a w : World} (h : Below B a w) (n : Nat) : Below B a (w.drewN n) := ⟨h.os, h.tape, h.output, h.size, h.block⟩

theorem bthen {w a b : World} (h : Below w.heap.size w a) (k : Below a.heap.size a b) : Below w.heap.size w b := h.trans (k.mono h.size)
theorem balloc {w a : World} (h : Below w.heap.size w a) (o : Obj) : Below w.heap.size w (a.alloc o) := h.alloc h.size o

/-- The cells of one block, and that nothing old has turned: at the block's making; behind a call; behind a new block. -/
theorem startA (w : World) (cs : Array Value) (T : TypeId) :
    (∀ j, (w.alloc (.cells cs T)).cell? ⟨w.heap.size, j, none⟩ = cs[j]?) ∧ Below w.heap.size w (w.alloc (.cells cs T)) ∧ w.heap.size < (w.alloc (.cells cs T)).heap.size :=
  ⟨fun j => by simp [go_sem], balloc (Below.refl _ _) _, by simp⟩
/-! ### A string's iterator, the last block, behind draws -/

theorem next_ascii_n {P : Program} (w : World) (s : ByteArray) (pos n H : Nat) (ty : TypeId) (hH : w.heap.size = H) (h : pos < s.size) (ha : (s[pos]'h).toNat < 128) :
    (Instr.next (.pointer (some ⟨H, 0, none⟩)) true ty).run P ((w.alloc (.stringIter s pos)).drewN n) = .ok (.tuple #[.bool true, .int .i64 pos, .int .i32 (s[pos]'h).toNat]) ((w.alloc (.stringIter s (pos + 1))).drewN n) := by
  subst hH
  show (Instr.next (.pointer (some ⟨w.heap.size, 0, none⟩)) true ty).run P ((w.iter s pos).drewN n) = .ok (.tuple #[.bool true, .int .i64 pos, .int .i32 (s[pos]'h).toNat]) ((w.iter s (pos + 1)).drewN n)
  rw [run_next_ascii_at _ w.heap.size s pos ty (by simp [World.iter_heap]) h ha]
  have := World.iter_set w s pos (pos + 1)
  simp only [World.iterAt, World.drewN] at this ⊢
  rw [← this]

theorem next_end_n {P : Program} (w : World) (s : ByteArray) (pos n H : Nat) (ty : TypeId) (hH : w.heap.size = H) (h : ¬ pos < s.size) :
    (Instr.next (.pointer (some ⟨H, 0, none⟩)) true ty).run P ((w.alloc (.stringIter s pos)).drewN n) = .ok (.tuple #[.bool false]) ((w.alloc (.stringIter s pos)).drewN n) := by
  subst hH
  show (Instr.next (.pointer (some ⟨w.heap.size, 0, none⟩)) true ty).run P ((w.iter s pos).drewN n) = .ok (.tuple #[.bool false]) ((w.iter s pos).drewN n)
  rw [run_next_end_at _ w.heap.size s pos ty (by simp [World.iter_heap]) h]

theorem iterPos_n (w : World) (s : ByteArray) (pos n H : Nat) (hH : w.heap.size = H) : ((w.alloc (.stringIter s pos)).drewN n).iterPos H = pos := by
  subst hH
  exact World.iterPos_iter w s pos

/-- What the walk may use to see that the world of a memory's fact goes on. -/
@[go_sem] theorem below_alloc_s {w a : World} {o : Obj} (h : Below w.heap.size w a) : Below w.heap.size w (a.alloc o) = True := eq_true (balloc h o)
@[go_sem] theorem below_drewN_s {n : Nat} {w a : World} {k : Nat} (h : Below n w a) : Below n w (a.drewN k) = True := eq_true (below_drewN h k)
@[go_sem] theorem below_drew_s {n : Nat} {w a : World} (h : Below n w a) : Below n w a.drew = True := eq_true h.drew
@[go_sem] theorem below_setCell_s {n : Nat} {w a : World} {p : Addr} {v : Value} (h : Below n w a) (hp : n ≤ p.block) : Below n w (a.setCell p v) = True := eq_true (h.setCell hp v)
@[go_sem] theorem below_refl_s {n : Nat} {w : World} : Below n w w = True := eq_true (Below.refl n w)

/-- The cells of a block of the call's own behind a call. -/
theorem box_cells {W w1 : World} (hb : Below W.heap.size W w1) {B : Nat} {cs : Array Value} {T : TypeId} (hB : W.heap[B]? = some (.cells cs T (0, 0))) : (∀ j, w1.cell? ⟨B, j, none⟩ = cs[j]?) ∧ (∀ j, w1.frozen? ⟨B, j, none⟩ = false) ∧ B < w1.heap.size := by
  have hlt : B < W.heap.size := (Array.getElem?_eq_some_iff.1 hB).1
  have h1 := (hb.block B hlt).trans hB
  exact ⟨fun j => by simp [World.cell?, h1], fun j => by simp [World.frozen?, h1], Nat.lt_of_lt_of_le hlt hb.size⟩
theorem box_old (w : World) (o1 o2 : Obj) : ((w.alloc o1).alloc o2).heap[w.heap.size]? = some o1 := (Below.heap_alloc _ _ _ (by simp)).trans (heap_alloc_new _ _)

theorem box_new (w : World) (o1 o2 : Obj) : ((w.alloc o1).alloc o2).heap[w.heap.size + 1]? = some o2 := by
  have h := heap_alloc_new (w.alloc o1) o2
  rwa [World.size_alloc] at h

/-- A key. -/
def keyV (hi lo : Nat) : Value := .agg #[.int .u64 (hi : Nat), .int .u64 (lo : Nat)]

/-! ### Words of 64 bits -/

theorem u64_wrap (n : Nat) (h : n < 18446744073709551616) : IntKind.u64.wrap (n : Int) = (n : Int) := by
  simp only [IntKind.wrap, IntKind.signed, IntKind.bits]
  simp
  omega

theorem ret_int {k : IntKind} {a b : Int} (h : a = b) : Ending.returned (.int k a) = .returned (.int k b) := by rw [h]

theorem ret_bool {a b : Bool} (h : a = b) : Ending.returned (.bool a) = .returned (.bool b) := by rw [h]

/-! ### Rows of bytes of the call's own -/

/-- The form of an owned slice. -/
theorem own_form {w : World} {base : Nat} {e : TypeId} {size : Nat} {v : Value} {n : Nat} {xs : List Value} (h : w.ownsRow base e size v n xs) : ∃ A c, v = .slice A n c := by
  rcases h.2 with ⟨rfl, rfl⟩ | ⟨g, cap, cur, rfl, _⟩
  · exact ⟨_, _, rfl⟩
  · exact ⟨_, _, rfl⟩

theorem own_below {w w' : World} {base : Nat} {e : TypeId} {size : Nat} {v : Value} {n : Nat} {xs : List Value} (h : w.ownsRow base e size v n xs) (hb : Below w.heap.size w w') : w'.ownsRow base e size v n xs :=
  h.kept (row := none) ⟨hb.os, hb.tape, hb.output, hb.size, fun k hk _ => hb.block k hk⟩ (by cases v.ownBlock <;> simp)
end

section
set_option linter.unusedSimpArgs false
set_option linter.unusedVariables false

def codeI (c : Int) : Int :=
  if c = 45 then 1 else if c = 46 then 2 else if 48 ≤ c ∧ c ≤ 57 then c - 45 else if c = 95 then 13 else if 97 ≤ c ∧ c ≤ 122 then c - 83 else 0

theorem codeI_bd (c : Int) : 0 ≤ codeI c ∧ codeI c ≤ 39 := by
  unfold codeI
  repeat' split
  all_goals omega

theorem codeI_high (c : Int) (h : 128 ≤ c) : codeI c = 0 := by
  unfold codeI
  repeat' split
  all_goals omega

def codeB (b : UInt8) : Nat := (codeI b.toNat).toNat
def okB (b : UInt8) : Bool := decide (codeB b ≠ 0)

theorem codeB_le (b : UInt8) : codeB b ≤ 39 := by
  have := codeI_bd b.toNat
  unfold codeB; omega

theorem codeI_cast (b : UInt8) : codeI b.toNat = (codeB b : Int) := by
  have := codeI_bd b.toNat
  unfold codeB; omega

theorem okB_ascii (b : UInt8) (h : okB b = true) : b.toNat < 128 := by
  rcases Nat.lt_or_ge b.toNat 128 with h1 | h1
  · exact h1
  · have := codeI_high b.toNat (by omega)
    simp [okB, codeB, this] at h

/-- Letters keep their order as numbers. -/
theorem codeB_lt (a b : UInt8) (ha : okB a = true) (hb : okB b = true) : codeB a < codeB b ↔ a.toNat < b.toNat := by
  have ha' : codeB a ≠ 0 := by simpa [okB] using ha
  have hb' : codeB b ≠ 0 := by simpa [okB] using hb
  unfold codeB codeI at *
  have := a.toNat_lt
  have := b.toNat_lt
  generalize a.toNat = x at *
  generalize b.toNat = y at *
  repeat' split at ha'
  all_goals repeat' split at hb'
  all_goals first | omega | (simp at ha') | (simp at hb') | skip
  all_goals (repeat' split) <;> omega

theorem codeB_inj (a b : UInt8) (ha : okB a = true) (h : codeB a = codeB b) : a = b := by
  have hb : okB b = true := by simpa [okB, ← h] using ha
  have h1 := codeB_lt a b ha hb
  have h2 := codeB_lt b a hb ha
  exact UInt8.toNat_inj.1 (by omega)

def idL (l : List UInt8) : Bool := decide (1 ≤ l.length) && (decide (l.length ≤ 20) && l.all okB)

theorem idL_iff (l : List UInt8) : idL l = true ↔ 1 ≤ l.length ∧ l.length ≤ 20 ∧ ∀ b ∈ l, okB b = true := by
  simp [idL]

def dig (l : List UInt8) (i : Nat) : Nat := ((l[i]?).map codeB).getD 0

theorem dig_le (l : List UInt8) (i : Nat) : dig l i ≤ 39 := by
  unfold dig
  cases l[i]? with
  | none => simp
  | some b => simpa using codeB_le b

theorem dig_at (l : List UInt8) (i : Nat) (h : i < l.length) : dig l i = codeB l[i] := by simp [dig, h]
theorem dig_out (l : List UInt8) (i : Nat) (h : l.length ≤ i) : dig l i = 0 := by simp [dig, h]

def keyN (l : List UInt8) (a : Nat) : Nat → Nat
  | 0 => 0
  | n + 1 => keyN l a n * 64 + dig l (a + n)

theorem keyN_lt (l : List UInt8) (a n : Nat) : keyN l a n < 64 ^ n := by
  induction n with
  | zero => simp [keyN]
  | succ n ih =>
    have := dig_le l (a + n)
    rw [keyN, Nat.pow_succ]
    omega

/-- Where the list ends the digits are 0. -/
theorem keyN_end (l : List UInt8) (a m : Nat) (h : l.length ≤ a + m) : ∀ k, keyN l a (m + k) = keyN l a m * 64 ^ k := by
  intro k
  induction k with
  | zero => simp
  | succ k ih =>
    rw [← Nat.add_assoc, keyN, ih, dig_out l _ (by omega), Nat.pow_succ, Nat.mul_assoc]
    simp

/-- The j-th digit of a key. -/
theorem keyN_dig (l : List UInt8) (a : Nat) : ∀ n j, j < n → keyN l a n / 64 ^ (n - 1 - j) % 64 = dig l (a + j) := by
  intro n
  induction n with
  | zero => intro j h; omega
  | succ n ih =>
    intro j h
    have hd := dig_le l (a + n)
    rcases Nat.lt_or_ge j n with h1 | h1
    · have e : n + 1 - 1 - j = (n - 1 - j) + 1 := by omega
      rw [e, Nat.pow_succ, Nat.mul_comm (64 ^ _) 64, ← Nat.div_div_eq_div_mul, keyN]
      rw [show (keyN l a n * 64 + dig l (a + n)) / 64 = keyN l a n by omega]
      exact ih j h1
    · have e : n + 1 - 1 - j = 0 := by omega
      obtain rfl : j = n := by omega
      rw [e, keyN]
      simp
      omega

/-- Equal digits, equal lists (of letters). -/
theorem list_of_digs (l l' : List UInt8) (hl : ∀ b ∈ l, okB b = true) (hl' : ∀ b ∈ l', okB b = true) (n : Nat) (h1 : l.length ≤ n) (h2 : l'.length ≤ n)
    (h : ∀ j, j < n → dig l j = dig l' j) : l = l' := by
  have pos : ∀ (m : List UInt8), (∀ b ∈ m, okB b = true) → ∀ i, i < m.length → dig m i ≠ 0 := by
    intro m hm i hi
    rw [dig_at m i hi]
    simpa [okB] using hm _ (List.getElem_mem hi)
  have hlen : l.length = l'.length := by
    rcases Nat.lt_trichotomy l.length l'.length with hx | hx | hx
    · have := pos l' hl' l.length hx
      rw [← h _ (by omega), dig_out l _ (Nat.le_refl _)] at this
      omega
    · exact hx
    · have := pos l hl l'.length hx
      rw [h _ (by omega), dig_out l' _ (Nat.le_refl _)] at this
      omega
  refine List.ext_getElem hlen fun i hi hi' => ?_
  have := h i (by omega)
  rw [dig_at l i hi, dig_at l' i hi'] at this
  exact codeB_inj _ _ (hl _ (List.getElem_mem hi)) this

def hiN (l : List UInt8) : Nat := keyN l 0 10
def loN (l : List UInt8) : Nat := keyN l 10 10

theorem hiN_lt (l : List UInt8) : hiN l < 1152921504606846976 := keyN_lt l 0 10
theorem loN_lt (l : List UInt8) : loN l < 1152921504606846976 := keyN_lt l 10 10

/-- The digit of two words at a place. -/
def atN (hi lo i : Nat) : Nat := (if i < 10 then hi else lo) / 64 ^ (9 - i % 10) % 64

theorem atN_key (l : List UInt8) (i : Nat) (h : i < 20) : atN (hiN l) (loN l) i = dig l i := by
  unfold atN hiN loN
  split
  · rename_i h1
    rw [Nat.mod_eq_of_lt h1]
    have := keyN_dig l 0 10 i h1
    simpa using this
  · rename_i h1
    have e : i % 10 = i - 10 := by omega
    rw [e]
    have := keyN_dig l 10 10 (i - 10) (by omega)
    rw [show 10 + (i - 10) = i by omega] at this
    simpa using this

def IsKey (hi lo : Nat) (l : List UInt8) : Prop := idL l = true ∧ hiN l = hi ∧ loN l = lo

theorem IsKey.digs {hi lo : Nat} {l : List UInt8} (h : IsKey hi lo l) (i : Nat) (hi20 : i < 20) : atN hi lo i = dig l i := by
  obtain ⟨_, rfl, rfl⟩ := h
  exact atN_key l i hi20

theorem IsKey.one {hi lo : Nat} {l l' : List UInt8} (h : IsKey hi lo l) (h' : IsKey hi lo l') : l = l' := by
  obtain ⟨_, h2, h3⟩ := (idL_iff l).1 h.1
  obtain ⟨_, h2', h3'⟩ := (idL_iff l').1 h'.1
  exact list_of_digs l l' h3 h3' 20 h2 h2' fun j hj => by rw [← h.digs j hj, h'.digs j hj]

/-! ### The loop of Pack: words that are filled from the top -/

/-- The word of the first m of ten digits. -/
def partW (l : List UInt8) (a m : Nat) : Nat := keyN l a m * 64 ^ (10 - m)

theorem partW_zero (l : List UInt8) (a : Nat) : partW l a 0 = 0 := by simp [partW, keyN]
theorem partW_ten (l : List UInt8) (a : Nat) : partW l a 10 = keyN l a 10 := by simp [partW]
theorem partW_lt (l : List UInt8) (a m : Nat) (h : m ≤ 10) : partW l a m < 1152921504606846976 := by
  have h1 := keyN_lt l a m
  have e : 64 ^ m * 64 ^ (10 - m) = 1152921504606846976 := by
    rw [← Nat.pow_add, show m + (10 - m) = 10 by omega]
  unfold partW
  rw [← e]
  exact Nat.mul_lt_mul_of_pos_right h1 (Nat.pow_pos (by decide))

theorem shl_dig (d m : Nat) : d <<< (6 * (9 - m)) = d * 64 ^ (9 - m) := by
  rw [Nat.shiftLeft_eq, show (64 : Nat) = 2 ^ 6 by rfl, ← Nat.pow_mul]

theorem partW_succ (l : List UInt8) (a m : Nat) (h : m < 10) : partW l a m ||| (dig l (a + m)) <<< (6 * (9 - m)) = partW l a (m + 1) := by
  have hd := dig_le l (a + m)
  have e : 10 - m = (9 - m) + 1 := by omega
  have hlt : dig l (a + m) <<< (6 * (9 - m)) < 2 ^ (6 * (10 - m)) := by
    rw [shl_dig, e, Nat.mul_add, Nat.pow_add, Nat.pow_mul, show (2 : Nat) ^ 6 = 64 by rfl, Nat.mul_comm]
    exact Nat.mul_lt_mul_of_pos_left (by omega) (Nat.pow_pos (by decide))
  have hp : partW l a m = keyN l a m <<< (6 * (10 - m)) := by
    unfold partW
    rw [Nat.shiftLeft_eq, Nat.pow_mul, show (2 : Nat) ^ 6 = 64 by rfl]
  rw [hp, ← Nat.shiftLeft_add_eq_or_of_lt hlt, shl_dig, Nat.shiftLeft_eq, Nat.pow_mul, show (2 : Nat) ^ 6 = 64 by rfl, e, Nat.pow_succ]
  unfold partW
  rw [keyN, show 10 - (m + 1) = 9 - m by omega, Nat.add_mul, Nat.mul_assoc, Nat.mul_comm 64]

theorem partW_all (l : List UInt8) (a : Nat) (m : Nat) (hm : m ≤ 10) (h : l.length ≤ a + m) : partW l a m = keyN l a 10 := by
  have := keyN_end l a m h (10 - m)
  rw [show m + (10 - m) = 10 by omega] at this
  unfold partW
  exact this.symm
end

section
set_option linter.unusedSimpArgs false
set_option linter.unusedVariables false
open Go.RowKit Go.Lib

set_option maxHeartbeats 400000 in
theorem code_any (c : Int) (w : World) (h0 : -2147483648 ≤ c) (h1 : c ≤ 2147483647) :
    Calls Tryz.prog 124 #[.int .i32 c] w fun e w' => e = .returned (.int .u64 (codeI c)) ∧ w = w' := by
  go_enter Tryz.func124, Tryz.ntmps124
  go_wp2
  all_goals
    go_ret
    refine ⟨?_, rfl⟩
    simp_all [codeI]
    try omega

theorem mem_at (s : ByteArray) (j : Nat) (h : j < s.size) : s[j] ∈ s.data.toList := by
  have e : s[j] = s.data.toList[j]'(by simpa using h) := rfl
  rw [e]
  exact List.getElem_mem _

/-- All bytes ahead of a place are letters. -/
def OkTo (s : ByteArray) (n : Nat) : Prop := ∀ j (h : j < s.size), j < n → okB s[j] = true

theorem okTo_list (s : ByteArray) (n : Nat) (h : s.size ≤ n) : OkTo s n ↔ ∀ b ∈ s.data.toList, okB b = true := by
  constructor
  · intro hk b hb
    obtain ⟨j, hj, rfl⟩ := List.getElem_of_mem hb
    have hj' : j < s.size := by simpa using hj
    exact hk j hj' (by omega)
  · intro hk j hj _
    exact hk _ (mem_at s j hj)

theorem okTo_zero (s : ByteArray) : OkTo s 0 := fun _ _ h => absurd h (by omega)
theorem okTo_succ (s : ByteArray) (n : Nat) (h : OkTo s n) (hn : n < s.size) (hb : okB s[n] = true) : OkTo s (n + 1) := by
  intro j hj hlt
  rcases Nat.lt_or_ge j n with h1 | h1
  · exact h j hj h1
  · obtain rfl : j = n := by omega
    exact hb

def idS (s : ByteArray) : Bool := idL s.data.toList

theorem idS_len (s : ByteArray) (h : s.size < 1 ∨ 20 < s.size) : idS s = false := by
  cases hb : idS s with
  | false => rfl
  | true =>
    have := (idL_iff _).1 hb
    simp at this
    omega
theorem idS_bad (s : ByteArray) (j : Nat) (hj : j < s.size) (h : okB s[j] = false) : idS s = false := by
  cases hb : idS s with
  | false => rfl
  | true =>
    have := ((idL_iff _).1 hb).2.2 s[j] (mem_at s j hj)
    rw [h] at this
    cases this
theorem idS_all (s : ByteArray) (h1 : 1 ≤ s.size) (h2 : s.size ≤ 20) (h : OkTo s s.size) : idS s = true :=
  (idL_iff _).2 ⟨by simpa using h1, by simpa using h2, (okTo_list s s.size (Nat.le_refl _)).1 h⟩
theorem idS_okTo (s : ByteArray) (h : idS s = true) : 1 ≤ s.size ∧ s.size ≤ 20 ∧ OkTo s s.size := by
  have := (idL_iff _).1 h
  exact ⟨by simpa using this.1, by simpa using this.2.1, (okTo_list s s.size (Nat.le_refl _)).2 this.2.2⟩

def chkV (s : ByteArray) : Int := if idS s = true then 0 else 2

theorem okB_code (b : UInt8) : okB b = true → (codeI b.toNat == 0) = false := by
  intro h
  rw [codeI_cast]
  simpa [okB] using h
/-- A rune that begins with a byte that is no letter has no number. -/
theorem rune_bad (s : ByteArray) (pos : Nat) (h : pos < s.size) (hb : okB s[pos] = false) : (codeI (Utf8.decode s pos).1 == 0) = true := by
  by_cases ha : (s[pos]'h).toNat < 128
  · rw [decode_ascii s pos h ha]
    simp only [beq_iff_eq]
    have : codeB s[pos] = 0 := by simpa [okB] using hb
    rw [codeI_cast, this]; rfl
  · have := (decode_high s pos h (by omega)).1
    simp only [beq_iff_eq]
    exact codeI_high _ (by omega)

set_option maxHeartbeats 1000000 in
theorem check_any (s : ByteArray) (w : World) (hm : s.size ≤ maxLen) :
    Calls Tryz.prog 56 #[.string s] w fun e w' => e = .returned (.int .i64 (chkV s)) ∧ Below w.heap.size w w' := by
  unfold maxLen at hm
  by_cases h1 : s.size < 1
  · have hf : chkV s = 2 := by simp [chkV, idS_len s (.inl h1)]
    rw [hf]
    clear hf
    go_enter Tryz.func56, Tryz.ntmps56
    go_wp2
    go_ret
    exact ⟨rfl, Below.refl _ _⟩
  · by_cases h2 : 20 < s.size
    · have hf : chkV s = 2 := by simp [chkV, idS_len s (.inr h2)]
      rw [hf]
      clear hf
      go_enter Tryz.func56, Tryz.ntmps56
      go_wp2
      go_ret
      exact ⟨rfl, Below.refl _ _⟩
    · go_enter Tryz.func56, Tryz.ntmps56
      go_wp2
      go_loopw [4] (fun _ w' => ∃ pos : Nat, pos ≤ s.size ∧ w' = w.iter s pos ∧ OkTo s pos) (fun _ w' => s.size - w'.iterPos w.heap.size)
      case atStart => exact ⟨0, Nat.zero_le _, rfl, okTo_zero s⟩
      case round =>
        obtain ⟨pos, hp0, rfl, hok⟩ := hrel
        by_cases hp : pos < s.size
        · cases hb : okB s[pos] with
          | true =>
            have ha := okB_ascii _ hb
            have hc := okB_code _ hb
            have hok' := okTo_succ s pos hok hp hb
            have hnx : ∀ ty, (Instr.next (.pointer (some ⟨w.heap.size, 0, none⟩)) true ty).run Tryz.prog (w.iter s pos) = _ := fun ty => run_next_ascii w s pos ty hp ha
            clear hb hok
            go_wp2_with (go_at_call 124; refine (code_any _ _ (by omega) (by omega)).mono ?_; rintro e w' ⟨rfl, rfl⟩)
            go_roundw
            case rel => exact ⟨pos + 1, hp, rfl, hok'⟩
            case measure => simp; omega
          | false =>
            have hr := rune_bad s pos hp hb
            have hle := decode_le s pos
            have hf : chkV s = 2 := by simp [chkV, idS_bad s pos hp hb]
            have hnx : ∀ ty, (Instr.next (.pointer (some ⟨w.heap.size, 0, none⟩)) true ty).run Tryz.prog (w.iter s pos) = _ := fun ty => run_next_any w s pos ty hp
            clear hb hok
            have Hf := Lib.hid hf
            clear hf
            go_wp2_with (go_at_call 124; refine (code_any _ _ (by omega) (by omega)).mono ?_; rintro e w' ⟨rfl, rfl⟩)
            go_ret
            rw [Hf.out]
            exact ⟨rfl, (Below.refl _ _).alloc (Nat.le_refl _) _⟩
        · have hf : chkV s = 0 := by
            obtain rfl : pos = s.size := by omega
            simp [chkV, idS_all s (by omega) (by omega) hok]
          have Hf := Lib.hid hf
          clear hf hok
          have hnx : ∀ ty, (Instr.next (.pointer (some ⟨w.heap.size, 0, none⟩)) true ty).run Tryz.prog (w.iter s pos) = _ := fun ty => run_next_end w s pos ty hp
          go_wp2
          go_ret
          rw [Hf.out]
          exact ⟨rfl, (Below.refl _ _).alloc (Nat.le_refl _) _⟩
end

section
set_option linter.unusedSimpArgs false
set_option linter.unusedVariables false
open Go.RowKit Go.Lib

structure Cfg where
  st : Int
  sa : Int
  lo : Int
  hi : Int

structure Pol where
  mn : Int
  mx : Int
  tg : Int
  tol : Int
  win : Int
  hold : Int

structure CallD where
  kind : Int
  id : ByteArray
  tick : Int
  val : Int
  handle : Int
  pol : Pol

def I64 (n : Int) : Prop := -9223372036854775808 ≤ n ∧ n ≤ 9223372036854775807

def Cfg.ok (c : Cfg) : Prop := I64 c.st ∧ I64 c.sa ∧ I64 c.lo ∧ I64 c.hi
def Pol.ok (p : Pol) : Prop := I64 p.mn ∧ I64 p.mx ∧ I64 p.tg ∧ I64 p.tol ∧ I64 p.win ∧ I64 p.hold
def CallD.ok (c : CallD) : Prop := I64 c.kind ∧ c.id.size ≤ maxLen ∧ I64 c.tick ∧ I64 c.val ∧ I64 c.handle ∧ c.pol.ok

def cfgV (c : Cfg) : Value := .agg #[.int .i64 c.st, .int .i64 c.sa, .int .i64 c.lo, .int .i64 c.hi]
def polV (p : Pol) : Value := .agg #[.int .i64 p.mn, .int .i64 p.mx, .int .i64 p.tg, .int .i64 p.tol, .int .i64 p.win, .int .i64 p.hold]
def callCells (c : CallD) : List Value := [.int .i64 c.kind, .string c.id, .int .i64 c.tick, .int .i64 c.val, .int .i64 c.handle, .int .i64 c.pol.mn, .int .i64 c.pol.mx, .int .i64 c.pol.tg, .int .i64 c.pol.tol, .int .i64 c.pol.win, .int .i64 c.pol.hold]
def callV (c : CallD) : Value := .agg #[.int .i64 c.kind, .string c.id, .int .i64 c.tick, .int .i64 c.val, .int .i64 c.handle, .int .i64 c.pol.mn, .int .i64 c.pol.mx, .int .i64 c.pol.tg, .int .i64 c.pol.tol, .int .i64 c.pol.win, .int .i64 c.pol.hold]

def okSt (n : Int) : Bool := n == 1 || (n == 2 || (n == 4 || (n == 8 || (n == 16 || (n == 32 || n == 64)))))
def cfgB (c : Cfg) : Bool := okSt c.st && decide (1 ≤ c.sa ∧ c.sa ≤ 256 ∧ 1 ≤ c.lo ∧ c.lo ≤ 256 ∧ 1 ≤ c.hi ∧ c.hi ≤ 64)
def cfgE (c : Cfg) : Int := if cfgB c = true then 0 else 1
def serE (t v : Int) : Int := if t < 0 then 3 else if v < 0 then 4 else 0
def polB (p : Pol) : Bool := decide (0 ≤ p.mn ∧ 1 ≤ p.mx ∧ p.mn ≤ p.mx ∧ p.mx ≤ 1073741824 ∧ 1 ≤ p.tg ∧ 0 ≤ p.tol ∧ p.tol ≤ 999 ∧ 1 ≤ p.win ∧ 0 ≤ p.hold)
def polE (p : Pol) : Int := if polB p = true then 0 else 7
def chkC (c : CallD) : Int :=
  if c.kind < 1 ∨ 8 < c.kind then 14
  else if (c.kind = 1 ∨ c.kind = 5 ∨ c.kind = 6 ∨ c.kind = 7) ∧ idS c.id = false then 2
  else if c.kind = 1 then serE c.tick c.val
  else if c.kind = 2 ∧ c.tick < 0 then 3
  else if c.kind = 6 ∧ polB c.pol = false then 7
  else 0

theorem okSt_iff (n : Int) : okSt n = true ↔ n = 1 ∨ n = 2 ∨ n = 4 ∨ n = 8 ∨ n = 16 ∨ n = 32 ∨ n = 64 := by
  simp [okSt]

def bitsI (n : Int) : Int := if n = 1 then 0 else if n = 2 then 1 else if n = 4 then 2 else if n = 8 then 3 else if n = 16 then 4 else if n = 32 then 5 else if n = 64 then 6 else -1
theorem bitsI_pow : ∀ k, k < 7 → bitsI ((2 ^ k : Nat) : Int) = (k : Nat) := by decide
theorem okSt_bd (n : Int) (h : okSt n = true) : 1 ≤ n ∧ n ≤ 64 := by
  have := (okSt_iff n).1 h
  omega

theorem st_and : ∀ k, k < 65 → 1 ≤ k → (bits BinOp.and IntKind.i64 ((k : Nat) : Int) ((k : Nat) - 1 : Int) == 0) = okSt ((k : Nat) : Int) := by decide
end

section
set_option linter.unusedSimpArgs false
set_option linter.unusedVariables false
open Go.RowKit Go.Lib Go.ChangeShapes Go.WideShapes Go.Joins

theorem add_at (b o i : Nat) : (Addr.mk b o none).add i = ⟨b, o + i, none⟩ := by
  unfold Addr.add
  split
  · subst_vars; rfl
  · rfl

/-- A slice that holds these things, each of n cells. -/
def RowIn {α : Type} (n : Nat) (f : α → List Value) (w : World) (v : Value) (l : List α) : Prop :=
  ∃ A c, v = .slice A l.length c ∧ l.length ≤ c ∧ (0 < l.length → ∃ b o, A = some ⟨b, o, none⟩ ∧ b < w.heap.size ∧ ∀ k x, l[k]? = some x → ∀ j u, (f x)[j]? = some u → w.cell? ⟨b, o + k * n + j, none⟩ = some u)

theorem RowIn.below {α : Type} {n : Nat} {f : α → List Value} {w w' : World} {v : Value} {l : List α} (h : RowIn n f w v l) (hb : Below w.heap.size w w') : RowIn n f w' v l := by
  obtain ⟨A, c, hv, hc, h⟩ := h
  refine ⟨A, c, hv, hc, fun hn => ?_⟩
  obtain ⟨b, o, hA, hlt, h⟩ := h hn
  exact ⟨b, o, hA, Nat.lt_of_lt_of_le hlt hb.size, fun k x hk j u hu => (hb.cell (p := ⟨b, _, none⟩) hlt).trans (h k x hk j u hu)⟩

theorem RowIn.nil {α : Type} {n : Nat} {f : α → List Value} {w : World} {A : Option Addr} {c : Nat} : RowIn n f w (.slice A 0 c) ([] : List α) :=
  ⟨A, c, rfl, Nat.zero_le _, fun h => absurd h (Nat.lt_irrefl _)⟩

/-- The cells of the element at a place. -/
theorem RowIn.at_ {α : Type} {n : Nat} {f : α → List Value} {w : World} {A : Option Addr} {m c : Nat} {l : List α} (h : RowIn n f w (.slice A m c) l) {k : Nat} (hk : k < l.length) :
    ∃ b o, A = some ⟨b, o, none⟩ ∧ b < w.heap.size ∧ ∀ j u, (f l[k])[j]? = some u → w.cell? ⟨b, o + k * n + j, none⟩ = some u := by
  obtain ⟨A1, c1, hv, _, h⟩ := h
  injection hv with e1 e2 e3
  subst e1
  obtain ⟨b, o, hA, hlt, h⟩ := h (by omega)
  exact ⟨b, o, hA, hlt, h k l[k] (List.getElem?_eq_getElem hk)⟩

/-- All the elements' cells. -/
def cellsOfRow {α : Type} (f : α → List Value) (l : List α) : List Value := l.flatMap f
theorem cellsOfRow_cons {α : Type} (f : α → List Value) (x : α) (l : List α) : cellsOfRow f (x :: l) = f x ++ cellsOfRow f l := rfl
theorem cellsOfRow_append {α : Type} (f : α → List Value) (l m : List α) : cellsOfRow f (l ++ m) = cellsOfRow f l ++ cellsOfRow f m := by simp [cellsOfRow]
theorem cellsOfRow_len {α : Type} {f : α → List Value} {n : Nat} (hf : ∀ x, (f x).length = n) (l : List α) : (cellsOfRow f l).length = l.length * n := by
  induction l with
  | nil => simp [cellsOfRow]
  | cons a l ih => rw [cellsOfRow_cons, List.length_append, ih, hf, List.length_cons, Nat.succ_mul]; omega
theorem cellsOfRow_at {α : Type} {f : α → List Value} {n : Nat} (hf : ∀ x, (f x).length = n) (l : List α) : ∀ (k : Nat) (x : α), l[k]? = some x → ∀ j u, (f x)[j]? = some u → (cellsOfRow f l)[k * n + j]? = some u := by
  induction l with
  | nil => intro k x h; simp at h
  | cons a l ih =>
    intro k x h j u hu
    cases k with
    | zero =>
      simp at h; subst h
      rw [cellsOfRow_cons, Nat.zero_mul, Nat.zero_add, List.getElem?_append_left (List.getElem?_eq_some_iff.1 hu).1, hu]
    | succ k =>
      simp at h
      rw [cellsOfRow_cons, List.getElem?_append_right (by rw [hf, Nat.succ_mul]; omega), hf, show (k + 1) * n + j - n = k * n + j by rw [Nat.succ_mul]; omega]
      exact ih k x h j u hu
theorem cellsOfRow_one {α : Type} {f : α → List Value} (h1 : ∀ x, ∀ u ∈ f x, u.oneCell' = true) (l : List α) : ∀ u ∈ cellsOfRow f l, u.oneCell' = true := by
  intro u hu
  obtain ⟨x, _, hx⟩ := List.mem_flatMap.1 hu
  exact h1 x u hx
/-- The cell at a place of the row is an element's. -/
theorem cellsOfRow_split {α : Type} {f : α → List Value} {n : Nat} (hn : 0 < n) (hf : ∀ x, (f x).length = n) (l : List α) (j : Nat) (u : Value) (h : (cellsOfRow f l)[j]? = some u) : ∃ x, l[j / n]? = some x ∧ (f x)[j % n]? = some u := by
  have hj := (List.getElem?_eq_some_iff.1 h).1
  rw [cellsOfRow_len hf] at hj
  have hk : j / n < l.length := by rw [Nat.div_lt_iff_lt_mul hn]; exact hj
  refine ⟨l[j / n], List.getElem?_eq_getElem hk, ?_⟩
  have hm : j % n < (f l[j / n]).length := by rw [hf]; exact Nat.mod_lt _ hn
  have := cellsOfRow_at hf l (j / n) l[j / n] (List.getElem?_eq_getElem hk) (j % n) _ (List.getElem?_eq_getElem hm)
  rw [show j / n * n + j % n = j by rw [Nat.mul_comm]; exact Nat.div_add_mod j n, h] at this
  rw [List.getElem?_eq_getElem hm, this]

/-- A row of the call's own, read. -/
theorem RowIn.own {α : Type} {n : Nat} {f : α → List Value} (hf : ∀ x, (f x).length = n) {w : World} {base : Nat} {e : TypeId} {v : Value} {l : List α} (h : w.ownsRow base e n v l.length (cellsOfRow f l)) : RowIn n f w v l := by
  rcases h.2 with ⟨hv, h0⟩ | ⟨g, cap, cur, hv, _, _, hc', _⟩
  · obtain rfl : l = [] := List.eq_nil_of_length_eq_zero h0
    rw [hv]
    exact RowIn.nil
  · refine ⟨some ⟨g, 0, none⟩, cap, hv, hc', fun hn => ⟨g, 0, rfl, (h.lt g (by rw [hv]; rfl)).2, fun k x hk j u hu => ?_⟩⟩
    have hat := cellsOfRow_at hf l k x hk j u hu
    have hj := (List.getElem?_eq_some_iff.1 hat).1
    rw [cellsOfRow_len hf] at hj
    have hkl := (List.getElem?_eq_some_iff.1 hk).1
    subst hv
    rw [Nat.zero_add, h.cellAt (k * n + j) hj, hat]

/-- A part of a slice. -/
theorem RowIn.part {α : Type} {n : Nat} {f : α → List Value} {w : World} {A : Option Addr} {m c : Nat} {l : List α} (h : RowIn n f w (.slice A m c) l) {i j : Nat} (hij : i ≤ j) (hj : j ≤ l.length) :
    RowIn n f w (.slice (if c = i then A else A.map (·.add (i * n))) (j - i) (c - i)) ((l.take j).drop i) := by
  obtain ⟨A1, c1, hv, hc, h⟩ := h
  injection hv with e1 e2 e3
  subst e1 e2 e3
  have hlen : ((l.take j).drop i).length = j - i := by simp; omega
  refine ⟨_, c - i, by rw [hlen], by omega, fun hn => ?_⟩
  rw [hlen] at hn
  obtain ⟨b, o, rfl, hlt, h⟩ := h (by omega)
  rw [if_neg (by omega)]
  refine ⟨b, o + i * n, by rw [Option.map_some, add_at], hlt, fun k x hk t u hu => ?_⟩
  rw [List.getElem?_drop, List.getElem?_take] at hk
  split at hk
  · have := h (i + k) x hk t u hu
    rw [Nat.add_mul] at this
    rw [show o + i * n + k * n + t = o + (i * n + k * n) + t by omega]
    exact this
  · cases hk

section
variable {H : Type} {enc : TypeId × Value → H} {P : Program} {w : World} {base : Nat} {spare : Nat → Bool} {held : Bool}

end
end

end Go.Proofs.YtmniiodpbebnmaaGreat
