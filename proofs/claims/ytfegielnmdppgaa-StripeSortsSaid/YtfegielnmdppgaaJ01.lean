/- Small lemmas on worlds and words that the walks of this seat share. -/
import Derived.Test.YtfegielnmdppgaaRows
import Derived.WalkKit
import Derived.WalkSpells
import Derived.WalkLawsBesides
import Derived.Lib.OthersKept
import Derived.Lib.Hide
import Derived.StillTailTactics
import Derived.Deep.QuietTactic
import Derived.BigQuiet
import Derived.Deep.RegionWith
import Derived.Deep.RegionHeld3
namespace Go.Proofs.Ytfegielnmdppgaa

section
set_option linter.unusedSimpArgs false
set_option linter.unusedVariables false
open Go.RowKit Go.Lib

@[go_sem] theorem setCell_drewN (w : World) (n : Nat) (a : Addr) (v : Value) : (w.drewN n).setCell a v = (w.setCell a v).drewN n := rfl

theorem bcell {W w1 : World} (hb : Below W.heap.size W w1) : (∀ b o, b < W.heap.size → w1.cell? ⟨b, o, none⟩ = W.cell? ⟨b, o, none⟩) ∧ (∀ b o, b < W.heap.size → w1.frozen? ⟨b, o, none⟩ = W.frozen? ⟨b, o, none⟩) :=
  ⟨fun b o h => hb.cell (p := ⟨b, o, none⟩) h, fun b o h => hb.frozen (p := ⟨b, o, none⟩) h⟩

theorem below_drewN {B : Nat} {a w : World} (h : Below B a w) (n : Nat) : Below B a (w.drewN n) := ⟨h.os, h.tape, h.output, h.size, h.block⟩

theorem bthen {w a b : World} (h : Below w.heap.size w a) (k : Below a.heap.size a b) : Below w.heap.size w b := h.trans (k.mono h.size)
theorem balloc {w a : World} (h : Below w.heap.size w a) (o : Obj) : Below w.heap.size w (a.alloc o) := h.alloc h.size o

/-- The cells of one block, and that nothing old has turned: at the block's making; behind a call; behind a new block. -/
theorem startA (w : World) (cs : Array Value) (T : TypeId) :
    (∀ j, (w.alloc (.cells cs T)).cell? ⟨w.heap.size, j, none⟩ = cs[j]?) ∧ Below w.heap.size w (w.alloc (.cells cs T)) ∧ w.heap.size < (w.alloc (.cells cs T)).heap.size :=
  ⟨fun j => by simp [go_sem], balloc (Below.refl _ _) _, by simp⟩
theorem keepA {w a b : World} {g n : Nat} {cs : Array Value} (h : (∀ j, a.cell? ⟨g, j, none⟩ = cs[j]?) ∧ Below w.heap.size w a ∧ g < a.heap.size) (k : Below n a b) (e : n = a.heap.size) :
    (∀ j, b.cell? ⟨g, j, none⟩ = cs[j]?) ∧ Below w.heap.size w b ∧ g < b.heap.size := by
  subst e
  exact ⟨fun j => (k.cell (p := ⟨g, j, none⟩) h.2.2).trans (h.1 j), bthen h.2.1 k, Nat.lt_of_lt_of_le h.2.2 k.size⟩
theorem drewA {w a : World} {g : Nat} {cs : Array Value} (h : (∀ j, a.cell? ⟨g, j, none⟩ = cs[j]?) ∧ Below w.heap.size w a ∧ g < a.heap.size) :
    (∀ j, a.drew.cell? ⟨g, j, none⟩ = cs[j]?) ∧ Below w.heap.size w a.drew ∧ g < a.drew.heap.size := ⟨h.1, h.2.1.drew, h.2.2⟩
theorem allocA {w a : World} {g : Nat} {cs : Array Value} (h : (∀ j, a.cell? ⟨g, j, none⟩ = cs[j]?) ∧ Below w.heap.size w a ∧ g < a.heap.size) (o : Obj) :
    (∀ j, (a.alloc o).cell? ⟨g, j, none⟩ = cs[j]?) ∧ Below w.heap.size w (a.alloc o) ∧ g < (a.alloc o).heap.size :=
  ⟨fun j => (World.cell?_alloc_lt a o ⟨g, j, none⟩ h.2.2).trans (h.1 j), balloc h.2.1 o, by simp; exact Nat.lt_succ_of_lt h.2.2⟩

/-! ### A string's iterator, the last block, behind draws -/

theorem next_ascii_n {P : Program} (w : World) (s : ByteArray) (pos n H : Nat) (ty : TypeId) (hH : w.heap.size = H) (h : pos < s.size) (ha : (s[pos]'h).toNat < 128) :
    (Instr.next (.pointer (some ⟨H, 0, none⟩)) true ty).run P ((w.alloc (.stringIter s pos)).drewN n) = .ok (.tuple #[.bool true, .int .i64 pos, .int .i32 (s[pos]'h).toNat]) ((w.alloc (.stringIter s (pos + 1))).drewN n) := by
  subst hH
  show (Instr.next (.pointer (some ⟨w.heap.size, 0, none⟩)) true ty).run P ((w.iter s pos).drewN n) = .ok (.tuple #[.bool true, .int .i64 pos, .int .i32 (s[pos]'h).toNat]) ((w.iter s (pos + 1)).drewN n)
  rw [run_next_ascii_at _ w.heap.size s pos ty (by simp [World.iter_heap]) h ha]
  have := World.iter_set w s pos (pos + 1)
  simp only [World.iterAt, World.drewN] at this ⊢
  rw [← this]

theorem next_end_n {P : Program} (w : World) (s : ByteArray) (pos n H : Nat) (ty : TypeId) (hH : w.heap.size = H) (h : ¬ pos < s.size) :
    (Instr.next (.pointer (some ⟨H, 0, none⟩)) true ty).run P ((w.alloc (.stringIter s pos)).drewN n) = .ok (.tuple #[.bool false]) ((w.alloc (.stringIter s pos)).drewN n) := by
  subst hH
  show (Instr.next (.pointer (some ⟨w.heap.size, 0, none⟩)) true ty).run P ((w.iter s pos).drewN n) = .ok (.tuple #[.bool false]) ((w.iter s pos).drewN n)
  rw [run_next_end_at _ w.heap.size s pos ty (by simp [World.iter_heap]) h]

theorem iterPos_n (w : World) (s : ByteArray) (pos n H : Nat) (hH : w.heap.size = H) : ((w.alloc (.stringIter s pos)).drewN n).iterPos H = pos := by
  subst hH
  exact World.iterPos_iter w s pos

/-- What the walk may use to see that the world of a memory's fact goes on. -/
@[go_sem] theorem below_alloc_s {w a : World} {o : Obj} (h : Below w.heap.size w a) : Below w.heap.size w (a.alloc o) = True := eq_true (balloc h o)
@[go_sem] theorem below_drewN_s {n : Nat} {w a : World} {k : Nat} (h : Below n w a) : Below n w (a.drewN k) = True := eq_true (below_drewN h k)
@[go_sem] theorem below_drew_s {n : Nat} {w a : World} (h : Below n w a) : Below n w a.drew = True := eq_true h.drew
@[go_sem] theorem below_setCell_s {n : Nat} {w a : World} {p : Addr} {v : Value} (h : Below n w a) (hp : n ≤ p.block) : Below n w (a.setCell p v) = True := eq_true (h.setCell hp v)
@[go_sem] theorem below_refl_s {n : Nat} {w : World} : Below n w w = True := eq_true (Below.refl n w)

/-- The cells of a block of the call's own behind a call. -/
theorem box_cells {W w1 : World} (hb : Below W.heap.size W w1) {B : Nat} {cs : Array Value} {T : TypeId} (hB : W.heap[B]? = some (.cells cs T (0, 0))) : (∀ j, w1.cell? ⟨B, j, none⟩ = cs[j]?) ∧ (∀ j, w1.frozen? ⟨B, j, none⟩ = false) ∧ B < w1.heap.size := by
  have hlt : B < W.heap.size := (Array.getElem?_eq_some_iff.1 hB).1
  have h1 := (hb.block B hlt).trans hB
  exact ⟨fun j => by simp [World.cell?, h1], fun j => by simp [World.frozen?, h1], Nat.lt_of_lt_of_le hlt hb.size⟩
theorem box_old (w : World) (o1 o2 : Obj) : ((w.alloc o1).alloc o2).heap[w.heap.size]? = some o1 := (Below.heap_alloc _ _ _ (by simp)).trans (heap_alloc_new _ _)

theorem box_new (w : World) (o1 o2 : Obj) : ((w.alloc o1).alloc o2).heap[w.heap.size + 1]? = some o2 := by
  have h := heap_alloc_new (w.alloc o1) o2
  rwa [World.size_alloc] at h

/-- A key. -/
def keyV (hi lo : Nat) : Value := .agg #[.int .u64 (hi : Nat), .int .u64 (lo : Nat)]

/-! ### Words of 64 bits -/

theorem u64_wrap (n : Nat) (h : n < 18446744073709551616) : IntKind.u64.wrap (n : Int) = (n : Int) := by
  simp only [IntKind.wrap, IntKind.signed, IntKind.bits]
  simp
  omega

theorem ret_int {k : IntKind} {a b : Int} (h : a = b) : Ending.returned (.int k a) = .returned (.int k b) := by rw [h]

theorem ret_bool {a b : Bool} (h : a = b) : Ending.returned (.bool a) = .returned (.bool b) := by rw [h]

/-! ### Rows of bytes of the call's own -/

theorem one_int (k : IntKind) (n : Int) : ∀ u ∈ [Value.int k n], u.oneCell' = true := by
  intro u hu
  rw [List.mem_singleton.1 hu]
  rfl

def bytesV (l : List UInt8) : List Value := l.map fun b => Value.int .u8 (b.toNat : Nat)
theorem bytesV_one (l : List UInt8) : ∀ u ∈ bytesV l, u.oneCell' = true := by
  intro u hu
  obtain ⟨b, _, rfl⟩ := List.mem_map.1 hu
  rfl
theorem bytesV_len (l : List UInt8) : (bytesV l).length = l.length := by simp [bytesV]
theorem bytesV_snoc (l : List UInt8) (b : UInt8) : bytesV l ++ [Value.int .u8 (b.toNat : Nat)] = bytesV (l ++ [b]) := by simp [bytesV]

/-- The form of an owned slice. -/
theorem own_form {w : World} {base : Nat} {e : TypeId} {size : Nat} {v : Value} {n : Nat} {xs : List Value} (h : w.ownsRow base e size v n xs) : ∃ A c, v = .slice A n c := by
  rcases h.2 with ⟨rfl, rfl⟩ | ⟨g, cap, cur, rfl, _⟩
  · exact ⟨_, _, rfl⟩
  · exact ⟨_, _, rfl⟩

theorem own_below {w w' : World} {base : Nat} {e : TypeId} {size : Nat} {v : Value} {n : Nat} {xs : List Value} (h : w.ownsRow base e size v n xs) (hb : Below w.heap.size w w') : w'.ownsRow base e size v n xs :=
  h.kept (row := none) ⟨hb.os, hb.tape, hb.output, hb.size, fun k hk _ => hb.block k hk⟩ (by cases v.ownBlock <;> simp)

/-- string(b) of an owned row of bytes. -/
theorem run_convert_own {P : Program} {w : World} {base e src dst : Nat} {v : Value} {l : List UInt8} (hs : P.underlying src = some (.slice e)) (he : P.underlying e = some (.int .u8)) (hd : P.underlying dst = some .string)
    (h : w.ownsRow base e 1 v l.length (bytesV l)) : (convert src dst v).run P w = .ok (.string ⟨l.toArray⟩) w := by
  rcases h.2 with ⟨rfl, hn⟩ | ⟨g, cap, cur, rfl, _⟩
  · obtain rfl : l = [] := List.eq_nil_of_length_eq_zero hn
    exact run_convert_bytes_nil w src e hs he 0 0 dst hd
  · have := run_convert_bytes_arg (P := P) w src e hs he g 0 l.length cap (l.map fun b => ((b.toNat : Nat) : Int)) (by simp) (fun i hi => by
      have hx := h.cellAt i (by simpa using hi)
      rw [Nat.zero_add, hx]
      simp [bytesV, List.getElem?_eq_getElem hi, List.getD]) dst hd
    rw [this]
    have e1 : strOfNums (l.map fun b => ((b.toNat : Nat) : Int)) = ⟨l.toArray⟩ := by
      have : (l.map fun b => ((b.toNat : Nat) : Int)).map (fun n => UInt8.ofNat n.toNat) = l := by
        rw [List.map_map]
        exact (List.map_congr_left (fun b _ => by simp)).trans (List.map_id l)
      rw [strOfNums, this]
    rw [e1]
end

end Go.Proofs.Ytfegielnmdppgaa
