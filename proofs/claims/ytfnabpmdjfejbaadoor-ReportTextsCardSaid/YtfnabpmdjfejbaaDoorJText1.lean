/- Numbers as text; policy.Text. -/
import Derived.Test.YtfnabpmdjfejbaaDoorJBare2
import Derived.Test.YtfnabpmdjfejbaaDoorNamed
import Derived.Test.YtfnabpmdjfejbaaDoorJShelf2
import Derived.Test.YtfnabpmdjfejbaaDoorRows
import Derived.Lib.AppendIntMem
import Derived.Lib.ItoaLen
import Derived.Lib.SmallJoins
namespace Go.Proofs.YtfnabpmdjfejbaaDoor
set_option linter.unusedSimpArgs false
set_option linter.unusedVariables false
open Go.RowKit Go.Lib

/-- The table that the library's numbers are told by. -/
def tabName : String := Rows.journalPutsRow.named.headD Rows.journalPutsRow.func
def Tab (w : World) : Prop := Lib.TabIs Tryd.prog w tabName .u64 Lib.pow10Tab
theorem tab_glob : ∃ g, Tryd.prog.globalNamed tabName = some g := Option.isSome_iff_exists.1 (by kernel_rfl)
theorem Tab.below {w w' : World} (h : Tab w) (hb : Below w.heap.size w w') : Tab w' := by
  obtain ⟨g, hg⟩ := tab_glob
  exact Joins.tab_stays hg h hb (Nat.le_refl _)
theorem fmtInt_any (n : Int) (hn : I64 n) (w : World) (ht : Tab w) :
    Calls Tryd.prog 71 #[.int .i64 n, .int .i64 10] w fun e w' => e = .returned (.string ⟨(Lib.itoa n).toArray⟩) ∧ Below w.heap.size w w' := by
  unfold I64 at hn
  refine (Any.strconv_FormatInt_10 fmtIntL n hn.1 hn.2 w ht).mono ?_
  rintro e w' ⟨rfl, k, os, rfl⟩
  exact ⟨rfl, below_grow _ w (Nat.le_refl _) k os⟩
theorem itoaC_any (n : Int) (hn : I64 n) (w : World) (ht : Tab w) :
    Calls Tryd.prog 43 #[.int .i64 n] w fun e w' => e = .returned (.string ⟨(Lib.itoa n).toArray⟩) ∧ Below w.heap.size w w' := by
  unfold I64 at hn
  refine (Any.strconv_Itoa itoaL n hn.1 hn.2 w ht).mono ?_
  rintro e w' ⟨rfl, k, os, rfl⟩
  exact ⟨rfl, below_grow _ w (Nat.le_refl _) k os⟩
set_option maxRecDepth 100000 in
set_option maxHeartbeats 4000000 in
theorem number_any (n : Int) (hn : I64 n) (w : World) (ht : Tab w) :
    Calls Tryd.prog 51 #[.int .i64 n] w fun e w' => e = .returned (.string ⟨(Lib.itoa n).toArray⟩) ∧ Below w.heap.size w w' := by
  have H := Lib.hid (fmtInt_any n hn w ht)
  clear hn ht
  go_enter Tryd.func51, Tryd.ntmps51
  go_wp2_with (go_at_call 71; refine H.out.mono ?_; rintro e w1 ⟨rfl, hb1⟩)
  go_ret
  exact ⟨rfl, hb1⟩

theorem writeB_any (B b : Nat) (bs : List Value) (c : Int) (w : World) (h : Lib.IsBuilder 96 5 B b bs w) (hlen : bs.length + 1 ≤ 140737488355328) (hBw : B ≤ w.heap.size) :
    Calls Tryd.prog 45 #[.pointer (some ⟨b, 0, none⟩), .int .u8 c] w fun e w' => e = .returned .nilIface ∧ (Lib.BuilderAt 96 5 B b (.pointer (some ⟨b, 0, none⟩)) (bs ++ [.int .u8 c]) w' ∧ Below B w w') :=
  Any.Builder_WriteByte bWriteBL xWriteB B b bs c w h hlen hBw
theorem builder_below {T e : TypeId} {B b : Nat} {bs : List Value} {w w' : World} (h : Lib.IsBuilder T e B b bs w) (hb : Below w.heap.size w w') : Lib.IsBuilder T e B b bs w' := by
  have k : ∀ p, Lib.BuilderAt T e B b p bs w → Lib.BuilderAt T e B b p bs w' := fun p ⟨h1, v, h2, h3, h4⟩ =>
    ⟨h1, v, (hb.block b (Array.getElem?_eq_some_iff.1 h2).1).trans h2, own_below h3 hb, h4⟩
  exact h.elim (fun h => .inl (k _ h)) (fun h => .inr (k _ h))

def polNames : List (List UInt8) := [[109, 105, 110], [109, 97, 120], [116, 97, 114, 103, 101, 116], [116, 111, 108, 101, 114, 97, 110, 99, 101], [119, 105, 110, 100, 111, 119], [104, 111, 108, 100]]
def polNums (p : Pol) : List Int := [p.mn, p.mx, p.tg, p.tol, p.win, p.hold]
def polTo (p : Pol) : Nat → List UInt8
  | 0 => []
  | k + 1 => polTo p k ++ (if k = 0 then [] else [32]) ++ polNames.getD k [] ++ [32] ++ Lib.itoa ((polNums p).getD k 0)
theorem polNums_i64 {p : Pol} (h : p.ok) (k : Nat) : I64 ((polNums p).getD k 0) := by
  obtain ⟨h1, h2, h3, h4, h5, h6⟩ := h
  have z : I64 0 := by unfold I64; omega
  match k with
  | 0 => exact h1
  | 1 => exact h2
  | 2 => exact h3
  | 3 => exact h4
  | 4 => exact h5
  | 5 => exact h6
  | k + 6 => exact z
theorem polNames_len (k : Nat) : (polNames.getD k []).length ≤ 9 := by
  match k with
  | 0 => decide
  | 1 => decide
  | 2 => decide
  | 3 => decide
  | 4 => decide
  | 5 => decide
  | k + 6 => simp [polNames]
theorem itoa_len {n : Int} (h : I64 n) : (Lib.itoa n).length ≤ 21 := Lib.itoa_length_le n h.1 h.2
theorem polTo_len {p : Pol} (h : p.ok) (k : Nat) : (polTo p k).length ≤ 32 * k := by
  induction k with
  | zero => simp [polTo]
  | succ k ih =>
    have h1 := itoa_len (polNums_i64 h k)
    have h2 := polNames_len k
    have h3 : (if k = 0 then ([] : List UInt8) else [32]).length ≤ 1 := by split <;> simp
    simp only [polTo, List.length_append, List.length_singleton]
    omega
def polText (p : Pol) : List UInt8 := polTo p 6

def namesV : Value := .agg #[.string ⟨#[109, 105, 110]⟩, .string ⟨#[109, 97, 120]⟩, .string ⟨#[116, 97, 114, 103, 101, 116]⟩, .string ⟨#[116, 111, 108, 101, 114, 97, 110, 99, 101]⟩, .string ⟨#[119, 105, 110, 100, 111, 119]⟩, .string ⟨#[104, 111, 108, 100]⟩]
set_option maxRecDepth 100000 in
set_option maxHeartbeats 4000000 in
theorem names_any (w : World) : Calls Tryd.prog 73 #[] w fun e w' => e = .returned namesV ∧ Below w.heap.size w w' := by
  go_enter Tryd.func73, Tryd.ntmps73
  go_wp2
  refine bodyPost_ret (v := namesV) (by simp [results, Tryd.results73, go_sem, namesV]) rfl ⟨rfl, ?_⟩
  repeat (first | exact Below.refl _ _ | with_reducible refine balloc ?_ _ | with_reducible refine Below.setCell ?_ (by simp) _)
def numsV (p : Pol) : Value := .agg #[.int .i64 p.mn, .int .i64 p.mx, .int .i64 p.tg, .int .i64 p.tol, .int .i64 p.win, .int .i64 p.hold]
set_option maxRecDepth 100000 in
set_option maxHeartbeats 4000000 in
theorem numbers_any (p : Pol) (w : World) : Calls Tryd.prog 72 #[.agg #[.int .i64 p.mn, .int .i64 p.mx, .int .i64 p.tg, .int .i64 p.tol, .int .i64 p.win, .int .i64 p.hold]] w fun e w' => e = .returned (numsV p) ∧ Below w.heap.size w w' := by
  go_enter Tryd.func72, Tryd.ntmps72
  go_wp2
  refine bodyPost_ret (v := numsV p) (by simp [results, Tryd.results72, go_sem, numsV]) rfl ⟨rfl, ?_⟩
  repeat (first | exact Below.refl _ _ | with_reducible refine balloc ?_ _ | with_reducible refine Below.setCell ?_ (by simp) _)
theorem names_get (k : Nat) (hk : k < 6) : (#[.string ⟨#[109, 105, 110]⟩, .string ⟨#[109, 97, 120]⟩, .string ⟨#[116, 97, 114, 103, 101, 116]⟩, .string ⟨#[116, 111, 108, 101, 114, 97, 110, 99, 101]⟩, .string ⟨#[119, 105, 110, 100, 111, 119]⟩, .string ⟨#[104, 111, 108, 100]⟩] : Array Value)[k]? = some (.string ⟨(polNames.getD k []).toArray⟩) := by
  match k, hk with
  | 0, _ => rfl
  | 1, _ => rfl
  | 2, _ => rfl
  | 3, _ => rfl
  | 4, _ => rfl
  | 5, _ => rfl
theorem nums_get (p : Pol) (k : Nat) (hk : k < 6) : (#[.int .i64 p.mn, .int .i64 p.mx, .int .i64 p.tg, .int .i64 p.tol, .int .i64 p.win, .int .i64 p.hold] : Array Value)[k]? = some (.int .i64 ((polNums p).getD k 0)) := by
  match k, hk with
  | 0, _ => rfl
  | 1, _ => rfl
  | 2, _ => rfl
  | 3, _ => rfl
  | 4, _ => rfl
  | 5, _ => rfl
end Go.Proofs.YtfnabpmdjfejbaaDoor
