/- Numbers as text; policy.Text; policy.Text. -/
import Derived.Test.YtmndhffimlkjgaaDoorJ11
import Derived.Test.YtmndhffimlkjgaaDoorJ04
import Derived.Test.YtmndhffimlkjgaaDoorJ12
import Derived.Test.YtmndhffimlkjgaaDoorRows
import Derived.Lib.AppendIntMem
import Derived.Lib.ItoaLen
import Derived.Lib.SmallJoins
namespace Go.Proofs.YtmndhffimlkjgaaDoor

section
set_option linter.unusedSimpArgs false
set_option linter.unusedVariables false
open Go.RowKit Go.Lib

/-- The table that the library's numbers are told by. -/
def tabName : String := Rows.reportEventsRow.named.headD Rows.reportEventsRow.func
def Tab (w : World) : Prop := Lib.TabIs Tryd.prog w tabName .u64 Lib.pow10Tab
theorem tab_glob : ∃ g, Tryd.prog.globalNamed tabName = some g := Option.isSome_iff_exists.1 (by kernel_rfl)
theorem Tab.below {w w' : World} (h : Tab w) (hb : Below w.heap.size w w') : Tab w' := by
  obtain ⟨g, hg⟩ := tab_glob
  exact Joins.tab_stays hg h hb (Nat.le_refl _)
theorem fmtInt_any (n : Int) (hn : I64 n) (w : World) (ht : Tab w) :
    Calls Tryd.prog 48 #[.int .i64 n, .int .i64 10] w fun e w' => e = .returned (.string ⟨(Lib.itoa n).toArray⟩) ∧ Below w.heap.size w w' := by
  unfold I64 at hn
  refine (Any.strconv_FormatInt_10 fmtIntL n hn.1 hn.2 w ht).mono ?_
  rintro e w' ⟨rfl, k, os, rfl⟩
  exact ⟨rfl, below_grow _ w (Nat.le_refl _) k os⟩
theorem itoaC_any (n : Int) (hn : I64 n) (w : World) (ht : Tab w) :
    Calls Tryd.prog 13 #[.int .i64 n] w fun e w' => e = .returned (.string ⟨(Lib.itoa n).toArray⟩) ∧ Below w.heap.size w w' := by
  unfold I64 at hn
  refine (Any.strconv_Itoa itoaL n hn.1 hn.2 w ht).mono ?_
  rintro e w' ⟨rfl, k, os, rfl⟩
  exact ⟨rfl, below_grow _ w (Nat.le_refl _) k os⟩
set_option maxRecDepth 100000 in
set_option maxHeartbeats 4000000 in
theorem number_any (n : Int) (hn : I64 n) (w : World) (ht : Tab w) :
    Calls Tryd.prog 28 #[.int .i64 n] w fun e w' => e = .returned (.string ⟨(Lib.itoa n).toArray⟩) ∧ Below w.heap.size w w' := by
  have H := Lib.hid (fmtInt_any n hn w ht)
  clear hn ht
  go_enter Tryd.func28, Tryd.ntmps28
  go_wp2_with (go_at_call 48; refine H.out.mono ?_; rintro e w1 ⟨rfl, hb1⟩)
  go_ret
  exact ⟨rfl, hb1⟩

theorem writeB_any (B b : Nat) (bs : List Value) (c : Int) (w : World) (h : Lib.IsBuilder 74 5 B b bs w) (hlen : bs.length + 1 ≤ 140737488355328) (hBw : B ≤ w.heap.size) :
    Calls Tryd.prog 66 #[.pointer (some ⟨b, 0, none⟩), .int .u8 c] w fun e w' => e = .returned .nilIface ∧ (Lib.BuilderAt 74 5 B b (.pointer (some ⟨b, 0, none⟩)) (bs ++ [.int .u8 c]) w' ∧ Below B w w') :=
  Any.Builder_WriteByte bWriteBL xWriteB B b bs c w h hlen hBw
theorem builder_below {T e : TypeId} {B b : Nat} {bs : List Value} {w w' : World} (h : Lib.IsBuilder T e B b bs w) (hb : Below w.heap.size w w') : Lib.IsBuilder T e B b bs w' := by
  have k : ∀ p, Lib.BuilderAt T e B b p bs w → Lib.BuilderAt T e B b p bs w' := fun p ⟨h1, v, h2, h3, h4⟩ =>
    ⟨h1, v, (hb.block b (Array.getElem?_eq_some_iff.1 h2).1).trans h2, own_below h3 hb, h4⟩
  exact h.elim (fun h => .inl (k _ h)) (fun h => .inr (k _ h))

def polNames : List (List UInt8) := [[109, 105, 110], [109, 97, 120], [116, 97, 114, 103, 101, 116], [116, 111, 108, 101, 114, 97, 110, 99, 101], [119, 105, 110, 100, 111, 119], [104, 111, 108, 100]]
def polNums (p : Pol) : List Int := [p.mn, p.mx, p.tg, p.tol, p.win, p.hold]
def polTo (p : Pol) : Nat → List UInt8
  | 0 => []
  | k + 1 => polTo p k ++ (if k = 0 then [] else [32]) ++ polNames.getD k [] ++ [32] ++ Lib.itoa ((polNums p).getD k 0)
theorem polNums_i64 {p : Pol} (h : p.ok) (k : Nat) : I64 ((polNums p).getD k 0) := by
  obtain ⟨h1, h2, h3, h4, h5, h6⟩ := h
  have z : I64 0 := by unfold I64; omega
  match k with
  | 0 => exact h1
  | 1 => exact h2
  | 2 => exact h3
  | 3 => exact h4
  | 4 => exact h5
  | 5 => exact h6
  | k + 6 => exact z
theorem polNames_len (k : Nat) : (polNames.getD k []).length ≤ 9 := by
  match k with
  | 0 => decide
  | 1 => decide
  | 2 => decide
  | 3 => decide
  | 4 => decide
  | 5 => decide
  | k + 6 => simp [polNames]
theorem itoa_len {n : Int} (h : I64 n) : (Lib.itoa n).length ≤ 21 := Lib.itoa_length_le n h.1 h.2
theorem polTo_len {p : Pol} (h : p.ok) (k : Nat) : (polTo p k).length ≤ 32 * k := by
  induction k with
  | zero => simp [polTo]
  | succ k ih =>
    have h1 := itoa_len (polNums_i64 h k)
    have h2 := polNames_len k
    have h3 : (if k = 0 then ([] : List UInt8) else [32]).length ≤ 1 := by split <;> simp
    simp only [polTo, List.length_append, List.length_singleton]
    omega
def polText (p : Pol) : List UInt8 := polTo p 6

def namesV : Value := .agg #[.string ⟨#[109, 105, 110]⟩, .string ⟨#[109, 97, 120]⟩, .string ⟨#[116, 97, 114, 103, 101, 116]⟩, .string ⟨#[116, 111, 108, 101, 114, 97, 110, 99, 101]⟩, .string ⟨#[119, 105, 110, 100, 111, 119]⟩, .string ⟨#[104, 111, 108, 100]⟩]
set_option maxRecDepth 100000 in
set_option maxHeartbeats 4000000 in
theorem names_any (w : World) : Calls Tryd.prog 67 #[] w fun e w' => e = .returned namesV ∧ Below w.heap.size w w' := by
  go_enter Tryd.func67, Tryd.ntmps67
  go_wp2
  refine bodyPost_ret (v := namesV) (by simp [results, Tryd.results67, go_sem, namesV]) rfl ⟨rfl, ?_⟩
  repeat (first | exact Below.refl _ _ | with_reducible refine balloc ?_ _ | with_reducible refine Below.setCell ?_ (by simp) _)
def numsV (p : Pol) : Value := .agg #[.int .i64 p.mn, .int .i64 p.mx, .int .i64 p.tg, .int .i64 p.tol, .int .i64 p.win, .int .i64 p.hold]
set_option maxRecDepth 100000 in
set_option maxHeartbeats 4000000 in
theorem numbers_any (p : Pol) (w : World) : Calls Tryd.prog 65 #[.agg #[.int .i64 p.mn, .int .i64 p.mx, .int .i64 p.tg, .int .i64 p.tol, .int .i64 p.win, .int .i64 p.hold]] w fun e w' => e = .returned (numsV p) ∧ Below w.heap.size w w' := by
  go_enter Tryd.func65, Tryd.ntmps65
  go_wp2
  refine bodyPost_ret (v := numsV p) (by simp [results, Tryd.results65, go_sem, numsV]) rfl ⟨rfl, ?_⟩
  repeat (first | exact Below.refl _ _ | with_reducible refine balloc ?_ _ | with_reducible refine Below.setCell ?_ (by simp) _)
theorem names_get (k : Nat) (hk : k < 6) : (#[.string ⟨#[109, 105, 110]⟩, .string ⟨#[109, 97, 120]⟩, .string ⟨#[116, 97, 114, 103, 101, 116]⟩, .string ⟨#[116, 111, 108, 101, 114, 97, 110, 99, 101]⟩, .string ⟨#[119, 105, 110, 100, 111, 119]⟩, .string ⟨#[104, 111, 108, 100]⟩] : Array Value)[k]? = some (.string ⟨(polNames.getD k []).toArray⟩) := by
  match k, hk with
  | 0, _ => rfl
  | 1, _ => rfl
  | 2, _ => rfl
  | 3, _ => rfl
  | 4, _ => rfl
  | 5, _ => rfl
theorem nums_get (p : Pol) (k : Nat) (hk : k < 6) : (#[.int .i64 p.mn, .int .i64 p.mx, .int .i64 p.tg, .int .i64 p.tol, .int .i64 p.win, .int .i64 p.hold] : Array Value)[k]? = some (.int .i64 ((polNums p).getD k 0)) := by
  match k, hk with
  | 0, _ => rfl
  | 1, _ => rfl
  | 2, _ => rfl
  | 3, _ => rfl
  | 4, _ => rfl
  | 5, _ => rfl
end

section
set_option linter.unusedSimpArgs false
set_option linter.unusedVariables false
open Go.RowKit Go.Lib

abbrev BldIn (b : Nat) (l : List UInt8) (w : World) : Prop := Lib.IsBuilder 74 5 b b (Lib.byteCells l) w
theorem BldIn.lt {b : Nat} {l : List UInt8} {w : World} (h : BldIn b l w) : b < w.heap.size := h.elim (fun h => h.lt) (fun h => h.lt)
theorem wb_any (b : Nat) (l : List UInt8) (c : UInt8) (w : World) (h : BldIn b l w) (hl : l.length ≤ 10000000) :
    Calls Tryd.prog 66 #[.pointer (some ⟨b, 0, none⟩), .int .u8 (c.toNat : Nat)] w fun e w' => e = .returned .nilIface ∧ BldIn b (l ++ [c]) w' ∧ Below b w w' := by
  refine (writeB_any b b _ (c.toNat : Nat) w h (by rw [Lib.byteCells_length]; omega) (Nat.le_of_lt h.lt)).mono ?_
  rintro e w' ⟨rfl, h1, h2⟩
  rw [show Lib.byteCells l ++ [Value.int .u8 (c.toNat : Nat)] = Lib.byteCells (l ++ [c]) by simp [Lib.byteCells]] at h1
  exact ⟨rfl, .inr h1, h2⟩
theorem ws_any (b : Nat) (l m : List UInt8) (w : World) (h : BldIn b l w) (hl : l.length ≤ 10000000) (hm : m.length ≤ 10000000) :
    Calls Tryd.prog 31 #[.pointer (some ⟨b, 0, none⟩), .string ⟨m.toArray⟩] w fun e w' => e = .returned (.tuple #[.int .i64 (m.length : Nat), .nilIface]) ∧ BldIn b (l ++ m) w' ∧ Below b w w' := by
  have hs : (⟨m.toArray⟩ : ByteArray).size = m.length := by show m.toArray.size = _; simp
  refine (writeS_any b b _ ⟨m.toArray⟩ w h (by rw [Lib.byteCells_length, hs]; omega) (Nat.le_of_lt h.lt)).mono ?_
  rintro e w' ⟨rfl, h1, h2⟩
  rw [Lib.strCells_toArray, show Lib.byteCells l ++ Lib.byteCells m = Lib.byteCells (l ++ m) by simp [Lib.byteCells]] at h1
  exact ⟨by rw [hs], .inr h1, h2⟩
theorem wstr_any (b : Nat) (l : List UInt8) (w : World) (h : BldIn b l w) (h0 : l ≠ []) :
    Calls Tryd.prog 32 #[.pointer (some ⟨b, 0, none⟩)] w fun e w' => e = .returned (.string ⟨l.toArray⟩) ∧ Below b w w' := string_any b b l w h h0
theorem polTo_succ (p : Pol) (k : Nat) : polTo p (k + 1) = polTo p k ++ (if k = 0 then [] else [32]) ++ polNames.getD k [] ++ [32] ++ Lib.itoa ((polNums p).getD k 0) := rfl

set_option maxRecDepth 100000 in
set_option maxHeartbeats 4000000 in
theorem polText_any (p : Pol) (hp : p.ok) (w : World) (ht : Tab w) :
    Calls Tryd.prog 47 #[.agg #[.int .i64 p.mn, .int .i64 p.mx, .int .i64 p.tg, .int .i64 p.tol, .int .i64 p.win, .int .i64 p.hold]] w fun e w' => e = .returned (.string ⟨(polText p).toArray⟩) ∧ Below w.heap.size w w' := by
  have HP := Lib.hid hp
  have HT := Lib.hid ht
  have hnum : ∀ (k : Nat), k < 6 → ∀ W, (Instr.index 108 (numsV p) (.int .i64 (k : Nat))).run Tryd.prog W = .ok (.int .i64 ((polNums p).getD k 0)) W := fun k hk W => idxn k _ _ W (nums_get p k hk) hk
  have hnam : ∀ (k : Nat), k < 6 → ∀ W, (Instr.index 111 namesV (.int .i64 (k : Nat))).run Tryd.prog W = .ok (.string ⟨(polNames.getD k []).toArray⟩) W := fun k hk W => idx6 k _ _ W (names_get k hk) hk
  unfold numsV at hnum
  unfold namesV at hnam
  have HNUM := Lib.hid hnum
  have HNAM := Lib.hid hnam
  clear hp ht hnum hnam
  go_enter Tryd.func47, Tryd.ntmps47
  go_wp2_with (go_at_call 65
               refine calls_named ?_
               intro W1 hW1
               have hb1 : Below w.heap.size w W1 := by rw [hW1]; exact balloc (balloc (Below.refl _ _) _) _
               have hB : BldIn (w.heap.size + 1) [] W1 := by
                 rw [hW1]
                 have := Lib.fresh_isBuilder 74 5 (w.alloc (.cells #[.int .i64 p.mn, .int .i64 p.mx, .int .i64 p.tg, .int .i64 p.tol, .int .i64 p.win, .int .i64 p.hold] 28))
                 rw [World.size_alloc] at this
                 exact this
               clear hW1
               refine (numbers_any p W1).mono ?_
               unfold numsV
               rintro e w2 ⟨rfl, hb2⟩
               have HB2 := Lib.hid (bthen hb1 hb2)
               have HBL := Lib.hid (builder_below hB hb2)
               clear hb1 hB hb2)
  go_loopg [8] 6 (fun g s8 wr => ∃ k : Nat, k ≤ 6 ∧ 6 - k ≤ g ∧ s8 = .int .i64 k ∧ BldIn (w.heap.size + 1) (polTo p k) wr ∧ Below w.heap.size w wr)
  case atStart => exact ⟨0, by decide, Nat.le_refl _, rfl, HBL.out, HB2.out⟩
  case round =>
    obtain ⟨k, hk, hg, rfl, hbl, hb⟩ := hrel
    by_cases hlt : k < 6
    · have hix := HNUM.out k hlt
      have hnx := HNAM.out k hlt
      have hni := polNums_i64 HP.out k
      have HSU := Lib.hid (polTo_succ p k)
      have hl0 := polTo_len HP.out k
      have hl1 := polNames_len k
      have hl2 := itoa_len hni
      generalize polTo p k = l at hbl HSU hl0
      generalize polNames.getD k [] = nm at hnx HSU hl1
      generalize (polNums p).getD k 0 = n at hix HSU hni hl2
      have HNI := Lib.hid hni
      have HL := Lib.hid (show l.length ≤ 1000 ∧ nm.length ≤ 9 ∧ (Lib.itoa n).length ≤ 21 from ⟨by omega, hl1, hl2⟩)
      have HH := Lib.hid hb
      have H0 := Lib.hid hbl
      clear hni hl0 hl1 hl2 hb hbl
      obtain ⟨m, hm⟩ : ∃ m, m = l ++ (if k = 0 then [] else [32]) := ⟨_, rfl⟩
      have HM := Lib.hid hm
      have HML := Lib.hid (show m.length ≤ 1001 by have := HL.out.1; rw [hm]; split <;> simp <;> omega)
      clear hm
      by_cases hk0 : k = 0
      · have hpos : ¬ (0 : Int) < (k : Int) := by omega
        have HA := Lib.hid (show BldIn (w.heap.size + 1) m wr by have := H0.out; rw [HM.out, if_pos hk0, List.append_nil]; exact this)
        clear hk0 H0
        go_wp2_with (first
          | (go_at_call 66
             have h9 := HC.out
             refine (wb_any _ _ 32 _ h9 (by have := HML.out; have := HL.out; simp; omega)).mono ?_
             rintro e wd ⟨rfl, h1, hb⟩
             have HD := Lib.hid h1
             have HHD := Lib.hid (HHC.out.trans (hb.mono (by omega)))
             clear h9 h1 hb)
          | (go_at_call 67
             refine (names_any wr).mono ?_
             unfold namesV
             rintro e wb ⟨rfl, hb⟩
             have HBB := Lib.hid (builder_below HA.out hb)
             have HHB := Lib.hid (bthen HH.out hb)
             clear hb)
          | (go_at_call 31
             have h9 := HE.out
             refine (ws_any _ _ _ _ h9 (by have := HML.out; have := HL.out; simp; omega) (by have := HL.out; omega)).mono ?_
             rintro e wf ⟨rfl, h1, hb⟩
             have HF := Lib.hid h1
             have HHF := Lib.hid (HHE.out.trans (hb.mono (by omega)))
             clear h9 h1 hb)
          | (go_at_call 31
             have h9 := HBB.out
             refine (ws_any _ _ _ _ h9 (by have := HML.out; omega) (by have := HL.out; omega)).mono ?_
             rintro e wc ⟨rfl, h1, hb⟩
             have HC := Lib.hid h1
             have HHC := Lib.hid (HHB.out.trans (hb.mono (by omega)))
             clear h9 h1 hb)
          | (go_at_call 48
             refine (fmtInt_any n HNI.out wd (HT.out.below HHD.out)).mono ?_
             rintro e we ⟨rfl, hb⟩
             have HE := Lib.hid (builder_below HD.out hb)
             have HHE := Lib.hid (bthen HHD.out hb)
             clear hb))
        go_roundg (6 - (k + 1))
        case measure => omega
        case rel => exact ⟨k + 1, hlt, Nat.le_refl _, by go_num, by have := HF.out; rw [HSU.out, ← HM.out]; exact this, HHF.out⟩
      · have hpos : (0 : Int) < (k : Int) := by omega
        have HZ := Lib.hid hk0
        clear hk0
        go_wp2_with (first
          | (go_at_call 66
             have h9 := HC.out
             refine (wb_any _ _ 32 _ h9 (by have := HML.out; have := HL.out; simp; omega)).mono ?_
             rintro e wd ⟨rfl, h1, hb⟩
             have HD := Lib.hid h1
             have HHD := Lib.hid (HHC.out.trans (hb.mono (by omega)))
             clear h9 h1 hb)
          | (go_at_call 66
             have h9 := H0.out
             refine (wb_any _ _ 32 _ h9 (by have := HL.out; omega)).mono ?_
             rintro e wa ⟨rfl, h1, hb⟩
             have HA := Lib.hid (show BldIn (w.heap.size + 1) m wa by rw [HM.out, if_neg HZ.out]; exact h1)
             have HHA := Lib.hid (HH.out.trans (hb.mono (by omega)))
             clear h9 h1 hb)
          | (go_at_call 67
             refine (names_any wa).mono ?_
             unfold namesV
             rintro e wb ⟨rfl, hb⟩
             have HBB := Lib.hid (builder_below HA.out hb)
             have HHB := Lib.hid (bthen HHA.out hb)
             clear hb)
          | (go_at_call 31
             have h9 := HE.out
             refine (ws_any _ _ _ _ h9 (by have := HML.out; have := HL.out; simp; omega) (by have := HL.out; omega)).mono ?_
             rintro e wf ⟨rfl, h1, hb⟩
             have HF := Lib.hid h1
             have HHF := Lib.hid (HHE.out.trans (hb.mono (by omega)))
             clear h9 h1 hb)
          | (go_at_call 31
             have h9 := HBB.out
             refine (ws_any _ _ _ _ h9 (by have := HML.out; omega) (by have := HL.out; omega)).mono ?_
             rintro e wc ⟨rfl, h1, hb⟩
             have HC := Lib.hid h1
             have HHC := Lib.hid (HHB.out.trans (hb.mono (by omega)))
             clear h9 h1 hb)
          | (go_at_call 48
             refine (fmtInt_any n HNI.out wd (HT.out.below HHD.out)).mono ?_
             rintro e we ⟨rfl, hb⟩
             have HE := Lib.hid (builder_below HD.out hb)
             have HHE := Lib.hid (bthen HHD.out hb)
             clear hb))
        go_roundg (6 - (k + 1))
        case measure => omega
        case rel => exact ⟨k + 1, hlt, Nat.le_refl _, by go_num, by have := HF.out; rw [HSU.out, ← HM.out]; exact this, HHF.out⟩
    · obtain rfl : k = 6 := by omega
      have hne : polTo p 6 ≠ [] := by rw [polTo_succ]; simp
      have HBL := Lib.hid hbl
      have HB := Lib.hid hb
      have HNE := Lib.hid hne
      clear hbl hb hne
      go_wp2_with (go_at_call 32
                   refine (wstr_any _ _ _ HBL.out HNE.out).mono ?_
                   rintro e w9 ⟨rfl, hb⟩
                   have HB9 := Lib.hid (HB.out.trans (hb.mono (by omega)))
                   clear hb)
      go_ret
      exact ⟨rfl, HB9.out⟩
end

end Go.Proofs.YtmndhffimlkjgaaDoor
