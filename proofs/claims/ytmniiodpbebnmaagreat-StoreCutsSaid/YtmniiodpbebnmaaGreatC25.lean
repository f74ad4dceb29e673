/- cut.New: all frozen entries of all parts, sorted; slices.Compact at keys, walked; Contracts of the shelf, laid at this program (by lay-plain.mjs; numbers by name); ident.Rising, walked over the contracts of Clone, SortFunc, Compact; Equal lists, or not: slices.Equal, flywheelref08.Same, flywheelref14.Same; Alike, at nodes and at loads; A cut's Keys, and what of two cuts differs; Two stripes in one memory: what one's Freeze leaves of the other; what Freeze gives; flywheelref19.Keys: the keys of parts, rising; The plain law of CutDiffers; What was frozen, and the reference's items, while the stripe goes on; Frozen nodes, the items that they are, and cuts of them, where nothing turns. -/
import Derived.Test.YtmniiodpbebnmaaGreatC24
import Derived.Test.YtmniiodpbebnmaaGreatC14
import Derived.Test.YtmniiodpbebnmaaGreatC05
import Derived.Test.YtmniiodpbebnmaaGreatC10
import Derived.Test.YtmniiodpbebnmaaGreatC02
import Derived.Deep.LoopGhost
import Derived.Sort.WalkB12
import Derived.Lib.SliceRun
import Derived.Lib.OwnBridge
import Derived.Shelf.GgSortFunc.RowK
import Derived.Shelf.SlicesQ.Reverse
import Derived.Shelf.SlicesE.Clone
import Derived.Test.YtmniiodpbebnmaaGreatC08
import Derived.Test.YtmniiodpbebnmaaGreatC03
import Derived.Lib.SmallJoins
import Derived.Test.YtmniiodpbebnmaaGreatC06
import Derived.Test.YtmniiodpbebnmaaGreatC07
import Derived.Test.YtmniiodpbebnmaaGreatC11
import Derived.Test.YtmniiodpbebnmaaGreatC20
import Derived.Test.YtmniiodpbebnmaaGreatC18
import Derived.Test.YtmniiodpbebnmaaGreatC19
namespace Go.Proofs.YtmniiodpbebnmaaGreat

section
set_option linter.unusedSimpArgs false
set_option linter.unusedVariables false
open Go.RowKit Go.Lib Go.Sort

/-- An entry that may lack a node. -/
abbrev Eo := Ky × Option Nat
def eoC (x : Eo) : List Value := [.int .u64 x.1.1, .int .u64 x.1.2, ptr x.2]
/-- The entries that stay. -/
def keptE (fz : Nat → Bool) : List Eo → List En
  | [] => []
  | (k, none) :: l => keptE fz l
  | (k, some n) :: l => if fz n = true then (k, n) :: keptE fz l else keptE fz l
theorem keptE_append (fz : Nat → Bool) : ∀ a b : List Eo, keptE fz (a ++ b) = keptE fz a ++ keptE fz b
  | [], b => rfl
  | (k, none) :: a, b => by simp [keptE, keptE_append fz a b]
  | (k, some n) :: a, b => by
    simp only [List.cons_append, keptE, keptE_append fz a b]
    split <;> rfl
abbrev PartE := Option Addr × Nat × List Eo
def partC (p : PartE) : List Value := [.slice p.1 p.2.2.length p.2.1]
def PartsIn (w : World) (v : Value) (ps : List PartE) : Prop := RowIn 1 partC w v ps ∧ ∀ p ∈ ps, RowIn 3 eoC w (.slice p.1 p.2.2.length p.2.1) p.2.2
theorem PartsIn.below {w w' : World} {v : Value} {ps : List PartE} (h : PartsIn w v ps) (hb : Below w.heap.size w w') : PartsIn w' v ps := ⟨h.1.below hb, fun p hp => (h.2 p hp).below hb⟩
/-- A node that is frozen, or not. -/
def FzN (w : World) (n : Nat) (b : Bool) : Prop := ∃ y rs rh fp, NodeIn w n y rs rh fp ∧ y.frz = b
theorem FzN.below {w w' : World} {n : Nat} {b : Bool} (h : FzN w n b) (hb : Below w.heap.size w w') : FzN w' n b := by
  obtain ⟨y, rs, rh, fp, h1, h2⟩ := h
  exact ⟨y, rs, rh, fp, h1.below hb, h2⟩
/-- A cut whose blocks are new. -/
def CutAt (B : Nat) (w : World) (C : Nat) (ep : Int) (l : List En) : Prop := B ≤ C ∧ ∃ A c, w.heap[C]? = some (.cells #[.int .i64 ep, .slice A l.length c] 167 (0, 0)) ∧ OwnL enC 246 3 (C + 1) w (.slice A l.length c) l
theorem CutAt.in_ {B : Nat} {w : World} {C : Nat} {ep : Int} {l : List En} (h : CutAt B w C ep l) : CutIn w C ep l := by
  obtain ⟨_, A, c, h1, h2⟩ := h
  exact ⟨A, c, h1, h2.row eEn⟩
theorem CutAt.kept {B : Nat} {w w' : World} {C : Nat} {ep : Int} {l : List En} (h : CutAt B w C ep l) (hk : ∀ r, B ≤ r → r < w.heap.size → w'.heap[r]? = w.heap[r]?) : CutAt B w' C ep l := by
  obtain ⟨hB, A, c, h1, h2⟩ := h
  exact ⟨hB, A, c, (hk C hB (Array.getElem?_eq_some_iff.1 h1).1).trans h1, h2.kept (fun r hr => hk r (by have := (h2.lt hr).1; omega) (h2.lt hr).2)⟩
theorem CutAt.below {B : Nat} {w w' : World} {C : Nat} {ep : Int} {l : List En} (h : CutAt B w C ep l) (hb : Below w.heap.size w w') : CutAt B w' C ep l := h.kept (fun r _ hr => hb.block r hr)
theorem CutAt.lt {B : Nat} {w : World} {C : Nat} {ep : Int} {l : List En} (h : CutAt B w C ep l) : C < w.heap.size := by
  obtain ⟨_, A, c, h1, _⟩ := h
  exact (Array.getElem?_eq_some_iff.1 h1).1
theorem CutAt.lower {B B' : Nat} {w : World} {C : Nat} {ep : Int} {l : List En} (h : CutAt B w C ep l) (hb : B' ≤ B) : CutAt B' w C ep l := ⟨Nat.le_trans hb h.1, h.2⟩
/-- The entries' row is put behind. -/
theorem cut_set {B C : Nat} {w1 w4 : World} {ep : Int} {v : Value} {out : List En} {A4 : Option Addr} {c4 : Nat} (h1 : w4.heap[C]? = some (.cells #[.int .i64 ep, v] 167 (0, 0))) (hown : OwnL enC 246 3 (C + 1) w4 (.slice A4 out.length c4) out) (hB : B ≤ C) :
    CutAt B (w4.setCell ⟨C, 1, none⟩ (.slice A4 out.length c4)) C ep out :=
  ⟨hB, A4, c4, setCell_block h1, hown.kept (fun r hr => Below.heap_setCell _ _ _ _ (fun e => by have e' : r = C := e; have := (hown.lt hr).1; omega))⟩

set_option maxRecDepth 100000 in
set_option maxHeartbeats 16000000 in
theorem cutNew_any (ep : Int) (v : Value) (ps : List PartE) (fz : Nat → Bool) (w : World) (hv : PartsIn w v ps) (hf : ∀ p ∈ ps, ∀ x ∈ p.2.2, ∀ n, x.2 = some n → FzN w n (fz n)) (hl : (ps.flatMap fun p => keptE fz p.2.2).length ≤ 400) (hl2 : ps.length ≤ 1000) (hl3 : ∀ p ∈ ps, p.2.2.length ≤ 1000000) :
    Calls Tryz.prog 94 #[.int .i64 ep, v] w fun e w' => ∃ C, e = .returned (.pointer (some ⟨C, 0, none⟩)) ∧ CutAt w.heap.size w' C ep (sortEn (ps.flatMap fun p => keptE fz p.2.2)) ∧ Below w.heap.size w w' := by
  obtain ⟨A0, c0, rfl⟩ := hv.1.form
  have HV := Lib.hid hv
  have HF := Lib.hid hf
  have HL := Lib.hid hl
  have HL3 := Lib.hid hl3
  have hq : ps.length ≤ 9223372036854775807 := by omega
  clear hv hf hl hl3
  go_enter Tryz.func94, Tryz.ntmps94
  go_wp2_with fail
  go_loopg [15] ps.length (fun g s15 wr => ∃ (i : Nat) (out : List En), i ≤ ps.length ∧ ps.length - i ≤ g ∧ s15 = .int .i64 i ∧ Hid (out = (ps.take i).flatMap fun p => keptE fz p.2.2) ∧ CutAt w.heap.size wr w.heap.size ep out ∧ Below w.heap.size w wr)
  case atStart => exact ⟨0, [], Nat.zero_le _, Nat.le_refl _, rfl, Lib.hid rfl, ⟨Nat.le_refl _, none, 0, heap_alloc_new _ _, OwnL.nil _ _⟩, balloc (Below.refl _ _) _⟩
  case round =>
    obtain ⟨i, out, hi, hg, rfl, HO, hcut, hbw⟩ := hrel
    rename World => wr
    have HCU := Lib.hid hcut
    have HBW := Lib.hid hbw
    clear hcut hbw
    by_cases hlt : i < ps.length
    · obtain ⟨b0, o0, rfl, hb0, hc0⟩ := (HV.out.1.below HBW.out).at_ hlt
      have z1 : (0 : Int) ≤ (i : Int) := by omega
      have z2 : (i : Int) < (ps.length : Int) := by omega
      have hmem := List.getElem_mem hlt
      have HR := Lib.hid (HV.out.2 _ hmem)
      have HFP := Lib.hid (HF.out _ hmem)
      have hl3 := HL3.out _ hmem
      have HNX := Lib.hid (show ((ps.take (i + 1)).flatMap fun p => keptE fz p.2.2) = out ++ keptE fz ps[i].2.2 by
        rw [List.take_succ_eq_append_getElem hlt, List.flatMap_append, HO.out]; simp)
      have HPL := Lib.hid (show (out ++ keptE fz ps[i].2.2).length ≤ 400 by
        rw [← HNX.out]
        refine Nat.le_trans ?_ HL.out
        have e : (ps.flatMap fun p => keptE fz p.2.2) = ((ps.take (i + 1)).flatMap fun p => keptE fz p.2.2) ++ ((ps.drop (i + 1)).flatMap fun p => keptE fz p.2.2) := by rw [← List.flatMap_append, List.take_append_drop]
        rw [e, List.length_append]; omega)
      have d0 := hc0 0 _ rfl
      rw [Nat.mul_one, Nat.add_zero] at d0
      clear hc0 hmem
      generalize ps[i] = p at HR HFP hl3 HNX HPL d0
      obtain ⟨Ap, cp, l⟩ := p
      simp only at HR HFP hl3 HNX HPL d0
      have hq3 : l.length ≤ 9223372036854775807 := by omega
      go_wp2_with fail
      go_loopg [21] l.length (fun g s21 wx => ∃ (j : Nat) (o2 : List En), j ≤ l.length ∧ l.length - j ≤ g ∧ s21 = .int .i64 j ∧ Hid (o2 = out ++ keptE fz (l.take j)) ∧ CutAt w.heap.size wx w.heap.size ep o2 ∧ Below w.heap.size w wx)
      case atStart => exact ⟨0, out, Nat.zero_le _, Nat.le_refl _, rfl, Lib.hid (by simp [keptE]), HCU.out, HBW.out⟩
      case round =>
        obtain ⟨j, o2, hj, hgj, rfl, HO2, hcut, hbx⟩ := hrel
        rename World => wx
        have HCX := Lib.hid hcut
        have HBX := Lib.hid hbx
        clear hcut hbx
        by_cases hjl : j < l.length
        · obtain ⟨b1, o1, rfl, hb1, hc1⟩ := (HR.out.below HBX.out).at_ hjl
          have y1 : (0 : Int) ≤ (j : Int) := by omega
          have y2 : (j : Int) < (l.length : Int) := by omega
          have HN := Lib.hid (fun n (h : l[j].2 = some n) => (HFP.out _ (List.getElem_mem hjl) n h).below HBX.out)
          have HTK := Lib.hid (show keptE fz (l.take (j + 1)) = keptE fz (l.take j) ++ keptE fz [l[j]] by rw [List.take_succ_eq_append_getElem hjl, keptE_append])
          have HLJ := Lib.hid (show o2.length + (keptE fz [l[j]]).length ≤ 400 by
            refine Nat.le_trans ?_ HPL.out
            have e : keptE fz l = keptE fz (l.take (j + 1)) ++ keptE fz (l.drop (j + 1)) := by rw [← keptE_append, List.take_append_drop]
            rw [HO2.out, e, HTK.out]; simp only [List.length_append]; omega)
          have f0 := hc1 0 _ rfl
          have f1 := hc1 1 _ rfl
          have f2 := hc1 2 _ rfl
          rw [Nat.add_zero] at f0
          clear hc1
          generalize l[j] = x at HN HTK HLJ f0 f1 f2
          obtain ⟨k, n⟩ := x
          simp only at HN HTK HLJ f0 f1 f2
          cases n with
          | none =>
            simp only [ptr, Option.map_none] at f2
            go_wp2_with fail
            go_roundg (l.length - (j + 1))
            case measure => omega
            case rel => exact ⟨j + 1, o2, hjl, Nat.le_refl _, by go_num, Lib.hid (by rw [HTK.out, HO2.out]; simp [keptE]), HCX.out.below (balloc (Below.refl _ _) _), bthen HBX.out (balloc (Below.refl _ _) _)⟩
          | some n =>
            simp only [ptr, Option.map_some] at f2
            obtain ⟨y, rs, rh, fp, hn, hz⟩ := HN.out n rfl
            have HNF := Lib.hid (show ∀ W, Below wx.heap.size wx W → Calls Tryz.prog 162 #[.pointer (some ⟨n, 0, none⟩)] W fun e w' => e = .returned (.bool (fz n)) ∧ Below W.heap.size W w' from fun W hW => by rw [← hz]; exact nodeFrozen_any n y rs rh fp W (hn.below hW))
            clear hn hz
            cases hfz : fz n with
            | false =>
              rw [hfz] at HNF
              have HFZ := Lib.hid hfz
              clear hfz
              as_aux_lemma =>
                go_wp2_with (first
                  | (go_at_call 162
                     refine calls_named ?_
                     intro W3 hW3
                     have hb3 : Below wx.heap.size wx W3 := by rw [hW3]; exact balloc (Below.refl _ _) _
                     clear hW3
                     refine (HNF.out W3 hb3).mono ?_
                     rintro e w4 ⟨rfl, hb4⟩
                     have HB4 := Lib.hid (bthen hb3 hb4)
                     clear hb3 hb4))
                go_roundg (l.length - (j + 1))
                case measure => omega
                case rel => exact ⟨j + 1, o2, hjl, Nat.le_refl _, by go_num, Lib.hid (by rw [HTK.out, HO2.out]; simp [keptE, HFZ.out]), HCX.out.below HB4.out, bthen HBX.out HB4.out⟩
            | true =>
              rw [hfz] at HNF
              have HTK2 := Lib.hid (show keptE fz (l.take (j + 1)) = keptE fz (l.take j) ++ [(k, n)] by rw [HTK.out]; simp [keptE, hfz])
              have HLJ2 := Lib.hid (show o2.length + 1 ≤ 400 by have := HLJ.out; simpa [keptE, hfz] using this)
              clear hfz HTK HLJ HN
              as_aux_lemma =>
                go_upto_region 9 with (first
                  | (go_at_call 162
                     refine calls_named ?_
                     intro W3 hW3
                     have hb3 : Below wx.heap.size wx W3 := by rw [hW3]; exact balloc (Below.refl _ _) _
                     have hx3 : W3.heap[wx.heap.size]? = some (.cells #[.int .u64 k.1, .int .u64 k.2, .pointer (some ⟨n, 0, none⟩)] 246 (0, 0)) := by rw [hW3]; exact heap_alloc_new _ _
                     clear hW3
                     refine (HNF.out W3 hb3).mono ?_
                     rintro e w4 ⟨rfl, hb4⟩
                     have HX4 := Lib.hid ((hb4.block _ (Array.getElem?_eq_some_iff.1 hx3).1).trans hx3)
                     have HB4 := Lib.hid (bthen hb3 hb4)
                     clear hb3 hx3 hb4))
                refine name_world ?_
                intro W5 hW5
                have hb5 : Below wx.heap.size wx W5 := by rw [hW5]; exact HB4.out
                have hx5 : W5.heap[wx.heap.size]? = some (.cells #[.int .u64 k.1, .int .u64 k.2, .pointer (some ⟨n, 0, none⟩)] 246 (0, 0)) := by rw [hW5]; exact HX4.out
                have hbw5 : Below w.heap.size w W5 := bthen HBX.out hb5
                obtain ⟨hBC, A5, c5, hC5, hO5⟩ := HCX.out.below hb5
                obtain ⟨a1, a2, a3⟩ := box_cells (Below.refl _ _) hx5
                obtain ⟨a4, a5, a6⟩ := box_cells (Below.refl _ _) hC5
                have HC5 := Lib.hid hC5
                have HO5 := Lib.hid hO5
                have HBW5 := Lib.hid hbw5
                clear hW5 hb5 hx5 hC5 hO5 hbw5 f0 f1 f2 hBC
                go_region_law ((
                  refine step_appendL eEn (by rfl) (.tmp 37) (.tmp 39) (by rfl) (w.heap.size + 1) o2 [(k, n)] _ _ (by rfl) (by rfl) (HO5.out.below (by repeat (first | exact Below.refl _ _ | refine balloc ?_ _ | refine Below.drew ?_ | refine below_drewN ?_ _))) (RowIn.lit _ (k, n) _ _ _ (by first | rfl | simp) rfl) (by have := HLJ2.out; simp; omega) (by simp; omega) ?_
                  intro out4 A4 cc4 w4' hout hown4 hg4 hblk4
                  have hbz : ∀ W, Below W5.heap.size W5 W → W.heap[w.heap.size]? = some (.cells #[.int .i64 ep, .slice A5 o2.length c5] 167 (0, 0)) := fun W h => (h.block _ a6).trans HC5.out
                  have hS4 := (hg4.block w.heap.size (by simp; omega) (fun e => by have := (HO5.out.lt e.symm).1; omega)).trans (hbz _ (by repeat (first | exact Below.refl _ _ | refine balloc ?_ _ | refine Below.drew ?_ | refine below_drewN ?_ _)))
                  obtain ⟨e1, e2, e3⟩ := box_cells (Below.refl _ _) hS4
                  have HCS := Lib.hid (cut_set (B := w.heap.size) (w1 := W5) hS4 hown4 (Nat.le_refl _))
                  have HOUT := Lib.hid hout
                  have HB6 := Lib.hid (show Below w.heap.size w (w4'.setCell ⟨w.heap.size, 1, none⟩ (.slice A4 out4.length cc4)) from
                    Below.setCell (p := ⟨w.heap.size, 1, none⟩) (HBW5.out.trans ((show Below W5.heap.size W5 _ by repeat (first | exact Below.refl _ _ | refine balloc ?_ _ | refine Below.drew ?_ | refine below_drewN ?_ _)).mono HBW5.out.size |>.trans ((grown_own hg4 HO5.out (by simp; omega)).mono (by omega)))) (Nat.le_refl _) _)
                  clear hbz hS4 hout hown4 hg4 hblk4))
                all_goals
                  go_wp2_with fail
                  go_roundg (l.length - (j + 1))
                  case measure => omega
                  case rel => exact ⟨j + 1, out4, hjl, Nat.le_refl _, by go_num, Lib.hid (by rw [HTK2.out, HOUT.out, HO2.out, List.append_assoc]), HCS.out.below (by repeat (first | exact Below.refl _ _ | refine balloc ?_ _ | refine Below.drew ?_ | refine below_drewN ?_ _)), bthen HB6.out (by repeat (first | exact Below.refl _ _ | refine balloc ?_ _ | refine Below.drew ?_ | refine below_drewN ?_ _))⟩
        · obtain rfl : j = l.length := by omega
          go_wp2_with fail
          go_roundg (ps.length - (i + 1))
          case measure => omega
          case rel => exact ⟨i + 1, o2, hlt, Nat.le_refl _, by go_num, Lib.hid (by rw [HNX.out, HO2.out, List.take_length]), HCX.out, HBX.out⟩
    · obtain rfl : i = ps.length := by omega
      have ho := HO.out
      rw [List.take_length] at ho
      obtain ⟨hBC, A5, c5, hC5, hO5⟩ := HCU.out
      have hol : out.length ≤ 400 := by rw [ho]; exact HL.out
      have CS := Lib.hid (sortE_any _ out wr (hO5.row eEn) (Nat.le_trans hol (by decide)))
      have HOUT := Lib.hid ho
      have HC5 := Lib.hid hC5
      obtain ⟨a4, a5, a6⟩ := box_cells (Below.refl _ _) hC5
      clear ho hBC hC5 hO5 hol
      go_wp2_with (first
        | (go_at_call 163
           refine CS.out.mono ?_
           rintro e w2 ⟨A2, c2, rfl, hown, hb⟩
           have hC2 := (hb.block _ a6).trans HC5.out
           obtain ⟨e4, e5, e6⟩ := box_cells (Below.refl _ _) hC2
           have HCS := Lib.hid (cut_set (B := w.heap.size) (w1 := w2) hC2 (hown.lower (by omega)) (Nat.le_refl _))
           have HB2 := Lib.hid (Below.setCell (p := ⟨w.heap.size, 1, none⟩) (bthen HBW.out hb) (Nat.le_refl _) _ : Below w.heap.size w (w2.setCell ⟨w.heap.size, 1, none⟩ (.slice A2 (sortEn out).length c2)))
           clear hC2 hown hb))
      go_ret
      rw [← HOUT.out]
      exact ⟨w.heap.size, rfl, HCS.out, HB2.out⟩
end

section
set_option linter.unusedSimpArgs false
set_option linter.unusedVariables false
open Go.RowKit Go.Lib Go.Sort
end

section
set_option linter.unusedSimpArgs false
set_option linter.unusedVariables false
open Go.Shelf
end

section
set_option linter.unusedSimpArgs false
set_option linter.unusedVariables false
open Go.RowKit Go.Lib Go.Sort

/-! ### Cmp as the sort asks for it -/
/-- The same, and the row is the caller's own. -/
def RisW (w : World) (l : List Ky) (e : Ending) (w' : World) : Prop := ∃ v', e = .returned v' ∧ KeysIn w' v' l ∧ Below w.heap.size w w' ∧ w'.ownsRow w.heap.size 74 2 v' l.length (cellsK l)
end

section
set_option linter.unusedSimpArgs false
set_option linter.unusedVariables false
open Go.RowKit Go.Lib Go.Sort

deriving instance DecidableEq for Adv
end

section
set_option linter.unusedSimpArgs false
set_option linter.unusedVariables false
open Go.RowKit Go.Lib Go.Sort

deriving instance DecidableEq for Pol
end

section
set_option linter.unusedSimpArgs false
set_option linter.unusedVariables false
open Go.RowKit Go.Lib Go.Sort

theorem cellsK_row (l : List Ky) : cellsK l = cellsOfRow keyC l := by
  induction l with
  | nil => rfl
  | cons x l ih => simp [cellsK, cellsOfRow, keyC, List.flatMap_cons] at ih ⊢; try exact ih
theorem RisW.own {w w' : World} {l : List Ky} {e : Ending} (h : RisW w l e w') : ∃ A c, e = .returned (.slice A l.length c) ∧ OwnL keyC 74 2 w.heap.size w' (.slice A l.length c) l ∧ Below w.heap.size w w' := by
  obtain ⟨v, rfl, _, hb, ho⟩ := h
  rw [cellsK_row] at ho
  have ho : OwnL keyC 74 2 w.heap.size w' v l := ho
  obtain ⟨A, c, rfl⟩ := ho.form
  exact ⟨A, c, rfl, ho, hb⟩

/-- The nodes of a cut's entries. -/
def NodesOf (w : World) (l : List En) (nd : En → Nd) (rs rh : Nat) : Prop := ∀ x ∈ l, ∃ fp, NodeIn w x.2 (nd x) rs rh fp
theorem NodesOf.below {w w' : World} {l : List En} {nd : En → Nd} {rs rh : Nat} (h : NodesOf w l nd rs rh) (hb : Below w.heap.size w w') : NodesOf w' l nd rs rh := fun x hx => by
  obtain ⟨fp, h⟩ := h x hx
  exact ⟨fp, h.below hb⟩
theorem findE_mem {l : List En} {k : Ky} {n : Nat} (h : findE l k = some n) : (k, n) ∈ l := by
  unfold findE at h
  obtain ⟨x, hx, rfl⟩ := Option.map_eq_some_iff.1 h
  have h1 := List.mem_of_find?_eq_some hx
  have h2 := List.find?_some hx
  simp at h2
  obtain ⟨a, b⟩ := x
  obtain rfl : a = k := h2
  exact h1
end

section
set_option linter.unusedSimpArgs false
set_option linter.unusedVariables false
open Go.RowKit Go.Lib Go.Sort

/-- A world of which only the old blocks are left. -/
def cutW (w : World) (n : Nat) : World := { w with heap := w.heap.extract 0 n }
theorem cutW_below {w : World} {n : Nat} (hn : n ≤ w.heap.size) : (cutW w n).heap.size = n ∧ Below (cutW w n).heap.size (cutW w n) w := by
  have e : (cutW w n).heap.size = n := by simp [cutW]; omega
  refine ⟨e, ⟨rfl, rfl, rfl, by rw [e]; exact hn, fun k hk => ?_⟩⟩
  rw [e] at hk
  simp only [cutW]
  rw [Array.getElem?_extract]
  simp
  omega
/-- What lies above a bound is left by a turn of what lies below it. -/
theorem Play.turn {w0 W w1 : World} {T M : Nat} {c : Cfg} {rs rh n ver : Nat} {es : List (KO × NE)} {v : Value} {l : List It} (h : Play w0 W T M c rs rh n ver es v l) {fp fp' : List Nat} (hu : Upd W w1 fp fp') (hfp : ∀ r ∈ fp, r < w0.heap.size) :
    ∃ w2, w2.heap.size = w0.heap.size ∧ Play w2 w1 T M c rs rh n ver es v l := by
  have hk : ∀ r, w0.heap.size ≤ r → r < W.heap.size → w1.heap[r]? = W.heap[r]? := fun r h1 h2 => hu.block r h2 (fun hm => by have := hfp r hm; omega)
  obtain ⟨e, hb⟩ := cutW_below (w := w1) (n := w0.heap.size) (Nat.le_trans h.base.size hu.size)
  have hT : w0.heap.size ≤ T := h.above T (by simp [sfp])
  have hM : w0.heap.size ≤ M := h.above M (by simp [sfp])
  refine ⟨cutW w1 w0.heap.size, e, ⟨⟨(hk T hT h.at_.ltT).trans h.at_.cell, h.at_.map.block (hk M hM h.at_.map.lt), fun p hp => (h.at_.node p hp).kept (fun r hr => hk r (h.fresh p hp r hr) ((h.at_.node p hp).lt r hr)), h.at_.pair, h.at_.off, h.at_.ne⟩, ?_, h.tells, hb, ?_, ?_, h.grown, h.vers, h.ver_, h.room⟩⟩
  · rw [e]
    exact ⟨h.items.1.keepP hu.size (fun b hb hlt => hk b hb.2 hlt), fun x hx => ⟨(h.items.2 x hx).1.keepP hu.size (fun b hb hlt => hk b hb.2 hlt), (h.items.2 x hx).2.keepP hu.size (fun b hb hlt => hk b hb.2 hlt)⟩⟩
  · rw [e]; exact h.above
  · rw [e]; exact h.fresh

/-- What Freeze gives: an entry for each key, the node frozen. -/
def frL (es : List (KO × NE)) (l : List It) : List En := (keysI l).map fun q => (q, blkOf es q)
def ndF (es : List (KO × NE)) (x : En) : Nd := ((es.find? (fun p => p.1.1 = x.1)).map (fun p => frz p.2.2.1)).getD nd0
theorem blk_at {es : List (KO × NE)} {q : Ky} (h : q ∈ kyN es) : ∃ p ∈ es, p.1.1 = q ∧ es.find? (fun p => p.1.1 = q) = some p := by
  obtain ⟨p, hp, rfl⟩ := List.mem_map.1 h
  cases hf : es.find? (fun x => x.1.1 = p.1.1) with
  | none => exact absurd (List.find?_eq_none.1 hf p hp) (by simp)
  | some r => exact ⟨r, List.mem_of_find?_eq_some hf, by simpa using List.find?_some hf, rfl⟩
end

section
set_option linter.unusedSimpArgs false
set_option linter.unusedVariables false
open Go.RowKit Go.Lib Go.Sort
end

section
set_option linter.unusedSimpArgs false
set_option linter.unusedVariables false
open Go.RowKit Go.Lib Go.Sort
end

section
set_option linter.unusedSimpArgs false
set_option linter.unusedVariables false
open Go.RowKit Go.Lib Go.Sort

structure Cold (w0 W : World) (T M : Nat) (c : Cfg) (rs rh n ver : Nat) (es : List (KO × NE)) (ve : Value) (fl : List En) (v : Value) (l : List It) : Prop where
  at_ : SAt W T M c ver es rs rh
  items : ItemsIn (fun b => b ∉ sfp T M es) W v l
  rows : RowG (fun b => b ∉ sfp T M es) 3 enC W ve fl
  told : ∀ i (h : i < l.length) (h2 : i < fl.length), fl[i].1 = l[i].key ∧ ∃ y fp, NodeIn W fl[i].2 y rs rh fp ∧ y.frz = true ∧ sameN y l[i].nd ∧ ∀ r ∈ fp, r ∉ sfp T M es
  len : fl.length = l.length
  base : Below w0.heap.size w0 W
  above : ∀ r ∈ sfp T M es, w0.heap.size ≤ r
  grown : Grown n ver (ab es)
  ver_ : ver ≤ 1000 * n
theorem Cold.below {w0 W W' : World} {T M : Nat} {c : Cfg} {rs rh n ver : Nat} {es : List (KO × NE)} {ve : Value} {fl : List En} {v : Value} {l : List It} (h : Cold w0 W T M c rs rh n ver es ve fl v l) (hb : Below W.heap.size W W') : Cold w0 W' T M c rs rh n ver es ve fl v l :=
  ⟨h.at_.below hb, h.items.below hb, h.rows.below hb, fun i h1 h2 => by
    obtain ⟨a1, y, fp, a2, a3⟩ := h.told i h1 h2
    exact ⟨a1, y, fp, a2.below hb, a3⟩, h.len, bthen h.base hb, h.above, h.grown, h.ver_⟩
theorem grown_frz {n ver : Nat} {es : List (KO × NE)} (h : Grown n ver (ab es)) (K : List Ky) : Grown n ver (ab (frzE es K)) := by
  rw [ab_frzE]
  refine ⟨by simp only [List.length_map]; exact h.len, fun p hp => ?_⟩
  obtain ⟨q, hq, rfl⟩ := List.mem_map.1 hp
  have := h.vers q hq
  dsimp only
  split
  · simp only [frz]; omega
  · omega
theorem frz_all {es : List (KO × NE)} : ∀ p ∈ frzE es (risL (kyN es)), p.2.2.1.frz = true := by
  intro p hp
  obtain ⟨q, hq, rfl⟩ := List.mem_map.1 hp
  have hm : q.1.1 ∈ risL (kyN es) := (mem_risL _ _).2 (List.mem_map.2 ⟨q, hq, rfl⟩)
  dsimp only
  rw [if_pos hm]
  rfl
theorem mfp_frz {x : Nd} (h : x.frz = true) (fp : List Nat) : mfp x fp = [] := by
  unfold mfp
  rw [if_pos h]
theorem sfp_all {T M : Nat} {es : List (KO × NE)} (h : ∀ p ∈ es, p.2.2.1.frz = true) : ∀ r ∈ sfp T M es, r = T ∨ r = M := by
  intro r hr
  simp only [sfp, List.mem_cons] at hr
  rcases hr with rfl | rfl | hr
  · exact .inl rfl
  · exact .inr rfl
  · obtain ⟨p, hp, hr⟩ := mem_mfpE.1 hr
    rw [mfp_frz (h p hp)] at hr
    cases hr
theorem blk_frzE (es : List (KO × NE)) (K : List Ky) (q : Ky) : blkOf (frzE es K) q = blkOf es q := by
  unfold blkOf frzE
  rw [List.find?_map]
  simp only [Function.comp_def, Option.map_map]
end

section
set_option linter.unusedSimpArgs false
set_option linter.unusedVariables false
open Go.RowKit Go.Lib Go.Sort

theorem RowG.lt {α : Type} {P : Nat → Prop} {n : Nat} {f : α → List Value} {w : World} {v : Value} {l : List α} (h : RowG P n f w v l) : RowG (fun b => P b ∧ b < w.heap.size) n f w v l := by
  refine ⟨h.1, fun b o m c e hn => ⟨h.2 b o m c e hn, ?_⟩⟩
  obtain ⟨A, c2, rfl, hl, hx⟩ := h.1
  obtain ⟨b2, o2, rfl, hb, -⟩ := hx hn
  simp only [Value.slice.injEq, Option.some.injEq, Addr.mk.injEq, and_true] at e
  rw [← e.1.1]
  exact hb
theorem ItemsIn.lt {P : Nat → Prop} {w : World} {v : Value} {l : List It} (h : ItemsIn P w v l) : ItemsIn (fun b => P b ∧ b < w.heap.size) w v l :=
  ⟨h.1.lt, fun x hx => ⟨(h.2 x hx).1.lt, (h.2 x hx).2.lt⟩⟩
theorem ItemsIn.and {P Q : Nat → Prop} {w : World} {v : Value} {l : List It} (h : ItemsIn P w v l) (k : ItemsIn Q w v l) : ItemsIn (fun b => P b ∧ Q b) w v l :=
  ⟨⟨h.1.1, fun b o m c e hn => ⟨h.1.2 b o m c e hn, k.1.2 b o m c e hn⟩⟩, fun x hx => ⟨⟨(h.2 x hx).1.1, fun b o m c e hn => ⟨(h.2 x hx).1.2 b o m c e hn, (k.2 x hx).1.2 b o m c e hn⟩⟩, ⟨(h.2 x hx).2.1, fun b o m c e hn => ⟨(h.2 x hx).2.2 b o m c e hn, (k.2 x hx).2.2 b o m c e hn⟩⟩⟩⟩
theorem ItemsIn.keepS {P : Nat → Prop} {w w' : World} {v : Value} {l : List It} (h : ItemsIn P w v l) (hs : w.heap.size ≤ w'.heap.size) (hk : ∀ b, P b → b < w.heap.size → w'.heap[b]? = w.heap[b]?) : ItemsIn P w' v l :=
  ⟨h.1.keepP hs hk, fun x hx => ⟨(h.2 x hx).1.keepP hs hk, (h.2 x hx).2.keepP hs hk⟩⟩

/-- Frozen nodes and items, all in blocks of one kind. -/
def FzAt (S : Nat → Prop) (w : World) (es : List (KO × NE)) (rs rh : Nat) (v : Value) (l : List It) : Prop :=
  (∀ x ∈ frL es l, ∃ fp, NodeIn w x.2 (ndF es x) rs rh fp ∧ (ndF es x).frz = true ∧ ∀ r ∈ fp, S r) ∧ ItemsIn S w v l
theorem FzAt.kept {S : Nat → Prop} {w w' : World} {es : List (KO × NE)} {rs rh : Nat} {v : Value} {l : List It} (h : FzAt S w es rs rh v l) (hs : w.heap.size ≤ w'.heap.size) (hk : ∀ b, S b → b < w.heap.size → w'.heap[b]? = w.heap[b]?) : FzAt S w' es rs rh v l := by
  refine ⟨fun x hx => ?_, h.2.keepS hs hk⟩
  obtain ⟨fp, a, b, c⟩ := h.1 x hx
  exact ⟨fp, a.kept (fun r hr => hk r (c r hr) (a.lt r hr)), b, c⟩
theorem FzAt.below {S : Nat → Prop} {w w' : World} {es : List (KO × NE)} {rs rh : Nat} {v : Value} {l : List It} (h : FzAt S w es rs rh v l) (hb : Below w.heap.size w w') : FzAt S w' es rs rh v l := h.kept hb.size (fun b _ hlt => hb.block b hlt)
theorem FzAt.imp {S S' : Nat → Prop} {w : World} {es : List (KO × NE)} {rs rh : Nat} {v : Value} {l : List It} (h : FzAt S w es rs rh v l) (hi : ∀ b, S b → S' b) : FzAt S' w es rs rh v l :=
  ⟨fun x hx => by obtain ⟨fp, a, b, c⟩ := h.1 x hx; exact ⟨fp, a, b, fun r hr => hi r (c r hr)⟩, h.2.imp hi⟩
theorem FzAt.nodes {S : Nat → Prop} {w : World} {es : List (KO × NE)} {rs rh : Nat} {v : Value} {l : List It} (h : FzAt S w es rs rh v l) : NodesOf w (frL es l) (ndF es) rs rh := fun x hx => by
  obtain ⟨fp, a, _, _⟩ := h.1 x hx
  exact ⟨fp, a⟩
theorem FzAt.fz {S : Nat → Prop} {w : World} {es : List (KO × NE)} {rs rh : Nat} {v : Value} {l : List It} (h : FzAt S w es rs rh v l) : ∀ x ∈ frL es l, FzN w x.2 true := fun x hx => by
  obtain ⟨fp, a, b, _⟩ := h.1 x hx
  exact ⟨_, _, _, _, a, b⟩

/-! ### Cuts of frozen entries -/
def soE (l : List En) : List Eo := l.map fun x => (x.1, some x.2)
theorem soE_len (l : List En) : (soE l).length = l.length := by simp [soE]
theorem row_so {w : World} {v : Value} {l : List En} (h : RowIn 3 enC w v l) : RowIn 3 eoC w v (soE l) := by
  obtain ⟨A, c, rfl, hl, hc⟩ := h
  refine ⟨A, c, by simp [soE], by simpa [soE] using hl, fun hp => ?_⟩
  obtain ⟨b, o, rfl, hb, hx⟩ := hc (by simpa [soE] using hp)
  refine ⟨b, o, rfl, hb, fun k x hk j u hu => ?_⟩
  simp only [soE, List.getElem?_map, Option.map_eq_some_iff] at hk
  obtain ⟨y, hy, rfl⟩ := hk
  exact hx k y hy j u hu
theorem kept_so (l : List En) : keptE (fun _ => true) (soE l) = l := by
  induction l with
  | nil => rfl
  | cons x m ih => simp only [soE, List.map_cons, keptE, if_true] at ih ⊢; rw [ih]
theorem filter_sort (l : List En) (k : Ky) : (sortEn l).filter (fun x => decide (x.1 = k)) = l.filter (fun x => decide (x.1 = k)) := by
  have hperm : (sortEn l).Perm l := List.mergeSort_perm l _
  have hsub : (l.filter (fun x => decide (x.1 = k))).Sublist (sortEn l) := by
    unfold sortEn
    refine List.sublist_mergeSort ?_ ?_ ?_ List.filter_sublist
    · intro a b c h1 h2
      simp only [leS, ltE, Bool.not_eq_true'] at h1 h2 ⊢
      cases h3 : ltK c.1 a.1 with
      | false => rfl
      | true =>
        exfalso
        cases h4 : ltK a.1 b.1 with
        | true => rw [ltK_trans h3 h4] at h2; cases h2
        | false => rw [ltK_total h4 h1] at h3; rw [h3] at h2; cases h2
    · intro a b
      simp only [leS, ltE, Bool.or_eq_true, Bool.not_eq_true']
      cases h3 : ltK b.1 a.1 with
      | false => exact Or.inl rfl
      | true => exact Or.inr (ltK_asymm h3)
    · rw [List.pairwise_filter]
      refine List.pairwise_of_forall (fun a b ha hb => ?_)
      simp only [decide_eq_true_eq] at ha hb
      simp only [leS, ltE, ha, hb, ltK_irrefl]
      rfl
  have h2 := hsub.filter (fun x => decide (x.1 = k))
  rw [List.filter_filter] at h2
  simp only [Bool.and_self] at h2
  exact (h2.eq_of_length (by rw [(hperm.filter _).length_eq])).symm
theorem findE_filter (l : List En) (k : Ky) : findE l k = ((l.filter (fun x => decide (x.1 = k))).head?).map (·.2) := by
  unfold findE
  rw [List.head?_filter]
theorem findE_sort (l : List En) (k : Ky) : findE (sortEn l) k = findE l k := by
  rw [findE_filter, findE_filter, filter_sort]
theorem findE_append (a b : List En) (k : Ky) : findE (a ++ b) k = (findE a k).or (findE b k) := by
  unfold findE
  rw [List.find?_append]
  cases List.find? (fun x => decide (x.1 = k)) a <;> rfl
theorem mem_sortE (l : List En) (x : En) : x ∈ sortEn l ↔ x ∈ l := (List.mergeSort_perm l _).mem_iff
end

end Go.Proofs.YtmniiodpbebnmaaGreat
