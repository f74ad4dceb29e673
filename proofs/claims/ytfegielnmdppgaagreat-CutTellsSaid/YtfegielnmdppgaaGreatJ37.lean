/- cut.New: all frozen entries of all parts, sorted; slices.Compact at keys, walked. -/
import Derived.Test.YtfegielnmdppgaaGreatJ36
import Derived.Test.YtfegielnmdppgaaGreatJ12
import Derived.Test.YtfegielnmdppgaaGreatJ04
import Derived.Test.YtfegielnmdppgaaGreatJ09
import Derived.Test.YtfegielnmdppgaaGreatJ02
import Derived.Deep.LoopGhost
import Derived.Sort.WalkB12
import Derived.Lib.SliceRun
import Derived.Lib.OwnBridge
import Derived.Shelf.GgSortFunc.RowK
import Derived.Shelf.SlicesQ.Reverse
namespace Go.Proofs.YtfegielnmdppgaaGreat

section
set_option linter.unusedSimpArgs false
set_option linter.unusedVariables false
open Go.RowKit Go.Lib Go.Sort

/-- An entry that may lack a node. -/
abbrev Eo := Ky × Option Nat
def eoC (x : Eo) : List Value := [.int .u64 x.1.1, .int .u64 x.1.2, ptr x.2]
/-- The entries that stay. -/
def keptE (fz : Nat → Bool) : List Eo → List En
  | [] => []
  | (k, none) :: l => keptE fz l
  | (k, some n) :: l => if fz n = true then (k, n) :: keptE fz l else keptE fz l
theorem keptE_append (fz : Nat → Bool) : ∀ a b : List Eo, keptE fz (a ++ b) = keptE fz a ++ keptE fz b
  | [], b => rfl
  | (k, none) :: a, b => by simp [keptE, keptE_append fz a b]
  | (k, some n) :: a, b => by
    simp only [List.cons_append, keptE, keptE_append fz a b]
    split <;> rfl
abbrev PartE := Option Addr × Nat × List Eo
def partC (p : PartE) : List Value := [.slice p.1 p.2.2.length p.2.1]
def PartsIn (w : World) (v : Value) (ps : List PartE) : Prop := RowIn 1 partC w v ps ∧ ∀ p ∈ ps, RowIn 3 eoC w (.slice p.1 p.2.2.length p.2.1) p.2.2
theorem PartsIn.below {w w' : World} {v : Value} {ps : List PartE} (h : PartsIn w v ps) (hb : Below w.heap.size w w') : PartsIn w' v ps := ⟨h.1.below hb, fun p hp => (h.2 p hp).below hb⟩
/-- A node that is frozen, or not. -/
def FzN (w : World) (n : Nat) (b : Bool) : Prop := ∃ y rs rh fp, NodeIn w n y rs rh fp ∧ y.frz = b
theorem FzN.below {w w' : World} {n : Nat} {b : Bool} (h : FzN w n b) (hb : Below w.heap.size w w') : FzN w' n b := by
  obtain ⟨y, rs, rh, fp, h1, h2⟩ := h
  exact ⟨y, rs, rh, fp, h1.below hb, h2⟩
/-- A cut whose blocks are new. -/
def CutAt (B : Nat) (w : World) (C : Nat) (ep : Int) (l : List En) : Prop := B ≤ C ∧ ∃ A c, w.heap[C]? = some (.cells #[.int .i64 ep, .slice A l.length c] 121 (0, 0)) ∧ OwnL enC 56 3 (C + 1) w (.slice A l.length c) l
theorem CutAt.in_ {B : Nat} {w : World} {C : Nat} {ep : Int} {l : List En} (h : CutAt B w C ep l) : CutIn w C ep l := by
  obtain ⟨_, A, c, h1, h2⟩ := h
  exact ⟨A, c, h1, h2.row eEn⟩
theorem CutAt.kept {B : Nat} {w w' : World} {C : Nat} {ep : Int} {l : List En} (h : CutAt B w C ep l) (hk : ∀ r, B ≤ r → r < w.heap.size → w'.heap[r]? = w.heap[r]?) : CutAt B w' C ep l := by
  obtain ⟨hB, A, c, h1, h2⟩ := h
  exact ⟨hB, A, c, (hk C hB (Array.getElem?_eq_some_iff.1 h1).1).trans h1, h2.kept (fun r hr => hk r (by have := (h2.lt hr).1; omega) (h2.lt hr).2)⟩
theorem CutAt.below {B : Nat} {w w' : World} {C : Nat} {ep : Int} {l : List En} (h : CutAt B w C ep l) (hb : Below w.heap.size w w') : CutAt B w' C ep l := h.kept (fun r _ hr => hb.block r hr)
theorem CutAt.lt {B : Nat} {w : World} {C : Nat} {ep : Int} {l : List En} (h : CutAt B w C ep l) : C < w.heap.size := by
  obtain ⟨_, A, c, h1, _⟩ := h
  exact (Array.getElem?_eq_some_iff.1 h1).1
theorem CutAt.lower {B B' : Nat} {w : World} {C : Nat} {ep : Int} {l : List En} (h : CutAt B w C ep l) (hb : B' ≤ B) : CutAt B' w C ep l := ⟨Nat.le_trans hb h.1, h.2⟩
/-- The entries' row is put behind. -/
theorem cut_set {B C : Nat} {w1 w4 : World} {ep : Int} {v : Value} {out : List En} {A4 : Option Addr} {c4 : Nat} (h1 : w4.heap[C]? = some (.cells #[.int .i64 ep, v] 121 (0, 0))) (hown : OwnL enC 56 3 (C + 1) w4 (.slice A4 out.length c4) out) (hB : B ≤ C) :
    CutAt B (w4.setCell ⟨C, 1, none⟩ (.slice A4 out.length c4)) C ep out :=
  ⟨hB, A4, c4, setCell_block h1, hown.kept (fun r hr => Below.heap_setCell _ _ _ _ (fun e => by have e' : r = C := e; have := (hown.lt hr).1; omega))⟩

set_option maxRecDepth 100000 in
set_option maxHeartbeats 16000000 in
theorem cutNew_any (ep : Int) (v : Value) (ps : List PartE) (fz : Nat → Bool) (w : World) (hv : PartsIn w v ps) (hf : ∀ p ∈ ps, ∀ x ∈ p.2.2, ∀ n, x.2 = some n → FzN w n (fz n)) (hl : (ps.flatMap fun p => keptE fz p.2.2).length ≤ 40) (hl2 : ps.length ≤ 1000) (hl3 : ∀ p ∈ ps, p.2.2.length ≤ 1000000) :
    Calls Tryz.prog 13 #[.int .i64 ep, v] w fun e w' => ∃ C, e = .returned (.pointer (some ⟨C, 0, none⟩)) ∧ CutAt w.heap.size w' C ep (sortEn (ps.flatMap fun p => keptE fz p.2.2)) ∧ Below w.heap.size w w' := by
  obtain ⟨A0, c0, rfl⟩ := hv.1.form
  have HV := Lib.hid hv
  have HF := Lib.hid hf
  have HL := Lib.hid hl
  have HL3 := Lib.hid hl3
  have hq : ps.length ≤ 9223372036854775807 := by omega
  clear hv hf hl hl3
  go_enter Tryz.func13, Tryz.ntmps13
  go_wp2_with fail
  go_loopg [15] ps.length (fun g s15 wr => ∃ (i : Nat) (out : List En), i ≤ ps.length ∧ ps.length - i ≤ g ∧ s15 = .int .i64 i ∧ Hid (out = (ps.take i).flatMap fun p => keptE fz p.2.2) ∧ CutAt w.heap.size wr w.heap.size ep out ∧ Below w.heap.size w wr)
  case atStart => exact ⟨0, [], Nat.zero_le _, Nat.le_refl _, rfl, Lib.hid rfl, ⟨Nat.le_refl _, none, 0, heap_alloc_new _ _, OwnL.nil _ _⟩, balloc (Below.refl _ _) _⟩
  case round =>
    obtain ⟨i, out, hi, hg, rfl, HO, hcut, hbw⟩ := hrel
    rename World => wr
    have HCU := Lib.hid hcut
    have HBW := Lib.hid hbw
    clear hcut hbw
    by_cases hlt : i < ps.length
    · obtain ⟨b0, o0, rfl, hb0, hc0⟩ := (HV.out.1.below HBW.out).at_ hlt
      have z1 : (0 : Int) ≤ (i : Int) := by omega
      have z2 : (i : Int) < (ps.length : Int) := by omega
      have hmem := List.getElem_mem hlt
      have HR := Lib.hid (HV.out.2 _ hmem)
      have HFP := Lib.hid (HF.out _ hmem)
      have hl3 := HL3.out _ hmem
      have HNX := Lib.hid (show ((ps.take (i + 1)).flatMap fun p => keptE fz p.2.2) = out ++ keptE fz ps[i].2.2 by
        rw [List.take_succ_eq_append_getElem hlt, List.flatMap_append, HO.out]; simp)
      have HPL := Lib.hid (show (out ++ keptE fz ps[i].2.2).length ≤ 40 by
        rw [← HNX.out]
        refine Nat.le_trans ?_ HL.out
        have e : (ps.flatMap fun p => keptE fz p.2.2) = ((ps.take (i + 1)).flatMap fun p => keptE fz p.2.2) ++ ((ps.drop (i + 1)).flatMap fun p => keptE fz p.2.2) := by rw [← List.flatMap_append, List.take_append_drop]
        rw [e, List.length_append]; omega)
      have d0 := hc0 0 _ rfl
      rw [Nat.mul_one, Nat.add_zero] at d0
      clear hc0 hmem
      generalize ps[i] = p at HR HFP hl3 HNX HPL d0
      obtain ⟨Ap, cp, l⟩ := p
      simp only at HR HFP hl3 HNX HPL d0
      have hq3 : l.length ≤ 9223372036854775807 := by omega
      go_wp2_with fail
      go_loopg [21] l.length (fun g s21 wx => ∃ (j : Nat) (o2 : List En), j ≤ l.length ∧ l.length - j ≤ g ∧ s21 = .int .i64 j ∧ Hid (o2 = out ++ keptE fz (l.take j)) ∧ CutAt w.heap.size wx w.heap.size ep o2 ∧ Below w.heap.size w wx)
      case atStart => exact ⟨0, out, Nat.zero_le _, Nat.le_refl _, rfl, Lib.hid (by simp [keptE]), HCU.out, HBW.out⟩
      case round =>
        obtain ⟨j, o2, hj, hgj, rfl, HO2, hcut, hbx⟩ := hrel
        rename World => wx
        have HCX := Lib.hid hcut
        have HBX := Lib.hid hbx
        clear hcut hbx
        by_cases hjl : j < l.length
        · obtain ⟨b1, o1, rfl, hb1, hc1⟩ := (HR.out.below HBX.out).at_ hjl
          have y1 : (0 : Int) ≤ (j : Int) := by omega
          have y2 : (j : Int) < (l.length : Int) := by omega
          have HN := Lib.hid (fun n (h : l[j].2 = some n) => (HFP.out _ (List.getElem_mem hjl) n h).below HBX.out)
          have HTK := Lib.hid (show keptE fz (l.take (j + 1)) = keptE fz (l.take j) ++ keptE fz [l[j]] by rw [List.take_succ_eq_append_getElem hjl, keptE_append])
          have HLJ := Lib.hid (show o2.length + (keptE fz [l[j]]).length ≤ 40 by
            refine Nat.le_trans ?_ HPL.out
            have e : keptE fz l = keptE fz (l.take (j + 1)) ++ keptE fz (l.drop (j + 1)) := by rw [← keptE_append, List.take_append_drop]
            rw [HO2.out, e, HTK.out]; simp only [List.length_append]; omega)
          have f0 := hc1 0 _ rfl
          have f1 := hc1 1 _ rfl
          have f2 := hc1 2 _ rfl
          rw [Nat.add_zero] at f0
          clear hc1
          generalize l[j] = x at HN HTK HLJ f0 f1 f2
          obtain ⟨k, n⟩ := x
          simp only at HN HTK HLJ f0 f1 f2
          cases n with
          | none =>
            simp only [ptr, Option.map_none] at f2
            go_wp2_with fail
            go_roundg (l.length - (j + 1))
            case measure => omega
            case rel => exact ⟨j + 1, o2, hjl, Nat.le_refl _, by go_num, Lib.hid (by rw [HTK.out, HO2.out]; simp [keptE]), HCX.out.below (balloc (Below.refl _ _) _), bthen HBX.out (balloc (Below.refl _ _) _)⟩
          | some n =>
            simp only [ptr, Option.map_some] at f2
            obtain ⟨y, rs, rh, fp, hn, hz⟩ := HN.out n rfl
            have HNF := Lib.hid (show ∀ W, Below wx.heap.size wx W → Calls Tryz.prog 51 #[.pointer (some ⟨n, 0, none⟩)] W fun e w' => e = .returned (.bool (fz n)) ∧ Below W.heap.size W w' from fun W hW => by rw [← hz]; exact nodeFrozen_any n y rs rh fp W (hn.below hW))
            clear hn hz
            cases hfz : fz n with
            | false =>
              rw [hfz] at HNF
              have HFZ := Lib.hid hfz
              clear hfz
              as_aux_lemma =>
                go_wp2_with (first
                  | (go_at_call 51
                     refine calls_named ?_
                     intro W3 hW3
                     have hb3 : Below wx.heap.size wx W3 := by rw [hW3]; exact balloc (Below.refl _ _) _
                     clear hW3
                     refine (HNF.out W3 hb3).mono ?_
                     rintro e w4 ⟨rfl, hb4⟩
                     have HB4 := Lib.hid (bthen hb3 hb4)
                     clear hb3 hb4))
                go_roundg (l.length - (j + 1))
                case measure => omega
                case rel => exact ⟨j + 1, o2, hjl, Nat.le_refl _, by go_num, Lib.hid (by rw [HTK.out, HO2.out]; simp [keptE, HFZ.out]), HCX.out.below HB4.out, bthen HBX.out HB4.out⟩
            | true =>
              rw [hfz] at HNF
              have HTK2 := Lib.hid (show keptE fz (l.take (j + 1)) = keptE fz (l.take j) ++ [(k, n)] by rw [HTK.out]; simp [keptE, hfz])
              have HLJ2 := Lib.hid (show o2.length + 1 ≤ 40 by have := HLJ.out; simpa [keptE, hfz] using this)
              clear hfz HTK HLJ HN
              as_aux_lemma =>
                go_upto_region 9 with (first
                  | (go_at_call 51
                     refine calls_named ?_
                     intro W3 hW3
                     have hb3 : Below wx.heap.size wx W3 := by rw [hW3]; exact balloc (Below.refl _ _) _
                     have hx3 : W3.heap[wx.heap.size]? = some (.cells #[.int .u64 k.1, .int .u64 k.2, .pointer (some ⟨n, 0, none⟩)] 56 (0, 0)) := by rw [hW3]; exact heap_alloc_new _ _
                     clear hW3
                     refine (HNF.out W3 hb3).mono ?_
                     rintro e w4 ⟨rfl, hb4⟩
                     have HX4 := Lib.hid ((hb4.block _ (Array.getElem?_eq_some_iff.1 hx3).1).trans hx3)
                     have HB4 := Lib.hid (bthen hb3 hb4)
                     clear hb3 hx3 hb4))
                refine name_world ?_
                intro W5 hW5
                have hb5 : Below wx.heap.size wx W5 := by rw [hW5]; exact HB4.out
                have hx5 : W5.heap[wx.heap.size]? = some (.cells #[.int .u64 k.1, .int .u64 k.2, .pointer (some ⟨n, 0, none⟩)] 56 (0, 0)) := by rw [hW5]; exact HX4.out
                have hbw5 : Below w.heap.size w W5 := bthen HBX.out hb5
                obtain ⟨hBC, A5, c5, hC5, hO5⟩ := HCX.out.below hb5
                obtain ⟨a1, a2, a3⟩ := box_cells (Below.refl _ _) hx5
                obtain ⟨a4, a5, a6⟩ := box_cells (Below.refl _ _) hC5
                have HC5 := Lib.hid hC5
                have HO5 := Lib.hid hO5
                have HBW5 := Lib.hid hbw5
                clear hW5 hb5 hx5 hC5 hO5 hbw5 f0 f1 f2 hBC
                go_region_law ((
                  refine step_appendL eEn (by rfl) (.tmp 37) (.tmp 39) (by rfl) (w.heap.size + 1) o2 [(k, n)] _ _ (by rfl) (by rfl) (HO5.out.below (by repeat (first | exact Below.refl _ _ | refine balloc ?_ _ | refine Below.drew ?_ | refine below_drewN ?_ _))) (RowIn.lit _ (k, n) _ _ _ (by first | rfl | simp) rfl) (by have := HLJ2.out; simp; omega) (by simp; omega) ?_
                  intro out4 A4 cc4 w4' hout hown4 hg4 hblk4
                  have hbz : ∀ W, Below W5.heap.size W5 W → W.heap[w.heap.size]? = some (.cells #[.int .i64 ep, .slice A5 o2.length c5] 121 (0, 0)) := fun W h => (h.block _ a6).trans HC5.out
                  have hS4 := (hg4.block w.heap.size (by simp; omega) (fun e => by have := (HO5.out.lt e.symm).1; omega)).trans (hbz _ (by repeat (first | exact Below.refl _ _ | refine balloc ?_ _ | refine Below.drew ?_ | refine below_drewN ?_ _)))
                  obtain ⟨e1, e2, e3⟩ := box_cells (Below.refl _ _) hS4
                  have HCS := Lib.hid (cut_set (B := w.heap.size) (w1 := W5) hS4 hown4 (Nat.le_refl _))
                  have HOUT := Lib.hid hout
                  have HB6 := Lib.hid (show Below w.heap.size w (w4'.setCell ⟨w.heap.size, 1, none⟩ (.slice A4 out4.length cc4)) from
                    Below.setCell (p := ⟨w.heap.size, 1, none⟩) (HBW5.out.trans ((show Below W5.heap.size W5 _ by repeat (first | exact Below.refl _ _ | refine balloc ?_ _ | refine Below.drew ?_ | refine below_drewN ?_ _)).mono HBW5.out.size |>.trans ((grown_own hg4 HO5.out (by simp; omega)).mono (by omega)))) (Nat.le_refl _) _)
                  clear hbz hS4 hout hown4 hg4 hblk4))
                all_goals
                  go_wp2_with fail
                  go_roundg (l.length - (j + 1))
                  case measure => omega
                  case rel => exact ⟨j + 1, out4, hjl, Nat.le_refl _, by go_num, Lib.hid (by rw [HTK2.out, HOUT.out, HO2.out, List.append_assoc]), HCS.out.below (by repeat (first | exact Below.refl _ _ | refine balloc ?_ _ | refine Below.drew ?_ | refine below_drewN ?_ _)), bthen HB6.out (by repeat (first | exact Below.refl _ _ | refine balloc ?_ _ | refine Below.drew ?_ | refine below_drewN ?_ _))⟩
        · obtain rfl : j = l.length := by omega
          go_wp2_with fail
          go_roundg (ps.length - (i + 1))
          case measure => omega
          case rel => exact ⟨i + 1, o2, hlt, Nat.le_refl _, by go_num, Lib.hid (by rw [HNX.out, HO2.out, List.take_length]), HCX.out, HBX.out⟩
    · obtain rfl : i = ps.length := by omega
      have ho := HO.out
      rw [List.take_length] at ho
      obtain ⟨hBC, A5, c5, hC5, hO5⟩ := HCU.out
      have hol : out.length ≤ 40 := by rw [ho]; exact HL.out
      have CS := Lib.hid (sortE_any _ out wr (hO5.row eEn) hol)
      have HOUT := Lib.hid ho
      have HC5 := Lib.hid hC5
      obtain ⟨a4, a5, a6⟩ := box_cells (Below.refl _ _) hC5
      clear ho hBC hC5 hO5 hol
      go_wp2_with (first
        | (go_at_call 52
           refine CS.out.mono ?_
           rintro e w2 ⟨A2, c2, rfl, hown, hb⟩
           have hC2 := (hb.block _ a6).trans HC5.out
           obtain ⟨e4, e5, e6⟩ := box_cells (Below.refl _ _) hC2
           have HCS := Lib.hid (cut_set (B := w.heap.size) (w1 := w2) hC2 (hown.lower (by omega)) (Nat.le_refl _))
           have HB2 := Lib.hid (Below.setCell (p := ⟨w.heap.size, 1, none⟩) (bthen HBW.out hb) (Nat.le_refl _) _ : Below w.heap.size w (w2.setCell ⟨w.heap.size, 1, none⟩ (.slice A2 (sortEn out).length c2)))
           clear hC2 hown hb))
      go_ret
      rw [← HOUT.out]
      exact ⟨w.heap.size, rfl, HCS.out, HB2.out⟩
end

section
set_option linter.unusedSimpArgs false
set_option linter.unusedVariables false
open Go.RowKit Go.Lib Go.Sort

/-- A key's two cells. -/
def encK (p : Ky) : List Value := [.int .u64 p.1, .int .u64 p.2]
theorem encK_len (p : Ky) : (encK p).length = 2 := rfl
theorem encK_one (p : Ky) : ∀ v ∈ encK p, v.oneCell' = true := by
  intro v hv
  simp [encK] at hv
  rcases hv with rfl | rfl <;> rfl

theorem cellsK_get (l : List Ky) (j : Nat) (h : j < l.length * 2) : (cellsK l)[j]? = some (encK (l[j / 2]'(by omega)))[j % 2]! := by
  obtain ⟨h1, h2⟩ := cellsK_at l (j / 2) (l[j / 2]'(by omega)) (List.getElem?_eq_getElem (by omega))
  rcases Nat.mod_two_eq_zero_or_one j with e | e
  · rw [show j / 2 * 2 = j by omega] at h1
    rw [h1, e]; rfl
  · rw [show j / 2 * 2 + 1 = j by omega] at h2
    rw [h2, e]; rfl

theorem flat_cells (d : Array Ky) : flatK encK 2 d = (cellsK d.toList).toArray := by
  refine ext_get! (by simp [cellsK_len]) fun t ht => ?_
  have ht' : t < d.size * 2 := by simpa using ht
  rw [get_flatK _ _ _ t ht']
  have hc := cellsK_get d.toList t (by simpa using ht')
  have : (cellsK d.toList).toArray[t]! = (cellsK d.toList)[t]! := by simp
  rw [this, List.getElem!_of_getElem? hc, getElem!_pos d (t / 2) (by omega)]
  simp

theorem cells2 {w : World} {blk off : Nat} {d : Array Ky} (h : HoldsK encK 2 w blk off d) {i : Nat} (hi : i < d.size) :
    w.cell? ⟨blk, off + i * 2, none⟩ = some (.int .u64 (d[i]!).1) ∧ w.cell? ⟨blk, off + i * 2 + 1, none⟩ = some (.int .u64 (d[i]!).2) ∧ w.frozen? ⟨blk, off + i * 2, none⟩ = false ∧ w.frozen? ⟨blk, off + i * 2 + 1, none⟩ = false := by
  obtain ⟨a, b⟩ := h.cell (c := 0) hi (by omega)
  obtain ⟨c, d⟩ := h.cell (c := 1) hi (by omega)
  exact ⟨a, c, b, d⟩

theorem set_key (d : Array Ky) (i : Nat) (x : Ky) (hi : i < d.size) : setMany (flatK encK 2 d) (i * 2) (encK x) = flatK encK 2 (d.setIfInBounds i x) := by
  refine ext_get! (by simp) fun t ht => ?_
  have ht' : t < d.size * 2 := by simpa using ht
  rw [get_setMany _ _ _ t (by simpa using ht'), get_flatK _ _ _ t ht', get_flatK _ _ _ t (by simpa using ht'), encK_len]
  by_cases a : t / 2 = i
  · rw [if_pos ((blk_iff 2 i t (by omega)).2 a), a, getElem!_set_same d i x hi, show t - i * 2 = t % 2 by omega]
  · rw [if_neg (fun h => a ((blk_iff 2 i t (by omega)).1 h)), getElem!_set_other d i _ x a]

theorem store_keys {w wr : World} {n q blk off : Nat} {dk : Array Ky} {i : Nat} (hi : i < dk.size) (hwr : wr = putRowK encK 2 (Sort.ahead w n) blk off dk) (x : Ky) :
    (((wr.setCell ⟨blk, off + i * 2, none⟩ (.int .u64 x.1)).setCell ⟨blk, off + i * 2 + 1, none⟩ (.int .u64 x.2))).drewN q = putRowK encK 2 (Sort.ahead w (n + q)) blk off (dk.setIfInBounds i x) := by
  subst hwr
  have h := setCells_putRow (Sort.ahead w (n + q)) blk off (encK x) (i * 2) (flatK encK 2 dk) (by simp [encK_len]; omega)
  rw [set_key dk i x hi] at h
  unfold putRowK
  rw [← h, ← Go.Proofs.putRow_drewN]
  rfl

theorem zero_cells (n : Nat) : (Builtin.zeroCells #[.int .u64 0, .int .u64 0] n).toList = List.replicate (n * 2) (.int .u64 0) := by
  apply List.ext_getElem
  · simp [Builtin.zeroCells]
  · intro i h1 h2
    simp only [Builtin.zeroCells, Array.toList_map, List.getElem_map, List.getElem_replicate]
    simp only [Array.toList_range, List.getElem_range]
    show (#[Value.int .u64 0, Value.int .u64 0] : Array Value)[i % 2]! = _
    rcases Nat.mod_two_eq_zero_or_one i with e | e <;> rw [e] <;> rfl

theorem run_clear_keys (w : World) (ty : TypeId) (b o n c : Nat) (hn : 0 < n) (hc : ∀ j, j < n * 2 → (w.cell? ⟨b, o + j, none⟩).isSome = true) (hf : ∀ j, j < n * 2 → w.frozen? ⟨b, o + j, none⟩ = false) :
    (Builtin.clear_ #[70] ty #[.slice (some ⟨b, o, none⟩) n c]).run Tryz.prog w = .ok (.tuple #[]) (w.setCells b o (List.replicate (n * 2) (.int .u64 0))) := by
  have hst := run_storeCells_cells (P := Tryz.prog) b o (List.replicate (n * 2) (.int .u64 0)) 0 w (by simpa using hc) (by simpa using hf) (by intro v hv'; rw [List.eq_of_mem_replicate hv']; rfl)
  simp only [Nat.add_zero] at hst
  obtain ⟨m, rfl⟩ : ∃ m, n = m + 1 := ⟨n - 1, by omega⟩
  have hz : (Value.agg #[.int .u64 0, .int .u64 0]).cells = #[.int .u64 0, .int .u64 0] := rfl
  simp [Builtin.clear_, run_underlying Tryz.underlying70, Tryz.zeroValue40, hz, zero_cells, hst]

/-- What Compact leaves. -/
def CompactSays (w : World) (blk off : Nat) (d : Array Ky) (cap' : Nat) (e : Ending) (w' : World) : Prop :=
  ∃ (q : Nat) (F : Array Value), e = .returned (.slice (some ⟨blk, off, none⟩) (compactUpTo d d.size).length cap') ∧ w' = putRow id (Sort.ahead w q) blk off F ∧ F.size = d.size * 2 ∧ ∀ (j : Nat) (u : Value), (cellsK (compactUpTo d d.size))[j]? = some u → F[j]? = some u

theorem compact_same {w : World} {blk off : Nat} {d : Array Ky} (hH : HoldsK encK 2 w blk off d) (hall : ∀ j, j < d.size → keeps d j = true) (c q : Nat) :
    CompactSays w blk off d c (.returned (.slice (some ⟨blk, off, none⟩) d.size c)) (w.drewN q) := by
  have e : compactUpTo d d.size = d.toList := by rw [compactUpTo_all d _ hall, range_map_get]
  refine ⟨q, flatK encK 2 d, by rw [e]; simp, (putRowK_self encK 2 (Sort.ahead w q) blk off d (holdsK_ahead encK 2 w q blk off d hH)).symm, by simp, fun j u hu => ?_⟩
  rw [e] at hu
  rw [flat_cells]
  simpa using hu

theorem compact_done {w : World} {blk off kk q : Nat} {d dk : Array Ky} (hI : CompInv d d.size kk dk) (cap' : Nat) :
    CompactSays w blk off d cap' (.returned (.slice (some ⟨blk, off, none⟩) kk cap')) ((putRowK encK 2 (Sort.ahead w q) blk off dk).setCells blk (off + kk * 2) (List.replicate ((d.size - kk) * 2) (.int .u64 0))) := by
  have hlt := hI.lt
  have hs := hI.size
  have hl := hI.len
  refine ⟨q, _, by rw [hl], setCells_putRow (Sort.ahead w q) blk off _ (kk * 2) (flatK encK 2 dk) (by simp; omega), by simp [hs], fun j u hu => ?_⟩
  have hj := (List.getElem?_eq_some_iff.1 hu).1
  rw [cellsK_len, hl] at hj
  have hjs : j < (flatK encK 2 dk).size := by simp; omega
  have h1 : (setMany (flatK encK 2 dk) (kk * 2) (List.replicate ((d.size - kk) * 2) (.int .u64 0)))[j]! = (flatK encK 2 dk)[j]! := by
    rw [get_setMany _ _ _ j hjs, if_neg (by omega)]
  have h2 := cellsK_get (compactUpTo d d.size) j (by rw [hl]; exact hj)
  have h3 := hI.low (j / 2) (by omega)
  rw [List.getElem?_eq_getElem (by omega)] at h3
  simp only [Option.some.injEq] at h3
  rw [h3, hu] at h2
  rw [get_flatK _ _ _ j (by omega)] at h1
  rw [h2, ← h1, getElem!_pos _ j (by simpa using hjs)]
  exact Array.getElem?_eq_getElem _

set_option maxRecDepth 1000000 in
set_option maxHeartbeats 4000000 in
theorem compact_any (blk off cap : Nat) (d : Array Ky) (w : World) (hH : HoldsK encK 2 w blk off d) (hsz : d.size ≤ 9223372036854775807) (hcap : d.size ≤ cap) :
    Calls Tryz.prog 142 #[.slice (some ⟨blk, off, none⟩) d.size cap] w (CompactSays w blk off d cap) := by
  by_cases h2 : d.size < 2
  · have HH := Lib.hid hH
    clear hH
    go_enter Tryz.func142, Tryz.ntmps142
    go_wp2
    go_ret
    exact compact_same HH.out (fun j hj => keeps_lt_one d j (by omega)) _ 0
  · go_enter Tryz.func142, Tryz.ntmps142
    have HH := Lib.hid hH
    clear hH
    go_wp2
    go_loopg [3] d.size (fun g s3 wr => ∃ k q : Nat, 1 ≤ k ∧ k ≤ d.size ∧ d.size - k ≤ g ∧ s3 = .int .i64 k ∧ wr = w.drewN q ∧ ∀ j, j < k → keeps d j = true)
    case atStart => exact ⟨1, 0, Nat.le_refl _, by omega, by omega, rfl, rfl, keeps_lt_one d⟩
    case round =>
      obtain ⟨k, q, hk1, hk, hg, rfl, rfl, hall⟩ := hrel
      have A := Lib.hid hall
      clear hall
      by_cases hlt : k < d.size
      · obtain ⟨c1, c2, _, _⟩ := cells2 HH.out hlt
        obtain ⟨c3, c4, _, _⟩ := cells2 HH.out (i := k - 1) (by omega)
        generalize hx : d[k]! = x at c1 c2
        generalize hy : d[k - 1]! = y at c3 c4
        have B := Lib.hid (And.intro hx hy)
        clear hx hy
        by_cases hdup : x = y
        · subst hdup
          go_wp2_with fail
          go_quiet (fail)
          go_wp2
          clear c1 c2 c3 c4
          go_loopg [3, 5] d.size (fun g s3 s5 wr => ∃ (kk k2 q2 : Nat) (dk : Array Ky), s3 = .int .i64 kk ∧ s5 = .int .i64 k2 ∧ 1 ≤ k2 ∧ k + k2 ≤ d.size ∧ d.size - (k + k2) ≤ g ∧ wr = putRowK encK 2 (Sort.ahead w q2) blk off dk ∧ CompInv d (k + k2) kk dk)
          case atStart =>
            refine ⟨k, 1, q + nq, d, rfl, rfl, Nat.le_refl _, by omega, by omega, (putRowK_self encK 2 (Sort.ahead w (q + nq)) blk off d (holdsK_ahead encK 2 w (q + nq) blk off d HH.out)).symm, CompInv.start A.out (keeps_neg (by omega) (by rw [B.out.1, B.out.2]))⟩
          case round =>
            obtain ⟨kk, k2, q2, dk, rfl, rfl, h1, hle, hg2, hwr, hI⟩ := hrel
            have hkk := hI.lt
            have hds := hI.size
            have hHk : HoldsK encK 2 wr blk off dk := by rw [hwr]; exact holdsK_putRowK encK 2 _ blk off d dk (holdsK_ahead encK 2 w q2 blk off d HH.out) hds
            have W2 := Lib.hid hwr
            have I2 := Lib.hid hI
            clear hwr
            by_cases hlt2 : k + k2 < d.size
            · obtain ⟨m1, m2, _, _⟩ := cells2 hHk (i := k + k2) (by omega)
              obtain ⟨p1, p2, _, _⟩ := cells2 hHk (i := k + k2 - 1) (by omega)
              obtain ⟨t1, t2, t3, t4⟩ := cells2 hHk (i := kk) (by omega)
              rw [hI.high (k + k2) (by omega), show off + (k + k2) * 2 = off + k * 2 + k2 * 2 by omega] at m1 m2
              rw [hI.high (k + k2 - 1) (by omega), show off + (k + k2 - 1) * 2 = off + k * 2 + (k2 - 1) * 2 by omega] at p1 p2
              clear hHk hI
              generalize hu : d[k + k2]! = u at m1 m2
              generalize hv : d[k + k2 - 1]! = v at p1 p2
              generalize dk[kk]! = old at t1 t2
              have C := Lib.hid (And.intro hu hv)
              clear hu hv
              by_cases huv : u = v
              · subst huv
                go_wp2_with fail
                go_quiet (fail)
                go_wp2
                go_roundg (d.size - (k + (k2 + 1)))
                case measure => omega
                case rel => exact ⟨kk, k2 + 1, q2 + nq, dk, rfl, by go_num, by omega, by omega, Nat.le_refl _, by rw [W2.out]; exact putRowK_drewN encK 2 w q2 nq blk off dk, I2.out.skip (keeps_neg (by omega) (by rw [C.out.1, C.out.2]))⟩
              · have hkeep := Lib.hid (keeps_pos (d := d) (m := k + k2) (by rw [C.out.1, C.out.2]; exact huv))
                by_cases h1 : u.1 = v.1
                · have hh : ((u.2 : Int) == (v.2 : Int)) = false := by
                    have : u.2 ≠ v.2 := fun h2 => huv (Prod.ext h1 h2)
                    simp; omega
                  rw [← h1] at p1
                  clear huv h1
                  go_wp2_with fail
                  go_quiet (fail)
                  go_wp2
                  go_roundg (d.size - (k + (k2 + 1)))
                  case measure => omega
                  case rel => exact ⟨kk + 1, k2 + 1, q2 + nq, dk.setIfInBounds kk u, by go_num, by go_num, by omega, by omega, Nat.le_refl _, store_keys (by omega) W2.out u, by have := I2.out.keep hlt2 hkeep.out; rwa [C.out.1] at this⟩
                · have hh : ((u.1 : Int) == (v.1 : Int)) = false := by simp; omega
                  clear huv h1
                  go_wp2_with fail
                  go_quiet (fail)
                  go_wp2
                  go_roundg (d.size - (k + (k2 + 1)))
                  case measure => omega
                  case rel => exact ⟨kk + 1, k2 + 1, q2 + nq, dk.setIfInBounds kk u, by go_num, by go_num, by omega, by omega, Nat.le_refl _, store_keys (by omega) W2.out u, by have := I2.out.keep hlt2 hkeep.out; rwa [C.out.1] at this⟩
            · have hend : k + k2 = d.size := by omega
              have hcl : ∀ ty, (Builtin.clear_ #[70] ty #[.slice (some ⟨blk, off + kk * 2, none⟩) (d.size - kk) (cap - kk)]).run Tryz.prog wr = .ok (.tuple #[]) (wr.setCells blk (off + kk * 2) (List.replicate ((d.size - kk) * 2) (.int .u64 0))) :=
                fun ty => run_clear_keys wr ty blk (off + kk * 2) _ _ (by omega)
                  (fun j hj => by rw [Nat.add_assoc, (hHk (kk * 2 + j) (by simp; omega)).1]; rfl) (fun j hj => by rw [Nat.add_assoc]; exact (hHk (kk * 2 + j) (by simp; omega)).2)
              clear hHk hI
              go_wp2
              go_ret
              have hI := I2.out
              rw [hend] at hI
              rw [W2.out]
              exact compact_done hI _
        · have hrel' : ∀ j, j < k + 1 → keeps d j = true := fun j hj => by
            by_cases e : j = k
            · subst e
              exact keeps_pos (by rw [B.out.1, B.out.2]; exact hdup)
            · exact A.out j (by omega)
          have HR := Lib.hid hrel'
          clear hrel'
          by_cases h1 : x.1 = y.1
          · have hh : ((x.2 : Int) == (y.2 : Int)) = false := by
              have : x.2 ≠ y.2 := fun h2 => hdup (Prod.ext h1 h2)
              simp; omega
            rw [← h1] at c3
            clear hdup h1
            go_wp2_with fail
            go_quiet (fail)
            go_wp2
            go_roundg (d.size - (k + 1))
            case measure => omega
            case rel => exact ⟨k + 1, q + nq, by omega, by omega, Nat.le_refl _, by go_num, rfl, HR.out⟩
          · have hh : ((x.1 : Int) == (y.1 : Int)) = false := by simp; omega
            clear hdup h1
            go_wp2_with fail
            go_quiet (fail)
            go_wp2
            go_roundg (d.size - (k + 1))
            case measure => omega
            case rel => exact ⟨k + 1, q + nq, by omega, by omega, Nat.le_refl _, by go_num, rfl, HR.out⟩
      · obtain rfl : k = d.size := by omega
        go_wp2
        go_ret
        exact compact_same HH.out A.out _ q
end

end Go.Proofs.YtfegielnmdppgaaGreat
