/- Walks of window.Of, At; Walks of sat.Ceil and window.Merge; A cut's Stat and Total. -/
import Derived.Test.YtmniiodpbebnmaaGreatJ38
import Derived.Deep.DeepCutAuto
import Derived.Test.YtmniiodpbebnmaaGreatJ36
namespace Go.Proofs.YtmniiodpbebnmaaGreat

section
set_option linter.unusedSimpArgs false
set_option linter.unusedVariables false
open Go.RowKit Go.Lib

set_option maxRecDepth 100000 in
set_option maxHeartbeats 2000000 in
theorem winOf_any (v : Value) (l : List Smp) (w : World) (hv : RowIn 2 smpC w v l) (hl : l.length ≤ 1000000) (hi : smpI l) :
    Calls Tryz.prog 196 #[v] w fun e w' => e = .returned (stV (statN (valsW l))) ∧ Below w.heap.size w w' := by
  have CV := Lib.hid (fun W (hW : Below w.heap.size w W) => winVals_any v l W (hv.below hW) hl)
  have hvi := vals_i64 hi
  have hvl : (valsW l).length ≤ 1000000 := by rw [vals_len]; exact hl
  have HLL := Lib.hid hvl
  have HVI := Lib.hid hvi
  have hl9 : (valsW l).length ≤ 9223372036854775807 := by omega
  clear hv hi hl hvi hvl
  generalize valsW l = n at *
  by_cases hne : n = []
  · subst hne
    have HST := Lib.hid (show statN [] = st0 from rfl)
    have q2 : (((([] : List Int).length : Nat) : Int) == 0) = true := rfl
    clear hl9
    go_enter Tryz.func196, Tryz.ntmps196
    go_wp2_with (first
      | (go_at_call 235
         refine calls_named ?_
         intro W1 hW1
         have hb1 : Below w.heap.size w W1 := by rw [hW1]; exact balloc (Below.refl _ _) _
         have hx1 : W1.heap[w.heap.size]? = some (.cells #[.int .i64 0, .int .i64 0, .int .i64 0, .int .i64 0, .int .i64 0] 42 (0, 0)) := by rw [hW1]; exact heap_alloc_new _ _
         clear hW1
         refine (CV.out W1 hb1).mono ?_
         rintro e w2 ⟨A, c, rfl, ho, hb2⟩
         have HX2 := Lib.hid (box_below (w := w) hx1 hb2)
         obtain ⟨e1, e2, e3⟩ := box_cells (Below.refl _ _) HX2.out
         have HB2 := Lib.hid (bthen hb1 hb2)
         clear hb1 hx1 ho hb2))
    have hz2 := setCell_block (i := 4) (v := .int .i64 0) (setCell_block (i := 3) (v := .int .i64 0) (setCell_block (i := 2) (v := .int .i64 0) (setCell_block (i := 1) (v := .int .i64 0) (setCell_block (i := 0) (v := .int .i64 0) HX2.out))))
    obtain ⟨f1, f2, f3⟩ := box_cells (Below.refl _ _) hz2
    refine bodyPost_ret (v := .agg #[.int .i64 0, .int .i64 0, .int .i64 0, .int .i64 0, .int .i64 0]) (by simp [results, Tryz.results196, go_sem, f1]) rfl ⟨by rw [HST.out]; rfl, ((((HB2.out.setCell (Nat.le_refl _) _).setCell (Nat.le_refl _) _).setCell (Nat.le_refl _) _).setCell (Nat.le_refl _) _).setCell (Nat.le_refl _) _⟩
  · have hp : 0 < n.length := List.length_pos_iff.2 hne
    have HST := Lib.hid (show statN n = ⟨n.length, sumE n 0, minL n, maxL n, meanN n⟩ by unfold statN; rw [if_neg hne])
    have q0 : ¬ (n.length : Int) = 0 := by omega
    have q1 : ((n.length : Int) == 0) = false := by simpa using hne
    have CS := Lib.hid (fun v W (h : RowIn 1 nmC W v n) => satSum_any v n W h HLL.out (fun m hm => by have := HVI.out m hm; unfold I64; omega))
    have CMi := Lib.hid (fun v W (h : RowIn 1 nmC W v n) => slMin_any v n W h HLL.out hne)
    have CMa := Lib.hid (fun v W (h : RowIn 1 nmC W v n) => slMax_any v n W h HLL.out hne)
    have CMe := Lib.hid (fun v W (h : RowIn 1 nmC W v n) => wideMean_any v n W h HLL.out HVI.out)
    generalize sumE n 0 = s1 at CS HST
    generalize minL n = s2 at CMi HST
    generalize maxL n = s3 at CMa HST
    generalize meanN n = s4 at CMe HST
    clear hne hp
    go_enter Tryz.func196, Tryz.ntmps196
    go_wp2_with (first
      | (go_at_call 235
         refine calls_named ?_
         intro W1 hW1
         have hb1 : Below w.heap.size w W1 := by rw [hW1]; exact balloc (Below.refl _ _) _
         have hx1 : W1.heap[w.heap.size]? = some (.cells #[.int .i64 0, .int .i64 0, .int .i64 0, .int .i64 0, .int .i64 0] 42 (0, 0)) := by rw [hW1]; exact heap_alloc_new _ _
         clear hW1
         refine (CV.out W1 hb1).mono ?_
         rintro e w2 ⟨A, c, rfl, ho, hb2⟩
         have HX2 := Lib.hid (box_below (w := w) hx1 hb2)
         obtain ⟨e1, e2, e3⟩ := box_cells (Below.refl _ _) HX2.out
         have HB2 := Lib.hid (bthen hb1 hb2)
         have HR2 := Lib.hid (ho.row eNm)
         clear hb1 hx1 ho hb2)
      | (go_at_call 236
         refine (CS.out _ w2 HR2.out).mono ?_
         rintro e w3 ⟨rfl, rfl⟩)
      | (go_at_call 237
         refine (CMi.out _ w2 HR2.out).mono ?_
         rintro e w3 ⟨rfl, rfl⟩)
      | (go_at_call 238
         refine (CMa.out _ w2 HR2.out).mono ?_
         rintro e w3 ⟨rfl, rfl⟩)
      | (go_at_call 239
         refine (CMe.out _ w2 HR2.out).mono ?_
         rintro e w3 ⟨rfl, hb3⟩
         have HX3 := Lib.hid (box_below (w := w) HX2.out hb3)
         obtain ⟨g1, g2, g3⟩ := box_cells (Below.refl _ _) HX3.out
         have HB3 := Lib.hid (bthen HB2.out hb3)
         clear hb3))
    have hz2 := setCell_block (i := 4) (v := .int .i64 s4) (setCell_block (i := 3) (v := .int .i64 s3) (setCell_block (i := 2) (v := .int .i64 s2) (setCell_block (i := 1) (v := .int .i64 s1) (setCell_block (i := 0) (v := .int .i64 n.length) HX3.out))))
    obtain ⟨f1, f2, f3⟩ := box_cells (Below.refl _ _) hz2
    refine bodyPost_ret (v := .agg #[.int .i64 n.length, .int .i64 s1, .int .i64 s2, .int .i64 s3, .int .i64 s4]) (by simp [results, Tryz.results196, go_sem, f1]) rfl ⟨by rw [HST.out]; rfl, ((((HB3.out.setCell (Nat.le_refl _) _).setCell (Nat.le_refl _) _).setCell (Nat.le_refl _) _).setCell (Nat.le_refl _) _).setCell (Nat.le_refl _) _⟩

set_option maxRecDepth 100000 in
set_option maxHeartbeats 2000000 in
theorem winAt_any (v : Value) (l : List Smp) (til wd : Int) (w : World) (hv : RowIn 2 smpC w v l) (hl : l.length ≤ 1000000) (hi : smpI l) (ht : I64 til) (hw : I64 wd) :
    Calls Tryz.prog 134 #[v, .int .i64 til, .int .i64 wd] w fun e w' => e = .returned (stV (statW l til wd)) ∧ Below w.heap.size w w' := by
  have CF := Lib.hid (fun W => winFrom_any til wd W ht hw)
  have CC := Lib.hid (fun W (hW : Below w.heap.size w W) => winCut_any v l (fromW til wd) til W (hv.below hW) hl)
  have COf := Lib.hid (fun v W (h : RowIn 2 smpC W v (winC l (fromW til wd) til)) => winOf_any v _ W h (Nat.le_trans (cut_len _ _ _) hl) (hi.cut _ _))
  unfold statW
  generalize winC l (fromW til wd) til = m at CC COf ⊢
  generalize fromW til wd = f at CF CC
  generalize statN (valsW m) = s at COf ⊢
  obtain ⟨s0, s1, s2, s3, s4⟩ := s
  unfold stV at COf ⊢
  simp only at COf ⊢
  clear hv hl hi ht hw
  go_enter Tryz.func134, Tryz.ntmps134
  go_wp2_with (first
    | (go_at_call 198
       refine calls_named ?_
       intro W1 hW1
       have HB1 := Lib.hid (show Below w.heap.size w W1 by rw [hW1]; exact balloc (Below.refl _ _) _)
       have HX1 := Lib.hid (show W1.heap[w.heap.size]? = some (.cells #[.int .i64 0, .int .i64 0, .int .i64 0, .int .i64 0, .int .i64 0] 42 (0, 0)) by rw [hW1]; exact heap_alloc_new _ _)
       clear hW1
       refine (CF.out W1).mono ?_
       rintro e w2 ⟨rfl, rfl⟩)
    | (go_at_call 197
       refine (CC.out W1 HB1.out).mono ?_
       rintro e w2 ⟨A, c, rfl, ho, hb2⟩
       have HX2 := Lib.hid (box_below (w := w) HX1.out hb2)
       have HB2 := Lib.hid (bthen HB1.out hb2)
       have HR2 := Lib.hid (ho.row eSmp)
       clear ho hb2)
    | (go_at_call 196
       refine (COf.out _ w2 HR2.out).mono ?_
       rintro e w3 ⟨rfl, hb3⟩
       have HX3 := Lib.hid (box_below (w := w) HX2.out hb3)
       obtain ⟨g1, g2, g3⟩ := box_cells (Below.refl _ _) HX3.out
       have HB3 := Lib.hid (bthen HB2.out hb3)
       clear hb3))
  have hz2 := setCell_block (i := 4) (v := .int .i64 s4) (setCell_block (i := 3) (v := .int .i64 s3) (setCell_block (i := 2) (v := .int .i64 s2) (setCell_block (i := 1) (v := .int .i64 s1) (setCell_block (i := 0) (v := .int .i64 s0) HX3.out))))
  obtain ⟨f1, f2, f3⟩ := box_cells (Below.refl _ _) hz2
  exact bodyPost_ret (v := .agg #[.int .i64 s0, .int .i64 s1, .int .i64 s2, .int .i64 s3, .int .i64 s4]) (by simp [results, Tryz.results134, go_sem, f1]) rfl ⟨rfl, ((((HB3.out.setCell (Nat.le_refl _) _).setCell (Nat.le_refl _) _).setCell (Nat.le_refl _) _).setCell (Nat.le_refl _) _).setCell (Nat.le_refl _) _⟩
end

section
set_option linter.unusedSimpArgs false
set_option linter.unusedVariables false
open Go.RowKit Go.Lib
end

section
set_option linter.unusedSimpArgs false
set_option linter.unusedVariables false
open Go.RowKit Go.Lib Go.Sort

/-- What a cut tells of a key. -/
def cutSt (l : List En) (nd : En → Nd) (til wd : Int) (k : Ky) : StD := match findE l k with | none => st0 | some n => statW (nd (k, n)).smp til wd
def SmpOk (l : List En) (nd : En → Nd) : Prop := ∀ x ∈ l, smpI (nd x).smp
set_option maxRecDepth 100000 in
set_option maxHeartbeats 4000000 in
theorem cutStat_any (C : Nat) (ep : Int) (l : List En) (nd : En → Nd) (rs rh : Nat) (k : Ky) (til wd : Int) (w : World) (h : CutIn w C ep l) (hr : Ris l) (hl : l.length ≤ 1000) (hn : NodesOf w l nd rs rh) (hs : SmpOk l nd) (hrs : rs ≤ 256) (ht : I64 til) (hw : I64 wd) :
    Calls Tryz.prog 155 #[.pointer (some ⟨C, 0, none⟩), .agg #[.int .u64 k.1, .int .u64 k.2], .int .i64 til, .int .i64 wd] w fun e w' => e = .returned (.tuple #[stV (cutSt l nd til wd k), .bool (findE l k).isSome]) ∧ Below w.heap.size w w' := by
  have CG := Lib.hid (fun W (hW : Below w.heap.size w W) => cutGet_any C ep l k W (h.below hW) hr hl)
  unfold cutSt
  cases hf : findE l k with
  | none =>
    have e0 : ptr (none : Option Nat) = .pointer none := rfl
    rw [hf, e0] at CG
    simp only [Option.isSome_none] at CG ⊢
    clear h hr hl hn hs hf e0
    go_enter Tryz.func155, Tryz.ntmps155
    go_wp2_with (first
      | (go_at_call 100
         refine calls_named ?_
         intro W1 hW1
         have hb1 : Below w.heap.size w W1 := by rw [hW1]; exact balloc (balloc (Below.refl _ _) _) _
         have hx1 : W1.heap[w.heap.size + 1]? = some (.cells #[.int .i64 0, .int .i64 0, .int .i64 0, .int .i64 0, .int .i64 0] 42 (0, 0)) := by rw [hW1]; exact box_new _ _ _
         clear hW1
         refine (CG.out W1 hb1).mono ?_
         rintro e w2 ⟨rfl, hb2⟩
         have HX2 := Lib.hid (box_below (w := w) hx1 hb2)
         obtain ⟨e1, e2, e3⟩ := box_cells (Below.refl _ _) HX2.out
         have HB2 := Lib.hid (bthen hb1 hb2)
         clear hb1 hx1 hb2))
    have hz2 := setCell_block (i := 4) (v := .int .i64 0) (setCell_block (i := 3) (v := .int .i64 0) (setCell_block (i := 2) (v := .int .i64 0) (setCell_block (i := 1) (v := .int .i64 0) (setCell_block (i := 0) (v := .int .i64 0) HX2.out))))
    obtain ⟨f1, f2, f3⟩ := box_cells (Below.refl _ _) hz2
    refine bodyPost_ret (v := .tuple #[.agg #[.int .i64 0, .int .i64 0, .int .i64 0, .int .i64 0, .int .i64 0], .bool false]) (by simp [results, Tryz.results155, go_sem, f1]) rfl ⟨rfl, ?_⟩
    exact ((((HB2.out.setCell (by simp) _).setCell (by simp) _).setCell (by simp) _).setCell (by simp) _).setCell (by simp) _
  | some n =>
    have e0 : ptr (some n) = .pointer (some ⟨n, 0, none⟩) := rfl
    rw [hf, e0] at CG
    simp only [Option.isSome_some] at CG ⊢
    have hm := findE_mem hf
    obtain ⟨fp, hnd⟩ := hn _ hm
    have hsm := hs _ hm
    have CSm := Lib.hid (fun W (hW : Below w.heap.size w W) => nodeSamples_any n (nd (k, n)) rs rh fp W (hnd.below hW) hrs)
    have hlen : (nd (k, n)).smp.length ≤ 1000000 := by have := hnd.ok.len; omega
    generalize (nd (k, n)).smp = sm at hsm CSm hlen ⊢
    have CAt := Lib.hid (fun v W (hv : RowIn 2 smpC W v sm) => winAt_any v sm til wd W hv hlen hsm ht hw)
    generalize statW sm til wd = s at CAt ⊢
    obtain ⟨s0, s1, s2, s3, s4⟩ := s
    unfold stV at CAt ⊢
    simp only at CAt ⊢
    clear h hr hl hn hs hf e0 hm hnd hsm hlen
    go_enter Tryz.func155, Tryz.ntmps155
    go_wp2_with (first
      | (go_at_call 100
         refine calls_named ?_
         intro W1 hW1
         have hb1 : Below w.heap.size w W1 := by rw [hW1]; exact balloc (balloc (Below.refl _ _) _) _
         have hx1 : W1.heap[w.heap.size + 1]? = some (.cells #[.int .i64 0, .int .i64 0, .int .i64 0, .int .i64 0, .int .i64 0] 42 (0, 0)) := by rw [hW1]; exact box_new _ _ _
         clear hW1
         refine (CG.out W1 hb1).mono ?_
         rintro e w2 ⟨rfl, hb2⟩
         have HX2 := Lib.hid (box_below (w := w) hx1 hb2)
         have HB2 := Lib.hid (bthen hb1 hb2)
         clear hb1 hx1 hb2)
      | (go_at_call 107
         refine (CSm.out w2 HB2.out).mono ?_
         rintro e w3 ⟨A, c, f, rfl, hr, _, hb3⟩
         have HR3 := Lib.hid (hr.row eSmp)
         have HX3 := Lib.hid (box_below (w := w) HX2.out hb3)
         have HB3 := Lib.hid (bthen HB2.out hb3)
         clear hr hb3)
      | (go_at_call 134
         refine (CAt.out _ w3 HR3.out).mono ?_
         rintro e w4 ⟨rfl, hb4⟩
         have HX4 := Lib.hid (box_below (w := w) HX3.out hb4)
         obtain ⟨e1, e2, e3⟩ := box_cells (Below.refl _ _) HX4.out
         have HB4 := Lib.hid (bthen HB3.out hb4)
         clear hb4))
    have hz2 := setCell_block (i := 4) (v := .int .i64 s4) (setCell_block (i := 3) (v := .int .i64 s3) (setCell_block (i := 2) (v := .int .i64 s2) (setCell_block (i := 1) (v := .int .i64 s1) (setCell_block (i := 0) (v := .int .i64 s0) HX4.out))))
    obtain ⟨f1, f2, f3⟩ := box_cells (Below.refl _ _) hz2
    refine bodyPost_ret (v := .tuple #[.agg #[.int .i64 s0, .int .i64 s1, .int .i64 s2, .int .i64 s3, .int .i64 s4], .bool true]) (by simp [results, Tryz.results155, go_sem, f1]) rfl ⟨rfl, ?_⟩
    exact ((((HB4.out.setCell (by simp) _).setCell (by simp) _).setCell (by simp) _).setCell (by simp) _).setCell (by simp) _
end

end Go.Proofs.YtmniiodpbebnmaaGreat
