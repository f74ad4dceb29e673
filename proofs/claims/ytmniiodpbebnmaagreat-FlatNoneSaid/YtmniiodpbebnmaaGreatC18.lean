/- Walks of window.Of, At; Walks of sat.Ceil and window.Merge; A cut's Stat and Total; A store in memory, and the world of the reference that it tells: the predicate and its frame; A key's stripe is one of them (plain). -/
import Derived.Test.YtmniiodpbebnmaaGreatC17
import Derived.Deep.DeepCutAuto
import Derived.Test.YtmniiodpbebnmaaGreatC16
import Derived.Test.YtmniiodpbebnmaaGreatC11
import Derived.Test.YtmniiodpbebnmaaGreatC14
import Derived.Maps.Keyed
import Derived.Test.YtmniiodpbebnmaaGreatC10
namespace Go.Proofs.YtmniiodpbebnmaaGreat

section
set_option linter.unusedSimpArgs false
set_option linter.unusedVariables false
open Go.RowKit Go.Lib

set_option maxRecDepth 100000 in
set_option maxHeartbeats 2000000 in
theorem winOf_any (v : Value) (l : List Smp) (w : World) (hv : RowIn 2 smpC w v l) (hl : l.length ≤ 1000000) (hi : smpI l) :
    Calls Tryz.prog 196 #[v] w fun e w' => e = .returned (stV (statN (valsW l))) ∧ Below w.heap.size w w' := by
  have CV := Lib.hid (fun W (hW : Below w.heap.size w W) => winVals_any v l W (hv.below hW) hl)
  have hvi := vals_i64 hi
  have hvl : (valsW l).length ≤ 1000000 := by rw [vals_len]; exact hl
  have HLL := Lib.hid hvl
  have HVI := Lib.hid hvi
  have hl9 : (valsW l).length ≤ 9223372036854775807 := by omega
  clear hv hi hl hvi hvl
  generalize valsW l = n at *
  by_cases hne : n = []
  · subst hne
    have HST := Lib.hid (show statN [] = st0 from rfl)
    have q2 : (((([] : List Int).length : Nat) : Int) == 0) = true := rfl
    clear hl9
    go_enter Tryz.func196, Tryz.ntmps196
    go_wp2_with (first
      | (go_at_call 235
         refine calls_named ?_
         intro W1 hW1
         have hb1 : Below w.heap.size w W1 := by rw [hW1]; exact balloc (Below.refl _ _) _
         have hx1 : W1.heap[w.heap.size]? = some (.cells #[.int .i64 0, .int .i64 0, .int .i64 0, .int .i64 0, .int .i64 0] 42 (0, 0)) := by rw [hW1]; exact heap_alloc_new _ _
         clear hW1
         refine (CV.out W1 hb1).mono ?_
         rintro e w2 ⟨A, c, rfl, ho, hb2⟩
         have HX2 := Lib.hid (box_below (w := w) hx1 hb2)
         obtain ⟨e1, e2, e3⟩ := box_cells (Below.refl _ _) HX2.out
         have HB2 := Lib.hid (bthen hb1 hb2)
         clear hb1 hx1 ho hb2))
    have hz2 := setCell_block (i := 4) (v := .int .i64 0) (setCell_block (i := 3) (v := .int .i64 0) (setCell_block (i := 2) (v := .int .i64 0) (setCell_block (i := 1) (v := .int .i64 0) (setCell_block (i := 0) (v := .int .i64 0) HX2.out))))
    obtain ⟨f1, f2, f3⟩ := box_cells (Below.refl _ _) hz2
    refine bodyPost_ret (v := .agg #[.int .i64 0, .int .i64 0, .int .i64 0, .int .i64 0, .int .i64 0]) (by simp [results, Tryz.results196, go_sem, f1]) rfl ⟨by rw [HST.out]; rfl, ((((HB2.out.setCell (Nat.le_refl _) _).setCell (Nat.le_refl _) _).setCell (Nat.le_refl _) _).setCell (Nat.le_refl _) _).setCell (Nat.le_refl _) _⟩
  · have hp : 0 < n.length := List.length_pos_iff.2 hne
    have HST := Lib.hid (show statN n = ⟨n.length, sumE n 0, minL n, maxL n, meanN n⟩ by unfold statN; rw [if_neg hne])
    have q0 : ¬ (n.length : Int) = 0 := by omega
    have q1 : ((n.length : Int) == 0) = false := by simpa using hne
    have CS := Lib.hid (fun v W (h : RowIn 1 nmC W v n) => satSum_any v n W h HLL.out (fun m hm => by have := HVI.out m hm; unfold I64; omega))
    have CMi := Lib.hid (fun v W (h : RowIn 1 nmC W v n) => slMin_any v n W h HLL.out hne)
    have CMa := Lib.hid (fun v W (h : RowIn 1 nmC W v n) => slMax_any v n W h HLL.out hne)
    have CMe := Lib.hid (fun v W (h : RowIn 1 nmC W v n) => wideMean_any v n W h HLL.out HVI.out)
    generalize sumE n 0 = s1 at CS HST
    generalize minL n = s2 at CMi HST
    generalize maxL n = s3 at CMa HST
    generalize meanN n = s4 at CMe HST
    clear hne hp
    go_enter Tryz.func196, Tryz.ntmps196
    go_wp2_with (first
      | (go_at_call 235
         refine calls_named ?_
         intro W1 hW1
         have hb1 : Below w.heap.size w W1 := by rw [hW1]; exact balloc (Below.refl _ _) _
         have hx1 : W1.heap[w.heap.size]? = some (.cells #[.int .i64 0, .int .i64 0, .int .i64 0, .int .i64 0, .int .i64 0] 42 (0, 0)) := by rw [hW1]; exact heap_alloc_new _ _
         clear hW1
         refine (CV.out W1 hb1).mono ?_
         rintro e w2 ⟨A, c, rfl, ho, hb2⟩
         have HX2 := Lib.hid (box_below (w := w) hx1 hb2)
         obtain ⟨e1, e2, e3⟩ := box_cells (Below.refl _ _) HX2.out
         have HB2 := Lib.hid (bthen hb1 hb2)
         have HR2 := Lib.hid (ho.row eNm)
         clear hb1 hx1 ho hb2)
      | (go_at_call 236
         refine (CS.out _ w2 HR2.out).mono ?_
         rintro e w3 ⟨rfl, rfl⟩)
      | (go_at_call 237
         refine (CMi.out _ w2 HR2.out).mono ?_
         rintro e w3 ⟨rfl, rfl⟩)
      | (go_at_call 238
         refine (CMa.out _ w2 HR2.out).mono ?_
         rintro e w3 ⟨rfl, rfl⟩)
      | (go_at_call 239
         refine (CMe.out _ w2 HR2.out).mono ?_
         rintro e w3 ⟨rfl, hb3⟩
         have HX3 := Lib.hid (box_below (w := w) HX2.out hb3)
         obtain ⟨g1, g2, g3⟩ := box_cells (Below.refl _ _) HX3.out
         have HB3 := Lib.hid (bthen HB2.out hb3)
         clear hb3))
    have hz2 := setCell_block (i := 4) (v := .int .i64 s4) (setCell_block (i := 3) (v := .int .i64 s3) (setCell_block (i := 2) (v := .int .i64 s2) (setCell_block (i := 1) (v := .int .i64 s1) (setCell_block (i := 0) (v := .int .i64 n.length) HX3.out))))
    obtain ⟨f1, f2, f3⟩ := box_cells (Below.refl _ _) hz2
    refine bodyPost_ret (v := .agg #[.int .i64 n.length, .int .i64 s1, .int .i64 s2, .int .i64 s3, .int .i64 s4]) (by simp [results, Tryz.results196, go_sem, f1]) rfl ⟨by rw [HST.out]; rfl, ((((HB3.out.setCell (Nat.le_refl _) _).setCell (Nat.le_refl _) _).setCell (Nat.le_refl _) _).setCell (Nat.le_refl _) _).setCell (Nat.le_refl _) _⟩

set_option maxRecDepth 100000 in
set_option maxHeartbeats 2000000 in
theorem winAt_any (v : Value) (l : List Smp) (til wd : Int) (w : World) (hv : RowIn 2 smpC w v l) (hl : l.length ≤ 1000000) (hi : smpI l) (ht : I64 til) (hw : I64 wd) :
    Calls Tryz.prog 134 #[v, .int .i64 til, .int .i64 wd] w fun e w' => e = .returned (stV (statW l til wd)) ∧ Below w.heap.size w w' := by
  have CF := Lib.hid (fun W => winFrom_any til wd W ht hw)
  have CC := Lib.hid (fun W (hW : Below w.heap.size w W) => winCut_any v l (fromW til wd) til W (hv.below hW) hl)
  have COf := Lib.hid (fun v W (h : RowIn 2 smpC W v (winC l (fromW til wd) til)) => winOf_any v _ W h (Nat.le_trans (cut_len _ _ _) hl) (hi.cut _ _))
  unfold statW
  generalize winC l (fromW til wd) til = m at CC COf ⊢
  generalize fromW til wd = f at CF CC
  generalize statN (valsW m) = s at COf ⊢
  obtain ⟨s0, s1, s2, s3, s4⟩ := s
  unfold stV at COf ⊢
  simp only at COf ⊢
  clear hv hl hi ht hw
  go_enter Tryz.func134, Tryz.ntmps134
  go_wp2_with (first
    | (go_at_call 198
       refine calls_named ?_
       intro W1 hW1
       have HB1 := Lib.hid (show Below w.heap.size w W1 by rw [hW1]; exact balloc (Below.refl _ _) _)
       have HX1 := Lib.hid (show W1.heap[w.heap.size]? = some (.cells #[.int .i64 0, .int .i64 0, .int .i64 0, .int .i64 0, .int .i64 0] 42 (0, 0)) by rw [hW1]; exact heap_alloc_new _ _)
       clear hW1
       refine (CF.out W1).mono ?_
       rintro e w2 ⟨rfl, rfl⟩)
    | (go_at_call 197
       refine (CC.out W1 HB1.out).mono ?_
       rintro e w2 ⟨A, c, rfl, ho, hb2⟩
       have HX2 := Lib.hid (box_below (w := w) HX1.out hb2)
       have HB2 := Lib.hid (bthen HB1.out hb2)
       have HR2 := Lib.hid (ho.row eSmp)
       clear ho hb2)
    | (go_at_call 196
       refine (COf.out _ w2 HR2.out).mono ?_
       rintro e w3 ⟨rfl, hb3⟩
       have HX3 := Lib.hid (box_below (w := w) HX2.out hb3)
       obtain ⟨g1, g2, g3⟩ := box_cells (Below.refl _ _) HX3.out
       have HB3 := Lib.hid (bthen HB2.out hb3)
       clear hb3))
  have hz2 := setCell_block (i := 4) (v := .int .i64 s4) (setCell_block (i := 3) (v := .int .i64 s3) (setCell_block (i := 2) (v := .int .i64 s2) (setCell_block (i := 1) (v := .int .i64 s1) (setCell_block (i := 0) (v := .int .i64 s0) HX3.out))))
  obtain ⟨f1, f2, f3⟩ := box_cells (Below.refl _ _) hz2
  exact bodyPost_ret (v := .agg #[.int .i64 s0, .int .i64 s1, .int .i64 s2, .int .i64 s3, .int .i64 s4]) (by simp [results, Tryz.results134, go_sem, f1]) rfl ⟨rfl, ((((HB3.out.setCell (Nat.le_refl _) _).setCell (Nat.le_refl _) _).setCell (Nat.le_refl _) _).setCell (Nat.le_refl _) _).setCell (Nat.le_refl _) _⟩
end

section
set_option linter.unusedSimpArgs false
set_option linter.unusedVariables false
open Go.RowKit Go.Lib

theorem tdiv_pos {a b : Int} (ha : 0 ≤ a) : a.tdiv b = a / b := Int.tdiv_eq_ediv_of_nonneg ha
theorem ceil_hi {a b : Int} (hb : 1 ≤ b) (h : 0 < a.tmod b) : a.tdiv b + 1 = ceilI a b := by
  have ha : 0 < a := by
    by_cases h0 : 0 < a
    · exact h0
    · exfalso
      have h1 := Int.mul_tdiv_add_tmod a b
      have : a.tmod b ≤ 0 := by
        rw [← Int.neg_neg a, Int.neg_tmod]
        have := Int.tmod_nonneg b (show 0 ≤ -a by omega)
        omega
      omega
  unfold ceilI
  rw [if_neg (by omega), if_neg (by omega), tdiv_pos (by omega), tdiv_pos (by omega)]
  rw [Int.tmod_eq_emod_of_nonneg (by omega)] at h
  have h1 := Int.mul_ediv_add_emod a b
  have h2 := Int.emod_lt_of_pos a (show 0 < b by omega)
  have e : a - 1 = (a % b - 1) + b * (a / b) := by omega
  have h3 : (a % b - 1) / b = 0 := Int.ediv_eq_zero_of_lt (by omega) (by omega)
  have h4 : (a - 1) / b = a / b := by
    rw [e, Int.add_mul_ediv_left _ _ (by omega), h3]
    omega
  omega
theorem ceil_lo {a b : Int} (hb : 1 ≤ b) (h : ¬ 0 < a.tmod b) : a.tdiv b = ceilI a b := by
  unfold ceilI
  rw [if_neg (by omega)]
  by_cases h0 : a ≤ 0
  · rw [if_pos h0]
  · rw [if_neg h0, tdiv_pos (by omega), tdiv_pos (by omega)]
    rw [Int.tmod_eq_emod_of_nonneg (by omega)] at h
    have h1 := Int.mul_ediv_add_emod a b
    have h2 := Int.emod_nonneg a (show b ≠ 0 by omega)
    have e : a - 1 = (b - 1) + b * (a / b - 1) := by rw [Int.mul_sub]; omega
    have h3 : (b - 1) / b = 0 := Int.ediv_eq_zero_of_lt (by omega) (by omega)
    rw [e, Int.add_mul_ediv_left _ _ (by omega), h3]
    omega

set_option maxRecDepth 100000 in
set_option maxHeartbeats 1000000 in
theorem satCeil_any (a b : Int) (w : World) (ha : I64 a) (hb : I64 b) :
    Calls Tryz.prog 199 #[.int .i64 a, .int .i64 b] w fun e w' => e = .returned (.int .i64 (ceilI a b)) ∧ w' = w := by
  by_cases h1 : b < 1
  · have HC := Lib.hid (show ceilI a b = 0 by unfold ceilI; rw [if_pos h1])
    clear ha hb
    go_enter Tryz.func199, Tryz.ntmps199
    go_wp2
    go_ret
    exact ⟨by rw [HC.out]; rfl, rfl⟩
  · have HI := ceilI_ok (b := b) ha
    have q0 : (b == 0) = false := by simp; omega
    have q1 : ¬ b = 0 := by omega
    have HHI := Lib.hid (fun h : 0 < a.tmod b => ceil_hi (a := a) (b := b) (by omega) h)
    have HLO := Lib.hid (fun h : ¬ 0 < a.tmod b => ceil_lo (a := a) (b := b) (by omega) h)
    have HII := Lib.hid HI
    clear HI ha hb
    go_enter Tryz.func199, Tryz.ntmps199
    go_wp2
    · rename_i h5
      have h6 := HHI.out h5
      have h7 := HII.out
      rw [← h6] at h7
      go_ret
      refine ⟨ret_int ?_, rfl⟩
      rw [← h6]
      generalize a.tdiv b = q at h7
      unfold wrap64
      unfold I64 at h7
      omega
    · rename_i h5
      have h6 := HLO.out (by omega)
      have h7 := HII.out
      rw [← h6] at h7
      go_ret
      refine ⟨ret_int ?_, rfl⟩
      rw [← h6]
      generalize a.tdiv b = q at h7
      unfold wrap64
      unfold I64 at h7
      omega
end

section
set_option linter.unusedSimpArgs false
set_option linter.unusedVariables false
open Go.RowKit Go.Lib Go.Sort
end

section
set_option linter.unusedSimpArgs false
set_option linter.unusedVariables false
open Go.RowKit Go.Lib Go.Sort

/-! ### One act on a stripe, plainly -/
def mkIt (p : Itm) : It := ⟨p.1, none, 0, none, 0, p.2⟩
theorem mkIt_abs (R : List Itm) : (R.map mkIt).map absI = R := by
  rw [List.map_map]
  exact (List.map_congr_left (fun p _ => rfl)).trans (List.map_id R)
/-! ### Stripes in memory -/
structure St where
  T : Nat
  M : Nat
  ver : Nat
  es : List (KO × NE)
def St.all (s : St) : List Nat := s.T :: s.M :: s.es.flatMap (fun p => p.2.2.2)
def St.fp (s : St) : List Nat := sfp s.T s.M s.es
theorem St.sub (s : St) : ∀ r ∈ s.fp, r ∈ s.all := by
  intro r hr
  simp only [St.fp, sfp, List.mem_cons] at hr
  simp only [St.all, List.mem_cons, List.mem_flatMap]
  rcases hr with rfl | rfl | hr
  · exact .inl rfl
  · exact .inr (.inl rfl)
  · obtain ⟨p, hp, hr⟩ := mem_mfpE.1 hr
    exact .inr (.inr ⟨p, hp, mfp_sub _ _ r hr⟩)
structure StrOk (w : World) (c : Cfg) (rs rh n : Nat) (s : St) (R : List Itm) : Prop where
  at_ : SAt w s.T s.M c s.ver s.es rs rh
  tells : Tells18 (ab s.es) R
  grown : Grown n s.ver (ab s.es)
  ver_ : s.ver ≤ 1000 * n
theorem StrOk.lt {w : World} {c : Cfg} {rs rh n : Nat} {s : St} {R : List Itm} (h : StrOk w c rs rh n s R) : ∀ r ∈ s.all, r < w.heap.size := by
  intro r hr
  simp only [St.all, List.mem_cons, List.mem_flatMap] at hr
  rcases hr with rfl | rfl | ⟨p, hp, hr⟩
  · exact h.at_.ltT
  · exact h.at_.map.lt
  · exact (h.at_.node p hp).lt r hr
theorem StrOk.kept {w w' : World} {c : Cfg} {rs rh n : Nat} {s : St} {R : List Itm} (h : StrOk w c rs rh n s R) (hk : ∀ r ∈ s.all, w'.heap[r]? = w.heap[r]?) : StrOk w' c rs rh n s R :=
  ⟨⟨(hk s.T (by simp [St.all])).trans h.at_.cell, h.at_.map.block (hk s.M (by simp [St.all])), fun p hp => (h.at_.node p hp).kept (fun r hr => hk r (by
    simp only [St.all, List.mem_cons, List.mem_flatMap]
    exact .inr (.inr ⟨p, hp, hr⟩))), h.at_.pair, h.at_.off, h.at_.ne⟩, h.tells, h.grown, h.ver_⟩
theorem Grown.mono {n m ver : Nat} {S : List (KO × Nd)} (h : Grown n ver S) (hm : n ≤ m) : Grown m ver S := ⟨Nat.le_trans h.len hm, fun p hp => Nat.le_trans (h.vers p hp) hm⟩
theorem StrOk.mono {w : World} {c : Cfg} {rs rh n m : Nat} {s : St} {R : List Itm} (h : StrOk w c rs rh n s R) (hm : n ≤ m) : StrOk w c rs rh m s R :=
  ⟨h.at_, h.tells, h.grown.mono hm, by have := h.ver_; omega⟩

/-! ### Cuts in memory -/
/-- A cut that tells these items. -/
def CutHas (P : Nat → Prop) (w : World) (C : Nat) (rs rh : Nat) (ep : Int) (R : List Itm) : Prop :=
  ∃ (A : Option Addr) (cc : Nat) (l : List En), P C ∧ w.heap[C]? = some (.cells #[.int .i64 ep, .slice A l.length cc] 167 (0, 0)) ∧ RowG P 3 enC w (.slice A l.length cc) l ∧ Ris l ∧ l.length ≤ 400 ∧
    (∀ x ∈ l, ∃ y fp z, NodeIn w x.2 y rs rh fp ∧ (∀ r ∈ fp, P r) ∧ findIt R x.1 = some z ∧ sameN y z) ∧ ∀ k, findE l k = none → findIt R k = none
theorem CutHas.keep {P Q : Nat → Prop} {w w' : World} {C rs rh : Nat} {ep : Int} {R : List Itm} (h : CutHas P w C rs rh ep R) (hs : w.heap.size ≤ w'.heap.size) (hk : ∀ b, P b → b < w.heap.size → w'.heap[b]? = w.heap[b]? ∧ Q b) : CutHas Q w' C rs rh ep R := by
  obtain ⟨A, cc, l, h1, h2, h3, h4, h5, h6, h8⟩ := h
  have hC := (Array.getElem?_eq_some_iff.1 h2).1
  refine ⟨A, cc, l, (hk C h1 hC).2, (hk C h1 hC).1.trans h2, ?_, h4, h5, fun x hx => ?_, h8⟩
  · exact ((h3.lt.keepP hs (fun b hb hlt => (hk b hb.1 hlt).1)).imp (fun b hb => (hk b hb.1 hb.2).2))
  · obtain ⟨y, fp, z, a, b, e, f⟩ := h6 x hx
    exact ⟨y, fp, z, a.kept (fun r hr => (hk r (b r hr) (a.lt r hr)).1), fun r hr => (hk r (b r hr) (a.lt r hr)).2, e, f⟩

/-- A cut's number, as a key. -/
abbrev HN := { n : Nat // n ≤ 1000000 }
def hdl (i : Nat) : HN := ⟨min i 1000000, Nat.min_le_right ..⟩
theorem hdl_val {i : Nat} (h : i ≤ 1000000) : (hdl i).1 = i := Nat.min_eq_left h
theorem hdl_inj {i j : Nat} (hi : i ≤ 1000000) (hj : j ≤ 1000000) (h : hdl i = hdl j) : i = j := by
  have := congrArg Subtype.val h
  rwa [hdl_val hi, hdl_val hj] at this
def hdV (x : HN) : Value := .int .i64 (x.1 : Nat)
def blkV (b : Nat) : Value := .pointer (some ⟨b, 0, none⟩)
def stpC (s : St) : List Value := [.pointer (some ⟨s.T, 0, none⟩)]

/-! ### A store in memory -/
structure StoD where
  A : Nat
  cp : Nat
  H : Nat
  L : Nat
  sts : List St
  live : List (HN × Nat)
def StoD.fp (S : Nat) (d : StoD) : List Nat := S :: d.H :: d.L :: d.sts.flatMap St.fp
theorem mem_fp {S : Nat} {d : StoD} {r : Nat} : r ∈ d.fp S ↔ r = S ∨ r = d.H ∨ r = d.L ∨ ∃ s ∈ d.sts, r ∈ s.fp := by
  simp [StoD.fp, List.mem_flatMap]
structure StoreAt (B : Nat → Prop) (w : World) (S : Nat) (c : Cfg) (rs rh n : Nat) (wd : Wd) (d : StoD) : Prop where
  cell : w.heap[S]? = some (.cells #[.slice (some ⟨d.A, 0, none⟩) d.sts.length d.cp, .pointer (some ⟨d.H, 0, none⟩), .int .i64 wd.ep, .bool wd.over] 148 (0, 0))
  row : RowG (fun b => b ∉ d.fp S ∧ B b) 1 stpC w (.slice (some ⟨d.A, 0, none⟩) d.sts.length d.cp) d.sts
  len : d.sts.length = wd.st.length
  str : ∀ (i : Nat) s R, d.sts[i]? = some s → wd.st[i]? = some R → StrOk w c rs rh n s R
  pair : ∀ (i j : Nat) s t, d.sts[i]? = some s → d.sts[j]? = some t → i ≠ j → apart s.all t.all
  off : ∀ s ∈ d.sts, S ∉ s.all ∧ d.H ∉ s.all ∧ d.L ∉ s.all
  ne : S ≠ d.H ∧ S ≠ d.L ∧ d.H ≠ d.L
  tab : w.heap[d.H]? = some (.cells #[.map (some d.L), .int .i64 ((wd.cuts.length + 1 : Nat) : Int)] 229 (0, 0))
  live : MapIn hdV blkV w d.L d.live
  keys : ∀ p ∈ d.live, 1 ≤ p.1.1 ∧ p.1.1 ≤ wd.cuts.length
  cut : ∀ (i : Nat) q, wd.cuts[i]? = some q → (q.freed = true ∧ findM d.live (hdl (i + 1)) = none) ∨ (q.freed = false ∧ ∃ C, findM d.live (hdl (i + 1)) = some C ∧ CutHas (fun b => b ∉ d.fp S ∧ B b) w C rs rh q.ep q.items)
  cnt : d.live.length = liveT (tabW wd)
  bS : B S ∧ B d.H ∧ B d.L
  bs : ∀ s ∈ d.sts, ∀ r ∈ s.all, B r
theorem StoreAt.ltS {B : Nat → Prop} {w : World} {S : Nat} {c : Cfg} {rs rh n : Nat} {wd : Wd} {d : StoD} (h : StoreAt B w S c rs rh n wd d) : S < w.heap.size := (Array.getElem?_eq_some_iff.1 h.cell).1
theorem StoreAt.ltH {B : Nat → Prop} {w : World} {S : Nat} {c : Cfg} {rs rh n : Nat} {wd : Wd} {d : StoD} (h : StoreAt B w S c rs rh n wd d) : d.H < w.heap.size := (Array.getElem?_eq_some_iff.1 h.tab).1
theorem StoreAt.get {B : Nat → Prop} {w : World} {S : Nat} {c : Cfg} {rs rh n : Nat} {wd : Wd} {d : StoD} (h : StoreAt B w S c rs rh n wd d) {i : Nat} {s : St} (hs : d.sts[i]? = some s) : ∃ R, wd.st[i]? = some R ∧ StrOk w c rs rh n s R := by
  have hi := (List.getElem?_eq_some_iff.1 hs).1
  rw [h.len] at hi
  exact ⟨_, List.getElem?_eq_getElem hi, h.str i s _ hs (List.getElem?_eq_getElem hi)⟩
theorem StoreAt.ltA {B : Nat → Prop} {w : World} {S : Nat} {c : Cfg} {rs rh n : Nat} {wd : Wd} {d : StoD} (h : StoreAt B w S c rs rh n wd d) : ∀ s ∈ d.sts, ∀ r ∈ s.all, r < w.heap.size := by
  intro s hs
  obtain ⟨i, hi⟩ := List.getElem?_of_mem hs
  obtain ⟨R, _, hR⟩ := h.get hi
  exact hR.lt
/-- What others do leaves a store. -/
theorem StoreAt.keep {B B' : Nat → Prop} {w w' : World} {S : Nat} {c : Cfg} {rs rh n : Nat} {wd : Wd} {d : StoD} (h : StoreAt B w S c rs rh n wd d) (hs : w.heap.size ≤ w'.heap.size) (hk : ∀ r, B r → r < w.heap.size → w'.heap[r]? = w.heap[r]? ∧ B' r) : StoreAt B' w' S c rs rh n wd d := by
  have h1 := hk S h.bS.1 h.ltS
  have h2 := hk d.H h.bS.2.1 h.ltH
  have h3 := hk d.L h.bS.2.2 h.live.lt
  have ha : ∀ s ∈ d.sts, ∀ r ∈ s.all, w'.heap[r]? = w.heap[r]? ∧ B' r := fun s hs' r hr => hk r (h.bs s hs' r hr) (h.ltA s hs' r hr)
  refine ⟨h1.1.trans h.cell, ?_, h.len, fun i s R hs' hR => (h.str i s R hs' hR).kept (fun r hr => (ha s (List.mem_of_getElem? hs') r hr).1), h.pair, h.off, h.ne, h2.1.trans h.tab, h.live.block h3.1, h.keys, fun i q hq => ?_, h.cnt, ⟨h1.2, h2.2, h3.2⟩, fun s hs' r hr => (ha s hs' r hr).2⟩
  · exact (h.row.lt.keepP hs (fun b hb hlt => (hk b hb.1.2 hlt).1)).imp (fun b hb => ⟨hb.1.1, (hk b hb.1.2 hb.2).2⟩)
  · rcases h.cut i q hq with hf | ⟨hf, C, hC, hh⟩
    · exact .inl hf
    · exact .inr ⟨hf, C, hC, hh.keep hs (fun b hb hlt => ⟨(hk b hb.2 hlt).1, hb.1, (hk b hb.2 hlt).2⟩)⟩
theorem StoreAt.below {B : Nat → Prop} {w w' : World} {S : Nat} {c : Cfg} {rs rh n : Nat} {wd : Wd} {d : StoD} (h : StoreAt B w S c rs rh n wd d) (hb : Below w.heap.size w w') : StoreAt B w' S c rs rh n wd d :=
  h.keep hb.size (fun r hr hlt => ⟨hb.block r hlt, hr⟩)
theorem StoreAt.mono {B : Nat → Prop} {w : World} {S : Nat} {c : Cfg} {rs rh n m : Nat} {wd : Wd} {d : StoD} (h : StoreAt B w S c rs rh n wd d) (hm : n ≤ m) : StoreAt B w S c rs rh m wd d :=
  ⟨h.cell, h.row, h.len, fun i s R hs hR => (h.str i s R hs hR).mono hm, h.pair, h.off, h.ne, h.tab, h.live, h.keys, h.cut, h.cnt, h.bS, h.bs⟩

theorem Old.all {w : World} {s : St} {es' : List (KO × NE)} (ho : Old w.heap.size s.es es') (ver' : Nat) : ∀ r ∈ St.all ⟨s.T, s.M, ver', es'⟩, r ∈ s.all ∨ w.heap.size ≤ r := by
  intro r hr
  simp only [St.all, List.mem_cons, List.mem_flatMap] at hr ⊢
  rcases hr with rfl | rfl | ⟨p, hp, hr⟩
  · exact .inl (.inl rfl)
  · exact .inl (.inr (.inl rfl))
  · rcases ho p hp r hr with h9 | ⟨q, hq, hr⟩
    · exact .inr h9
    · exact .inl (.inr (.inr ⟨q, hq, hr⟩))
/-- A stripe turned. -/
theorem StoreAt.turn {B : Nat → Prop} {w w' : World} {S : Nat} {c : Cfg} {rs rh n m : Nat} {wd : Wd} {d : StoD} (h : StoreAt B w S c rs rh n wd d) {i : Nat} {s : St} {R : List Itm} (hi : d.sts[i]? = some s) (hR : wd.st[i]? = some R) {ver' : Nat} {es' : List (KO × NE)} (hB : ∀ r ∈ St.all ⟨s.T, s.M, ver', es'⟩, B r) {R' : List Itm} (hm : n ≤ m)
    (hu : Upd w w' s.fp (sfp s.T s.M es')) (ho : Old w.heap.size s.es es') (hok : StrOk w' c rs rh m ⟨s.T, s.M, ver', es'⟩ R') :
    StoreAt B w' S c rs rh m { wd with st := wd.st.set i R' } { d with sts := d.sts.set i ⟨s.T, s.M, ver', es'⟩ } ∧ Upd w w' (d.fp S) (StoD.fp S { d with sts := d.sts.set i ⟨s.T, s.M, ver', es'⟩ }) := by
  have hsm := List.mem_of_getElem? hi
  have hil := (List.getElem?_eq_some_iff.1 hi).1
  have hall := ho.all (s := s) ver'
  have hoff := h.off s hsm
  have hnot : ∀ r, r ∉ s.all → r < w.heap.size → w'.heap[r]? = w.heap[r]? := fun r hr hlt => hu.block r hlt (fun hq => hr (s.sub r hq))
  have hmem : ∀ (j : Nat) t, (d.sts.set i ⟨s.T, s.M, ver', es'⟩)[j]? = some t → (j = i ∧ t = ⟨s.T, s.M, ver', es'⟩) ∨ (j ≠ i ∧ d.sts[j]? = some t) := by
    intro j t ht
    rw [List.getElem?_set] at ht
    split at ht
    · rename_i e
      injection ht with ht
      exact .inl ⟨e.symm, ht.symm⟩
    · rename_i e
      exact .inr ⟨fun e' => e e'.symm, ht⟩
  have hother : ∀ (j : Nat) t, d.sts[j]? = some t → j ≠ i → ∀ r ∈ t.all, w'.heap[r]? = w.heap[r]? := fun j t ht hj r hr => hnot r (fun hr' => h.pair i j s t hi ht (fun e => hj e.symm) r hr' hr) (h.ltA t (List.mem_of_getElem? ht) r hr)
  have hfp : ∀ r, r ∈ StoD.fp S { d with sts := d.sts.set i ⟨s.T, s.M, ver', es'⟩ } → r ∈ d.fp S ∨ w.heap.size ≤ r := by
    intro r hr
    rcases mem_fp.1 hr with rfl | rfl | rfl | ⟨t, ht, hr⟩
    · exact .inl (mem_fp.2 (.inl rfl))
    · exact .inl (mem_fp.2 (.inr (.inl rfl)))
    · exact .inl (mem_fp.2 (.inr (.inr (.inl rfl))))
    · rcases List.mem_or_eq_of_mem_set ht with ht | rfl
      · exact .inl (mem_fp.2 (.inr (.inr (.inr ⟨t, ht, hr⟩))))
      · rcases hu.fresh r hr with h9 | h9
        · exact .inl (mem_fp.2 (.inr (.inr (.inr ⟨s, hsm, h9⟩))))
        · exact .inr h9
  have hkP : ∀ b, (b ∉ d.fp S ∧ B b) → b < w.heap.size → w'.heap[b]? = w.heap[b]? ∧ (b ∉ StoD.fp S { d with sts := d.sts.set i ⟨s.T, s.M, ver', es'⟩ } ∧ B b) := fun b hb hlt =>
    ⟨hu.block b hlt (fun hq => hb.1 (mem_fp.2 (.inr (.inr (.inr ⟨s, hsm, hq⟩))))), fun hq => (hfp b hq).elim hb.1 (fun h9 => by omega), hb.2⟩
  refine ⟨⟨?_, ?_, ?_, fun j t R1 ht hR1 => ?_, fun j k t u ht hu' hjk => ?_, fun t ht => ?_, h.ne, ?_, ?_, h.keys, fun j q hq => ?_, h.cnt, h.bS, fun t ht r hr => ?_⟩, ⟨hu.os, hu.tape, hu.output, hu.size, fun r hlt hn => hu.block r hlt (fun hq => hn (mem_fp.2 (.inr (.inr (.inr ⟨s, hsm, hq⟩))))), hfp⟩⟩
  · rw [List.length_set]
    exact (hnot S hoff.1 h.ltS).trans h.cell
  · have h1 := (h.row.lt.keepP hu.size (fun b hb hlt => (hkP b hb.1 hlt).1)).imp (Q := fun b => b ∉ StoD.fp S { d with sts := d.sts.set i ⟨s.T, s.M, ver', es'⟩ } ∧ B b) (fun b hb => (hkP b hb.1 hb.2).2)
    refine ⟨?_, fun b o m' c' e hn => h1.2 b o m' c' (by rw [List.length_set] at e; exact e) (by rw [List.length_set] at hn; exact hn)⟩
    obtain ⟨A1, c1, e1, hc1, hx⟩ := h1.1
    rw [List.length_set]
    refine ⟨A1, c1, by rw [List.length_set]; exact e1, by rw [List.length_set]; exact hc1, fun hp => ?_⟩
    rw [List.length_set] at hp
    obtain ⟨b, o, hA, hb, hx⟩ := hx hp
    refine ⟨b, o, hA, hb, fun k x hk j u hu' => ?_⟩
    rcases hmem k x hk with ⟨rfl, rfl⟩ | ⟨_, hk⟩
    · exact hx k s hi j u hu'
    · exact hx k x hk j u hu'
  · rw [List.length_set, List.length_set]; exact h.len
  · rw [List.getElem?_set] at hR1
    rcases hmem j t ht with ⟨rfl, rfl⟩ | ⟨hj, ht⟩
    · rw [if_pos rfl, if_pos (by rw [← h.len]; exact hil)] at hR1
      injection hR1 with hR1
      subst hR1
      exact hok
    · rw [if_neg (fun e => hj e.symm)] at hR1
      exact ((h.str j t R1 ht hR1).kept (hother j t ht hj)).mono hm
  · rcases hmem j t ht with ⟨e1, e2⟩ | ⟨hj, ht2⟩
    · rcases hmem k u hu' with ⟨e3, e4⟩ | ⟨hk, hu2⟩
      · exact absurd (e1.trans e3.symm) hjk
      · intro r hr hr'
        rw [e2] at hr
        rcases hall r hr with h9 | h9
        · exact h.pair i k s u hi hu2 (fun e => hk e.symm) r h9 hr'
        · have := h.ltA u (List.mem_of_getElem? hu2) r hr'; omega
    · rcases hmem k u hu' with ⟨e3, e4⟩ | ⟨hk, hu2⟩
      · intro r hr hr'
        rw [e4] at hr'
        rcases hall r hr' with h9 | h9
        · exact h.pair j i t s ht2 hi hj r hr h9
        · have := h.ltA t (List.mem_of_getElem? ht2) r hr; omega
      · exact h.pair j k t u ht2 hu2 hjk
  · rcases List.mem_or_eq_of_mem_set ht with ht | rfl
    · exact h.off t ht
    · refine ⟨fun hq => (hall _ hq).elim hoff.1 (fun h9 => ?_), fun hq => (hall _ hq).elim hoff.2.1 (fun h9 => ?_), fun hq => (hall _ hq).elim hoff.2.2 (fun h9 => ?_)⟩
      · have := h.ltS; omega
      · have := h.ltH; dsimp only at h9; omega
      · have := h.live.lt; dsimp only at h9; omega
  · exact (hnot d.H hoff.2.1 h.ltH).trans h.tab
  · exact h.live.block (hnot d.L hoff.2.2 h.live.lt)
  · rcases h.cut j q hq with hf | ⟨hf, C, hC, hh⟩
    · exact .inl hf
    · exact .inr ⟨hf, C, hC, hh.keep hu.size hkP⟩
  · rcases List.mem_or_eq_of_mem_set ht with ht | rfl
    · exact h.bs t ht r hr
    · exact hB r hr

/-- The home of what a stripe has. -/
def HomeOk (c : Cfg) (wd : Wd) : Prop := ∀ (i : Nat) R, wd.st[i]? = some R → ∀ p ∈ R, routeI p.1.1 p.1.2 c.st = (i : Int)
/-- A store. -/
def StoreIn (B : Nat → Prop) (w : World) (S : Nat) (c : Cfg) (rs rh n : Nat) (wd : Wd) (fp : List Nat) : Prop := ∃ d, StoreAt B w S c rs rh n wd d ∧ fp = d.fp S
theorem StoreIn.keep {B B' : Nat → Prop} {w w' : World} {S : Nat} {c : Cfg} {rs rh n : Nat} {wd : Wd} {fp : List Nat} (h : StoreIn B w S c rs rh n wd fp) (hs : w.heap.size ≤ w'.heap.size) (hk : ∀ r, B r → r < w.heap.size → w'.heap[r]? = w.heap[r]? ∧ B' r) : StoreIn B' w' S c rs rh n wd fp := by
  obtain ⟨d, h, rfl⟩ := h
  exact ⟨d, h.keep hs hk, rfl⟩
theorem StoreIn.below {B : Nat → Prop} {w w' : World} {S : Nat} {c : Cfg} {rs rh n : Nat} {wd : Wd} {fp : List Nat} (h : StoreIn B w S c rs rh n wd fp) (hb : Below w.heap.size w w') : StoreIn B w' S c rs rh n wd fp := by
  obtain ⟨d, h, rfl⟩ := h
  exact ⟨d, h.below hb, rfl⟩
theorem StoreIn.mono {B : Nat → Prop} {w : World} {S : Nat} {c : Cfg} {rs rh n m : Nat} {wd : Wd} {fp : List Nat} (h : StoreIn B w S c rs rh n wd fp) (hm : n ≤ m) : StoreIn B w S c rs rh m wd fp := by
  obtain ⟨d, h, rfl⟩ := h
  exact ⟨d, h.mono hm, rfl⟩
end

section
set_option linter.unusedSimpArgs false
set_option linter.unusedVariables false
open Go.RowKit Go.Lib

theorem foldN_pow (h b : Nat) (h1 : 1 ≤ 2 ^ b) : foldN h b < 2 ^ b := by
  unfold foldN
  split
  · exact h1
  · exact Nat.mod_lt _ h1
theorem route_lt {hi lo : Nat} {n : Int} (hn : okSt n = true) : 0 ≤ routeI hi lo n ∧ routeI hi lo n < n := by
  unfold routeI
  rw [if_pos hn]
  obtain ⟨j, hj, rfl⟩ : ∃ j, j < 7 ∧ n = ((2 ^ j : Nat) : Int) := by
    rcases (okSt_iff n).1 hn with h | h | h | h | h | h | h
    · exact ⟨0, by omega, h⟩
    · exact ⟨1, by omega, h⟩
    · exact ⟨2, by omega, h⟩
    · exact ⟨3, by omega, h⟩
    · exact ⟨4, by omega, h⟩
    · exact ⟨5, by omega, h⟩
    · exact ⟨6, by omega, h⟩
  rw [bitsI_pow j hj]
  have := foldN_pow (fnvKey hi lo) j (Nat.two_pow_pos j)
  simp only [Int.toNat_natCast]
  omega
end

end Go.Proofs.YtmniiodpbebnmaaGreat
