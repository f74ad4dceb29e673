/- node.Put, Trim, Set, Note; the laws of a node's parts; node.Set, Note; node.Set; node.Trim; The reference's chapters 8, 12, 14: Right; Put and Trim of samples; Put of decisions; The reference's chapter 8: Put of a sample; The reference's Rising, walked; The reference's items of a stripe: At, Has; The reference's items of a stripe: Has, Get, With; The reference's items of a stripe: Get, With; The reference's items of a stripe: With; The reference's Right of a policy; The reference's Do of a workload; The reference's Do of a workload, its other kinds; The reference's Do of a workload: all kinds in one. -/
import Derived.Test.YtmniiodpbebnmaaGreatC10
import Derived.Test.YtmniiodpbebnmaaGreatC02
import Derived.Laws.AppendOwnNone
import Derived.Test.YtmniiodpbebnmaaGreatC01
namespace Go.Proofs.YtmniiodpbebnmaaGreat

section
set_option linter.unusedSimpArgs false
set_option linter.unusedVariables false
open Go.RowKit Go.Lib Go.Sort

def NdSays (w : World) (y : Nd) (rs rh : Nat) (mf : List Nat) (mk : Value → Value) (e : Ending) (w' : World) : Prop :=
  ∃ N fp', e = .returned (mk (.pointer (some ⟨N, 0, none⟩))) ∧ NodeIn w' N y rs rh fp' ∧ Upd w w' mf fp'

theorem node_ser {w1 w2 : World} {N S H : Nat} {x : Nd} {rs rh : Nat} {fs fh fs' : List Nat} {l' : List Smp} (h1 : w1.heap[N]? = some (.cells (ndC x S H) 258 (0, 0))) (hH : HistIn w1 H x.past rh fh) (h4 : N ∉ fs) (h5 : N ∉ fh) (h6 : ∀ k ∈ fs, k ∉ fh)
    (hS : SerIn w2 S l' (rs : Nat) fs') (hu : Upd w1 w2 fs fs') (hr : risingS l') (hl : l'.length ≤ rs) : NodeIn w2 N { x with smp := l' } rs rh (N :: (fs' ++ fh)) ∧ Upd w1 w2 (N :: (fs ++ fh)) (N :: (fs' ++ fh)) := by
  have hlt := (Array.getElem?_eq_some_iff.1 h1).1
  have hfr : ∀ k, k ∈ fs' → k < w1.heap.size → k ∈ fs := fun k hk hl => (hu.fresh k hk).elim id (fun h => by omega)
  refine ⟨⟨S, fs', H, fh, (hu.block N hlt h4).trans h1, hS, hH.kept (fun r hr => hu.block r (hH.lt r hr) (fun h => h6 r h hr)), fun h => h4 (hfr N h hlt), h5, fun k hk hk' => h6 k (hfr k hk (hH.lt k hk')) hk', rfl, hr, hl⟩, hu.mono (fun k hk => List.mem_cons_of_mem _ (List.mem_append_left _ hk)) (fun k hk => ?_)⟩
  rcases List.mem_cons.1 hk with rfl | hk
  · exact .inl (List.mem_cons_self ..)
  · rcases List.mem_append.1 hk with hk | hk
    · exact (hu.fresh k hk).imp (fun h => List.mem_cons_of_mem _ (List.mem_append_left _ h)) id
    · exact .inl (List.mem_cons_of_mem _ (List.mem_append_right _ hk))
theorem placeS_lt {l : List Smp} (hr : risingS l) (t : Int) : ∀ i (h : i < l.length), (i < placeS l t ↔ l[i].1 < t) := by
  induction l with
  | nil => intro i h; simp at h
  | cons a l ih =>
    have hr' : risingS l := (List.pairwise_cons.1 hr).2
    have ha := (List.pairwise_cons.1 hr).1
    intro i h
    by_cases hta : t ≤ a.1
    · have h0 : placeS (a :: l) t = 0 := by
        unfold placeS
        rw [List.countP_eq_zero]
        intro y hy
        rcases List.mem_cons.1 hy with rfl | hy
        · simp [hta]
        · have := ha y hy; simp; omega
      rw [h0]
      refine iff_of_false (by omega) ?_
      cases i with
      | zero => simp; omega
      | succ i => have := ha _ (List.getElem_mem (by simpa using h : i < l.length)); simp; omega
    · have h1 : placeS (a :: l) t = placeS l t + 1 := by unfold placeS; rw [List.countP_cons]; simp; omega
      rw [h1]
      cases i with
      | zero => simp; omega
      | succ i => have := ih hr' i (by simpa using h); simp; omega
theorem rising_drop {l : List Smp} (hr : risingS l) (n : Nat) : risingS (l.drop n) := hr.sublist (List.drop_sublist n l)
theorem rising_cut {l : List Smp} (hr : risingS l) (room : Int) : risingS (cutS room l) := by
  unfold cutS
  split
  · exact rising_drop hr 1
  · exact hr
theorem mem_take_lt {l : List Smp} (hr : risingS l) (t : Int) {a : Smp} (h : a ∈ l.take (placeS l t)) : a.1 < t := by
  obtain ⟨i, hi, rfl⟩ := List.getElem_of_mem h
  simp only [List.length_take] at hi
  rw [List.getElem_take]
  exact (placeS_lt hr t i (by omega)).1 (by omega)
theorem mem_drop_ge {l : List Smp} (hr : risingS l) (t : Int) {a : Smp} (h : a ∈ l.drop (placeS l t)) : t ≤ a.1 := by
  obtain ⟨i, hi, rfl⟩ := List.getElem_of_mem h
  simp only [List.length_drop] at hi
  rw [List.getElem_drop]
  have hi' : placeS l t + i < l.length := by omega
  have h2 := placeS_lt hr t (placeS l t + i) hi'
  by_cases h3 : l[placeS l t + i].1 < t
  · have := h2.2 h3; omega
  · omega
theorem rising_ins {l : List Smp} (hr : risingS l) (x : Smp) (h : hitS l x = false) : risingS (insS l x) := by
  unfold insS risingS
  have hge : ∀ a ∈ l.drop (placeS l x.1), x.1 < a.1 := fun a ha => by
    have h1 := mem_drop_ge hr x.1 ha
    obtain ⟨i, hi, rfl⟩ := List.getElem_of_mem ha
    rcases Nat.eq_zero_or_pos i with rfl | hp
    · have hlt : placeS l x.1 < l.length := by simp only [List.length_drop] at hi; omega
      unfold hitS at h
      rw [decide_eq_false_iff_not, List.getElem?_eq_getElem hlt] at h
      rw [List.getElem_drop] at h1 ⊢
      simp only [Nat.add_zero] at h1 ⊢
      have hn : (l[placeS l x.1]).1 ≠ x.1 := fun e => h (by simp [e])
      omega
    · have h0 := List.pairwise_iff_getElem.1 (rising_drop hr (placeS l x.1)) 0 i (by omega) hi hp
      have h2 := mem_drop_ge hr x.1 (List.getElem_mem (by omega : 0 < (l.drop (placeS l x.1)).length))
      omega
  rw [List.pairwise_append]
  refine ⟨hr.sublist (List.take_sublist _ l), List.pairwise_cons.2 ⟨hge, rising_drop hr _⟩, fun a ha b hb => ?_⟩
  have h1 := mem_take_lt hr x.1 ha
  rcases List.mem_cons.1 hb with rfl | hb
  · exact h1
  · have := hge b hb; omega
theorem rising_set {l : List Smp} (hr : risingS l) (x : Smp) (h : hitS l x = true) : risingS (l.set (placeS l x.1) x) := by
  have e : (l.set (placeS l x.1) x).map (·.1) = l.map (·.1) := by
    rw [List.map_set]
    unfold hitS at h
    rw [decide_eq_true_eq] at h
    refine List.ext_getElem? fun i => ?_
    rw [List.getElem?_set]
    split
    · rename_i hi
      rw [← hi, List.getElem?_map, h]
      split
      · rfl
      · rename_i hn
        rw [List.getElem?_eq_none (by simpa using hn)] at h
        simp at h
    · rfl
  have h1 : (l.map (·.1)).Pairwise (· < ·) := List.pairwise_map.2 hr
  rw [← e] at h1
  exact List.pairwise_map.1 h1
theorem rising_put {l : List Smp} (hr : risingS l) (room : Int) (x : Smp) : risingS (putS l room x) := by
  unfold putS
  cases h : hitS l x with
  | true => exact rising_set hr x h
  | false => exact rising_cut (rising_ins hr x h) room
theorem putS_len {l : List Smp} {room : Nat} (hl : l.length ≤ room) (x : Smp) : (putS l (room : Nat) x).length ≤ room := by
  unfold putS
  split
  · simpa using hl
  · unfold cutS
    have := insS_len l x
    split
    · simp; omega
    · omega

set_option maxRecDepth 100000 in
set_option maxHeartbeats 4000000 in
theorem nodePut_any (N : Nat) (x : Nd) (rs rh : Nat) (fp : List Nat) (s : Smp) (w : World) (h : NodeIn w N x rs rh fp) (hrs0 : 1 ≤ rs) (hrs : rs ≤ 256) (hrh : rh ≤ 64) (hv : x.ver ≤ 1000000) (hx1 : 0 ≤ s.1) (hx2 : 0 ≤ s.2) :
    Calls Tryz.prog 151 #[.pointer (some ⟨N, 0, none⟩), .int .i64 s.1, .int .i64 s.2] w (NdSays w { bump x with smp := putS x.smp (rs : Nat) s } rs rh (mfp x fp) (fun p => .tuple #[p, .int .i64 0])) := by
  have hs0 : serE s.1 s.2 = 0 := by unfold serE; rw [if_neg (by omega), if_neg (by omega)]
  have HS0 := Lib.hid hs0
  have HM := Lib.hid (made_any N x rs rh fp w h)
  have HN := Lib.hid h
  clear hs0 h
  go_enter Tryz.func151, Tryz.ntmps151
  go_wp2_with (first
    | (go_at_call 102; refine (seriesRight_any _ _ _).mono ?_; rw [HS0.out]; rintro e w1 ⟨rfl, rfl⟩)
    | (go_at_call 174; refine HM.out.mono ?_; rintro e w2 ⟨rfl, hb2⟩; have HB2 := Lib.hid hb2; clear hb2)
    | (go_at_call 207
       refine (own_any N x rs rh fp w2 (HN.out.below HB2.out) hrs hrh hv).mono ?_
       rintro e w3 ⟨N3, fp3, rfl, ⟨S, fs, H, fh, h1, h2, h3, h4, h5, h6, hfp, h7, h8⟩, hu3⟩
       have g1 := h1
       unfold ndC at g1
       obtain ⟨a1, a2, a3⟩ := box_cells (Below.refl _ _) g1
       have HU3 := Lib.hid ((Upd.of_below HB2.out _).trans hu3)
       have H1 := Lib.hid h1
       have H2 := Lib.hid h2
       have H3 := Lib.hid h3
       have H7 := Lib.hid h7
       have H8 := Lib.hid h8
       have HFP := Lib.hid hfp
       clear g1 h1 h2 h3 h7 h8 hu3 hfp)
    | (go_at_call 194
       refine (serPut_any S _ (rs : Nat) fs s w3 H2.out H7.out (by have := H8.out; omega) (by omega) hx1 hx2).mono ?_
       rintro e w4 ⟨fs', rfl, hs4, hu4⟩
       have HL := Lib.hid (node_ser H1.out H3.out h4 h5 h6 hs4 hu4 (rising_put H7.out _ _) (putS_len H8.out s))
       clear hs4 hu4))
  refine bodyPost_ret (v := .tuple #[.pointer (some ⟨N3, 0, none⟩), .int .i64 0]) (by simp [results, Tryz.results151, go_sem]) rfl ?_
  obtain ⟨l1, l2⟩ := HL.out
  refine ⟨N3, _, rfl, l1, ?_⟩
  have hu := HU3.out
  rw [HFP.out] at hu
  exact hu.trans l2
end

section
set_option linter.unusedSimpArgs false
set_option linter.unusedVariables false
open Go.RowKit Go.Lib Go.Sort

theorem node_setp {w : World} {N : Nat} {x : Nd} {rs rh : Nat} {fp : List Nat} (h : NodeIn w N x rs rh fp) (p : Pol) :
    NodeIn (((((((w.setCell ⟨N, 0, none⟩ (.int .i64 p.mn)).setCell ⟨N, 1, none⟩ (.int .i64 p.mx)).setCell ⟨N, 2, none⟩ (.int .i64 p.tg)).setCell ⟨N, 3, none⟩ (.int .i64 p.tol)).setCell ⟨N, 4, none⟩ (.int .i64 p.win)).setCell ⟨N, 5, none⟩ (.int .i64 p.hold)).setCell ⟨N, 6, none⟩ (.bool true)) N { x with pol := p, ruled := true } rs rh fp ∧
    Upd w (((((((w.setCell ⟨N, 0, none⟩ (.int .i64 p.mn)).setCell ⟨N, 1, none⟩ (.int .i64 p.mx)).setCell ⟨N, 2, none⟩ (.int .i64 p.tg)).setCell ⟨N, 3, none⟩ (.int .i64 p.tol)).setCell ⟨N, 4, none⟩ (.int .i64 p.win)).setCell ⟨N, 5, none⟩ (.int .i64 p.hold)).setCell ⟨N, 6, none⟩ (.bool true)) fp fp := by
  have h0 := node_set (y := { x with pol := { x.pol with mn := p.mn } }) h (i := 0) (fun S H => rfl) rfl rfl
  have h1 := node_set (y := { x with pol := { x.pol with mn := p.mn, mx := p.mx } }) h0 (i := 1) (fun S H => rfl) rfl rfl
  have h2 := node_set (y := { x with pol := { x.pol with mn := p.mn, mx := p.mx, tg := p.tg } }) h1 (i := 2) (fun S H => rfl) rfl rfl
  have h3 := node_set (y := { x with pol := { x.pol with mn := p.mn, mx := p.mx, tg := p.tg, tol := p.tol } }) h2 (i := 3) (fun S H => rfl) rfl rfl
  have h4 := node_set (y := { x with pol := { x.pol with mn := p.mn, mx := p.mx, tg := p.tg, tol := p.tol, win := p.win } }) h3 (i := 4) (fun S H => rfl) rfl rfl
  have h5 := node_set (y := { x with pol := p }) h4 (i := 5) (fun S H => rfl) rfl rfl
  have h6 := node_set (y := { x with pol := p, ruled := true }) h5 (i := 6) (fun S H => rfl) rfl rfl
  refine ⟨h6, ?_⟩
  have hm := h.mem
  exact ((((((Upd.set N 0 _ fp hm).trans (Upd.set N 1 _ fp hm)).trans (Upd.set N 2 _ fp hm)).trans (Upd.set N 3 _ fp hm)).trans (Upd.set N 4 _ fp hm)).trans (Upd.set N 5 _ fp hm)).trans (Upd.set N 6 _ fp hm)
end

section
set_option linter.unusedSimpArgs false
set_option linter.unusedVariables false
open Go.RowKit Go.Lib Go.Sort

set_option maxRecDepth 100000 in
set_option maxHeartbeats 4000000 in
theorem nodeSet_bad (N : Nat) (p : Pol) (w : World) (hp : polB p = false) :
    Calls Tryz.prog 157 #[.pointer (some ⟨N, 0, none⟩), polV p] w fun e w' => e = .returned (.tuple #[.pointer (some ⟨N, 0, none⟩), .int .i64 7]) ∧ Below w.heap.size w w' := by
  have hE : polE p = 7 := by unfold polE; rw [hp]; rfl
  have HE := Lib.hid hE
  have HC := Lib.hid (policyCheck_any p)
  clear hp hE
  unfold polV
  unfold polV at HC
  go_enter Tryz.func157, Tryz.ntmps157
  go_wp2_with (go_at_call 103; refine (HC.out _).mono ?_; rw [HE.out]; rintro e w2 ⟨rfl, hb2⟩; have HB := Lib.hid hb2; clear hb2)
  exact bodyPost_ret (v := .tuple #[.pointer (some ⟨N, 0, none⟩), .int .i64 7]) (by simp [results, Tryz.results157, go_sem]) rfl ⟨rfl, bthen (balloc (Below.refl _ _) _) HB.out⟩

set_option maxRecDepth 100000 in
set_option maxHeartbeats 4000000 in
theorem nodeSet_any (N : Nat) (x : Nd) (rs rh : Nat) (fp : List Nat) (p : Pol) (w : World) (h : NodeIn w N x rs rh fp) (hrs : rs ≤ 256) (hrh : rh ≤ 64) (hv : x.ver ≤ 1000000) (hp : polB p = true) :
    Calls Tryz.prog 157 #[.pointer (some ⟨N, 0, none⟩), polV p] w (NdSays w { bump x with pol := p, ruled := true } rs rh (mfp x fp) (fun q => .tuple #[q, .int .i64 0])) := by
  have HN := Lib.hid h
  have hE : polE p = 0 := by unfold polE; rw [hp]; rfl
  have HE := Lib.hid hE
  have HC := Lib.hid (policyCheck_any p)
  clear h hp hE
  unfold polV
  unfold polV at HC
  go_enter Tryz.func157, Tryz.ntmps157
  go_wp2_with (first
    | (go_at_call 103
       refine calls_named ?_
       intro W1 hW1
       have hb1 : Below w.heap.size w W1 := by rw [hW1]; exact balloc (Below.refl _ _) _
       have hx1 : W1.heap[w.heap.size]? = some (.cells #[.int .i64 p.mn, .int .i64 p.mx, .int .i64 p.tg, .int .i64 p.tol, .int .i64 p.win, .int .i64 p.hold] 35 (0, 0)) := by rw [hW1]; exact heap_alloc_new _ _
       clear hW1
       refine (HC.out W1).mono ?_
       rw [HE.out]
       rintro e w2 ⟨rfl, hb2⟩
       have HB2 := Lib.hid (bthen hb1 hb2)
       have HX := Lib.hid ((hb2.block w.heap.size (Array.getElem?_eq_some_iff.1 hx1).1).trans hx1)
       clear hb1 hb2 hx1)
    | (go_at_call 174
       refine (made_any N x rs rh fp w2 (HN.out.below HB2.out)).mono ?_
       rintro e w5 ⟨rfl, hb5⟩
       have HB5 := Lib.hid (bthen HB2.out hb5)
       have HX5 := Lib.hid ((hb5.block w.heap.size (Array.getElem?_eq_some_iff.1 HX.out).1).trans HX.out)
       clear hb5)
    | (go_at_call 207
       refine (own_any N x rs rh fp w5 (HN.out.below HB5.out) hrs hrh hv).mono ?_
       rintro e w3 ⟨N3, fp3, rfl, hn3, hu3⟩
       have hnm : w.heap.size ∉ mfp x fp := fun hm => by
         unfold mfp at hm
         split at hm
         · simp at hm
         · have := HN.out.lt _ hm; omega
       have hx3 := (hu3.block w.heap.size (Array.getElem?_eq_some_iff.1 HX5.out).1 hnm).trans HX5.out
       obtain ⟨b1, b2, b3⟩ := box_cells (Below.refl _ _) hx3
       have hlt5 := (Array.getElem?_eq_some_iff.1 HX5.out).1
       have hne : w.heap.size ≠ N3 := fun e => by
         rcases hu3.fresh N3 hn3.mem with h | h
         · rw [← e] at h; exact hnm h
         · omega
       have HL := Lib.hid (node_setp hn3 p)
       have HU3 := Lib.hid ((Upd.of_below HB5.out _).trans hu3)
       obtain ⟨S, fs, H, fh, h1, h2, h3, h4, h5, h6, hfp, h7, h8⟩ := hn3
       unfold ndC at h1
       obtain ⟨a1, a2, a3⟩ := box_cells (Below.refl _ _) h1
       clear h1 h2 h3 h4 h5 h6 h7 h8 hfp hu3 hx3 hnm))
  refine bodyPost_ret (v := .tuple #[.pointer (some ⟨N3, 0, none⟩), .int .i64 0]) (by simp [results, Tryz.results157, go_sem]) rfl ?_
  exact ⟨N3, fp3, rfl, HL.out.1, HU3.out.trans HL.out.2⟩
end

section
set_option linter.unusedSimpArgs false
set_option linter.unusedVariables false
open Go.RowKit Go.Lib Go.Sort

theorem placeS_zero {l : List Smp} (hr : risingS l) (t : Int) (h : placeS l t = 0) : ∀ h0 : 0 < l.length, t ≤ l[0].1 := fun h0 => by
  by_cases h3 : l[0].1 < t
  · have := (placeS_lt hr t 0 h0).2 h3; omega
  · omega
theorem placeS_pos {l : List Smp} (hr : risingS l) (t : Int) (h : 0 < placeS l t) : ∃ h0 : 0 < l.length, l[0].1 < t := by
  have h0 : 0 < l.length := by have := placeS_le l t; omega
  exact ⟨h0, (placeS_lt hr t 0 h0).1 h⟩

def TrimS (w : World) (N : Nat) (x : Nd) (rs rh : Nat) (fp : List Nat) (t : Int) (e : Ending) (w' : World) : Prop :=
  (placeS x.smp t = 0 ∧ e = .returned (.tuple #[.pointer (some ⟨N, 0, none⟩), .int .i64 0]) ∧ Below w.heap.size w w') ∨
  (0 < placeS x.smp t ∧ NdSays w { bump x with smp := x.smp.drop (placeS x.smp t) } rs rh (mfp x fp) (fun q => .tuple #[q, .int .i64 (placeS x.smp t : Nat)]) e w')

set_option maxRecDepth 100000 in
set_option maxHeartbeats 4000000 in
theorem nodeTrim_none (N : Nat) (x : Nd) (rs rh : Nat) (fp : List Nat) (t : Int) (w : World) (h : NodeIn w N x rs rh fp) (hrs : rs ≤ 256) (h0 : placeS x.smp t = 0) :
    Calls Tryz.prog 154 #[.pointer (some ⟨N, 0, none⟩), .int .i64 t] w (TrimS w N x rs rh fp t) := by
  have HN := Lib.hid h
  have HM := Lib.hid (made_any N x rs rh fp w h)
  obtain ⟨S, fs, H, fh, h1, h2, h3, h4, h5, h6, hfp, h7, h8⟩ := h
  unfold ndC at h1
  have hz := placeS_zero h7 t h0
  have HS := Lib.hid h2
  have H1 := Lib.hid h1
  have H0 := Lib.hid h0
  clear h1 h2 h3 h4 h5 h6 hfp h7 h0
  rcases Nat.eq_zero_or_pos x.smp.length with he | hp
  · go_enter Tryz.func154, Tryz.ntmps154
    go_wp2_with (first
      | (go_at_call 174; refine HM.out.mono ?_; rintro e w2 ⟨rfl, hb2⟩; obtain ⟨a1, a2, a3⟩ := box_cells hb2 H1.out; have HB2 := Lib.hid hb2; clear hb2)
      | (go_at_call 128
         refine (serList_any S _ _ fs w2 (HS.out.below HB2.out) (by omega)).mono ?_
         rintro e w3 ⟨A, c, fq, rfl, hq, _, hb3⟩
         have HB3 := Lib.hid (bthen HB2.out hb3)
         clear hq hb3))
    exact bodyPost_ret (v := .tuple #[.pointer (some ⟨N, 0, none⟩), .int .i64 0]) (by simp [results, Tryz.results154, go_sem]) rfl (.inl ⟨H0.out, rfl, HB3.out⟩)
  · have hz1 := hz hp
    have hne : ((x.smp.length : Int) == 0) = false := by rw [beq_eq_false_iff_ne]; omega
    clear hz
    go_enter Tryz.func154, Tryz.ntmps154
    go_wp2_with (first
      | (go_at_call 174; refine HM.out.mono ?_; rintro e w2 ⟨rfl, hb2⟩; obtain ⟨a1, a2, a3⟩ := box_cells hb2 H1.out; have HB2 := Lib.hid hb2; clear hb2)
      | (go_at_call 128
         refine (serList_any S _ _ fs w2 (HS.out.below HB2.out) (by omega)).mono ?_
         rintro e w3 ⟨A, c, fq, rfl, hq, _, hb3⟩
         obtain ⟨g, o, rfl, hg, hc⟩ := (hq.row eSmp).at_ hp
         have hc0 := hc 0 _ rfl
         simp only [Nat.zero_mul, Nat.add_zero] at hc0
         have q1 : (0 : Int) < (x.smp.length : Int) := by omega
         have HB3 := Lib.hid (bthen HB2.out hb3)
         clear hq hb3 hc))
    exact bodyPost_ret (v := .tuple #[.pointer (some ⟨N, 0, none⟩), .int .i64 0]) (by simp [results, Tryz.results154, go_sem]) rfl (.inl ⟨H0.out, rfl, HB3.out⟩)
set_option maxRecDepth 100000 in
set_option maxHeartbeats 4000000 in
theorem nodeTrim_some (N : Nat) (x : Nd) (rs rh : Nat) (fp : List Nat) (t : Int) (w : World) (h : NodeIn w N x rs rh fp) (hrs : rs ≤ 256) (hrh : rh ≤ 64) (hv : x.ver ≤ 1000000) (h0 : 0 < placeS x.smp t) :
    Calls Tryz.prog 154 #[.pointer (some ⟨N, 0, none⟩), .int .i64 t] w (TrimS w N x rs rh fp t) := by
  have HN := Lib.hid h
  have HM := Lib.hid (made_any N x rs rh fp w h)
  obtain ⟨S, fs, H, fh, h1, h2, h3, h4, h5, h6, hfp, h7, h8⟩ := h
  unfold ndC at h1
  obtain ⟨hp, hlt⟩ := placeS_pos h7 t h0
  have HS := Lib.hid h2
  have H1 := Lib.hid h1
  have H0 := Lib.hid h0
  clear h1 h2 h3 h4 h5 h6 hfp h7 h0
  have hz1 : ¬ t ≤ x.smp[0].1 := by omega
  have hne : ((x.smp.length : Int) == 0) = false := by rw [beq_eq_false_iff_ne]; omega
  clear hlt
  go_enter Tryz.func154, Tryz.ntmps154
  go_wp2_with (first
    | (go_at_call 174; refine HM.out.mono ?_; rintro e w2 ⟨rfl, hb2⟩; obtain ⟨a1, a2, a3⟩ := box_cells hb2 H1.out; have HB2 := Lib.hid hb2; clear hb2)
    | (go_at_call 128
       refine (serList_any S _ _ fs w2 (HS.out.below HB2.out) (by omega)).mono ?_
       rintro e w3 ⟨A, c, fq, rfl, hq, _, hb3⟩
       obtain ⟨g, o, rfl, hg, hc⟩ := (hq.row eSmp).at_ hp
       have hc0 := hc 0 _ rfl
       simp only [Nat.zero_mul, Nat.add_zero] at hc0
       have q1 : (0 : Int) < (x.smp.length : Int) := by omega
       have HB3 := Lib.hid (bthen HB2.out hb3)
       clear hq hb3 hc)
    | (go_at_call 207
       refine (own_any N x rs rh fp w3 (HN.out.below HB3.out) hrs hrh hv).mono ?_
       rintro e w5 ⟨N3, fp3, rfl, ⟨S5, fs5, H5, fh5, h1, h2, h3, h4, h5, h6, hfp, h7, h8⟩, hu3⟩
       have g1 := h1
       unfold ndC at g1
       obtain ⟨b1, b2, b3⟩ := box_cells (Below.refl _ _) g1
       have HU3 := Lib.hid ((Upd.of_below HB3.out _).trans hu3)
       have G1 := Lib.hid h1
       have G2 := Lib.hid h2
       have G3 := Lib.hid h3
       have G7 := Lib.hid h7
       have G8 := Lib.hid h8
       have HFP := Lib.hid hfp
       clear g1 h1 h2 h3 h7 h8 hu3 hfp)
    | (go_at_call 210
       refine (serTrim_any S5 _ (rs : Nat) fs5 t w5 G2.out G7.out (by have := G8.out; omega)).mono ?_
       rintro e w6 ⟨fs', rfl, hs4, hu4⟩
       have HL := Lib.hid (node_ser G1.out G3.out h4 h5 h6 hs4 hu4 (rising_drop G7.out _) (by have := G8.out; simp; omega))
       clear hs4 hu4))
  refine bodyPost_ret (v := .tuple #[.pointer (some ⟨N3, 0, none⟩), .int .i64 (placeS x.smp t : Nat)]) (by simp [results, Tryz.results154, go_sem, bump]) rfl ?_
  obtain ⟨l1, l2⟩ := HL.out
  refine .inr ⟨H0.out, N3, _, rfl, l1, ?_⟩
  have hu := HU3.out
  rw [HFP.out] at hu
  exact hu.trans l2
end

section
set_option linter.unusedSimpArgs false
set_option linter.unusedVariables false
open Go.RowKit Go.Lib Go.Sort

/-- A row whose block may be. -/
def RowG {α : Type} (P : Nat → Prop) (n : Nat) (f : α → List Value) (w : World) (v : Value) (l : List α) : Prop :=
  RowIn n f w v l ∧ ∀ b o m c, v = .slice (some ⟨b, o, none⟩) m c → 0 < l.length → P b
theorem RowG.below {α : Type} {P : Nat → Prop} {n : Nat} {f : α → List Value} {w w' : World} {v : Value} {l : List α} (h : RowG P n f w v l) (hb : Below w.heap.size w w') : RowG P n f w' v l := ⟨h.1.below hb, h.2⟩
theorem RowG.imp {α : Type} {P Q : Nat → Prop} {n : Nat} {f : α → List Value} {w : World} {v : Value} {l : List α} (h : RowG P n f w v l) (hi : ∀ b, P b → Q b) : RowG Q n f w v l := ⟨h.1, fun b o m c e hn => hi b (h.2 b o m c e hn)⟩
theorem RowG.nil {α : Type} {P : Nat → Prop} {n : Nat} {f : α → List Value} {w : World} {A : Option Addr} {c : Nat} : RowG P n f w (.slice A 0 c) ([] : List α) := ⟨RowIn.nil, fun _ _ _ _ _ h => absurd h (Nat.lt_irrefl _)⟩
theorem RowG.own {α : Type} {t e : TypeId} {n bytes : Nat} {z : Value} {f : α → List Value} (E : EltOf t e n bytes z f) {base : Nat} {w : World} {v : Value} {l : List α} (h : OwnL f e n base w v l) : RowG (fun b => base ≤ b) n f w v l := by
  refine ⟨h.row E, fun b o m c e hn => ?_⟩
  rcases h.2 with ⟨_, h0⟩ | ⟨g, cap, cur, hv', hg, _⟩
  · omega
  · rw [e] at hv'
    injection hv' with e1 _ _
    injection e1 with e1
    injection e1 with e1
    omega
theorem RowG.part {α : Type} {P : Nat → Prop} {n : Nat} {f : α → List Value} {w : World} {A A2 : Option Addr} {m c c2 : Nat} {l l2 : List α} (h : RowG P n f w (.slice A m c) l) (hA : 0 < l.length → ∀ b o, A2 = some ⟨b, o, none⟩ → ∃ o', A = some ⟨b, o', none⟩) (hl : l2.length ≤ l.length) (h2 : RowIn n f w (.slice A2 l2.length c2) l2) : RowG P n f w (.slice A2 l2.length c2) l2 := by
  refine ⟨h2, fun b o m' c' e hn => ?_⟩
  injection e with e1 _ _
  obtain ⟨o', ho⟩ := hA (by omega) b o e1
  exact h.2 b o' m c (by rw [ho]) (by omega)
end

section
set_option linter.unusedSimpArgs false
set_option linter.unusedVariables false
open Go.RowKit Go.Lib Go.Sort
end

section
set_option linter.unusedSimpArgs false
set_option linter.unusedVariables false
open Go.RowKit Go.Lib

theorem keepS {wo a b : World} {n : Nat} {S : World → Prop} {p q r t : Prop} (H : ∀ W, Below wo.heap.size wo W → S W) (h : p ∧ q ∧ r ∧ t ∧ Below wo.heap.size wo a) (k : Below n a b) (e : n = a.heap.size) : S b := by
  subst e
  exact H b (bthen h.2.2.2.2 k)
end

section
set_option linter.unusedSimpArgs false
set_option linter.unusedVariables false
open Go.RowKit Go.Lib Go.Sort

/-- An item: its key, where its lists lie, its load. -/
structure It where
  key : Ky
  sA : Option Addr
  sc : Nat
  pA : Option Addr
  pc : Nat
  nd : Nd
def It.vs (x : It) : Value := .slice x.sA x.nd.smp.length x.sc
def itC (x : It) : List Value := [.int .u64 x.key.1, .int .u64 x.key.2, .slice x.sA x.nd.smp.length x.sc, .slice x.pA x.nd.past.length x.pc, .int .i64 x.nd.pol.mn, .int .i64 x.nd.pol.mx, .int .i64 x.nd.pol.tg, .int .i64 x.nd.pol.tol, .int .i64 x.nd.pol.win, .int .i64 x.nd.pol.hold, .bool x.nd.ruled, .int .i64 (x.nd.ver : Nat)]
def LoadIn (P : Nat → Prop) (w : World) (x : It) : Prop := RowG P 2 smpC w (.slice x.sA x.nd.smp.length x.sc) x.nd.smp ∧ RowG P 5 advC w (.slice x.pA x.nd.past.length x.pc) x.nd.past
theorem LoadIn.below {P : Nat → Prop} {w w' : World} {x : It} (h : LoadIn P w x) (hb : Below w.heap.size w w') : LoadIn P w' x := ⟨h.1.below hb, h.2.below hb⟩
theorem LoadIn.imp {P Q : Nat → Prop} {w : World} {x : It} (h : LoadIn P w x) (hi : ∀ b, P b → Q b) : LoadIn Q w x := ⟨h.1.imp hi, h.2.imp hi⟩
def ItemsIn (P : Nat → Prop) (w : World) (v : Value) (l : List It) : Prop := RowG P 12 itC w v l ∧ ∀ x ∈ l, LoadIn P w x
theorem ItemsIn.imp {P Q : Nat → Prop} {w : World} {v : Value} {l : List It} (h : ItemsIn P w v l) (hi : ∀ b, P b → Q b) : ItemsIn Q w v l := ⟨h.1.imp hi, fun x hx => (h.2 x hx).imp hi⟩
theorem ItemsIn.below {P : Nat → Prop} {w w' : World} {v : Value} {l : List It} (h : ItemsIn P w v l) (hb : Below w.heap.size w w') : ItemsIn P w' v l := ⟨h.1.below hb, fun x hx => (h.2 x hx).below hb⟩

/-- Where a key stands, or would. -/
def atI (l : List It) (k : Ky) : Nat := (l.takeWhile (fun x => ltK x.key k)).length
theorem atI_lt {l : List It} {k : Ky} : ∀ {i : Nat} (h : i < l.length), i < atI l k → ltK l[i].key k = true := by
  induction l with
  | nil => intro i h; simp at h
  | cons a l ih =>
    intro i h hi
    by_cases ha : ltK a.key k = true
    · have e : atI (a :: l) k = atI l k + 1 := by simp [atI, ha]
      rw [e] at hi
      cases i with
      | zero => exact ha
      | succ i => simpa using ih (by simpa using h) (by omega)
    · have e : atI (a :: l) k = 0 := by simp [atI, ha]
      omega
theorem atI_ge {l : List It} {k : Ky} (h : atI l k < l.length) : ltK l[atI l k].key k = false := by
  induction l with
  | nil => simp at h
  | cons a l ih =>
    by_cases ha : ltK a.key k = true
    · have e : atI (a :: l) k = atI l k + 1 := by simp [atI, ha]
      simp only [e] at h ⊢
      simp only [List.getElem_cons_succ]
      exact ih (by simpa using h)
    · have e : atI (a :: l) k = 0 := by simp [atI, ha]
      simp only [e, List.getElem_cons_zero]
      simpa using ha
end

section
set_option linter.unusedSimpArgs false
set_option linter.unusedVariables false
open Go.RowKit Go.Lib Go.Sort

def hasI (l : List It) (k : Ky) : Bool := if h : atI l k < l.length then decide (l[atI l k].key = k) else false
end

section
set_option linter.unusedSimpArgs false
set_option linter.unusedVariables false
open Go.RowKit Go.Lib Go.Sort

/-- A key's load, or an empty one. -/
def it0 : It := ⟨(0, 0), none, 0, none, 0, nd0⟩
def getL (l : List It) (k : Ky) : It := if h : atI l k < l.length then (if l[atI l k].key = k then l[atI l k] else it0) else it0
theorem getL_has {l : List It} {k : Ky} (h : hasI l k = true) : ∃ hl : atI l k < l.length, getL l k = l[atI l k] := by
  unfold hasI at h
  split at h
  · rename_i hl
    refine ⟨hl, ?_⟩
    unfold getL
    rw [dif_pos hl, if_pos (by simpa using h)]
  · cases h
theorem getL_none {l : List It} {k : Ky} (h : hasI l k = false) : getL l k = it0 := by
  unfold hasI at h
  unfold getL
  split at h
  · rename_i hl
    rw [dif_pos hl, if_neg (by simpa using h)]
  · rename_i hl
    rw [dif_neg hl]
end

section
set_option linter.unusedSimpArgs false
set_option linter.unusedVariables false
open Go.RowKit Go.Lib Go.Sort
end

section
set_option linter.unusedSimpArgs false
set_option linter.unusedVariables false
open Go.RowKit Go.Lib
end

section
set_option linter.unusedSimpArgs false
set_option linter.unusedVariables false
open Go.RowKit Go.Lib Go.Sort

structure Act17 where
  kind : Int
  smp : Smp
  pol : Pol
  adv : Adv
/-- What is done to a workload: what comes of it, an error, a number. -/
def do17 (rs rh : Nat) (x : Nd) (a : Act17) : Nd × Int × Int :=
  if a.kind = 0 then (if serE a.smp.1 a.smp.2 = 0 then ({ x with smp := putS x.smp (rs : Nat) a.smp, ver := x.ver + 1 }, 0, (x.smp.length : Int) - ((putS x.smp (rs : Nat) a.smp).length : Int)) else (x, serE a.smp.1 a.smp.2, 0))
  else if a.kind = 1 then (if placeS x.smp a.smp.1 = 0 then (x, 0, 0) else ({ x with smp := x.smp.drop (placeS x.smp a.smp.1), ver := x.ver + 1 }, 0, (placeS x.smp a.smp.1 : Nat)))
  else if a.kind = 2 then (if polB a.pol = true then ({ x with pol := a.pol, ruled := true, ver := x.ver + 1 }, 0, 0) else (x, 7, 0))
  else if a.kind = 3 then ({ x with past := pushL x.past rh a.adv, ver := x.ver + 1 }, 0, 0)
  else (x, 0, 0)
/-- A row stands where its block does. -/
theorem RowG.keepP {α : Type} {P : Nat → Prop} {n : Nat} {f : α → List Value} {w w' : World} {v : Value} {l : List α} (h : RowG P n f w v l) (hs : w.heap.size ≤ w'.heap.size) (hk : ∀ b, P b → b < w.heap.size → w'.heap[b]? = w.heap[b]?) : RowG P n f w' v l := by
  obtain ⟨⟨A, c, hv, hc, hr⟩, hp⟩ := h
  refine ⟨⟨A, c, hv, hc, fun hn => ?_⟩, hp⟩
  obtain ⟨b, o, hA, hlt, hat⟩ := hr hn
  have hb := hk b (hp b o _ _ (by rw [hv, hA]) hn) hlt
  exact ⟨b, o, hA, Nat.lt_of_lt_of_le hlt hs, fun k x hx j u hu => by
    have := hat k x hx j u hu
    simp only [World.cell?] at this ⊢
    rw [hb]
    exact this⟩
theorem RowG.and {α : Type} {P Q : Nat → Prop} {n : Nat} {f : α → List Value} {w : World} {v : Value} {l : List α} (h : RowG P n f w v l) (k : RowG Q n f w v l) : RowG (fun b => P b ∧ Q b) n f w v l :=
  ⟨h.1, fun b o m c e hn => ⟨h.2 b o m c e hn, k.2 b o m c e hn⟩⟩
/-- A row that stood ahead of a call lies below what the call makes. -/
theorem RowG.old {α : Type} {P : Nat → Prop} {n : Nat} {f : α → List Value} {w : World} {v : Value} {l : List α} (h : RowG P n f w v l) : RowG (fun b => P b ∧ b < w.heap.size) n f w v l := by
  refine ⟨h.1, fun b o m c e hn => ⟨h.2 b o m c e hn, ?_⟩⟩
  obtain ⟨⟨A, c', hv, hc, hr⟩, _⟩ := h
  obtain ⟨b', o', hA, hlt, _⟩ := hr hn
  rw [e] at hv
  injection hv with e1 _ _
  rw [hA] at e1
  injection e1 with e1
  injection e1 with e1
  omega

theorem LoadIn.old {P : Nat → Prop} {w W : World} {x : It} (h : LoadIn P w x) (hb : Below w.heap.size w W) : LoadIn (fun b => P b ∧ (b < w.heap.size ∨ w.heap.size + 5 ≤ b)) W x :=
  ⟨(h.1.old.below hb).imp (fun _ h => ⟨h.1, .inl h.2⟩), (h.2.old.below hb).imp (fun _ h => ⟨h.1, .inl h.2⟩)⟩
end

section
set_option linter.unusedSimpArgs false
set_option linter.unusedVariables false
open Go.RowKit Go.Lib Go.Sort
end

section
set_option linter.unusedSimpArgs false
set_option linter.unusedVariables false
open Go.RowKit Go.Lib Go.Sort

/-- What a load must be. -/
structure NdOk (rs rh : Nat) (x : Nd) : Prop where
  ris : risingS x.smp
  len : x.smp.length ≤ rs
  past : x.past.length ≤ rh
structure RoomOk (c : Cfg) (rs rh : Nat) : Prop where
  sa : c.sa = (rs : Nat)
  hi : c.hi = (rh : Nat)
  r1 : 1 ≤ rs
  r2 : rs ≤ 256
  h1 : 1 ≤ rh
  h2 : rh ≤ 64
end

end Go.Proofs.YtmniiodpbebnmaaGreat
