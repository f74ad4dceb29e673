/- node.Set; node.Trim. -/
import Derived.Test.YtfnabpmdjfejbaaGreatJ23
namespace Go.Proofs.YtfnabpmdjfejbaaGreat

section
set_option linter.unusedSimpArgs false
set_option linter.unusedVariables false
open Go.RowKit Go.Lib Go.Sort

set_option maxRecDepth 100000 in
set_option maxHeartbeats 4000000 in
theorem nodeSet_bad (N : Nat) (p : Pol) (w : World) (hp : polB p = false) :
    Calls Tryz.prog 46 #[.pointer (some ⟨N, 0, none⟩), polV p] w fun e w' => e = .returned (.tuple #[.pointer (some ⟨N, 0, none⟩), .int .i64 7]) ∧ Below w.heap.size w w' := by
  have hE : polE p = 7 := by unfold polE; rw [hp]; rfl
  have HE := Lib.hid hE
  have HC := Lib.hid (policyCheck_any p)
  clear hp hE
  unfold polV
  unfold polV at HC
  go_enter Tryz.func46, Tryz.ntmps46
  go_wp2_with (go_at_call 64; refine (HC.out _).mono ?_; rw [HE.out]; rintro e w2 ⟨rfl, hb2⟩; have HB := Lib.hid hb2; clear hb2)
  exact bodyPost_ret (v := .tuple #[.pointer (some ⟨N, 0, none⟩), .int .i64 7]) (by simp [results, Tryz.results46, go_sem]) rfl ⟨rfl, bthen (balloc (Below.refl _ _) _) HB.out⟩

set_option maxRecDepth 100000 in
set_option maxHeartbeats 4000000 in
theorem nodeSet_any (N : Nat) (x : Nd) (rs rh : Nat) (fp : List Nat) (p : Pol) (w : World) (h : NodeIn w N x rs rh fp) (hrs : rs ≤ 256) (hrh : rh ≤ 64) (hv : x.ver ≤ 1000000) (hp : polB p = true) :
    Calls Tryz.prog 46 #[.pointer (some ⟨N, 0, none⟩), polV p] w (NdSays w { bump x with pol := p, ruled := true } rs rh (mfp x fp) (fun q => .tuple #[q, .int .i64 0])) := by
  have HN := Lib.hid h
  have hE : polE p = 0 := by unfold polE; rw [hp]; rfl
  have HE := Lib.hid hE
  have HC := Lib.hid (policyCheck_any p)
  clear h hp hE
  unfold polV
  unfold polV at HC
  go_enter Tryz.func46, Tryz.ntmps46
  go_wp2_with (first
    | (go_at_call 64
       refine calls_named ?_
       intro W1 hW1
       have hb1 : Below w.heap.size w W1 := by rw [hW1]; exact balloc (Below.refl _ _) _
       have hx1 : W1.heap[w.heap.size]? = some (.cells #[.int .i64 p.mn, .int .i64 p.mx, .int .i64 p.tg, .int .i64 p.tol, .int .i64 p.win, .int .i64 p.hold] 36 (0, 0)) := by rw [hW1]; exact heap_alloc_new _ _
       clear hW1
       refine (HC.out W1).mono ?_
       rw [HE.out]
       rintro e w2 ⟨rfl, hb2⟩
       have HB2 := Lib.hid (bthen hb1 hb2)
       have HX := Lib.hid ((hb2.block w.heap.size (Array.getElem?_eq_some_iff.1 hx1).1).trans hx1)
       clear hb1 hb2 hx1)
    | (go_at_call 35
       refine (made_any N x rs rh fp w2 (HN.out.below HB2.out)).mono ?_
       rintro e w5 ⟨rfl, hb5⟩
       have HB5 := Lib.hid (bthen HB2.out hb5)
       have HX5 := Lib.hid ((hb5.block w.heap.size (Array.getElem?_eq_some_iff.1 HX.out).1).trans HX.out)
       clear hb5)
    | (go_at_call 59
       refine (own_any N x rs rh fp w5 (HN.out.below HB5.out) hrs hrh hv).mono ?_
       rintro e w3 ⟨N3, fp3, rfl, hn3, hu3⟩
       have hnm : w.heap.size ∉ mfp x fp := fun hm => by
         unfold mfp at hm
         split at hm
         · simp at hm
         · have := HN.out.lt _ hm; omega
       have hx3 := (hu3.block w.heap.size (Array.getElem?_eq_some_iff.1 HX5.out).1 hnm).trans HX5.out
       obtain ⟨b1, b2, b3⟩ := box_cells (Below.refl _ _) hx3
       have hlt5 := (Array.getElem?_eq_some_iff.1 HX5.out).1
       have hne : w.heap.size ≠ N3 := fun e => by
         rcases hu3.fresh N3 hn3.mem with h | h
         · rw [← e] at h; exact hnm h
         · omega
       have HL := Lib.hid (node_setp hn3 p)
       have HU3 := Lib.hid ((Upd.of_below HB5.out _).trans hu3)
       obtain ⟨S, fs, H, fh, h1, h2, h3, h4, h5, h6, hfp, h7, h8⟩ := hn3
       unfold ndC at h1
       obtain ⟨a1, a2, a3⟩ := box_cells (Below.refl _ _) h1
       clear h1 h2 h3 h4 h5 h6 h7 h8 hfp hu3 hx3 hnm))
  refine bodyPost_ret (v := .tuple #[.pointer (some ⟨N3, 0, none⟩), .int .i64 0]) (by simp [results, Tryz.results46, go_sem]) rfl ?_
  exact ⟨N3, fp3, rfl, HL.out.1, HU3.out.trans HL.out.2⟩
end

section
set_option linter.unusedSimpArgs false
set_option linter.unusedVariables false
open Go.RowKit Go.Lib Go.Sort

theorem placeS_zero {l : List Smp} (hr : risingS l) (t : Int) (h : placeS l t = 0) : ∀ h0 : 0 < l.length, t ≤ l[0].1 := fun h0 => by
  by_cases h3 : l[0].1 < t
  · have := (placeS_lt hr t 0 h0).2 h3; omega
  · omega
theorem placeS_pos {l : List Smp} (hr : risingS l) (t : Int) (h : 0 < placeS l t) : ∃ h0 : 0 < l.length, l[0].1 < t := by
  have h0 : 0 < l.length := by have := placeS_le l t; omega
  exact ⟨h0, (placeS_lt hr t 0 h0).1 h⟩

def TrimS (w : World) (N : Nat) (x : Nd) (rs rh : Nat) (fp : List Nat) (t : Int) (e : Ending) (w' : World) : Prop :=
  (placeS x.smp t = 0 ∧ e = .returned (.tuple #[.pointer (some ⟨N, 0, none⟩), .int .i64 0]) ∧ Below w.heap.size w w') ∨
  (0 < placeS x.smp t ∧ NdSays w { bump x with smp := x.smp.drop (placeS x.smp t) } rs rh (mfp x fp) (fun q => .tuple #[q, .int .i64 (placeS x.smp t : Nat)]) e w')

set_option maxRecDepth 100000 in
set_option maxHeartbeats 4000000 in
theorem nodeTrim_none (N : Nat) (x : Nd) (rs rh : Nat) (fp : List Nat) (t : Int) (w : World) (h : NodeIn w N x rs rh fp) (hrs : rs ≤ 256) (h0 : placeS x.smp t = 0) :
    Calls Tryz.prog 43 #[.pointer (some ⟨N, 0, none⟩), .int .i64 t] w (TrimS w N x rs rh fp t) := by
  have HN := Lib.hid h
  have HM := Lib.hid (made_any N x rs rh fp w h)
  obtain ⟨S, fs, H, fh, h1, h2, h3, h4, h5, h6, hfp, h7, h8⟩ := h
  unfold ndC at h1
  have hz := placeS_zero h7 t h0
  have HS := Lib.hid h2
  have H1 := Lib.hid h1
  have H0 := Lib.hid h0
  clear h1 h2 h3 h4 h5 h6 hfp h7 h0
  rcases Nat.eq_zero_or_pos x.smp.length with he | hp
  · go_enter Tryz.func43, Tryz.ntmps43
    go_wp2_with (first
      | (go_at_call 35; refine HM.out.mono ?_; rintro e w2 ⟨rfl, hb2⟩; obtain ⟨a1, a2, a3⟩ := box_cells hb2 H1.out; have HB2 := Lib.hid hb2; clear hb2)
      | (go_at_call 56
         refine (serList_any S _ _ fs w2 (HS.out.below HB2.out) (by omega)).mono ?_
         rintro e w3 ⟨A, c, fq, rfl, hq, _, hb3⟩
         have HB3 := Lib.hid (bthen HB2.out hb3)
         clear hq hb3))
    exact bodyPost_ret (v := .tuple #[.pointer (some ⟨N, 0, none⟩), .int .i64 0]) (by simp [results, Tryz.results43, go_sem]) rfl (.inl ⟨H0.out, rfl, HB3.out⟩)
  · have hz1 := hz hp
    have hne : ((x.smp.length : Int) == 0) = false := by rw [beq_eq_false_iff_ne]; omega
    clear hz
    go_enter Tryz.func43, Tryz.ntmps43
    go_wp2_with (first
      | (go_at_call 35; refine HM.out.mono ?_; rintro e w2 ⟨rfl, hb2⟩; obtain ⟨a1, a2, a3⟩ := box_cells hb2 H1.out; have HB2 := Lib.hid hb2; clear hb2)
      | (go_at_call 56
         refine (serList_any S _ _ fs w2 (HS.out.below HB2.out) (by omega)).mono ?_
         rintro e w3 ⟨A, c, fq, rfl, hq, _, hb3⟩
         obtain ⟨g, o, rfl, hg, hc⟩ := (hq.row eSmp).at_ hp
         have hc0 := hc 0 _ rfl
         simp only [Nat.zero_mul, Nat.add_zero] at hc0
         have q1 : (0 : Int) < (x.smp.length : Int) := by omega
         have HB3 := Lib.hid (bthen HB2.out hb3)
         clear hq hb3 hc))
    exact bodyPost_ret (v := .tuple #[.pointer (some ⟨N, 0, none⟩), .int .i64 0]) (by simp [results, Tryz.results43, go_sem]) rfl (.inl ⟨H0.out, rfl, HB3.out⟩)
set_option maxRecDepth 100000 in
set_option maxHeartbeats 4000000 in
theorem nodeTrim_some (N : Nat) (x : Nd) (rs rh : Nat) (fp : List Nat) (t : Int) (w : World) (h : NodeIn w N x rs rh fp) (hrs : rs ≤ 256) (hrh : rh ≤ 64) (hv : x.ver ≤ 1000000) (h0 : 0 < placeS x.smp t) :
    Calls Tryz.prog 43 #[.pointer (some ⟨N, 0, none⟩), .int .i64 t] w (TrimS w N x rs rh fp t) := by
  have HN := Lib.hid h
  have HM := Lib.hid (made_any N x rs rh fp w h)
  obtain ⟨S, fs, H, fh, h1, h2, h3, h4, h5, h6, hfp, h7, h8⟩ := h
  unfold ndC at h1
  obtain ⟨hp, hlt⟩ := placeS_pos h7 t h0
  have HS := Lib.hid h2
  have H1 := Lib.hid h1
  have H0 := Lib.hid h0
  clear h1 h2 h3 h4 h5 h6 hfp h7 h0
  have hz1 : ¬ t ≤ x.smp[0].1 := by omega
  have hne : ((x.smp.length : Int) == 0) = false := by rw [beq_eq_false_iff_ne]; omega
  clear hlt
  go_enter Tryz.func43, Tryz.ntmps43
  go_wp2_with (first
    | (go_at_call 35; refine HM.out.mono ?_; rintro e w2 ⟨rfl, hb2⟩; obtain ⟨a1, a2, a3⟩ := box_cells hb2 H1.out; have HB2 := Lib.hid hb2; clear hb2)
    | (go_at_call 56
       refine (serList_any S _ _ fs w2 (HS.out.below HB2.out) (by omega)).mono ?_
       rintro e w3 ⟨A, c, fq, rfl, hq, _, hb3⟩
       obtain ⟨g, o, rfl, hg, hc⟩ := (hq.row eSmp).at_ hp
       have hc0 := hc 0 _ rfl
       simp only [Nat.zero_mul, Nat.add_zero] at hc0
       have q1 : (0 : Int) < (x.smp.length : Int) := by omega
       have HB3 := Lib.hid (bthen HB2.out hb3)
       clear hq hb3 hc)
    | (go_at_call 59
       refine (own_any N x rs rh fp w3 (HN.out.below HB3.out) hrs hrh hv).mono ?_
       rintro e w5 ⟨N3, fp3, rfl, ⟨S5, fs5, H5, fh5, h1, h2, h3, h4, h5, h6, hfp, h7, h8⟩, hu3⟩
       have g1 := h1
       unfold ndC at g1
       obtain ⟨b1, b2, b3⟩ := box_cells (Below.refl _ _) g1
       have HU3 := Lib.hid ((Upd.of_below HB3.out _).trans hu3)
       have G1 := Lib.hid h1
       have G2 := Lib.hid h2
       have G3 := Lib.hid h3
       have G7 := Lib.hid h7
       have G8 := Lib.hid h8
       have HFP := Lib.hid hfp
       clear g1 h1 h2 h3 h7 h8 hu3 hfp)
    | (go_at_call 61
       refine (serTrim_any S5 _ (rs : Nat) fs5 t w5 G2.out G7.out (by have := G8.out; omega)).mono ?_
       rintro e w6 ⟨fs', rfl, hs4, hu4⟩
       have HL := Lib.hid (node_ser G1.out G3.out h4 h5 h6 hs4 hu4 (rising_drop G7.out _) (by have := G8.out; simp; omega))
       clear hs4 hu4))
  refine bodyPost_ret (v := .tuple #[.pointer (some ⟨N3, 0, none⟩), .int .i64 (placeS x.smp t : Nat)]) (by simp [results, Tryz.results43, go_sem, bump]) rfl ?_
  obtain ⟨l1, l2⟩ := HL.out
  refine .inr ⟨H0.out, N3, _, rfl, l1, ?_⟩
  have hu := HU3.out
  rw [HFP.out] at hu
  exact hu.trans l2

theorem nodeTrim_any (N : Nat) (x : Nd) (rs rh : Nat) (fp : List Nat) (t : Int) (w : World) (h : NodeIn w N x rs rh fp) (hrs : rs ≤ 256) (hrh : rh ≤ 64) (hv : x.ver ≤ 1000000) :
    Calls Tryz.prog 43 #[.pointer (some ⟨N, 0, none⟩), .int .i64 t] w (TrimS w N x rs rh fp t) := by
  rcases Nat.eq_zero_or_pos (placeS x.smp t) with h0 | h0
  · exact nodeTrim_none N x rs rh fp t w h hrs h0
  · exact nodeTrim_some N x rs rh fp t w h hrs hrh hv h0
end

end Go.Proofs.YtfnabpmdjfejbaaGreat
