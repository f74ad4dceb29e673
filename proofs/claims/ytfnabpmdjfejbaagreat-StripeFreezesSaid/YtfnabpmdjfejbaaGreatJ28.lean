/- The reference's items of a stripe: Get, With. -/
import Derived.Test.YtfnabpmdjfejbaaGreatJ27
namespace Go.Proofs.YtfnabpmdjfejbaaGreat

section
set_option linter.unusedSimpArgs false
set_option linter.unusedVariables false
open Go.RowKit Go.Lib Go.Sort

/-- A key's load, or an empty one. -/
def it0 : It := ⟨(0, 0), none, 0, none, 0, nd0⟩
def getL (l : List It) (k : Ky) : It := if h : atI l k < l.length then (if l[atI l k].key = k then l[atI l k] else it0) else it0
theorem getL_has {l : List It} {k : Ky} (h : hasI l k = true) : ∃ hl : atI l k < l.length, getL l k = l[atI l k] := by
  unfold hasI at h
  split at h
  · rename_i hl
    refine ⟨hl, ?_⟩
    unfold getL
    rw [dif_pos hl, if_pos (by simpa using h)]
  · cases h
theorem getL_none {l : List It} {k : Ky} (h : hasI l k = false) : getL l k = it0 := by
  unfold hasI at h
  unfold getL
  split at h
  · rename_i hl
    rw [dif_pos hl, if_neg (by simpa using h)]
  · rename_i hl
    rw [dif_neg hl]

theorem two_boxes (w : World) (o1 o2 : Obj) : ∀ W, W = (w.alloc o1).alloc o2 → W.heap[w.heap.size]? = some o1 ∧ W.heap[w.heap.size + 1]? = some o2 ∧ W.heap.size = w.heap.size + 2 ∧ Below w.heap.size w W := by
  rintro W rfl
  refine ⟨(Below.heap_alloc _ _ _ (by simp)).trans (heap_alloc_new _ _), ?_, by simp, balloc (balloc (Below.refl _ _) _) _⟩
  have := heap_alloc_new (w.alloc o1) o2
  rw [World.size_alloc] at this
  exact this

theorem post_named {P : Program} {f : Func} {Q : Ending → World → Prop} {x : Exit} {a : Act} {w : World} (h : ∀ W, W = w → bodyPost P f Q x a W) : bodyPost P f Q x a w := h w rfl
/-- A block of ten cells, written anew. -/
theorem set10 {w : World} {B : Nat} {u0 u1 u2 u3 u4 u5 u6 u7 u8 u9 : Value} {T : TypeId} (h : w.heap[B]? = some (.cells #[u0, u1, u2, u3, u4, u5, u6, u7, u8, u9] T (0, 0))) (v0 v1 v2 v3 v4 v5 v6 v7 v8 v9 : Value) : ∀ W, W = (((((((((w.setCell ⟨B, 0, none⟩ v0).setCell ⟨B, 1, none⟩ v1).setCell ⟨B, 2, none⟩ v2).setCell ⟨B, 3, none⟩ v3).setCell ⟨B, 4, none⟩ v4).setCell ⟨B, 5, none⟩ v5).setCell ⟨B, 6, none⟩ v6).setCell ⟨B, 7, none⟩ v7).setCell ⟨B, 8, none⟩ v8).setCell ⟨B, 9, none⟩ v9 →
    W.heap[B]? = some (.cells #[v0, v1, v2, v3, v4, v5, v6, v7, v8, v9] T (0, 0)) ∧ (∀ k, k ≠ B → W.heap[k]? = w.heap[k]?) ∧ W.heap.size = w.heap.size ∧ ∀ n, n ≤ B → Below n w W := by
  rintro W rfl
  refine ⟨?_, fun k hk => ?_, by simp [World.setCell], fun n hn => ?_⟩
  · have h0 : (w.setCell ⟨B, 0, none⟩ v0).heap[B]? = some (.cells #[v0, u1, u2, u3, u4, u5, u6, u7, u8, u9] T (0, 0)) := setCell_block (i := 0) (v := v0) h
    have h1 : ((w.setCell ⟨B, 0, none⟩ v0).setCell ⟨B, 1, none⟩ v1).heap[B]? = some (.cells #[v0, v1, u2, u3, u4, u5, u6, u7, u8, u9] T (0, 0)) := setCell_block (i := 1) (v := v1) h0
    have h2 : (((w.setCell ⟨B, 0, none⟩ v0).setCell ⟨B, 1, none⟩ v1).setCell ⟨B, 2, none⟩ v2).heap[B]? = some (.cells #[v0, v1, v2, u3, u4, u5, u6, u7, u8, u9] T (0, 0)) := setCell_block (i := 2) (v := v2) h1
    have h3 : ((((w.setCell ⟨B, 0, none⟩ v0).setCell ⟨B, 1, none⟩ v1).setCell ⟨B, 2, none⟩ v2).setCell ⟨B, 3, none⟩ v3).heap[B]? = some (.cells #[v0, v1, v2, v3, u4, u5, u6, u7, u8, u9] T (0, 0)) := setCell_block (i := 3) (v := v3) h2
    have h4 : (((((w.setCell ⟨B, 0, none⟩ v0).setCell ⟨B, 1, none⟩ v1).setCell ⟨B, 2, none⟩ v2).setCell ⟨B, 3, none⟩ v3).setCell ⟨B, 4, none⟩ v4).heap[B]? = some (.cells #[v0, v1, v2, v3, v4, u5, u6, u7, u8, u9] T (0, 0)) := setCell_block (i := 4) (v := v4) h3
    have h5 : ((((((w.setCell ⟨B, 0, none⟩ v0).setCell ⟨B, 1, none⟩ v1).setCell ⟨B, 2, none⟩ v2).setCell ⟨B, 3, none⟩ v3).setCell ⟨B, 4, none⟩ v4).setCell ⟨B, 5, none⟩ v5).heap[B]? = some (.cells #[v0, v1, v2, v3, v4, v5, u6, u7, u8, u9] T (0, 0)) := setCell_block (i := 5) (v := v5) h4
    have h6 : (((((((w.setCell ⟨B, 0, none⟩ v0).setCell ⟨B, 1, none⟩ v1).setCell ⟨B, 2, none⟩ v2).setCell ⟨B, 3, none⟩ v3).setCell ⟨B, 4, none⟩ v4).setCell ⟨B, 5, none⟩ v5).setCell ⟨B, 6, none⟩ v6).heap[B]? = some (.cells #[v0, v1, v2, v3, v4, v5, v6, u7, u8, u9] T (0, 0)) := setCell_block (i := 6) (v := v6) h5
    have h7 : ((((((((w.setCell ⟨B, 0, none⟩ v0).setCell ⟨B, 1, none⟩ v1).setCell ⟨B, 2, none⟩ v2).setCell ⟨B, 3, none⟩ v3).setCell ⟨B, 4, none⟩ v4).setCell ⟨B, 5, none⟩ v5).setCell ⟨B, 6, none⟩ v6).setCell ⟨B, 7, none⟩ v7).heap[B]? = some (.cells #[v0, v1, v2, v3, v4, v5, v6, v7, u8, u9] T (0, 0)) := setCell_block (i := 7) (v := v7) h6
    have h8 : (((((((((w.setCell ⟨B, 0, none⟩ v0).setCell ⟨B, 1, none⟩ v1).setCell ⟨B, 2, none⟩ v2).setCell ⟨B, 3, none⟩ v3).setCell ⟨B, 4, none⟩ v4).setCell ⟨B, 5, none⟩ v5).setCell ⟨B, 6, none⟩ v6).setCell ⟨B, 7, none⟩ v7).setCell ⟨B, 8, none⟩ v8).heap[B]? = some (.cells #[v0, v1, v2, v3, v4, v5, v6, v7, v8, u9] T (0, 0)) := setCell_block (i := 8) (v := v8) h7
    have h9 : ((((((((((w.setCell ⟨B, 0, none⟩ v0).setCell ⟨B, 1, none⟩ v1).setCell ⟨B, 2, none⟩ v2).setCell ⟨B, 3, none⟩ v3).setCell ⟨B, 4, none⟩ v4).setCell ⟨B, 5, none⟩ v5).setCell ⟨B, 6, none⟩ v6).setCell ⟨B, 7, none⟩ v7).setCell ⟨B, 8, none⟩ v8).setCell ⟨B, 9, none⟩ v9).heap[B]? = some (.cells #[v0, v1, v2, v3, v4, v5, v6, v7, v8, v9] T (0, 0)) := setCell_block (i := 9) (v := v9) h8
    exact h9
  · have e : ∀ (u : World) (i : Nat) (v : Value), (u.setCell ⟨B, i, none⟩ v).heap[k]? = u.heap[k]? := fun u i v => Below.heap_setCell _ _ _ _ hk
    rw [e, e, e, e, e, e, e, e, e, e]
  · exact (((((((((((Below.refl n w).setCell hn _).setCell hn _).setCell hn _).setCell hn _).setCell hn _).setCell hn _).setCell hn _).setCell hn _).setCell hn _).setCell hn _)

set_option maxRecDepth 100000 in
set_option maxHeartbeats 4000000 in
theorem iget_any (v : Value) (l : List It) (k : Ky) (w : World) (hv : RowIn 12 itC w v l) (hl : l.length ≤ 1000000) (hok : ∀ x ∈ l, x.key.ok) (hk : k.ok) :
    Calls Tryz.prog 26 #[v, .agg #[.int .u64 k.1, .int .u64 k.2]] w fun e w' => e = .returned (.agg (loadC (getL l k)).toArray) ∧ Below w.heap.size w w' := by
  obtain ⟨A, c, rfl⟩ := hv.form
  have HH := Lib.hid (fun (W : World) (hb : Below w.heap.size w W) => ihas_any _ l k W (hv.below hb) hl hok hk)
  have HAT := Lib.hid (fun (W : World) (hb : Below w.heap.size w W) => iat_any _ l k W (hv.below hb) hl hok hk)
  have HV := Lib.hid hv
  clear hv
  cases hh : hasI l k with
  | true =>
    obtain ⟨hal, hg⟩ := getL_has hh
    have HG := Lib.hid hg
    rw [hh] at HH
    obtain ⟨b, o, rfl, hbw, hc⟩ := HV.out.at_ hal
    generalize l[atI l k] = x at hc HG
    have HC := Lib.hid (show ∀ j u, (itC x)[j]? = some u → w.cell? ⟨b, o + atI l k * 12 + j, none⟩ = some u from hc)
    generalize ha : atI l k = a at *
    clear ha hg hc hh hok
    go_enter Tryz.func26, Tryz.ntmps26
    go_wp2_with (first
      | (go_at_call 16
         refine calls_named ?_
         intro W1 hW1
         obtain ⟨k0, k1, hs, hb⟩ := two_boxes w _ _ W1 hW1
         clear hW1
         refine (HH.out W1 hb).mono ?_
         rintro e w2 ⟨rfl, hb2⟩
         obtain ⟨a1, a2, a3, a4⟩ := box_at hb2 k0
         have HX := Lib.hid (And.intro a4 ((hb2.block _ (Array.getElem?_eq_some_iff.1 k1).1).trans k1))
         have HB := Lib.hid (bthen hb hb2)
         clear k0 k1 hs hb hb2 a4)
      | (go_at_call 38
         refine (HAT.out w2 HB.out).mono ?_
         rintro e w3 ⟨rfl, hb3⟩
         obtain ⟨b1, b2, b3⟩ := box_cells hb3 HX.out.2
         have hbb := bthen HB.out hb3
         have q0 := (hbb.cell (p := ⟨b, _, none⟩) hbw).trans (HC.out 2 _ rfl)
         have q1 := (hbb.cell (p := ⟨b, _, none⟩) hbw).trans (HC.out 3 _ rfl)
         have q2 := (hbb.cell (p := ⟨b, _, none⟩) hbw).trans (HC.out 4 _ rfl)
         have q3 := (hbb.cell (p := ⟨b, _, none⟩) hbw).trans (HC.out 5 _ rfl)
         have q4 := (hbb.cell (p := ⟨b, _, none⟩) hbw).trans (HC.out 6 _ rfl)
         have q5 := (hbb.cell (p := ⟨b, _, none⟩) hbw).trans (HC.out 7 _ rfl)
         have q6 := (hbb.cell (p := ⟨b, _, none⟩) hbw).trans (HC.out 8 _ rfl)
         have q7 := (hbb.cell (p := ⟨b, _, none⟩) hbw).trans (HC.out 9 _ rfl)
         have q8 := (hbb.cell (p := ⟨b, _, none⟩) hbw).trans (HC.out 10 _ rfl)
         have q9 := (hbb.cell (p := ⟨b, _, none⟩) hbw).trans (HC.out 11 _ rfl)
         have HB3 := Lib.hid (And.intro hbb ((hb3.block _ (Array.getElem?_eq_some_iff.1 HX.out.2).1).trans HX.out.2))
         clear hb3 hbb))
    refine post_named ?_
    intro W4 hW4
    obtain ⟨h4, h5, h6, h7⟩ := set10 HB3.out.2 _ _ _ _ _ _ _ _ _ _ W4 hW4
    obtain ⟨d1, d2, d3⟩ := box_cells (Below.refl _ _) h4
    have hb4 := HB3.out.1.trans (h7 w.heap.size (by omega))
    clear hW4
    exact bodyPost_ret (v := .agg (loadC x).toArray) (by simp [results, Tryz.results26, go_sem, loadC, d1]) rfl ⟨by rw [HG.out], hb4⟩
  | false =>
    have HG := Lib.hid (getL_none hh)
    rw [hh] at HH
    clear hh hok
    go_enter Tryz.func26, Tryz.ntmps26
    go_wp2_with (first
      | (go_at_call 16
         refine calls_named ?_
         intro W1 hW1
         obtain ⟨k0, k1, hs, hb⟩ := two_boxes w _ _ W1 hW1
         clear hW1
         refine (HH.out W1 hb).mono ?_
         rintro e w2 ⟨rfl, hb2⟩
         obtain ⟨a1, a2, a3⟩ := box_cells hb2 k0
         obtain ⟨b1, b2, b3⟩ := box_cells hb2 k1
         have HB := Lib.hid (And.intro (bthen hb hb2) ((hb2.block _ (Array.getElem?_eq_some_iff.1 k1).1).trans k1))
         clear k0 k1 hs hb hb2))
    refine post_named ?_
    intro W4 hW4
    obtain ⟨h4, h5, h6, h7⟩ := set10 HB.out.2 _ _ _ _ _ _ _ _ _ _ W4 hW4
    obtain ⟨d1, d2, d3⟩ := box_cells (Below.refl _ _) h4
    have hb4 := HB.out.1.trans (h7 w.heap.size (by omega))
    clear hW4
    exact bodyPost_ret (v := .agg (loadC it0).toArray) (by simp [results, Tryz.results26, go_sem, loadC, it0, nd0, pol0, d1]) rfl ⟨by rw [HG.out], hb4⟩
end

end Go.Proofs.YtfnabpmdjfejbaaGreat
