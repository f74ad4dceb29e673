/- The reference's Right, where it is so. -/
import Derived.Test.YtfnabpmdjfejbaaQRefG
import Derived.Test.YtfnabpmdjfejbaaRefRis
namespace Go.Proofs.Ytfnabpmdjfejbaa
set_option linter.unusedSimpArgs false
set_option linter.unusedVariables false
open Go.RowKit Go.Lib

theorem keys_take {w : World} {A : Option Addr} {m c : Nat} {l : List Ky} (h : KeysIn w (.slice A m c) l) {k : Nat} (hk : k ≤ l.length) : KeysIn w (.slice A k c) (l.take k) := by
  obtain ⟨A1, c1, hv, h⟩ := h
  injection hv with e1 e2 e3
  subst e1 e3
  have hlen : (l.take k).length = k := by simp; omega
  refine ⟨_, _, by rw [hlen], fun hn => ?_⟩
  obtain ⟨b, o, hA, hlt, hc⟩ := h (by omega)
  refine ⟨b, o, hA, hlt, fun j u hu => hc j u ?_⟩
  rw [← cellsK_take] at hu
  rw [List.getElem?_take] at hu
  split at hu
  · exact hu
  · cases hu

theorem keepR {w a c : World} {g b1 n : Nat} {cs : Array Value} {p q : Nat} {v u : Option Value} (h : (∀ j, a.cell? ⟨g, j, none⟩ = cs[j]?) ∧ (a.cell? ⟨b1, p, none⟩ = v ∧ a.cell? ⟨b1, q, none⟩ = u) ∧ Below w.heap.size w a ∧ (g < a.heap.size ∧ b1 < a.heap.size)) (k : Below n a c) (e : n = a.heap.size) :
    (∀ j, c.cell? ⟨g, j, none⟩ = cs[j]?) ∧ (c.cell? ⟨b1, p, none⟩ = v ∧ c.cell? ⟨b1, q, none⟩ = u) ∧ Below w.heap.size w c ∧ (g < c.heap.size ∧ b1 < c.heap.size) := by
  subst e
  obtain ⟨h1, ⟨h2, h3⟩, h4, h5, h6⟩ := h
  exact ⟨fun j => (k.cell (p := ⟨g, j, none⟩) h5).trans (h1 j), ⟨(k.cell (p := ⟨b1, p, none⟩) h6).trans h2, (k.cell (p := ⟨b1, q, none⟩) h6).trans h3⟩, bthen h4 k, Nat.lt_of_lt_of_le h5 k.size, Nat.lt_of_lt_of_le h6 k.size⟩

set_option maxRecDepth 100000 in
set_option maxHeartbeats 4000000 in
theorem right_true (vl vb vd : Value) (l b d : List Ky) (ov : Bool) (w : World) (hl : RowIn 2 keyC w vl l) (hb : RowIn 2 keyC w vb b) (hd : RowIn 2 keyC w vd d) (sl : l.length ≤ 100000) (sb : b.length ≤ 100000) (sd : d.length ≤ 100000)
    (h1 : ∀ (i : Nat) (hi : i < l.length), l[i] ∉ l.take i ∧ l[i] ∉ b ∧ l[i] ∈ d) (h2 : ∀ x ∈ d, x ∈ l ∨ x ∈ b) (h3 : (risL b).length = b.length) (hok : ∀ p ∈ b, p.ok) :
    Calls Try.prog 14 #[.agg #[vl, vb, vd, .bool ov]] w fun e w' => e = .returned (.bool true) ∧ Below w.heap.size w w' := by
  obtain ⟨Al, cl, rfl, hcl, _⟩ := id hl
  obtain ⟨Ab, cb, rfl, _⟩ := id hb
  obtain ⟨Ad, cd, rfl, _⟩ := id hd
  have HL := Lib.hid (keysIn_row hl)
  have HB := Lib.hid (keysIn_row hb)
  have HD := Lib.hid (keysIn_row hd)
  have H1 := Lib.hid h1
  have H2 := Lib.hid h2
  have H3 := Lib.hid h3
  have HO := Lib.hid hok
  clear hl hb hd h1 h2 h3 hok
  go_enter Try.func14, Try.ntmps14
  go_wp2_with fail
  refine name_world ?_
  intro W hW
  obtain ⟨u1, u2, u3⟩ := startA w #[.slice Al l.length cl, .slice Ab b.length cb, .slice Ad d.length cd, .bool ov] 44
  rw [← hW] at u1 u2 u3
  clear hW
  go_wp2
  go_loopg [3] l.length (fun g s3 wr => ∃ k : Nat, k ≤ l.length ∧ l.length - k ≤ g ∧ s3 = .int .i64 k ∧ ((∀ j, wr.cell? ⟨w.heap.size, j, none⟩ = (#[.slice Al l.length cl, .slice Ab b.length cb, .slice Ad d.length cd, .bool ov] : Array Value)[j]?) ∧ Below w.heap.size w wr ∧ w.heap.size < wr.heap.size))
  case atStart => exact ⟨0, Nat.zero_le _, Nat.le_refl _, rfl, u1, u2, u3⟩
  case round =>
    obtain ⟨k, hk, hg, rfl, hS⟩ := hrel
    have HS := Lib.hid hS
    obtain ⟨v1, v2, v3⟩ := hS
    by_cases hlt : k < l.length
    · obtain ⟨b1, o1, rfl, hb1, c1, c2⟩ := (HL.out.below v2).at_ hlt
      obtain ⟨g1, g2, g3⟩ := H1.out k hlt
      have hk1 : (k : Int) < (l.length : Int) := by omega
      have hk0 : (0 : Int) ≤ (k : Int) := by omega
      have hkc : (k : Int) ≤ (cl : Int) := by omega
      have hme : l.length - (k + 1) < l.length - k := by omega
      have lt1 : (l.take k).length ≤ 1000000 := by simp; omega
      obtain ⟨x, hx⟩ : ∃ x, l[k] = x := ⟨_, rfl⟩
      rw [hx] at c1 c2 g1 g2 g3
      have HT := Lib.hid (fun (W' : World) (hW' : Below w.heap.size w W') => keys_take (HL.out.below hW') hk)
      have G1 := Lib.hid (decide_eq_false g1)
      have G2 := Lib.hid (decide_eq_false g2)
      have G3 := Lib.hid (decide_eq_true g3)
      clear hx g1 g2 g3
      go_wp2_with (fail)
      have HS0 : (∀ j, wr.cell? ⟨w.heap.size, j, none⟩ = (#[.slice (some ⟨b1, o1, none⟩) l.length cl, .slice Ab b.length cb, .slice Ad d.length cd, .bool ov] : Array Value)[j]?) ∧ (wr.cell? ⟨b1, o1 + k * 2, none⟩ = some (.int .u64 x.1) ∧ wr.cell? ⟨b1, o1 + k * 2 + 1, none⟩ = some (.int .u64 x.2)) ∧ Below w.heap.size w wr ∧ (w.heap.size < wr.heap.size ∧ b1 < wr.heap.size) := ⟨v1, ⟨c1, c2⟩, v2, v3, hb1⟩
      have HSD := HS0
      replace HSD := keepR HSD (Below.drew (Below.refl _ _)) rfl
      clear v1 c1 c2
      go_region_held3 (fun W' => (∀ j, W'.cell? ⟨w.heap.size, j, none⟩ = (#[.slice (some ⟨b1, o1, none⟩) l.length cl, .slice Ab b.length cb, .slice Ad d.length cd, .bool ov] : Array Value)[j]?) ∧ (W'.cell? ⟨b1, o1 + k * 2, none⟩ = some (.int .u64 x.1) ∧ W'.cell? ⟨b1, o1 + k * 2 + 1, none⟩ = some (.int .u64 x.2)) ∧ Below w.heap.size w W' ∧ (w.heap.size < W'.heap.size ∧ b1 < W'.heap.size))
        (first | assumption | exact HSD | exact HS0 | exact keepR (by assumption) hb3 rfl | exact keepR (by assumption) hb4 rfl | exact keepR (by assumption) hb5 rfl)
        (first
          | (go_at_call 48; refine (has_any _ _ x _ (HD.out.below (bthen hb4' (Below.refl _ _))) (by omega)).mono ?_; rw [G3.out]; rintro e w5 ⟨rfl, hb5⟩; have hb5' := bthen hb4' hb5; clear hb4')
          | (go_at_call 48; refine (has_any _ _ x _ (HB.out.below (bthen hb3' (Below.refl _ _))) (by omega)).mono ?_; rw [G2.out]; rintro e w4 ⟨rfl, hb4⟩; have hb4' := bthen hb3' hb4; clear hb3')
          | (go_at_call 48; refine (has_any _ (l.take k) x _ (HT.out _ v2.drew) lt1).mono ?_; rw [G1.out]; rintro e w3 ⟨rfl, hb3⟩; have hb3' := bthen v2.drew hb3))
      have hX := ‹(∀ j, w5.cell? _ = _) ∧ _›
      have HX := Lib.hid hX
      clear hX
      go_wp2
      go_roundg (l.length - (k + 1))
      case measure => omega
      case rel => exact ⟨k + 1, hlt, Nat.le_refl _, by go_num, HX.out.1, HX.out.2.2.1, HX.out.2.2.2.1⟩
    · obtain rfl : k = l.length := by omega
      clear HS
      go_wp2
      go_loopg [4] d.length (fun g s4 wr => ∃ k : Nat, k ≤ d.length ∧ d.length - k ≤ g ∧ s4 = .int .i64 k ∧ ((∀ j, wr.cell? ⟨w.heap.size, j, none⟩ = (#[.slice Al l.length cl, .slice Ab b.length cb, .slice Ad d.length cd, .bool ov] : Array Value)[j]?) ∧ Below w.heap.size w wr ∧ w.heap.size < wr.heap.size))
      case atStart => exact ⟨0, Nat.zero_le _, Nat.le_refl _, rfl, v1, v2, v3⟩
      case round =>
        clear v1 v2 v3
        obtain ⟨k, hk, hg, rfl, v1, v2, v3⟩ := hrel
        by_cases hlt : k < d.length
        · obtain ⟨b1, o1, rfl, hb1, c1, c2⟩ := (HD.out.below v2).at_ hlt
          have hor := H2.out d[k] (List.getElem_mem hlt)
          have hk1 : (k : Int) < (d.length : Int) := by omega
          have hk0 : (0 : Int) ≤ (k : Int) := by omega
          have hme : d.length - (k + 1) < d.length - k := by omega
          obtain ⟨x, hx⟩ : ∃ x, d[k] = x := ⟨_, rfl⟩
          rw [hx] at c1 c2 hor
          clear hx
          go_wp2_with (fail)
          have HS0 : (∀ j, wr.cell? ⟨w.heap.size, j, none⟩ = (#[.slice Al l.length cl, .slice Ab b.length cb, .slice (some ⟨b1, o1, none⟩) d.length cd, .bool ov] : Array Value)[j]?) ∧ (wr.cell? ⟨b1, o1 + k * 2, none⟩ = some (.int .u64 x.1) ∧ wr.cell? ⟨b1, o1 + k * 2 + 1, none⟩ = some (.int .u64 x.2)) ∧ Below w.heap.size w wr ∧ (w.heap.size < wr.heap.size ∧ b1 < wr.heap.size) := ⟨v1, ⟨c1, c2⟩, v2, v3, hb1⟩
          have HSD := keepR HS0 (Below.drew (Below.refl _ _)) rfl
          clear v1 c1 c2
          by_cases hin : x ∈ l
          · have G1 := Lib.hid (decide_eq_true hin)
            clear hin hor
            refine wp_region_held_drew (S := (fun W' => (∀ j, W'.cell? ⟨w.heap.size, j, none⟩ = (#[.slice Al l.length cl, .slice Ab b.length cb, .slice (some ⟨b1, o1, none⟩) d.length cd, .bool ov] : Array Value)[j]?) ∧ (W'.cell? ⟨b1, o1 + k * 2, none⟩ = some (.int .u64 x.1) ∧ W'.cell? ⟨b1, o1 + k * 2 + 1, none⟩ = some (.int .u64 x.2)) ∧ Below w.heap.size w W' ∧ (w.heap.size < W'.heap.size ∧ b1 < W'.heap.size))) (by kernel_rfl) ?hS (fun hHeld => ?_)
            case hS => first | assumption | exact HSD | exact HS0 | exact keepR (by assumption) hb3 rfl | exact keepR (by assumption) hb4 rfl
            refine wpAnyH_take (i := 0) (v := ?v0) rfl (by kernel_rfl) (by kernel_rfl) (by kernel_rfl) (fun _ _ _ h => h) (Or.inl ⟨by rfl, ?hy0⟩) (by assumption) ?_
            case hy0 =>
              intro w' hSw
              (try dsimp only at hSw)
              go_simp
              try (with_reducible rfl)
            try simp only [Act.put, List.getElem_toArray, List.getElem_cons_succ, List.getElem_cons_zero, List.setIfInBounds_toArray, List.set_cons_zero, List.set_cons_succ]
            refine wpAnyH_take (i := 1) (v := ?v1) rfl (by kernel_rfl) (by kernel_rfl) (by kernel_rfl) (fun _ _ _ h => h) (Or.inl ⟨by rfl, ?hy1⟩) (by assumption) ?_
            case hy1 =>
              intro w' hSw
              (try dsimp only at hSw)
              go_simp
              try (with_reducible rfl)
            try simp only [Act.put, List.getElem_toArray, List.getElem_cons_succ, List.getElem_cons_zero, List.setIfInBounds_toArray, List.set_cons_zero, List.set_cons_succ]
            refine wpAnyH_take (i := 2) (v := ?v2) rfl (by kernel_rfl) (by kernel_rfl) (by kernel_rfl) (fun _ _ _ h => h) (Or.inl ⟨by rfl, ?hy2⟩) (by assumption) ?_
            case hy2 =>
              intro w' hSw
              (try dsimp only at hSw)
              go_simp
              try (with_reducible rfl)
            try simp only [Act.put, List.getElem_toArray, List.getElem_cons_succ, List.getElem_cons_zero, List.setIfInBounds_toArray, List.set_cons_zero, List.set_cons_succ]
            refine wpAnyH_take (i := 3) (v := ?v3) rfl (by kernel_rfl) (by kernel_rfl) (by kernel_rfl) (fun _ _ _ h => h) (Or.inl ⟨by rfl, ?hy3⟩) (by assumption) ?_
            case hy3 =>
              intro w' hSw
              (try dsimp only at hSw)
              go_simp
              try (with_reducible rfl)
            try simp only [Act.put, List.getElem_toArray, List.getElem_cons_succ, List.getElem_cons_zero, List.setIfInBounds_toArray, List.set_cons_zero, List.set_cons_succ]
            refine wpAnyH_take (i := 4) (v := ?v4) rfl (by kernel_rfl) (by kernel_rfl) (by kernel_rfl) (fun _ _ _ h => h) (Or.inl ⟨by rfl, ?hy4⟩) (by assumption) ?_
            case hy4 =>
              intro w' hSw
              (try dsimp only at hSw)
              go_simp
              try (with_reducible rfl)
            try simp only [Act.put, List.getElem_toArray, List.getElem_cons_succ, List.getElem_cons_zero, List.setIfInBounds_toArray, List.set_cons_zero, List.set_cons_succ]
            refine wpAnyH_take (i := 5) (v := ?v5) rfl (by kernel_rfl) (by kernel_rfl) (by kernel_rfl) (fun _ _ _ h => h) (Or.inl ⟨by rfl, ?hy5⟩) (by assumption) ?_
            case hy5 =>
              intro w' hSw
              (try dsimp only at hSw)
              go_simp
              try (with_reducible rfl)
            try simp only [Act.put, List.getElem_toArray, List.getElem_cons_succ, List.getElem_cons_zero, List.setIfInBounds_toArray, List.set_cons_zero, List.set_cons_succ]
            refine wpAnyH_take (i := 6) (v := ?v6) rfl (by kernel_rfl) (by kernel_rfl) (by kernel_rfl) (fun _ _ _ h => h) (Or.inl ⟨by rfl, ?hy6⟩) (by assumption) ?_
            case hy6 =>
              intro w' hSw
              (try dsimp only at hSw)
              go_simp
              try (with_reducible rfl)
            try simp only [Act.put, List.getElem_toArray, List.getElem_cons_succ, List.getElem_cons_zero, List.setIfInBounds_toArray, List.set_cons_zero, List.set_cons_succ]
            refine wpAnyH_ready (rs := [7]) (by kernel_rfl) (by simp) ?_
            refine AllReadyH.cons rfl (fun K hK => ?_) AllReadyH.nil
            go_simp
            go_at_call 48; refine (has_any _ l x _ (HL.out.below v2.drew) (by omega)).mono ?_; rw [G1.out]; rintro e w3 ⟨rfl, hb3⟩; have hb3' := bthen v2.drew hb3
            try go_simp
            refine hK.out _ _ ?hS (fun hHeld2 => ?_)
            case hS => first | assumption | exact HSD | exact HS0 | exact keepR (by assumption) hb3 rfl | exact keepR (by assumption) hb4 rfl
            clear hK K hHeld
            have hHeld := hHeld2
            clear hHeld2
            try simp only [Act.put, List.getElem_toArray, List.getElem_cons_succ, List.getElem_cons_zero, List.setIfInBounds_toArray, List.set_cons_zero, List.set_cons_succ]
            refine wpAnyH_take (i := 8) (v := ?v8) rfl (by kernel_rfl) (by kernel_rfl) (by kernel_rfl) (fun _ _ _ h => h) (Or.inl ⟨by rfl, ?hy8⟩) (by assumption) ?_
            case hy8 =>
              intro w' hSw
              (try dsimp only at hSw)
              go_simp
              try (with_reducible rfl)
            try simp only [Act.put, List.getElem_toArray, List.getElem_cons_succ, List.getElem_cons_zero, List.setIfInBounds_toArray, List.set_cons_zero, List.set_cons_succ]
            refine wpAnyH_take (i := 9) (v := ?v9) rfl (by kernel_rfl) (by kernel_rfl) (by kernel_rfl) (fun _ _ _ h => h) (Or.inl ⟨by rfl, ?hy9⟩) (by assumption) ?_
            case hy9 =>
              intro w' hSw
              (try dsimp only at hSw)
              go_simp
              try (with_reducible rfl)
            try simp only [Act.put, List.getElem_toArray, List.getElem_cons_succ, List.getElem_cons_zero, List.setIfInBounds_toArray, List.set_cons_zero, List.set_cons_succ]
            refine wpAnyH_take (i := 10) (v := undef) rfl (by kernel_rfl) (by kernel_rfl) (by kernel_rfl) (fun _ _ _ h => h) (Or.inr ⟨by go_simp, rfl⟩) (by assumption) ?_
            try simp only [Act.put, List.getElem_toArray, List.getElem_cons_succ, List.getElem_cons_zero, List.setIfInBounds_toArray, List.set_cons_zero, List.set_cons_succ]
            refine wpAnyH_take (i := 11) (v := undef) rfl (by kernel_rfl) (by kernel_rfl) (by kernel_rfl) (fun _ _ _ h => h) (Or.inr ⟨by go_simp, rfl⟩) (by assumption) ?_
            try simp only [Act.put, List.getElem_toArray, List.getElem_cons_succ, List.getElem_cons_zero, List.setIfInBounds_toArray, List.set_cons_zero, List.set_cons_succ]
            refine wpAnyH_take (i := 12) (v := undef) rfl (by kernel_rfl) (by kernel_rfl) (by kernel_rfl) (fun _ _ _ h => h) (Or.inr ⟨by go_simp, rfl⟩) (by assumption) ?_
            try simp only [Act.put, List.getElem_toArray, List.getElem_cons_succ, List.getElem_cons_zero, List.setIfInBounds_toArray, List.set_cons_zero, List.set_cons_succ]
            refine wpAnyH_take (i := 13) (v := undef) rfl (by kernel_rfl) (by kernel_rfl) (by kernel_rfl) (fun _ _ _ h => h) (Or.inr ⟨by go_simp, rfl⟩) (by assumption) ?_
            try simp only [Act.put, List.getElem_toArray, List.getElem_cons_succ, List.getElem_cons_zero, List.setIfInBounds_toArray, List.set_cons_zero, List.set_cons_succ]
            refine wpAnyH_take (i := 14) (v := undef) rfl (by kernel_rfl) (by kernel_rfl) (by kernel_rfl) (fun _ _ _ h => h) (Or.inr ⟨by go_simp, rfl⟩) (by assumption) ?_
            try simp only [Act.put, List.getElem_toArray, List.getElem_cons_succ, List.getElem_cons_zero, List.setIfInBounds_toArray, List.set_cons_zero, List.set_cons_succ]
            refine wpAnyH_take (i := 15) (v := undef) rfl (by kernel_rfl) (by kernel_rfl) (by kernel_rfl) (fun _ _ _ h => h) (Or.inr ⟨by go_simp, rfl⟩) (by assumption) ?_
            try simp only [Act.put, List.getElem_toArray, List.getElem_cons_succ, List.getElem_cons_zero, List.setIfInBounds_toArray, List.set_cons_zero, List.set_cons_succ]
            refine wpAnyH_take (i := 16) (v := undef) rfl (by kernel_rfl) (by kernel_rfl) (by kernel_rfl) (fun _ _ _ h => h) (Or.inr ⟨by go_simp, rfl⟩) (by assumption) ?_
            try simp only [Act.put, List.getElem_toArray, List.getElem_cons_succ, List.getElem_cons_zero, List.setIfInBounds_toArray, List.set_cons_zero, List.set_cons_succ]
            refine wpAnyH_take (i := 17) (v := undef) rfl (by kernel_rfl) (by kernel_rfl) (by kernel_rfl) (fun _ _ _ h => h) (Or.inr ⟨by go_simp, rfl⟩) (by assumption) ?_
            try simp only [Act.put, List.getElem_toArray, List.getElem_cons_succ, List.getElem_cons_zero, List.setIfInBounds_toArray, List.set_cons_zero, List.set_cons_succ]
            refine wpAnyH_take (i := 18) (v := undef) rfl (by kernel_rfl) (by kernel_rfl) (by kernel_rfl) (fun _ _ _ h => h) (Or.inr ⟨by go_simp, rfl⟩) (by assumption) ?_
            try simp only [Act.put, List.getElem_toArray, List.getElem_cons_succ, List.getElem_cons_zero, List.setIfInBounds_toArray, List.set_cons_zero, List.set_cons_succ]
            refine wpAnyH_take (i := 19) (v := ?v19) rfl (by kernel_rfl) (by kernel_rfl) (by kernel_rfl) (fun _ _ _ h => h) (Or.inl ⟨by rfl, ?hy19⟩) (by assumption) ?_
            case hy19 =>
              intro w' hSw
              (try dsimp only at hSw)
              go_simp
              try (with_reducible rfl)
            try simp only [Act.put, List.getElem_toArray, List.getElem_cons_succ, List.getElem_cons_zero, List.setIfInBounds_toArray, List.set_cons_zero, List.set_cons_succ]
            refine wpAnyH_done (by kernel_rfl) ?_ _
            have HX := Lib.hid hHeld
            clear hHeld
            go_wp2
            go_roundg (d.length - (k + 1))
            case measure => omega
            case rel => exact ⟨k + 1, hlt, Nat.le_refl _, by go_num, HX.out.1, HX.out.2.2.1, HX.out.2.2.2.1⟩
          · have G1 := Lib.hid (decide_eq_false hin)
            have G2 := Lib.hid (decide_eq_true (hor.resolve_left hin))
            clear hin hor
            go_region_held3 (fun W' => (∀ j, W'.cell? ⟨w.heap.size, j, none⟩ = (#[.slice Al l.length cl, .slice Ab b.length cb, .slice (some ⟨b1, o1, none⟩) d.length cd, .bool ov] : Array Value)[j]?) ∧ (W'.cell? ⟨b1, o1 + k * 2, none⟩ = some (.int .u64 x.1) ∧ W'.cell? ⟨b1, o1 + k * 2 + 1, none⟩ = some (.int .u64 x.2)) ∧ Below w.heap.size w W' ∧ (w.heap.size < W'.heap.size ∧ b1 < W'.heap.size))
              (first | assumption | exact HSD | exact HS0 | exact keepR (by assumption) hb3 rfl | exact keepR (by assumption) hb4 rfl)
              (first
                | (go_at_call 48; refine (has_any _ b x _ (HB.out.below hb3') (by omega)).mono ?_; rw [G2.out]; rintro e w4 ⟨rfl, hb4⟩; have hb4' := bthen hb3' hb4; clear hb3')
                | (go_at_call 48; refine (has_any _ l x _ (HL.out.below v2.drew) (by omega)).mono ?_; rw [G1.out]; rintro e w3 ⟨rfl, hb3⟩; have hb3' := bthen v2.drew hb3))
            have hX := ‹(∀ j, w4.cell? _ = _) ∧ _›
            have HX := Lib.hid hX
            clear hX
            go_wp2
            go_roundg (d.length - (k + 1))
            case measure => omega
            case rel => exact ⟨k + 1, hlt, Nat.le_refl _, by go_num, HX.out.1, HX.out.2.2.1, HX.out.2.2.2.1⟩
        · obtain rfl : k = d.length := by omega
          have HS0 : (∀ j, wr.cell? ⟨w.heap.size, j, none⟩ = (#[.slice Al l.length cl, .slice Ab b.length cb, .slice Ad d.length cd, .bool ov] : Array Value)[j]?) ∧ Below w.heap.size w wr ∧ w.heap.size < wr.heap.size := ⟨v1, v2, v3⟩
          go_wp2_with (fail)
          go_region_held3 (fun W' => (∀ j, W'.cell? ⟨w.heap.size, j, none⟩ = (#[.slice Al l.length cl, .slice Ab b.length cb, .slice Ad d.length cd, .bool ov] : Array Value)[j]?) ∧ Below w.heap.size w W' ∧ w.heap.size < W'.heap.size)
            (first | assumption | exact HS0 | exact drewA HS0 | exact keepA (by assumption) hb6 rfl)
            (first
              | (go_at_call 49; refine (refRising_any _ b _ (HB.out.below v2.drew) HO.out (by omega)).mono ?_; rintro e w6 ⟨v6, rfl, hr6, hb6⟩; obtain ⟨A6, c6, rfl⟩ := own_form hr6; rw [H3.out]; have hb6' := bthen v2.drew hb6; clear hr6))
          all_goals go_wp2
          all_goals go_ret
          all_goals exact ⟨rfl, hb6'⟩
end Go.Proofs.Ytfnabpmdjfejbaa
