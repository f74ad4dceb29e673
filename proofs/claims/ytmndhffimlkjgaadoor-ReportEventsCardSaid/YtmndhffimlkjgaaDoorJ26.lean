/- report.Sum. -/
import Derived.Test.YtmndhffimlkjgaaDoorJ25
namespace Go.Proofs.YtmndhffimlkjgaaDoor

section
set_option linter.unusedSimpArgs false
set_option linter.unusedVariables false
open Go.RowKit Go.Lib

theorem joinC_any (base : Nat) (ws : List ByteArray) (A : Option Addr) (c : Nat) (w : World) (h : OwnL strC 9 1 base w (.slice A ws.length c) ws) (hne : ws ≠ []) (hs : ∀ s ∈ ws, s.size ≤ 1000) (hn : ws.length ≤ 100) :
    Calls Tryd.prog 18 #[.slice A ws.length c, .string ⟨#[44]⟩] w fun e w' => e = .returned (.string (comS ws)) ∧ Below w.heap.size w w' := by
  have hr := h.row eStr
  have h0 : 0 < ws.length := by cases ws with | nil => exact absurd rfl hne | cons => simp
  obtain ⟨bb, o, rfl, hb, _⟩ := hr.at_ h0
  have hcl : ws.length ≤ c := by obtain ⟨_, _, hv, hc, _⟩ := hr; injection hv with _ _ e3; omega
  refine join_any bb o c ws ⟨#[44]⟩ w ?_ hb (by omega) hcl ?_
  · intro j x hj
    obtain ⟨hjl, hx⟩ := List.getElem?_eq_some_iff.1 hj
    obtain ⟨b', o', e, _, hc'⟩ := hr.at_ hjl
    simp only [Option.some.injEq, Addr.mk.injEq] at e
    obtain ⟨rfl, rfl, -⟩ := e
    have := hc' 0 _ rfl
    rw [Nat.add_zero, Nat.mul_one] at this
    rw [this, hx]
  · obtain ⟨x, r, rfl⟩ : ∃ x r, ws = x :: r := by cases ws with | nil => exact absurd rfl hne | cons x r => exact ⟨x, r, rfl⟩
    have h1 := lens_le (x :: r) hs
    rw [List.map_cons, Lib.join_length]
    simp only [List.map_cons, List.length_cons, List.length_map] at h1 hn ⊢
    show (1 : Nat) * _ + _ ≤ _
    omega
def toN (l : List Ky) (i : Nat) : List ByteArray := if i = 0 then [⟨#[45]⟩] else (l.take i).map nm
theorem toN_ne (l : List Ky) (i : Nat) (h : i ≤ l.length) : toN l i ≠ [] := by
  unfold toN
  split
  · simp
  · intro e; have := congrArg List.length e; rw [List.length_map, List.length_take, List.length_nil] at this; omega
theorem toN_len (l : List Ky) (i : Nat) (h : l.length ≤ 40) : (toN l i).length ≤ 40 := by
  unfold toN
  split
  · simp
  · rw [List.length_map, List.length_take]; omega
theorem toN_size (l : List Ky) (i : Nat) : ∀ s ∈ toN l i, s.size ≤ 1000 := by
  unfold toN
  split
  · simp; decide
  · intro s hs
    obtain ⟨p, _, rfl⟩ := List.mem_map.1 hs
    exact nameS_1000 _ _
theorem toN_all (l : List Ky) : comS (toN l l.length) = namesS l := by
  unfold toN namesS
  cases l with
  | nil => exact comS_one _
  | cons p m => rw [if_neg (by simp), if_neg (by simp), List.take_length]
theorem toN_next (l : List Ky) (i : Nat) (h : i < l.length) : toN l (i + 1) = (if i = 0 then [] else toN l i) ++ [nm l[i]] := by
  unfold toN
  rw [if_neg (by omega), take_map_succ l i h]
  by_cases h0 : i = 0
  · subst h0; simp
  · rw [if_neg h0, if_neg h0]

set_option maxRecDepth 100000 in
set_option maxHeartbeats 8000000 in
theorem psum_true (evs : Value) (used opn : Int) (A : Option Addr) (c : Nat) (l : List Ky) (w : World) (hv : KeysIn w (.slice A l.length c) l) (hok : ∀ p ∈ l, p.ok) (hl : l.length ≤ 40) (hu : I64 used) (ho : I64 opn) (ht : Tab w) :
    Calls Tryd.prog 12 #[.agg #[evs, .int .i64 used, .int .i64 opn, .slice A l.length c, .bool true]] w fun e w' => e = .returned (.string (joinS [⟨#[117, 115, 101, 100]⟩, dec used, ⟨#[111, 112, 101, 110]⟩, dec opn, ⟨#[119, 97, 105, 116, 105, 110, 103]⟩, comS (toN l l.length), ⟨#[114, 101, 115, 116]⟩, ⟨#[121, 101, 115]⟩])) ∧ Below w.heap.size w w' := by
  have C0 := Lib.hid (show ∀ W, Below w.heap.size w W → Calls Tryd.prog 13 #[.int .i64 used] W fun e w' => e = .returned (.string (dec used)) ∧ Below W.heap.size W w' from fun W h => itoaC_any used hu W (ht.below h))
  have C1 := Lib.hid (show ∀ W, Below w.heap.size w W → Calls Tryd.prog 13 #[.int .i64 opn] W fun e w' => e = .returned (.string (dec opn)) ∧ Below W.heap.size W w' from fun W h => itoaC_any opn ho W (ht.below h))
  have hz0 := dec_1000 hu
  have hz1 := dec_1000 ho
  generalize dec used = d0 at C0 hz0 ⊢
  generalize dec opn = d1 at C1 hz1 ⊢
  have HZ0 := Lib.hid hz0
  have HZ1 := Lib.hid hz1
  have HV := Lib.hid hv
  have HOK := Lib.hid hok
  clear hv hok hu ho ht hz0 hz1
  go_enter Tryd.func12, Tryd.ntmps12
  go_upto_region 5 with fail
  refine name_world ?_
  intro W hW
  have hb0 : Below w.heap.size w W := by rw [hW]; exact balloc (balloc (Below.refl _ _) _) _
  have hx0 : W.heap[w.heap.size]? = some (.cells #[evs, .int .i64 used, .int .i64 opn, .slice A l.length c, .bool true] 55 (0, 0)) := by rw [hW]; exact (Below.heap_alloc _ _ _ (by simp)).trans (heap_alloc_new _ _)
  have ho0 : OwnL strC 9 1 (w.heap.size + 1) W (.slice (some ⟨w.heap.size + 1, 0, none⟩) 1 1) [(⟨#[45]⟩ : ByteArray)] := by
    rw [hW]
    exact OwnL.lits (f := strC) (e := 9) (n := 1) (w.heap.size + 1) (w.alloc _) [(⟨#[45]⟩ : ByteArray)] _ (w.heap.size + 1) 1 (by simp) (Nat.le_refl _) rfl (by decide) rfl rfl
  have hWs : w.heap.size + 1 < W.heap.size := by rw [hW]; simp
  obtain ⟨a0, a0f, a0l, a0h⟩ := box_at (Below.refl _ _) hx0
  have HB := Lib.hid hb0
  have HX := Lib.hid a0h
  have HO0 := Lib.hid ho0
  clear hW hb0 hx0 ho0 a0h
  go_wp2_with fail
  go_loopg [4, 13] l.length (fun g s4 s13 wr => ∃ i, i ≤ l.length ∧ l.length - i ≤ g ∧ s13 = .int .i64 (i : Nat) ∧ OwnL strC 9 1 (w.heap.size + 1) wr s4 (toN l i) ∧ Below (w.heap.size + 1) W wr)
  case atStart => exact ⟨0, Nat.zero_le _, Nat.le_refl _, rfl, HO0.out, Below.refl _ _⟩
  case round =>
    obtain ⟨i, hi, hg, rfl, hown, hbw⟩ := hrel
    rename World => wr
    have HBr := Lib.hid (HB.out.trans (hbw.mono (Nat.le_succ _)))
    have HBr1 := Lib.hid hbw
    have HXr := Lib.hid ((hbw.block w.heap.size (Nat.lt_succ_self _)).trans HX.out)
    have HRS := Lib.hid (Nat.lt_of_lt_of_le hWs hbw.size)
    have HOW := Lib.hid hown
    clear hown hbw a0 a0f a0l hWs
    by_cases hlt : i < l.length
    · obtain ⟨b1, o1, rfl, hb1, k1, k2⟩ := (HV.out.below HBr.out).at_ hlt
      have hpk := HOK.out _ (List.getElem_mem hlt)
      have HT2 := Lib.hid (toN_next l i hlt)
      have CI := Lib.hid (show ∀ W, Calls Tryd.prog 16 #[keyV (l[i]).1 (l[i]).2] W fun e w' => e = .returned (.string (nm l[i])) ∧ Below W.heap.size W w' from fun W => repId_any (l[i]).1 (l[i]).2 W hpk.1 hpk.2)
      unfold keyV at CI
      generalize nm l[i] = x at HT2 CI
      generalize (l[i]).1 = p1 at k1 CI
      generalize (l[i]).2 = p2 at k2 CI
      by_cases h : i = 0
      · subst h
        rw [if_pos rfl] at HT2
        simp only [Nat.zero_mul, Nat.add_zero] at k1 k2
        clear hpk
        go_wp2_with (first
          | (go_at_call 16
             refine calls_named ?_
             intro W1 hW1
             have hb1 : Below wr.heap.size wr W1 := by rw [hW1]; exact balloc (Below.refl _ _) _
             clear hW1
             with_reducible refine (CI.out W1).mono ?_
             rintro e w1 ⟨rfl, hb6⟩
             have HW2 := Lib.hid (bthen hb1 hb6)
             clear hb1 hb6)
          | (at_builtin
             refine wpList_appendL eStr (by rfl) (by rfl) (w.heap.size + 1) [] [x] (.slice none 0 0) _ (by rfl) (by rfl) (OwnL.nil _ _) (RowIn.lit (n := 1) (f := strC) w1 x _ _ w1.heap.size rfl rfl) (by simp) (by have := HW2.out.size; have := HRS.out; simp; omega) ?_
             intro out A2 c2 w2 hout hown hg hor
             have HOU := Lib.hid (show out = [] ++ [x] from hout)
             have hb7 : Below (w.heap.size + 1) wr w2 := ((HW2.out.mono (by have := HRS.out; omega)).alloc (by have := HW2.out.size; have := HRS.out; omega) _).trans (grown_own hg ((OwnL.nil (f := strC) (e := 9) (n := 1) (w.heap.size + 1) w1)) (by have := HW2.out.size; have := HRS.out; simp; omega))
             have HO := Lib.hid hown
             have HB7 := Lib.hid hb7
             clear hown hout hg hor hb7))
        go_roundg (l.length - (0 + 1))
        case measure => omega
        case rel => exact ⟨0 + 1, hlt, Nat.le_refl _, by go_num, by rw [HT2.out, ← HOU.out]; exact HO.out, HBr1.out.trans HB7.out⟩
      · rw [if_neg h] at HT2
        have h0 : 0 < i := by omega
        have hyl := toN_len l i hl
        have hyw := HOW.out
        obtain ⟨B1, e1, rfl⟩ := hyw.form
        generalize toN l i = ys at HT2 hyl hyw ⊢
        have HY := Lib.hid hyw
        have HYL := Lib.hid hyl
        clear hpk h HOW hyl hyw
        go_wp2_with (first
          | (go_at_call 16
             refine calls_named ?_
             intro W1 hW1
             have hb1 : Below wr.heap.size wr W1 := by rw [hW1]; exact balloc (Below.refl _ _) _
             clear hW1
             with_reducible refine (CI.out W1).mono ?_
             rintro e w1 ⟨rfl, hb6⟩
             have HW2 := Lib.hid (bthen hb1 hb6)
             clear hb1 hb6)
          | (at_builtin
             refine wpList_appendL eStr (by rfl) (by rfl) (w.heap.size + 1) ys [x] (.slice B1 ys.length e1) _ (by rfl) (by rfl) ((HY.out.below HW2.out).below (balloc (Below.refl _ _) _)) (RowIn.lit (n := 1) (f := strC) w1 x _ _ w1.heap.size rfl rfl) (by have := HYL.out; simp; omega) (by have := HW2.out.size; have := HRS.out; simp; omega) ?_
             intro out A2 c2 w2 hout hown hg hor
             have HOU := Lib.hid (show out = ys ++ [x] from hout)
             have hb7 : Below (w.heap.size + 1) wr w2 := ((HW2.out.mono (by have := HRS.out; omega)).alloc (by have := HW2.out.size; have := HRS.out; omega) _).trans (grown_own hg (HY.out.below HW2.out) (by have := HW2.out.size; have := HRS.out; simp; omega))
             have HO := Lib.hid hown
             have HB7 := Lib.hid hb7
             clear hown hout hg hor hb7))
        go_roundg (l.length - (i + 1))
        case measure => omega
        case rel => exact ⟨i + 1, hlt, Nat.le_refl _, by go_num, by rw [HT2.out, ← HOU.out]; exact HO.out, HBr1.out.trans HB7.out⟩
    · obtain rfl : i = l.length := by omega
      have hown := HOW.out
      obtain ⟨B1, e1, rfl⟩ := hown.form
      have CJ := Lib.hid (fun W (h : Below wr.heap.size wr W) => joinC_any (w.heap.size + 1) (toN l l.length) B1 e1 W (hown.below h) (toN_ne l _ (Nat.le_refl _)) (toN_size l _) (Nat.le_trans (toN_len l _ hl) (by decide)))
      have hz2 : (comS (toN l l.length)).size ≤ 1000 := by rw [toN_all]; exact namesS_size l hl
      generalize hnm : comS (toN l l.length) = nms at CJ hz2 ⊢
      have HNM := Lib.hid hnm
      clear hnm
      have HNX := Lib.hid hz2
      have HZ := Lib.hid (show ∀ s ∈ [(⟨#[117, 115, 101, 100]⟩ : ByteArray), d0, ⟨#[111, 112, 101, 110]⟩, d1, ⟨#[119, 97, 105, 116, 105, 110, 103]⟩, nms, ⟨#[114, 101, 115, 116]⟩, ⟨#[121, 101, 115]⟩], s.size ≤ 1000 from by
        intro s hs
        simp only [List.mem_cons, List.not_mem_nil, or_false] at hs
        rcases hs with rfl | rfl | rfl | rfl | rfl | rfl | rfl | rfl <;> first | exact HZ0.out | exact HZ1.out | exact HNX.out | decide)
      generalize (toN l l.length).length = ylen at CJ hown ⊢
      clear hown hz2 HOW
      go_wp2_with fail
      refine wp_region_held_drew (S := (fun U : World => U.heap[w.heap.size]? = some (.cells #[evs, .int .i64 used, .int .i64 opn, .slice A l.length c, .bool true] 55 (0, 0)))) (by kernel_rfl) ?hS1 (fun hHeld => ?_)
      case hS1 => first | with_reducible exact HXr.out | exact HXr.out | exact (HN0.out.block _ (Array.getElem?_eq_some_iff.1 HXr.out).1).trans HXr.out | exact (HN1.out.block _ (Array.getElem?_eq_some_iff.1 HXr.out).1).trans HXr.out | exact (HN2.out.block _ (Array.getElem?_eq_some_iff.1 HXr.out).1).trans HXr.out | exact (HN3.out.block _ (Array.getElem?_eq_some_iff.1 HXr.out).1).trans HXr.out | exact (Below.heap_alloc _ _ _ (by have := HN2.out.size; have := (Array.getElem?_eq_some_iff.1 HXr.out).1; omega)).trans ((HN2.out.block _ (Array.getElem?_eq_some_iff.1 HXr.out).1).trans HXr.out)
      refine wpAnyH_take (i := 0) (v := ?v2) rfl (by kernel_rfl) (by kernel_rfl) (by kernel_rfl) (fun _ _ _ h => h) (Or.inl ⟨by rfl, ?hy2⟩) (by assumption) ?_
      case hy2 =>
        intro w' hSw
        (try dsimp only at hSw)
        go_simp
        try (with_reducible rfl)
      try simp only [Act.put, List.getElem_toArray, List.getElem_cons_succ, List.getElem_cons_zero, List.setIfInBounds_toArray, List.set_cons_zero, List.set_cons_succ]
      refine wpAnyH_take (i := 1) (v := ?v3) rfl (by kernel_rfl) (by kernel_rfl) (by kernel_rfl) (fun _ _ _ h => h) (Or.inl ⟨by rfl, ?hy3⟩) (by assumption) ?_
      case hy3 =>
        intro w' hSw
        (try dsimp only at hSw)
        have q0 := (box_cells (Below.refl _ _) hSw).1
        go_simp
        try (with_reducible rfl)
      try simp only [Act.put, List.getElem_toArray, List.getElem_cons_succ, List.getElem_cons_zero, List.setIfInBounds_toArray, List.set_cons_zero, List.set_cons_succ]
      refine wpAnyH_take (i := 3) (v := ?v4) rfl (by kernel_rfl) (by kernel_rfl) (by kernel_rfl) (fun _ _ _ h => h) (Or.inl ⟨by rfl, ?hy4⟩) (by assumption) ?_
      case hy4 =>
        intro w' hSw
        (try dsimp only at hSw)
        go_simp
        try (with_reducible rfl)
      try simp only [Act.put, List.getElem_toArray, List.getElem_cons_succ, List.getElem_cons_zero, List.setIfInBounds_toArray, List.set_cons_zero, List.set_cons_succ]
      refine wpAnyH_take (i := 4) (v := ?v5) rfl (by kernel_rfl) (by kernel_rfl) (by kernel_rfl) (fun _ _ _ h => h) (Or.inl ⟨by rfl, ?hy5⟩) (by assumption) ?_
      case hy5 =>
        intro w' hSw
        (try dsimp only at hSw)
        have q0 := (box_cells (Below.refl _ _) hSw).1
        go_simp
        try (with_reducible rfl)
      try simp only [Act.put, List.getElem_toArray, List.getElem_cons_succ, List.getElem_cons_zero, List.setIfInBounds_toArray, List.set_cons_zero, List.set_cons_succ]
      refine wpAnyH_take (i := 6) (v := ?v6) rfl (by kernel_rfl) (by kernel_rfl) (by kernel_rfl) (fun _ _ _ h => h) (Or.inl ⟨by rfl, ?hy6⟩) (by assumption) ?_
      case hy6 =>
        intro w' hSw
        (try dsimp only at hSw)
        go_simp
        try (with_reducible rfl)
      try simp only [Act.put, List.getElem_toArray, List.getElem_cons_succ, List.getElem_cons_zero, List.setIfInBounds_toArray, List.set_cons_zero, List.set_cons_succ]
      refine wpAnyH_take (i := 8) (v := ?v7) rfl (by kernel_rfl) (by kernel_rfl) (by kernel_rfl) (fun _ _ _ h => h) (Or.inl ⟨by rfl, ?hy7⟩) (by assumption) ?_
      case hy7 =>
        intro w' hSw
        (try dsimp only at hSw)
        go_simp
        try (with_reducible rfl)
      try simp only [Act.put, List.getElem_toArray, List.getElem_cons_succ, List.getElem_cons_zero, List.setIfInBounds_toArray, List.set_cons_zero, List.set_cons_succ]
      refine wpAnyH_ready (rs := [2]) (by kernel_rfl) (by simp) ?_
      refine AllReadyH.cons rfl (fun K hK => ?_) AllReadyH.nil
      go_simp
      go_at_call 13
      refine calls_named ?_
      intro W5 hW5
      have hb5 : Below wr.heap.size wr W5 := by rw [hW5]; first | exact Below.refl _ _ | exact (Below.refl _ _).drew
      clear hW5
      with_reducible refine (C0.out _ (bthen HBr.out hb5)).mono ?_
      rintro e n0 ⟨rfl, hb6⟩
      have HN0 := Lib.hid (bthen hb5 hb6)
      clear hb5 hb6
      try go_simp
      refine hK.out _ _ ?hS8 (fun hHeld2 => ?_)
      case hS8 => first | with_reducible exact HXr.out | exact HXr.out | exact (HN0.out.block _ (Array.getElem?_eq_some_iff.1 HXr.out).1).trans HXr.out | exact (HN1.out.block _ (Array.getElem?_eq_some_iff.1 HXr.out).1).trans HXr.out | exact (HN2.out.block _ (Array.getElem?_eq_some_iff.1 HXr.out).1).trans HXr.out | exact (HN3.out.block _ (Array.getElem?_eq_some_iff.1 HXr.out).1).trans HXr.out | exact (Below.heap_alloc _ _ _ (by have := HN2.out.size; have := (Array.getElem?_eq_some_iff.1 HXr.out).1; omega)).trans ((HN2.out.block _ (Array.getElem?_eq_some_iff.1 HXr.out).1).trans HXr.out)
      clear hK K hHeld
      have hHeld := hHeld2
      clear hHeld2
      try simp only [Act.put, List.getElem_toArray, List.getElem_cons_succ, List.getElem_cons_zero, List.setIfInBounds_toArray, List.set_cons_zero, List.set_cons_succ]
      refine wpAnyH_ready (rs := [5]) (by kernel_rfl) (by simp) ?_
      refine AllReadyH.cons rfl (fun K hK => ?_) AllReadyH.nil
      go_simp
      go_at_call 13
      have h9 := HN0.out
      refine calls_named ?_
      intro W5 hW5
      have hb5 : Below wr.heap.size wr W5 := by rw [hW5]; first | exact Below.refl _ _ | exact (Below.refl _ _).drew | exact HN0.out
      clear hW5
      with_reducible refine (C1.out _ (bthen HBr.out hb5)).mono ?_
      rintro e n1 ⟨rfl, hb6⟩
      have HN1 := Lib.hid (bthen hb5 hb6)
      clear hb5 hb6
      try go_simp
      refine hK.out _ _ ?hS9 (fun hHeld2 => ?_)
      case hS9 => first | with_reducible exact HXr.out | exact HXr.out | exact (HN0.out.block _ (Array.getElem?_eq_some_iff.1 HXr.out).1).trans HXr.out | exact (HN1.out.block _ (Array.getElem?_eq_some_iff.1 HXr.out).1).trans HXr.out | exact (HN2.out.block _ (Array.getElem?_eq_some_iff.1 HXr.out).1).trans HXr.out | exact (HN3.out.block _ (Array.getElem?_eq_some_iff.1 HXr.out).1).trans HXr.out | exact (Below.heap_alloc _ _ _ (by have := HN2.out.size; have := (Array.getElem?_eq_some_iff.1 HXr.out).1; omega)).trans ((HN2.out.block _ (Array.getElem?_eq_some_iff.1 HXr.out).1).trans HXr.out)
      clear hK K hHeld
      have hHeld := hHeld2
      clear hHeld2
      try simp only [Act.put, List.getElem_toArray, List.getElem_cons_succ, List.getElem_cons_zero, List.setIfInBounds_toArray, List.set_cons_zero, List.set_cons_succ]
      refine wpAnyH_ready (rs := [7]) (by kernel_rfl) (by simp) ?_
      refine AllReadyH.cons rfl (fun K hK => ?_) AllReadyH.nil
      go_simp
      go_at_call 18
      with_reducible refine (CJ.out _ HN1.out).mono ?_
      rintro e n2 ⟨rfl, hb6⟩
      have HN2 := Lib.hid (bthen HN1.out hb6)
      clear hb6
      try go_simp
      refine hK.out _ _ ?hS10 (fun hHeld2 => ?_)
      case hS10 => first | with_reducible exact HXr.out | exact HXr.out | exact (HN0.out.block _ (Array.getElem?_eq_some_iff.1 HXr.out).1).trans HXr.out | exact (HN1.out.block _ (Array.getElem?_eq_some_iff.1 HXr.out).1).trans HXr.out | exact (HN2.out.block _ (Array.getElem?_eq_some_iff.1 HXr.out).1).trans HXr.out | exact (HN3.out.block _ (Array.getElem?_eq_some_iff.1 HXr.out).1).trans HXr.out | exact (Below.heap_alloc _ _ _ (by have := HN2.out.size; have := (Array.getElem?_eq_some_iff.1 HXr.out).1; omega)).trans ((HN2.out.block _ (Array.getElem?_eq_some_iff.1 HXr.out).1).trans HXr.out)
      clear hK K hHeld
      have hHeld := hHeld2
      clear hHeld2
      try simp only [Act.put, List.getElem_toArray, List.getElem_cons_succ, List.getElem_cons_zero, List.setIfInBounds_toArray, List.set_cons_zero, List.set_cons_succ]
      refine wpAnyH_ready (rs := [9]) (by kernel_rfl) (by simp) ?_
      refine AllReadyH.cons rfl (fun K hK => ?_) AllReadyH.nil
      go_simp
      skip
      try go_simp
      refine hK.out _ _ ?hS11 (fun hHeld2 => ?_)
      case hS11 => first | with_reducible exact HXr.out | exact HXr.out | exact (HN0.out.block _ (Array.getElem?_eq_some_iff.1 HXr.out).1).trans HXr.out | exact (HN1.out.block _ (Array.getElem?_eq_some_iff.1 HXr.out).1).trans HXr.out | exact (HN2.out.block _ (Array.getElem?_eq_some_iff.1 HXr.out).1).trans HXr.out | exact (HN3.out.block _ (Array.getElem?_eq_some_iff.1 HXr.out).1).trans HXr.out | exact (Below.heap_alloc _ _ _ (by have := HN2.out.size; have := (Array.getElem?_eq_some_iff.1 HXr.out).1; omega)).trans ((HN2.out.block _ (Array.getElem?_eq_some_iff.1 HXr.out).1).trans HXr.out)
      clear hK K hHeld
      have hHeld := hHeld2
      clear hHeld2
      try simp only [Act.put, List.getElem_toArray, List.getElem_cons_succ, List.getElem_cons_zero, List.setIfInBounds_toArray, List.set_cons_zero, List.set_cons_succ]
      refine wpAnyH_ready (rs := [10]) (by kernel_rfl) (by simp) ?_
      refine AllReadyH.cons rfl (fun K hK => ?_) AllReadyH.nil
      go_simp
      go_at_call 18
      refine (joinO_any n2.heap.size [(⟨#[117, 115, 101, 100]⟩ : ByteArray), d0, ⟨#[111, 112, 101, 110]⟩, d1, ⟨#[119, 97, 105, 116, 105, 110, 103]⟩, nms, ⟨#[114, 101, 115, 116]⟩, ⟨#[121, 101, 115]⟩] _ _ _ (OwnL.lits (f := strC) (e := 9) (n := 1) n2.heap.size n2 [(⟨#[117, 115, 101, 100]⟩ : ByteArray), d0, ⟨#[111, 112, 101, 110]⟩, d1, ⟨#[119, 97, 105, 116, 105, 110, 103]⟩, nms, ⟨#[114, 101, 115, 116]⟩, ⟨#[121, 101, 115]⟩] _ n2.heap.size 8 rfl (Nat.le_refl _) rfl (by decide) rfl rfl) (by simp) HZ.out (by simp)).mono ?_
      rintro e n3 ⟨rfl, hb6⟩
      have HN3 := Lib.hid (bthen (balloc HN2.out _) hb6)
      clear hb6
      try go_simp
      refine hK.out _ _ ?hS12 (fun hHeld2 => ?_)
      case hS12 => first | with_reducible exact HXr.out | exact HXr.out | exact (HN0.out.block _ (Array.getElem?_eq_some_iff.1 HXr.out).1).trans HXr.out | exact (HN1.out.block _ (Array.getElem?_eq_some_iff.1 HXr.out).1).trans HXr.out | exact (HN2.out.block _ (Array.getElem?_eq_some_iff.1 HXr.out).1).trans HXr.out | exact (HN3.out.block _ (Array.getElem?_eq_some_iff.1 HXr.out).1).trans HXr.out | exact (Below.heap_alloc _ _ _ (by have := HN2.out.size; have := (Array.getElem?_eq_some_iff.1 HXr.out).1; omega)).trans ((HN2.out.block _ (Array.getElem?_eq_some_iff.1 HXr.out).1).trans HXr.out)
      clear hK K hHeld
      have hHeld := hHeld2
      clear hHeld2
      try simp only [Act.put, List.getElem_toArray, List.getElem_cons_succ, List.getElem_cons_zero, List.setIfInBounds_toArray, List.set_cons_zero, List.set_cons_succ]
      refine wpAnyH_take (i := 11) (v := ?v13) rfl (by kernel_rfl) (by kernel_rfl) (by kernel_rfl) (fun _ _ _ h => h) (Or.inl ⟨by rfl, ?hy13⟩) (by assumption) ?_
      case hy13 =>
        intro w' hSw
        (try dsimp only at hSw)
        go_simp
        try (with_reducible rfl)
      try simp only [Act.put, List.getElem_toArray, List.getElem_cons_succ, List.getElem_cons_zero, List.setIfInBounds_toArray, List.set_cons_zero, List.set_cons_succ]
      refine wpAnyH_done (by kernel_rfl) ?_ _
      go_wp2_with fail
      go_ret
      exact ⟨by rw [HNM.out]; rfl, bthen HBr.out HN3.out⟩

set_option maxRecDepth 100000 in
set_option maxHeartbeats 8000000 in
theorem psum_false (evs : Value) (used opn : Int) (A : Option Addr) (c : Nat) (l : List Ky) (w : World) (hv : KeysIn w (.slice A l.length c) l) (hok : ∀ p ∈ l, p.ok) (hl : l.length ≤ 40) (hu : I64 used) (ho : I64 opn) (ht : Tab w) :
    Calls Tryd.prog 12 #[.agg #[evs, .int .i64 used, .int .i64 opn, .slice A l.length c, .bool false]] w fun e w' => e = .returned (.string (joinS [⟨#[117, 115, 101, 100]⟩, dec used, ⟨#[111, 112, 101, 110]⟩, dec opn, ⟨#[119, 97, 105, 116, 105, 110, 103]⟩, comS (toN l l.length), ⟨#[114, 101, 115, 116]⟩, ⟨#[110, 111]⟩])) ∧ Below w.heap.size w w' := by
  have C0 := Lib.hid (show ∀ W, Below w.heap.size w W → Calls Tryd.prog 13 #[.int .i64 used] W fun e w' => e = .returned (.string (dec used)) ∧ Below W.heap.size W w' from fun W h => itoaC_any used hu W (ht.below h))
  have C1 := Lib.hid (show ∀ W, Below w.heap.size w W → Calls Tryd.prog 13 #[.int .i64 opn] W fun e w' => e = .returned (.string (dec opn)) ∧ Below W.heap.size W w' from fun W h => itoaC_any opn ho W (ht.below h))
  have hz0 := dec_1000 hu
  have hz1 := dec_1000 ho
  generalize dec used = d0 at C0 hz0 ⊢
  generalize dec opn = d1 at C1 hz1 ⊢
  have HZ0 := Lib.hid hz0
  have HZ1 := Lib.hid hz1
  have HV := Lib.hid hv
  have HOK := Lib.hid hok
  clear hv hok hu ho ht hz0 hz1
  go_enter Tryd.func12, Tryd.ntmps12
  go_upto_region 5 with fail
  refine name_world ?_
  intro W hW
  have hb0 : Below w.heap.size w W := by rw [hW]; exact balloc (balloc (Below.refl _ _) _) _
  have hx0 : W.heap[w.heap.size]? = some (.cells #[evs, .int .i64 used, .int .i64 opn, .slice A l.length c, .bool false] 55 (0, 0)) := by rw [hW]; exact (Below.heap_alloc _ _ _ (by simp)).trans (heap_alloc_new _ _)
  have ho0 : OwnL strC 9 1 (w.heap.size + 1) W (.slice (some ⟨w.heap.size + 1, 0, none⟩) 1 1) [(⟨#[45]⟩ : ByteArray)] := by
    rw [hW]
    exact OwnL.lits (f := strC) (e := 9) (n := 1) (w.heap.size + 1) (w.alloc _) [(⟨#[45]⟩ : ByteArray)] _ (w.heap.size + 1) 1 (by simp) (Nat.le_refl _) rfl (by decide) rfl rfl
  have hWs : w.heap.size + 1 < W.heap.size := by rw [hW]; simp
  obtain ⟨a0, a0f, a0l, a0h⟩ := box_at (Below.refl _ _) hx0
  have HB := Lib.hid hb0
  have HX := Lib.hid a0h
  have HO0 := Lib.hid ho0
  clear hW hb0 hx0 ho0 a0h
  go_wp2_with fail
  go_loopg [4, 13] l.length (fun g s4 s13 wr => ∃ i, i ≤ l.length ∧ l.length - i ≤ g ∧ s13 = .int .i64 (i : Nat) ∧ OwnL strC 9 1 (w.heap.size + 1) wr s4 (toN l i) ∧ Below (w.heap.size + 1) W wr)
  case atStart => exact ⟨0, Nat.zero_le _, Nat.le_refl _, rfl, HO0.out, Below.refl _ _⟩
  case round =>
    obtain ⟨i, hi, hg, rfl, hown, hbw⟩ := hrel
    rename World => wr
    have HBr := Lib.hid (HB.out.trans (hbw.mono (Nat.le_succ _)))
    have HBr1 := Lib.hid hbw
    have HXr := Lib.hid ((hbw.block w.heap.size (Nat.lt_succ_self _)).trans HX.out)
    have HRS := Lib.hid (Nat.lt_of_lt_of_le hWs hbw.size)
    have HOW := Lib.hid hown
    clear hown hbw a0 a0f a0l hWs
    by_cases hlt : i < l.length
    · obtain ⟨b1, o1, rfl, hb1, k1, k2⟩ := (HV.out.below HBr.out).at_ hlt
      have hpk := HOK.out _ (List.getElem_mem hlt)
      have HT2 := Lib.hid (toN_next l i hlt)
      have CI := Lib.hid (show ∀ W, Calls Tryd.prog 16 #[keyV (l[i]).1 (l[i]).2] W fun e w' => e = .returned (.string (nm l[i])) ∧ Below W.heap.size W w' from fun W => repId_any (l[i]).1 (l[i]).2 W hpk.1 hpk.2)
      unfold keyV at CI
      generalize nm l[i] = x at HT2 CI
      generalize (l[i]).1 = p1 at k1 CI
      generalize (l[i]).2 = p2 at k2 CI
      by_cases h : i = 0
      · subst h
        rw [if_pos rfl] at HT2
        simp only [Nat.zero_mul, Nat.add_zero] at k1 k2
        clear hpk
        go_wp2_with (first
          | (go_at_call 16
             refine calls_named ?_
             intro W1 hW1
             have hb1 : Below wr.heap.size wr W1 := by rw [hW1]; exact balloc (Below.refl _ _) _
             clear hW1
             with_reducible refine (CI.out W1).mono ?_
             rintro e w1 ⟨rfl, hb6⟩
             have HW2 := Lib.hid (bthen hb1 hb6)
             clear hb1 hb6)
          | (at_builtin
             refine wpList_appendL eStr (by rfl) (by rfl) (w.heap.size + 1) [] [x] (.slice none 0 0) _ (by rfl) (by rfl) (OwnL.nil _ _) (RowIn.lit (n := 1) (f := strC) w1 x _ _ w1.heap.size rfl rfl) (by simp) (by have := HW2.out.size; have := HRS.out; simp; omega) ?_
             intro out A2 c2 w2 hout hown hg hor
             have HOU := Lib.hid (show out = [] ++ [x] from hout)
             have hb7 : Below (w.heap.size + 1) wr w2 := ((HW2.out.mono (by have := HRS.out; omega)).alloc (by have := HW2.out.size; have := HRS.out; omega) _).trans (grown_own hg ((OwnL.nil (f := strC) (e := 9) (n := 1) (w.heap.size + 1) w1)) (by have := HW2.out.size; have := HRS.out; simp; omega))
             have HO := Lib.hid hown
             have HB7 := Lib.hid hb7
             clear hown hout hg hor hb7))
        go_roundg (l.length - (0 + 1))
        case measure => omega
        case rel => exact ⟨0 + 1, hlt, Nat.le_refl _, by go_num, by rw [HT2.out, ← HOU.out]; exact HO.out, HBr1.out.trans HB7.out⟩
      · rw [if_neg h] at HT2
        have h0 : 0 < i := by omega
        have hyl := toN_len l i hl
        have hyw := HOW.out
        obtain ⟨B1, e1, rfl⟩ := hyw.form
        generalize toN l i = ys at HT2 hyl hyw ⊢
        have HY := Lib.hid hyw
        have HYL := Lib.hid hyl
        clear hpk h HOW hyl hyw
        go_wp2_with (first
          | (go_at_call 16
             refine calls_named ?_
             intro W1 hW1
             have hb1 : Below wr.heap.size wr W1 := by rw [hW1]; exact balloc (Below.refl _ _) _
             clear hW1
             with_reducible refine (CI.out W1).mono ?_
             rintro e w1 ⟨rfl, hb6⟩
             have HW2 := Lib.hid (bthen hb1 hb6)
             clear hb1 hb6)
          | (at_builtin
             refine wpList_appendL eStr (by rfl) (by rfl) (w.heap.size + 1) ys [x] (.slice B1 ys.length e1) _ (by rfl) (by rfl) ((HY.out.below HW2.out).below (balloc (Below.refl _ _) _)) (RowIn.lit (n := 1) (f := strC) w1 x _ _ w1.heap.size rfl rfl) (by have := HYL.out; simp; omega) (by have := HW2.out.size; have := HRS.out; simp; omega) ?_
             intro out A2 c2 w2 hout hown hg hor
             have HOU := Lib.hid (show out = ys ++ [x] from hout)
             have hb7 : Below (w.heap.size + 1) wr w2 := ((HW2.out.mono (by have := HRS.out; omega)).alloc (by have := HW2.out.size; have := HRS.out; omega) _).trans (grown_own hg (HY.out.below HW2.out) (by have := HW2.out.size; have := HRS.out; simp; omega))
             have HO := Lib.hid hown
             have HB7 := Lib.hid hb7
             clear hown hout hg hor hb7))
        go_roundg (l.length - (i + 1))
        case measure => omega
        case rel => exact ⟨i + 1, hlt, Nat.le_refl _, by go_num, by rw [HT2.out, ← HOU.out]; exact HO.out, HBr1.out.trans HB7.out⟩
    · obtain rfl : i = l.length := by omega
      have hown := HOW.out
      obtain ⟨B1, e1, rfl⟩ := hown.form
      have CJ := Lib.hid (fun W (h : Below wr.heap.size wr W) => joinC_any (w.heap.size + 1) (toN l l.length) B1 e1 W (hown.below h) (toN_ne l _ (Nat.le_refl _)) (toN_size l _) (Nat.le_trans (toN_len l _ hl) (by decide)))
      have hz2 : (comS (toN l l.length)).size ≤ 1000 := by rw [toN_all]; exact namesS_size l hl
      generalize hnm : comS (toN l l.length) = nms at CJ hz2 ⊢
      have HNM := Lib.hid hnm
      clear hnm
      have HNX := Lib.hid hz2
      have HZ := Lib.hid (show ∀ s ∈ [(⟨#[117, 115, 101, 100]⟩ : ByteArray), d0, ⟨#[111, 112, 101, 110]⟩, d1, ⟨#[119, 97, 105, 116, 105, 110, 103]⟩, nms, ⟨#[114, 101, 115, 116]⟩, ⟨#[110, 111]⟩], s.size ≤ 1000 from by
        intro s hs
        simp only [List.mem_cons, List.not_mem_nil, or_false] at hs
        rcases hs with rfl | rfl | rfl | rfl | rfl | rfl | rfl | rfl <;> first | exact HZ0.out | exact HZ1.out | exact HNX.out | decide)
      generalize (toN l l.length).length = ylen at CJ hown ⊢
      clear hown hz2 HOW
      go_wp2_with fail
      refine wp_region_held_drew (S := (fun U : World => U.heap[w.heap.size]? = some (.cells #[evs, .int .i64 used, .int .i64 opn, .slice A l.length c, .bool false] 55 (0, 0)))) (by kernel_rfl) ?hS14 (fun hHeld => ?_)
      case hS14 => first | with_reducible exact HXr.out | exact HXr.out | exact (HN0.out.block _ (Array.getElem?_eq_some_iff.1 HXr.out).1).trans HXr.out | exact (HN1.out.block _ (Array.getElem?_eq_some_iff.1 HXr.out).1).trans HXr.out | exact (HN2.out.block _ (Array.getElem?_eq_some_iff.1 HXr.out).1).trans HXr.out | exact (HN3.out.block _ (Array.getElem?_eq_some_iff.1 HXr.out).1).trans HXr.out | exact (Below.heap_alloc _ _ _ (by have := HN2.out.size; have := (Array.getElem?_eq_some_iff.1 HXr.out).1; omega)).trans ((HN2.out.block _ (Array.getElem?_eq_some_iff.1 HXr.out).1).trans HXr.out)
      refine wpAnyH_take (i := 0) (v := ?v15) rfl (by kernel_rfl) (by kernel_rfl) (by kernel_rfl) (fun _ _ _ h => h) (Or.inl ⟨by rfl, ?hy15⟩) (by assumption) ?_
      case hy15 =>
        intro w' hSw
        (try dsimp only at hSw)
        go_simp
        try (with_reducible rfl)
      try simp only [Act.put, List.getElem_toArray, List.getElem_cons_succ, List.getElem_cons_zero, List.setIfInBounds_toArray, List.set_cons_zero, List.set_cons_succ]
      refine wpAnyH_take (i := 1) (v := ?v16) rfl (by kernel_rfl) (by kernel_rfl) (by kernel_rfl) (fun _ _ _ h => h) (Or.inl ⟨by rfl, ?hy16⟩) (by assumption) ?_
      case hy16 =>
        intro w' hSw
        (try dsimp only at hSw)
        have q0 := (box_cells (Below.refl _ _) hSw).1
        go_simp
        try (with_reducible rfl)
      try simp only [Act.put, List.getElem_toArray, List.getElem_cons_succ, List.getElem_cons_zero, List.setIfInBounds_toArray, List.set_cons_zero, List.set_cons_succ]
      refine wpAnyH_take (i := 3) (v := ?v17) rfl (by kernel_rfl) (by kernel_rfl) (by kernel_rfl) (fun _ _ _ h => h) (Or.inl ⟨by rfl, ?hy17⟩) (by assumption) ?_
      case hy17 =>
        intro w' hSw
        (try dsimp only at hSw)
        go_simp
        try (with_reducible rfl)
      try simp only [Act.put, List.getElem_toArray, List.getElem_cons_succ, List.getElem_cons_zero, List.setIfInBounds_toArray, List.set_cons_zero, List.set_cons_succ]
      refine wpAnyH_take (i := 4) (v := ?v18) rfl (by kernel_rfl) (by kernel_rfl) (by kernel_rfl) (fun _ _ _ h => h) (Or.inl ⟨by rfl, ?hy18⟩) (by assumption) ?_
      case hy18 =>
        intro w' hSw
        (try dsimp only at hSw)
        have q0 := (box_cells (Below.refl _ _) hSw).1
        go_simp
        try (with_reducible rfl)
      try simp only [Act.put, List.getElem_toArray, List.getElem_cons_succ, List.getElem_cons_zero, List.setIfInBounds_toArray, List.set_cons_zero, List.set_cons_succ]
      refine wpAnyH_take (i := 6) (v := ?v19) rfl (by kernel_rfl) (by kernel_rfl) (by kernel_rfl) (fun _ _ _ h => h) (Or.inl ⟨by rfl, ?hy19⟩) (by assumption) ?_
      case hy19 =>
        intro w' hSw
        (try dsimp only at hSw)
        go_simp
        try (with_reducible rfl)
      try simp only [Act.put, List.getElem_toArray, List.getElem_cons_succ, List.getElem_cons_zero, List.setIfInBounds_toArray, List.set_cons_zero, List.set_cons_succ]
      refine wpAnyH_take (i := 8) (v := ?v20) rfl (by kernel_rfl) (by kernel_rfl) (by kernel_rfl) (fun _ _ _ h => h) (Or.inl ⟨by rfl, ?hy20⟩) (by assumption) ?_
      case hy20 =>
        intro w' hSw
        (try dsimp only at hSw)
        go_simp
        try (with_reducible rfl)
      try simp only [Act.put, List.getElem_toArray, List.getElem_cons_succ, List.getElem_cons_zero, List.setIfInBounds_toArray, List.set_cons_zero, List.set_cons_succ]
      refine wpAnyH_ready (rs := [2]) (by kernel_rfl) (by simp) ?_
      refine AllReadyH.cons rfl (fun K hK => ?_) AllReadyH.nil
      go_simp
      go_at_call 13
      refine calls_named ?_
      intro W5 hW5
      have hb5 : Below wr.heap.size wr W5 := by rw [hW5]; first | exact Below.refl _ _ | exact (Below.refl _ _).drew
      clear hW5
      with_reducible refine (C0.out _ (bthen HBr.out hb5)).mono ?_
      rintro e n0 ⟨rfl, hb6⟩
      have HN0 := Lib.hid (bthen hb5 hb6)
      clear hb5 hb6
      try go_simp
      refine hK.out _ _ ?hS21 (fun hHeld2 => ?_)
      case hS21 => first | with_reducible exact HXr.out | exact HXr.out | exact (HN0.out.block _ (Array.getElem?_eq_some_iff.1 HXr.out).1).trans HXr.out | exact (HN1.out.block _ (Array.getElem?_eq_some_iff.1 HXr.out).1).trans HXr.out | exact (HN2.out.block _ (Array.getElem?_eq_some_iff.1 HXr.out).1).trans HXr.out | exact (HN3.out.block _ (Array.getElem?_eq_some_iff.1 HXr.out).1).trans HXr.out | exact (Below.heap_alloc _ _ _ (by have := HN2.out.size; have := (Array.getElem?_eq_some_iff.1 HXr.out).1; omega)).trans ((HN2.out.block _ (Array.getElem?_eq_some_iff.1 HXr.out).1).trans HXr.out)
      clear hK K hHeld
      have hHeld := hHeld2
      clear hHeld2
      try simp only [Act.put, List.getElem_toArray, List.getElem_cons_succ, List.getElem_cons_zero, List.setIfInBounds_toArray, List.set_cons_zero, List.set_cons_succ]
      refine wpAnyH_ready (rs := [5]) (by kernel_rfl) (by simp) ?_
      refine AllReadyH.cons rfl (fun K hK => ?_) AllReadyH.nil
      go_simp
      go_at_call 13
      have h9 := HN0.out
      refine calls_named ?_
      intro W5 hW5
      have hb5 : Below wr.heap.size wr W5 := by rw [hW5]; first | exact Below.refl _ _ | exact (Below.refl _ _).drew | exact HN0.out
      clear hW5
      with_reducible refine (C1.out _ (bthen HBr.out hb5)).mono ?_
      rintro e n1 ⟨rfl, hb6⟩
      have HN1 := Lib.hid (bthen hb5 hb6)
      clear hb5 hb6
      try go_simp
      refine hK.out _ _ ?hS22 (fun hHeld2 => ?_)
      case hS22 => first | with_reducible exact HXr.out | exact HXr.out | exact (HN0.out.block _ (Array.getElem?_eq_some_iff.1 HXr.out).1).trans HXr.out | exact (HN1.out.block _ (Array.getElem?_eq_some_iff.1 HXr.out).1).trans HXr.out | exact (HN2.out.block _ (Array.getElem?_eq_some_iff.1 HXr.out).1).trans HXr.out | exact (HN3.out.block _ (Array.getElem?_eq_some_iff.1 HXr.out).1).trans HXr.out | exact (Below.heap_alloc _ _ _ (by have := HN2.out.size; have := (Array.getElem?_eq_some_iff.1 HXr.out).1; omega)).trans ((HN2.out.block _ (Array.getElem?_eq_some_iff.1 HXr.out).1).trans HXr.out)
      clear hK K hHeld
      have hHeld := hHeld2
      clear hHeld2
      try simp only [Act.put, List.getElem_toArray, List.getElem_cons_succ, List.getElem_cons_zero, List.setIfInBounds_toArray, List.set_cons_zero, List.set_cons_succ]
      refine wpAnyH_ready (rs := [7]) (by kernel_rfl) (by simp) ?_
      refine AllReadyH.cons rfl (fun K hK => ?_) AllReadyH.nil
      go_simp
      go_at_call 18
      with_reducible refine (CJ.out _ HN1.out).mono ?_
      rintro e n2 ⟨rfl, hb6⟩
      have HN2 := Lib.hid (bthen HN1.out hb6)
      clear hb6
      try go_simp
      refine hK.out _ _ ?hS23 (fun hHeld2 => ?_)
      case hS23 => first | with_reducible exact HXr.out | exact HXr.out | exact (HN0.out.block _ (Array.getElem?_eq_some_iff.1 HXr.out).1).trans HXr.out | exact (HN1.out.block _ (Array.getElem?_eq_some_iff.1 HXr.out).1).trans HXr.out | exact (HN2.out.block _ (Array.getElem?_eq_some_iff.1 HXr.out).1).trans HXr.out | exact (HN3.out.block _ (Array.getElem?_eq_some_iff.1 HXr.out).1).trans HXr.out | exact (Below.heap_alloc _ _ _ (by have := HN2.out.size; have := (Array.getElem?_eq_some_iff.1 HXr.out).1; omega)).trans ((HN2.out.block _ (Array.getElem?_eq_some_iff.1 HXr.out).1).trans HXr.out)
      clear hK K hHeld
      have hHeld := hHeld2
      clear hHeld2
      try simp only [Act.put, List.getElem_toArray, List.getElem_cons_succ, List.getElem_cons_zero, List.setIfInBounds_toArray, List.set_cons_zero, List.set_cons_succ]
      refine wpAnyH_ready (rs := [9]) (by kernel_rfl) (by simp) ?_
      refine AllReadyH.cons rfl (fun K hK => ?_) AllReadyH.nil
      go_simp
      skip
      try go_simp
      refine hK.out _ _ ?hS24 (fun hHeld2 => ?_)
      case hS24 => first | with_reducible exact HXr.out | exact HXr.out | exact (HN0.out.block _ (Array.getElem?_eq_some_iff.1 HXr.out).1).trans HXr.out | exact (HN1.out.block _ (Array.getElem?_eq_some_iff.1 HXr.out).1).trans HXr.out | exact (HN2.out.block _ (Array.getElem?_eq_some_iff.1 HXr.out).1).trans HXr.out | exact (HN3.out.block _ (Array.getElem?_eq_some_iff.1 HXr.out).1).trans HXr.out | exact (Below.heap_alloc _ _ _ (by have := HN2.out.size; have := (Array.getElem?_eq_some_iff.1 HXr.out).1; omega)).trans ((HN2.out.block _ (Array.getElem?_eq_some_iff.1 HXr.out).1).trans HXr.out)
      clear hK K hHeld
      have hHeld := hHeld2
      clear hHeld2
      try simp only [Act.put, List.getElem_toArray, List.getElem_cons_succ, List.getElem_cons_zero, List.setIfInBounds_toArray, List.set_cons_zero, List.set_cons_succ]
      refine wpAnyH_ready (rs := [10]) (by kernel_rfl) (by simp) ?_
      refine AllReadyH.cons rfl (fun K hK => ?_) AllReadyH.nil
      go_simp
      go_at_call 18
      refine (joinO_any n2.heap.size [(⟨#[117, 115, 101, 100]⟩ : ByteArray), d0, ⟨#[111, 112, 101, 110]⟩, d1, ⟨#[119, 97, 105, 116, 105, 110, 103]⟩, nms, ⟨#[114, 101, 115, 116]⟩, ⟨#[110, 111]⟩] _ _ _ (OwnL.lits (f := strC) (e := 9) (n := 1) n2.heap.size n2 [(⟨#[117, 115, 101, 100]⟩ : ByteArray), d0, ⟨#[111, 112, 101, 110]⟩, d1, ⟨#[119, 97, 105, 116, 105, 110, 103]⟩, nms, ⟨#[114, 101, 115, 116]⟩, ⟨#[110, 111]⟩] _ n2.heap.size 8 rfl (Nat.le_refl _) rfl (by decide) rfl rfl) (by simp) HZ.out (by simp)).mono ?_
      rintro e n3 ⟨rfl, hb6⟩
      have HN3 := Lib.hid (bthen (balloc HN2.out _) hb6)
      clear hb6
      try go_simp
      refine hK.out _ _ ?hS25 (fun hHeld2 => ?_)
      case hS25 => first | with_reducible exact HXr.out | exact HXr.out | exact (HN0.out.block _ (Array.getElem?_eq_some_iff.1 HXr.out).1).trans HXr.out | exact (HN1.out.block _ (Array.getElem?_eq_some_iff.1 HXr.out).1).trans HXr.out | exact (HN2.out.block _ (Array.getElem?_eq_some_iff.1 HXr.out).1).trans HXr.out | exact (HN3.out.block _ (Array.getElem?_eq_some_iff.1 HXr.out).1).trans HXr.out | exact (Below.heap_alloc _ _ _ (by have := HN2.out.size; have := (Array.getElem?_eq_some_iff.1 HXr.out).1; omega)).trans ((HN2.out.block _ (Array.getElem?_eq_some_iff.1 HXr.out).1).trans HXr.out)
      clear hK K hHeld
      have hHeld := hHeld2
      clear hHeld2
      try simp only [Act.put, List.getElem_toArray, List.getElem_cons_succ, List.getElem_cons_zero, List.setIfInBounds_toArray, List.set_cons_zero, List.set_cons_succ]
      refine wpAnyH_take (i := 11) (v := ?v26) rfl (by kernel_rfl) (by kernel_rfl) (by kernel_rfl) (fun _ _ _ h => h) (Or.inl ⟨by rfl, ?hy26⟩) (by assumption) ?_
      case hy26 =>
        intro w' hSw
        (try dsimp only at hSw)
        go_simp
        try (with_reducible rfl)
      try simp only [Act.put, List.getElem_toArray, List.getElem_cons_succ, List.getElem_cons_zero, List.setIfInBounds_toArray, List.set_cons_zero, List.set_cons_succ]
      refine wpAnyH_done (by kernel_rfl) ?_ _
      go_wp2_with fail
      go_ret
      exact ⟨by rw [HNM.out]; rfl, bthen HBr.out HN3.out⟩

def outV (evs : Value) (used opn : Int) (wt : Value) (rest : Bool) : Value := .agg #[evs, .int .i64 used, .int .i64 opn, wt, .bool rest]
theorem psum_any (evs v : Value) (used opn : Int) (l : List Ky) (rest : Bool) (w : World) (hv : KeysIn w v l) (hok : ∀ p ∈ l, p.ok) (hl : l.length ≤ 40) (hu : I64 used) (ho : I64 opn) (ht : Tab w) :
    Calls Tryd.prog 12 #[outV evs used opn v rest] w fun e w' => e = .returned (.string (sumS used opn l rest)) ∧ Below w.heap.size w w' := by
  obtain ⟨A, c, rfl, h0⟩ := id hv
  unfold sumS sumW
  rw [← toN_all l]
  cases rest with
  | true => exact psum_true evs used opn A c l w hv hok hl hu ho ht
  | false => exact psum_false evs used opn A c l w hv hok hl hu ho ht
end

end Go.Proofs.YtmndhffimlkjgaaDoor
