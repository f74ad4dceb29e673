/- The walk of BoundTells. -/
import Derived.Test.YthfkgffalhkeeaaMost
import Derived.Test.YthfkgffalhkeeaaIdLaws
namespace Go.Proofs.Ythfkgffalhkeeaa
open Go.RowKit Go.Lib

def exCall : CallD := ⟨1, { data := #[97] }, 0, 0, 0, ⟨0, 0, 0, 0, 0, 0⟩⟩
theorem exCall_ok : exCall.ok := by simp [CallD.ok, exCall, I64, Pol.ok, ByteArray.size, maxLen]
theorem exCall_chk : chkC exCall = 0 := by simp [chkC, exCall, idS_a, serE]
theorem exMost : mostV ⟨1, 2, 2, 1⟩ [[exCall]] 1 = .tuple #[.int .i64 30, .int .i64 0] := by
  have hE : progsE ⟨1, 2, 2, 1⟩ [[exCall]] 1 = 0 := by
    have : cfgB ⟨1, 2, 2, 1⟩ = true := by decide
    simp [progsE, this]
  have h1 : stirN exCall = 1 := by rw [stirN, exCall_chk]; simp [exCall]
  have h2 : opsN 1 exCall = 8 := by rw [opsN, if_pos exCall_chk]; simp [exCall, innerL, oneL]
  rw [mostV, if_pos hE]
  simp [mostI, sumP, sumC, h1, h2]

set_option maxRecDepth 100000 in
set_option maxHeartbeats 1000000 in
theorem small39_any (w : World) :
    Calls Try.prog 31 #[] w fun e w' => e = .returned (.agg #[.int .i64 1, .int .i64 2, .int .i64 2, .int .i64 1]) ∧ Below w.heap.size w w' := by
  go_enter Try.func31, Try.ntmps31
  go_wp2
  exact bodyPost_ret (v := .agg #[.int .i64 1, .int .i64 2, .int .i64 2, .int .i64 1]) (by simp [results, Try.results31, go_sem]) rfl ⟨rfl, balloc (Below.refl _ _) _⟩

/-- The example's programs, as the literal lays them. -/
theorem exProgs (w : World) (T T' : TypeId) : ProgsAt ((w.alloc (.cells #[.int .i64 1, .string { data := #[97] }, .int .i64 0, .int .i64 0, .int .i64 0, .int .i64 0, .int .i64 0, .int .i64 0, .int .i64 0, .int .i64 0, .int .i64 0] T)).alloc (.cells #[.slice (some ⟨w.heap.size, 0, none⟩) 1 1] T')) (.slice (some ⟨w.heap.size + 1, 0, none⟩) 1 1) [[exCall]] := by
  have h1 := (start2 w #[.int .i64 1, .string { data := #[97] }, .int .i64 0, .int .i64 0, .int .i64 0, .int .i64 0, .int .i64 0, .int .i64 0, .int .i64 0, .int .i64 0, .int .i64 0] #[.slice (some ⟨w.heap.size, 0, none⟩) 1 1] T T')
  refine ⟨_, _, rfl, fun _ => ⟨_, 0, rfl, h1.2.2.2, fun k xs hk => ?_⟩⟩
  match k, hk with
  | 0, hk =>
    simp at hk
    subst hk
    refine ⟨.slice (some ⟨w.heap.size, 0, none⟩) 1 1, by rw [Nat.add_zero, h1.2.1 0]; rfl, _, _, rfl, fun _ => ⟨_, 0, rfl, by have := h1.2.2.2; omega, fun k x hk => ?_⟩⟩
    match k, hk with
    | 0, hk =>
      simp at hk
      subst hk
      refine ⟨exCall_ok, fun j u hu => ?_⟩
      have := h1.1 j
      rw [Nat.zero_mul, Nat.add_zero, Nat.zero_add, this, ← hu]
      simp [callCells, exCall]

set_option maxRecDepth 100000 in
set_option maxHeartbeats 1000000 in
theorem awake39_any (w : World) :
    Calls Try.prog 17 #[] w fun e w' => e = .returned (.bool true) ∧ Below w.heap.size w w' := by
  have hm := Lib.hid exMost
  go_enter Try.func17, Try.ntmps17
  go_wp2_with (first
    | (go_at_call 31; refine (small39_any _).mono ?_; rintro e w1 ⟨rfl, hb1⟩)
    | (go_at_call 19; refine (boundMost_any ⟨1, 2, 2, 1⟩ _ [[exCall]] 1 _ (exProgs w1 _ _) (by simp [Cfg.ok, I64]) (by simp [I64]) (by simp) (by decide) (by simp)).mono ?_; rw [hm.out]; rintro e w2 ⟨rfl, hb2⟩))
  go_ret
  exact ⟨rfl, bthen (balloc (balloc hb1 _) _) hb2⟩

set_option maxRecDepth 100000 in
set_option maxHeartbeats 2000000 in
theorem boundTells_walk (c : Cfg) (v : Value) (ps : List (List CallD)) (wk : Int) (w : World) (hp : ProgsAt w v ps) (hc : c.ok) (hwk : I64 wk) (hm : ps.length ≤ maxLen) (hx : ∀ xs ∈ ps, xs.length ≤ maxLen) :
    Calls Try.prog 6 #[cfgV c, v, .int .i64 wk] w fun e w' => e = .returned (.bool true) ∧ Below w.heap.size w w' := by
  have hps : ∀ o, ProgsAt (w.alloc o) v ps := fun o => hp.below ((Below.refl _ _).alloc (Nat.le_refl _) o)
  obtain ⟨A, cc, rfl, hp0⟩ := id hp
  have Hps := Lib.hid hps
  have Hx := Lib.hid hx
  have Hc := Lib.hid hc
  have Hwk := Lib.hid hwk
  clear hp hps hx hp0 hwk hc
  cases hl : lightB ps wk with
  | false =>
    have Hl := Lib.hid hl
    clear hl
    obtain ⟨st, sa, lo, hi⟩ := c
    unfold cfgV
    go_enter Try.func6, Try.ntmps6
    go_wp2_with (first
      | (go_at_call 17; refine (awake39_any _).mono ?_; rintro e w1 ⟨rfl, hb1⟩; have hpw1 := Lib.hid ((Hps.out _).below hb1); have hA1 := keepA (startA w _ _) hb1 rfl)
      | (go_at_call 18; refine (light_any _ ps wk _ hpw1.out hm Hx.out).mono ?_; rw [Hl.out]; rintro e w' ⟨rfl, rfl⟩))
    go_ret
    exact ⟨rfl, hA1.2.1⟩
  | true =>
    obtain ⟨h8, h5, h4⟩ := light_le hl
    have Hl := Lib.hid hl
    have H8 := Lib.hid h8
    clear hl h8
    by_cases hE : progsE c ps wk = 0
    · have hv : mostV c ps wk = .tuple #[.int .i64 (mostI c.st.toNat ps wk), .int .i64 0] := by rw [mostV, if_pos hE]
      obtain ⟨hB, hw0⟩ := progsE_zero hE
      obtain ⟨s, hs, h0, h1⟩ := cfgB_st hB
      obtain ⟨st, sa, lo, hi⟩ := c
      simp only at hs
      subst hs
      have hT : (s : Int).toNat = s := by simp
      simp only [hT] at hv
      have HE := Lib.hid hE
      have HB := Lib.hid hB
      have Hv := Lib.hid hv
      clear hE hB hv hT
      unfold cfgV
      go_enter Try.func6, Try.ntmps6
      go_wp2_with (first
        | (go_at_call 17; refine (awake39_any _).mono ?_; rintro e w1 ⟨rfl, hb1⟩; have hpw1 := Lib.hid ((Hps.out _).below hb1); have hA1 := keepA (startA w _ _) hb1 rfl; have c1 := hA1.1; have z1 := hA1.2.2)
        | (go_at_call 18; refine (light_any _ ps wk _ hpw1.out hm Hx.out).mono ?_; rw [Hl.out]; rintro e w' ⟨rfl, rfl⟩)
        | (go_at_call 19; refine (boundMost_any ⟨(s : Nat), sa, lo, hi⟩ _ ps wk _ hpw1.out Hc.out Hwk.out h5 h4 H8.out).mono ?_; rw [Hv.out]; rintro e w2 ⟨rfl, hb2⟩; have hpw2 := Lib.hid (hpw1.out.below hb2); have hA2 := keepA hA1 hb2 rfl; have c2 := hA2.1; have z2 := hA2.2.2)
        | (go_at_call 20; refine (ref34Check_any ⟨(s : Nat), sa, lo, hi⟩ _ ps wk _ hpw2.out Hwk.out h5 h4 H8.out).mono ?_; rw [HE.out]; rintro e w3 ⟨rfl, hb3⟩; have hpw3 := Lib.hid (hpw2.out.below hb3); have hA3 := keepA hA2 hb3 rfl)
        | (go_at_call 21; refine (stirs_any _ ps _ hpw3.out h5 H8.out).mono ?_; rintro e w4 ⟨rfl, hb4⟩; have hpw4 := Lib.hid (hpw3.out.below hb4); have hA4 := keepA hA3 hb4 rfl)
        | (go_at_call 22; refine (refStirs_any _ ps _ hpw4.out h5 H8.out).mono ?_; rintro e w5 ⟨rfl, hb5⟩; have hpw5 := Lib.hid (hpw4.out.below hb5); have hA5 := keepA hA4 hb5 rfl; have c5 := hA5.1; have z5 := hA5.2.2)
          | (go_at_call 23; refine (refMost_any s sa lo hi wk _ ps _ hpw5.out h0 h1 Hc.out HB.out h5 H8.out hw0 h4).mono ?_; rintro e w6 ⟨rfl, hb6⟩))
      go_ret
      exact ⟨rfl, bthen hA5.2.1 hb6⟩
    · have hv : mostV c ps wk = .tuple #[.int .i64 0, .int .i64 (progsE c ps wk)] := by rw [mostV, if_neg hE]
      have g1 : (progsE c ps wk != 0) = true := by simpa using hE
      have g2 : (progsE c ps wk == 0) = false := by simpa using hE
      obtain ⟨st, sa, lo, hi⟩ := c
      have Hv := Lib.hid hv
      clear hE hv
      unfold cfgV
      go_enter Try.func6, Try.ntmps6
      go_wp2_with (first
        | (go_at_call 17; refine (awake39_any _).mono ?_; rintro e w1 ⟨rfl, hb1⟩; have hpw1 := Lib.hid ((Hps.out _).below hb1); have hA1 := keepA (startA w _ _) hb1 rfl; have c1 := hA1.1; have z1 := hA1.2.2)
        | (go_at_call 18; refine (light_any _ ps wk _ hpw1.out hm Hx.out).mono ?_; rw [Hl.out]; rintro e w' ⟨rfl, rfl⟩)
        | (go_at_call 19; refine (boundMost_any ⟨st, sa, lo, hi⟩ _ ps wk _ hpw1.out Hc.out Hwk.out h5 h4 H8.out).mono ?_; rw [Hv.out]; rintro e w2 ⟨rfl, hb2⟩; have hpw2 := Lib.hid (hpw1.out.below hb2); have hA2 := keepA hA1 hb2 rfl; have c2 := hA2.1; have z2 := hA2.2.2)
        | (go_at_call 20; refine (ref34Check_any ⟨st, sa, lo, hi⟩ _ ps wk _ hpw2.out Hwk.out h5 h4 H8.out).mono ?_; rintro e w3 ⟨rfl, hb3⟩; have hpw3 := Lib.hid (hpw2.out.below hb3); have hA3 := keepA hA2 hb3 rfl)
        | (go_at_call 21; refine (stirs_any _ ps _ hpw3.out h5 H8.out).mono ?_; rintro e w4 ⟨rfl, hb4⟩; have hpw4 := Lib.hid (hpw3.out.below hb4); have hA4 := keepA hA3 hb4 rfl)
        | (go_at_call 22; refine (refStirs_any _ ps _ hpw4.out h5 H8.out).mono ?_; rintro e w5 ⟨rfl, hb5⟩; have hpw5 := Lib.hid (hpw4.out.below hb5); have hA5 := keepA hA4 hb5 rfl; have c5 := hA5.1; have z5 := hA5.2.2))
      go_ret
      exact ⟨rfl, hA5.2.1⟩

end Go.Proofs.Ythfkgffalhkeeaa
