/- Walks of flywheelref39.Most, bound.Most, flywheelref34.Check, the awake example of chapter 39. -/
import Derived.Test.YthfkgffalhkeeaaStirs
namespace Go.Proofs.Ythfkgffalhkeeaa
open Go.RowKit Go.Lib

def mostI (s : Nat) (ps : List (List CallD)) (wk : Int) : Int := (sumP (opsN s) ps : Nat) + 16 * (sumP stirN ps : Nat) + 6 * wk

set_option maxRecDepth 100000 in
set_option maxHeartbeats 4000000 in
theorem refMost_any (s : Nat) (sa lo hi wk : Int) (v : Value) (ps : List (List CallD)) (w : World) (hp : ProgsAt w v ps) (h0 : 0 < s) (h1 : s ≤ 64) (hc : Cfg.ok ⟨(s : Nat), sa, lo, hi⟩) (hB : cfgB ⟨(s : Nat), sa, lo, hi⟩ = true) (h5 : ps.length ≤ 5) (h8 : ∀ xs ∈ ps, xs.length ≤ 8) (hw0 : 0 ≤ wk) (hw4 : wk ≤ 4) :
    Calls Try.prog 23 #[cfgV ⟨(s : Nat), sa, lo, hi⟩, v, .int .i64 wk] w fun e w' => e = .returned (.int .i64 (mostI s ps wk)) ∧ Below w.heap.size w w' := by
  obtain ⟨A, cc, rfl, hp0⟩ := id hp
  clear hp0
  have Hp := Lib.hid hp
  have H8 := Lib.hid h8
  have HB := Lib.hid hB
  have Hc := Lib.hid hc
  have hf := Lib.hid (opsN_le s h0 h1)
  have hst : sumP stirN ps ≤ 5 * (8 * 1) := Nat.le_trans (sumP_le stirN 1 stirN_le _ h8) (Nat.mul_le_mul_right _ h5)
  have hps : ∀ o, ProgsAt (w.alloc o) (.slice A ps.length cc) ps := fun o => hp.below ((Below.refl _ _).alloc (Nat.le_refl _) o)
  have Hps := Lib.hid hps
  clear hp h8 hB hc hps
  unfold cfgV mostI
  go_enter Try.func23, Try.ntmps23
  go_wp2_with (go_at_call 22; refine (refStirs_any _ ps _ (Hps.out _) h5 H8.out).mono ?_; rintro e w1 ⟨rfl, hb1⟩)
  have hS1 := keepA (startA w _ _) hb1 rfl
  have HS1 := Lib.hid hS1
  clear hS1
  generalize hSTe : sumP stirN ps = ST at *
  have HST := Lib.hid hSTe
  clear hSTe
  go_loopw [7, 8] (fun n i w' => ∃ k : Nat, k ≤ ps.length ∧ i = .int .i64 k ∧ n = .int .i64 ((sumP (opsN s) (ps.take k) : Nat) + 16 * (ST : Int) + 6 * wk) ∧ SumRel w #[.int .i64 (s : Nat), .int .i64 sa, .int .i64 lo, .int .i64 hi] w') (fun _ i _ => ps.length - (intOf i).toNat)
  case atStart => exact ⟨0, Nat.zero_le _, rfl, by simp [sumP], HS1.out⟩
  case round =>
    obtain ⟨k1, hk1, rfl, rfl, hrel⟩ := hrel
    by_cases hlt1 : k1 < ps.length
    · obtain ⟨wo, rfl⟩ : ∃ wo : World, wo = wr := ⟨_, rfl⟩
      have hpw := Hp.out.below hrel.2.1
      obtain ⟨b, o, A', c', rfl, hb, hcell, hcs⟩ := hpw.at_ hlt1
      have hml : (ps[k1]).length ≤ 8 := H8.out _ (List.getElem_mem hlt1)
      have hsum := Lib.hid (sumP_take (opsN s) ps k1 hlt1)
      have hbd : sumP (opsN s) (ps.take k1) ≤ 5 * (8 * 133) := Nat.le_trans (sumP_le (opsN s) 133 hf.out _ (fun xs hx => H8.out xs (List.mem_of_mem_take hx))) (Nat.mul_le_mul_right _ (by rw [List.length_take]; omega))
      have Hrel := Lib.hid hrel
      have Hcs := Lib.hid hcs
      clear hrel hcs hpw
      generalize hxs : ps[k1] = xs at *
      generalize hS : sumP (opsN s) (ps.take k1) = S at *
      have Hxs := Lib.hid hxs
      clear hxs hS
      go_wp2
      go_loopw [7, 9] (fun n i w' => ∃ k : Nat, k ≤ xs.length ∧ i = .int .i64 k ∧ n = .int .i64 (((S + sumC (opsN s) (xs.take k) : Nat) : Int) + 16 * (ST : Int) + 6 * wk) ∧ SumRel w #[.int .i64 (s : Nat), .int .i64 sa, .int .i64 lo, .int .i64 hi] w' ∧ Below wo.heap.size wo w') (fun _ i _ => xs.length - (intOf i).toNat)
      case atStart => exact ⟨0, Nat.zero_le _, rfl, by simp [sumC], Hrel.out, Below.refl _ _⟩
      case round =>
        obtain ⟨k, hk, rfl, rfl, hrel, hbo⟩ := hrel
        have c0 := hrel.1
        have hz := hrel.2.2
        have hcell2 := (hbo.cell (p := ⟨b, o + k1, none⟩) hb).trans hcell
        by_cases hlt : k < xs.length
        · obtain ⟨bx, ox, rfl, hbx, hxo, hxc⟩ := (Hcs.out.below hbo).at_ hlt
          have hs2 := Lib.hid (sumC_take (opsN s) xs k hlt)
          have hbd2 : sumC (opsN s) (xs.take k) ≤ 8 * 133 := Nat.le_trans (sumC_le (opsN s) 133 hf.out _) (Nat.mul_le_mul_right _ (by rw [List.length_take]; omega))
          have hop := hf.out xs[k]
          generalize xs[k] = x at hxo hxc hs2 hop
          generalize sumC (opsN s) (xs.take k) = S2 at hs2 hbd2 ⊢
          have Hxo := Lib.hid hxo
          have Hrel2 := Lib.hid hrel
          have Hbo := Lib.hid hbo
          have q0 : wr.cell? ⟨bx, ox + k * 11, none⟩ = some (.int .i64 x.kind) := by have := hxc 0 _ rfl; simpa using this
          have q1 : wr.cell? ⟨bx, ox + k * 11 + 1, none⟩ = some (.string x.id) := hxc 1 _ rfl
          have q2 : wr.cell? ⟨bx, ox + k * 11 + 2, none⟩ = some (.int .i64 x.tick) := hxc 2 _ rfl
          have q3 : wr.cell? ⟨bx, ox + k * 11 + 3, none⟩ = some (.int .i64 x.val) := hxc 3 _ rfl
          have q4 : wr.cell? ⟨bx, ox + k * 11 + 4, none⟩ = some (.int .i64 x.handle) := hxc 4 _ rfl
          have q5 : wr.cell? ⟨bx, ox + k * 11 + 5, none⟩ = some (.int .i64 x.pol.mn) := hxc 5 _ rfl
          have q6 : wr.cell? ⟨bx, ox + k * 11 + 6, none⟩ = some (.int .i64 x.pol.mx) := hxc 6 _ rfl
          have q7 : wr.cell? ⟨bx, ox + k * 11 + 7, none⟩ = some (.int .i64 x.pol.tg) := hxc 7 _ rfl
          have q8 : wr.cell? ⟨bx, ox + k * 11 + 8, none⟩ = some (.int .i64 x.pol.tol) := hxc 8 _ rfl
          have q9 : wr.cell? ⟨bx, ox + k * 11 + 9, none⟩ = some (.int .i64 x.pol.win) := hxc 9 _ rfl
          have q10 : wr.cell? ⟨bx, ox + k * 11 + 10, none⟩ = some (.int .i64 x.pol.hold) := hxc 10 _ rfl
          have r1 : (0 : Int) ≤ (k1 : Int) := by omega
          have r2 : (k1 : Int) < (ps.length : Int) := by omega
          have r3 : (0 : Int) ≤ (k : Int) := by omega
          have r4 : (k : Int) < (xs.length : Int) := by omega
          clear hxc hxo hrel hbo
          go_wp2
          go_region_with (go_at_call 37; refine (refOpsLen_any s sa lo hi x _ h0 h1 Hc.out Hxo.out HB.out).mono ?_; unfold OpsLen; rintro e w2 ⟨A2, c2, rfl, hb2⟩)
          all_goals
            go_wp2
            go_roundw
            case rel =>
              refine ⟨k + 1, hlt, by go_num, ?_, keepA (drewA Hrel2.out) hb2 rfl, Hbo.out.drew.trans (hb2.mono Hbo.out.size)⟩
              rw [hs2.out]
              simp
              omega
            case measure => simp [intOf]; omega
        · obtain rfl : xs.length = k := by omega
          go_wp2
          go_roundw
          case rel =>
            refine ⟨k1 + 1, hlt1, by go_num, ?_, hrel⟩
            rw [hsum.out, List.take_length]
          case measure => simp [intOf]; omega
    · obtain rfl : ps.length = k1 := by omega
      have hfin := hrel.2.1
      clear hrel
      go_wp2
      go_ret
      rw [List.take_length, HST.out]
      exact ⟨rfl, hfin⟩

set_option maxRecDepth 100000 in
set_option maxHeartbeats 1000000 in
theorem ref34Check_any (c : Cfg) (v : Value) (ps : List (List CallD)) (wk : Int) (w : World) (hp : ProgsAt w v ps) (hwk : I64 wk) (h5 : ps.length ≤ 5) (h4 : wk ≤ 4) (h8 : ∀ xs ∈ ps, xs.length ≤ 8) :
    Calls Try.prog 20 #[cfgV c, v, .int .i64 wk] w fun e w' => e = .returned (.int .i64 (progsE c ps wk)) ∧ Below w.heap.size w w' := by
  have hps : ∀ o, ProgsAt (w.alloc o) v ps := fun o => hp.below ((Below.refl _ _).alloc (Nat.le_refl _) o)
  obtain ⟨A, cc, rfl, hp0⟩ := id hp
  have Hps := Lib.hid hps
  have H8 := Lib.hid h8
  have Hwk := Lib.hid hwk
  clear hp hps h8 hp0 hwk
  obtain ⟨st, sa, lo, hi⟩ := c
  unfold cfgV
  go_enter Try.func20, Try.ntmps20
  go_wp2_with (go_at_call 34; refine (ref29Check_any ⟨st, sa, lo, hi⟩ _ ps wk _ (Hps.out _) Hwk.out h5 h4 H8.out).mono ?_; rintro e w1 ⟨rfl, hb1⟩)
  go_ret
  exact ⟨rfl, bthen (balloc (Below.refl _ _) _) hb1⟩

/-- What bound.Most answers: a number and an error's. -/
def mostV (c : Cfg) (ps : List (List CallD)) (wk : Int) : Value :=
  if progsE c ps wk = 0 then .tuple #[.int .i64 (mostI c.st.toNat ps wk), .int .i64 0] else .tuple #[.int .i64 0, .int .i64 (progsE c ps wk)]

theorem progsE_zero {c : Cfg} {ps : List (List CallD)} {wk : Int} (h : progsE c ps wk = 0) : cfgB c = true ∧ 0 ≤ wk := by
  unfold progsE at h
  cases hB : cfgB c with
  | false => simp [hB] at h
  | true =>
    refine ⟨rfl, ?_⟩
    split at h
    · cases h
    · omega

theorem cfgB_st {c : Cfg} (h : cfgB c = true) : ∃ s : Nat, c.st = (s : Nat) ∧ 0 < s ∧ s ≤ 64 := by
  unfold cfgB at h
  have h1 := okSt_bd c.st (by simp only [Bool.and_eq_true] at h; exact h.1)
  exact ⟨c.st.toNat, by omega, by omega, by omega⟩

set_option maxRecDepth 100000 in
set_option maxHeartbeats 1000000 in
theorem boundMost_any (c : Cfg) (v : Value) (ps : List (List CallD)) (wk : Int) (w : World) (hp : ProgsAt w v ps) (hc : c.ok) (hwk : I64 wk) (h5 : ps.length ≤ 5) (h4 : wk ≤ 4) (h8 : ∀ xs ∈ ps, xs.length ≤ 8) :
    Calls Try.prog 19 #[cfgV c, v, .int .i64 wk] w fun e w' => e = .returned (mostV c ps wk) ∧ Below w.heap.size w w' := by
  have hps : ∀ o, ProgsAt (w.alloc o) v ps := fun o => hp.below ((Below.refl _ _).alloc (Nat.le_refl _) o)
  obtain ⟨A, cc, rfl, hp0⟩ := id hp
  by_cases hE : progsE c ps wk = 0
  · have hv : mostV c ps wk = .tuple #[.int .i64 (mostI c.st.toNat ps wk), .int .i64 0] := by rw [mostV, if_pos hE]
    obtain ⟨hB, hw0⟩ := progsE_zero hE
    obtain ⟨s, hs, h0, h1⟩ := cfgB_st hB
    obtain ⟨st, sa, lo, hi⟩ := c
    simp only at hs
    subst hs
    rw [hv]
    have hT : (s : Int).toNat = s := by simp
    simp only [hT]
    have hst : sumP stirN ps ≤ 5 * (8 * 1) := Nat.le_trans (sumP_le stirN 1 stirN_le _ h8) (Nat.mul_le_mul_right _ h5)
    have hop : sumP (opsN s) ps ≤ 5 * (8 * 133) := Nat.le_trans (sumP_le (opsN s) 133 (opsN_le s h0 h1) _ h8) (Nat.mul_le_mul_right _ h5)
    have HE := Lib.hid hE
    have HB := Lib.hid hB
    have Hps := Lib.hid hps
    have H8 := Lib.hid h8
    have Hc := Lib.hid hc
    have Hwk := Lib.hid hwk
    clear hp hps h8 hp0 hwk hE hB hv hc hT
    unfold cfgV mostI
    go_enter Try.func19, Try.ntmps19
    go_wp2_with (first
      | (go_at_call 32; refine (callsCheck_any ⟨(s : Nat), sa, lo, hi⟩ _ ps wk _ (Hps.out _) Hc.out Hwk.out h5 h4 H8.out).mono ?_; rw [HE.out]; rintro e w1 ⟨rfl, hb1⟩; have hS1 := keepA (startA w _ _) hb1 rfl; have c0 := hS1.1; have hpw1 := Lib.hid ((Hps.out _).below hb1))
      | (go_at_call 33; refine (steps_any s sa lo hi _ ps _ hpw1.out h0 h1 Hc.out HB.out h5 H8.out).mono ?_; rintro e w2 ⟨rfl, hb2⟩; have hpw2 := Lib.hid (hpw1.out.below hb2))
      | (go_at_call 21; refine (stirs_any _ ps _ hpw2.out h5 H8.out).mono ?_; rintro e w3 ⟨rfl, hb3⟩))
    go_ret2
    exact ⟨rfl, bthen (bthen hS1.2.1 hb2) hb3⟩
  · have hv : mostV c ps wk = .tuple #[.int .i64 0, .int .i64 (progsE c ps wk)] := by rw [mostV, if_neg hE]
    have hq : (progsE c ps wk != 0) = true := by simpa using hE
    rw [hv]
    obtain ⟨st, sa, lo, hi⟩ := c
    have Hps := Lib.hid hps
    have H8 := Lib.hid h8
    have Hc := Lib.hid hc
    have Hwk := Lib.hid hwk
    clear hp hps h8 hp0 hwk hE hv hc
    unfold cfgV
    go_enter Try.func19, Try.ntmps19
    go_wp2_with (go_at_call 32; refine (callsCheck_any ⟨st, sa, lo, hi⟩ _ ps wk _ (Hps.out _) Hc.out Hwk.out h5 h4 H8.out).mono ?_; rintro e w1 ⟨rfl, hb1⟩)
    go_ret2
    exact ⟨rfl, bthen (balloc (Below.refl _ _) _) hb1⟩

end Go.Proofs.Ythfkgffalhkeeaa
