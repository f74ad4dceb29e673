/- Walks of flywheelref29.Inner, Ops. -/
import Derived.Test.YthfkgffalhkeeaaRefHome
namespace Go.Proofs.Ythfkgffalhkeeaa
open Go.RowKit Go.Lib

theorem refOp_info : (Try.prog.info? 80).map (fun i => (i.zero, i.size, i.bytes)) = some (some (.agg #[.int .i64 0, .int .i64 0]), 2, 16) := by kernel_rfl

def RInn (w1 : World) (P : List (Int × Int)) (pn : Nat) (kind : Int) (v : Value) (k : Nat) (w' : World) : Prop :=
  w'.ownsRow w1.heap.size 80 2 v (pn + k) (opsV (P ++ allL kind k)) ∧ Below w1.heap.size w1 w'

theorem allL_zero (k : Int) : allL k 0 = [] := rfl
theorem inn_succ (P : List (Int × Int)) (kind : Int) (k : Nat) : opsV (P ++ allL kind k) ++ [.int .i64 kind, .int .i64 (k : Int)] = opsV (P ++ allL kind (k + 1)) := by
  rw [← opsV_app, ← opsV_app, List.append_assoc, allL_succ]

section
variable (s : Nat) (sa lo hi : Int) (id : ByteArray) (tick val handle a b tg tol win hold : Int) (w : World)

set_option maxRecDepth 100000 in
set_option maxHeartbeats 2000000 in
theorem refInner_1 (h0 : 0 < s) (h1 : s ≤ 64) (hid : id.size ≤ maxLen) (hcok : Cfg.ok ⟨(s : Nat), sa, lo, hi⟩) :
    Calls Try.prog 49 #[cfgV ⟨(s : Nat), sa, lo, hi⟩, callV (callK 1 id tick val handle a b tg tol win hold)] w (OpsRet 80 w (innerL s (homeI (s : Nat) id) 1)) := by
  obtain ⟨i0, hi0, hz0, hz1, hz2⟩ := info_parts refOp_info
  have hL : innerL s (homeI (s : Nat) id) 1 = [(3, homeI (s : Nat) id), (4, 0), (5, homeI (s : Nat) id), (3, (s : Int) + 1), (6, 0), (5, (s : Int) + 1)] := by simp [innerL, oneL]
  rw [hL]
  clear hL
  unfold cfgV callV callK
  simp only
  go_enter Try.func49, Try.ntmps49
  go_wp2_with (go_at_call 55; refine (refHome_any ⟨(s : Nat), sa, lo, hi⟩ id _ hid).mono ?_; rintro e w1 ⟨rfl, hb1⟩; have hS1 := keep2c (start2 w _ _ _ _) hb1 rfl; have c0 := hS1.1; have c1 := hS1.2.1; have hq2 : w.heap.size + 2 ≤ w1.heap.size := hS1.2.2.2)
  go_ret
  exact opsRet_mk (World.ownsRow_lit (base := w1.heap.size) w1 #[.int .i64 (3), .int .i64 (homeI (s : Nat) id), .int .i64 (4), .int .i64 (0), .int .i64 (5), .int .i64 (homeI (s : Nat) id), .int .i64 (3), .int .i64 ((s : Int) + 1), .int .i64 (6), .int .i64 (0), .int .i64 (5), .int .i64 ((s : Int) + 1)] 6 (Nat.le_refl _) (by decide) rfl) (balloc hS1.2.2.1 _) rfl rfl (by omega)

set_option maxRecDepth 100000 in
set_option maxHeartbeats 2000000 in
theorem refInner_6 (h0 : 0 < s) (h1 : s ≤ 64) (hid : id.size ≤ maxLen) (hcok : Cfg.ok ⟨(s : Nat), sa, lo, hi⟩) :
    Calls Try.prog 49 #[cfgV ⟨(s : Nat), sa, lo, hi⟩, callV (callK 6 id tick val handle a b tg tol win hold)] w (OpsRet 80 w (innerL s (homeI (s : Nat) id) 6)) := by
  obtain ⟨i0, hi0, hz0, hz1, hz2⟩ := info_parts refOp_info
  have hL : innerL s (homeI (s : Nat) id) 6 = [(3, homeI (s : Nat) id), (4, 0), (5, homeI (s : Nat) id), (3, (s : Int) + 1), (6, 0), (5, (s : Int) + 1)] := by simp [innerL, oneL]
  rw [hL]
  clear hL
  unfold cfgV callV callK
  simp only
  go_enter Try.func49, Try.ntmps49
  go_wp2_with (go_at_call 55; refine (refHome_any ⟨(s : Nat), sa, lo, hi⟩ id _ hid).mono ?_; rintro e w1 ⟨rfl, hb1⟩; have hS1 := keep2c (start2 w _ _ _ _) hb1 rfl; have c0 := hS1.1; have c1 := hS1.2.1; have hq2 : w.heap.size + 2 ≤ w1.heap.size := hS1.2.2.2)
  go_ret
  exact opsRet_mk (World.ownsRow_lit (base := w1.heap.size) w1 #[.int .i64 (3), .int .i64 (homeI (s : Nat) id), .int .i64 (4), .int .i64 (0), .int .i64 (5), .int .i64 (homeI (s : Nat) id), .int .i64 (3), .int .i64 ((s : Int) + 1), .int .i64 (6), .int .i64 (0), .int .i64 (5), .int .i64 ((s : Int) + 1)] 6 (Nat.le_refl _) (by decide) rfl) (balloc hS1.2.2.1 _) rfl rfl (by omega)

set_option maxRecDepth 100000 in
set_option maxHeartbeats 2000000 in
theorem refInner_4 (h0 : 0 < s) (h1 : s ≤ 64) (hid : id.size ≤ maxLen) (hcok : Cfg.ok ⟨(s : Nat), sa, lo, hi⟩) :
    Calls Try.prog 49 #[cfgV ⟨(s : Nat), sa, lo, hi⟩, callV (callK 4 id tick val handle a b tg tol win hold)] w (OpsRet 80 w (innerL s (homeI (s : Nat) id) 4)) := by
  obtain ⟨i0, hi0, hz0, hz1, hz2⟩ := info_parts refOp_info
  have hL : innerL s (homeI (s : Nat) id) 4 = [(3, (s : Int)), (4, 0), (5, (s : Int))] := by simp [innerL, oneL]
  rw [hL]
  clear hL
  unfold cfgV callV callK
  simp only
  go_enter Try.func49, Try.ntmps49
  go_wp2_with (go_at_call 55; refine (refHome_any ⟨(s : Nat), sa, lo, hi⟩ id _ hid).mono ?_; rintro e w1 ⟨rfl, hb1⟩; have hS1 := keep2c (start2 w _ _ _ _) hb1 rfl; have c0 := hS1.1; have c1 := hS1.2.1; have hq2 : w.heap.size + 2 ≤ w1.heap.size := hS1.2.2.2)
  go_ret
  exact opsRet_mk (World.ownsRow_lit (base := w1.heap.size) w1 #[.int .i64 (3), .int .i64 ((s : Int)), .int .i64 (4), .int .i64 (0), .int .i64 (5), .int .i64 ((s : Int))] 3 (Nat.le_refl _) (by decide) rfl) (balloc hS1.2.2.1 _) rfl rfl (by omega)

set_option maxRecDepth 100000 in
set_option maxHeartbeats 2000000 in
theorem refInner_5 (h0 : 0 < s) (h1 : s ≤ 64) (hid : id.size ≤ maxLen) (hcok : Cfg.ok ⟨(s : Nat), sa, lo, hi⟩) :
    Calls Try.prog 49 #[cfgV ⟨(s : Nat), sa, lo, hi⟩, callV (callK 5 id tick val handle a b tg tol win hold)] w (OpsRet 80 w (innerL s (homeI (s : Nat) id) 5)) := by
  obtain ⟨i0, hi0, hz0, hz1, hz2⟩ := info_parts refOp_info
  have hL : innerL s (homeI (s : Nat) id) 5 = [(2, (s : Int)), (4, 0), (5, (s : Int))] := by simp [innerL, oneL]
  rw [hL]
  clear hL
  unfold cfgV callV callK
  simp only
  go_enter Try.func49, Try.ntmps49
  go_wp2_with (go_at_call 55; refine (refHome_any ⟨(s : Nat), sa, lo, hi⟩ id _ hid).mono ?_; rintro e w1 ⟨rfl, hb1⟩; have hS1 := keep2c (start2 w _ _ _ _) hb1 rfl; have c0 := hS1.1; have c1 := hS1.2.1; have hq2 : w.heap.size + 2 ≤ w1.heap.size := hS1.2.2.2)
  go_ret
  exact opsRet_mk (World.ownsRow_lit (base := w1.heap.size) w1 #[.int .i64 (2), .int .i64 ((s : Int)), .int .i64 (4), .int .i64 (0), .int .i64 (5), .int .i64 ((s : Int))] 3 (Nat.le_refl _) (by decide) rfl) (balloc hS1.2.2.1 _) rfl rfl (by omega)

set_option maxRecDepth 100000 in
set_option maxHeartbeats 2000000 in
theorem refInner_7 (h0 : 0 < s) (h1 : s ≤ 64) (hid : id.size ≤ maxLen) (hcok : Cfg.ok ⟨(s : Nat), sa, lo, hi⟩) :
    Calls Try.prog 49 #[cfgV ⟨(s : Nat), sa, lo, hi⟩, callV (callK 7 id tick val handle a b tg tol win hold)] w (OpsRet 80 w (innerL s (homeI (s : Nat) id) 7)) := by
  obtain ⟨i0, hi0, hz0, hz1, hz2⟩ := info_parts refOp_info
  have hL : innerL s (homeI (s : Nat) id) 7 = [(2, homeI (s : Nat) id), (4, 0), (5, homeI (s : Nat) id)] := by simp [innerL, oneL]
  rw [hL]
  clear hL
  unfold cfgV callV callK
  simp only
  go_enter Try.func49, Try.ntmps49
  go_wp2_with (go_at_call 55; refine (refHome_any ⟨(s : Nat), sa, lo, hi⟩ id _ hid).mono ?_; rintro e w1 ⟨rfl, hb1⟩; have hS1 := keep2c (start2 w _ _ _ _) hb1 rfl; have c0 := hS1.1; have c1 := hS1.2.1; have hq2 : w.heap.size + 2 ≤ w1.heap.size := hS1.2.2.2)
  go_ret
  exact opsRet_mk (World.ownsRow_lit (base := w1.heap.size) w1 #[.int .i64 (2), .int .i64 (homeI (s : Nat) id), .int .i64 (4), .int .i64 (0), .int .i64 (5), .int .i64 (homeI (s : Nat) id)] 3 (Nat.le_refl _) (by decide) rfl) (balloc hS1.2.2.1 _) rfl rfl (by omega)

set_option maxRecDepth 100000 in
set_option maxHeartbeats 2000000 in
theorem refInner_no (h0 : 0 < s) (h1 : s ≤ 64) (hid : id.size ≤ maxLen) (hcok : Cfg.ok ⟨(s : Nat), sa, lo, hi⟩) (k : Int) (hk : k ≠ 1 ∧ k ≠ 2 ∧ k ≠ 3 ∧ k ≠ 4 ∧ k ≠ 5 ∧ k ≠ 6 ∧ k ≠ 7) :
    Calls Try.prog 49 #[cfgV ⟨(s : Nat), sa, lo, hi⟩, callV (callK k id tick val handle a b tg tol win hold)] w (OpsRet 80 w (innerL s (homeI (s : Nat) id) k)) := by
  obtain ⟨i0, hi0, hz0, hz1, hz2⟩ := info_parts refOp_info
  have q1 : (k == 1) = false := by simp [hk]
  have q2 : (k == 2) = false := by simp [hk]
  have q3 : (k == 3) = false := by simp [hk]
  have q4 : (k == 4) = false := by simp [hk]
  have q5 : (k == 5) = false := by simp [hk]
  have q6 : (k == 6) = false := by simp [hk]
  have q7 : (k == 7) = false := by simp [hk]
  have hL : innerL s (homeI (s : Nat) id) k = [(3, (s : Int) + 1), (4, 0), (5, (s : Int) + 1)] := by simp [innerL, oneL, hk]
  rw [hL]
  clear hL
  unfold cfgV callV callK
  simp only
  go_enter Try.func49, Try.ntmps49
  go_wp2_with (go_at_call 55; refine (refHome_any ⟨(s : Nat), sa, lo, hi⟩ id _ hid).mono ?_; rintro e w1 ⟨rfl, hb1⟩; have hS1 := keep2c (start2 w _ _ _ _) hb1 rfl; have c0 := hS1.1; have c1 := hS1.2.1; have hq2 : w.heap.size + 2 ≤ w1.heap.size := hS1.2.2.2)
  go_ret
  exact opsRet_mk (World.ownsRow_lit (base := w1.heap.size) w1 #[.int .i64 (3), .int .i64 ((s : Int) + 1), .int .i64 (4), .int .i64 (0), .int .i64 (5), .int .i64 ((s : Int) + 1)] 3 (Nat.le_refl _) (by decide) rfl) (balloc hS1.2.2.1 _) rfl rfl (by omega)

set_option maxRecDepth 100000 in
set_option maxHeartbeats 2000000 in
theorem refInner_2 (h0 : 0 < s) (h1 : s ≤ 64) (hid : id.size ≤ maxLen) (hcok : Cfg.ok ⟨(s : Nat), sa, lo, hi⟩) :
    Calls Try.prog 49 #[cfgV ⟨(s : Nat), sa, lo, hi⟩, callV (callK 2 id tick val handle a b tg tol win hold)] w (OpsRet 80 w (innerL s (homeI (s : Nat) id) 2)) := by
  obtain ⟨i0, hi0, hz0, hz1, hz2⟩ := info_parts refOp_info
  have hL : innerL s (homeI (s : Nat) id) 2 = (allL 3 s ++ [(4, 0)]) ++ allL 5 s := by simp [innerL, oneL]
  rw [hL]
  clear hL
  unfold cfgV callV callK
  simp only
  go_enter Try.func49, Try.ntmps49
  go_wp2_with (go_at_call 55; refine (refHome_any ⟨(s : Nat), sa, lo, hi⟩ id _ hid).mono ?_; rintro e w1 ⟨rfl, hb1⟩; have hS1 := keep2c (start2 w _ _ _ _) hb1 rfl; have c0 := hS1.1; have c1 := hS1.2.1; have hq2 : w.heap.size + 2 ≤ w1.heap.size := hS1.2.2.2)
  go_loopw [7, 8] (fun v i w' => ∃ k : Nat, k ≤ s ∧ i = .int .i64 k ∧ RInn w1 ([] : List (Int × Int)) 0 3 v k w') (fun _ i _ => s - (intOf i).toNat)
  case atStart => exact ⟨0, by omega, rfl, by simpa [allL, opsV] using World.ownsRow_nil _ _ _ _, Below.refl _ _⟩
  case round =>
    obtain ⟨k, hk, rfl, hown, hbI⟩ := hrel
    have hszI := hbI.size
    have hSI := keep2c hS1 hbI rfl
    have d0 := hSI.1
    obtain ⟨A, cp, rfl⟩ := own_form hown
    by_cases hlt : k < s
    · go_wp2_with (at_builtin
                   refine wpList_append_own _ rfl (.tmp 43) (.tmp 46) 67 rfl _ 80 i0 _ 2 16 Try.underlying67 hi0 hz0 hz1 hz2 rfl (by decide) (.slice A (0 + k) cp) (0 + k) (opsV (([] : List (Int × Int)) ++ allL 3 k)) rfl (hown.alloc _) ⟨wr.heap.size, 0, none⟩ 1 1 [.int .i64 3, .int .i64 (k : Int)] rfl rfl (cell_two_new _ _ _ _) (two_int _ _) (by simp only [maxLen]; omega) (by omega) (by simp; omega) ?_
                   intro v' w4 hown4 hgrow _)
      have hl := hown.lt
      go_roundw
      case rel =>
        rw [inn_succ] at hown4
        exact ⟨k + 1, hlt, by go_num, hown4, (hbI.alloc (by omega) _).grown hgrow (by simp; omega) (fun q hq => (hl q hq).1)⟩
      case measure => simp [intOf]; omega
    · obtain rfl : s = k := by omega
      clear hlt hk
      go_wp2_with (at_builtin
                   refine wpList_append_own _ rfl (.tmp 48) (.tmp 50) 67 rfl _ 80 i0 _ 2 16 Try.underlying67 hi0 hz0 hz1 hz2 rfl (by decide) _ (0 + s) _ rfl (hown.alloc _) ⟨_, 0, none⟩ 1 1 [.int .i64 4, .int .i64 0] rfl rfl (cell_two_new _ _ _ _) (two_int _ _) (by simp only [maxLen]; omega) (by omega) (by simp; omega) ?_
                   intro v5 w5 hown5 hgrow5 _)
      have hl5 := hown.lt
      have hb5 : Below w1.heap.size w1 w5 := (hbI.alloc (by omega) _).grown hgrow5 (by simp; omega) (fun q hq => (hl5 q hq).1)
      go_loopw [7, 9] (fun v i w' => ∃ k : Nat, k ≤ s ∧ i = .int .i64 k ∧ RInn w1 (allL 3 s ++ [((4 : Int), (0 : Int))]) (s + 1) 5 v k w') (fun _ i _ => s - (intOf i).toNat)
      case atStart => exact ⟨0, by omega, rfl, by simpa [allL, allL_len, opsV] using hown5, hb5⟩
      case round =>
        obtain ⟨k, hk, rfl, hown, hbI⟩ := hrel
        have hszI := hbI.size
        have hSI := keep2c hS1 hbI rfl
        have d0 := hSI.1
        obtain ⟨A, cp, rfl⟩ := own_form hown
        by_cases hlt : k < s
        · go_wp2_with (at_builtin
                       refine wpList_append_own _ rfl (.tmp 58) (.tmp 61) 67 rfl _ 80 i0 _ 2 16 Try.underlying67 hi0 hz0 hz1 hz2 rfl (by decide) (.slice A ((s + 1) + k) cp) ((s + 1) + k) (opsV ((allL 3 s ++ [((4 : Int), (0 : Int))]) ++ allL 5 k)) rfl (hown.alloc _) ⟨wr.heap.size, 0, none⟩ 1 1 [.int .i64 5, .int .i64 (k : Int)] rfl rfl (cell_two_new _ _ _ _) (two_int _ _) (by simp only [maxLen]; omega) (by omega) (by simp; omega) ?_
                       intro v' w4 hown4 hgrow _)
          have hl := hown.lt
          go_roundw
          case rel =>
            rw [inn_succ] at hown4
            exact ⟨k + 1, hlt, by go_num, hown4, (hbI.alloc (by omega) _).grown hgrow (by simp; omega) (fun q hq => (hl q hq).1)⟩
          case measure => simp [intOf]; omega
        · obtain rfl : s = k := by omega
          clear hlt hk
          obtain ⟨g, cap, hv, hg1, hg2⟩ := hown.form (by omega)
          rw [hv] at hown ⊢
          clear hv
          go_wp2
          go_ret
          exact opsRet_mk hown (hS1.2.2.1.trans (hbI.mono (by omega))) (by simp [allL_len]; omega) (by simp) (by omega)

set_option maxRecDepth 100000 in
set_option maxHeartbeats 2000000 in
theorem refInner_3 (h0 : 0 < s) (h1 : s ≤ 64) (hid : id.size ≤ maxLen) (hcok : Cfg.ok ⟨(s : Nat), sa, lo, hi⟩) :
    Calls Try.prog 49 #[cfgV ⟨(s : Nat), sa, lo, hi⟩, callV (callK 3 id tick val handle a b tg tol win hold)] w (OpsRet 80 w (innerL s (homeI (s : Nat) id) 3)) := by
  obtain ⟨i0, hi0, hz0, hz1, hz2⟩ := info_parts refOp_info
  have hL : innerL s (homeI (s : Nat) id) 3 = (allL 2 s ++ [(3, (s : Int)), (4, 0), (5, (s : Int))]) ++ allL 5 s := by simp [innerL, oneL]
  rw [hL]
  clear hL
  unfold cfgV callV callK
  simp only
  go_enter Try.func49, Try.ntmps49
  go_wp2_with (go_at_call 55; refine (refHome_any ⟨(s : Nat), sa, lo, hi⟩ id _ hid).mono ?_; rintro e w1 ⟨rfl, hb1⟩; have hS1 := keep2c (start2 w _ _ _ _) hb1 rfl; have c0 := hS1.1; have c1 := hS1.2.1; have hq2 : w.heap.size + 2 ≤ w1.heap.size := hS1.2.2.2)
  go_loopw [7, 10] (fun v i w' => ∃ k : Nat, k ≤ s ∧ i = .int .i64 k ∧ RInn w1 ([] : List (Int × Int)) 0 2 v k w') (fun _ i _ => s - (intOf i).toNat)
  case atStart => exact ⟨0, by omega, rfl, by simpa [allL, opsV] using World.ownsRow_nil _ _ _ _, Below.refl _ _⟩
  case round =>
    obtain ⟨k, hk, rfl, hown, hbI⟩ := hrel
    have hszI := hbI.size
    have hSI := keep2c hS1 hbI rfl
    have d0 := hSI.1
    obtain ⟨A, cp, rfl⟩ := own_form hown
    by_cases hlt : k < s
    · go_wp2_with (at_builtin
                   refine wpList_append_own _ rfl (.tmp 72) (.tmp 75) 67 rfl _ 80 i0 _ 2 16 Try.underlying67 hi0 hz0 hz1 hz2 rfl (by decide) (.slice A (0 + k) cp) (0 + k) (opsV (([] : List (Int × Int)) ++ allL 2 k)) rfl (hown.alloc _) ⟨wr.heap.size, 0, none⟩ 1 1 [.int .i64 2, .int .i64 (k : Int)] rfl rfl (cell_two_new _ _ _ _) (two_int _ _) (by simp only [maxLen]; omega) (by omega) (by simp; omega) ?_
                   intro v' w4 hown4 hgrow _)
      have hl := hown.lt
      go_roundw
      case rel =>
        rw [inn_succ] at hown4
        exact ⟨k + 1, hlt, by go_num, hown4, (hbI.alloc (by omega) _).grown hgrow (by simp; omega) (fun q hq => (hl q hq).1)⟩
      case measure => simp [intOf]; omega
    · obtain rfl : s = k := by omega
      clear hlt hk
      go_wp2_with (at_builtin
                   refine wpList_append_own _ rfl (.tmp 77) (.tmp 85) 67 rfl _ 80 i0 _ 2 16 Try.underlying67 hi0 hz0 hz1 hz2 rfl (by decide) _ (0 + s) _ rfl (hown.alloc _) ⟨_, 0, none⟩ 3 3 [.int .i64 3, .int .i64 (s : Nat), .int .i64 4, .int .i64 0, .int .i64 5, .int .i64 (s : Nat)] rfl rfl (World.news_of_block (heap_alloc_new _ _)) (opsV_one [(3, (s : Int)), (4, 0), (5, (s : Int))]) (by simp only [maxLen]; omega) (by omega) (by simp; omega) ?_
                   intro v5 w5 hown5 hgrow5 _)
      have hl5 := hown.lt
      have hb5 : Below w1.heap.size w1 w5 := (hbI.alloc (by omega) _).grown hgrow5 (by simp; omega) (fun q hq => (hl5 q hq).1)
      go_loopw [7, 11] (fun v i w' => ∃ k : Nat, k ≤ s ∧ i = .int .i64 k ∧ RInn w1 (allL 2 s ++ [(3, (s : Int)), (4, 0), (5, (s : Int))]) (s + 3) 5 v k w') (fun _ i _ => s - (intOf i).toNat)
      case atStart => exact ⟨0, by omega, rfl, by simpa [allL, allL_len, opsV] using hown5, hb5⟩
      case round =>
        obtain ⟨k, hk, rfl, hown, hbI⟩ := hrel
        have hszI := hbI.size
        have hSI := keep2c hS1 hbI rfl
        have d0 := hSI.1
        obtain ⟨A, cp, rfl⟩ := own_form hown
        by_cases hlt : k < s
        · go_wp2_with (at_builtin
                       refine wpList_append_own _ rfl (.tmp 93) (.tmp 96) 67 rfl _ 80 i0 _ 2 16 Try.underlying67 hi0 hz0 hz1 hz2 rfl (by decide) (.slice A ((s + 3) + k) cp) ((s + 3) + k) (opsV ((allL 2 s ++ [(3, (s : Int)), (4, 0), (5, (s : Int))]) ++ allL 5 k)) rfl (hown.alloc _) ⟨wr.heap.size, 0, none⟩ 1 1 [.int .i64 5, .int .i64 (k : Int)] rfl rfl (cell_two_new _ _ _ _) (two_int _ _) (by simp only [maxLen]; omega) (by omega) (by simp; omega) ?_
                       intro v' w4 hown4 hgrow _)
          have hl := hown.lt
          go_roundw
          case rel =>
            rw [inn_succ] at hown4
            exact ⟨k + 1, hlt, by go_num, hown4, (hbI.alloc (by omega) _).grown hgrow (by simp; omega) (fun q hq => (hl q hq).1)⟩
          case measure => simp [intOf]; omega
        · obtain rfl : s = k := by omega
          clear hlt hk
          obtain ⟨g, cap, hv, hg1, hg2⟩ := hown.form (by omega)
          rw [hv] at hown ⊢
          clear hv
          go_wp2
          go_ret
          exact opsRet_mk hown (hS1.2.2.1.trans (hbI.mono (by omega))) (by simp [allL_len]; omega) (by simp) (by omega)


end
end Go.Proofs.Ythfkgffalhkeeaa
