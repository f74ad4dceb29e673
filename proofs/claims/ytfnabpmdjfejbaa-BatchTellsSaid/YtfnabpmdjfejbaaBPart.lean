/- The reference's Same and Part. -/
import Derived.Test.YtfnabpmdjfejbaaBSort3
import Derived.IntWalk
namespace Go.Proofs.Ytfnabpmdjfejbaa
set_option linter.unusedSimpArgs false
set_option linter.unusedVariables false
open Go.RowKit Go.Lib

set_option maxRecDepth 100000 in
set_option maxHeartbeats 2000000 in
theorem csame_self (va vb : Value) (l : List CallD) (w : World) (ha : RowIn 11 callCells w va l) (hb : RowIn 11 callCells w vb l) (hl : l.length ≤ 1000000) :
    Calls Try.prog 26 #[va, vb] w (RetB w true) := by
  obtain ⟨A, c, rfl⟩ := ha.form
  obtain ⟨A', c', rfl⟩ := hb.form
  have HA := Lib.hid ha
  have HB := Lib.hid hb
  clear ha hb
  go_enter Try.func26, Try.ntmps26
  go_wp2
  go_loopg [5] l.length (fun g s5 wr => ∃ k n : Nat, k ≤ l.length ∧ l.length - k ≤ g ∧ s5 = .int .i64 k ∧ wr = w.drewN n)
  case atStart => exact ⟨0, 0, Nat.zero_le _, Nat.le_refl _, rfl, rfl⟩
  case round =>
    obtain ⟨k, n, hk, hg, rfl, rfl⟩ := hrel
    by_cases hlt : k < l.length
    · obtain ⟨b, o, rfl, hbl, hc⟩ := calls_at HA.out hlt
      obtain ⟨b2, o2, rfl, hbl2, hc2⟩ := calls_at HB.out hlt
      obtain ⟨q0, q1, q2, q3, q4, q5, q6, q7, q8, q9, q10⟩ := hc w (Below.refl _ _)
      obtain ⟨p0, p1, p2, p3, p4, p5, p6, p7, p8, p9, p10⟩ := hc2 w (Below.refl _ _)
      clear hc hc2
      generalize l[k] = x at q0 q1 q2 q3 q4 q5 q6 q7 q8 q9 q10 p0 p1 p2 p3 p4 p5 p6 p7 p8 p9 p10
      have hk0 : (0 : Int) ≤ (k : Int) := by omega
      have hk1 : (k : Int) < (l.length : Int) := by omega
      go_wp2_with fail
      go_quiet (fail)
      go_wp2
      go_roundg (l.length - (k + 1))
      case measure => omega
      case rel => exact ⟨k + 1, _, hlt, Nat.le_refl _, by go_num, rfl⟩
    · obtain rfl : k = l.length := by omega
      go_wp2
      go_ret
      exact ⟨rfl, below_drewN (Below.refl _ _) _⟩

/-- Which id's turn it is. -/
def gIdx (s : List CallD) : Nat → Nat
  | 0 => 0
  | i + 1 => gIdx s i + if (s[i + 1]?).map (·.id) = (s[i]?).map (·.id) then 0 else 1
theorem gIdx_le (s : List CallD) : ∀ i, gIdx s i ≤ i
  | 0 => Nat.le_refl _
  | i + 1 => by
    have := gIdx_le s i
    rw [gIdx]
    split <;> omega
theorem gIdx_step (s : List CallD) {k p : Nat} (hp : p + 1 = k) (h : k < s.length) (h' : p < s.length) : gIdx s k = gIdx s p + if (s[k]).id = (s[p]).id then 0 else 1 := by
  subst hp
  rw [gIdx, List.getElem?_eq_getElem h, List.getElem?_eq_getElem h']
  simp
/-- The samples of a part among the first k. -/
def partP (s : List CallD) (n i : Nat) : Nat → List CallD
  | 0 => []
  | k + 1 => partP s n i k ++ (if h : k < s.length then (if gIdx s k % n = i then [s[k]] else []) else [])
def partL (s : List CallD) (n i : Nat) : List CallD := partP s n i s.length
theorem partP_in {s : List CallD} {n i k : Nat} (h : k < s.length) (e : gIdx s k % n = i) : partP s n i (k + 1) = partP s n i k ++ [s[k]] := by simp [partP, h, e]
theorem partP_out {s : List CallD} {n i k : Nat} (h : k < s.length) (e : ¬ gIdx s k % n = i) : partP s n i (k + 1) = partP s n i k := by simp [partP, h, e]
theorem partP_len (s : List CallD) (n i : Nat) : ∀ k, (partP s n i k).length ≤ k
  | 0 => Nat.le_refl _
  | k + 1 => by
    have := partP_len s n i k
    rw [partP, List.length_append]
    split
    · split
      · simp; omega
      · simp; omega
    · simp; omega

set_option maxRecDepth 100000 in
set_option maxHeartbeats 4000000 in
theorem rpart_any (v : Value) (l : List CallD) (n i : Nat) (w : World) (hv : RowIn 11 callCells w v l) (hok : ∀ p ∈ l, p.ok) (hl : l.length ≤ 1000000) (hn : 0 < n) (hn2 : n ≤ 32) (hi : i < n) :
    Calls Try.prog 32 #[v, .int .i64 n, .int .i64 i] w (LaysC w (partL (sortR l) n i)) := by
  obtain ⟨A, c, rfl⟩ := hv.form
  have hlen := sortR_len l
  have HL := Lib.hid (rsort_any _ l w hv hok hl)
  unfold partL
  generalize sortR l = s at hlen HL
  clear hv hok
  go_enter Try.func32, Try.ntmps32
  go_wp2_with (go_at_call 30; refine HL.out.mono ?_; rintro e w1 ⟨v1, rfl, ho1, hb1⟩; obtain ⟨A1, c1, rfl⟩ := ho1.form; have HV := Lib.hid (ho1.row eCall); clear ho1)
  go_loopg [7, 9, 10] s.length (fun g s7 s9 s10 wr => ∃ k : Nat, k ≤ s.length ∧ s.length - k ≤ g ∧ s10 = .int .i64 k ∧ s9 = .int .i64 (gIdx s (k - 1) : Nat) ∧ Below w1.heap.size w1 wr ∧ OwnL callCells 102 11 w1.heap.size wr s7 (partP s n i k))
  case atStart => exact ⟨0, Nat.zero_le _, Nat.le_refl _, rfl, rfl, Below.refl _ _, OwnL.nil _ _⟩
  case round =>
    obtain ⟨k, hk, hg, rfl, rfl, hb, hown⟩ := hrel
    obtain ⟨A7, c7, rfl⟩ := hown.form
    have HO := Lib.hid hown
    have hpl := partP_len s n i k
    clear hown
    by_cases hlt : k < s.length
    · obtain ⟨b, o, rfl, hbl, hc⟩ := calls_at HV.out hlt
      have HC := Lib.hid hc
      obtain ⟨q0, q1, q2, q3, q4, q5, q6, q7, q8, q9, q10⟩ := hc wr hb
      clear hc
      have HIN := Lib.hid (fun e => partP_in (n := n) (i := i) hlt e)
      have HOUT := Lib.hid (fun e => partP_out (n := n) (i := i) hlt e)
      have hk0 : (0 : Int) ≤ (k : Int) := by omega
      have hk1 : (k : Int) < (s.length : Int) := by omega
      have hgl := gIdx_le s k
      have hgl2 := gIdx_le s (k - 1)
      obtain ⟨X, hX⟩ : ∃ X, X = s[k] := ⟨_, rfl⟩
      have HXe := Lib.hid hX
      rw [← hX] at q0 q1 q2 q3 q4 q5 q6 q7 q8 q9 q10 HIN
      clear hX HC
      have hn0 : (0 : Int) < (n : Int) := by omega
      obtain ⟨g0, hg0⟩ : ∃ g0, g0 = gIdx s (k - 1) := ⟨_, rfl⟩
      rw [← hg0] at hgl2 ⊢
      have HG0 := Lib.hid hg0
      clear hg0
      by_cases h0 : k = 0
      · have h00 : decide (0 < k) = false := by simp; omega
        have h01 : ¬ (0 : Int) < (k : Int) := by omega
        have HG := Lib.hid (show gIdx s k = g0 from by rw [HG0.out, h0])
        clear h0
        have hgr : (g0 : Int) % (n : Int) = ((gIdx s k % n : Nat) : Int) := by rw [HG.out]; first | omega | simp [Int.natCast_emod]
        by_cases hin : gIdx s k % n = i
        · have HE := Lib.hid (HIN.out hin)
          have hq : (((g0 : Int) % (n : Int)) == (i : Int)) = true := by rw [hgr, hin]; simp
          clear hin hgr
          go_wp2_with fail
          go_quiet (fail)
          go_wp2_with (first
            | (at_builtin; refine wpList_appendL eCall (by rfl) (s := .tmp 42) (x := .tmp 47) (by rfl) w1.heap.size (partP s n i k) [X] _ _ (by rfl) (by rfl) ((HO.out.below (below_drewN (Below.refl _ _) _)).below (balloc (Below.refl _ _) _)) (RowIn.lit (wr.drewN nq) X _ _ _ (by rfl) rfl) (by simp; omega) (by have := hb.size; simp; omega) ?_; intro out7 A8 c8 w7 hout7 hown7 hg7 _; have Hout := Lib.hid hout7; have HW7 := Lib.hid hown7; have Hg7 := Lib.hid hg7; clear hout7 hown7 hg7))
          go_roundg (s.length - (k + 1))
          case measure => omega
          case rel => exact ⟨k + 1, hlt, Nat.le_refl _, by go_num, by rw [Nat.add_sub_cancel, HG.out]; (try go_num), (balloc' (bthen hb (below_drewN (Below.refl _ _) _)) _).trans (grown_own Hg7.out HO.out (by have := hb.size; simp; omega)), by rw [HE.out, ← Hout.out]; exact HW7.out⟩
        · have HE := Lib.hid (HOUT.out hin)
          have hq : (((g0 : Int) % (n : Int)) == (i : Int)) = false := by rw [hgr]; simp; omega
          clear hin hgr
          go_wp2_with fail
          go_quiet (fail)
          go_wp2
          go_roundg (s.length - (k + 1))
          case measure => omega
          case rel => exact ⟨k + 1, hlt, Nat.le_refl _, by go_num, by rw [Nat.add_sub_cancel, HG.out]; (try go_num), bthen hb (below_drewN (Below.refl _ _) _), by rw [HE.out]; exact HO.out.below (below_drewN (Below.refl _ _) _)⟩
      · have h00 : decide (0 < k) = true := by simp; omega
        have h01 : (0 : Int) < (k : Int) := by omega
        obtain ⟨p, hp⟩ : ∃ p, p = k - 1 := ⟨_, rfl⟩
        have hpl2 : p < s.length := by omega
        have hw : IntKind.i64.wrap ((k : Int) - 1) = (p : Int) := by
          have : (k : Int) - 1 = (p : Int) := by omega
          rw [this]; exact IntWalk.i64_in _ (by omega)
        have hp0 : (0 : Int) ≤ (p : Int) := by omega
        have hp1 : (p : Int) < (s.length : Int) := by omega
        obtain ⟨b2, o2, e2, _, hc2⟩ := calls_at HV.out hpl2
        injection e2 with e2
        injection e2 with e2 e3
        subst e2 e3
        obtain ⟨_, p1, _⟩ := hc2 wr hb
        have hst := gIdx_step s (by omega : p + 1 = k) hlt hpl2
        have hgp : gIdx s p = g0 := by rw [HG0.out, hp]
        rw [← HXe.out, hgp] at hst
        clear hc2 h0 hgp
        generalize s[p] = Y at p1 hst
        have hpk := Lib.hid hp
        clear hp
        by_cases e1 : X.id = Y.id
        · have HG := Lib.hid (show gIdx s k = g0 from by rw [hst, if_pos e1]; rfl)
          rw [← e1] at p1
          clear e1 hst
          have hgr : (g0 : Int) % (n : Int) = ((gIdx s k % n : Nat) : Int) := by rw [HG.out]; first | omega | simp [Int.natCast_emod]
          by_cases hin : gIdx s k % n = i
          · have HE := Lib.hid (HIN.out hin)
            have hq : (((g0 : Int) % (n : Int)) == (i : Int)) = true := by rw [hgr, hin]; simp
            clear hin hgr
            go_wp2_with fail
            go_quiet (fail)
            go_wp2_with (first
              | (at_builtin; refine wpList_appendL eCall (by rfl) (s := .tmp 42) (x := .tmp 47) (by rfl) w1.heap.size (partP s n i k) [X] _ _ (by rfl) (by rfl) ((HO.out.below (below_drewN (Below.refl _ _) _)).below (balloc (Below.refl _ _) _)) (RowIn.lit (wr.drewN nq) X _ _ _ (by rfl) rfl) (by simp; omega) (by have := hb.size; simp; omega) ?_; intro out7 A8 c8 w7 hout7 hown7 hg7 _; have Hout := Lib.hid hout7; have HW7 := Lib.hid hown7; have Hg7 := Lib.hid hg7; clear hout7 hown7 hg7))
            go_roundg (s.length - (k + 1))
            case measure => omega
            case rel => exact ⟨k + 1, hlt, Nat.le_refl _, by go_num, by rw [Nat.add_sub_cancel, HG.out]; (try go_num), (balloc' (bthen hb (below_drewN (Below.refl _ _) _)) _).trans (grown_own Hg7.out HO.out (by have := hb.size; simp; omega)), by rw [HE.out, ← Hout.out]; exact HW7.out⟩
          · have HE := Lib.hid (HOUT.out hin)
            have hq : (((g0 : Int) % (n : Int)) == (i : Int)) = false := by rw [hgr]; simp; omega
            clear hin hgr
            go_wp2_with fail
            go_quiet (fail)
            go_wp2
            go_roundg (s.length - (k + 1))
            case measure => omega
            case rel => exact ⟨k + 1, hlt, Nat.le_refl _, by go_num, by rw [Nat.add_sub_cancel, HG.out]; (try go_num), bthen hb (below_drewN (Below.refl _ _) _), by rw [HE.out]; exact HO.out.below (below_drewN (Below.refl _ _) _)⟩
        · have HG := Lib.hid (show gIdx s k = g0 + 1 from by rw [hst, if_neg e1])
          have e3 := str_ne e1
          have e4 : (X.id.toList != Y.id.toList) = true := by simp [bne, e3]
          clear e1 hst
          have hgr : ((g0 : Int) + 1) % (n : Int) = ((gIdx s k % n : Nat) : Int) := by rw [HG.out]; first | omega | simp [Int.natCast_emod]
          by_cases hin : gIdx s k % n = i
          · have HE := Lib.hid (HIN.out hin)
            have hq : ((((g0 : Int) + 1) % (n : Int)) == (i : Int)) = true := by rw [hgr, hin]; simp
            clear hin hgr
            go_wp2_with fail
            go_quiet (fail)
            go_wp2_with (first
              | (at_builtin; refine wpList_appendL eCall (by rfl) (s := .tmp 42) (x := .tmp 47) (by rfl) w1.heap.size (partP s n i k) [X] _ _ (by rfl) (by rfl) ((HO.out.below (below_drewN (Below.refl _ _) _)).below (balloc (Below.refl _ _) _)) (RowIn.lit (wr.drewN nq) X _ _ _ (by rfl) rfl) (by simp; omega) (by have := hb.size; simp; omega) ?_; intro out7 A8 c8 w7 hout7 hown7 hg7 _; have Hout := Lib.hid hout7; have HW7 := Lib.hid hown7; have Hg7 := Lib.hid hg7; clear hout7 hown7 hg7))
            go_roundg (s.length - (k + 1))
            case measure => omega
            case rel => exact ⟨k + 1, hlt, Nat.le_refl _, by go_num, by rw [Nat.add_sub_cancel, HG.out]; (try go_num), (balloc' (bthen hb (below_drewN (Below.refl _ _) _)) _).trans (grown_own Hg7.out HO.out (by have := hb.size; simp; omega)), by rw [HE.out, ← Hout.out]; exact HW7.out⟩
          · have HE := Lib.hid (HOUT.out hin)
            have hq : ((((g0 : Int) + 1) % (n : Int)) == (i : Int)) = false := by rw [hgr]; simp; omega
            clear hin hgr
            go_wp2_with fail
            go_quiet (fail)
            go_wp2
            go_roundg (s.length - (k + 1))
            case measure => omega
            case rel => exact ⟨k + 1, hlt, Nat.le_refl _, by go_num, by rw [Nat.add_sub_cancel, HG.out]; (try go_num), bthen hb (below_drewN (Below.refl _ _) _), by rw [HE.out]; exact HO.out.below (below_drewN (Below.refl _ _) _)⟩
    · obtain rfl : k = s.length := by omega
      go_wp2
      go_ret
      exact ⟨_, rfl, HO.out.lower hb1.size, bthen hb1 hb⟩
end Go.Proofs.Ytfnabpmdjfejbaa
