/- The reference's Last, walked. -/
import Derived.Test.YtfnabpmdjfejbaaBLast
namespace Go.Proofs.Ytfnabpmdjfejbaa
set_option linter.unusedSimpArgs false
set_option linter.unusedVariables false
open Go.RowKit Go.Lib

theorem bytes_inj2 {s t : ByteArray} (h : s.data.toList = t.data.toList) : s = t := by
  cases s
  cases t
  simp only at h
  rw [Array.toList_inj.1 h]
theorem str_ne {s t : ByteArray} (h : ¬ s = t) : (s.toList == t.toList) = false := by
  rw [beq_eq_false_iff_ne, ne_eq]
  intro e
  rw [ByteArray.toList_eq, ByteArray.toList_eq] at e
  exact h (bytes_inj2 e)

set_option maxRecDepth 100000 in
set_option maxHeartbeats 4000000 in
theorem rlast_any (v : Value) (l : List CallD) (w : World) (hv : RowIn 11 callCells w v l) (hok : ∀ p ∈ l, p.ok) (hl : l.length ≤ 1000000) :
    Calls Try.prog 28 #[v] w (LaysC w (lastR l)) := by
  obtain ⟨A, c, rfl⟩ := hv.form
  cases hf : fineB l with
  | false =>
    have HF := Lib.hid hf
    have HV := Lib.hid hv
    clear hf hv
    go_enter Try.func28, Try.ntmps28
    go_wp2_with (go_at_call 25; refine (rfine_any _ l _ HV.out hok hl).mono ?_; rw [HF.out]; rintro e w1 ⟨rfl, hb1⟩)
    go_ret
    exact ⟨_, rfl, by rw [lastR, if_neg (by rw [HF.out]; simp)]; exact OwnL.nil _ _, hb1⟩
  | true =>
    have HF := Lib.hid hf
    have HV := Lib.hid hv
    have HO := Lib.hid hok
    clear hf hv
    go_enter Try.func28, Try.ntmps28
    go_wp2_with (go_at_call 25; refine (rfine_any _ l _ HV.out hok hl).mono ?_; rw [HF.out]; rintro e w1 ⟨rfl, hb1⟩)
    clear hok
    go_loopg [3, 4] l.length (fun g s3 s4 wr => ∃ k : Nat, k ≤ l.length ∧ l.length - k ≤ g ∧ s4 = .int .i64 k ∧ Below w.heap.size w wr ∧ OwnL callCells 102 11 w.heap.size wr s3 (lastP l k))
    case atStart => exact ⟨0, Nat.zero_le _, Nat.le_refl _, rfl, hb1, OwnL.nil _ _⟩
    case round =>
      obtain ⟨k, hk, hg, rfl, hb, hown⟩ := hrel
      obtain ⟨wo, rfl⟩ : ∃ wo, wo = wr := ⟨_, rfl⟩
      obtain ⟨A3, c3, rfl⟩ := hown.form
      have Ho := Lib.hid hown
      have hP := lastP_len l k
      clear hown
      by_cases hlt : k < l.length
      · obtain ⟨b, o, rfl, hbl, hc⟩ := calls_at HV.out hlt
        have HC := Lib.hid hc
        have H1 := Lib.hid (fun h => lastP_skip hlt h)
        have H2 := Lib.hid (fun h => lastP_keep hlt h)
        have HZ := Lib.hid (later_zero l l[k] (k + 1))
        have HS := Lib.hid (fun m (h1 : k + 1 ≤ m) (h2 : m < l.length) => later_succ l l[k] (k + 1) m h1 h2)
        have HCm := Lib.hid (fun m (hm : m < l.length) W (hW : Below w.heap.size w W) => (show CallIn W b (o + m * 11) l[m] from by
          obtain ⟨b', o', e, _, h⟩ := calls_at HV.out hm
          injection e with e
          injection e with e1 e2
          subst e1 e2
          exact h W hW))
        clear hc
        generalize l[k] = x at HC H1 H2 HZ HS
        have hk0 : (0 : Int) ≤ (k : Int) := by omega
        have hk1 : (k : Int) < (l.length : Int) := by omega
        have hme : l.length - (k + 1) < l.length - k := by omega
        go_wp2
        go_loopg [5, 6] l.length (fun g s5 s6 wr => ∃ m : Nat, k + 1 ≤ m ∧ m ≤ l.length ∧ l.length - m ≤ g ∧ s6 = .int .i64 m ∧ s5 = .bool (!later l x (k + 1) m) ∧ Below wo.heap.size wo wr)
        case atStart => exact ⟨k + 1, Nat.le_refl _, hlt, by omega, by go_num, by rw [HZ.out]; rfl, Below.refl _ _⟩
        case round =>
          obtain ⟨m, hm0, hm, hgm, rfl, rfl, hbi⟩ := hrel
          by_cases hml : m < l.length
          · obtain ⟨q0, q1, q2, q3, q4, q5, q6, q7, q8, q9, q10⟩ := HC.out _ (bthen hb hbi)
            obtain ⟨p0, p1, p2, p3, p4, p5, p6, p7, p8, p9, p10⟩ := HCm.out m hml _ (bthen hb hbi)
            have Hs := Lib.hid (HS.out m hm0 hml)
            clear q0 q3 q4 q5 q6 q7 q8 q9 q10 p0 p3 p4 p5 p6 p7 p8 p9 p10
            generalize l[m] = y at p1 p2 Hs
            have hm1 : (0 : Int) ≤ (m : Int) := by omega
            have hm2 : (m : Int) < (l.length : Int) := by omega
            by_cases e1 : y.id = x.id
            · by_cases e2 : y.tick = x.tick
              · have H3 : sp y x = true := (sp_iff _ _).2 ⟨e1, e2⟩
                have HH := Lib.hid H3
                rw [e1] at p1
                rw [e2] at p2
                clear e1 e2 H3
                go_wp2_with fail
                go_quiet (fail)
                go_wp2
                go_roundg (l.length - (m + 1))
                case measure => omega
                case rel => exact ⟨m + 1, by omega, hml, Nat.le_refl _, by go_num, by rw [Hs.out, HH.out]; simp, below_drewN hbi _⟩
              · have H3 : sp y x = false := by simp [sp, e2]
                have HH := Lib.hid H3
                have e3 : (y.tick == x.tick) = false := by simpa using e2
                rw [e1] at p1
                clear e1 e2 H3
                go_wp2_with fail
                go_quiet (fail)
                go_wp2
                go_roundg (l.length - (m + 1))
                case measure => omega
                case rel => exact ⟨m + 1, by omega, hml, Nat.le_refl _, by go_num, by rw [Hs.out, HH.out]; simp, below_drewN hbi _⟩
            · have H3 : sp y x = false := by simp [sp, e1]
              have HH := Lib.hid H3
              have e3 : (y.id.toList == x.id.toList) = false := str_ne e1
              clear e1 H3
              go_wp2_with fail
              go_quiet (fail)
              go_wp2
              go_roundg (l.length - (m + 1))
              case measure => omega
              case rel => exact ⟨m + 1, by omega, hml, Nat.le_refl _, by go_num, by rw [Hs.out, HH.out]; simp, below_drewN hbi _⟩
          · obtain rfl : m = l.length := by omega
            cases hlat : later l x (k + 1) l.length with
            | true =>
              have H3 := Lib.hid (H1.out hlat)
              clear hlat
              go_wp2
              go_roundg (l.length - (k + 1))
              case measure => omega
              case rel => exact ⟨k + 1, hlt, Nat.le_refl _, by go_num, bthen hb hbi, by rw [H3.out]; exact Ho.out.below hbi⟩
            | false =>
              have H3 := Lib.hid (H2.out hlat)
              clear hlat
              have hq1 : ∀ W, Below w.heap.size w W → W.cell? ⟨b, o + k * 11 + 1, none⟩ = some (.string x.id) := fun W h => (HC.out W h).2.1
              have hq2 : ∀ W, Below w.heap.size w W → W.cell? ⟨b, o + k * 11 + 2, none⟩ = some (.int .i64 x.tick) := fun W h => (HC.out W h).2.2.1
              have hq3 : ∀ W, Below w.heap.size w W → W.cell? ⟨b, o + k * 11 + 3, none⟩ = some (.int .i64 x.val) := fun W h => (HC.out W h).2.2.2.1
              have hbwr := bthen hb hbi
              have hbd := hbwr.drew
              go_wp2_with fail
              go_region_held3 (fun W => Below w.heap.size w W) (first | assumption | exact balloc (by assumption) _ | exact Below.drew (by assumption))
                ((refine step_appendL eCall (by rfl) _ _ (by rfl) w.heap.size (lastP l k) [norm x] _ _ (by rfl) (by rfl) (Ho.out.below (bthen hbi (by repeat (first | exact Below.refl _ _ | refine balloc ?_ _ | refine Below.drew ?_)))) (RowIn.lit _ (norm x) _ _ _ (by rfl) rfl) (by simp; omega) (by have := hbwr.size; simp; omega) ?_; intro out4 A4 c4 w4 hout hown4 hg4 _; have Hout := Lib.hid hout; have Ho4 := Lib.hid hown4; have Hg4 := Lib.hid hg4; have hb4 : Below w.heap.size w w4 := (by repeat (first | exact hbwr | refine balloc ?_ _ | refine Below.drew ?_) : Below w.heap.size w _).trans (grown_own Hg4.out Ho.out (by have := hbwr.size; simp; omega)); clear hout hown4 hg4))
              go_wp2
              go_roundg (l.length - (k + 1))
              case measure => omega
              case rel => exact ⟨k + 1, hlt, Nat.le_refl _, by go_num, hb4, by rw [H3.out, ← Hout.out]; exact Ho4.out⟩
      · obtain rfl : k = l.length := by omega
        go_wp2
        go_ret
        exact ⟨_, rfl, by rw [lastR, if_pos HF.out]; exact Ho.out, hb⟩
end Go.Proofs.Ytfnabpmdjfejbaa
