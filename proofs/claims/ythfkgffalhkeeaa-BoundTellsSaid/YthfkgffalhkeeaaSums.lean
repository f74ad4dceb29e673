/- Walks of calls.Steps, bound.Stirs and the references' twins. -/
import Derived.Test.YthfkgffalhkeeaaCallsAt
namespace Go.Proofs.Ythfkgffalhkeeaa
open Go.RowKit Go.Lib

def opsN (s : Nat) (x : CallD) : Nat := if chkC x = 0 then 2 + (innerL s (homeI (s : Nat) x.id) x.kind).length else 2
theorem opsN_le (s : Nat) (h0 : 0 < s) (h1 : s ≤ 64) (x : CallD) : opsN s x ≤ 133 := by
  have := innerL_len s (homeI (s : Nat) x.id) x.kind h0 h1
  unfold opsN
  split <;> omega

def OpsLen (w : World) (n : Nat) (e : Ending) (w' : World) : Prop := ∃ A c, e = .returned (.slice A n c) ∧ Below w.heap.size w w'

theorem opsLen_any (s : Nat) (sa lo hi : Int) (x : CallD) (w : World) (h0 : 0 < s) (h1 : s ≤ 64) (hc : Cfg.ok ⟨(s : Nat), sa, lo, hi⟩) (hx : x.ok) (hB : cfgB ⟨(s : Nat), sa, lo, hi⟩ = true) :
    Calls Try.prog 43 #[cfgV ⟨(s : Nat), sa, lo, hi⟩, callV x] w (OpsLen w (opsN s x)) := by
  by_cases hC : chkC x = 0
  · refine (ops_good s sa lo hi x w h0 h1 hc hx hB hC).mono fun e w' ⟨g, c, he, _, hb⟩ => ⟨some ⟨g, 0, none⟩, c, ?_, hb⟩
    have hl : ([(1, 0)] ++ innerL s (homeI (s : Nat) x.id) x.kind ++ [(7, 0)] : List (Int × Int)).length = opsN s x := by simp [opsN, hC]; omega
    rw [he, hl]
  · refine (ops_bad s sa lo hi x w hc hx hB hC).mono fun e w' ⟨g, c, he, _, hb⟩ => ⟨some ⟨g, 0, none⟩, c, ?_, hb⟩
    rw [he, opsN, if_neg hC]
    rfl
theorem refOpsLen_any (s : Nat) (sa lo hi : Int) (x : CallD) (w : World) (h0 : 0 < s) (h1 : s ≤ 64) (hc : Cfg.ok ⟨(s : Nat), sa, lo, hi⟩) (hx : x.ok) (hB : cfgB ⟨(s : Nat), sa, lo, hi⟩ = true) :
    Calls Try.prog 37 #[cfgV ⟨(s : Nat), sa, lo, hi⟩, callV x] w (OpsLen w (opsN s x)) := by
  by_cases hC : chkC x = 0
  · refine (refOps_good s sa lo hi x w h0 h1 hc hx hB hC).mono fun e w' ⟨g, c, he, _, hb⟩ => ⟨some ⟨g, 0, none⟩, c, ?_, hb⟩
    have hl : ([(1, 0)] ++ innerL s (homeI (s : Nat) x.id) x.kind ++ [(7, 0)] : List (Int × Int)).length = opsN s x := by simp [opsN, hC]; omega
    rw [he, hl]
  · refine (refOps_bad s sa lo hi x w hc hx hB hC).mono fun e w' ⟨g, c, he, _, hb⟩ => ⟨some ⟨g, 0, none⟩, c, ?_, hb⟩
    rw [he, opsN, if_neg hC]
    rfl

/-- The state at the head of a loop over programs. -/
def SumRel (w : World) (cs : Array Value) (wr : World) : Prop :=
  (∀ j, wr.cell? ⟨w.heap.size, j, none⟩ = cs[j]?) ∧ Below w.heap.size w wr ∧ w.heap.size < wr.heap.size

set_option maxRecDepth 100000 in
set_option maxHeartbeats 2000000 in
theorem steps_any (s : Nat) (sa lo hi : Int) (v : Value) (ps : List (List CallD)) (w : World) (hp : ProgsAt w v ps) (h0 : 0 < s) (h1 : s ≤ 64) (hc : Cfg.ok ⟨(s : Nat), sa, lo, hi⟩) (hB : cfgB ⟨(s : Nat), sa, lo, hi⟩ = true) (h5 : ps.length ≤ 5) (h8 : ∀ xs ∈ ps, xs.length ≤ 8) :
    Calls Try.prog 33 #[cfgV ⟨(s : Nat), sa, lo, hi⟩, v] w fun e w' => e = .returned (.int .i64 (sumP (opsN s) ps : Nat)) ∧ Below w.heap.size w w' := by
  obtain ⟨A, cc, rfl, hp0⟩ := id hp
  clear hp0
  have Hp := Lib.hid hp
  have H8 := Lib.hid h8
  have HB := Lib.hid hB
  have Hc := Lib.hid hc
  have hf := Lib.hid (opsN_le s h0 h1)
  clear hp h8 hB hc
  unfold cfgV
  go_enter Try.func33, Try.ntmps33
  go_wp2
  go_loopw [5, 12] (fun n i w' => ∃ k : Nat, k ≤ ps.length ∧ i = .int .i64 k ∧ n = .int .i64 (sumP (opsN s) (ps.take k) : Nat) ∧ SumRel w #[.int .i64 (s : Nat), .int .i64 sa, .int .i64 lo, .int .i64 hi] w') (fun _ i _ => ps.length - (intOf i).toNat)
  case atStart => exact ⟨0, Nat.zero_le _, rfl, rfl, startA w _ _⟩
  case round =>
    obtain ⟨k1, hk1, rfl, rfl, hrel⟩ := hrel
    by_cases hlt1 : k1 < ps.length
    · obtain ⟨wo, rfl⟩ : ∃ wo : World, wo = wr := ⟨_, rfl⟩
      have hpw := Hp.out.below hrel.2.1
      obtain ⟨b, o, A', c', rfl, hb, hcell, hcs⟩ := hpw.at_ hlt1
      have hml : (ps[k1]).length ≤ 8 := H8.out _ (List.getElem_mem hlt1)
      have hsum := Lib.hid (sumP_take (opsN s) ps k1 hlt1)
      have hbd : sumP (opsN s) (ps.take k1) ≤ 5 * (8 * 133) := Nat.le_trans (sumP_le (opsN s) 133 hf.out _ (fun xs hx => H8.out xs (List.mem_of_mem_take hx))) (Nat.mul_le_mul_right _ (by rw [List.length_take]; omega))
      have Hrel := Lib.hid hrel
      have Hcs := Lib.hid hcs
      clear hrel hcs hpw
      generalize hxs : ps[k1] = xs at *
      generalize hS : sumP (opsN s) (ps.take k1) = S at *
      have Hxs := Lib.hid hxs
      clear hxs hS
      go_wp2
      go_loopw [5, 18] (fun n i w' => ∃ k : Nat, k ≤ xs.length ∧ i = .int .i64 k ∧ n = .int .i64 (S + sumC (opsN s) (xs.take k) : Nat) ∧ SumRel w #[.int .i64 (s : Nat), .int .i64 sa, .int .i64 lo, .int .i64 hi] w' ∧ Below wo.heap.size wo w') (fun _ i _ => xs.length - (intOf i).toNat)
      case atStart => exact ⟨0, Nat.zero_le _, rfl, rfl, Hrel.out, Below.refl _ _⟩
      case round =>
        obtain ⟨k, hk, rfl, rfl, hrel, hbo⟩ := hrel
        have c0 := hrel.1
        have hz := hrel.2.2
        by_cases hlt : k < xs.length
        · obtain ⟨bx, ox, rfl, hbx, hxo, hxc⟩ := (Hcs.out.below hbo).at_ hlt
          have hs2 := Lib.hid (sumC_take (opsN s) xs k hlt)
          have hbd2 : sumC (opsN s) (xs.take k) ≤ 8 * 133 := Nat.le_trans (sumC_le (opsN s) 133 hf.out _) (Nat.mul_le_mul_right _ (by rw [List.length_take]; omega))
          have hop := hf.out xs[k]
          generalize xs[k] = x at hxo hxc hs2 hop
          generalize sumC (opsN s) (xs.take k) = S2 at hs2 hbd2 ⊢
          have Hxo := Lib.hid hxo
          have Hrel2 := Lib.hid hrel
          have Hbo := Lib.hid hbo
          have q0 : wr.cell? ⟨bx, ox + k * 11, none⟩ = some (.int .i64 x.kind) := by have := hxc 0 _ rfl; simpa using this
          have q1 : wr.cell? ⟨bx, ox + k * 11 + 1, none⟩ = some (.string x.id) := hxc 1 _ rfl
          have q2 : wr.cell? ⟨bx, ox + k * 11 + 2, none⟩ = some (.int .i64 x.tick) := hxc 2 _ rfl
          have q3 : wr.cell? ⟨bx, ox + k * 11 + 3, none⟩ = some (.int .i64 x.val) := hxc 3 _ rfl
          have q4 : wr.cell? ⟨bx, ox + k * 11 + 4, none⟩ = some (.int .i64 x.handle) := hxc 4 _ rfl
          have q5 : wr.cell? ⟨bx, ox + k * 11 + 5, none⟩ = some (.int .i64 x.pol.mn) := hxc 5 _ rfl
          have q6 : wr.cell? ⟨bx, ox + k * 11 + 6, none⟩ = some (.int .i64 x.pol.mx) := hxc 6 _ rfl
          have q7 : wr.cell? ⟨bx, ox + k * 11 + 7, none⟩ = some (.int .i64 x.pol.tg) := hxc 7 _ rfl
          have q8 : wr.cell? ⟨bx, ox + k * 11 + 8, none⟩ = some (.int .i64 x.pol.tol) := hxc 8 _ rfl
          have q9 : wr.cell? ⟨bx, ox + k * 11 + 9, none⟩ = some (.int .i64 x.pol.win) := hxc 9 _ rfl
          have q10 : wr.cell? ⟨bx, ox + k * 11 + 10, none⟩ = some (.int .i64 x.pol.hold) := hxc 10 _ rfl
          clear hxc hxo hrel hbo
          go_wp2_with (go_at_call 43; refine (opsLen_any s sa lo hi x _ h0 h1 Hc.out Hxo.out HB.out).mono ?_; unfold OpsLen; rintro e w2 ⟨A2, c2, rfl, hb2⟩)
          go_roundw
          case rel =>
            refine ⟨k + 1, hlt, by go_num, ?_, keepA (allocA Hrel2.out _) hb2 rfl, Hbo.out.trans (((Below.refl _ _).alloc (Nat.le_refl _) _ |>.trans (hb2.mono (by simp))).mono Hbo.out.size)⟩
            rw [hs2.out]
            simp
            omega
          case measure => simp [intOf]; omega
        · obtain rfl : xs.length = k := by omega
          go_wp2
          go_roundw
          case rel =>
            refine ⟨k1 + 1, hlt1, by go_num, ?_, hrel⟩
            rw [hsum.out, List.take_length]
          case measure => simp [intOf]; omega
    · obtain rfl : ps.length = k1 := by omega
      have hfin := hrel.2.1
      clear hrel
      go_wp2
      go_ret
      rw [List.take_length]
      exact ⟨rfl, hfin⟩

end Go.Proofs.Ythfkgffalhkeeaa
