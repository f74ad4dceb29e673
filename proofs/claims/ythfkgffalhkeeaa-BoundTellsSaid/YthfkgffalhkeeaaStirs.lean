/- Walks of bound.Stirs and flywheelref39.Stirs. -/
import Derived.Test.YthfkgffalhkeeaaSums
namespace Go.Proofs.Ythfkgffalhkeeaa
open Go.RowKit Go.Lib

def stirN (x : CallD) : Nat := if (x.kind = 1 ∨ x.kind = 6) ∧ chkC x = 0 then 1 else 0
theorem stirN_le (x : CallD) : stirN x ≤ 1 := by unfold stirN; split <;> omega

set_option maxRecDepth 100000 in
set_option maxHeartbeats 2000000 in
theorem stirs_any (v : Value) (ps : List (List CallD)) (w : World) (hp : ProgsAt w v ps) (h5 : ps.length ≤ 5) (h8 : ∀ xs ∈ ps, xs.length ≤ 8) :
    Calls Try.prog 21 #[v] w fun e w' => e = .returned (.int .i64 (sumP stirN ps : Nat)) ∧ Below w.heap.size w w' := by
  obtain ⟨A, cc, rfl, hp0⟩ := id hp
  clear hp0
  have Hp := Lib.hid hp
  have H8 := Lib.hid h8
  have hf := Lib.hid stirN_le
  clear hp h8
  go_enter Try.func21, Try.ntmps21
  go_wp2
  go_loopw [3, 10] (fun n i w' => ∃ k : Nat, k ≤ ps.length ∧ i = .int .i64 k ∧ n = .int .i64 (sumP stirN (ps.take k) : Nat) ∧ Below w.heap.size w w') (fun _ i _ => ps.length - (intOf i).toNat)
  case atStart => exact ⟨0, Nat.zero_le _, rfl, rfl, Below.refl _ _⟩
  case round =>
    obtain ⟨k1, hk1, rfl, rfl, hrel⟩ := hrel
    by_cases hlt1 : k1 < ps.length
    · obtain ⟨wo, rfl⟩ : ∃ wo : World, wo = wr := ⟨_, rfl⟩
      have hpw := Hp.out.below hrel
      obtain ⟨b, o, A', c', rfl, hb, hcell, hcs⟩ := hpw.at_ hlt1
      have hml : (ps[k1]).length ≤ 8 := H8.out _ (List.getElem_mem hlt1)
      have hsum := Lib.hid (sumP_take stirN ps k1 hlt1)
      have hbd : sumP stirN (ps.take k1) ≤ 5 * (8 * 1) := Nat.le_trans (sumP_le stirN 1 hf.out _ (fun xs hx => H8.out xs (List.mem_of_mem_take hx))) (Nat.mul_le_mul_right _ (by rw [List.length_take]; omega))
      have Hrel := Lib.hid hrel
      have Hcs := Lib.hid hcs
      clear hrel hcs hpw
      generalize hxs : ps[k1] = xs at *
      generalize hS : sumP stirN (ps.take k1) = S at *
      have Hxs := Lib.hid hxs
      clear hxs hS
      go_wp2
      go_loopw [3, 16] (fun n i w' => ∃ k : Nat, k ≤ xs.length ∧ i = .int .i64 k ∧ n = .int .i64 (S + sumC stirN (xs.take k) : Nat) ∧ Below wo.heap.size wo w') (fun _ i _ => xs.length - (intOf i).toNat)
      case atStart => exact ⟨0, Nat.zero_le _, rfl, rfl, Below.refl _ _⟩
      case round =>
        obtain ⟨k, hk, rfl, rfl, hbo⟩ := hrel
        by_cases hlt : k < xs.length
        · obtain ⟨bx, ox, rfl, hbx, hxo, hxc⟩ := (Hcs.out.below hbo).at_ hlt
          have hs2 := Lib.hid (sumC_take stirN xs k hlt)
          have hbd2 : sumC stirN (xs.take k) ≤ 8 * 1 := Nat.le_trans (sumC_le stirN 1 hf.out _) (Nat.mul_le_mul_right _ (by rw [List.length_take]; omega))
          generalize xs[k] = x at hxo hxc hs2
          generalize sumC stirN (xs.take k) = S2 at hs2 hbd2 ⊢
          have Hxo := Lib.hid hxo
          have Hbo := Lib.hid hbo
          have q0 : wr.cell? ⟨bx, ox + k * 11, none⟩ = some (.int .i64 x.kind) := by have := hxc 0 _ rfl; simpa using this
          have q1 : wr.cell? ⟨bx, ox + k * 11 + 1, none⟩ = some (.string x.id) := hxc 1 _ rfl
          have q2 : wr.cell? ⟨bx, ox + k * 11 + 2, none⟩ = some (.int .i64 x.tick) := hxc 2 _ rfl
          have q3 : wr.cell? ⟨bx, ox + k * 11 + 3, none⟩ = some (.int .i64 x.val) := hxc 3 _ rfl
          have q4 : wr.cell? ⟨bx, ox + k * 11 + 4, none⟩ = some (.int .i64 x.handle) := hxc 4 _ rfl
          have q5 : wr.cell? ⟨bx, ox + k * 11 + 5, none⟩ = some (.int .i64 x.pol.mn) := hxc 5 _ rfl
          have q6 : wr.cell? ⟨bx, ox + k * 11 + 6, none⟩ = some (.int .i64 x.pol.mx) := hxc 6 _ rfl
          have q7 : wr.cell? ⟨bx, ox + k * 11 + 7, none⟩ = some (.int .i64 x.pol.tg) := hxc 7 _ rfl
          have q8 : wr.cell? ⟨bx, ox + k * 11 + 8, none⟩ = some (.int .i64 x.pol.tol) := hxc 8 _ rfl
          have q9 : wr.cell? ⟨bx, ox + k * 11 + 9, none⟩ = some (.int .i64 x.pol.win) := hxc 9 _ rfl
          have q10 : wr.cell? ⟨bx, ox + k * 11 + 10, none⟩ = some (.int .i64 x.pol.hold) := hxc 10 _ rfl
          clear hxc hxo hbo
          by_cases hkd : x.kind = 1 ∨ x.kind = 6
          · by_cases hck : chkC x = 0
            · have hst : stirN x = 1 := by simp [stirN, hkd, hck]
              have hz : (chkC x == 0) = true := by simpa using hck
              have Hst := Lib.hid hst
              clear hst hck
              rcases hkd with hkd | hkd
              · have g1 : (x.kind == 1) = true := by simpa using hkd
                clear hkd
                go_wp2_with (go_at_call 35; refine (storeCheck_any x _ Hxo.out).mono ?_; rintro e w2 ⟨rfl, hb2⟩)
                go_roundw
                case rel =>
                  refine ⟨k + 1, hlt, by go_num, ?_, Hbo.out.trans (((Below.refl _ _).alloc (Nat.le_refl _) _ |>.trans (hb2.mono (by simp))).mono Hbo.out.size)⟩
                  rw [hs2.out, Hst.out]
                  simp
                  omega
                case measure => simp [intOf]; omega
              · have g1 : (x.kind == 1) = false := by simp [hkd]
                have g2 : (x.kind == 6) = true := by simpa using hkd
                clear hkd
                go_wp2_with (go_at_call 35; refine (storeCheck_any x _ Hxo.out).mono ?_; rintro e w2 ⟨rfl, hb2⟩)
                go_roundw
                case rel =>
                  refine ⟨k + 1, hlt, by go_num, ?_, Hbo.out.trans (((Below.refl _ _).alloc (Nat.le_refl _) _ |>.trans (hb2.mono (by simp))).mono Hbo.out.size)⟩
                  rw [hs2.out, Hst.out]
                  simp
                  omega
                case measure => simp [intOf]; omega
            · have hst : stirN x = 0 := by simp [stirN, hck]
              have hz : (chkC x == 0) = false := by simpa using hck
              have Hst := Lib.hid hst
              clear hst hck
              rcases hkd with hkd | hkd
              · have g1 : (x.kind == 1) = true := by simpa using hkd
                clear hkd
                go_wp2_with (go_at_call 35; refine (storeCheck_any x _ Hxo.out).mono ?_; rintro e w2 ⟨rfl, hb2⟩)
                go_roundw
                case rel =>
                  refine ⟨k + 1, hlt, by go_num, ?_, Hbo.out.trans (((Below.refl _ _).alloc (Nat.le_refl _) _ |>.trans (hb2.mono (by simp))).mono Hbo.out.size)⟩
                  rw [hs2.out, Hst.out]
                  simp
                case measure => simp [intOf]; omega
              · have g1 : (x.kind == 1) = false := by simp [hkd]
                have g2 : (x.kind == 6) = true := by simpa using hkd
                clear hkd
                go_wp2_with (go_at_call 35; refine (storeCheck_any x _ Hxo.out).mono ?_; rintro e w2 ⟨rfl, hb2⟩)
                go_roundw
                case rel =>
                  refine ⟨k + 1, hlt, by go_num, ?_, Hbo.out.trans (((Below.refl _ _).alloc (Nat.le_refl _) _ |>.trans (hb2.mono (by simp))).mono Hbo.out.size)⟩
                  rw [hs2.out, Hst.out]
                  simp
                case measure => simp [intOf]; omega
          · have hst : stirN x = 0 := by simp [stirN, hkd]
            have g1 : (x.kind == 1) = false := by simp; omega
            have g2 : (x.kind == 6) = false := by simp; omega
            have Hst := Lib.hid hst
            clear hst hkd
            go_wp2
            go_roundw
            case rel =>
              refine ⟨k + 1, hlt, by go_num, ?_, Hbo.out.alloc Hbo.out.size _⟩
              rw [hs2.out, Hst.out]
              simp
            case measure => simp [intOf]; omega
        · obtain rfl : xs.length = k := by omega
          go_wp2
          go_roundw
          case rel =>
            refine ⟨k1 + 1, hlt1, by go_num, ?_, bthen Hrel.out hbo⟩
            rw [hsum.out, List.take_length]
          case measure => simp [intOf]; omega
    · obtain rfl : ps.length = k1 := by omega
      have hfin := hrel
      clear hrel
      go_wp2
      go_ret
      rw [List.take_length]
      exact ⟨rfl, hfin⟩

set_option maxRecDepth 100000 in
set_option maxHeartbeats 2000000 in
theorem refStirs_any (v : Value) (ps : List (List CallD)) (w : World) (hp : ProgsAt w v ps) (h5 : ps.length ≤ 5) (h8 : ∀ xs ∈ ps, xs.length ≤ 8) :
    Calls Try.prog 22 #[v] w fun e w' => e = .returned (.int .i64 (sumP stirN ps : Nat)) ∧ Below w.heap.size w w' := by
  obtain ⟨A, cc, rfl, hp0⟩ := id hp
  clear hp0
  have Hp := Lib.hid hp
  have H8 := Lib.hid h8
  have hf := Lib.hid stirN_le
  clear hp h8
  go_enter Try.func22, Try.ntmps22
  go_wp2
  go_loopw [3, 4] (fun n i w' => ∃ k : Nat, k ≤ ps.length ∧ i = .int .i64 k ∧ n = .int .i64 (sumP stirN (ps.take k) : Nat) ∧ Below w.heap.size w w') (fun _ i _ => ps.length - (intOf i).toNat)
  case atStart => exact ⟨0, Nat.zero_le _, rfl, rfl, Below.refl _ _⟩
  case round =>
    obtain ⟨k1, hk1, rfl, rfl, hrel⟩ := hrel
    by_cases hlt1 : k1 < ps.length
    · obtain ⟨wo, rfl⟩ : ∃ wo : World, wo = wr := ⟨_, rfl⟩
      have hpw := Hp.out.below hrel
      obtain ⟨b, o, A', c', rfl, hb, hcell, hcs⟩ := hpw.at_ hlt1
      have hml : (ps[k1]).length ≤ 8 := H8.out _ (List.getElem_mem hlt1)
      have hsum := Lib.hid (sumP_take stirN ps k1 hlt1)
      have hbd : sumP stirN (ps.take k1) ≤ 5 * (8 * 1) := Nat.le_trans (sumP_le stirN 1 hf.out _ (fun xs hx => H8.out xs (List.mem_of_mem_take hx))) (Nat.mul_le_mul_right _ (by rw [List.length_take]; omega))
      have Hrel := Lib.hid hrel
      have Hcs := Lib.hid hcs
      clear hrel hcs hpw
      generalize hxs : ps[k1] = xs at *
      generalize hS : sumP stirN (ps.take k1) = S at *
      have Hxs := Lib.hid hxs
      clear hxs hS
      go_wp2
      go_loopw [3, 5] (fun n i w' => ∃ k : Nat, k ≤ xs.length ∧ i = .int .i64 k ∧ n = .int .i64 (S + sumC stirN (xs.take k) : Nat) ∧ Below wo.heap.size wo w') (fun _ i _ => xs.length - (intOf i).toNat)
      case atStart => exact ⟨0, Nat.zero_le _, rfl, rfl, Below.refl _ _⟩
      case round =>
        obtain ⟨k, hk, rfl, rfl, hbo⟩ := hrel
        by_cases hlt : k < xs.length
        · obtain ⟨bx, ox, rfl, hbx, hxo, hxc⟩ := (Hcs.out.below hbo).at_ hlt
          have hcell2 := (hbo.cell (p := ⟨b, o + k1, none⟩) hb).trans hcell
          have hs2 := Lib.hid (sumC_take stirN xs k hlt)
          have hbd2 : sumC stirN (xs.take k) ≤ 8 * 1 := Nat.le_trans (sumC_le stirN 1 hf.out _) (Nat.mul_le_mul_right _ (by rw [List.length_take]; omega))
          generalize xs[k] = x at hxo hxc hs2
          generalize sumC stirN (xs.take k) = S2 at hs2 hbd2 ⊢
          have Hxo := Lib.hid hxo
          have Hbo := Lib.hid hbo
          have q0 : wr.cell? ⟨bx, ox + k * 11, none⟩ = some (.int .i64 x.kind) := by have := hxc 0 _ rfl; simpa using this
          have q1 : wr.cell? ⟨bx, ox + k * 11 + 1, none⟩ = some (.string x.id) := hxc 1 _ rfl
          have q2 : wr.cell? ⟨bx, ox + k * 11 + 2, none⟩ = some (.int .i64 x.tick) := hxc 2 _ rfl
          have q3 : wr.cell? ⟨bx, ox + k * 11 + 3, none⟩ = some (.int .i64 x.val) := hxc 3 _ rfl
          have q4 : wr.cell? ⟨bx, ox + k * 11 + 4, none⟩ = some (.int .i64 x.handle) := hxc 4 _ rfl
          have q5 : wr.cell? ⟨bx, ox + k * 11 + 5, none⟩ = some (.int .i64 x.pol.mn) := hxc 5 _ rfl
          have q6 : wr.cell? ⟨bx, ox + k * 11 + 6, none⟩ = some (.int .i64 x.pol.mx) := hxc 6 _ rfl
          have q7 : wr.cell? ⟨bx, ox + k * 11 + 7, none⟩ = some (.int .i64 x.pol.tg) := hxc 7 _ rfl
          have q8 : wr.cell? ⟨bx, ox + k * 11 + 8, none⟩ = some (.int .i64 x.pol.tol) := hxc 8 _ rfl
          have q9 : wr.cell? ⟨bx, ox + k * 11 + 9, none⟩ = some (.int .i64 x.pol.win) := hxc 9 _ rfl
          have q10 : wr.cell? ⟨bx, ox + k * 11 + 10, none⟩ = some (.int .i64 x.pol.hold) := hxc 10 _ rfl
          clear hxc hxo hbo
          by_cases hkd : x.kind = 1 ∨ x.kind = 6
          · by_cases hck : chkC x = 0
            · have hst : stirN x = 1 := by simp [stirN, hkd, hck]
              have hz : (chkC x == 0) = true := by simpa using hck
              have Hst := Lib.hid hst
              clear hst hck
              rcases hkd with hkd | hkd
              · have g1 : (x.kind == 1) = true := by simpa using hkd
                clear hkd
                go_wp2_with (go_at_call 36; refine (ref21Check_any x _ Hxo.out).mono ?_; rintro e w2 ⟨rfl, hb2⟩)
                go_roundw
                case rel =>
                  refine ⟨k + 1, hlt, by go_num, ?_, Hbo.out.trans (((Below.refl _ _).alloc (Nat.le_refl _) _ |>.trans (hb2.mono (by simp))).mono Hbo.out.size)⟩
                  rw [hs2.out, Hst.out]
                  simp
                  omega
                case measure => simp [intOf]; omega
              · have g1 : (x.kind == 1) = false := by simp [hkd]
                have g2 : (x.kind == 6) = true := by simpa using hkd
                clear hkd
                go_wp2_with (go_at_call 36; refine (ref21Check_any x _ Hxo.out).mono ?_; rintro e w2 ⟨rfl, hb2⟩)
                go_roundw
                case rel =>
                  refine ⟨k + 1, hlt, by go_num, ?_, Hbo.out.trans (((Below.refl _ _).alloc (Nat.le_refl _) _ |>.trans (hb2.mono (by simp))).mono Hbo.out.size)⟩
                  rw [hs2.out, Hst.out]
                  simp
                  omega
                case measure => simp [intOf]; omega
            · have hst : stirN x = 0 := by simp [stirN, hck]
              have hz : (chkC x == 0) = false := by simpa using hck
              have Hst := Lib.hid hst
              clear hst hck
              rcases hkd with hkd | hkd
              · have g1 : (x.kind == 1) = true := by simpa using hkd
                clear hkd
                go_wp2_with (go_at_call 36; refine (ref21Check_any x _ Hxo.out).mono ?_; rintro e w2 ⟨rfl, hb2⟩)
                go_roundw
                case rel =>
                  refine ⟨k + 1, hlt, by go_num, ?_, Hbo.out.trans (((Below.refl _ _).alloc (Nat.le_refl _) _ |>.trans (hb2.mono (by simp))).mono Hbo.out.size)⟩
                  rw [hs2.out, Hst.out]
                  simp
                case measure => simp [intOf]; omega
              · have g1 : (x.kind == 1) = false := by simp [hkd]
                have g2 : (x.kind == 6) = true := by simpa using hkd
                clear hkd
                go_wp2_with (go_at_call 36; refine (ref21Check_any x _ Hxo.out).mono ?_; rintro e w2 ⟨rfl, hb2⟩)
                go_roundw
                case rel =>
                  refine ⟨k + 1, hlt, by go_num, ?_, Hbo.out.trans (((Below.refl _ _).alloc (Nat.le_refl _) _ |>.trans (hb2.mono (by simp))).mono Hbo.out.size)⟩
                  rw [hs2.out, Hst.out]
                  simp
                case measure => simp [intOf]; omega
          · have hst : stirN x = 0 := by simp [stirN, hkd]
            have g1 : (x.kind == 1) = false := by simp; omega
            have g2 : (x.kind == 6) = false := by simp; omega
            have Hst := Lib.hid hst
            clear hst hkd
            go_wp2
            go_roundw
            case rel =>
              refine ⟨k + 1, hlt, by go_num, ?_, Hbo.out.alloc Hbo.out.size _⟩
              rw [hs2.out, Hst.out]
              simp
            case measure => simp [intOf]; omega
        · obtain rfl : xs.length = k := by omega
          have hcell2 := (hbo.cell (p := ⟨b, o + k1, none⟩) hb).trans hcell
          go_wp2
          go_roundw
          case rel =>
            refine ⟨k1 + 1, hlt1, by go_num, ?_, bthen Hrel.out hbo⟩
            rw [hsum.out, List.take_length]
          case measure => simp [intOf]; omega
    · obtain rfl : ps.length = k1 := by omega
      have hfin := hrel
      clear hrel
      go_wp2
      go_ret
      rw [List.take_length]
      exact ⟨rfl, hfin⟩

end Go.Proofs.Ythfkgffalhkeeaa
