/- journal.Get: what bytes begin with. -/
import Derived.Test.YtfnabpmdjfejbaaDoorJGetLaw
import Derived.Test.YtfnabpmdjfejbaaDoorJZigAll
import Derived.Deep.DeepCutAuto
import Derived.IntWalk
namespace Go.Proofs.YtfnabpmdjfejbaaDoor
set_option linter.unusedSimpArgs false
set_option linter.unusedVariables false
open Go.RowKit Go.Lib

section
variable {α : Type} {t e : TypeId} {n bytes : Nat} {z : Value} {f : α → List Value}
theorem row_cap (E : EltOf t e n bytes z f) {w : World} {A : Option Addr} {c : Nat} {l : List α} (h : RowIn n f w (.slice A l.length c) l) (a : Nat) (ha : a ≤ l.length) :
    ∃ (m : List α) (A2 : Option Addr), m = l.take a ∧ (∀ w' : World, (Instr.sliceAt t (.slice A l.length c) none (some (.int .i64 a)) (some (.int .i64 a))).run Tryd.prog w' = .ok (.slice A2 m.length m.length) w') ∧ RowIn n f w (.slice A2 m.length m.length) m := by
  obtain ⟨i0, hi0, hz0, hz1, hz2⟩ := info_parts E.hi
  have hcl : l.length ≤ c := by obtain ⟨_, _, hv, hc, _⟩ := h; injection hv with _ _ e3; omega
  have hlen : (l.take a).length = a := by simp; omega
  have hel : Tryd.prog.elem t = e := by simp [Program.elem, E.ht]
  have hp : RowIn n f w (.slice (if a = 0 then A else A.map (·.add (0 * n))) a a) (l.take a) := by
    obtain ⟨A1, c1, hv, hc, h⟩ := h
    injection hv with e1 e2 e3
    subst e1 e3
    refine ⟨_, a, by rw [hlen], by rw [hlen]; exact Nat.le_refl _, fun hn => ?_⟩
    rw [hlen] at hn
    obtain ⟨b, o, rfl, hlt, h⟩ := h (by omega)
    rw [if_neg (by omega)]
    refine ⟨b, o, by rw [Option.map_some, Nat.zero_mul, add_at]; rfl, hlt, fun k x hk t u hu => ?_⟩
    rw [List.getElem?_take] at hk
    split at hk
    · exact h k x hk t u hu
    · cases hk
  refine ⟨l.take a, _, rfl, fun w' => ?_, by rw [hlen]; exact hp⟩
  rw [run_sliceAt_slice _ t _ _ _ _ (by rw [hel]; exact E.ht), run_slice_hm _ t A l.length c (by rw [hel]; exact E.ht) _ _ _ _ (by omega) (by omega) (by omega), hel]
  simp [sizeOf, typeInfo, hi0, hz1, Result.andThen, sliced, hlen]
theorem row_mid (E : EltOf t e n bytes z f) {w : World} {A : Option Addr} {c : Nat} {l : List α} (h : RowIn n f w (.slice A l.length c) l) (i j : Nat) (hij : i ≤ j) (hj : j ≤ l.length) :
    ∃ (m : List α) (A2 : Option Addr) (c2 : Nat), m = (l.take j).drop i ∧ (∀ w' : World, (Instr.sliceAt t (.slice A l.length c) (some (.int .i64 i)) (some (.int .i64 j)) none).run Tryd.prog w' = .ok (.slice A2 m.length c2) w') ∧ RowIn n f w (.slice A2 m.length c2) m := by
  obtain ⟨i0, hi0, hz0, hz1, hz2⟩ := info_parts E.hi
  have hcl : l.length ≤ c := by obtain ⟨_, _, hv, hc, _⟩ := h; injection hv with _ _ e3; omega
  have hp := RowIn.part h hij hj
  have hlen : ((l.take j).drop i).length = j - i := by simp; omega
  have hel : Tryd.prog.elem t = e := by simp [Program.elem, E.ht]
  refine ⟨(l.take j).drop i, _, _, rfl, fun w' => ?_, by rw [hlen]; exact hp⟩
  rw [run_sliceAt_slice _ t _ _ _ _ (by rw [hel]; exact E.ht), run_slice_lh _ t A l.length c (by rw [hel]; exact E.ht) _ _ _ _ (by omega) (by omega) (by omega), hel]
  simp [sizeOf, typeInfo, hi0, hz1, Result.andThen, sliced, hlen]
end

theorem name_post {P : Program} {f : Func} {Q : Ending → World → Prop} {e : Exit} {a : Act} {w : World} (h : ∀ W, W = w → bodyPost P f Q e a W) : bodyPost P f Q e a w := h w rfl
def GetSays (w : World) (r : CallD × Nat × Int) (e : Ending) (w' : World) : Prop := e = .returned (.tuple #[callV r.1, .int .i64 (r.2.1 : Nat), .int .i64 r.2.2]) ∧ Below w.heap.size w w'

set_option maxRecDepth 100000 in
set_option maxHeartbeats 4000000 in
theorem jget_nil (A : Option Addr) (c : Nat) (w : World) : Calls Tryd.prog 10 #[.slice A 0 c] w (GetSays w (callZ, 0, 11)) := by
  go_enter Tryd.func10, Tryd.ntmps10
  go_wp2
  refine bodyPost_ret (v := .tuple #[callV callZ, .int .i64 0, .int .i64 11]) (by simp [results, Tryd.results10, go_sem, callV, callZ, polZ]) rfl ⟨rfl, ?_⟩
  repeat (first | exact Below.refl _ _ | with_reducible refine balloc ?_ _ | with_reducible refine Below.setCell ?_ (by simp) _)
set_option maxRecDepth 100000 in
set_option maxHeartbeats 4000000 in
theorem jget_short (A : Option Addr) (l : List UInt8) (c : Nat) (w : World) (hv : RowIn 1 byteC w (.slice A l.length c) l) (h0 : l ≠ []) (hl : l.length < (l.getD 0 0).toNat + 5) (hm : l.length ≤ 1000000) : Calls Tryd.prog 10 #[.slice A l.length c] w (GetSays w (callZ, 0, 11)) := by
  obtain ⟨b, o, rfl, hb, hc⟩ := hv.byte h0
  have hp : 0 < l.length := by cases l with | nil => exact absurd rfl h0 | cons => simp
  have c0 := hc 0 hp
  rw [Nat.add_zero, show l[0] = l.getD 0 0 by simp [List.getElem?_eq_getElem hp]] at c0
  have hx := (l.getD 0 0).toNat_lt
  generalize (l.getD 0 0).toNat = n0 at hl c0 hx
  generalize hn : l.length = n at hl hp hm
  have hz : (n : Int) ≠ 0 := by omega
  have q : ((n : Int) == 0) = false := by simpa using hz
  clear hz hn hc hv h0
  go_enter Tryd.func10, Tryd.ntmps10
  go_wp2
  refine bodyPost_ret (v := .tuple #[callV callZ, .int .i64 0, .int .i64 11]) (by simp [results, Tryd.results10, go_sem, callV, callZ, polZ]) rfl ⟨rfl, ?_⟩
  repeat (first | exact Below.refl _ _ | with_reducible refine balloc ?_ _ | with_reducible refine Below.setCell ?_ (by simp) _)

set_option maxRecDepth 100000 in
set_option maxHeartbeats 8000000 in
theorem jget_long (A : Option Addr) (l : List UInt8) (c : Nat) (w : World) (hv : RowIn 1 byteC w (.slice A l.length c) l) (h0 : l ≠ []) (hl : ¬ l.length < (l.getD 0 0).toNat + 5) (hm : l.length ≤ 1000000) (ht : Tab w) : Calls Tryd.prog 10 #[.slice A l.length c] w (GetSays w (getB l)) := by
  have hp : 0 < l.length := by cases l with | nil => exact absurd rfl h0 | cons => simp
  have HG := Lib.hid (show getB l = if ¬ headOk l then (callZ, 0, 10) else match numsG l with | none => (callZ, 0, 10) | some n => callG l n by
    unfold getB
    rw [if_neg (show ¬ shortB l from fun h => h.elim h0 hl)]
    rfl)
  have hx := (l.getD 0 0).toNat_lt
  obtain ⟨s0, hs0⟩ : ∃ s, s = szB l := ⟨_, rfl⟩
  have hs0' : s0 = (l.getD 0 0).toNat + 1 := hs0
  obtain ⟨s4, hs4e⟩ : ∃ s, s = s0 + 4 := ⟨_, rfl⟩
  have hs4 : s4 ≤ l.length := by omega
  obtain ⟨hd, A2, hhd, hr1, ho1⟩ := row_cap eByte hv s0 (by omega)
  obtain ⟨qd, A3, c3, hqd, hr3, ho3⟩ := row_mid eByte hv s0 s4 (by omega) hs4
  obtain ⟨ft, A4, c4, hft, hr4, ho4⟩ := row_to eByte hv s4 hs4
  have hdl : hd.length = s0 := by rw [hhd]; simp; omega
  have hde : hd ≠ [] := by intro e; rw [e] at hdl; simp at hdl; omega
  obtain ⟨b1, o1, rfl, hb1, hc1⟩ := ho1.byte hde
  have hH : headB l = hd := by unfold headB; rw [← hs0, hhd]
  have hQ : (l.take (szB l + 4)).drop (szB l) = qd := by rw [← hs0, ← hs4e, hqd]
  have hF : l.take (szB l + 4) = ft := by rw [← hs0, ← hs4e, hft]
  have HOK := Lib.hid (show headOk l ↔ (sealB hd = qd ∧ 2 ≤ s0 ∧ n1B l + 2 ≤ s0) by unfold headOk; rw [hH, hQ, ← hs0])
  have hn1e : n1B l = (hd.getD 1 0).toNat := by unfold n1B; rw [hH]
  have hx1 := (hd.getD 1 0).toNat_lt
  obtain ⟨b, o, rfl, hb, hc⟩ := hv.byte h0
  have c0 := hc 0 hp
  rw [Nat.add_zero, show l[0] = l.getD 0 0 by simp [List.getElem?_eq_getElem hp]] at c0
  have c1 : 2 ≤ s0 → w.cell? ⟨b1, o1 + 1, none⟩ = some (.int .u8 ((hd.getD 1 0).toNat : Nat)) := fun h2 => by
    have := hc1 1 (by omega)
    rwa [show hd[1]'(by omega) = hd.getD 1 0 by simp [List.getElem?_eq_getElem (show 1 < hd.length by omega)]] at this
  rw [← hn1e] at c1 hx1
  obtain ⟨n1, hn1⟩ : ∃ n, n = n1B l := ⟨_, rfl⟩
  rw [← hn1] at c1 hx1 HOK
  have q1 : (((l.getD 0 0).toNat : Nat) : Int) + 1 = (s0 : Nat) := by omega
  have q4 : ((s0 : Nat) : Int) + 4 = (s4 : Nat) := by omega
  have w4' : IntKind.i64.wrap (s4 : Int) = (s4 : Nat) := IntWalk.i64_in _ (by omega)
  have w4 : IntKind.i64.wrap (((s0 : Nat) : Int) + 4) = (s4 : Nat) := by rw [q4]; exact IntWalk.i64_in _ (by omega)
  rw [hdl] at hr1
  have hne : ((l.length : Int) == 0) = false := by simp; omega
  have hge : ¬ (l.length : Int) < (((l.getD 0 0).toNat : Nat) : Int) + 5 := by omega
  generalize (l.getD 0 0).toNat = n0 at hl c0 hx hs0' q1 hge
  have HO1 := Lib.hid ho1
  have HO3 := Lib.hid ho3
  have HO4 := Lib.hid ho4
  have HT := Lib.hid ht
  have HH := Lib.hid hH
  have HF := Lib.hid hF
  have HS0 := Lib.hid hs0
  have HS4 := Lib.hid hs4e
  have HN1 := Lib.hid hn1
  have HDL := Lib.hid hdl
  have HC1 := Lib.hid c1
  generalize hn : l.length = n at hr1 hr3 hr4 hne hge hp hm hs4 hl
  clear hn hc hc1 hv ho1 ho3 ho4 ht hH hQ hF hs0 hs0' hn1 hn1e hdl hhd hqd hft h0 hl hs4e
  go_enter Tryd.func10, Tryd.ntmps10
  go_upto_region 5 with fail
  refine name_world ?_
  intro W hW
  have hb0 : Below w.heap.size w W := by rw [hW]; exact balloc (Below.refl _ _) _
  have hx0 : W.heap[w.heap.size]? = some (.cells #[.int .i64 0, .string ⟨#[]⟩, .int .i64 0, .int .i64 0, .int .i64 0, .int .i64 0, .int .i64 0, .int .i64 0, .int .i64 0, .int .i64 0, .int .i64 0] 25 (0, 0)) := by rw [hW]; exact heap_alloc_new _ _
  clear hW
  have HB0 := Lib.hid hb0
  have HX0 := Lib.hid hx0
  clear hb0 hx0
  have w1e : IntKind.i64.wrap (n1 : Int) = (n1 : Int) := IntWalk.i64_in _ (by omega)
  have w2e : IntKind.i64.wrap ((n1 : Int) + 2) = (n1 : Int) + 2 := IntWalk.i64_in _ (by omega)
  obtain ⟨bad, hbad⟩ : ∃ q, q = decide (¬ headOk l) := ⟨_, rfl⟩
  have HBAD := Lib.hid hbad
  clear hbad
  go_cut [56] (fun s56 wx => s56 = .bool bad ∧ Below W.heap.size W wx)
  case first =>
    by_cases hse : sealB hd = qd
    · have HE := Lib.hid (show (sealB hd == qd) = true by simp [hse])
      by_cases h2 : s0 < 2
      · have HD := Lib.hid (show decide (¬ headOk l) = true by rw [decide_eq_true_iff, HOK.out]; omega)
        have hd2 : decide ((s0 : Int) < 2) = true := by rw [decide_eq_true_iff]; omega
        clear hse h2
        refine wp_region_held_drew (S := fun U => Below W.heap.size W U) (by kernel_rfl) ?hS1 (fun hHeld => ?_)
        case hS1 => first | with_reducible exact HB3.out | with_reducible exact HB2.out | with_reducible exact Below.refl _ _ | with_reducible exact (Below.refl _ _).drew
        refine wpAnyH_take (i := 0) (v := ?v2) rfl (by kernel_rfl) (by kernel_rfl) (by kernel_rfl) (fun _ _ _ h => h) (Or.inl ⟨by rfl, ?hy2⟩) (by assumption) ?_
        case hy2 =>
          intro w' hSw
          (try dsimp only at hSw)
          go_simp
          try (with_reducible rfl)
        try simp only [Act.put, List.getElem_toArray, List.getElem_cons_succ, List.getElem_cons_zero, List.setIfInBounds_toArray, List.set_cons_zero, List.set_cons_succ]
        refine wpAnyH_take (i := 2) (v := ?v3) rfl (by kernel_rfl) (by kernel_rfl) (by kernel_rfl) (fun _ _ _ h => h) (Or.inl ⟨by rfl, ?hy3⟩) (by assumption) ?_
        case hy3 =>
          intro w' hSw
          (try dsimp only at hSw)
          go_simp
          try (with_reducible rfl)
        try simp only [Act.put, List.getElem_toArray, List.getElem_cons_succ, List.getElem_cons_zero, List.setIfInBounds_toArray, List.set_cons_zero, List.set_cons_succ]
        refine wpAnyH_take (i := 3) (v := ?v4) rfl (by kernel_rfl) (by kernel_rfl) (by kernel_rfl) (fun _ _ _ h => h) (Or.inl ⟨by rfl, ?hy4⟩) (by assumption) ?_
        case hy4 =>
          intro w' hSw
          (try dsimp only at hSw)
          go_simp
          try (with_reducible rfl)
        try simp only [Act.put, List.getElem_toArray, List.getElem_cons_succ, List.getElem_cons_zero, List.setIfInBounds_toArray, List.set_cons_zero, List.set_cons_succ]
        refine wpAnyH_take (i := 4) (v := ?v5) rfl (by kernel_rfl) (by kernel_rfl) (by kernel_rfl) (fun _ _ _ h => h) (Or.inl ⟨by rfl, ?hy5⟩) (by assumption) ?_
        case hy5 =>
          intro w' hSw
          (try dsimp only at hSw)
          go_simp
          try (with_reducible rfl)
        try simp only [Act.put, List.getElem_toArray, List.getElem_cons_succ, List.getElem_cons_zero, List.setIfInBounds_toArray, List.set_cons_zero, List.set_cons_succ]
        refine wpAnyH_take (i := 5) (v := ?v6) rfl (by kernel_rfl) (by kernel_rfl) (by kernel_rfl) (fun _ _ _ h => h) (Or.inl ⟨by rfl, ?hy6⟩) (by assumption) ?_
        case hy6 =>
          intro w' hSw
          (try dsimp only at hSw)
          go_simp
          try (with_reducible rfl)
        try simp only [Act.put, List.getElem_toArray, List.getElem_cons_succ, List.getElem_cons_zero, List.setIfInBounds_toArray, List.set_cons_zero, List.set_cons_succ]
        refine wpAnyH_take (i := 6) (v := ?v7) rfl (by kernel_rfl) (by kernel_rfl) (by kernel_rfl) (fun _ _ _ h => h) (Or.inl ⟨by rfl, ?hy7⟩) (by assumption) ?_
        case hy7 =>
          intro w' hSw
          (try dsimp only at hSw)
          go_simp
          try (with_reducible rfl)
        try simp only [Act.put, List.getElem_toArray, List.getElem_cons_succ, List.getElem_cons_zero, List.setIfInBounds_toArray, List.set_cons_zero, List.set_cons_succ]
        refine wpAnyH_ready (rs := [1]) (by kernel_rfl) (by simp) ?_
        refine AllReadyH.cons rfl (fun K hK => ?_) AllReadyH.nil
        go_simp
        go_at_call 27
        refine calls_named ?_
        intro W2 hW2
        have hb2 : Below W.heap.size W W2 := by rw [hW2]; first | exact Below.refl _ _ | exact (Below.refl _ _).drew
        clear hW2
        have hs2 := jsum_any _ hd W2 (HO1.out.below (bthen HB0.out hb2)) (by have := HDL.out; omega)
        rw [HDL.out] at hs2
        refine hs2.mono ?_
        clear hs2
        rintro e w2 ⟨A5, c5, rfl, ho5, hb5⟩
        have HO2 := Lib.hid ho5
        have HB2 := Lib.hid (bthen hb2 hb5)
        clear ho5 hb2 hb5
        try go_simp
        refine hK.out _ _ ?hS8 (fun hHeld2 => ?_)
        case hS8 => first | with_reducible exact HB3.out | with_reducible exact HB2.out | with_reducible exact Below.refl _ _ | with_reducible exact (Below.refl _ _).drew
        clear hK K hHeld
        have hHeld := hHeld2
        clear hHeld2
        try simp only [Act.put, List.getElem_toArray, List.getElem_cons_succ, List.getElem_cons_zero, List.setIfInBounds_toArray, List.set_cons_zero, List.set_cons_succ]
        refine wpAnyH_ready (rs := [7]) (by kernel_rfl) (by simp) ?_
        refine AllReadyH.cons rfl (fun K hK => ?_) AllReadyH.nil
        go_simp
        go_at_call 33
        refine (bytesEqual_any _ _ (sealB hd) qd w2 (HO2.out.row eByte) (HO3.out.below (bthen HB0.out HB2.out))).mono ?_
        rw [HE.out]
        rintro e w3 ⟨rfl, hb4⟩
        have HB3 := Lib.hid (bthen HB2.out hb4)
        clear hb4
        try go_simp
        refine hK.out _ _ ?hS9 (fun hHeld2 => ?_)
        case hS9 => first | with_reducible exact HB3.out | with_reducible exact HB2.out | with_reducible exact Below.refl _ _ | with_reducible exact (Below.refl _ _).drew
        clear hK K hHeld
        have hHeld := hHeld2
        clear hHeld2
        try simp only [Act.put, List.getElem_toArray, List.getElem_cons_succ, List.getElem_cons_zero, List.setIfInBounds_toArray, List.set_cons_zero, List.set_cons_succ]
        refine wpAnyH_take (i := 8) (v := ?v10) rfl (by kernel_rfl) (by kernel_rfl) (by kernel_rfl) (fun _ _ _ h => h) (Or.inl ⟨by rfl, ?hy10⟩) (by assumption) ?_
        case hy10 =>
          intro w' hSw
          (try dsimp only at hSw)
          go_simp
          try (with_reducible rfl)
        try simp only [Act.put, List.getElem_toArray, List.getElem_cons_succ, List.getElem_cons_zero, List.setIfInBounds_toArray, List.set_cons_zero, List.set_cons_succ]
        refine wpAnyH_take (i := 9) (v := ?v11) rfl (by kernel_rfl) (by kernel_rfl) (by kernel_rfl) (fun _ _ _ h => h) (Or.inl ⟨by rfl, ?hy11⟩) (by assumption) ?_
        case hy11 =>
          intro w' hSw
          (try dsimp only at hSw)
          go_simp
          try (with_reducible rfl)
        try simp only [Act.put, List.getElem_toArray, List.getElem_cons_succ, List.getElem_cons_zero, List.setIfInBounds_toArray, List.set_cons_zero, List.set_cons_succ]
        refine wpAnyH_take (i := 10) (v := ?v12) rfl (by kernel_rfl) (by kernel_rfl) (by kernel_rfl) (fun _ _ _ h => h) (Or.inl ⟨by rfl, ?hy12⟩) (by assumption) ?_
        case hy12 =>
          intro w' hSw
          (try dsimp only at hSw)
          go_simp
          try (with_reducible rfl)
        try simp only [Act.put, List.getElem_toArray, List.getElem_cons_succ, List.getElem_cons_zero, List.setIfInBounds_toArray, List.set_cons_zero, List.set_cons_succ]
        refine wpAnyH_take (i := 11) (v := ?v13) rfl (by kernel_rfl) (by kernel_rfl) (by kernel_rfl) (fun _ _ _ h => h) (Or.inl ⟨by rfl, ?hy13⟩) (by assumption) ?_
        case hy13 =>
          intro w' hSw
          (try dsimp only at hSw)
          go_simp
          try (with_reducible rfl)
        try simp only [Act.put, List.getElem_toArray, List.getElem_cons_succ, List.getElem_cons_zero, List.setIfInBounds_toArray, List.set_cons_zero, List.set_cons_succ]
        refine wpAnyH_take (i := 12) (v := ?v14) rfl (by kernel_rfl) (by kernel_rfl) (by kernel_rfl) (fun _ _ _ h => h) (Or.inl ⟨by rfl, ?hy14⟩) (by assumption) ?_
        case hy14 =>
          intro w' hSw
          (try dsimp only at hSw)
          go_simp
          try (with_reducible rfl)
        try simp only [Act.put, List.getElem_toArray, List.getElem_cons_succ, List.getElem_cons_zero, List.setIfInBounds_toArray, List.set_cons_zero, List.set_cons_succ]
        refine wpAnyH_take (i := 13) (v := ?v15) rfl (by kernel_rfl) (by kernel_rfl) (by kernel_rfl) (fun _ _ _ h => h) (Or.inl ⟨by rfl, ?hy15⟩) (by assumption) ?_
        case hy15 =>
          intro w' hSw
          (try dsimp only at hSw)
          go_simp
          try (with_reducible rfl)
        try simp only [Act.put, List.getElem_toArray, List.getElem_cons_succ, List.getElem_cons_zero, List.setIfInBounds_toArray, List.set_cons_zero, List.set_cons_succ]
        refine wpAnyH_take (i := 14) (v := undef) rfl (by kernel_rfl) (by kernel_rfl) (by kernel_rfl) (fun _ _ _ h => h) (Or.inr ⟨by go_simp, rfl⟩) (by assumption) ?_
        try simp only [Act.put, List.getElem_toArray, List.getElem_cons_succ, List.getElem_cons_zero, List.setIfInBounds_toArray, List.set_cons_zero, List.set_cons_succ]
        refine wpAnyH_take (i := 15) (v := undef) rfl (by kernel_rfl) (by kernel_rfl) (by kernel_rfl) (fun _ _ _ h => h) (Or.inr ⟨by go_simp, rfl⟩) (by assumption) ?_
        try simp only [Act.put, List.getElem_toArray, List.getElem_cons_succ, List.getElem_cons_zero, List.setIfInBounds_toArray, List.set_cons_zero, List.set_cons_succ]
        refine wpAnyH_take (i := 16) (v := undef) rfl (by kernel_rfl) (by kernel_rfl) (by kernel_rfl) (fun _ _ _ h => h) (Or.inr ⟨by go_simp, rfl⟩) (by assumption) ?_
        try simp only [Act.put, List.getElem_toArray, List.getElem_cons_succ, List.getElem_cons_zero, List.setIfInBounds_toArray, List.set_cons_zero, List.set_cons_succ]
        refine wpAnyH_take (i := 17) (v := undef) rfl (by kernel_rfl) (by kernel_rfl) (by kernel_rfl) (fun _ _ _ h => h) (Or.inr ⟨by go_simp, rfl⟩) (by assumption) ?_
        try simp only [Act.put, List.getElem_toArray, List.getElem_cons_succ, List.getElem_cons_zero, List.setIfInBounds_toArray, List.set_cons_zero, List.set_cons_succ]
        refine wpAnyH_take (i := 18) (v := undef) rfl (by kernel_rfl) (by kernel_rfl) (by kernel_rfl) (fun _ _ _ h => h) (Or.inr ⟨by go_simp, rfl⟩) (by assumption) ?_
        try simp only [Act.put, List.getElem_toArray, List.getElem_cons_succ, List.getElem_cons_zero, List.setIfInBounds_toArray, List.set_cons_zero, List.set_cons_succ]
        refine wpAnyH_take (i := 19) (v := undef) rfl (by kernel_rfl) (by kernel_rfl) (by kernel_rfl) (fun _ _ _ h => h) (Or.inr ⟨by go_simp, rfl⟩) (by assumption) ?_
        try simp only [Act.put, List.getElem_toArray, List.getElem_cons_succ, List.getElem_cons_zero, List.setIfInBounds_toArray, List.set_cons_zero, List.set_cons_succ]
        refine wpAnyH_take (i := 20) (v := undef) rfl (by kernel_rfl) (by kernel_rfl) (by kernel_rfl) (fun _ _ _ h => h) (Or.inr ⟨by go_simp, rfl⟩) (by assumption) ?_
        try simp only [Act.put, List.getElem_toArray, List.getElem_cons_succ, List.getElem_cons_zero, List.setIfInBounds_toArray, List.set_cons_zero, List.set_cons_succ]
        refine wpAnyH_take (i := 21) (v := ?v16) rfl (by kernel_rfl) (by kernel_rfl) (by kernel_rfl) (fun _ _ _ h => h) (Or.inl ⟨by rfl, ?hy16⟩) (by assumption) ?_
        case hy16 =>
          intro w' hSw
          (try dsimp only at hSw)
          go_simp
          try (with_reducible rfl)
        try simp only [Act.put, List.getElem_toArray, List.getElem_cons_succ, List.getElem_cons_zero, List.setIfInBounds_toArray, List.set_cons_zero, List.set_cons_succ]
        refine wpAnyH_done (by kernel_rfl) ?_ _
        go_wp2_with fail
        go_meet
        exact ⟨by rw [HBAD.out, HD.out], HB3.out⟩
      · have a1 := HC1.out (by omega)
        have HCC := Lib.hid a1
        have hd2 : decide ((s0 : Int) < 2) = false := by rw [decide_eq_false_iff_not]; omega
        have hl1 : (1 : Int) < (s0 : Int) := by omega
        by_cases h3 : s0 < n1 + 2
        · have HD := Lib.hid (show decide (¬ headOk l) = true by rw [decide_eq_true_iff, HOK.out]; omega)
          have h4 : decide ((s0 : Int) < (n1 : Int) + 2) = true := by rw [decide_eq_true_iff]; omega
          clear hse h3 h2
          refine wp_region_held_drew (S := fun U => Below W.heap.size W U) (by kernel_rfl) ?hS17 (fun hHeld => ?_)
          case hS17 => first | with_reducible exact HB3.out | with_reducible exact HB2.out | with_reducible exact Below.refl _ _ | with_reducible exact (Below.refl _ _).drew
          refine wpAnyH_take (i := 0) (v := ?v18) rfl (by kernel_rfl) (by kernel_rfl) (by kernel_rfl) (fun _ _ _ h => h) (Or.inl ⟨by rfl, ?hy18⟩) (by assumption) ?_
          case hy18 =>
            intro w' hSw
            (try dsimp only at hSw)
            go_simp
            try (with_reducible rfl)
          try simp only [Act.put, List.getElem_toArray, List.getElem_cons_succ, List.getElem_cons_zero, List.setIfInBounds_toArray, List.set_cons_zero, List.set_cons_succ]
          refine wpAnyH_take (i := 2) (v := ?v19) rfl (by kernel_rfl) (by kernel_rfl) (by kernel_rfl) (fun _ _ _ h => h) (Or.inl ⟨by rfl, ?hy19⟩) (by assumption) ?_
          case hy19 =>
            intro w' hSw
            (try dsimp only at hSw)
            go_simp
            try (with_reducible rfl)
          try simp only [Act.put, List.getElem_toArray, List.getElem_cons_succ, List.getElem_cons_zero, List.setIfInBounds_toArray, List.set_cons_zero, List.set_cons_succ]
          refine wpAnyH_take (i := 3) (v := ?v20) rfl (by kernel_rfl) (by kernel_rfl) (by kernel_rfl) (fun _ _ _ h => h) (Or.inl ⟨by rfl, ?hy20⟩) (by assumption) ?_
          case hy20 =>
            intro w' hSw
            (try dsimp only at hSw)
            go_simp
            try (with_reducible rfl)
          try simp only [Act.put, List.getElem_toArray, List.getElem_cons_succ, List.getElem_cons_zero, List.setIfInBounds_toArray, List.set_cons_zero, List.set_cons_succ]
          refine wpAnyH_take (i := 4) (v := ?v21) rfl (by kernel_rfl) (by kernel_rfl) (by kernel_rfl) (fun _ _ _ h => h) (Or.inl ⟨by rfl, ?hy21⟩) (by assumption) ?_
          case hy21 =>
            intro w' hSw
            (try dsimp only at hSw)
            go_simp
            try (with_reducible rfl)
          try simp only [Act.put, List.getElem_toArray, List.getElem_cons_succ, List.getElem_cons_zero, List.setIfInBounds_toArray, List.set_cons_zero, List.set_cons_succ]
          refine wpAnyH_take (i := 5) (v := ?v22) rfl (by kernel_rfl) (by kernel_rfl) (by kernel_rfl) (fun _ _ _ h => h) (Or.inl ⟨by rfl, ?hy22⟩) (by assumption) ?_
          case hy22 =>
            intro w' hSw
            (try dsimp only at hSw)
            go_simp
            try (with_reducible rfl)
          try simp only [Act.put, List.getElem_toArray, List.getElem_cons_succ, List.getElem_cons_zero, List.setIfInBounds_toArray, List.set_cons_zero, List.set_cons_succ]
          refine wpAnyH_take (i := 6) (v := ?v23) rfl (by kernel_rfl) (by kernel_rfl) (by kernel_rfl) (fun _ _ _ h => h) (Or.inl ⟨by rfl, ?hy23⟩) (by assumption) ?_
          case hy23 =>
            intro w' hSw
            (try dsimp only at hSw)
            go_simp
            try (with_reducible rfl)
          try simp only [Act.put, List.getElem_toArray, List.getElem_cons_succ, List.getElem_cons_zero, List.setIfInBounds_toArray, List.set_cons_zero, List.set_cons_succ]
          refine wpAnyH_ready (rs := [1]) (by kernel_rfl) (by simp) ?_
          refine AllReadyH.cons rfl (fun K hK => ?_) AllReadyH.nil
          go_simp
          go_at_call 27
          refine calls_named ?_
          intro W2 hW2
          have hb2 : Below W.heap.size W W2 := by rw [hW2]; first | exact Below.refl _ _ | exact (Below.refl _ _).drew
          clear hW2
          have hs2 := jsum_any _ hd W2 (HO1.out.below (bthen HB0.out hb2)) (by have := HDL.out; omega)
          rw [HDL.out] at hs2
          refine hs2.mono ?_
          clear hs2
          rintro e w2 ⟨A5, c5, rfl, ho5, hb5⟩
          have HO2 := Lib.hid ho5
          have HB2 := Lib.hid (bthen hb2 hb5)
          clear ho5 hb2 hb5
          try go_simp
          refine hK.out _ _ ?hS24 (fun hHeld2 => ?_)
          case hS24 => first | with_reducible exact HB3.out | with_reducible exact HB2.out | with_reducible exact Below.refl _ _ | with_reducible exact (Below.refl _ _).drew
          clear hK K hHeld
          have hHeld := hHeld2
          clear hHeld2
          try simp only [Act.put, List.getElem_toArray, List.getElem_cons_succ, List.getElem_cons_zero, List.setIfInBounds_toArray, List.set_cons_zero, List.set_cons_succ]
          refine wpAnyH_ready (rs := [7]) (by kernel_rfl) (by simp) ?_
          refine AllReadyH.cons rfl (fun K hK => ?_) AllReadyH.nil
          go_simp
          go_at_call 33
          refine (bytesEqual_any _ _ (sealB hd) qd w2 (HO2.out.row eByte) (HO3.out.below (bthen HB0.out HB2.out))).mono ?_
          rw [HE.out]
          rintro e w3 ⟨rfl, hb4⟩
          have HB3 := Lib.hid (bthen HB2.out hb4)
          clear hb4
          try go_simp
          refine hK.out _ _ ?hS25 (fun hHeld2 => ?_)
          case hS25 => first | with_reducible exact HB3.out | with_reducible exact HB2.out | with_reducible exact Below.refl _ _ | with_reducible exact (Below.refl _ _).drew
          clear hK K hHeld
          have hHeld := hHeld2
          clear hHeld2
          try simp only [Act.put, List.getElem_toArray, List.getElem_cons_succ, List.getElem_cons_zero, List.setIfInBounds_toArray, List.set_cons_zero, List.set_cons_succ]
          refine wpAnyH_take (i := 8) (v := ?v26) rfl (by kernel_rfl) (by kernel_rfl) (by kernel_rfl) (fun _ _ _ h => h) (Or.inl ⟨by rfl, ?hy26⟩) (by assumption) ?_
          case hy26 =>
            intro w' hSw
            (try dsimp only at hSw)
            go_simp
            try (with_reducible rfl)
          try simp only [Act.put, List.getElem_toArray, List.getElem_cons_succ, List.getElem_cons_zero, List.setIfInBounds_toArray, List.set_cons_zero, List.set_cons_succ]
          refine wpAnyH_take (i := 9) (v := ?v27) rfl (by kernel_rfl) (by kernel_rfl) (by kernel_rfl) (fun _ _ _ h => h) (Or.inl ⟨by rfl, ?hy27⟩) (by assumption) ?_
          case hy27 =>
            intro w' hSw
            (try dsimp only at hSw)
            go_simp
            try (with_reducible rfl)
          try simp only [Act.put, List.getElem_toArray, List.getElem_cons_succ, List.getElem_cons_zero, List.setIfInBounds_toArray, List.set_cons_zero, List.set_cons_succ]
          refine wpAnyH_take (i := 10) (v := ?v28) rfl (by kernel_rfl) (by kernel_rfl) (by kernel_rfl) (fun _ _ _ h => h) (Or.inl ⟨by rfl, ?hy28⟩) (by assumption) ?_
          case hy28 =>
            intro w' hSw
            (try dsimp only at hSw)
            go_simp
            try (with_reducible rfl)
          try simp only [Act.put, List.getElem_toArray, List.getElem_cons_succ, List.getElem_cons_zero, List.setIfInBounds_toArray, List.set_cons_zero, List.set_cons_succ]
          refine wpAnyH_take (i := 11) (v := ?v29) rfl (by kernel_rfl) (by kernel_rfl) (by kernel_rfl) (fun _ _ _ h => h) (Or.inl ⟨by rfl, ?hy29⟩) (by assumption) ?_
          case hy29 =>
            intro w' hSw
            (try dsimp only at hSw)
            go_simp
            try (with_reducible rfl)
          try simp only [Act.put, List.getElem_toArray, List.getElem_cons_succ, List.getElem_cons_zero, List.setIfInBounds_toArray, List.set_cons_zero, List.set_cons_succ]
          refine wpAnyH_take (i := 12) (v := ?v30) rfl (by kernel_rfl) (by kernel_rfl) (by kernel_rfl) (fun _ _ _ h => h) (Or.inl ⟨by rfl, ?hy30⟩) (by assumption) ?_
          case hy30 =>
            intro w' hSw
            (try dsimp only at hSw)
            go_simp
            try (with_reducible rfl)
          try simp only [Act.put, List.getElem_toArray, List.getElem_cons_succ, List.getElem_cons_zero, List.setIfInBounds_toArray, List.set_cons_zero, List.set_cons_succ]
          refine wpAnyH_take (i := 13) (v := ?v31) rfl (by kernel_rfl) (by kernel_rfl) (by kernel_rfl) (fun _ _ _ h => h) (Or.inl ⟨by rfl, ?hy31⟩) (by assumption) ?_
          case hy31 =>
            intro w' hSw
            (try dsimp only at hSw)
            go_simp
            try (with_reducible rfl)
          try simp only [Act.put, List.getElem_toArray, List.getElem_cons_succ, List.getElem_cons_zero, List.setIfInBounds_toArray, List.set_cons_zero, List.set_cons_succ]
          refine wpAnyH_take (i := 14) (v := ?v32) rfl (by kernel_rfl) (by kernel_rfl) (by kernel_rfl) (fun _ _ _ h => h) (Or.inl ⟨by rfl, ?hy32⟩) (by assumption) ?_
          case hy32 =>
            intro w' hSw
            (try dsimp only at hSw)
            go_simp
            try (with_reducible rfl)
          try simp only [Act.put, List.getElem_toArray, List.getElem_cons_succ, List.getElem_cons_zero, List.setIfInBounds_toArray, List.set_cons_zero, List.set_cons_succ]
          refine wpAnyH_take (i := 15) (v := ?v33) rfl (by kernel_rfl) (by kernel_rfl) (by kernel_rfl) (fun _ _ _ h => h) (Or.inl ⟨by rfl, ?hy33⟩) (by assumption) ?_
          case hy33 =>
            intro w' hSw
            (try dsimp only at hSw)
            go_simp
            try (with_reducible rfl)
          try simp only [Act.put, List.getElem_toArray, List.getElem_cons_succ, List.getElem_cons_zero, List.setIfInBounds_toArray, List.set_cons_zero, List.set_cons_succ]
          refine wpAnyH_take (i := 16) (v := ?v34) rfl (by kernel_rfl) (by kernel_rfl) (by kernel_rfl) (fun _ _ _ h => h) (Or.inl ⟨by rfl, ?hy34⟩) (by assumption) ?_
          case hy34 =>
            intro w' hSw
            (try dsimp only at hSw)
            have a9 := ((bthen HB0.out hSw).cell (p := ⟨b1, o1 + 1, none⟩) hb1).trans HCC.out
            go_simp
            try (with_reducible rfl)
          try simp only [Act.put, List.getElem_toArray, List.getElem_cons_succ, List.getElem_cons_zero, List.setIfInBounds_toArray, List.set_cons_zero, List.set_cons_succ]
          refine wpAnyH_take (i := 17) (v := ?v35) rfl (by kernel_rfl) (by kernel_rfl) (by kernel_rfl) (fun _ _ _ h => h) (Or.inl ⟨by rfl, ?hy35⟩) (by assumption) ?_
          case hy35 =>
            intro w' hSw
            (try dsimp only at hSw)
            go_simp
            try (with_reducible rfl)
          try simp only [Act.put, List.getElem_toArray, List.getElem_cons_succ, List.getElem_cons_zero, List.setIfInBounds_toArray, List.set_cons_zero, List.set_cons_succ]
          refine wpAnyH_take (i := 18) (v := ?v36) rfl (by kernel_rfl) (by kernel_rfl) (by kernel_rfl) (fun _ _ _ h => h) (Or.inl ⟨by rfl, ?hy36⟩) (by assumption) ?_
          case hy36 =>
            intro w' hSw
            (try dsimp only at hSw)
            go_simp
            try (with_reducible rfl)
          try simp only [Act.put, List.getElem_toArray, List.getElem_cons_succ, List.getElem_cons_zero, List.setIfInBounds_toArray, List.set_cons_zero, List.set_cons_succ]
          refine wpAnyH_take (i := 19) (v := ?v37) rfl (by kernel_rfl) (by kernel_rfl) (by kernel_rfl) (fun _ _ _ h => h) (Or.inl ⟨by rfl, ?hy37⟩) (by assumption) ?_
          case hy37 =>
            intro w' hSw
            (try dsimp only at hSw)
            go_simp
            try (with_reducible rfl)
          try simp only [Act.put, List.getElem_toArray, List.getElem_cons_succ, List.getElem_cons_zero, List.setIfInBounds_toArray, List.set_cons_zero, List.set_cons_succ]
          refine wpAnyH_take (i := 20) (v := ?v38) rfl (by kernel_rfl) (by kernel_rfl) (by kernel_rfl) (fun _ _ _ h => h) (Or.inl ⟨by rfl, ?hy38⟩) (by assumption) ?_
          case hy38 =>
            intro w' hSw
            (try dsimp only at hSw)
            go_simp
            try (with_reducible rfl)
          try simp only [Act.put, List.getElem_toArray, List.getElem_cons_succ, List.getElem_cons_zero, List.setIfInBounds_toArray, List.set_cons_zero, List.set_cons_succ]
          refine wpAnyH_take (i := 21) (v := ?v39) rfl (by kernel_rfl) (by kernel_rfl) (by kernel_rfl) (fun _ _ _ h => h) (Or.inl ⟨by rfl, ?hy39⟩) (by assumption) ?_
          case hy39 =>
            intro w' hSw
            (try dsimp only at hSw)
            go_simp
            try (with_reducible rfl)
          try simp only [Act.put, List.getElem_toArray, List.getElem_cons_succ, List.getElem_cons_zero, List.setIfInBounds_toArray, List.set_cons_zero, List.set_cons_succ]
          refine wpAnyH_done (by kernel_rfl) ?_ _
          go_wp2_with fail
          go_meet
          exact ⟨by rw [HBAD.out, HD.out], HB3.out⟩
        · have HD := Lib.hid (show decide (¬ headOk l) = false by rw [decide_eq_false_iff_not, Decidable.not_not, HOK.out]; exact ⟨hse, by omega, by omega⟩)
          have h4 : decide ((s0 : Int) < (n1 : Int) + 2) = false := by rw [decide_eq_false_iff_not]; omega
          clear hse h3 h2
          refine wp_region_held_drew (S := fun U => Below W.heap.size W U) (by kernel_rfl) ?hS40 (fun hHeld => ?_)
          case hS40 => first | with_reducible exact HB3.out | with_reducible exact HB2.out | with_reducible exact Below.refl _ _ | with_reducible exact (Below.refl _ _).drew
          refine wpAnyH_take (i := 0) (v := ?v41) rfl (by kernel_rfl) (by kernel_rfl) (by kernel_rfl) (fun _ _ _ h => h) (Or.inl ⟨by rfl, ?hy41⟩) (by assumption) ?_
          case hy41 =>
            intro w' hSw
            (try dsimp only at hSw)
            go_simp
            try (with_reducible rfl)
          try simp only [Act.put, List.getElem_toArray, List.getElem_cons_succ, List.getElem_cons_zero, List.setIfInBounds_toArray, List.set_cons_zero, List.set_cons_succ]
          refine wpAnyH_take (i := 2) (v := ?v42) rfl (by kernel_rfl) (by kernel_rfl) (by kernel_rfl) (fun _ _ _ h => h) (Or.inl ⟨by rfl, ?hy42⟩) (by assumption) ?_
          case hy42 =>
            intro w' hSw
            (try dsimp only at hSw)
            go_simp
            try (with_reducible rfl)
          try simp only [Act.put, List.getElem_toArray, List.getElem_cons_succ, List.getElem_cons_zero, List.setIfInBounds_toArray, List.set_cons_zero, List.set_cons_succ]
          refine wpAnyH_take (i := 3) (v := ?v43) rfl (by kernel_rfl) (by kernel_rfl) (by kernel_rfl) (fun _ _ _ h => h) (Or.inl ⟨by rfl, ?hy43⟩) (by assumption) ?_
          case hy43 =>
            intro w' hSw
            (try dsimp only at hSw)
            go_simp
            try (with_reducible rfl)
          try simp only [Act.put, List.getElem_toArray, List.getElem_cons_succ, List.getElem_cons_zero, List.setIfInBounds_toArray, List.set_cons_zero, List.set_cons_succ]
          refine wpAnyH_take (i := 4) (v := ?v44) rfl (by kernel_rfl) (by kernel_rfl) (by kernel_rfl) (fun _ _ _ h => h) (Or.inl ⟨by rfl, ?hy44⟩) (by assumption) ?_
          case hy44 =>
            intro w' hSw
            (try dsimp only at hSw)
            go_simp
            try (with_reducible rfl)
          try simp only [Act.put, List.getElem_toArray, List.getElem_cons_succ, List.getElem_cons_zero, List.setIfInBounds_toArray, List.set_cons_zero, List.set_cons_succ]
          refine wpAnyH_take (i := 5) (v := ?v45) rfl (by kernel_rfl) (by kernel_rfl) (by kernel_rfl) (fun _ _ _ h => h) (Or.inl ⟨by rfl, ?hy45⟩) (by assumption) ?_
          case hy45 =>
            intro w' hSw
            (try dsimp only at hSw)
            go_simp
            try (with_reducible rfl)
          try simp only [Act.put, List.getElem_toArray, List.getElem_cons_succ, List.getElem_cons_zero, List.setIfInBounds_toArray, List.set_cons_zero, List.set_cons_succ]
          refine wpAnyH_take (i := 6) (v := ?v46) rfl (by kernel_rfl) (by kernel_rfl) (by kernel_rfl) (fun _ _ _ h => h) (Or.inl ⟨by rfl, ?hy46⟩) (by assumption) ?_
          case hy46 =>
            intro w' hSw
            (try dsimp only at hSw)
            go_simp
            try (with_reducible rfl)
          try simp only [Act.put, List.getElem_toArray, List.getElem_cons_succ, List.getElem_cons_zero, List.setIfInBounds_toArray, List.set_cons_zero, List.set_cons_succ]
          refine wpAnyH_ready (rs := [1]) (by kernel_rfl) (by simp) ?_
          refine AllReadyH.cons rfl (fun K hK => ?_) AllReadyH.nil
          go_simp
          go_at_call 27
          refine calls_named ?_
          intro W2 hW2
          have hb2 : Below W.heap.size W W2 := by rw [hW2]; first | exact Below.refl _ _ | exact (Below.refl _ _).drew
          clear hW2
          have hs2 := jsum_any _ hd W2 (HO1.out.below (bthen HB0.out hb2)) (by have := HDL.out; omega)
          rw [HDL.out] at hs2
          refine hs2.mono ?_
          clear hs2
          rintro e w2 ⟨A5, c5, rfl, ho5, hb5⟩
          have HO2 := Lib.hid ho5
          have HB2 := Lib.hid (bthen hb2 hb5)
          clear ho5 hb2 hb5
          try go_simp
          refine hK.out _ _ ?hS47 (fun hHeld2 => ?_)
          case hS47 => first | with_reducible exact HB3.out | with_reducible exact HB2.out | with_reducible exact Below.refl _ _ | with_reducible exact (Below.refl _ _).drew
          clear hK K hHeld
          have hHeld := hHeld2
          clear hHeld2
          try simp only [Act.put, List.getElem_toArray, List.getElem_cons_succ, List.getElem_cons_zero, List.setIfInBounds_toArray, List.set_cons_zero, List.set_cons_succ]
          refine wpAnyH_ready (rs := [7]) (by kernel_rfl) (by simp) ?_
          refine AllReadyH.cons rfl (fun K hK => ?_) AllReadyH.nil
          go_simp
          go_at_call 33
          refine (bytesEqual_any _ _ (sealB hd) qd w2 (HO2.out.row eByte) (HO3.out.below (bthen HB0.out HB2.out))).mono ?_
          rw [HE.out]
          rintro e w3 ⟨rfl, hb4⟩
          have HB3 := Lib.hid (bthen HB2.out hb4)
          clear hb4
          try go_simp
          refine hK.out _ _ ?hS48 (fun hHeld2 => ?_)
          case hS48 => first | with_reducible exact HB3.out | with_reducible exact HB2.out | with_reducible exact Below.refl _ _ | with_reducible exact (Below.refl _ _).drew
          clear hK K hHeld
          have hHeld := hHeld2
          clear hHeld2
          try simp only [Act.put, List.getElem_toArray, List.getElem_cons_succ, List.getElem_cons_zero, List.setIfInBounds_toArray, List.set_cons_zero, List.set_cons_succ]
          refine wpAnyH_take (i := 8) (v := ?v49) rfl (by kernel_rfl) (by kernel_rfl) (by kernel_rfl) (fun _ _ _ h => h) (Or.inl ⟨by rfl, ?hy49⟩) (by assumption) ?_
          case hy49 =>
            intro w' hSw
            (try dsimp only at hSw)
            go_simp
            try (with_reducible rfl)
          try simp only [Act.put, List.getElem_toArray, List.getElem_cons_succ, List.getElem_cons_zero, List.setIfInBounds_toArray, List.set_cons_zero, List.set_cons_succ]
          refine wpAnyH_take (i := 9) (v := ?v50) rfl (by kernel_rfl) (by kernel_rfl) (by kernel_rfl) (fun _ _ _ h => h) (Or.inl ⟨by rfl, ?hy50⟩) (by assumption) ?_
          case hy50 =>
            intro w' hSw
            (try dsimp only at hSw)
            go_simp
            try (with_reducible rfl)
          try simp only [Act.put, List.getElem_toArray, List.getElem_cons_succ, List.getElem_cons_zero, List.setIfInBounds_toArray, List.set_cons_zero, List.set_cons_succ]
          refine wpAnyH_take (i := 10) (v := ?v51) rfl (by kernel_rfl) (by kernel_rfl) (by kernel_rfl) (fun _ _ _ h => h) (Or.inl ⟨by rfl, ?hy51⟩) (by assumption) ?_
          case hy51 =>
            intro w' hSw
            (try dsimp only at hSw)
            go_simp
            try (with_reducible rfl)
          try simp only [Act.put, List.getElem_toArray, List.getElem_cons_succ, List.getElem_cons_zero, List.setIfInBounds_toArray, List.set_cons_zero, List.set_cons_succ]
          refine wpAnyH_take (i := 11) (v := ?v52) rfl (by kernel_rfl) (by kernel_rfl) (by kernel_rfl) (fun _ _ _ h => h) (Or.inl ⟨by rfl, ?hy52⟩) (by assumption) ?_
          case hy52 =>
            intro w' hSw
            (try dsimp only at hSw)
            go_simp
            try (with_reducible rfl)
          try simp only [Act.put, List.getElem_toArray, List.getElem_cons_succ, List.getElem_cons_zero, List.setIfInBounds_toArray, List.set_cons_zero, List.set_cons_succ]
          refine wpAnyH_take (i := 12) (v := ?v53) rfl (by kernel_rfl) (by kernel_rfl) (by kernel_rfl) (fun _ _ _ h => h) (Or.inl ⟨by rfl, ?hy53⟩) (by assumption) ?_
          case hy53 =>
            intro w' hSw
            (try dsimp only at hSw)
            go_simp
            try (with_reducible rfl)
          try simp only [Act.put, List.getElem_toArray, List.getElem_cons_succ, List.getElem_cons_zero, List.setIfInBounds_toArray, List.set_cons_zero, List.set_cons_succ]
          refine wpAnyH_take (i := 13) (v := ?v54) rfl (by kernel_rfl) (by kernel_rfl) (by kernel_rfl) (fun _ _ _ h => h) (Or.inl ⟨by rfl, ?hy54⟩) (by assumption) ?_
          case hy54 =>
            intro w' hSw
            (try dsimp only at hSw)
            go_simp
            try (with_reducible rfl)
          try simp only [Act.put, List.getElem_toArray, List.getElem_cons_succ, List.getElem_cons_zero, List.setIfInBounds_toArray, List.set_cons_zero, List.set_cons_succ]
          refine wpAnyH_take (i := 14) (v := ?v55) rfl (by kernel_rfl) (by kernel_rfl) (by kernel_rfl) (fun _ _ _ h => h) (Or.inl ⟨by rfl, ?hy55⟩) (by assumption) ?_
          case hy55 =>
            intro w' hSw
            (try dsimp only at hSw)
            go_simp
            try (with_reducible rfl)
          try simp only [Act.put, List.getElem_toArray, List.getElem_cons_succ, List.getElem_cons_zero, List.setIfInBounds_toArray, List.set_cons_zero, List.set_cons_succ]
          refine wpAnyH_take (i := 15) (v := ?v56) rfl (by kernel_rfl) (by kernel_rfl) (by kernel_rfl) (fun _ _ _ h => h) (Or.inl ⟨by rfl, ?hy56⟩) (by assumption) ?_
          case hy56 =>
            intro w' hSw
            (try dsimp only at hSw)
            go_simp
            try (with_reducible rfl)
          try simp only [Act.put, List.getElem_toArray, List.getElem_cons_succ, List.getElem_cons_zero, List.setIfInBounds_toArray, List.set_cons_zero, List.set_cons_succ]
          refine wpAnyH_take (i := 16) (v := ?v57) rfl (by kernel_rfl) (by kernel_rfl) (by kernel_rfl) (fun _ _ _ h => h) (Or.inl ⟨by rfl, ?hy57⟩) (by assumption) ?_
          case hy57 =>
            intro w' hSw
            (try dsimp only at hSw)
            have a9 := ((bthen HB0.out hSw).cell (p := ⟨b1, o1 + 1, none⟩) hb1).trans HCC.out
            go_simp
            try (with_reducible rfl)
          try simp only [Act.put, List.getElem_toArray, List.getElem_cons_succ, List.getElem_cons_zero, List.setIfInBounds_toArray, List.set_cons_zero, List.set_cons_succ]
          refine wpAnyH_take (i := 17) (v := ?v58) rfl (by kernel_rfl) (by kernel_rfl) (by kernel_rfl) (fun _ _ _ h => h) (Or.inl ⟨by rfl, ?hy58⟩) (by assumption) ?_
          case hy58 =>
            intro w' hSw
            (try dsimp only at hSw)
            go_simp
            try (with_reducible rfl)
          try simp only [Act.put, List.getElem_toArray, List.getElem_cons_succ, List.getElem_cons_zero, List.setIfInBounds_toArray, List.set_cons_zero, List.set_cons_succ]
          refine wpAnyH_take (i := 18) (v := ?v59) rfl (by kernel_rfl) (by kernel_rfl) (by kernel_rfl) (fun _ _ _ h => h) (Or.inl ⟨by rfl, ?hy59⟩) (by assumption) ?_
          case hy59 =>
            intro w' hSw
            (try dsimp only at hSw)
            go_simp
            try (with_reducible rfl)
          try simp only [Act.put, List.getElem_toArray, List.getElem_cons_succ, List.getElem_cons_zero, List.setIfInBounds_toArray, List.set_cons_zero, List.set_cons_succ]
          refine wpAnyH_take (i := 19) (v := ?v60) rfl (by kernel_rfl) (by kernel_rfl) (by kernel_rfl) (fun _ _ _ h => h) (Or.inl ⟨by rfl, ?hy60⟩) (by assumption) ?_
          case hy60 =>
            intro w' hSw
            (try dsimp only at hSw)
            go_simp
            try (with_reducible rfl)
          try simp only [Act.put, List.getElem_toArray, List.getElem_cons_succ, List.getElem_cons_zero, List.setIfInBounds_toArray, List.set_cons_zero, List.set_cons_succ]
          refine wpAnyH_take (i := 20) (v := ?v61) rfl (by kernel_rfl) (by kernel_rfl) (by kernel_rfl) (fun _ _ _ h => h) (Or.inl ⟨by rfl, ?hy61⟩) (by assumption) ?_
          case hy61 =>
            intro w' hSw
            (try dsimp only at hSw)
            go_simp
            try (with_reducible rfl)
          try simp only [Act.put, List.getElem_toArray, List.getElem_cons_succ, List.getElem_cons_zero, List.setIfInBounds_toArray, List.set_cons_zero, List.set_cons_succ]
          refine wpAnyH_take (i := 21) (v := ?v62) rfl (by kernel_rfl) (by kernel_rfl) (by kernel_rfl) (fun _ _ _ h => h) (Or.inl ⟨by rfl, ?hy62⟩) (by assumption) ?_
          case hy62 =>
            intro w' hSw
            (try dsimp only at hSw)
            go_simp
            try (with_reducible rfl)
          try simp only [Act.put, List.getElem_toArray, List.getElem_cons_succ, List.getElem_cons_zero, List.setIfInBounds_toArray, List.set_cons_zero, List.set_cons_succ]
          refine wpAnyH_done (by kernel_rfl) ?_ _
          go_wp2_with fail
          go_meet
          exact ⟨by rw [HBAD.out, HD.out], HB3.out⟩
    · have HE := Lib.hid (show (sealB hd == qd) = false by simp [hse])
      have HD := Lib.hid (show decide (¬ headOk l) = true by rw [decide_eq_true_iff, HOK.out]; exact fun h => hse h.1)
      clear hse
      refine wp_region_held_drew (S := fun U => Below W.heap.size W U) (by kernel_rfl) ?hS63 (fun hHeld => ?_)
      case hS63 => first | with_reducible exact HB3.out | with_reducible exact HB2.out | with_reducible exact Below.refl _ _ | with_reducible exact (Below.refl _ _).drew
      refine wpAnyH_take (i := 0) (v := ?v64) rfl (by kernel_rfl) (by kernel_rfl) (by kernel_rfl) (fun _ _ _ h => h) (Or.inl ⟨by rfl, ?hy64⟩) (by assumption) ?_
      case hy64 =>
        intro w' hSw
        (try dsimp only at hSw)
        go_simp
        try (with_reducible rfl)
      try simp only [Act.put, List.getElem_toArray, List.getElem_cons_succ, List.getElem_cons_zero, List.setIfInBounds_toArray, List.set_cons_zero, List.set_cons_succ]
      refine wpAnyH_take (i := 2) (v := ?v65) rfl (by kernel_rfl) (by kernel_rfl) (by kernel_rfl) (fun _ _ _ h => h) (Or.inl ⟨by rfl, ?hy65⟩) (by assumption) ?_
      case hy65 =>
        intro w' hSw
        (try dsimp only at hSw)
        go_simp
        try (with_reducible rfl)
      try simp only [Act.put, List.getElem_toArray, List.getElem_cons_succ, List.getElem_cons_zero, List.setIfInBounds_toArray, List.set_cons_zero, List.set_cons_succ]
      refine wpAnyH_take (i := 3) (v := ?v66) rfl (by kernel_rfl) (by kernel_rfl) (by kernel_rfl) (fun _ _ _ h => h) (Or.inl ⟨by rfl, ?hy66⟩) (by assumption) ?_
      case hy66 =>
        intro w' hSw
        (try dsimp only at hSw)
        go_simp
        try (with_reducible rfl)
      try simp only [Act.put, List.getElem_toArray, List.getElem_cons_succ, List.getElem_cons_zero, List.setIfInBounds_toArray, List.set_cons_zero, List.set_cons_succ]
      refine wpAnyH_take (i := 4) (v := ?v67) rfl (by kernel_rfl) (by kernel_rfl) (by kernel_rfl) (fun _ _ _ h => h) (Or.inl ⟨by rfl, ?hy67⟩) (by assumption) ?_
      case hy67 =>
        intro w' hSw
        (try dsimp only at hSw)
        go_simp
        try (with_reducible rfl)
      try simp only [Act.put, List.getElem_toArray, List.getElem_cons_succ, List.getElem_cons_zero, List.setIfInBounds_toArray, List.set_cons_zero, List.set_cons_succ]
      refine wpAnyH_take (i := 5) (v := ?v68) rfl (by kernel_rfl) (by kernel_rfl) (by kernel_rfl) (fun _ _ _ h => h) (Or.inl ⟨by rfl, ?hy68⟩) (by assumption) ?_
      case hy68 =>
        intro w' hSw
        (try dsimp only at hSw)
        go_simp
        try (with_reducible rfl)
      try simp only [Act.put, List.getElem_toArray, List.getElem_cons_succ, List.getElem_cons_zero, List.setIfInBounds_toArray, List.set_cons_zero, List.set_cons_succ]
      refine wpAnyH_take (i := 6) (v := ?v69) rfl (by kernel_rfl) (by kernel_rfl) (by kernel_rfl) (fun _ _ _ h => h) (Or.inl ⟨by rfl, ?hy69⟩) (by assumption) ?_
      case hy69 =>
        intro w' hSw
        (try dsimp only at hSw)
        go_simp
        try (with_reducible rfl)
      try simp only [Act.put, List.getElem_toArray, List.getElem_cons_succ, List.getElem_cons_zero, List.setIfInBounds_toArray, List.set_cons_zero, List.set_cons_succ]
      refine wpAnyH_ready (rs := [1]) (by kernel_rfl) (by simp) ?_
      refine AllReadyH.cons rfl (fun K hK => ?_) AllReadyH.nil
      go_simp
      go_at_call 27
      refine calls_named ?_
      intro W2 hW2
      have hb2 : Below W.heap.size W W2 := by rw [hW2]; first | exact Below.refl _ _ | exact (Below.refl _ _).drew
      clear hW2
      have hs2 := jsum_any _ hd W2 (HO1.out.below (bthen HB0.out hb2)) (by have := HDL.out; omega)
      rw [HDL.out] at hs2
      refine hs2.mono ?_
      clear hs2
      rintro e w2 ⟨A5, c5, rfl, ho5, hb5⟩
      have HO2 := Lib.hid ho5
      have HB2 := Lib.hid (bthen hb2 hb5)
      clear ho5 hb2 hb5
      try go_simp
      refine hK.out _ _ ?hS70 (fun hHeld2 => ?_)
      case hS70 => first | with_reducible exact HB3.out | with_reducible exact HB2.out | with_reducible exact Below.refl _ _ | with_reducible exact (Below.refl _ _).drew
      clear hK K hHeld
      have hHeld := hHeld2
      clear hHeld2
      try simp only [Act.put, List.getElem_toArray, List.getElem_cons_succ, List.getElem_cons_zero, List.setIfInBounds_toArray, List.set_cons_zero, List.set_cons_succ]
      refine wpAnyH_ready (rs := [7]) (by kernel_rfl) (by simp) ?_
      refine AllReadyH.cons rfl (fun K hK => ?_) AllReadyH.nil
      go_simp
      go_at_call 33
      refine (bytesEqual_any _ _ (sealB hd) qd w2 (HO2.out.row eByte) (HO3.out.below (bthen HB0.out HB2.out))).mono ?_
      rw [HE.out]
      rintro e w3 ⟨rfl, hb4⟩
      have HB3 := Lib.hid (bthen HB2.out hb4)
      clear hb4
      try go_simp
      refine hK.out _ _ ?hS71 (fun hHeld2 => ?_)
      case hS71 => first | with_reducible exact HB3.out | with_reducible exact HB2.out | with_reducible exact Below.refl _ _ | with_reducible exact (Below.refl _ _).drew
      clear hK K hHeld
      have hHeld := hHeld2
      clear hHeld2
      try simp only [Act.put, List.getElem_toArray, List.getElem_cons_succ, List.getElem_cons_zero, List.setIfInBounds_toArray, List.set_cons_zero, List.set_cons_succ]
      refine wpAnyH_take (i := 8) (v := ?v72) rfl (by kernel_rfl) (by kernel_rfl) (by kernel_rfl) (fun _ _ _ h => h) (Or.inl ⟨by rfl, ?hy72⟩) (by assumption) ?_
      case hy72 =>
        intro w' hSw
        (try dsimp only at hSw)
        go_simp
        try (with_reducible rfl)
      try simp only [Act.put, List.getElem_toArray, List.getElem_cons_succ, List.getElem_cons_zero, List.setIfInBounds_toArray, List.set_cons_zero, List.set_cons_succ]
      refine wpAnyH_take (i := 9) (v := ?v73) rfl (by kernel_rfl) (by kernel_rfl) (by kernel_rfl) (fun _ _ _ h => h) (Or.inl ⟨by rfl, ?hy73⟩) (by assumption) ?_
      case hy73 =>
        intro w' hSw
        (try dsimp only at hSw)
        go_simp
        try (with_reducible rfl)
      try simp only [Act.put, List.getElem_toArray, List.getElem_cons_succ, List.getElem_cons_zero, List.setIfInBounds_toArray, List.set_cons_zero, List.set_cons_succ]
      refine wpAnyH_take (i := 10) (v := undef) rfl (by kernel_rfl) (by kernel_rfl) (by kernel_rfl) (fun _ _ _ h => h) (Or.inr ⟨by go_simp, rfl⟩) (by assumption) ?_
      try simp only [Act.put, List.getElem_toArray, List.getElem_cons_succ, List.getElem_cons_zero, List.setIfInBounds_toArray, List.set_cons_zero, List.set_cons_succ]
      refine wpAnyH_take (i := 11) (v := undef) rfl (by kernel_rfl) (by kernel_rfl) (by kernel_rfl) (fun _ _ _ h => h) (Or.inr ⟨by go_simp, rfl⟩) (by assumption) ?_
      try simp only [Act.put, List.getElem_toArray, List.getElem_cons_succ, List.getElem_cons_zero, List.setIfInBounds_toArray, List.set_cons_zero, List.set_cons_succ]
      refine wpAnyH_take (i := 12) (v := ?v74) rfl (by kernel_rfl) (by kernel_rfl) (by kernel_rfl) (fun _ _ _ h => h) (Or.inl ⟨by rfl, ?hy74⟩) (by assumption) ?_
      case hy74 =>
        intro w' hSw
        (try dsimp only at hSw)
        go_simp
        try (with_reducible rfl)
      try simp only [Act.put, List.getElem_toArray, List.getElem_cons_succ, List.getElem_cons_zero, List.setIfInBounds_toArray, List.set_cons_zero, List.set_cons_succ]
      refine wpAnyH_take (i := 13) (v := ?v75) rfl (by kernel_rfl) (by kernel_rfl) (by kernel_rfl) (fun _ _ _ h => h) (Or.inl ⟨by rfl, ?hy75⟩) (by assumption) ?_
      case hy75 =>
        intro w' hSw
        (try dsimp only at hSw)
        go_simp
        try (with_reducible rfl)
      try simp only [Act.put, List.getElem_toArray, List.getElem_cons_succ, List.getElem_cons_zero, List.setIfInBounds_toArray, List.set_cons_zero, List.set_cons_succ]
      refine wpAnyH_take (i := 14) (v := undef) rfl (by kernel_rfl) (by kernel_rfl) (by kernel_rfl) (fun _ _ _ h => h) (Or.inr ⟨by go_simp, rfl⟩) (by assumption) ?_
      try simp only [Act.put, List.getElem_toArray, List.getElem_cons_succ, List.getElem_cons_zero, List.setIfInBounds_toArray, List.set_cons_zero, List.set_cons_succ]
      refine wpAnyH_take (i := 15) (v := undef) rfl (by kernel_rfl) (by kernel_rfl) (by kernel_rfl) (fun _ _ _ h => h) (Or.inr ⟨by go_simp, rfl⟩) (by assumption) ?_
      try simp only [Act.put, List.getElem_toArray, List.getElem_cons_succ, List.getElem_cons_zero, List.setIfInBounds_toArray, List.set_cons_zero, List.set_cons_succ]
      refine wpAnyH_take (i := 16) (v := undef) rfl (by kernel_rfl) (by kernel_rfl) (by kernel_rfl) (fun _ _ _ h => h) (Or.inr ⟨by go_simp, rfl⟩) (by assumption) ?_
      try simp only [Act.put, List.getElem_toArray, List.getElem_cons_succ, List.getElem_cons_zero, List.setIfInBounds_toArray, List.set_cons_zero, List.set_cons_succ]
      refine wpAnyH_take (i := 17) (v := undef) rfl (by kernel_rfl) (by kernel_rfl) (by kernel_rfl) (fun _ _ _ h => h) (Or.inr ⟨by go_simp, rfl⟩) (by assumption) ?_
      try simp only [Act.put, List.getElem_toArray, List.getElem_cons_succ, List.getElem_cons_zero, List.setIfInBounds_toArray, List.set_cons_zero, List.set_cons_succ]
      refine wpAnyH_take (i := 18) (v := undef) rfl (by kernel_rfl) (by kernel_rfl) (by kernel_rfl) (fun _ _ _ h => h) (Or.inr ⟨by go_simp, rfl⟩) (by assumption) ?_
      try simp only [Act.put, List.getElem_toArray, List.getElem_cons_succ, List.getElem_cons_zero, List.setIfInBounds_toArray, List.set_cons_zero, List.set_cons_succ]
      refine wpAnyH_take (i := 19) (v := undef) rfl (by kernel_rfl) (by kernel_rfl) (by kernel_rfl) (fun _ _ _ h => h) (Or.inr ⟨by go_simp, rfl⟩) (by assumption) ?_
      try simp only [Act.put, List.getElem_toArray, List.getElem_cons_succ, List.getElem_cons_zero, List.setIfInBounds_toArray, List.set_cons_zero, List.set_cons_succ]
      refine wpAnyH_take (i := 20) (v := undef) rfl (by kernel_rfl) (by kernel_rfl) (by kernel_rfl) (fun _ _ _ h => h) (Or.inr ⟨by go_simp, rfl⟩) (by assumption) ?_
      try simp only [Act.put, List.getElem_toArray, List.getElem_cons_succ, List.getElem_cons_zero, List.setIfInBounds_toArray, List.set_cons_zero, List.set_cons_succ]
      refine wpAnyH_take (i := 21) (v := ?v76) rfl (by kernel_rfl) (by kernel_rfl) (by kernel_rfl) (fun _ _ _ h => h) (Or.inl ⟨by rfl, ?hy76⟩) (by assumption) ?_
      case hy76 =>
        intro w' hSw
        (try dsimp only at hSw)
        go_simp
        try (with_reducible rfl)
      try simp only [Act.put, List.getElem_toArray, List.getElem_cons_succ, List.getElem_cons_zero, List.setIfInBounds_toArray, List.set_cons_zero, List.set_cons_succ]
      refine wpAnyH_done (by kernel_rfl) ?_ _
      go_wp2_with fail
      go_meet
      exact ⟨by rw [HBAD.out, HD.out], HB3.out⟩
  case rest =>
    obtain ⟨rfl, hbc⟩ := hcut
    obtain ⟨a1, a1f, a1l⟩ := box_cells hbc HX0.out
    have HXC := Lib.hid ((hbc.block _ (Array.getElem?_eq_some_iff.1 HX0.out).1).trans HX0.out)
    have HBC := Lib.hid hbc
    have hbw := bthen HB0.out hbc
    have HBW := Lib.hid hbw
    clear hbc
    by_cases hok : headOk l
    · obtain rfl : bad = false := by rw [HBAD.out, decide_eq_false_iff_not, Decidable.not_not]; exact hok
      have hg2 := HG.out
      rw [if_neg (by rw [Decidable.not_not]; exact hok)] at hg2
      have hk := HOK.out.1 hok
      have a2 := (hbw.cell (p := ⟨b1, o1 + 1, none⟩) hb1).trans (HC1.out hk.2.1)
      obtain ⟨j0, hj0⟩ : ∃ j, j = 2 + n1 := ⟨_, rfl⟩
      have hjs : j0 ≤ s0 := by omega
      have hl1 : (1 : Int) < (s0 : Int) := by omega
      have ho := HO1.out.below hbw
      obtain ⟨m5, A5, c5, hm5, hr5, ho5⟩ := row_mid eByte ho 2 j0 (by omega) (by rw [HDL.out]; exact hjs)
      obtain ⟨m6, A6, c6, hm6, hr6, ho6⟩ := row_from eByte ho j0 (by rw [HDL.out]; exact hjs)
      rw [HDL.out] at hr5 hr6
      replace hr5 : ∀ w' : World, (Instr.sliceAt 27 (.slice (some ⟨b1, o1, none⟩) s0 s0) (some (.int .i64 2)) (some (.int .i64 (j0 : Nat))) none).run Tryd.prog w' = .ok (.slice A5 m5.length c5) w' := hr5
      have hcv := bytes_str ho5
      have hid : idG l = ⟨m5.toArray⟩ := by unfold idG; rw [HH.out, ← HN1.out, ← hj0, hm5]
      have hnm : numsG l = allB m6 := by unfold numsG; rw [HH.out, ← HN1.out, ← hj0, hm6]
      have hsz : (⟨m5.toArray⟩ : ByteArray).size = n1 := by
        show m5.toArray.size = n1
        have := HDL.out
        rw [hm5]
        simp
        omega
      have q5 : (2 : Int) + (n1 : Int) = (j0 : Nat) := by omega
      have q6 : (n1 : Int) + 2 = (j0 : Nat) := by omega
      have hl6 : m6.length ≤ 1000000 := by rw [hm6]; have := HDL.out; simp; omega
      have HO6 := Lib.hid ho6
      have HL6 := Lib.hid hl6
      obtain ⟨idv, hidv⟩ : ∃ i : ByteArray, i = ⟨m5.toArray⟩ := ⟨_, rfl⟩
      rw [← hidv] at hcv hsz hid
      rw [hnm] at hg2
      have HID := Lib.hid hid
      have hg3 : ∀ ns, callG l ns = if ns = [] then (callZ, 0, 10) else if textE (callN ns idv) = 0 ∧ putB (callN ns idv) = ft then (callN ns idv, s4, 0) else (callZ, 0, 10) := fun ns => by
        unfold callG
        rw [hid, HF.out, ← HS0.out, ← HS4.out]
      have HG2 := Lib.hid hg2
      have HG3 := Lib.hid hg3
      have HIZ := Lib.hid (show idv.size ≤ maxLen by rw [hsz]; unfold maxLen; omega)
      clear hok hg2 hg3 hk hid hnm hidv hm5 hm6 ho ho5 ho6 hl6 hj0 hjs w4 w4' w1e w2e HC1 c1 hbw
      have HZA := Lib.hid (zigAll_any (.slice A6 m6.length c6) m6 wc HO6.out HL6.out)
      unfold AllSays at HZA
      clear HO6 HL6
      cases hal : allB m6 with
      | none =>
        rw [hal] at HZA
        have hg4 := HG2.out
        rw [hal] at hg4
        have HG4 := Lib.hid hg4
        clear HG2 hg4 hal
        go_wp2_with (go_at_call 34
                     refine HZA.out.mono ?_
                     rintro e w4 ⟨⟨x, hx, rfl⟩, hb4⟩
                     have qx : (x == 0) = false := by simpa using hx
                     have qx2 : decide (x = 0) = false := by simpa using hx
                     have qx3 : (x != 0) = true := by simpa using hx
                     obtain ⟨a4, a4f, a4l, a4h⟩ := box_at hb4 HXC.out
                     have HX4 := Lib.hid a4h
                     have HB4 := Lib.hid (bthen HBW.out hb4)
                     clear hb4)
        refine name_post ?_
        intro W9 hW9
        obtain ⟨k0, _, kz, kb⟩ := stor_at HX4.out [.int .i64 0, .string ⟨#[]⟩, .int .i64 0, .int .i64 0, .int .i64 0, .int .i64 0, .int .i64 0, .int .i64 0, .int .i64 0, .int .i64 0, .int .i64 0] rfl W9 hW9
        have hb9 := HB4.out.trans (kb _ (Nat.le_refl _))
        have a9 := (box_cells (Below.refl _ _) k0).1
        clear hW9
        exact bodyPost_ret (v := .tuple #[callV callZ, .int .i64 0, .int .i64 10]) (by simp [results, Tryd.results10, go_sem, a9, callV, callZ, polZ]) rfl ⟨by first | (rw [HG4.out]; done) | (rw [HG4.out]; rfl), hb9⟩
      | some ns =>
        rw [hal] at HZA
        have hg4 := HG2.out
        rw [hal] at hg4
        change getB l = callG l ns at hg4
        rw [HG3.out] at hg4
        have HG4 := Lib.hid hg4
        have HNI := Lib.hid (allB_i64 _ _ _ (Nat.le_refl _) hal)
        clear HG2 HG3 hg4 hal
        by_cases hns : ns = []
        · subst hns
          rw [if_pos rfl] at HG4
          go_wp2_with (go_at_call 34
                       refine HZA.out.mono ?_
                       rintro e w4 ⟨⟨A7, c7, rfl, _⟩, hb4⟩
                       obtain ⟨a4, a4f, a4l, a4h⟩ := box_at hb4 HXC.out
                       have HX4 := Lib.hid a4h
                       have HB4 := Lib.hid (bthen HBW.out hb4)
                       clear hb4)
          refine name_post ?_
          intro W9 hW9
          obtain ⟨k0, _, kz, kb⟩ := stor_at HX4.out [.int .i64 0, .string ⟨#[]⟩, .int .i64 0, .int .i64 0, .int .i64 0, .int .i64 0, .int .i64 0, .int .i64 0, .int .i64 0, .int .i64 0, .int .i64 0] rfl W9 hW9
          have hb9 := HB4.out.trans (kb _ (Nat.le_refl _))
          have a9 := (box_cells (Below.refl _ _) k0).1
          clear hW9
          exact bodyPost_ret (v := .tuple #[callV callZ, .int .i64 0, .int .i64 10]) (by simp [results, Tryd.results10, go_sem, a9, callV, callZ, polZ]) rfl ⟨by first | (rw [HG4.out]; done) | (rw [HG4.out]; rfl), hb9⟩
        · rw [if_neg hns] at HG4
          have HNS := Lib.hid hns
          have qn : ((ns.length : Int) == 0) = false := by
            have : ns.length ≠ 0 := fun e => hns (List.eq_nil_of_length_eq_zero e)
            simp
            exact hns
          have HOK2 := Lib.hid (callN_ok (id := idv) HNI.out HIZ.out)
          have HJC := Lib.hid (fun (v : Value) (W4 : World) (h : RowIn 1 numC W4 v ns) => jcall_any v ns idv W4 h hns)
          clear hns HNI HIZ
          generalize callN ns idv = d at HG4 HOK2 HJC
          unfold callV at HJC
          go_upto_region 12 with (first
            | (go_at_call 34
               refine HZA.out.mono ?_
               rintro e w4 ⟨⟨A7, c7, rfl, ho7⟩, hb4⟩
               have HO7 := Lib.hid ho7
               have HB4 := Lib.hid hb4
               clear ho7 hb4)
            | (go_at_call 35
               refine (HJC.out _ w4 (HO7.out.row eNum)).mono ?_
               rintro e w5 ⟨rfl, hb5⟩
               have HB5 := Lib.hid (bthen HB4.out hb5)
               clear hb5))
          refine name_world ?_
          intro W6 hW6
          have k1 : W6.heap[w5.heap.size]? = some (.cells #[.int .i64 d.kind, .string d.id, .int .i64 d.tick, .int .i64 d.val, .int .i64 d.handle, .int .i64 d.pol.mn, .int .i64 d.pol.mx, .int .i64 d.pol.tg, .int .i64 d.pol.tol, .int .i64 d.pol.win, .int .i64 d.pol.hold] 25 (0, 0)) := by rw [hW6]; exact heap_alloc_new _ _
          have hb6 : Below w5.heap.size w5 W6 := by rw [hW6]; exact balloc (Below.refl _ _) _
          have hb7 := bthen HB5.out hb6
          obtain ⟨a6, a6f, a6l, a6h⟩ := box_at (Below.refl _ _) k1
          have HD6 := Lib.hid a6h
          have HX6 := Lib.hid ((hb7.block _ (Array.getElem?_eq_some_iff.1 HXC.out).1).trans HXC.out)
          have HB6 := Lib.hid hb7
          have HBX6 := Lib.hid (bthen HBW.out hb7)
          clear hW6 k1 hb6 hb7 a6h HB5 HB4 HO7
          by_cases he : textE d = 0
          · have hp := jput_ok d W6 HOK2.out (HT.out.below HBX6.out) he
            unfold PutSays callV at hp
            have HP := Lib.hid hp
            clear hp
            by_cases hq : putB d = ft
            · rw [if_pos ⟨he, hq⟩] at HG4
              have HEQ := Lib.hid (show (putB d == ft) = true by simp [hq])
              clear he hq
              go_wp2_with (first
                | (go_at_call 8
                   refine HP.out.mono ?_
                   rintro e w7 ⟨A8, c8, rfl, ho8, hb7⟩
                   obtain ⟨a7, a7f, a7l, a7h⟩ := box_at hb7 HD6.out
                   have HD7 := Lib.hid a7h
                   have HX7 := Lib.hid ((hb7.block _ (Array.getElem?_eq_some_iff.1 HX6.out).1).trans HX6.out)
                   have HO8 := Lib.hid ho8
                   have HB7 := Lib.hid (bthen HBX6.out hb7)
                   clear ho8 a7h hb7)
                | (go_at_call 33
                   refine (bytesEqual_any _ _ (putB d) ft w7 (HO8.out.row eByte) (HO4.out.below HB7.out)).mono ?_
                   rw [HEQ.out]
                   rintro e w8 ⟨rfl, hb8⟩
                   obtain ⟨a8, a8f, a8l, a8h⟩ := box_at hb8 HX7.out
                   have b8 := (box_cells hb8 HD7.out).1
                   have HX8 := Lib.hid a8h
                   have HB8 := Lib.hid (bthen HB7.out hb8)
                   clear a8h hb8))
              refine name_post ?_
              intro W9 hW9
              obtain ⟨k0, _, kz, kb⟩ := stor_at HX8.out [.int .i64 d.kind, .string d.id, .int .i64 d.tick, .int .i64 d.val, .int .i64 d.handle, .int .i64 d.pol.mn, .int .i64 d.pol.mx, .int .i64 d.pol.tg, .int .i64 d.pol.tol, .int .i64 d.pol.win, .int .i64 d.pol.hold] rfl W9 hW9
              have hb9 := HB8.out.trans (kb _ (Nat.le_refl _))
              have a9 := (box_cells (Below.refl _ _) k0).1
              clear hW9
              exact bodyPost_ret (v := .tuple #[callV d, .int .i64 (s4 : Nat), .int .i64 0]) (by simp [results, Tryd.results10, go_sem, a9, callV]) rfl ⟨by first | (rw [HG4.out]; done) | (rw [HG4.out]; rfl), hb9⟩
            · rw [if_neg (fun h => hq h.2)] at HG4
              have HEQ := Lib.hid (show (putB d == ft) = false by simp [hq])
              clear he hq
              go_wp2_with (first
                | (go_at_call 8
                   refine HP.out.mono ?_
                   rintro e w7 ⟨A8, c8, rfl, ho8, hb7⟩
                   obtain ⟨a7, a7f, a7l, a7h⟩ := box_at hb7 HD6.out
                   have HD7 := Lib.hid a7h
                   have HX7 := Lib.hid ((hb7.block _ (Array.getElem?_eq_some_iff.1 HX6.out).1).trans HX6.out)
                   have HO8 := Lib.hid ho8
                   have HB7 := Lib.hid (bthen HBX6.out hb7)
                   clear ho8 a7h hb7)
                | (go_at_call 33
                   refine (bytesEqual_any _ _ (putB d) ft w7 (HO8.out.row eByte) (HO4.out.below HB7.out)).mono ?_
                   rw [HEQ.out]
                   rintro e w8 ⟨rfl, hb8⟩
                   obtain ⟨a8, a8f, a8l, a8h⟩ := box_at hb8 HX7.out
                   have b8 := (box_cells hb8 HD7.out).1
                   have HX8 := Lib.hid a8h
                   have HB8 := Lib.hid (bthen HB7.out hb8)
                   clear a8h hb8))
              refine name_post ?_
              intro W9 hW9
              obtain ⟨k0, _, kz, kb⟩ := stor_at HX8.out [.int .i64 0, .string ⟨#[]⟩, .int .i64 0, .int .i64 0, .int .i64 0, .int .i64 0, .int .i64 0, .int .i64 0, .int .i64 0, .int .i64 0, .int .i64 0] rfl W9 hW9
              have hb9 := HB8.out.trans (kb _ (Nat.le_refl _))
              have a9 := (box_cells (Below.refl _ _) k0).1
              clear hW9
              exact bodyPost_ret (v := .tuple #[callV callZ, .int .i64 0, .int .i64 10]) (by simp [results, Tryd.results10, go_sem, a9, callV, callZ, polZ]) rfl ⟨by first | (rw [HG4.out]; done) | (rw [HG4.out]; rfl), hb9⟩
          · have hp := jput_bad d W6 HOK2.out (HT.out.below HBX6.out) he
            rw [if_neg (fun h => he h.1)] at HG4
            have qe : (textE d == 0) = false := by simpa using he
            unfold BadSays callV at hp
            have HP := Lib.hid hp
            clear hp
            generalize textE d = x at HP qe he
            have qx2 : decide (x = 0) = false := by simpa using he
            have qx3 : (x != 0) = true := by simpa using he
            go_wp2_with (go_at_call 8
                         refine HP.out.mono ?_
                         rintro e w7 ⟨rfl, hb7⟩
                         obtain ⟨a7, a7f, a7l, a7h⟩ := box_at hb7 HX6.out
                         have HX7 := Lib.hid a7h
                         have HB7 := Lib.hid (bthen HBX6.out hb7)
                         clear a7h hb7)
            refine name_post ?_
            intro W9 hW9
            obtain ⟨k0, _, kz, kb⟩ := stor_at HX7.out [.int .i64 0, .string ⟨#[]⟩, .int .i64 0, .int .i64 0, .int .i64 0, .int .i64 0, .int .i64 0, .int .i64 0, .int .i64 0, .int .i64 0, .int .i64 0] rfl W9 hW9
            have hb9 := HB7.out.trans (kb _ (Nat.le_refl _))
            have a9 := (box_cells (Below.refl _ _) k0).1
            clear hW9
            exact bodyPost_ret (v := .tuple #[callV callZ, .int .i64 0, .int .i64 10]) (by simp [results, Tryd.results10, go_sem, a9, callV, callZ, polZ]) rfl ⟨by first | (rw [HG4.out]; done) | (rw [HG4.out]; rfl), hb9⟩
    · obtain rfl : bad = true := by rw [HBAD.out, decide_eq_true_iff]; exact hok
      have hg2 := HG.out
      rw [if_pos hok] at hg2
      have HG2 := Lib.hid hg2
      clear hg2 hok
      go_wp2
      refine name_post ?_
      intro W9 hW9
      obtain ⟨k0, _, kz, kb⟩ := stor_at HXC.out [.int .i64 0, .string ⟨#[]⟩, .int .i64 0, .int .i64 0, .int .i64 0, .int .i64 0, .int .i64 0, .int .i64 0, .int .i64 0, .int .i64 0, .int .i64 0] rfl W9 hW9
      have hb9 := HBW.out.trans (kb _ (Nat.le_refl _))
      have a9 := (box_cells (Below.refl _ _) k0).1
      clear hW9
      exact bodyPost_ret (v := .tuple #[callV callZ, .int .i64 0, .int .i64 10]) (by simp [results, Tryd.results10, go_sem, a9, callV, callZ, polZ]) rfl ⟨by first | (rw [HG2.out]; done) | (rw [HG2.out]; rfl), hb9⟩

theorem jget_any (v : Value) (l : List UInt8) (w : World) (hv : RowIn 1 byteC w v l) (hm : l.length ≤ 1000000) (ht : Tab w) : Calls Tryd.prog 10 #[v] w (GetSays w (getB l)) := by
  obtain ⟨A, c, rfl⟩ := hv.form
  by_cases h0 : l = []
  · subst h0
    rw [get_short (.inl rfl)]
    exact jget_nil A c w
  by_cases hl : l.length < (l.getD 0 0).toNat + 5
  · rw [get_short (.inr hl)]
    exact jget_short A l c w hv h0 hl hm
  · exact jget_long A l c w hv h0 hl hm ht
end Go.Proofs.YtfnabpmdjfejbaaDoor
