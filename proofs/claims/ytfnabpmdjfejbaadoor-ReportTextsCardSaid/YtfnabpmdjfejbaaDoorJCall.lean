/- journal.call: a call of its numbers and its id. -/
import Derived.Test.YtfnabpmdjfejbaaDoorJNum
import Derived.BigRegion
namespace Go.Proofs.YtfnabpmdjfejbaaDoor
set_option linter.unusedSimpArgs false
set_option linter.unusedVariables false
open Go.RowKit Go.Lib

def polZ : Pol := ⟨0, 0, 0, 0, 0, 0⟩
def callN (n : List Int) (id : ByteArray) : CallD :=
  if n.getD 0 0 = 1 ∧ n.length = 3 then ⟨1, id, n.getD 1 0, n.getD 2 0, 0, polZ⟩
  else if n.getD 0 0 = 2 ∧ n.length = 2 then ⟨2, id, n.getD 1 0, 0, 0, polZ⟩
  else if n.getD 0 0 = 4 ∧ n.length = 2 then ⟨4, id, 0, 0, n.getD 1 0, polZ⟩
  else if n.getD 0 0 = 5 ∧ n.length = 4 then ⟨5, id, n.getD 2 0, n.getD 3 0, n.getD 1 0, polZ⟩
  else if n.getD 0 0 = 6 ∧ n.length = 7 then ⟨6, id, 0, 0, 0, ⟨n.getD 1 0, n.getD 2 0, n.getD 3 0, n.getD 4 0, n.getD 5 0, n.getD 6 0⟩⟩
  else ⟨n.getD 0 0, id, 0, 0, 0, polZ⟩

set_option maxRecDepth 100000 in
set_option maxHeartbeats 4000000 in
theorem jcall_1 (b o c : Nat) (x1 x2 : Int) (id : ByteArray) (w : World) (hb : b < w.heap.size) (c0 : w.cell? ⟨b, o, none⟩ = some (.int .i64 1)) (c1 : w.cell? ⟨b, o + 1, none⟩ = some (.int .i64 x1)) (c2 : w.cell? ⟨b, o + 2, none⟩ = some (.int .i64 x2)) :
    Calls Tryd.prog 35 #[.slice (some ⟨b, o, none⟩) 3 c, .string id] w fun e w' => e = .returned (.agg #[.int .i64 1, .string id, .int .i64 x1, .int .i64 x2, .int .i64 0, .int .i64 0, .int .i64 0, .int .i64 0, .int .i64 0, .int .i64 0, .int .i64 0]) ∧ Below w.heap.size w w' := by
  go_enter Tryd.func35, Tryd.ntmps35
  go_wp2
  go_region
  all_goals (try go_wp2)
  all_goals
    refine bodyPost_ret (v := .agg #[.int .i64 1, .string id, .int .i64 x1, .int .i64 x2, .int .i64 0, .int .i64 0, .int .i64 0, .int .i64 0, .int .i64 0, .int .i64 0, .int .i64 0]) (by simp [results, Tryd.results35, go_sem]) rfl ⟨rfl, ?_⟩
    repeat (first | exact Below.refl _ _ | with_reducible refine balloc ?_ _ | with_reducible refine Below.setCell ?_ (by simp) _ | with_reducible refine Below.drew ?_ | with_reducible refine below_drewN ?_ _)

set_option maxRecDepth 100000 in
set_option maxHeartbeats 4000000 in
theorem jcall_2 (b o c : Nat) (x1 : Int) (id : ByteArray) (w : World) (hb : b < w.heap.size) (c0 : w.cell? ⟨b, o, none⟩ = some (.int .i64 2)) (c1 : w.cell? ⟨b, o + 1, none⟩ = some (.int .i64 x1)) :
    Calls Tryd.prog 35 #[.slice (some ⟨b, o, none⟩) 2 c, .string id] w fun e w' => e = .returned (.agg #[.int .i64 2, .string id, .int .i64 x1, .int .i64 0, .int .i64 0, .int .i64 0, .int .i64 0, .int .i64 0, .int .i64 0, .int .i64 0, .int .i64 0]) ∧ Below w.heap.size w w' := by
  go_enter Tryd.func35, Tryd.ntmps35
  go_wp2

  all_goals (try go_wp2)
  all_goals
    refine bodyPost_ret (v := .agg #[.int .i64 2, .string id, .int .i64 x1, .int .i64 0, .int .i64 0, .int .i64 0, .int .i64 0, .int .i64 0, .int .i64 0, .int .i64 0, .int .i64 0]) (by simp [results, Tryd.results35, go_sem]) rfl ⟨rfl, ?_⟩
    repeat (first | exact Below.refl _ _ | with_reducible refine balloc ?_ _ | with_reducible refine Below.setCell ?_ (by simp) _ | with_reducible refine Below.drew ?_ | with_reducible refine below_drewN ?_ _)

set_option maxRecDepth 100000 in
set_option maxHeartbeats 4000000 in
theorem jcall_4 (b o c : Nat) (x1 : Int) (id : ByteArray) (w : World) (hb : b < w.heap.size) (c0 : w.cell? ⟨b, o, none⟩ = some (.int .i64 4)) (c1 : w.cell? ⟨b, o + 1, none⟩ = some (.int .i64 x1)) :
    Calls Tryd.prog 35 #[.slice (some ⟨b, o, none⟩) 2 c, .string id] w fun e w' => e = .returned (.agg #[.int .i64 4, .string id, .int .i64 0, .int .i64 0, .int .i64 x1, .int .i64 0, .int .i64 0, .int .i64 0, .int .i64 0, .int .i64 0, .int .i64 0]) ∧ Below w.heap.size w w' := by
  go_enter Tryd.func35, Tryd.ntmps35
  go_wp2

  all_goals (try go_wp2)
  all_goals
    refine bodyPost_ret (v := .agg #[.int .i64 4, .string id, .int .i64 0, .int .i64 0, .int .i64 x1, .int .i64 0, .int .i64 0, .int .i64 0, .int .i64 0, .int .i64 0, .int .i64 0]) (by simp [results, Tryd.results35, go_sem]) rfl ⟨rfl, ?_⟩
    repeat (first | exact Below.refl _ _ | with_reducible refine balloc ?_ _ | with_reducible refine Below.setCell ?_ (by simp) _ | with_reducible refine Below.drew ?_ | with_reducible refine below_drewN ?_ _)

set_option maxRecDepth 100000 in
set_option maxHeartbeats 4000000 in
theorem jcall_5 (b o c : Nat) (x1 x2 x3 : Int) (id : ByteArray) (w : World) (hb : b < w.heap.size) (c0 : w.cell? ⟨b, o, none⟩ = some (.int .i64 5)) (c1 : w.cell? ⟨b, o + 1, none⟩ = some (.int .i64 x1)) (c2 : w.cell? ⟨b, o + 2, none⟩ = some (.int .i64 x2)) (c3 : w.cell? ⟨b, o + 3, none⟩ = some (.int .i64 x3)) :
    Calls Tryd.prog 35 #[.slice (some ⟨b, o, none⟩) 4 c, .string id] w fun e w' => e = .returned (.agg #[.int .i64 5, .string id, .int .i64 x2, .int .i64 x3, .int .i64 x1, .int .i64 0, .int .i64 0, .int .i64 0, .int .i64 0, .int .i64 0, .int .i64 0]) ∧ Below w.heap.size w w' := by
  go_enter Tryd.func35, Tryd.ntmps35
  go_wp2
  go_region
  all_goals (try go_wp2)
  all_goals
    refine bodyPost_ret (v := .agg #[.int .i64 5, .string id, .int .i64 x2, .int .i64 x3, .int .i64 x1, .int .i64 0, .int .i64 0, .int .i64 0, .int .i64 0, .int .i64 0, .int .i64 0]) (by simp [results, Tryd.results35, go_sem]) rfl ⟨rfl, ?_⟩
    repeat (first | exact Below.refl _ _ | with_reducible refine balloc ?_ _ | with_reducible refine Below.setCell ?_ (by simp) _ | with_reducible refine Below.drew ?_ | with_reducible refine below_drewN ?_ _)

set_option maxRecDepth 100000 in
set_option maxHeartbeats 4000000 in
theorem jcall_6 (b o c : Nat) (x1 x2 x3 x4 x5 x6 : Int) (id : ByteArray) (w : World) (hb : b < w.heap.size) (c0 : w.cell? ⟨b, o, none⟩ = some (.int .i64 6)) (c1 : w.cell? ⟨b, o + 1, none⟩ = some (.int .i64 x1)) (c2 : w.cell? ⟨b, o + 2, none⟩ = some (.int .i64 x2)) (c3 : w.cell? ⟨b, o + 3, none⟩ = some (.int .i64 x3)) (c4 : w.cell? ⟨b, o + 4, none⟩ = some (.int .i64 x4)) (c5 : w.cell? ⟨b, o + 5, none⟩ = some (.int .i64 x5)) (c6 : w.cell? ⟨b, o + 6, none⟩ = some (.int .i64 x6)) :
    Calls Tryd.prog 35 #[.slice (some ⟨b, o, none⟩) 7 c, .string id] w fun e w' => e = .returned (.agg #[.int .i64 6, .string id, .int .i64 0, .int .i64 0, .int .i64 0, .int .i64 x1, .int .i64 x2, .int .i64 x3, .int .i64 x4, .int .i64 x5, .int .i64 x6]) ∧ Below w.heap.size w w' := by
  go_enter Tryd.func35, Tryd.ntmps35
  go_wp2
  go_region
  all_goals (try go_wp2)
  all_goals
    refine bodyPost_ret (v := .agg #[.int .i64 6, .string id, .int .i64 0, .int .i64 0, .int .i64 0, .int .i64 x1, .int .i64 x2, .int .i64 x3, .int .i64 x4, .int .i64 x5, .int .i64 x6]) (by simp [results, Tryd.results35, go_sem]) rfl ⟨rfl, ?_⟩
    repeat (first | exact Below.refl _ _ | with_reducible refine balloc ?_ _ | with_reducible refine Below.setCell ?_ (by simp) _ | with_reducible refine Below.drew ?_ | with_reducible refine below_drewN ?_ _)

set_option maxRecDepth 100000 in
set_option maxHeartbeats 4000000 in
theorem jcallN_1 (b o l c : Nat) (hl : l ≠ 3) (id : ByteArray) (w : World) (hb : b < w.heap.size) (h0 : 0 < l) (c0 : w.cell? ⟨b, o, none⟩ = some (.int .i64 1)) :
    Calls Tryd.prog 35 #[.slice (some ⟨b, o, none⟩) l c, .string id] w fun e w' => e = .returned (.agg #[.int .i64 1, .string id, .int .i64 0, .int .i64 0, .int .i64 0, .int .i64 0, .int .i64 0, .int .i64 0, .int .i64 0, .int .i64 0, .int .i64 0]) ∧ Below w.heap.size w w' := by
  have ql : ((l : Int) == 3) = false := by simp; omega
  clear hl
  have h0' : (0 : Int) < (l : Int) := by omega
  go_enter Tryd.func35, Tryd.ntmps35
  go_wp2
  refine bodyPost_ret (v := .agg #[.int .i64 1, .string id, .int .i64 0, .int .i64 0, .int .i64 0, .int .i64 0, .int .i64 0, .int .i64 0, .int .i64 0, .int .i64 0, .int .i64 0]) (by simp [results, Tryd.results35, go_sem]) rfl ⟨rfl, ?_⟩
  repeat (first | exact Below.refl _ _ | with_reducible refine balloc ?_ _ | with_reducible refine Below.setCell ?_ (by simp) _ | with_reducible refine Below.drew ?_ | with_reducible refine below_drewN ?_ _)

set_option maxRecDepth 100000 in
set_option maxHeartbeats 4000000 in
theorem jcallN_2 (b o l c : Nat) (hl : l ≠ 2) (id : ByteArray) (w : World) (hb : b < w.heap.size) (h0 : 0 < l) (c0 : w.cell? ⟨b, o, none⟩ = some (.int .i64 2)) :
    Calls Tryd.prog 35 #[.slice (some ⟨b, o, none⟩) l c, .string id] w fun e w' => e = .returned (.agg #[.int .i64 2, .string id, .int .i64 0, .int .i64 0, .int .i64 0, .int .i64 0, .int .i64 0, .int .i64 0, .int .i64 0, .int .i64 0, .int .i64 0]) ∧ Below w.heap.size w w' := by
  have ql : ((l : Int) == 2) = false := by simp; omega
  clear hl
  have h0' : (0 : Int) < (l : Int) := by omega
  go_enter Tryd.func35, Tryd.ntmps35
  go_wp2
  refine bodyPost_ret (v := .agg #[.int .i64 2, .string id, .int .i64 0, .int .i64 0, .int .i64 0, .int .i64 0, .int .i64 0, .int .i64 0, .int .i64 0, .int .i64 0, .int .i64 0]) (by simp [results, Tryd.results35, go_sem]) rfl ⟨rfl, ?_⟩
  repeat (first | exact Below.refl _ _ | with_reducible refine balloc ?_ _ | with_reducible refine Below.setCell ?_ (by simp) _ | with_reducible refine Below.drew ?_ | with_reducible refine below_drewN ?_ _)

set_option maxRecDepth 100000 in
set_option maxHeartbeats 4000000 in
theorem jcallN_4 (b o l c : Nat) (hl : l ≠ 2) (id : ByteArray) (w : World) (hb : b < w.heap.size) (h0 : 0 < l) (c0 : w.cell? ⟨b, o, none⟩ = some (.int .i64 4)) :
    Calls Tryd.prog 35 #[.slice (some ⟨b, o, none⟩) l c, .string id] w fun e w' => e = .returned (.agg #[.int .i64 4, .string id, .int .i64 0, .int .i64 0, .int .i64 0, .int .i64 0, .int .i64 0, .int .i64 0, .int .i64 0, .int .i64 0, .int .i64 0]) ∧ Below w.heap.size w w' := by
  have ql : ((l : Int) == 2) = false := by simp; omega
  clear hl
  have h0' : (0 : Int) < (l : Int) := by omega
  go_enter Tryd.func35, Tryd.ntmps35
  go_wp2
  refine bodyPost_ret (v := .agg #[.int .i64 4, .string id, .int .i64 0, .int .i64 0, .int .i64 0, .int .i64 0, .int .i64 0, .int .i64 0, .int .i64 0, .int .i64 0, .int .i64 0]) (by simp [results, Tryd.results35, go_sem]) rfl ⟨rfl, ?_⟩
  repeat (first | exact Below.refl _ _ | with_reducible refine balloc ?_ _ | with_reducible refine Below.setCell ?_ (by simp) _ | with_reducible refine Below.drew ?_ | with_reducible refine below_drewN ?_ _)

set_option maxRecDepth 100000 in
set_option maxHeartbeats 4000000 in
theorem jcallN_5 (b o l c : Nat) (hl : l ≠ 4) (id : ByteArray) (w : World) (hb : b < w.heap.size) (h0 : 0 < l) (c0 : w.cell? ⟨b, o, none⟩ = some (.int .i64 5)) :
    Calls Tryd.prog 35 #[.slice (some ⟨b, o, none⟩) l c, .string id] w fun e w' => e = .returned (.agg #[.int .i64 5, .string id, .int .i64 0, .int .i64 0, .int .i64 0, .int .i64 0, .int .i64 0, .int .i64 0, .int .i64 0, .int .i64 0, .int .i64 0]) ∧ Below w.heap.size w w' := by
  have ql : ((l : Int) == 4) = false := by simp; omega
  clear hl
  have h0' : (0 : Int) < (l : Int) := by omega
  go_enter Tryd.func35, Tryd.ntmps35
  go_wp2
  refine bodyPost_ret (v := .agg #[.int .i64 5, .string id, .int .i64 0, .int .i64 0, .int .i64 0, .int .i64 0, .int .i64 0, .int .i64 0, .int .i64 0, .int .i64 0, .int .i64 0]) (by simp [results, Tryd.results35, go_sem]) rfl ⟨rfl, ?_⟩
  repeat (first | exact Below.refl _ _ | with_reducible refine balloc ?_ _ | with_reducible refine Below.setCell ?_ (by simp) _ | with_reducible refine Below.drew ?_ | with_reducible refine below_drewN ?_ _)

set_option maxRecDepth 100000 in
set_option maxHeartbeats 4000000 in
theorem jcallN_6 (b o l c : Nat) (hl : l ≠ 7) (id : ByteArray) (w : World) (hb : b < w.heap.size) (h0 : 0 < l) (c0 : w.cell? ⟨b, o, none⟩ = some (.int .i64 6)) :
    Calls Tryd.prog 35 #[.slice (some ⟨b, o, none⟩) l c, .string id] w fun e w' => e = .returned (.agg #[.int .i64 6, .string id, .int .i64 0, .int .i64 0, .int .i64 0, .int .i64 0, .int .i64 0, .int .i64 0, .int .i64 0, .int .i64 0, .int .i64 0]) ∧ Below w.heap.size w w' := by
  have ql : ((l : Int) == 7) = false := by simp; omega
  clear hl
  have h0' : (0 : Int) < (l : Int) := by omega
  go_enter Tryd.func35, Tryd.ntmps35
  go_wp2
  refine bodyPost_ret (v := .agg #[.int .i64 6, .string id, .int .i64 0, .int .i64 0, .int .i64 0, .int .i64 0, .int .i64 0, .int .i64 0, .int .i64 0, .int .i64 0, .int .i64 0]) (by simp [results, Tryd.results35, go_sem]) rfl ⟨rfl, ?_⟩
  repeat (first | exact Below.refl _ _ | with_reducible refine balloc ?_ _ | with_reducible refine Below.setCell ?_ (by simp) _ | with_reducible refine Below.drew ?_ | with_reducible refine below_drewN ?_ _)

set_option maxRecDepth 100000 in
set_option maxHeartbeats 4000000 in
theorem jcallN_0 (b o l c : Nat) (k : Int) (h1 : k ≠ 1) (h2 : k ≠ 2) (h4 : k ≠ 4) (h5 : k ≠ 5) (h6 : k ≠ 6) (id : ByteArray) (w : World) (hb : b < w.heap.size) (h0 : 0 < l) (c0 : w.cell? ⟨b, o, none⟩ = some (.int .i64 k)) :
    Calls Tryd.prog 35 #[.slice (some ⟨b, o, none⟩) l c, .string id] w fun e w' => e = .returned (.agg #[.int .i64 k, .string id, .int .i64 0, .int .i64 0, .int .i64 0, .int .i64 0, .int .i64 0, .int .i64 0, .int .i64 0, .int .i64 0, .int .i64 0]) ∧ Below w.heap.size w w' := by
  have q1 : (k == 1) = false := by simp [h1]
  have q2 : (k == 2) = false := by simp [h2]
  have q4 : (k == 4) = false := by simp [h4]
  have q5 : (k == 5) = false := by simp [h5]
  have q6 : (k == 6) = false := by simp [h6]
  clear h1 h2 h4 h5 h6
  have h0' : (0 : Int) < (l : Int) := by omega
  go_enter Tryd.func35, Tryd.ntmps35
  go_wp2
  refine bodyPost_ret (v := .agg #[.int .i64 k, .string id, .int .i64 0, .int .i64 0, .int .i64 0, .int .i64 0, .int .i64 0, .int .i64 0, .int .i64 0, .int .i64 0, .int .i64 0]) (by simp [results, Tryd.results35, go_sem]) rfl ⟨rfl, ?_⟩
  repeat (first | exact Below.refl _ _ | with_reducible refine balloc ?_ _ | with_reducible refine Below.setCell ?_ (by simp) _ | with_reducible refine Below.drew ?_ | with_reducible refine below_drewN ?_ _)

theorem jcall_any (v : Value) (n : List Int) (id : ByteArray) (w : World) (hv : RowIn 1 numC w v n) (hn : n ≠ []) :
    Calls Tryd.prog 35 #[v, .string id] w fun e w' => e = .returned (callV (callN n id)) ∧ Below w.heap.size w w' := by
  have h0 : 0 < n.length := by cases n with | nil => exact absurd rfl hn | cons => simp
  obtain ⟨A, c, rfl⟩ := hv.form
  obtain ⟨b, o, rfl, hb, hc⟩ := hv.at_ h0
  have cells : ∀ j (hj : j < n.length), w.cell? ⟨b, o + j, none⟩ = some (.int .i64 (n.getD j 0)) := by
    intro j hj
    obtain ⟨b', o', e, _, hc'⟩ := hv.at_ hj
    simp only [Option.some.injEq, Addr.mk.injEq] at e
    obtain ⟨rfl, rfl, -⟩ := e
    have := hc' 0 _ rfl
    rw [Nat.add_zero, Nat.mul_one] at this
    rw [this]
    simp [List.getElem?_eq_getElem hj]
  have k0 := cells 0 h0
  rw [Nat.add_zero] at k0
  unfold callN
  by_cases e1 : n.getD 0 0 = 1
  · by_cases l1 : n.length = 3
    · rw [if_pos ⟨e1, l1⟩]
      rw [e1] at k0
      have := jcall_1 b o c (n.getD 1 0) (n.getD 2 0) id w hb k0 (cells 1 (by omega)) (cells 2 (by omega))
      rw [l1]
      exact this
    · rw [if_neg (by omega)]; rw [if_neg (by omega)]; rw [if_neg (by omega)]; rw [if_neg (by omega)]; rw [if_neg (by omega)]; rw [e1]
      rw [e1] at k0
      exact jcallN_1 b o n.length c l1 id w hb h0 k0
  by_cases e2 : n.getD 0 0 = 2
  · by_cases l2 : n.length = 2
    · rw [if_neg (by omega)]; rw [if_pos ⟨e2, l2⟩]
      rw [e2] at k0
      have := jcall_2 b o c (n.getD 1 0) id w hb k0 (cells 1 (by omega))
      rw [l2]
      exact this
    · rw [if_neg (by omega)]; rw [if_neg (by omega)]; rw [if_neg (by omega)]; rw [if_neg (by omega)]; rw [if_neg (by omega)]; rw [e2]
      rw [e2] at k0
      exact jcallN_2 b o n.length c l2 id w hb h0 k0
  by_cases e4 : n.getD 0 0 = 4
  · by_cases l4 : n.length = 2
    · rw [if_neg (by omega)]; rw [if_neg (by omega)]; rw [if_pos ⟨e4, l4⟩]
      rw [e4] at k0
      have := jcall_4 b o c (n.getD 1 0) id w hb k0 (cells 1 (by omega))
      rw [l4]
      exact this
    · rw [if_neg (by omega)]; rw [if_neg (by omega)]; rw [if_neg (by omega)]; rw [if_neg (by omega)]; rw [if_neg (by omega)]; rw [e4]
      rw [e4] at k0
      exact jcallN_4 b o n.length c l4 id w hb h0 k0
  by_cases e5 : n.getD 0 0 = 5
  · by_cases l5 : n.length = 4
    · rw [if_neg (by omega)]; rw [if_neg (by omega)]; rw [if_neg (by omega)]; rw [if_pos ⟨e5, l5⟩]
      rw [e5] at k0
      have := jcall_5 b o c (n.getD 1 0) (n.getD 2 0) (n.getD 3 0) id w hb k0 (cells 1 (by omega)) (cells 2 (by omega)) (cells 3 (by omega))
      rw [l5]
      exact this
    · rw [if_neg (by omega)]; rw [if_neg (by omega)]; rw [if_neg (by omega)]; rw [if_neg (by omega)]; rw [if_neg (by omega)]; rw [e5]
      rw [e5] at k0
      exact jcallN_5 b o n.length c l5 id w hb h0 k0
  by_cases e6 : n.getD 0 0 = 6
  · by_cases l6 : n.length = 7
    · rw [if_neg (by omega)]; rw [if_neg (by omega)]; rw [if_neg (by omega)]; rw [if_neg (by omega)]; rw [if_pos ⟨e6, l6⟩]
      rw [e6] at k0
      have := jcall_6 b o c (n.getD 1 0) (n.getD 2 0) (n.getD 3 0) (n.getD 4 0) (n.getD 5 0) (n.getD 6 0) id w hb k0 (cells 1 (by omega)) (cells 2 (by omega)) (cells 3 (by omega)) (cells 4 (by omega)) (cells 5 (by omega)) (cells 6 (by omega))
      rw [l6]
      exact this
    · rw [if_neg (by omega)]; rw [if_neg (by omega)]; rw [if_neg (by omega)]; rw [if_neg (by omega)]; rw [if_neg (by omega)]; rw [e6]
      rw [e6] at k0
      exact jcallN_6 b o n.length c l6 id w hb h0 k0
  rw [if_neg (by omega), if_neg (by omega), if_neg (by omega), if_neg (by omega), if_neg (by omega)]
  exact jcallN_0 b o n.length c (n.getD 0 0) e1 e2 e4 e5 e6 id w hb h0 k0

theorem getD_i64 {n : List Int} (h : ∀ x ∈ n, I64 x) (j : Nat) : I64 (n.getD j 0) := by
  by_cases hj : j < n.length
  · have e : n.getD j 0 = n[j] := by simp [List.getElem?_eq_getElem hj]
    rw [e]
    exact h _ (List.getElem_mem hj)
  · have e : n.getD j 0 = 0 := by simp [List.getElem?_eq_none (by omega : n.length ≤ j)]
    rw [e]
    unfold I64; omega
theorem callN_ok {n : List Int} {id : ByteArray} (h : ∀ x ∈ n, I64 x) (hid : id.size ≤ maxLen) : (callN n id).ok := by
  have g := getD_i64 h
  have z : I64 0 := by unfold I64; omega
  have k1 : I64 1 := by unfold I64; omega
  have k2 : I64 2 := by unfold I64; omega
  have k4 : I64 4 := by unfold I64; omega
  have k5 : I64 5 := by unfold I64; omega
  have k6 : I64 6 := by unfold I64; omega
  unfold callN
  repeat' split
  all_goals exact ⟨by first | assumption | exact g _, hid, by first | assumption | exact g _, by first | assumption | exact g _, by first | assumption | exact g _, by first | exact ⟨z, z, z, z, z, z⟩ | exact ⟨g _, g _, g _, g _, g _, g _⟩⟩
end Go.Proofs.YtfnabpmdjfejbaaDoor
