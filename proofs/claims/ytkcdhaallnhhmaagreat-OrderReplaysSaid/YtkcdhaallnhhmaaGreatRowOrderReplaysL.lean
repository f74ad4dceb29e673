/- PROVED: for every Config and every list of events OrderReplays answers true: order.Replay and order.Told answer what the document tells, and order.Linear answers whether the trace may be, was told, and was done one by one. No condition beyond the row's own. -/
import Derived.Test.YtkcdhaallnhhmaaGreatL51
import Derived.Test.YtkcdhaallnhhmaaGreatL52
import Derived.ProofKit
import Derived.OpenShut
import Derived.ShutString
import Derived.ChangeOld
import Derived.Below
import Derived.Lib.SmallJoins
namespace Go.Proofs.YtkcdhaallnhhmaaGreat.orderReplays
open Go.ChangeShapes Go.WideShapes Go.ChangeAt Go.RowKit Go.Joins
open Go.ChangeMaps (open_string shut_string)
set_option linter.unusedVariables false

theorem own : ownKnob Tryz.prog.godebug = none := by kernel_rfl
theorem laidOut : laidOutB Tryz.prog = true := by kernel_rfl

set_option maxRecDepth 100000 in
set_option maxHeartbeats 1000000 in
theorem lifted (os : Os) (started : os.Started) (H : Type) (enc : TypeId × Value → H) :
    ReturnsInHanded {} Tryz.checked os 7 .any (Rows.orderReplaysSpec.pre6 enc Tryz.prog Tryz.f7 Rows.orderReplaysRow.domain false) (Rows.orderReplaysSpec.post enc Tryz.prog Tryz.f7 false true false false) := by
  refine returnsInHanded_of_change (C := Tryz.checked) own started (by kernel_rfl) Tryz.func7
    (ChangeSpec.witness6 (enc := enc) (C := Tryz.checked) false ⟨#[], #[.agg #[.int .i64 0, .int .i64 0, .int .i64 0, .int .i64 0], .slice none 0 0], []⟩ 8 (by kernel_rfl) (by kernel_rfl) (by kernel_rfl) (by kernel_rfl)) ?_
  intro W base args ds gs before hval0 hW hcnd _
  have hval : ∀ (j : Nat) t v, Tryz.f7.params[j]? = some t → args[j]? = some v → Value.okWide Tryz.prog W .any base t v := hval0
  have hW' := hW
  obtain ⟨p, q, hA0, hV, rfl, hfz, hnd⟩ := hW
  have hA : DataW.TrodAll enc Tryz.prog W 0 (fun _ => true) true Tryz.f7.params.toList args.toList ds p := hA0
  rw [Tryz.params7] at hA hval
  obtain ⟨v0, vs0, d0, ds0, p0, q0, hargs, rfl, rfl, h0, r0⟩ := trodAll_cons hA
  obtain ⟨v1, vs1, d1, ds1, p1, q1, rfl, rfl, rfl, h1, r1⟩ := trodAll_cons r0
  obtain ⟨rfl, rfl, rfl⟩ := trodAll_nil r1
  obtain rfl : args = #[v0, v1] := by cases args; simp_all
  obtain ⟨rfl, rfl⟩ := trodVars_none hV
  have k0 := h0
  have lt0 : ∀ x ∈ p0, x.block < W.heap.size := by obtain ⟨m, hm⟩ := k0; exact DataW.trod_lt m _ _ _ hm
  have k1 := h1
  have lt1 : ∀ x ∈ p1, x.block < W.heap.size := by obtain ⟨m, hm⟩ := k1; exact DataW.trod_lt m _ _ _ hm
  obtain ⟨c00, c01, c02, c03, y00, y01, y02, y03, m0, rfl, _, _, hy00, hy01, hy02, hy03⟩ := open_agg4 Tryz.underlying23 (by kernel_rfl) (by kernel_rfl) (hval 0 23 v0 rfl rfl) h0
  obtain ⟨n00, e00, _, wf00⟩ := DataW.trod_int Tryz.underlying3 hy00
  obtain ⟨n01, e01, _, wf01⟩ := DataW.trod_int Tryz.underlying3 hy01
  obtain ⟨n02, e02, _, wf02⟩ := DataW.trod_int Tryz.underlying3 hy02
  obtain ⟨n03, e03, _, wf03⟩ := DataW.trod_int Tryz.underlying3 hy03
  simp only [List.cons.injEq, and_true] at e00 e01 e02 e03
  subst e00 e01 e02 e03
  obtain ⟨b1, l1, cp1, rfl⟩ := okWide_slice Tryz.underlying81 (hval 1 81 v1 rfl rfl)
  obtain ⟨fu1, hfu1⟩ := h1
  obtain ⟨v1', s1, e1, hm1, hs1, hr1⟩ := events_row hfu1
  simp only [Value.cells, List.cons.injEq, and_true] at e1
  subst e1
  clear hA0 hval0
  refine (ordReplays_law ⟨n00, n01, n02, n03⟩ _ s1 W hr1 hs1 ⟨i64_of_wf wf00, i64_of_wf wf01, i64_of_wf wf02, i64_of_wf wf03⟩).mono fun e W' ⟨he, bel⟩ => ?_
  subst he
  exact ⟨_, rfl, _, _, _, [], _, [], hW', trodAll_mk1 (shut_bool Tryz.underlying4 _), (trodAll_cons_mk (Below.trod laidOut (by kernel_rfl) (of_decide_eq_true (by kernel_rfl)) k0 bel lt0) (trodAll_cons_mk (Below.trod laidOut (by kernel_rfl) (of_decide_eq_true (by kernel_rfl)) k1 bel lt1) trodAll_mk0)), rfl, bel.frame _, fun h => by cases h⟩

theorem rowed : mapsRowed Tryz.prog = true := by kernel_rfl
theorem inPl : Tryz.prog.inPlace 7 = Rows.orderReplaysRow.inPlace := by kernel_rfl
theorem unfol : Tryz.prog.unfollowed 7 = Rows.orderReplaysRow.unfollowed := by kernel_rfl
theorem recur : Tryz.prog.recurses 7 = Rows.orderReplaysRow.recurses := by kernel_rfl
theorem namedV : Tryz.prog.varsNamed 7 = Rows.orderReplaysRow.named := by kernel_rfl
theorem closed : joinedFacts Tryz.prog 7 Tryz.f7 Rows.orderReplaysSpec Rows.orderReplaysRow = true := by
  unfold joinedFacts
  rw [laidOut, rowed, inPl, unfol, recur, namedV]
  kernel_rfl
theorem fnNamed : Tryz.prog.funcNamed Rows.orderReplaysRow.func = some 7 := by kernel_rfl
theorem over : Rows.orderReplaysRow.holds Tryz.pinned (OpenSpec.ofChange Rows.orderReplaysSpec) :=
  OpenClaim.holds_of_wide 7 Tryz.f7 rfl rfl rfl rfl rfl rfl rfl ⟨rfl, rfl, rfl, rfl, rfl⟩ rfl rfl rfl rfl rfl fnNamed Tryz.func7 closed
    (of_decide_eq_true (by kernel_rfl)) (by unfold Func.isWrapper; first | (rw [if_pos (by decide +kernel)]; kernel_rfl) | (rw [if_neg (by decide +kernel)]; exact ⟨rfl, rfl⟩))
    (fun os started H enc _ => lifted os started H enc)

theorem proved : Rows.OrderReplaysSaid := over
#print axioms proved
end Go.Proofs.YtkcdhaallnhhmaaGreat.orderReplays
