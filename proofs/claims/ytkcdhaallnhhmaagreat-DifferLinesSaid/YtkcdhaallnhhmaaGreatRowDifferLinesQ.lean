/- PROVED: for every Config and any three lists of calls DifferLines answers true: between a map and its twin nothing is unlike, and between two maps that go on by themselves differ.Lines tells what the document tells. No condition beyond the row's own. -/
import Derived.Test.YtkcdhaallnhhmaaGreatQ53
import Derived.Test.YtkcdhaallnhhmaaGreatQ54
import Derived.ProofKit
import Derived.OpenShut
import Derived.ShutString
import Derived.ChangeOld
import Derived.Below
import Derived.Lib.SmallJoins
namespace Go.Proofs.YtkcdhaallnhhmaaGreat.differLines
open Go.ChangeShapes Go.WideShapes Go.ChangeAt Go.RowKit Go.Joins
open Go.ChangeMaps (open_string shut_string)
set_option linter.unusedVariables false

theorem own : ownKnob Tryz.prog.godebug = none := by kernel_rfl
theorem laidOut : laidOutB Tryz.prog = true := by kernel_rfl

set_option maxRecDepth 100000 in
set_option maxHeartbeats 1000000 in
theorem lifted (os : Os) (started : os.Started) (H : Type) (enc : TypeId × Value → H) :
    ReturnsInHanded {} Tryz.checked os 3 .any (Rows.differLinesSpec.pre6 enc Tryz.prog Tryz.f3 Rows.differLinesRow.domain false) (Rows.differLinesSpec.post enc Tryz.prog Tryz.f3 false true false false) := by
  refine returnsInHanded_of_change (C := Tryz.checked) own started (by kernel_rfl) Tryz.func3
    (ChangeSpec.witness6 (enc := enc) (C := Tryz.checked) false ⟨#[], #[.agg #[.int .i64 0, .int .i64 0, .int .i64 0, .int .i64 0], .slice none 0 0, .slice none 0 0, .slice none 0 0], []⟩ 8 (by kernel_rfl) (by kernel_rfl) (by kernel_rfl) (by kernel_rfl)) ?_
  intro W base args ds gs before hval0 hW hcnd _
  have hval : ∀ (j : Nat) t v, Tryz.f3.params[j]? = some t → args[j]? = some v → Value.okWide Tryz.prog W .any base t v := hval0
  have hW' := hW
  obtain ⟨p, q, hA0, hV, rfl, hfz, hnd⟩ := hW
  have hA : DataW.TrodAll enc Tryz.prog W 0 (fun _ => true) true Tryz.f3.params.toList args.toList ds p := hA0
  rw [Tryz.params3] at hA hval
  obtain ⟨v0, vs0, d0, ds0, p0, q0, hargs, rfl, rfl, h0, r0⟩ := trodAll_cons hA
  obtain ⟨v1, vs1, d1, ds1, p1, q1, rfl, rfl, rfl, h1, r1⟩ := trodAll_cons r0
  obtain ⟨v2, vs2, d2, ds2, p2, q2, rfl, rfl, rfl, h2, r2⟩ := trodAll_cons r1
  obtain ⟨v3, vs3, d3, ds3, p3, q3, rfl, rfl, rfl, h3, r3⟩ := trodAll_cons r2
  obtain ⟨rfl, rfl, rfl⟩ := trodAll_nil r3
  obtain rfl : args = #[v0, v1, v2, v3] := by cases args; simp_all
  obtain ⟨rfl, rfl⟩ := trodVars_none hV
  have k0 := h0
  have lt0 : ∀ x ∈ p0, x.block < W.heap.size := by obtain ⟨m, hm⟩ := k0; exact DataW.trod_lt m _ _ _ hm
  have k1 := h1
  have lt1 : ∀ x ∈ p1, x.block < W.heap.size := by obtain ⟨m, hm⟩ := k1; exact DataW.trod_lt m _ _ _ hm
  have k2 := h2
  have lt2 : ∀ x ∈ p2, x.block < W.heap.size := by obtain ⟨m, hm⟩ := k2; exact DataW.trod_lt m _ _ _ hm
  have k3 := h3
  have lt3 : ∀ x ∈ p3, x.block < W.heap.size := by obtain ⟨m, hm⟩ := k3; exact DataW.trod_lt m _ _ _ hm
  obtain ⟨c00, c01, c02, c03, y00, y01, y02, y03, m0, rfl, _, _, hy00, hy01, hy02, hy03⟩ := open_agg4 Tryz.underlying23 (by kernel_rfl) (by kernel_rfl) (hval 0 23 v0 rfl rfl) h0
  obtain ⟨n00, e00, _, wf00⟩ := DataW.trod_int Tryz.underlying3 hy00
  obtain ⟨n01, e01, _, wf01⟩ := DataW.trod_int Tryz.underlying3 hy01
  obtain ⟨n02, e02, _, wf02⟩ := DataW.trod_int Tryz.underlying3 hy02
  obtain ⟨n03, e03, _, wf03⟩ := DataW.trod_int Tryz.underlying3 hy03
  simp only [List.cons.injEq, and_true] at e00 e01 e02 e03
  subst e00 e01 e02 e03
  obtain ⟨b1, l1, cp1, rfl⟩ := okWide_slice Tryz.underlying24 (hval 1 24 v1 rfl rfl)
  obtain ⟨fu1, hfu1⟩ := h1
  obtain ⟨v1', s1, e1, hm1, hs1, hr1⟩ := calls_row hfu1
  simp only [Value.cells, List.cons.injEq, and_true] at e1
  subst e1
  obtain ⟨b2, l2, cp2, rfl⟩ := okWide_slice Tryz.underlying24 (hval 2 24 v2 rfl rfl)
  obtain ⟨fu2, hfu2⟩ := h2
  obtain ⟨v2', s2, e2, hm2, hs2, hr2⟩ := calls_row hfu2
  simp only [Value.cells, List.cons.injEq, and_true] at e2
  subst e2
  obtain ⟨b3, l3, cp3, rfl⟩ := okWide_slice Tryz.underlying24 (hval 3 24 v3 rfl rfl)
  obtain ⟨fu3, hfu3⟩ := h3
  obtain ⟨v3', s3, e3, hm3, hs3, hr3⟩ := calls_row hfu3
  simp only [Value.cells, List.cons.injEq, and_true] at e3
  subst e3
  clear hA0 hval0
  refine (dfL_any ⟨n00, n01, n02, n03⟩ _ _ _ s1 s2 s3 W hr1 hr2 hr3 hs1 hs2 hs3 ⟨i64_of_wf wf00, i64_of_wf wf01, i64_of_wf wf02, i64_of_wf wf03⟩).mono fun e W' ⟨he, bel⟩ => ?_
  subst he
  exact ⟨_, rfl, _, _, _, [], _, [], hW', trodAll_mk1 (shut_bool Tryz.underlying4 _), (trodAll_cons_mk (Below.trod laidOut (by kernel_rfl) (of_decide_eq_true (by kernel_rfl)) k0 bel lt0) (trodAll_cons_mk (Below.trod laidOut (by kernel_rfl) (of_decide_eq_true (by kernel_rfl)) k1 bel lt1) (trodAll_cons_mk (Below.trod laidOut (by kernel_rfl) (of_decide_eq_true (by kernel_rfl)) k2 bel lt2) (trodAll_cons_mk (Below.trod laidOut (by kernel_rfl) (of_decide_eq_true (by kernel_rfl)) k3 bel lt3) trodAll_mk0)))), rfl, bel.frame _, fun h => by cases h⟩

theorem rowed : mapsRowed Tryz.prog = true := by kernel_rfl
theorem inPl : Tryz.prog.inPlace 3 = Rows.differLinesRow.inPlace := by kernel_rfl
theorem unfol : Tryz.prog.unfollowed 3 = Rows.differLinesRow.unfollowed := by kernel_rfl
theorem recur : Tryz.prog.recurses 3 = Rows.differLinesRow.recurses := by kernel_rfl
theorem namedV : Tryz.prog.varsNamed 3 = Rows.differLinesRow.named := by kernel_rfl
theorem closed : joinedFacts Tryz.prog 3 Tryz.f3 Rows.differLinesSpec Rows.differLinesRow = true := by
  unfold joinedFacts
  rw [laidOut, rowed, inPl, unfol, recur, namedV]
  kernel_rfl
theorem fnNamed : Tryz.prog.funcNamed Rows.differLinesRow.func = some 3 := by kernel_rfl
theorem over : Rows.differLinesRow.holds Tryz.pinned (OpenSpec.ofChange Rows.differLinesSpec) :=
  OpenClaim.holds_of_wide 3 Tryz.f3 rfl rfl rfl rfl rfl rfl rfl ⟨rfl, rfl, rfl, rfl, rfl⟩ rfl rfl rfl rfl rfl fnNamed Tryz.func3 closed
    (of_decide_eq_true (by kernel_rfl)) (by unfold Func.isWrapper; first | (rw [if_pos (by decide +kernel)]; kernel_rfl) | (rw [if_neg (by decide +kernel)]; exact ⟨rfl, rfl⟩))
    (fun os started H enc _ => lifted os started H enc)

theorem proved : Rows.DifferLinesSaid := over
#print axioms proved
end Go.Proofs.YtkcdhaallnhhmaaGreat.differLines
