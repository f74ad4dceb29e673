/- PROVED: for any two loads DifferParts answers true: differ.Parts tells the words that the document tells, and differ.Fresh the samples that it tells. No condition beyond the row's own. -/
import Derived.Test.YtkcdhaallnhhmaaGreatP43
import Derived.Test.YtkcdhaallnhhmaaGreatP44
import Derived.ProofKit
import Derived.OpenShut
import Derived.ShutString
import Derived.ChangeOld
import Derived.Below
import Derived.Lib.SmallJoins
namespace Go.Proofs.YtkcdhaallnhhmaaGreat.differParts
open Go.ChangeShapes Go.WideShapes Go.ChangeAt Go.RowKit Go.Joins
open Go.ChangeMaps (open_string shut_string)
set_option linter.unusedVariables false

theorem own : ownKnob Tryz.prog.godebug = none := by kernel_rfl
theorem laidOut : laidOutB Tryz.prog = true := by kernel_rfl

set_option maxRecDepth 100000 in
set_option maxHeartbeats 1000000 in
theorem lifted (os : Os) (started : os.Started) (H : Type) (enc : TypeId × Value → H) :
    ReturnsInHanded {} Tryz.checked os 4 .any (Rows.differPartsSpec.pre6 enc Tryz.prog Tryz.f4 Rows.differPartsRow.domain false) (Rows.differPartsSpec.post enc Tryz.prog Tryz.f4 false true false false) := by
  refine returnsInHanded_of_change (C := Tryz.checked) own started (by kernel_rfl) Tryz.func4
    (ChangeSpec.witness6 (enc := enc) (C := Tryz.checked) false ⟨#[], #[.agg #[.slice none 0 0, .slice none 0 0, .int .i64 0, .int .i64 0, .int .i64 0, .int .i64 0, .int .i64 0, .int .i64 0, .bool false, .int .i64 0], .agg #[.slice none 0 0, .slice none 0 0, .int .i64 0, .int .i64 0, .int .i64 0, .int .i64 0, .int .i64 0, .int .i64 0, .bool false, .int .i64 0]], []⟩ 8 (by kernel_rfl) (by kernel_rfl) (by kernel_rfl) (by kernel_rfl)) ?_
  intro W base args ds gs before hval0 hW hcnd _
  have hval : ∀ (j : Nat) t v, Tryz.f4.params[j]? = some t → args[j]? = some v → Value.okWide Tryz.prog W .any base t v := hval0
  have hW' := hW
  obtain ⟨p, q, hA0, hV, rfl, hfz, hnd⟩ := hW
  have hA : DataW.TrodAll enc Tryz.prog W 0 (fun _ => true) true Tryz.f4.params.toList args.toList ds p := hA0
  rw [Tryz.params4] at hA hval
  obtain ⟨v0, vs0, d0, ds0, p0, q0, hargs, rfl, rfl, h0, r0⟩ := trodAll_cons hA
  obtain ⟨v1, vs1, d1, ds1, p1, q1, rfl, rfl, rfl, h1, r1⟩ := trodAll_cons r0
  obtain ⟨rfl, rfl, rfl⟩ := trodAll_nil r1
  obtain rfl : args = #[v0, v1] := by cases args; simp_all
  obtain ⟨rfl, rfl⟩ := trodVars_none hV
  have k0 := h0
  have lt0 : ∀ x ∈ p0, x.block < W.heap.size := by obtain ⟨m, hm⟩ := k0; exact DataW.trod_lt m _ _ _ hm
  have k1 := h1
  have lt1 : ∀ x ∈ p1, x.block < W.heap.size := by obtain ⟨m, hm⟩ := k1; exact DataW.trod_lt m _ _ _ hm
  obtain ⟨fu0, hfu0⟩ := h0
  obtain ⟨po0, bo0, li0, pa0, sa0, pd0, sx0, px0, ve0, hr0, ha0, ec0⟩ := load_reads hfu0
  obtain rfl : v0 = .agg ([.slice sa0 li0.length sx0, .slice pd0 pa0.length px0, .int .i64 po0.mn, .int .i64 po0.mx, .int .i64 po0.tg, .int .i64 po0.tol, .int .i64 po0.win, .int .i64 po0.hold, .bool bo0, .int .i64 ve0]).toArray := by
    obtain ⟨cs, rfl, hl⟩ := okWide_struct Tryz.underlying48 (hval 0 48 v0 rfl rfl)
    have : cs.toList = [.slice sa0 li0.length sx0, .slice pd0 pa0.length px0, .int .i64 po0.mn, .int .i64 po0.mx, .int .i64 po0.tg, .int .i64 po0.tol, .int .i64 po0.win, .int .i64 po0.hold, .bool bo0, .int .i64 ve0] := ec0
    rw [show cs = ([.slice sa0 li0.length sx0, .slice pd0 pa0.length px0, .int .i64 po0.mn, .int .i64 po0.mx, .int .i64 po0.tg, .int .i64 po0.tol, .int .i64 po0.win, .int .i64 po0.hold, .bool bo0, .int .i64 ve0]).toArray from by rw [← this]]
  obtain ⟨fu1, hfu1⟩ := h1
  obtain ⟨po1, bo1, li1, pa1, sa1, pd1, sx1, px1, ve1, hr1, ha1, ec1⟩ := load_reads hfu1
  obtain rfl : v1 = .agg ([.slice sa1 li1.length sx1, .slice pd1 pa1.length px1, .int .i64 po1.mn, .int .i64 po1.mx, .int .i64 po1.tg, .int .i64 po1.tol, .int .i64 po1.win, .int .i64 po1.hold, .bool bo1, .int .i64 ve1]).toArray := by
    obtain ⟨cs, rfl, hl⟩ := okWide_struct Tryz.underlying48 (hval 1 48 v1 rfl rfl)
    have : cs.toList = [.slice sa1 li1.length sx1, .slice pd1 pa1.length px1, .int .i64 po1.mn, .int .i64 po1.mx, .int .i64 po1.tg, .int .i64 po1.tol, .int .i64 po1.win, .int .i64 po1.hold, .bool bo1, .int .i64 ve1] := ec1
    rw [show cs = ([.slice sa1 li1.length sx1, .slice pd1 pa1.length px1, .int .i64 po1.mn, .int .i64 po1.mx, .int .i64 po1.tg, .int .i64 po1.tol, .int .i64 po1.win, .int .i64 po1.hold, .bool bo1, .int .i64 ve1]).toArray from by rw [← this]]
  clear hA0 hval0
  refine (dfP_gen po0 po1 bo0 bo1 li0 li1 pa0 pa1 sa0 sa1 pd0 pd1 sx0 sx1 px0 px1 ve0 ve1 W (Lib.hid hr0) (Lib.hid hr1) (Lib.hid ha0) (Lib.hid ha1)).mono fun e W' ⟨he, bel⟩ => ?_
  subst he
  exact ⟨_, rfl, _, _, _, [], _, [], hW', trodAll_mk1 (shut_bool Tryz.underlying4 _), (trodAll_cons_mk (Below.trod laidOut (by kernel_rfl) (of_decide_eq_true (by kernel_rfl)) k0 bel lt0) (trodAll_cons_mk (Below.trod laidOut (by kernel_rfl) (of_decide_eq_true (by kernel_rfl)) k1 bel lt1) trodAll_mk0)), rfl, bel.frame _, fun h => by cases h⟩

theorem rowed : mapsRowed Tryz.prog = true := by kernel_rfl
theorem inPl : Tryz.prog.inPlace 4 = Rows.differPartsRow.inPlace := by kernel_rfl
theorem unfol : Tryz.prog.unfollowed 4 = Rows.differPartsRow.unfollowed := by kernel_rfl
theorem recur : Tryz.prog.recurses 4 = Rows.differPartsRow.recurses := by kernel_rfl
theorem namedV : Tryz.prog.varsNamed 4 = Rows.differPartsRow.named := by kernel_rfl
theorem closed : joinedFacts Tryz.prog 4 Tryz.f4 Rows.differPartsSpec Rows.differPartsRow = true := by
  unfold joinedFacts
  rw [laidOut, rowed, inPl, unfol, recur, namedV]
  kernel_rfl
theorem fnNamed : Tryz.prog.funcNamed Rows.differPartsRow.func = some 4 := by kernel_rfl
theorem over : Rows.differPartsRow.holds Tryz.pinned (OpenSpec.ofChange Rows.differPartsSpec) :=
  OpenClaim.holds_of_wide 4 Tryz.f4 rfl rfl rfl rfl rfl rfl rfl ⟨rfl, rfl, rfl, rfl, rfl⟩ rfl rfl rfl rfl rfl fnNamed Tryz.func4 closed
    (of_decide_eq_true (by kernel_rfl)) (by unfold Func.isWrapper; first | (rw [if_pos (by decide +kernel)]; kernel_rfl) | (rw [if_neg (by decide +kernel)]; exact ⟨rfl, rfl⟩))
    (fun os started H enc _ => lifted os started H enc)

theorem proved : Rows.DifferPartsSaid := over
#print axioms proved
end Go.Proofs.YtkcdhaallnhhmaaGreat.differParts
