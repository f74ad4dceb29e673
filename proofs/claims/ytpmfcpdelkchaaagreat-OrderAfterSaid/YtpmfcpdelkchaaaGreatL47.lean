/- Part 47 of the proof: OrdEq. -/
import Derived.Test.YtpmfcpdelkchaaaGreatL46
namespace Go.Proofs.YtpmfcpdelkchaaaGreat
set_option linter.unusedSimpArgs false
set_option linter.unusedVariables false
set_option linter.unusedSectionVars false
set_option maxRecDepth 100000
set_option maxHeartbeats 16000000
section
open Go.RowKit Go.Lib
theorem ite_f {α:Type} (f:Bool→α) (p:Prop) [Decidable p] {A:α} {B:Bool} (h:A=f B):(if p then A else f false)=f (decide p && B):=by
 subst h
 by_cases hp:p
 · simp [hp]
 · simp [hp]
theorem eqRep (a b:RepD) (U:World):(binOp .eql 76 (repV a) (repV b)).run Tryz.prog U=.ok (.bool (sameRep a b)) U:=by
 obtain ⟨a0,a1,a2,⟨a3,a4,a5,a6,a7⟩,⟨a8,a9,a10,a11,a12⟩⟩:=a;obtain ⟨b0,b1,b2,⟨b3,b4,b5,b6,b7⟩,⟨b8,b9,b10,b11,b12⟩⟩:=b;unfold repV repC sameRep;dsimp only;go_simp
 repeat (refine ite_f (fun b=>Result.ok (Value.bool b) U) _ ?_)
 split <;> simp_all
end
end Go.Proofs.YtpmfcpdelkchaaaGreat
