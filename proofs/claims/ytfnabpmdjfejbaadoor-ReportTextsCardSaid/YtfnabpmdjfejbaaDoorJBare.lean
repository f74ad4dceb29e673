/- line.verbs, Verb, named, Bare; flywheelref41.Verb, Named, Bare. -/
import Derived.Test.YtfnabpmdjfejbaaDoorJCall
namespace Go.Proofs.YtfnabpmdjfejbaaDoor
set_option linter.unusedSimpArgs false
set_option linter.unusedVariables false
open Go.RowKit Go.Lib

def namedB (k : Int) : Bool := k == 1 || (k == 5 || (k == 6 || k == 7))
set_option maxRecDepth 100000 in
set_option maxHeartbeats 4000000 in
theorem named_any (k : Int) (w : World) :
    Calls Tryd.prog 50 #[.int .i64 k] w fun e w' => e = .returned (.bool (namedB k)) ∧ Below w.heap.size w w' := by
  by_cases h1 : k = 1
  · subst h1
    go_enter Tryd.func50, Tryd.ntmps50
    go_wp2
    go_ret
    exact ⟨rfl, Below.refl _ _⟩
  by_cases h5 : k = 5
  · subst h5
    go_enter Tryd.func50, Tryd.ntmps50
    go_wp2
    go_ret
    exact ⟨rfl, Below.refl _ _⟩
  by_cases h6 : k = 6
  · subst h6
    go_enter Tryd.func50, Tryd.ntmps50
    go_wp2
    go_ret
    exact ⟨rfl, Below.refl _ _⟩
  have q1 : (k == 1) = false := by simp [h1]
  have q5 : (k == 5) = false := by simp [h5]
  have q6 : (k == 6) = false := by simp [h6]
  have HE := Lib.hid (show namedB k = (k == 7) by simp [namedB, q1, q5, q6])
  clear h1 h5 h6
  go_enter Tryd.func50, Tryd.ntmps50
  go_wp2
  go_ret
  exact ⟨by rw [HE.out]; rfl, Below.refl _ _⟩
set_option maxRecDepth 100000 in
set_option maxHeartbeats 4000000 in
theorem rnamed_any (k : Int) (w : World) :
    Calls Tryd.prog 29 #[.int .i64 k] w fun e w' => e = .returned (.bool (namedB k)) ∧ Below w.heap.size w w' := by
  by_cases h1 : k = 1
  · subst h1
    go_enter Tryd.func29, Tryd.ntmps29
    go_wp2
    go_ret
    exact ⟨rfl, Below.refl _ _⟩
  by_cases h5 : k = 5
  · subst h5
    go_enter Tryd.func29, Tryd.ntmps29
    go_wp2
    go_ret
    exact ⟨rfl, Below.refl _ _⟩
  by_cases h6 : k = 6
  · subst h6
    go_enter Tryd.func29, Tryd.ntmps29
    go_wp2
    go_ret
    exact ⟨rfl, Below.refl _ _⟩
  have q1 : (k == 1) = false := by simp [h1]
  have q5 : (k == 5) = false := by simp [h5]
  have q6 : (k == 6) = false := by simp [h6]
  have HE := Lib.hid (show namedB k = (k == 7) by simp [namedB, q1, q5, q6])
  clear h1 h5 h6
  go_enter Tryd.func29, Tryd.ntmps29
  go_wp2
  go_ret
  exact ⟨by rw [HE.out]; rfl, Below.refl _ _⟩

/-- A kind's word. -/
def verbB (k : Int) : ByteArray :=
  if k = 1 then ⟨#[105, 110, 103, 101, 115, 116]⟩ else if k = 2 then ⟨#[116, 114, 105, 109]⟩ else if k = 3 then ⟨#[115, 110, 97, 112]⟩ else if k = 4 then ⟨#[102, 114, 101, 101]⟩
  else if k = 5 then ⟨#[108, 111, 111, 107]⟩ else if k = 6 then ⟨#[115, 101, 116]⟩ else if k = 7 then ⟨#[114, 101, 97, 100]⟩ else if k = 8 then ⟨#[115, 104, 117, 116]⟩ else ⟨#[]⟩

def verbsV : Value := .agg #[.string ⟨#[]⟩, .string ⟨#[105, 110, 103, 101, 115, 116]⟩, .string ⟨#[116, 114, 105, 109]⟩, .string ⟨#[115, 110, 97, 112]⟩, .string ⟨#[102, 114, 101, 101]⟩, .string ⟨#[108, 111, 111, 107]⟩, .string ⟨#[115, 101, 116]⟩, .string ⟨#[114, 101, 97, 100]⟩, .string ⟨#[115, 104, 117, 116]⟩]
set_option maxRecDepth 100000 in
set_option maxHeartbeats 4000000 in
theorem verbs_any (w : World) :
    Calls Tryd.prog 69 #[] w fun e w' => e = .returned verbsV ∧ Below w.heap.size w w' := by
  go_enter Tryd.func69, Tryd.ntmps69
  go_wp2
  refine bodyPost_ret (v := verbsV) (by simp [results, Tryd.results69, go_sem, verbsV]) rfl ⟨rfl, ?_⟩
  repeat (first | exact Below.refl _ _ | with_reducible refine balloc ?_ _ | with_reducible refine Below.setCell ?_ (by simp) _ | with_reducible refine Below.drew ?_)
end Go.Proofs.YtfnabpmdjfejbaaDoor
