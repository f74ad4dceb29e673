/- Acts as they come in; the queue's steps under one word. -/
import Derived.Test.YtfnabpmdjfejbaaQAwake
import Derived.Test.YtfnabpmdjfejbaaQTells
import Derived.Test.YtfnabpmdjfejbaaQOnce
namespace Go.Proofs.Ytfnabpmdjfejbaa
set_option linter.unusedSimpArgs false
set_option linter.unusedVariables false
open Go.RowKit Go.Lib Go.ChangeShapes Go.WideShapes Go.Joins

theorem cl_act : Try.prog.cellsOf 34 = 3 := by kernel_rfl
theorem cl_int : Try.prog.cellsOf 3 = 1 := by kernel_rfl
abbrev ActD := Int × Ky
def actC (a : ActD) : List Value := [.int .i64 a.1, .int .u64 a.2.1, .int .u64 a.2.2]

section
variable {H : Type} {enc : TypeId × Value → H} {w : World} {base : Nat} {spare : Nat → Bool} {held : Bool}

set_option maxRecDepth 100000 in
theorem act_reads {fuel : Nat} {cs : List Value} {x : DataW H × List MemPlace} (h : DataW.trod enc Try.prog w base spare held fuel 34 cs = some x) :
    ∃ a : ActD, a.2.ok ∧ cs = actC a := by
  obtain ⟨xs, n, _, _, hl, hx, hf⟩ := DataW.trod_struct Try.underlying34 h
  rw [cl_act] at hl
  replace hx : xs.length = 2 := hx
  match cs, hl with
  | [a0, a1, a2], _ =>
    have h0 : DataW.trod enc Try.prog w base spare held n 3 (([a0, a1, a2].drop 0).take (Try.prog.cellsOf 3)) = xs[0]? := hf 0 _ rfl
    have h1 : DataW.trod enc Try.prog w base spare held n 32 (([a0, a1, a2].drop 1).take (Try.prog.cellsOf 32)) = xs[1]? := hf 1 _ rfl
    rw [cl_int, List.getElem?_eq_getElem (by omega)] at h0
    obtain ⟨n0, hn, _, hw⟩ := DataW.trod_int Try.underlying3 h0
    rw [cl_key, List.getElem?_eq_getElem (by omega)] at h1
    obtain ⟨p, hp, hk⟩ := key_reads h1
    have e0 : a0 = .int .i64 n0 := by simpa using hn
    have e1 : [a1, a2] = keyC p := hk
    simp only [keyC, List.cons.injEq, and_true] at e1
    exact ⟨(n0, p), hp, by rw [e0, e1.1, e1.2]; rfl⟩

theorem acts_read {fuel : Nat} {cs : List Value} {x : DataW H × List MemPlace} (h : DataW.trod enc Try.prog w base spare held fuel 22 cs = some x) :
    ∃ (v : Value) (l : List ActD), cs = [v] ∧ l.length ≤ maxLen ∧ (∀ p ∈ l, p.2.ok) ∧ RowIn 3 actC w v l := by
  haveI : Inhabited ActD := ⟨(0, (0, 0))⟩
  exact row_read (f := actC) Try.underlying22 cl_act (by decide) (fun _ _ _ h => act_reads h) h
end

/-! ### Steps -/
/-- The queue stands at block H; below H all is as it was. -/
def QStep (w0 : World) (H : Nat) (st : QSt) (W : World) : Prop := QBox w0 H [] st W
theorem QStep.of_says {w0 W w' : World} {H : Nat} {st' : QSt} {B : Nat → Prop} {v : Value} {e : Ending} (hB : ∀ k, B k → H < k) (h4 : Below H w0 W) (h5 : H < W.heap.size) (h : QSays W H 0 B st' v e w') : e = .returned v ∧ QStep w0 H st' w' := by
  obtain ⟨B', rfl, k1, k2, k3⟩ := h
  exact ⟨rfl, QBox.moved k1 k2 k3 (fun k hk => ⟨hB k hk, by simp⟩) (fun r hr => by simp at hr) h4 h5⟩
theorem step_add {w0 W : World} {H : Nat} {st : QSt} (h : QStep w0 H st W) (x : KO) (hl : st.back.length < 1000000) :
    Calls Try.prog 13 #[.pointer (some ⟨H, 0, none⟩), .agg #[.int .u64 x.1.1, .int .u64 x.1.2]] W fun e W' => e = .returned (.bool (addQ st x).2) ∧ QStep w0 H (addQ st x).1 W' := by
  obtain ⟨B, h1, h2, h3, h4, h5⟩ := h
  exact (add_any H 0 B st x W h1 hl).mono fun e W' h => QStep.of_says (fun k hk => (h2 k hk).1) h4 h5 h
theorem step_done {w0 W : World} {H : Nat} {st : QSt} (h : QStep w0 H st W) (x : KO) (hl : st.back.length < 1000000) :
    Calls Try.prog 11 #[.pointer (some ⟨H, 0, none⟩), .agg #[.int .u64 x.1.1, .int .u64 x.1.2]] W fun e W' => e = .returned (.tuple #[.bool (doneQ st x).2.1, .int .i64 (doneQ st x).2.2]) ∧ QStep w0 H (doneQ st x).1 W' := by
  obtain ⟨B, h1, h2, h3, h4, h5⟩ := h
  exact (done_any H 0 B st x W h1 hl).mono fun e W' h => QStep.of_says (fun k hk => (h2 k hk).1) h4 h5 h
theorem step_shut {w0 W : World} {H : Nat} {st : QSt} (h : QStep w0 H st W) :
    Calls Try.prog 12 #[.pointer (some ⟨H, 0, none⟩)] W fun e W' => e = .returned (.bool (!st.over)) ∧ QStep w0 H { st with over := true } W' := by
  obtain ⟨B, h1, h2, h3, h4, h5⟩ := h
  exact (shut_any H 0 B st W h1).mono fun e W' h => QStep.of_says (fun k hk => (h2 k hk).1) h4 h5 h
/-- What Get answers, and what there is behind it. -/
def GetSays (w0 : World) (H : Nat) (st : QSt) (e : Ending) (W' : World) : Prop :=
  ∃ (x : Ky) (is : Bool) (st' : QSt), e = .returned (.tuple #[.agg #[.int .u64 x.1, .int .u64 x.2], .bool is]) ∧ QStep w0 H st' W' ∧
    ((is = false ∧ x = (0, 0) ∧ st' = st ∧ st.front = [] ∧ st.back = []) ∨ ∃ f k, is = true ∧ x = k.1 ∧ (turnK st.front st.back).1 = f ++ [k] ∧ st' = gotQ st f k)
theorem step_get {w0 W : World} {H : Nat} {st : QSt} (h : QStep w0 H st W) (hl : st.front.length + st.back.length < 1000000) :
    Calls Try.prog 10 #[.pointer (some ⟨H, 0, none⟩)] W (GetSays w0 H st) := by
  obtain ⟨B, h1, h2, h3, h4, h5⟩ := h
  by_cases hz : st.front = [] ∧ st.back = []
  · refine (qget_none H 0 B st W h1 hz).mono fun e W' h => ?_
    obtain ⟨rfl, hq⟩ := QStep.of_says (w0 := w0) (fun k hk => (h2 k hk).1) h4 h5 h
    exact ⟨(0, 0), false, st, rfl, hq, .inl ⟨rfl, rfl, rfl, hz.1, hz.2⟩⟩
  · have hpos : 0 < st.front.length + st.back.length := by
      rcases Nat.eq_zero_or_pos (st.front.length + st.back.length) with h0 | h0
      · exact absurd ⟨List.eq_nil_of_length_eq_zero (by omega), List.eq_nil_of_length_eq_zero (by omega)⟩ hz
      · exact h0
    refine (qget_some H 0 B st W h1 hpos hl).mono ?_
    rintro e W' ⟨f, x, B', hf, rfl, k1, k2, k3⟩
    exact ⟨x.1, true, _, rfl, QBox.moved k1 k2 k3 (fun k hk => ⟨(h2 k hk).1, by simp⟩) (fun r hr => by simp at hr) h4 h5, .inr ⟨f, x, rfl, rfl, hf, rfl⟩⟩
theorem QStep.below {w0 W W' : World} {H : Nat} {st : QSt} (h : QStep w0 H st W) (hb : Below W.heap.size W W') : QStep w0 H st W' := QBox.below h hb
theorem QStep.qin {w0 W : World} {H : Nat} {st : QSt} (h : QStep w0 H st W) : ∃ B, QIn W H 0 st B := by
  obtain ⟨B, h1, _⟩ := h
  exact ⟨B, h1⟩
theorem QStep.base {w0 W : World} {H : Nat} {st : QSt} (h : QStep w0 H st W) : Below H w0 W ∧ H < W.heap.size := by
  obtain ⟨B, _, _, _, h4, h5⟩ := h
  exact ⟨h4, h5⟩
end Go.Proofs.Ytfnabpmdjfejbaa
