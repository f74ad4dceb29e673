/- The queue, the reference's queue, and boxes beside them. -/
import Derived.Test.YtfnabpmdjfejbaaQActs
import Derived.Test.YtfnabpmdjfejbaaTold
namespace Go.Proofs.Ytfnabpmdjfejbaa
set_option linter.unusedSimpArgs false
set_option linter.unusedVariables false
open Go.RowKit Go.Lib

/-- Where the reference's rows may lie. -/
def Apart (H : Nat) (X : List (Nat × Obj)) (B : Nat → Prop) (b : Nat) : Prop := b ≠ H ∧ (∀ p ∈ X, b ≠ p.1) ∧ ¬ B b
/-- The queue stands at block H; the boxes X; the reference's rows lie apart from all these; below H all is as it was. -/
def PStep (w0 : World) (H : Nat) (X : List (Nat × Obj)) (st : QSt) (vl vb vd : Value) (x : RQ) (W : World) : Prop :=
  ∃ B, QIn W H 0 st B ∧ (∀ k, B k → H < k) ∧ (∀ p ∈ X, H < p.1 ∧ ¬ B p.1 ∧ W.heap[p.1]? = some p.2) ∧ RQAt (Apart H X B) W vl vb vd x ∧ Below H w0 W ∧ H < W.heap.size

theorem RowP.imp {P Q : Nat → Prop} {w : World} {v : Value} {l : List Ky} (h : RowP P w v l) (hi : ∀ b, b < w.heap.size → P b → Q b) : RowP Q w v l := by
  refine ⟨h.1, fun b o n c e hn => hi b ?_ (h.2 b o n c e hn)⟩
  obtain ⟨A, c', hv, _, hr⟩ := h.1
  obtain ⟨b', o', hA, hlt, _⟩ := hr hn
  rw [e] at hv
  injection hv with e1 _ _
  rw [hA] at e1
  injection e1 with e1
  injection e1 with e1
  omega
/-- A row stands where its block does. -/
theorem RowP.kept {P : Nat → Prop} {w w' : World} {v : Value} {l : List Ky} (h : RowP P w v l) (hs : w.heap.size ≤ w'.heap.size) (hb : ∀ b, b < w.heap.size → P b → w'.heap[b]? = w.heap[b]?) : RowP P w' v l := by
  refine ⟨?_, h.2⟩
  obtain ⟨A, c, hv, hc, hr⟩ := h.1
  refine ⟨A, c, hv, hc, fun hn => ?_⟩
  obtain ⟨b, o, hA, hlt, hat⟩ := hr hn
  have hP := h.2 b o l.length c (by rw [hv, hA]) hn
  exact ⟨b, o, hA, Nat.lt_of_lt_of_le hlt hs, fun k x hk j u hu => (World.cell?_of_block (hb b hlt hP)).trans (hat k x hk j u hu)⟩
theorem RQAt.imp {P Q : Nat → Prop} {w : World} {vl vb vd : Value} {x : RQ} (h : RQAt P w vl vb vd x) (hi : ∀ b, b < w.heap.size → P b → Q b) : RQAt Q w vl vb vd x := ⟨h.l.imp hi, h.b.imp hi, h.d.imp hi⟩
theorem RQAt.kept {P : Nat → Prop} {w w' : World} {vl vb vd : Value} {x : RQ} (h : RQAt P w vl vb vd x) (hs : w.heap.size ≤ w'.heap.size) (hb : ∀ b, b < w.heap.size → P b → w'.heap[b]? = w.heap[b]?) : RQAt P w' vl vb vd x := ⟨h.l.kept hs hb, h.b.kept hs hb, h.d.kept hs hb⟩

theorem PStep.below {w0 W W' : World} {H : Nat} {X : List (Nat × Obj)} {st : QSt} {vl vb vd : Value} {x : RQ} (h : PStep w0 H X st vl vb vd x W) (hb : Below W.heap.size W W') : PStep w0 H X st vl vb vd x W' := by
  obtain ⟨B, ⟨a, b, c, d, h1⟩, h2, h3, h4, h5, h6⟩ := h
  exact ⟨B, ⟨a, b, c, d, h1.below hb⟩, h2, fun p hp => ⟨(h3 p hp).1, (h3 p hp).2.1, (hb.block _ (Array.getElem?_eq_some_iff.1 (h3 p hp).2.2).1).trans (h3 p hp).2.2⟩, h4.below hb, h5.trans (hb.mono (by omega)), Nat.lt_of_lt_of_le h6 hb.size⟩
/-- A box more. -/
theorem PStep.push {w0 W : World} {H : Nat} {X : List (Nat × Obj)} {st : QSt} {vl vb vd : Value} {x : RQ} (h : PStep w0 H X st vl vb vd x W) (o : Obj) : PStep w0 H ((W.heap.size, o) :: X) st vl vb vd x (W.alloc o) := by
  obtain ⟨B, ⟨a, b, c, d, h1⟩, h2, h3, h4, h5, h6⟩ := h
  have hb : Below W.heap.size W (W.alloc o) := balloc (Below.refl _ _) _
  refine ⟨B, ⟨a, b, c, d, h1.below hb⟩, h2, fun p hp => ?_, (h4.imp (Q := Apart H ((W.heap.size, o) :: X) B) fun b hlt hP => ⟨hP.1, fun p hp => ?_, hP.2.2⟩).below hb, h5.trans (hb.mono (by omega)), Nat.lt_of_lt_of_le h6 hb.size⟩
  · rcases List.mem_cons.1 hp with rfl | hp
    · exact ⟨h6, fun hB => by have := h1.low _ hB; omega, heap_alloc_new _ _⟩
    · exact ⟨(h3 p hp).1, (h3 p hp).2.1, (hb.block _ (Array.getElem?_eq_some_iff.1 (h3 p hp).2.2).1).trans (h3 p hp).2.2⟩
  · rcases List.mem_cons.1 hp with rfl | hp
    · show b ≠ W.heap.size
      omega
    · exact hP.2.1 p hp
/-- Boxes that are forgotten. -/
theorem PStep.drop {w0 W : World} {H : Nat} {X Y : List (Nat × Obj)} {st : QSt} {vl vb vd : Value} {x : RQ} (h : PStep w0 H X st vl vb vd x W) (hY : ∀ p ∈ Y, p ∈ X) : PStep w0 H Y st vl vb vd x W := by
  obtain ⟨B, h1, h2, h3, h4, h5, h6⟩ := h
  exact ⟨B, h1, h2, fun p hp => h3 p (hY p hp), h4.imp fun b _ hP => ⟨hP.1, fun p hp => hP.2.1 p (hY p hp), hP.2.2⟩, h5, h6⟩
/-- Behind a call of the queue. -/
theorem PStep.says {w0 W W' : World} {H : Nat} {X : List (Nat × Obj)} {st' : QSt} {vl vb vd : Value} {x : RQ} {B B' : Nat → Prop} (h1 : QIn W' H 0 st' B') (hm : Moves W W' H 0 5 B) (hB : ∀ k, B' k → B k ∨ W.heap.size ≤ k)
    (h2 : ∀ k, B k → H < k) (h3 : ∀ p ∈ X, H < p.1 ∧ ¬ B p.1 ∧ W.heap[p.1]? = some p.2) (h4 : RQAt (Apart H X B) W vl vb vd x) (h5 : Below H w0 W) (h6 : H < W.heap.size) : PStep w0 H X st' vl vb vd x W' := by
  have hs := hm.size
  refine ⟨B', h1, fun k hk => ?_, fun p hp => ?_, ?_, h5.trans (hm.below (Nat.le_refl _) (fun r hr => by have := h2 r hr; omega) (by omega)), by omega⟩
  · rcases hB k hk with h | h
    · exact h2 k h
    · omega
  · obtain ⟨k1, k2, k3⟩ := h3 p hp
    have hlt := (Array.getElem?_eq_some_iff.1 k3).1
    refine ⟨k1, fun hb => ?_, (hm.block _ hlt (by omega) k2).trans k3⟩
    rcases hB _ hb with h | h
    · exact k2 h
    · omega
  · have k1 : RQAt (fun b => b < W.heap.size ∧ Apart H X B b) W vl vb vd x := h4.imp fun b hlt hP => And.intro hlt hP
    have k2 : RQAt (fun b => b < W.heap.size ∧ Apart H X B b) W' vl vb vd x := k1.kept hs fun b hlt hP => hm.block b hlt hP.2.1 hP.2.2.2
    refine k2.imp fun b _ hP => ⟨hP.2.1, hP.2.2.1, fun hb => ?_⟩
    rcases hB b hb with h | h
    · exact hP.2.2.2 h
    · have := hP.1; omega
/-- Behind a call of the reference's. -/
theorem PStep.ref {w0 W : World} {H : Nat} {X : List (Nat × Obj)} {st : QSt} {vl vb vd : Value} {x : RQ} (h : PStep w0 H X st vl vb vd x W) :
    ∃ P : Nat → Prop, (∀ b, W.heap.size ≤ b → P b) ∧ RQAt P W vl vb vd x ∧ ∀ (W' : World) (vl' vb' vd' : Value) (x' : RQ), RQAt P W' vl' vb' vd' x' → Below W.heap.size W W' → PStep w0 H X st vl' vb' vd' x' W' := by
  obtain ⟨B, h1, h2, h3, h4, h5, h6⟩ := h
  refine ⟨Apart H X B, fun b hb => ⟨by omega, fun p hp => ?_, fun hB => ?_⟩, h4, fun W' vl' vb' vd' x' hx hb => ?_⟩
  · have := (Array.getElem?_eq_some_iff.1 (h3 p hp).2.2).1
    omega
  · obtain ⟨_, _, _, _, q⟩ := h1
    have := q.low b hB
    omega
  · obtain ⟨a, b, c, d, q⟩ := h1
    exact ⟨B, ⟨a, b, c, d, q.below hb⟩, h2, fun p hp => ⟨(h3 p hp).1, (h3 p hp).2.1, (hb.block _ (Array.getElem?_eq_some_iff.1 (h3 p hp).2.2).1).trans (h3 p hp).2.2⟩, hx, h5.trans (hb.mono (by omega)), Nat.lt_of_lt_of_le h6 hb.size⟩
theorem pstep_add {w0 W : World} {H : Nat} {X : List (Nat × Obj)} {st : QSt} {vl vb vd : Value} {x : RQ} (h : PStep w0 H X st vl vb vd x W) (k : KO) (hl : st.back.length < 1000000) :
    Calls Try.prog 13 #[.pointer (some ⟨H, 0, none⟩), .agg #[.int .u64 k.1.1, .int .u64 k.1.2]] W fun e W' => e = .returned (.bool (addQ st k).2) ∧ PStep w0 H X (addQ st k).1 vl vb vd x W' := by
  obtain ⟨B, h1, h2, h3, h4, h5, h6⟩ := h
  refine (add_any H 0 B st k W h1 hl).mono ?_
  rintro e W' ⟨B', rfl, k1, k2, k3⟩
  exact ⟨rfl, PStep.says k1 k2 k3 h2 h3 h4 h5 h6⟩
theorem pstep_done {w0 W : World} {H : Nat} {X : List (Nat × Obj)} {st : QSt} {vl vb vd : Value} {x : RQ} (h : PStep w0 H X st vl vb vd x W) (k : KO) (hl : st.back.length < 1000000) :
    Calls Try.prog 11 #[.pointer (some ⟨H, 0, none⟩), .agg #[.int .u64 k.1.1, .int .u64 k.1.2]] W fun e W' => e = .returned (.tuple #[.bool (doneQ st k).2.1, .int .i64 (doneQ st k).2.2]) ∧ PStep w0 H X (doneQ st k).1 vl vb vd x W' := by
  obtain ⟨B, h1, h2, h3, h4, h5, h6⟩ := h
  refine (done_any H 0 B st k W h1 hl).mono ?_
  rintro e W' ⟨B', rfl, k1, k2, k3⟩
  exact ⟨rfl, PStep.says k1 k2 k3 h2 h3 h4 h5 h6⟩
theorem pstep_shut {w0 W : World} {H : Nat} {X : List (Nat × Obj)} {st : QSt} {vl vb vd : Value} {x : RQ} (h : PStep w0 H X st vl vb vd x W) :
    Calls Try.prog 12 #[.pointer (some ⟨H, 0, none⟩)] W fun e W' => e = .returned (.bool (!st.over)) ∧ PStep w0 H X { st with over := true } vl vb vd x W' := by
  obtain ⟨B, h1, h2, h3, h4, h5, h6⟩ := h
  refine (shut_any H 0 B st W h1).mono ?_
  rintro e W' ⟨B', rfl, k1, k2, k3⟩
  exact ⟨rfl, PStep.says k1 k2 k3 h2 h3 h4 h5 h6⟩
def PGetSays (w0 : World) (H : Nat) (X : List (Nat × Obj)) (st : QSt) (vl vb vd : Value) (x : RQ) (e : Ending) (W' : World) : Prop :=
  ∃ (y : Ky) (is : Bool) (st' : QSt), e = .returned (.tuple #[.agg #[.int .u64 y.1, .int .u64 y.2], .bool is]) ∧ PStep w0 H X st' vl vb vd x W' ∧
    ((is = false ∧ y = (0, 0) ∧ st' = st ∧ st.front = [] ∧ st.back = []) ∨ ∃ f k, is = true ∧ y = k.1 ∧ (turnK st.front st.back).1 = f ++ [k] ∧ st' = gotQ st f k)
theorem pstep_get {w0 W : World} {H : Nat} {X : List (Nat × Obj)} {st : QSt} {vl vb vd : Value} {x : RQ} (h : PStep w0 H X st vl vb vd x W) (hl : st.front.length + st.back.length < 1000000) :
    Calls Try.prog 10 #[.pointer (some ⟨H, 0, none⟩)] W (PGetSays w0 H X st vl vb vd x) := by
  obtain ⟨B, h1, h2, h3, h4, h5, h6⟩ := h
  by_cases hz : st.front = [] ∧ st.back = []
  · refine (qget_none H 0 B st W h1 hz).mono ?_
    rintro e W' ⟨B', rfl, k1, k2, k3⟩
    exact ⟨(0, 0), false, st, rfl, PStep.says k1 k2 k3 h2 h3 h4 h5 h6, .inl ⟨rfl, rfl, rfl, hz.1, hz.2⟩⟩
  · have hpos : 0 < st.front.length + st.back.length := by
      rcases Nat.eq_zero_or_pos (st.front.length + st.back.length) with h0 | h0
      · exact absurd ⟨List.eq_nil_of_length_eq_zero (by omega), List.eq_nil_of_length_eq_zero (by omega)⟩ hz
      · exact h0
    refine (qget_some H 0 B st W h1 hpos hl).mono ?_
    rintro e W' ⟨f, y, B', hf, rfl, k1, k2, k3⟩
    exact ⟨y.1, true, _, rfl, PStep.says k1 k2 k3 h2 h3 h4 h5 h6, .inr ⟨f, y, rfl, rfl, hf, rfl⟩⟩
/-- A store into a box. -/
theorem PStep.set {w0 W : World} {H : Nat} {X : List (Nat × Obj)} {st : QSt} {vl vb vd : Value} {x : RQ} (h : PStep w0 H X st vl vb vd x W) {r : Nat} {cs : Array Value} {T : TypeId} (hr : (r, Obj.cells cs T (0, 0)) ∈ X) (i : Nat) (v : Value) :
    PStep w0 H ((r, .cells (cs.setIfInBounds i v) T (0, 0)) :: X.filter (fun p => p.1 ≠ r)) st vl vb vd x (W.setCell ⟨r, i, none⟩ v) := by
  obtain ⟨B, ⟨a, b, c, d, h1⟩, h2, h3, h4, h5, h6⟩ := h
  obtain ⟨hr1, hr2, hr3⟩ := h3 _ hr
  have hother : ∀ k, k ≠ r → (W.setCell ⟨r, i, none⟩ v).heap[k]? = W.heap[k]? := fun k hk => Below.heap_setCell _ _ _ _ hk
  have hsz : (W.setCell ⟨r, i, none⟩ v).heap.size = W.heap.size := by simp [World.setCell]
  have hHr : H ≠ r := by simp only at hr1; omega
  refine ⟨B, ⟨a, b, c, d, h1.keep (fun j => World.cell?_setCell_other _ _ _ _ (fun e => by injection e with e _ _; exact hHr e.symm)) (fun j => World.frozen?_setCell _ _ _ _) (fun k hk => hother k (fun e => hr2 (e ▸ hk))) (by rw [hsz]; exact Nat.le_refl _)⟩, h2, fun p hp => ?_, ?_, h5.setCell (show H ≤ r by simp only at hr1; omega) _, by rw [hsz]; exact h6⟩
  · rcases List.mem_cons.1 hp with rfl | hp
    · exact ⟨hr1, hr2, setCell_block hr3⟩
    · obtain ⟨hp1, hp2⟩ := List.mem_filter.1 hp
      have hne : p.1 ≠ r := by simpa using hp2
      exact ⟨(h3 p hp1).1, (h3 p hp1).2.1, (hother _ hne).trans (h3 p hp1).2.2⟩
  · refine (h4.kept (by rw [hsz]; exact Nat.le_refl _) fun b _ hP => hother b (hP.2.1 _ hr)).imp fun b _ hP => ⟨hP.1, fun p hp => ?_, hP.2.2⟩
    rcases List.mem_cons.1 hp with rfl | hp
    · exact hP.2.1 (r, Obj.cells cs T (0, 0)) hr
    · exact hP.2.1 p (List.mem_filter.1 hp).1
theorem PStep.rows {w0 W : World} {H : Nat} {X : List (Nat × Obj)} {st : QSt} {vl vb vd : Value} {x : RQ} (h : PStep w0 H X st vl vb vd x W) : RQAt (fun _ => True) W vl vb vd x := by
  obtain ⟨B, _, _, _, h4, _⟩ := h
  exact h4.imp fun _ _ _ => trivial
theorem PStep.box {w0 W : World} {H : Nat} {X : List (Nat × Obj)} {st : QSt} {vl vb vd : Value} {x : RQ} (h : PStep w0 H X st vl vb vd x W) (r : Nat) (o : Obj) (hr : (r, o) ∈ X) : W.heap[r]? = some o := by
  obtain ⟨B, _, _, h3, _⟩ := h
  exact (h3 _ hr).2.2
theorem PStep.base {w0 W : World} {H : Nat} {X : List (Nat × Obj)} {st : QSt} {vl vb vd : Value} {x : RQ} (h : PStep w0 H X st vl vb vd x W) : Below H w0 W ∧ H < W.heap.size := by
  obtain ⟨B, _, _, _, _, h5, h6⟩ := h
  exact ⟨h5, h6⟩
theorem PStep.qin {w0 W : World} {H : Nat} {X : List (Nat × Obj)} {st : QSt} {vl vb vd : Value} {x : RQ} (h : PStep w0 H X st vl vb vd x W) : ∃ B, QIn W H 0 st B := by
  obtain ⟨B, h1, _⟩ := h
  exact ⟨B, h1⟩
end Go.Proofs.Ytfnabpmdjfejbaa
