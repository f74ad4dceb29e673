/- workq's example, walked. -/
import Derived.Test.YtfnabpmdjfejbaaQNil
namespace Go.Proofs.Ytfnabpmdjfejbaa
set_option linter.unusedSimpArgs false
set_option linter.unusedVariables false
open Go.RowKit Go.Lib

def qA : KO := ⟨(1, 0), ⟨by decide, by decide⟩⟩
def s0 : QSt := ⟨[], [], [], [], false⟩
def s1 : QSt := ⟨[], [qA], [qA], [], false⟩
def s3 : QSt := ⟨[], [], [], [qA], false⟩
def s4 : QSt := ⟨[], [], [qA], [qA], false⟩
def s5 : QSt := ⟨[], [qA], [qA], [], false⟩
theorem add0 : addQ s0 qA = (s1, true) := by simp [addQ, s0, s1]
theorem add1 : addQ s1 qA = (s1, false) := by simp [addQ, s1]
theorem add3 : addQ s3 qA = (s4, false) := by simp [addQ, s3, s4]
theorem done4 : doneQ s4 qA = (s5, true, 0) := by simp [doneQ, s4, s5, strikeL]
theorem got1 {f : List KO} {x : KO} (h : (turnK s1.front s1.back).1 = f ++ [x]) : x = qA ∧ gotQ s1 f x = s3 := by
  have h' : [qA] = f ++ [x] := by simpa [turnK, s1] using h
  obtain ⟨rfl, h2⟩ := List.append_inj' (s₁ := []) h' rfl
  obtain rfl : qA = x := by simpa using h2
  exact ⟨rfl, by simp [gotQ, s1, s3, turnK, strikeL, insL]⟩

/-- A new queue. -/
theorem queue_new (w : World) (T : TypeId) : QIn (w.alloc (.cells #[.slice none 0 0, .slice none 0 0, .map none, .map none, .bool false] T)) w.heap.size 0 s0 (fun _ => False) := by
  have hc : ∀ j, (w.alloc (.cells #[.slice none 0 0, .slice none 0 0, .map none, .map none, .bool false] T)).cell? ⟨w.heap.size, j, none⟩ = #[.slice none 0 0, .slice none 0 0, .map none, .map none, .bool false][j]? := fun j => (startA w _ T).1 j
  have hf : ∀ j, (w.alloc (.cells #[.slice none 0 0, .slice none 0 0, .map none, .map none, .bool false] T)).frozen? ⟨w.heap.size, j, none⟩ = false := fun j => by
    have hb := heap_alloc_new w (.cells #[.slice none 0 0, .slice none 0 0, .map none, .map none, .bool false] T)
    unfold World.frozen?
    simp only
    rw [hb]
    simp
  exact ⟨.slice none 0 0, .slice none 0 0, none, none, ⟨⟨hc 0, hc 1, hf _, hf _, OwnK.nil _, OwnK.nil _, fun e => (by cases e), fun e => (by cases e), fun _ e => (by cases e)⟩, hc 2, hc 3, hc 4, hf _, hf _, hf _, rfl, rfl, Iff.rfl, fun _ e => (by cases e), fun _ e => (by cases e), fun _ e => (by cases e), fun _ e => (by cases e), fun _ e => (by cases e), fun _ h => h.elim, fun h => h, fun _ => ⟨rfl, rfl⟩⟩⟩

/-- The queue, and blocks of a key beside it. -/
def QBox (w0 : World) (H : Nat) (X : List Nat) (st : QSt) (W : World) : Prop :=
  ∃ B, QIn W H 0 st B ∧ (∀ k, B k → H < k ∧ k ∉ X) ∧ (∀ r ∈ X, H < r ∧ W.heap[r]? = some (.cells #[.int .u64 1, .int .u64 0] 32 (0, 0))) ∧ Below H w0 W ∧ H < W.heap.size
theorem QBox.cells {w0 W : World} {H r : Nat} {X : List Nat} {st : QSt} (h : QBox w0 H X st W) (hr : r ∈ X) : W.cell? ⟨r, 0, none⟩ = some (.int .u64 1) ∧ W.cell? ⟨r, 1, none⟩ = some (.int .u64 0) := by
  obtain ⟨_, _, _, hb, _⟩ := h
  have := (hb r hr).2
  exact ⟨by simp [World.cell?, this], by simp [World.cell?, this]⟩
theorem QBox.lt {w0 W : World} {H r : Nat} {X : List Nat} {st : QSt} (h : QBox w0 H X st W) (hr : r ∈ X) : r < W.heap.size := by
  obtain ⟨_, _, _, hb, _⟩ := h
  exact (Array.getElem?_eq_some_iff.1 (hb r hr).2).1
theorem QBox.rules {w0 W : World} {H r : Nat} {X : List Nat} {st : QSt} (h : QBox w0 H X st W) (hr : r ∈ X) : (∀ W', Below W.heap.size W W' → W'.cell? ⟨r, 0, none⟩ = some (.int .u64 1)) ∧ (∀ W', Below W.heap.size W W' → W'.cell? ⟨r, 1, none⟩ = some (.int .u64 0)) :=
  ⟨fun W' hW => (hW.cell (p := ⟨r, 0, none⟩) (h.lt hr)).trans (h.cells hr).1, fun W' hW => (hW.cell (p := ⟨r, 1, none⟩) (h.lt hr)).trans (h.cells hr).2⟩
theorem QBox.below {w0 W W' : World} {H : Nat} {X : List Nat} {st : QSt} (h : QBox w0 H X st W) (hb : Below W.heap.size W W') : QBox w0 H X st W' := by
  have hlt := fun r hr => QBox.lt (r := r) h hr
  obtain ⟨B, ⟨vf, vb, md, mb, h1⟩, h2, h3, h4, h5⟩ := h
  exact ⟨B, ⟨vf, vb, md, mb, h1.below hb⟩, h2, fun r hr => ⟨(h3 r hr).1, (hb.block _ (hlt r hr)).trans (h3 r hr).2⟩, h4.trans (hb.mono (by omega)), Nat.lt_of_lt_of_le h5 hb.size⟩
theorem QBox.push {w0 W : World} {H r : Nat} {X : List Nat} {st : QSt} (h : QBox w0 H X st W) (hr : r = W.heap.size) : QBox w0 H (r :: X) st (W.alloc (.cells #[.int .u64 1, .int .u64 0] 32)) := by
  have hq := h.below (balloc (Below.refl _ _) (.cells #[.int .u64 1, .int .u64 0] 32))
  obtain ⟨B, h1, h2, h3, h4, h5⟩ := hq
  obtain ⟨B0, ⟨_, _, _, _, q⟩, k2, _, _, k5⟩ := h
  obtain ⟨_, _, _, _, q1⟩ := id h1
  subst hr
  refine ⟨B0, ⟨_, _, _, _, q.below (balloc (Below.refl _ _) _)⟩, fun k hk => ⟨(k2 k hk).1, ?_⟩, fun r hr => ?_, h4, h5⟩
  · simp only [List.mem_cons, not_or]
    exact ⟨by have := q.low k hk; omega, (k2 k hk).2⟩
  · rcases List.mem_cons.1 hr with rfl | hr
    · exact ⟨k5, heap_alloc_new _ _⟩
    · exact h3 r hr
theorem QBox.moved {w0 W W' : World} {H : Nat} {X : List Nat} {st' : QSt} {B B' : Nat → Prop} (h1 : QIn W' H 0 st' B') (hm : Moves W W' H 0 5 B) (hB : ∀ k, B' k → B k ∨ W.heap.size ≤ k) (h2 : ∀ k, B k → H < k ∧ k ∉ X)
    (h3 : ∀ r ∈ X, H < r ∧ W.heap[r]? = some (.cells #[.int .u64 1, .int .u64 0] 32 (0, 0))) (h4 : Below H w0 W) (h5 : H < W.heap.size) : QBox w0 H X st' W' := by
  have hs := hm.size
  have hlt : ∀ r ∈ X, r < W.heap.size := fun r hr => (Array.getElem?_eq_some_iff.1 (h3 r hr).2).1
  refine ⟨B', h1, fun k hk => ?_, fun r hr => ⟨(h3 r hr).1, (hm.block r (hlt r hr) (by have := (h3 r hr).1; omega) (fun hb => (h2 r hb).2 hr)).trans (h3 r hr).2⟩, h4.trans (hm.below (Nat.le_refl _) (fun r hr => by have := h2 r hr; omega) (by omega)), by omega⟩
  rcases hB k hk with h | h
  · exact h2 k h
  · exact ⟨by omega, fun hx => by have := hlt k hx; omega⟩

theorem box_add {w0 W : World} {H : Nat} {X : List Nat} {st : QSt} (h : QBox w0 H X st W) (hl : st.back.length < 1000000) :
    Calls Try.prog 13 #[.pointer (some ⟨H, 0, none⟩), .agg #[.int .u64 1, .int .u64 0]] W fun e W' => e = .returned (.bool (addQ st qA).2) ∧ QBox w0 H X (addQ st qA).1 W' := by
  obtain ⟨B, h1, h2, h3, h4, h5⟩ := h
  refine (add_any H 0 B st qA W h1 hl).mono ?_
  rintro e W' ⟨B', rfl, k1, k2, k3⟩
  exact ⟨rfl, QBox.moved k1 k2 k3 h2 h3 h4 h5⟩
theorem box_done {w0 W : World} {H : Nat} {X : List Nat} {st : QSt} (h : QBox w0 H X st W) (hl : st.back.length < 1000000) :
    Calls Try.prog 11 #[.pointer (some ⟨H, 0, none⟩), .agg #[.int .u64 1, .int .u64 0]] W fun e W' => e = .returned (.tuple #[.bool (doneQ st qA).2.1, .int .i64 (doneQ st qA).2.2]) ∧ QBox w0 H X (doneQ st qA).1 W' := by
  obtain ⟨B, h1, h2, h3, h4, h5⟩ := h
  refine (done_any H 0 B st qA W h1 hl).mono ?_
  rintro e W' ⟨B', rfl, k1, k2, k3⟩
  exact ⟨rfl, QBox.moved k1 k2 k3 h2 h3 h4 h5⟩
theorem box_get {w0 W : World} {H : Nat} {X : List Nat} (h : QBox w0 H X s1 W) :
    Calls Try.prog 10 #[.pointer (some ⟨H, 0, none⟩)] W fun e W' => e = .returned (.tuple #[.agg #[.int .u64 1, .int .u64 0], .bool true]) ∧ QBox w0 H X s3 W' := by
  obtain ⟨B, h1, h2, h3, h4, h5⟩ := h
  refine (qget_some H 0 B s1 W h1 (by decide) (by decide)).mono ?_
  rintro e W' ⟨f, x, B', hf, rfl, k1, k2, k3⟩
  obtain ⟨rfl, hg⟩ := got1 hf
  rw [hg] at k1
  exact ⟨rfl, QBox.moved k1 k2 k3 h2 h3 h4 h5⟩

set_option maxRecDepth 100000 in
set_option maxHeartbeats 4000000 in
theorem qawake_any (w : World) :
    Calls Try.prog 9 #[] w fun e w' => e = .returned (.bool true) ∧ Below w.heap.size w w' := by
  go_enter Try.func9, Try.ntmps9
  go_wp2_with fail
  obtain ⟨W1, hW1⟩ : ∃ W1 : World, W1 = ((w.alloc (.cells #[.slice none 0 0, .slice none 0 0, .map none, .map none, .bool false] 29)).alloc (.cells #[.int .u64 1, .int .u64 0] 32)) := ⟨_, rfl⟩
  rw [← hW1]
  obtain ⟨H, hH⟩ : ∃ H, H = w.heap.size := ⟨_, rfl⟩
  have hq0 : QBox w H [H + 1] s0 W1 := by
    obtain ⟨vf, vb, md, mb, h⟩ := queue_new w 29
    subst hH hW1
    exact ⟨_, ⟨vf, vb, md, mb, h.below (balloc (Below.refl _ _) _)⟩, fun k hk => hk.elim, fun r hr => by
      rw [List.mem_singleton.1 hr]
      exact ⟨Nat.lt_succ_self _, box_new _ _ _⟩, balloc (balloc (Below.refl _ _) _) _, by simp; omega⟩
  rw [← hH]
  have HH := Lib.hid hH
  clear hW1 hH
  go_region_held3 (fun W => W.cell? ⟨H + 1, 0, none⟩ = some (.int .u64 1) ∧ W.cell? ⟨H + 1, 1, none⟩ = some (.int .u64 0))
    (first | exact QBox.cells hq2 (by simp) | exact QBox.cells hq1 (by simp) | exact QBox.cells (hq0.below (Below.refl _ _).drew) (by simp))
    (first
      | (go_at_call 13; refine (box_add hq1 (by decide)).mono ?_; rw [add1]; rintro e2 w2 ⟨rfl, hq2⟩)
      | (go_at_call 13; refine (box_add (hq0.below (Below.refl _ _).drew) (by decide)).mono ?_; rw [add0]; rintro e1 w1 ⟨rfl, hq1⟩))
  clear hq0 hq1
  go_wp2_with (first
    | (go_at_call 10; refine (box_get hq5).mono ?_; rintro e6 w6 ⟨rfl, hq6⟩; have hp6 := hq6.push rfl; obtain ⟨u1, u2⟩ := hp6.cells (r := w6.heap.size) (by simp); obtain ⟨u3, u4⟩ := hp6.cells (r := w3.heap.size) (by simp); obtain ⟨u5, u6⟩ := hp6.cells (r := H + 1) (by simp))
    | (go_at_call 10; refine (box_get hq2).mono ?_; rintro e3 w3 ⟨rfl, hq3⟩; obtain ⟨c1, c2⟩ := hq3.rules (r := H + 1) (by simp); have hp3 := hq3.push rfl)
    | (go_at_call 13; refine (box_add hp3 (by decide)).mono ?_; rw [add3]; rintro e4 w4 ⟨rfl, hq4⟩; obtain ⟨c3, c4⟩ := hq4.cells (r := H + 1) (by simp))
    | (go_at_call 11; refine (box_done hq4 (by decide)).mono ?_; rw [done4]; rintro e5 w5 ⟨rfl, hq5⟩))
  go_ret
  exact ⟨rfl, by have h := hp6; obtain ⟨_, _, _, _, h4, _⟩ := h; rw [HH.out] at h4; exact h4⟩
end Go.Proofs.Ytfnabpmdjfejbaa
