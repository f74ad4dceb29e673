/- batch.before, slices.SortFunc at calls, batch.Sort. -/
import Derived.Test.YtfnabpmdjfejbaaBLast
import Derived.Test.YtfnabpmdjfejbaaBRLast
import Derived.Test.YtfnabpmdjfejbaaIdPackD
import Derived.Test.YtfnabpmdjfejbaaShSortC
import Derived.Test.YtfnabpmdjfejbaaSortK
import Derived.Test.YtfnabpmdjfejbaaIdLaws
import Derived.Lib.QuietBelow
namespace Go.Proofs.Ytfnabpmdjfejbaa
set_option linter.unusedSimpArgs false
set_option linter.unusedVariables false
open Go.RowKit Go.Lib Go.Sort Go.Shelf

def hiC (c : CallD) : Nat := hiN c.id.data.toList
def loC (c : CallD) : Nat := loN c.id.data.toList
/-- The order of calls: by ids, by ticks. -/
def ltN (a b : CallD) : Bool := decide (hiC a < hiC b ∨ hiC a = hiC b ∧ (loC a < loC b ∨ loC a = loC b ∧ a.tick < b.tick))
def cfN (a b : CallD) : Int := if ltN a b = true then -1 else if ltN b a = true then 1 else 0
theorem ltN_iff (a b : CallD) : ltN a b = true ↔ hiC a < hiC b ∨ hiC a = hiC b ∧ (loC a < loC b ∨ loC a = loC b ∧ a.tick < b.tick) := by simp [ltN]
theorem ltN_irrefl (a : CallD) : ltN a a = false := by
  cases h : ltN a a with
  | false => rfl
  | true => rw [ltN_iff] at h; omega
theorem ltN_trans {a b c : CallD} (h1 : ltN a b = true) (h2 : ltN b c = true) : ltN a c = true := by
  rw [ltN_iff] at h1 h2 ⊢; omega
theorem ltN_asymm {a b : CallD} (h : ltN a b = true) : ltN b a = false := by
  cases h2 : ltN b a with
  | false => rfl
  | true => rw [ltN_iff] at h h2; omega
theorem id_of_key {a b : CallD} (ha : idS a.id = true) (hb : idS b.id = true) (h1 : hiC a = hiC b) (h2 : loC a = loC b) : a.id = b.id :=
  bytes_inj2 (IsKey.one (hi := hiC a) (lo := loC a) ⟨ha, rfl, rfl⟩ ⟨hb, h1.symm, h2.symm⟩)
theorem ltN_total {a b : CallD} (ha : idS a.id = true) (hb : idS b.id = true) (h1 : ltN a b = false) (h2 : ltN b a = false) : sp a b = true := by
  have q1 : ¬ (hiC a < hiC b ∨ hiC a = hiC b ∧ (loC a < loC b ∨ loC a = loC b ∧ a.tick < b.tick)) := fun h => by rw [(ltN_iff a b).2 h] at h1; cases h1
  have q2 : ¬ (hiC b < hiC a ∨ hiC b = hiC a ∧ (loC b < loC a ∨ loC b = loC a ∧ b.tick < a.tick)) := fun h => by rw [(ltN_iff b a).2 h] at h2; cases h2
  exact (sp_iff a b).2 ⟨id_of_key ha hb (by omega) (by omega), by omega⟩
theorem ltOf_cfN (a b : CallD) : decide (cfN a b < 0) = ltN a b := by
  unfold cfN
  cases ltN a b with
  | true => simp
  | false => simp only [Bool.false_eq_true, if_false]; split <;> simp

theorem grow_of_below {w w' : World} (h : Below w.heap.size w w') (hd : w.drawn ≤ w'.drawn) : ∃ q os', w' = grow (w.drewN q) os' := by
  obtain ⟨⟨d, os⟩, rfl⟩ := regrown_of_below h
  refine ⟨d - w.drawn, os, ?_⟩
  have : w.drawn ≤ d := hd
  simp only [redrawn, World.drewN]
  congr 2
  omega

theorem calls_name {P : Program} {f : Nat} {args : Array Value} {w : World} {Q : Ending → World → Prop} (h : ∀ W, W = w → Calls P f args W Q) : Calls P f args w Q := h w rfl

/-- Calls whose ids are ids. -/
def FineC (c : CallD) : Prop := c.ok ∧ idS c.id = true

theorem two_calls (w : World) (x y : CallD) : ∀ W, W = (w.alloc (.cells #[.int .i64 x.kind, .string x.id, .int .i64 x.tick, .int .i64 x.val, .int .i64 x.handle, .int .i64 x.pol.mn, .int .i64 x.pol.mx, .int .i64 x.pol.tg, .int .i64 x.pol.tol, .int .i64 x.pol.win, .int .i64 x.pol.hold] 102)).alloc (.cells #[.int .i64 y.kind, .string y.id, .int .i64 y.tick, .int .i64 y.val, .int .i64 y.handle, .int .i64 y.pol.mn, .int .i64 y.pol.mx, .int .i64 y.pol.tg, .int .i64 y.pol.tol, .int .i64 y.pol.win, .int .i64 y.pol.hold] 102) → W.heap[w.heap.size]? = some (.cells #[.int .i64 x.kind, .string x.id, .int .i64 x.tick, .int .i64 x.val, .int .i64 x.handle, .int .i64 x.pol.mn, .int .i64 x.pol.mx, .int .i64 x.pol.tg, .int .i64 x.pol.tol, .int .i64 x.pol.win, .int .i64 x.pol.hold] 102 (0, 0)) ∧ W.heap[w.heap.size + 1]? = some (.cells #[.int .i64 y.kind, .string y.id, .int .i64 y.tick, .int .i64 y.val, .int .i64 y.handle, .int .i64 y.pol.mn, .int .i64 y.pol.mx, .int .i64 y.pol.tg, .int .i64 y.pol.tol, .int .i64 y.pol.win, .int .i64 y.pol.hold] 102 (0, 0)) := by
  rintro W rfl
  exact ⟨box_old _ _ _, box_new _ _ _⟩
theorem below_grown_drew (w : World) (o : Obj) (q : Nat) (os : Array Obj) : Below w.heap.size w (grow ((w.alloc o).drewN q) os) := by
  refine (balloc (Below.refl _ _) o).trans ⟨rfl, rfl, rfl, by simp [grow], fun k hk => ?_⟩
  have h2 : k < (w.alloc o).heap.size := by simp; omega
  exact Array.getElem?_append_left h2

set_option maxRecDepth 100000 in
set_option maxHeartbeats 4000000 in
theorem before_lays (x y : CallD) (w : World) (hx : FineC x) (hy : FineC y) :
    Calls Try.prog 62 #[callV x, callV y] w fun e w' => e = .returned (.int .i64 (cfN x y)) ∧ ∃ q os', w' = grow (w.drewN q) os' := by
  have hvx : packV x.id = .tuple #[.agg #[.int .u64 (hiC x : Nat), .int .u64 (loC x : Nat)], .int .i64 0] := by rw [packV, if_pos hx.2]; rfl
  have hvy : packV y.id = .tuple #[.agg #[.int .u64 (hiC y : Nat), .int .u64 (loC y : Nat)], .int .i64 0] := by rw [packV, if_pos hy.2]; rfl
  have P1 := fun W => pack_goodD x.id W hx.1.2.1 hx.2
  have P2 := fun W => pack_goodD y.id W hy.1.2.1 hy.2
  rw [hvx] at P1
  rw [hvy] at P2
  have b1 := hiN_lt x.id.data.toList
  have b2 := loN_lt x.id.data.toList
  have b3 := hiN_lt y.id.data.toList
  have b4 := loN_lt y.id.data.toList
  have C := fun W => cmp_lays (hiC x, loC x) (hiC y, loC y) W
  have HF := Lib.hid (show cfN x y = if cmpI (hiC x) (loC x) (hiC y) (loC y) = 0 then (if x.tick < y.tick then -1 else if y.tick < x.tick then 1 else 0) else cmpI (hiC x) (loC x) (hiC y) (loC y) from by
    unfold cfN cmpI
    by_cases e : hiC x = hiC y ∧ loC x = loC y
    · rw [if_pos e, if_pos rfl]
      have q1 : ltN x y = decide (x.tick < y.tick) := by unfold ltN; congr 1; apply propext; omega
      have q2 : ltN y x = decide (y.tick < x.tick) := by unfold ltN; congr 1; apply propext; omega
      rw [q1, q2]
      simp
    · rw [if_neg e]
      by_cases h : hiC x < hiC y ∨ hiC x = hiC y ∧ loC x < loC y
      · have h3 : ltN x y = true := (ltN_iff x y).2 (by omega)
        rw [h3, if_pos h]
        simp
      · have h3 : ltN y x = true := (ltN_iff y x).2 (by omega)
        rw [ltN_asymm h3, h3, if_neg h]
        simp)
  clear hvx hvy hx hy b1 b2 b3 b4
  generalize hiC x = h1 at P1 C HF
  generalize loC x = l1 at P1 C HF
  generalize hiC y = h2 at P2 C HF
  generalize loC y = l2 at P2 C HF
  generalize hcm : cmpI h1 l1 h2 l2 = cm at C HF
  clear hcm
  have H1 := Lib.hid P1
  have H2 := Lib.hid P2
  have HC := Lib.hid C
  clear P1 P2 C
  unfold callV
  by_cases e1 : cm = 0
  · subst e1
    rw [if_pos rfl] at HF
    by_cases t1 : x.tick < y.tick
    · rw [if_pos t1] at HF
      go_enter Try.func62, Try.ntmps62
      go_wp2_with (first
        | (go_at_call_of 60 (Value.string x.id)
           refine calls_name ?_; intro W hW
           obtain ⟨z0, z1⟩ := two_calls w x y W hW
           have hbW : Below w.heap.size w W := by rw [hW]; exact balloc (balloc (Below.refl _ _) _) _
           have hdW : w.drawn = W.drawn := by rw [hW]; rfl
           clear hW
           refine (H1.out _).mono ?_; rintro e w1 ⟨rfl, hb1, hd1⟩
           have z2 := (hb1.block _ (Array.getElem?_eq_some_iff.1 z0).1).trans z0
           have z3 := (hb1.block _ (Array.getElem?_eq_some_iff.1 z1).1).trans z1
           obtain ⟨k7, k8, k9⟩ := box_cells (Below.refl _ _) z2
           obtain ⟨k10, k11, k12⟩ := box_cells (Below.refl _ _) z3
           have z4 := (Below.heap_alloc w1 (.cells #[.int .u64 h1, .int .u64 l1] 32) _ (Array.getElem?_eq_some_iff.1 z2).1).trans z2
           have z5 := (Below.heap_alloc w1 (.cells #[.int .u64 h1, .int .u64 l1] 32) _ (Array.getElem?_eq_some_iff.1 z3).1).trans z3
           have z6 := heap_alloc_new w1 (.cells #[.int .u64 h1, .int .u64 l1] 32))
        | (go_at_call_of 60 (Value.string y.id); refine (H2.out _).mono ?_; rintro e w2 ⟨rfl, hb2, hd2⟩
           obtain ⟨m1, m2, m3⟩ := box_cells hb2 z4
           obtain ⟨m4, m5, m6⟩ := box_cells hb2 z5
           obtain ⟨m7, m8, m9⟩ := box_cells hb2 z6
           have hbw2 : Below w.heap.size w w2 := bthen (balloc (bthen hbW hb1) _) hb2
           have hdw2 : w.drawn ≤ w2.drawn := by have e1 : (w1.alloc (.cells #[.int .u64 h1, .int .u64 l1] 32)).drawn = w1.drawn := rfl; omega)
        | (go_at_call 86; refine (HC.out _).mono ?_; rintro e w3 ⟨rfl, q3, os3, hw3⟩
           have hb3 : Below w2.heap.size w2 w3 := by rw [hw3]; exact below_grown_drew w2 _ q3 os3
           have hd3 : w2.drawn ≤ w3.drawn := by rw [hw3]; exact Nat.le_add_right _ _
           have hbw3 := bthen hbw2 hb3
           have n1 : ∀ j, w3.cell? ⟨w.heap.size, j, none⟩ = _ := fun j => (hb3.cell (p := ⟨w.heap.size, j, none⟩) m3).trans (m1 j)
           have n2 : ∀ j, w3.cell? ⟨w.heap.size + 1, j, none⟩ = _ := fun j => (hb3.cell (p := ⟨w.heap.size + 1, j, none⟩) m6).trans (m4 j)
           clear hw3))
      go_ret
      exact ⟨ret_int HF.out.symm, grow_of_below hbw3 (by omega)⟩
    · rw [if_neg t1] at HF
      by_cases t2 : y.tick < x.tick
      · rw [if_pos t2] at HF
        go_enter Try.func62, Try.ntmps62
        go_wp2_with (first
          | (go_at_call_of 60 (Value.string x.id)
             refine calls_name ?_; intro W hW
             obtain ⟨z0, z1⟩ := two_calls w x y W hW
             have hbW : Below w.heap.size w W := by rw [hW]; exact balloc (balloc (Below.refl _ _) _) _
             have hdW : w.drawn = W.drawn := by rw [hW]; rfl
             clear hW
             refine (H1.out _).mono ?_; rintro e w1 ⟨rfl, hb1, hd1⟩
             have z2 := (hb1.block _ (Array.getElem?_eq_some_iff.1 z0).1).trans z0
             have z3 := (hb1.block _ (Array.getElem?_eq_some_iff.1 z1).1).trans z1
             obtain ⟨k7, k8, k9⟩ := box_cells (Below.refl _ _) z2
             obtain ⟨k10, k11, k12⟩ := box_cells (Below.refl _ _) z3
             have z4 := (Below.heap_alloc w1 (.cells #[.int .u64 h1, .int .u64 l1] 32) _ (Array.getElem?_eq_some_iff.1 z2).1).trans z2
             have z5 := (Below.heap_alloc w1 (.cells #[.int .u64 h1, .int .u64 l1] 32) _ (Array.getElem?_eq_some_iff.1 z3).1).trans z3
             have z6 := heap_alloc_new w1 (.cells #[.int .u64 h1, .int .u64 l1] 32))
          | (go_at_call_of 60 (Value.string y.id); refine (H2.out _).mono ?_; rintro e w2 ⟨rfl, hb2, hd2⟩
             obtain ⟨m1, m2, m3⟩ := box_cells hb2 z4
             obtain ⟨m4, m5, m6⟩ := box_cells hb2 z5
             obtain ⟨m7, m8, m9⟩ := box_cells hb2 z6
             have hbw2 : Below w.heap.size w w2 := bthen (balloc (bthen hbW hb1) _) hb2
             have hdw2 : w.drawn ≤ w2.drawn := by have e1 : (w1.alloc (.cells #[.int .u64 h1, .int .u64 l1] 32)).drawn = w1.drawn := rfl; omega)
          | (go_at_call 86; refine (HC.out _).mono ?_; rintro e w3 ⟨rfl, q3, os3, hw3⟩
             have hb3 : Below w2.heap.size w2 w3 := by rw [hw3]; exact below_grown_drew w2 _ q3 os3
             have hd3 : w2.drawn ≤ w3.drawn := by rw [hw3]; exact Nat.le_add_right _ _
             have hbw3 := bthen hbw2 hb3
             have n1 : ∀ j, w3.cell? ⟨w.heap.size, j, none⟩ = _ := fun j => (hb3.cell (p := ⟨w.heap.size, j, none⟩) m3).trans (m1 j)
             have n2 : ∀ j, w3.cell? ⟨w.heap.size + 1, j, none⟩ = _ := fun j => (hb3.cell (p := ⟨w.heap.size + 1, j, none⟩) m6).trans (m4 j)
             clear hw3))
        go_ret
        exact ⟨ret_int HF.out.symm, grow_of_below hbw3 (by omega)⟩
      · rw [if_neg t2] at HF
        go_enter Try.func62, Try.ntmps62
        go_wp2_with (first
          | (go_at_call_of 60 (Value.string x.id)
             refine calls_name ?_; intro W hW
             obtain ⟨z0, z1⟩ := two_calls w x y W hW
             have hbW : Below w.heap.size w W := by rw [hW]; exact balloc (balloc (Below.refl _ _) _) _
             have hdW : w.drawn = W.drawn := by rw [hW]; rfl
             clear hW
             refine (H1.out _).mono ?_; rintro e w1 ⟨rfl, hb1, hd1⟩
             have z2 := (hb1.block _ (Array.getElem?_eq_some_iff.1 z0).1).trans z0
             have z3 := (hb1.block _ (Array.getElem?_eq_some_iff.1 z1).1).trans z1
             obtain ⟨k7, k8, k9⟩ := box_cells (Below.refl _ _) z2
             obtain ⟨k10, k11, k12⟩ := box_cells (Below.refl _ _) z3
             have z4 := (Below.heap_alloc w1 (.cells #[.int .u64 h1, .int .u64 l1] 32) _ (Array.getElem?_eq_some_iff.1 z2).1).trans z2
             have z5 := (Below.heap_alloc w1 (.cells #[.int .u64 h1, .int .u64 l1] 32) _ (Array.getElem?_eq_some_iff.1 z3).1).trans z3
             have z6 := heap_alloc_new w1 (.cells #[.int .u64 h1, .int .u64 l1] 32))
          | (go_at_call_of 60 (Value.string y.id); refine (H2.out _).mono ?_; rintro e w2 ⟨rfl, hb2, hd2⟩
             obtain ⟨m1, m2, m3⟩ := box_cells hb2 z4
             obtain ⟨m4, m5, m6⟩ := box_cells hb2 z5
             obtain ⟨m7, m8, m9⟩ := box_cells hb2 z6
             have hbw2 : Below w.heap.size w w2 := bthen (balloc (bthen hbW hb1) _) hb2
             have hdw2 : w.drawn ≤ w2.drawn := by have e1 : (w1.alloc (.cells #[.int .u64 h1, .int .u64 l1] 32)).drawn = w1.drawn := rfl; omega)
          | (go_at_call 86; refine (HC.out _).mono ?_; rintro e w3 ⟨rfl, q3, os3, hw3⟩
             have hb3 : Below w2.heap.size w2 w3 := by rw [hw3]; exact below_grown_drew w2 _ q3 os3
             have hd3 : w2.drawn ≤ w3.drawn := by rw [hw3]; exact Nat.le_add_right _ _
             have hbw3 := bthen hbw2 hb3
             have n1 : ∀ j, w3.cell? ⟨w.heap.size, j, none⟩ = _ := fun j => (hb3.cell (p := ⟨w.heap.size, j, none⟩) m3).trans (m1 j)
             have n2 : ∀ j, w3.cell? ⟨w.heap.size + 1, j, none⟩ = _ := fun j => (hb3.cell (p := ⟨w.heap.size + 1, j, none⟩) m6).trans (m4 j)
             clear hw3))
        go_ret
        exact ⟨ret_int HF.out.symm, grow_of_below hbw3 (by omega)⟩
  · rw [if_neg e1] at HF
    have e2 : (cm != 0) = true := by simpa using e1
    have e3 : (cm == 0) = false := by simpa using e1
    clear e1
    go_enter Try.func62, Try.ntmps62
    go_wp2_with (first
      | (go_at_call_of 60 (Value.string x.id)
         refine calls_name ?_; intro W hW
         obtain ⟨z0, z1⟩ := two_calls w x y W hW
         have hbW : Below w.heap.size w W := by rw [hW]; exact balloc (balloc (Below.refl _ _) _) _
         have hdW : w.drawn = W.drawn := by rw [hW]; rfl
         clear hW
         refine (H1.out _).mono ?_; rintro e w1 ⟨rfl, hb1, hd1⟩
         have z2 := (hb1.block _ (Array.getElem?_eq_some_iff.1 z0).1).trans z0
         have z3 := (hb1.block _ (Array.getElem?_eq_some_iff.1 z1).1).trans z1
         obtain ⟨k7, k8, k9⟩ := box_cells (Below.refl _ _) z2
         obtain ⟨k10, k11, k12⟩ := box_cells (Below.refl _ _) z3
         have z4 := (Below.heap_alloc w1 (.cells #[.int .u64 h1, .int .u64 l1] 32) _ (Array.getElem?_eq_some_iff.1 z2).1).trans z2
         have z5 := (Below.heap_alloc w1 (.cells #[.int .u64 h1, .int .u64 l1] 32) _ (Array.getElem?_eq_some_iff.1 z3).1).trans z3
         have z6 := heap_alloc_new w1 (.cells #[.int .u64 h1, .int .u64 l1] 32))
      | (go_at_call_of 60 (Value.string y.id); refine (H2.out _).mono ?_; rintro e w2 ⟨rfl, hb2, hd2⟩
         obtain ⟨m1, m2, m3⟩ := box_cells hb2 z4
         obtain ⟨m4, m5, m6⟩ := box_cells hb2 z5
         obtain ⟨m7, m8, m9⟩ := box_cells hb2 z6
         have hbw2 : Below w.heap.size w w2 := bthen (balloc (bthen hbW hb1) _) hb2
         have hdw2 : w.drawn ≤ w2.drawn := by have e1 : (w1.alloc (.cells #[.int .u64 h1, .int .u64 l1] 32)).drawn = w1.drawn := rfl; omega)
      | (go_at_call 86; refine (HC.out _).mono ?_; rintro e w3 ⟨rfl, q3, os3, hw3⟩
         have hb3 : Below w2.heap.size w2 w3 := by rw [hw3]; exact below_grown_drew w2 _ q3 os3
         have hd3 : w2.drawn ≤ w3.drawn := by rw [hw3]; exact Nat.le_add_right _ _
         have hbw3 := bthen hbw2 hb3
         have n1 : ∀ j, w3.cell? ⟨w.heap.size, j, none⟩ = _ := fun j => (hb3.cell (p := ⟨w.heap.size, j, none⟩) m3).trans (m1 j)
         have n2 : ∀ j, w3.cell? ⟨w.heap.size + 1, j, none⟩ = _ := fun j => (hb3.cell (p := ⟨w.heap.size + 1, j, none⟩) m6).trans (m4 j)
         clear hw3))
    go_ret
    exact ⟨ret_int HF.out.symm, grow_of_below hbw3 (by omega)⟩
end Go.Proofs.Ytfnabpmdjfejbaa
