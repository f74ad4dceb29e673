/- fifo's All and List at keys. -/
import Derived.Test.YtfnabpmdjfejbaaISeq
namespace Go.Proofs.Ytfnabpmdjfejbaa
set_option linter.unusedSimpArgs false
set_option linter.unusedVariables false
open Go.RowKit Go.Lib Go.Shelf
attribute [local go_sem] Oper.semAt_some

def intOf : Value → Int
  | .int _ i => i
  | _ => 0

/-- A queue that lies there, to be read. -/
def FR (w : World) (g o : Nat) (vf vb : Value) (f b : List Ky) : Prop :=
  w.cell? ⟨g, o, none⟩ = some vf ∧ w.cell? ⟨g, o + 1, none⟩ = some vb ∧ RowIn 2 keyC w vf f ∧ RowIn 2 keyC w vb b
theorem FR.below {w w' : World} {g o : Nat} {vf vb : Value} {f b : List Ky} (h : FR w g o vf vb f b) (hb : Below w.heap.size w w') : FR w' g o vf vb f b := by
  have hlt : g < w.heap.size := World.block_lt_of_cell? w ⟨g, o, none⟩ h.1
  obtain ⟨h1, h2, h3, h4⟩ := h
  exact ⟨(hb.cell (p := ⟨g, o, none⟩) hlt).trans h1, (hb.cell (p := ⟨g, o + 1, none⟩) hlt).trans h2, h3.below hb, h4.below hb⟩

set_option maxRecDepth 100000 in
set_option maxHeartbeats 2000000 in
theorem all1_in (n : Nat) (hn : 1 ≤ n) (l Bn : Nat) (g o : Nat) (vf vb : Value) (f b : List Ky) (w : World) (hf : f.length < 1000000) (hb : b.length < 1000000) (J Jx : List Ky → World → Prop) (B0 : Nat) (hJ : AbidesFrom B0 J)
    (hY : ∀ pre x W, J pre W → pre.length < f.length + b.length → YieldAt Fence.wide (n - 1) Try.prog l #[.agg #[.int .u64 x.1, .int .u64 x.2]] W fun e W' =>
      (e = .returned (.bool true) ∧ J (pre ++ [x]) W' ∧ Kp w.heap.size W W') ∨ (e = .returned (.bool false) ∧ Jx (pre ++ [x]) W'))
    (hBn : w.cell? ⟨Bn, 0, none⟩ = some (.pointer (some ⟨g, o, none⟩))) (hF : FR w g o vf vb f b) (W : World) (hW : Below w.heap.size w W) (h0 : J [] W) :
    CallsIn Fence.wide n Try.prog 122 #[.func (.yield l) #[] #[], .pointer (some ⟨Bn, 0, none⟩)] W fun e W' => (∃ v, e = .returned v) ∧
      ((∃ ys, ys = f.reverse ++ b ∧ J ys W') ∨ (∃ pre, True ∧ Jx pre W')) := by
  have hBlt : Bn < w.heap.size := World.block_lt_of_cell? w ⟨Bn, 0, none⟩ hBn
  have hc := (hW.cell (p := ⟨Bn, 0, none⟩) hBlt).trans hBn
  obtain ⟨c1, c2, r1, r2⟩ := hF.below hW
  obtain ⟨Af, cf, rfl, _⟩ := id r1
  obtain ⟨Ab, cb, rfl, _⟩ := id r2
  have q1 : IntKind.i64.wrap ((f.length : Int) - 1) = (f.length : Int) - 1 := IntWalk.i64_in _ (by omega)
  refine callsIn_of_wp Try.func122 rfl trivial ?_ rfl
  simp only [Try.ntmps122, List.size_toArray, List.length_cons, List.length_nil, Nat.reduceAdd, Nat.reduceSub, Array.replicate_succ, Array.replicate_zero, List.push_toArray, List.append_toArray, List.nil_append, List.cons_append]
  gi_wp2
  gi_loopw [3] (fun p wr => ∃ (rem fin : List Ky), f = rem ++ fin ∧ p = .int .i64 ((rem.length : Int) - 1) ∧ J fin.reverse wr ∧ Below w.heap.size w wr)
    (fun p wr => (intOf p + 1).toNat)
  case atStart =>
    exact ⟨f, [], by simp, by simp [q1], h0, hW⟩
  case round =>
    obtain ⟨rem, fin, hfe, rfl, hJs, hB⟩ := hrel
    have hcW := (hB.cell (p := ⟨Bn, 0, none⟩) hBlt).trans hBn
    obtain ⟨d1, d2, s1, s2⟩ := hF.below hB
    obtain rfl | ⟨rem', x, rfl⟩ : rem = [] ∨ ∃ r x, rem = r ++ [x] := by
      rcases List.eq_nil_or_concat rem with h | ⟨r, x, h⟩
      · exact .inl h
      · exact .inr ⟨r, x, by simpa using h⟩
    · have e0 : ((([] : List Ky).length : Int) - 1) = -1 := rfl
      rw [e0]
      obtain rfl : f = fin := by simpa using hfe
      clear hfe e0
      gi_wp2
      gi_loopw [33] (fun p wr => ∃ k : Nat, p = .int .i64 k ∧ k ≤ b.length ∧ J (f.reverse ++ b.take k) wr ∧ Below w.heap.size w wr)
        (fun p wr => b.length - (intOf p).toNat)
      case atStart => exact ⟨0, rfl, Nat.zero_le _, by simpa using hJs, hB⟩
      case round =>
        clear hJs hB hcW d1 d2 s1 s2
        obtain ⟨k, rfl, hk, hJs, hB⟩ := hrel
        obtain ⟨_, _, _, s2⟩ := hF.below hB
        by_cases hlt : k < b.length
        · have hkl : (k : Int) < (b.length : Int) := by omega
          have hk0 : (0 : Int) ≤ (k : Int) := by omega
          have q2 : IntKind.i64.wrap ((k : Int) + 1) = (k : Int) + 1 := IntWalk.i64_in _ (by omega)
          have q3 : IntKind.i64.wrap (k : Int) = (k : Int) := IntWalk.i64_in _ (by omega)
          obtain ⟨bb, ob, rfl, hbb, hat⟩ := s2.at_ hlt
          have k0 := hat 0 _ rfl
          have k1 := hat 1 _ rfl
          rw [Nat.add_zero] at k0
          have htk : b.take k ++ [b[k]] = b.take (k + 1) := by rw [List.take_succ_eq_append_getElem hlt]
          obtain ⟨x, hx⟩ : ∃ x, b[k] = x := ⟨_, rfl⟩
          rw [hx] at k0 k1 htk
          clear hat hx
          have hJ2 := hJ _ _ (wr.alloc (.cells #[.int .u64 x.1, .int .u64 x.2] 32)) none hJs (World.grownBy_alloc _ _ none) (fun r e => by cases e)
          obtain ⟨fn, tmps, assign, body, hy, hR⟩ := hY (f.reverse ++ b.take k) x _ hJ2 (by simp; omega)
          gi_wp2
          refine hR.mono ?_
          have hB2 : Below w.heap.size w (wr.alloc (.cells #[.int .u64 x.1, .int .u64 x.2] 32)) := hB.alloc hB.size _
          rintro e W3 (⟨rfl, hJ3, hk3⟩ | ⟨rfl, hJx3⟩)
          · gi_wp2
            go_roundw
            case rel => exact ⟨k + 1, rfl, hlt, by rw [List.append_assoc, htk] at hJ3; exact hJ3, hB2.trans hk3.1⟩
            case measure => simp [intOf]; omega
          · gi_wp2
            refine bodyPost_ret (results_none rfl _ _ _) rfl ?_
            exact ⟨⟨_, rfl⟩, .inr ⟨_, trivial, hJx3⟩⟩
        · gi_wp2
          go_end0
          refine ⟨⟨_, rfl⟩, .inl ⟨_, rfl, ?_⟩⟩
          rw [List.take_of_length_le (by omega)] at hJs
          exact hJs
    · have e0 : (((rem' ++ [x]).length : Nat) : Int) - 1 = (rem'.length : Int) := by simp
      rw [e0]
      have hk : rem'.length < f.length := by rw [hfe]; simp
      have hkl : (rem'.length : Int) < (f.length : Int) := by omega
      have hk0 : (0 : Int) ≤ (rem'.length : Int) := by omega
      have hfx : f[rem'.length] = x := by simp [hfe]
      have q2 : IntKind.i64.wrap ((rem'.length : Int) - 1) = (rem'.length : Int) - 1 := IntWalk.i64_in _ (by omega)
      have q3 : IntKind.i64.wrap (rem'.length : Int) = (rem'.length : Int) := IntWalk.i64_in _ (by omega)
      obtain ⟨bf, of, rfl, hbf, hat⟩ := s1.at_ hk
      rw [hfx] at hat
      have k0 := hat 0 _ rfl
      have k1 := hat 1 _ rfl
      rw [Nat.add_zero] at k0
      have hJl : fin.reverse.length < f.length + b.length := by rw [hfe]; simp; omega
      have Hf := Lib.hid hfe
      clear hat hfx hfe
      obtain ⟨fn, tmps, assign, body, hy, hR⟩ := hY fin.reverse x wr hJs hJl
      gi_wp2
      refine hR.mono ?_
      rintro e W3 (⟨rfl, hJ3, hk3⟩ | ⟨rfl, hJx3⟩)
      · gi_wp2
        go_roundw
        case rel => exact ⟨rem', x :: fin, by rw [Hf.out]; simp, rfl, by simpa using hJ3, hB.trans hk3.1⟩
        case measure => simp [intOf]
      · gi_wp2
        refine bodyPost_ret (results_none rfl _ _ _) rfl ?_
        exact ⟨⟨_, rfl⟩, .inr ⟨_, trivial, hJx3⟩⟩

set_option maxHeartbeats 1000000 in
theorem all_in (n : Nat) (p : Option Addr) (w : World) :
    CallsIn Fence.wide n Try.prog 90 #[.pointer p] w fun e w' => e = .returned (.func (.func 122) #[] #[.pointer (some ⟨w.heap.size, 0, none⟩)]) ∧ ∃ t, w' = w.alloc (.cells #[.pointer p] t) := by
  refine callsIn_of_wp Try.func90 rfl trivial ?_ rfl
  simp only [Try.ntmps90, List.size_toArray, List.length_cons, List.length_nil, Nat.reduceAdd, Nat.reduceSub, Array.replicate_succ, Array.replicate_zero, List.push_toArray, List.append_toArray, List.nil_append, List.cons_append]
  gi_wp2
  go_ret
  exact ⟨rfl, _, rfl⟩

theorem all_stops (g o : Nat) (vf vb : Value) (f b : List Ky) (w : World) (t : TypeId) (hf : f.length < 400000) (hb : b.length < 400000) (h : FR w g o vf vb f b) :
    SeqStopsK Fence.wide (8 - 1 - 1) Try.prog 122 #[.pointer (some ⟨w.heap.size, 0, none⟩)] encA (Kp (w.alloc (.cells #[.pointer (some ⟨g, o, none⟩)] t)).heap.size) (fun ss => ss = f.reverse ++ b) (fun _ => True) (f.length + b.length) (w.alloc (.cells #[.pointer (some ⟨g, o, none⟩)] t)) :=
  fun l J Jx W hW hJ hJx hY h0 => all1_in 6 (by omega) l w.heap.size g o vf vb f b _ (by omega) (by omega) J Jx _ hJ hY (Boxed.new w t _).cell (h.below (Below.alloc (Below.refl _ _) (Nat.le_refl _) _)) W hW h0

/-- What a list that a call lays is. -/
def Lists (w : World) (ss : List Ky) (e : Ending) (w' : World) : Prop :=
  ∃ v, e = .returned v ∧ w'.ownsRow w.heap.size 32 2 v ss.length (cellsOfRow keyC ss) ∧ Below w.heap.size w w'

set_option maxRecDepth 100000 in
set_option maxHeartbeats 2000000 in
theorem list_any (g o : Nat) (vf vb : Value) (f b : List Ky) (w : World) (h : FR w g o vf vb f b) (hf : f.length < 400000) (hb : b.length < 400000) :
    Calls Try.prog 50 #[.pointer (some ⟨g, o, none⟩)] w (Lists w (f.reverse ++ b)) := by
  refine (callsIn_wide (n := 9)).1 ?_
  have HF := Lib.hid h
  clear h
  refine callsIn_of_wp Try.func50 rfl trivial ?_ rfl
  simp only [Try.ntmps50, List.size_toArray, List.length_cons, List.length_nil, Nat.reduceAdd, Nat.reduceSub, Array.replicate_succ, Array.replicate_zero, List.push_toArray, List.append_toArray, List.nil_append, List.cons_append]
  gi_wp2_with (first
    | (refine ⟨trivial, ?_⟩; gi_at_call 90; refine (all_in 8 _ _).mono ?_; rintro e w' ⟨rfl, t, rfl⟩)
    | (refine ⟨trivial, ?_⟩; gi_at_call 89; refine (collect_in 8 (by omega) 122 _ (enters_of Try.func122 (by kernel_rfl) rfl) (fun ss => ss = f.reverse ++ b) (fun _ => True) (f.length + b.length) (by omega) _ (all_stops g o vf vb f b w t hf hb HF.out)).mono ?_; rintro e w' ⟨v, ss, rfl, rfl, hrow, hb⟩))
  go_ret
  exact ⟨v, rfl, own_lower hrow (by simp), ((Below.refl _ w).alloc (Nat.le_refl _) _).trans (hb.mono (by simp))⟩
end Go.Proofs.Ytfnabpmdjfejbaa
