/- a nil stripe: Ingest, Trim, Note, Get, Keys, Len, Version, Freeze; stripe.Set of a nil stripe; Contracts of the shelf, laid at this program (by lay-plain.mjs; numbers by name); slices.SortFunc at keys, with Cmp: a row of the call's own, sorted. -/
import Derived.Test.YtfegielnmdppgaaGreatJ28
import Derived.Test.YtfegielnmdppgaaGreatJ01
import Derived.Shelf.SlSortCmp.NoneTotal
import Derived.Test.YtfegielnmdppgaaGreatJ02
import Derived.Test.YtfegielnmdppgaaGreatJ03
import Derived.Test.YtfegielnmdppgaaGreatJ11
import Derived.Lib.SmallJoins
namespace Go.Proofs.YtfegielnmdppgaaGreat

section
set_option linter.unusedSimpArgs false
set_option linter.unusedVariables false
open Go.RowKit Go.Lib Go.Sort

set_option maxRecDepth 100000 in
set_option maxHeartbeats 4000000 in
theorem keys_nil (w : World) :
    Calls Tryz.prog 53 #[.pointer none] w fun e w' => e = .returned (.slice none 0 0) ∧ Below w.heap.size w w' := by
  go_enter Tryz.func53, Tryz.ntmps53
  go_wp2_with (go_at_call 116; refine (smade_nil _).mono ?_; rintro e w2 ⟨rfl, hb2⟩; have HB := Lib.hid hb2; clear hb2)
  go_ret
  exact ⟨rfl, HB.out⟩

set_option maxRecDepth 100000 in
set_option maxHeartbeats 4000000 in
theorem slen_nil (w : World) :
    Calls Tryz.prog 107 #[.pointer none] w fun e w' => e = .returned (.int .i64 0) ∧ Below w.heap.size w w' := by
  go_enter Tryz.func107, Tryz.ntmps107
  go_wp2_with (go_at_call 53; refine (keys_nil _).mono ?_; rintro e w2 ⟨rfl, hb2⟩; have HB := Lib.hid hb2; clear hb2)
  go_ret
  exact ⟨rfl, HB.out⟩

set_option maxRecDepth 100000 in
set_option maxHeartbeats 4000000 in
theorem sget_nil (k : Value) (w : World) (hi lo : Int) (hk : k = .agg #[.int .u64 hi, .int .u64 lo]) :
    Calls Tryz.prog 108 #[.pointer none, k] w fun e w' => e = .returned (.pointer none) ∧ Below w.heap.size w w' := by
  subst hk
  go_enter Tryz.func108, Tryz.ntmps108
  go_wp2_with (go_at_call 116; refine (smade_nil _).mono ?_; rintro e w2 ⟨rfl, hb2⟩; have HB := Lib.hid hb2; clear hb2)
  go_ret
  exact ⟨rfl, bthen (balloc (Below.refl _ _) _) HB.out⟩

set_option maxRecDepth 100000 in
set_option maxHeartbeats 4000000 in
theorem singest_nil (hi lo t v : Int) (w : World) :
    Calls Tryz.prog 60 #[.pointer none, .agg #[.int .u64 hi, .int .u64 lo], .int .i64 t, .int .i64 v] w fun e w' => e = .returned (.int .i64 (if serE t v = 0 then 5 else serE t v)) ∧ Below w.heap.size w w' := by
  have HR := Lib.hid (seriesRight_any t v)
  by_cases h : serE t v = 0
  · rw [if_pos h]
    have H := Lib.hid h
    clear h
    go_enter Tryz.func60, Tryz.ntmps60
    go_wp2_with (first
      | (go_at_call 105; refine (HR.out _).mono ?_; rw [H.out]; rintro e w1 ⟨rfl, rfl⟩)
      | (go_at_call 116; refine (smade_nil _).mono ?_; rintro e w2 ⟨rfl, hb2⟩; have HB := Lib.hid hb2; clear hb2))
    go_ret
    exact ⟨rfl, bthen (balloc (Below.refl _ _) _) HB.out⟩
  · rw [if_neg h]
    have hn : (serE t v != 0) = true := by simpa using h
    generalize serE t v = r at h hn HR
    clear h
    go_enter Tryz.func60, Tryz.ntmps60
    go_wp2_with (go_at_call 105; refine (HR.out _).mono ?_; rintro e w1 ⟨rfl, rfl⟩)
    go_ret
    exact ⟨rfl, balloc (Below.refl _ _) _⟩

set_option maxRecDepth 100000 in
set_option maxHeartbeats 4000000 in
theorem snote_nil (hi lo : Int) (a : Adv) (w : World) :
    Calls Tryz.prog 63 #[.pointer none, .agg #[.int .u64 hi, .int .u64 lo], .agg (advC a).toArray] w fun e w' => e = .returned (.int .i64 5) ∧ Below w.heap.size w w' := by
  unfold advC
  go_enter Tryz.func63, Tryz.ntmps63
  go_wp2_with (go_at_call 108; refine (sget_nil _ _ hi lo rfl).mono ?_; rintro e w2 ⟨rfl, hb2⟩; have HB := Lib.hid hb2; clear hb2)
  go_ret
  exact ⟨rfl, bthen (balloc (balloc (Below.refl _ _) _) _) HB.out⟩

set_option maxRecDepth 100000 in
set_option maxHeartbeats 4000000 in
theorem strim_nil (t : Int) (w : World) :
    Calls Tryz.prog 61 #[.pointer none, .int .i64 t] w fun e w' => e = .returned (.int .i64 0) ∧ Below w.heap.size w w' := by
  go_enter Tryz.func61, Tryz.ntmps61
  go_wp2_with (go_at_call 53; refine (keys_nil _).mono ?_; rintro e w2 ⟨rfl, hb2⟩; have HB := Lib.hid hb2; clear hb2)
  first | refine wp_loop_rounds 1 ?_ | (go_loop [13] (fun i => i = .int .i64 0) (fun _ => 0))
  first | rw [rounds_succ] | skip
  go_wp2
  go_ret
  exact ⟨rfl, HB.out⟩

set_option maxRecDepth 100000 in
set_option maxHeartbeats 4000000 in
theorem sfreeze_nil (w : World) :
    Calls Tryz.prog 14 #[.pointer none] w fun e w' => e = .returned (.slice none 0 0) ∧ Below w.heap.size w w' := by
  go_enter Tryz.func14, Tryz.ntmps14
  go_wp2_with (go_at_call 53; refine (keys_nil _).mono ?_; rintro e w2 ⟨rfl, hb2⟩; have HB := Lib.hid hb2; clear hb2)
  first | refine wp_loop_rounds 1 ?_ | skip
  first | rw [rounds_succ] | skip
  go_wp2
  go_ret
  exact ⟨rfl, HB.out⟩
end

section
set_option linter.unusedSimpArgs false
set_option linter.unusedVariables false
open Go.RowKit Go.Lib Go.Sort

def cfg1 : Cfg := ⟨1, 1, 1, 1⟩
set_option maxRecDepth 100000 in
set_option maxHeartbeats 4000000 in
theorem sset_nil (hi lo : Int) (p : Pol) (w : World) :
    Calls Tryz.prog 62 #[.pointer none, .agg #[.int .u64 hi, .int .u64 lo], polV p] w fun e w' => e = .returned (.int .i64 (if polB p = true then 5 else 7)) ∧ Below w.heap.size w w' := by
  have hNN : ∀ W, Calls Tryz.prog 18 #[.agg #[.int .i64 1, .int .i64 1, .int .i64 1, .int .i64 1]] W (NewNode W nd0 1 1) := fun W => nodeNew_any cfg1 1 1 W (by decide) rfl rfl (by simp [Cfg.ok, cfg1, I64])
  have HNN := Lib.hid hNN
  clear hNN
  cases hp : polB p with
  | true =>
    have HP := Lib.hid hp
    have HS := Lib.hid (fun (N : Nat) (fp : List Nat) (W : World) (h : NodeIn W N nd0 1 1 fp) => nodeSet_any N nd0 1 1 fp p W h (by omega) (by omega) (by simp [nd0]) hp)
    clear hp
    unfold polV
    unfold polV at HS
    go_enter Tryz.func62, Tryz.ntmps62
    go_wp2_with fail
    refine name_world ?_
    intro W1 hW1
    have hb1 : Below w.heap.size w W1 := by rw [hW1]; exact balloc (balloc (Below.refl _ _) _) _
    have hx1 : W1.heap[w.heap.size + 1]? = some (.cells #[.int .i64 p.mn, .int .i64 p.mx, .int .i64 p.tg, .int .i64 p.tol, .int .i64 p.win, .int .i64 p.hold] 44 (0, 0)) := by rw [hW1]; exact box_new _ _ _
    clear hW1
    obtain ⟨a1, a2, a3⟩ := box_cells (Below.refl _ _) hx1
    have HB1 := Lib.hid hb1
    have HX1 := Lib.hid hx1
    clear hb1 hx1
    go_region_with (first
      | (go_at_call 18
         refine calls_named ?_
         intro W2 hW2
         have hb2 : Below W1.heap.size W1 W2 := by rw [hW2]; repeat (first | exact Below.refl _ _ | refine balloc ?_ _ | refine Below.drew ?_)
         clear hW2
         refine (HNN.out W2).mono ?_
         rintro e w3 ⟨N, fp, rfl, h1, h2, h3⟩
         have hb3 := bthen hb2 h3
         obtain ⟨b1, b2, b3⟩ := box_cells hb3 HX1.out
         have h2' : ∀ k ∈ fp, W1.heap.size ≤ k := fun k hk => by have := h2 k hk; have := hb2.size; omega
         have HN := Lib.hid h1
         have HF := Lib.hid h2'
         have HB3 := Lib.hid hb3
         clear h1 h2 h3 h2' hb2 hb3)
      | (go_at_call 130
         refine calls_named ?_
         intro W4 hW4
         have hb4 : Below w3.heap.size w3 W4 := by rw [hW4]; repeat (first | exact Below.refl _ _ | refine balloc ?_ _ | refine Below.drew ?_)
         clear hW4
         refine (HS.out N fp W4 (HN.out.below hb4)).mono ?_
         rintro e w5 ⟨N5, fp5, rfl, _, hu5⟩
         have HB5 := Lib.hid ((bthen HB1.out (bthen HB3.out hb4)).trans (hu5.below (B := w.heap.size) ((bthen HB1.out (bthen HB3.out hb4)).size) (fun k hk => by have := HF.out k hk; have := HB1.out.size; omega)))
         clear hu5 hb4))
    all_goals
      go_wp2_with (go_at_call 116; refine (smade_nil _).mono ?_; rintro e w7 ⟨rfl, hb7⟩; have HB7 := Lib.hid (HB5.out.trans (hb7.mono (HB5.out.size))); clear hb7)
      go_ret
      first | exact ⟨by simp, HB7.out⟩ | exact ⟨by simp, HB5.out⟩
  | false =>
    have HP := Lib.hid hp
    have HS := Lib.hid (fun (N : Nat) (W : World) => nodeSet_bad N p W hp)
    clear hp
    unfold polV
    unfold polV at HS
    go_enter Tryz.func62, Tryz.ntmps62
    go_wp2_with fail
    refine name_world ?_
    intro W1 hW1
    have hb1 : Below w.heap.size w W1 := by rw [hW1]; exact balloc (balloc (Below.refl _ _) _) _
    have hx1 : W1.heap[w.heap.size + 1]? = some (.cells #[.int .i64 p.mn, .int .i64 p.mx, .int .i64 p.tg, .int .i64 p.tol, .int .i64 p.win, .int .i64 p.hold] 44 (0, 0)) := by rw [hW1]; exact box_new _ _ _
    clear hW1
    obtain ⟨a1, a2, a3⟩ := box_cells (Below.refl _ _) hx1
    have HB1 := Lib.hid hb1
    have HX1 := Lib.hid hx1
    clear hb1 hx1
    go_region_with (first
      | (go_at_call 18
         refine calls_named ?_
         intro W2 hW2
         have hb2 : Below W1.heap.size W1 W2 := by rw [hW2]; repeat (first | exact Below.refl _ _ | refine balloc ?_ _ | refine Below.drew ?_)
         clear hW2
         refine (HNN.out W2).mono ?_
         rintro e w3 ⟨N, fp, rfl, h1, h2, h3⟩
         have hb3 := bthen hb2 h3
         obtain ⟨b1, b2, b3⟩ := box_cells hb3 HX1.out
         have h2' : ∀ k ∈ fp, W1.heap.size ≤ k := fun k hk => by have := h2 k hk; have := hb2.size; omega
         have HN := Lib.hid h1
         have HF := Lib.hid h2'
         have HB3 := Lib.hid hb3
         clear h1 h2 h3 h2' hb2 hb3)
      | (go_at_call 130
         refine calls_named ?_
         intro W4 hW4
         have hb4 : Below w3.heap.size w3 W4 := by rw [hW4]; repeat (first | exact Below.refl _ _ | refine balloc ?_ _ | refine Below.drew ?_)
         clear hW4
         refine (HS.out N W4).mono ?_
         rintro e w5 ⟨rfl, hu5⟩
         have HB5 := Lib.hid ((bthen HB1.out (bthen HB3.out hb4)).trans (hu5.mono ((bthen HB1.out (bthen HB3.out hb4)).size)))
         clear hu5 hb4))
    all_goals
      go_wp2_with (go_at_call 116; refine (smade_nil _).mono ?_; rintro e w7 ⟨rfl, hb7⟩; have HB7 := Lib.hid (HB5.out.trans (hb7.mono (HB5.out.size))); clear hb7)
      go_ret
      first | exact ⟨by simp, HB7.out⟩ | exact ⟨by simp, HB5.out⟩
end

section
set_option linter.unusedSimpArgs false
set_option linter.unusedVariables false
open Go.Shelf
def sortK_ren : Go.Shelf.Ren := ⟨fun | 6 => 141 | 15 => 185 | 14 => 184 | 28 => 233 | 29 => 234 | 20 => 225 | 21 => 226 | 22 => 227 | 23 => 228 | 24 => 229 | 25 => 230 | 26 => 231 | 27 => 232 | 46 => 254 | 47 => 255 | 48 => 256 | 49 => 257 | 50 => 258 | 57 => 265 | n => n, fun | 22 => 70 | 24 => 40 | 25 => 148 | 3 => 3 | 39 => 225 | 0 => 0 | 53 => 314 | 55 => 38 | 4 => 4 | 46 => 308 | 45 => 307 | 50 => 146 | 5 => 5 | 9 => 9 | 66 => 326 | 70 => 330 | 76 => 335 | 77 => 336 | n => n, fun | n => n⟩
theorem sortK : Go.Proofs.SlLaysF0.n6 Tryz.prog sortK_ren := {
  mixed := by kernel_rfl
  f6 := ⟨Tryz.f141.name, by decide, Tryz.func141.trans (congrArg some (by kernel_rfl))⟩
  f14 := ⟨Tryz.f184.name, by decide, Tryz.func184.trans (congrArg some (by kernel_rfl))⟩
  f15 := Tryz.func185.trans (congrArg some (by kernel_rfl))
  f20 := ⟨Tryz.f225.name, by decide, Tryz.func225.trans (congrArg some (by kernel_rfl))⟩
  f21 := ⟨Tryz.f226.name, by decide, Tryz.func226.trans (congrArg some (by kernel_rfl))⟩
  f22 := ⟨Tryz.f227.name, by decide, Tryz.func227.trans (congrArg some (by kernel_rfl))⟩
  f23 := ⟨Tryz.f228.name, by decide, Tryz.func228.trans (congrArg some (by kernel_rfl))⟩
  f24 := ⟨Tryz.f229.name, by decide, Tryz.func229.trans (congrArg some (by kernel_rfl))⟩
  f25 := ⟨Tryz.f230.name, by decide, Tryz.func230.trans (congrArg some (by kernel_rfl))⟩
  f26 := ⟨Tryz.f231.name, by decide, Tryz.func231.trans (congrArg some (by kernel_rfl))⟩
  f27 := ⟨Tryz.f232.name, by decide, Tryz.func232.trans (congrArg some (by kernel_rfl))⟩
  f28 := Tryz.func233.trans (congrArg some (by kernel_rfl))
  f29 := Tryz.func234.trans (congrArg some (by kernel_rfl))
  f46 := ⟨Tryz.f254.name, by decide, Tryz.func254.trans (congrArg some (by kernel_rfl))⟩
  f47 := Tryz.func255.trans (congrArg some (by kernel_rfl))
  f48 := Tryz.func256.trans (congrArg some (by kernel_rfl))
  f49 := ⟨Tryz.f257.name, by decide, Tryz.func257.trans (congrArg some (by kernel_rfl))⟩
  f50 := ⟨Tryz.f258.name, by decide, Tryz.func258.trans (congrArg some (by kernel_rfl))⟩
  f57 := ⟨Tryz.f265.name, by decide, Tryz.func265.trans (congrArg some (by kernel_rfl))⟩
  t0 := Tryz.underlying0
  a0 := Tryz.isAgg0
  z0 := Tryz.sizeOf0
  v0 := Tryz.zeroValue0
  t3 := Tryz.underlying3
  a3 := Tryz.isAgg3
  z3 := Tryz.sizeOf3
  v3 := Tryz.zeroValue3
  t4 := Tryz.underlying4
  a4 := Tryz.isAgg4
  z4 := Tryz.sizeOf4
  v4 := Tryz.zeroValue4
  t5 := Tryz.underlying5
  a5 := Tryz.isAgg5
  z5 := Tryz.sizeOf5
  v5 := Tryz.zeroValue5
  t9 := Tryz.underlying9
  a9 := Tryz.isAgg9
  z9 := Tryz.sizeOf9
  v9 := Tryz.zeroValue9
  t22 := Tryz.underlying70
  a22 := Tryz.isAgg70
  z22 := Tryz.sizeOf70
  v22 := Tryz.zeroValue70
  t25 := Tryz.underlying148
  a25 := Tryz.isAgg148
  z25 := Tryz.sizeOf148
  v25 := Tryz.zeroValue148
  t39 := Tryz.underlying225
  a39 := Tryz.isAgg225
  z39 := Tryz.sizeOf225
  v39 := Tryz.zeroValue225
  t45 := Tryz.underlying307
  a45 := Tryz.isAgg307
  z45 := Tryz.sizeOf307
  v45 := Tryz.zeroValue307
  t46 := Tryz.underlying308
  a46 := Tryz.isAgg308
  z46 := Tryz.sizeOf308
  v46 := Tryz.zeroValue308
  t50 := Tryz.underlying146
  a50 := Tryz.isAgg146
  z50 := Tryz.sizeOf146
  v50 := Tryz.zeroValue146
  t53 := Tryz.underlying314
  a53 := Tryz.isAgg314
  z53 := Tryz.sizeOf314
  v53 := Tryz.zeroValue314
  t55 := Tryz.underlying38
  a55 := Tryz.isAgg38
  z55 := Tryz.sizeOf38
  v55 := Tryz.zeroValue38
  t66 := Tryz.underlying326
  a66 := Tryz.isAgg326
  z66 := Tryz.sizeOf326
  v66 := Tryz.zeroValue326
  t70 := Tryz.underlying330
  a70 := Tryz.isAgg330
  z70 := Tryz.sizeOf330
  v70 := Tryz.zeroValue330
  t76 := Tryz.underlying335
  a76 := Tryz.isAgg335
  z76 := Tryz.sizeOf335
  v76 := Tryz.zeroValue335
  t77 := Tryz.underlying336
  a77 := Tryz.isAgg336
  z77 := Tryz.sizeOf336
  v77 := Tryz.zeroValue336 }
end

section
set_option linter.unusedSimpArgs false
set_option linter.unusedVariables false
open Go.RowKit Go.Lib Go.Sort Go.Shelf

/-! ### Cmp as the sort asks for it -/
theorem ltOf_key : (ltOf fun x y : Ky => cmpI x.1 x.2 y.1 y.2) = ltK := by
  funext x y
  show decide (cmpI x.1 x.2 y.1 y.2 < 0) = ltK x y
  unfold ltK
  by_cases h1 : x.1 = y.1
  · by_cases h2 : x.2 = y.2
    · have : cmpI x.1 x.2 y.1 y.2 = 0 := by simp [cmpI, h1, h2]
      rw [this]
      simp [h1, h2]
    · by_cases h3 : x.2 < y.2
      · have : cmpI x.1 x.2 y.1 y.2 = -1 := by simp [cmpI, h1, h2, h3]
        rw [this]
        simp [h1, h3]
      · have : cmpI x.1 x.2 y.1 y.2 = 1 := by simp [cmpI, h1, h2, h3]
        rw [this]
        simp [h1, h3]
  · by_cases h3 : x.1 < y.1
    · have : cmpI x.1 x.2 y.1 y.2 = -1 := by simp [cmpI, h1, h3]
      rw [this]
      simp [h1, h3]
    · have : cmpI x.1 x.2 y.1 y.2 = 1 := by simp [cmpI, h1, h3]
      rw [this]
      simp [h1, h3]

theorem swoK : SWO (ltOf fun x y : Ky => cmpI x.1 x.2 y.1 y.2) := by
  rw [ltOf_key]
  refine ⟨ltK_irrefl, fun x y z h1 h2 => ltK_trans h1 h2, fun x y z h1 h2 => ?_⟩
  cases h : ltK x z with
  | false => rfl
  | true =>
    cases h3 : ltK y x with
    | true => rw [ltK_trans h3 h] at h2; exact h2
    | false =>
      have := ltK_total h1 h3
      subst this
      rw [h] at h2
      exact h2

set_option maxRecDepth 100000 in
set_option maxHeartbeats 1000000 in
theorem cmp_lays (x y : Ky) (W : World) : Calls Tryz.prog 69 #[.agg #[.int .u64 x.1, .int .u64 x.2], .agg #[.int .u64 y.1, .int .u64 y.2]] W fun e w' => e = .returned (.int .i64 (cmpI x.1 x.2 y.1 y.2)) ∧ ∃ q os', w' = grow (W.drewN q) os' := by
  obtain ⟨a, b⟩ := x
  obtain ⟨c, d⟩ := y
  simp only
  by_cases e1 : a = c
  · subst e1
    by_cases e2 : b = d
    · subst e2
      have hv : cmpI a b a b = 0 := by simp [cmpI]
      rw [hv]
      clear hv
      go_enter Tryz.func69, Tryz.ntmps69
      go_wp2
      go_ret
      exact ⟨rfl, 0, _, by rw [alloc_eq_grow, alloc_eq_grow, grow_grow]; rfl⟩
    · have q : ((b : Int) == (d : Int)) = false := by simp; omega
      by_cases e3 : b < d
      · have hv : cmpI a b a d = -1 := by simp [cmpI, e2, e3]
        rw [hv]
        clear hv
        go_enter Tryz.func69, Tryz.ntmps69
        go_wp2
        go_ret
        exact ⟨rfl, 0, _, by rw [alloc_eq_grow, alloc_eq_grow, grow_grow]; rfl⟩
      · have hv : cmpI a b a d = 1 := by simp [cmpI, e2, e3]
        rw [hv]
        clear hv
        go_enter Tryz.func69, Tryz.ntmps69
        go_wp2
        go_ret
        exact ⟨rfl, 0, _, by rw [alloc_eq_grow, alloc_eq_grow, grow_grow]; rfl⟩
  · have q : ((a : Int) == (c : Int)) = false := by simp; omega
    by_cases e3 : a < c
    · have hv : cmpI a b c d = -1 := by simp [cmpI, e1, e3]
      rw [hv]
      clear hv
      go_enter Tryz.func69, Tryz.ntmps69
      go_wp2
      go_ret
      exact ⟨rfl, 0, _, by rw [alloc_eq_grow, alloc_eq_grow, grow_grow]; rfl⟩
    · have hv : cmpI a b c d = 1 := by simp [cmpI, e1, e3]
      rw [hv]
      clear hv
      go_enter Tryz.func69, Tryz.ntmps69
      go_wp2
      go_ret
      exact ⟨rfl, 0, _, by rw [alloc_eq_grow, alloc_eq_grow, grow_grow]; rfl⟩

theorem cmpLays_key (blk off size : Nat) (w : World) : CmpLays Tryz.prog 69 #[] keyC 2 (fun x y : Ky => cmpI x.1 x.2 y.1 y.2) blk off size w :=
  fun _ _ _ _ x y => cmp_lays x y _

theorem keyC_two (x : Ky) : (keyC x).length = 2 := rfl
theorem keyC_ones (x : Ky) : ∀ u ∈ keyC x, u.oneCell' = true := by
  intro u hu
  simp only [keyC, List.mem_cons, List.not_mem_nil, or_false] at hu
  rcases hu with rfl | rfl <;> rfl

/-- Keys, sorted. -/
def sortL (l : List Ky) : List Ky := l.mergeSort fun x y => !ltK y x

/-- The sort at keys, from a row of the call's own. -/
theorem sort_own {base : Nat} (v : Value) (l : List Ky) (w : World) (h : w.ownsRow base 40 2 v l.length (cellsOfRow keyC l)) (hl : l.length ≤ 1000000) :
    Calls Tryz.prog 141 #[v, .func (.func 69) #[] #[]] w fun e w' =>
      e = .returned (.tuple #[]) ∧ w'.ownsRow base 40 2 v l.length (cellsOfRow keyC (sortL l)) ∧ w.grownBy w' v.ownBlock := by
  have eg : ∀ args w, (callFunc 69 args).run Tryz.prog w = .ok (.enter 69 args) w := enters_of Tryz.func69 (by kernel_rfl) rfl
  rcases Go.Joins.ownsRow_forms h with ⟨rfl, h0⟩ | ⟨g, cap, rfl⟩
  · obtain rfl : l = [] := List.eq_nil_of_length_eq_zero h0
    refine (AnyF.slices_SortFunc_none sortK none 0 (.func (.func 69) #[] #[]) w).mono ?_
    rintro e w' ⟨rfl, rfl⟩
    exact ⟨rfl, by simpa [sortL] using h, ⟨rfl, rfl, rfl, Nat.le_refl _, fun _ _ _ => rfl⟩⟩
  · have hH := holdsK_own (f := keyC) (n := 2) keyC_two (by decide) h
    have hg := (h.lt g rfl).2
    have hs := AnyQ.slices_SortFunc_total sortK 2 Tryz.isAgg40 Tryz.sizeOf40 keyC (fun _ => rfl) keyC_ones (fun x y : Ky => cmpI x.1 x.2 y.1 y.2) swoK 69 #[] g 0 cap l.toArray w eg (cmpLays_key g 0 l.toArray.size w) hH hg (by simp; omega)
      (fun x y h1 h2 => by rw [ltOf_key] at h1 h2; exact ltK_total h1 h2)
    rw [ltOf_key] at hs
    refine Calls.mono hs ?_
    rintro e w' ⟨rfl, n, os, rfl⟩
    have hm : (sortL l).length = l.length := by simp [sortL]
    obtain ⟨h1, h2⟩ := own_putRowK (f := keyC) (n := 2) (m := sortL l) (k := n) keyC_two (by decide) h hm os
    rw [hm] at h1
    exact ⟨rfl, h1, h2⟩
end

end Go.Proofs.YtfegielnmdppgaaGreat
