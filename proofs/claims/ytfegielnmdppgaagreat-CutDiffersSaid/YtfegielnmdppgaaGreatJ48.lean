/- Equal lists, or not: slices.Equal, flywheelref08.Same, flywheelref14.Same; Alike, at nodes and at loads; A cut's Keys, and what of two cuts differs; Two stripes in one memory: what one's Freeze leaves of the other; what Freeze gives; flywheelref19.Keys: the keys of parts, rising; The plain law of CutDiffers; What was frozen, and the reference's items, while the stripe goes on; Frozen nodes, the items that they are, and cuts of them, where nothing turns; Chapter 19's awake: a cut of nothing; The walk of CutDiffers; The short ways of cdiffers; Calls as they come in; Acts on a stripe as they come in, their samples in range; a config that may be; CutDiffers, whole. -/
import Derived.Test.YtfegielnmdppgaaGreatJ08
import Derived.Test.YtfegielnmdppgaaGreatJ09
import Derived.Test.YtfegielnmdppgaaGreatJ17
import Derived.Test.YtfegielnmdppgaaGreatJ22
import Derived.Test.YtfegielnmdppgaaGreatJ45
import Derived.Test.YtfegielnmdppgaaGreatJ47
import Derived.Test.YtfegielnmdppgaaGreatJ03
import Derived.Test.YtfegielnmdppgaaGreatJ39
import Derived.Test.YtfegielnmdppgaaGreatJ34
import Derived.Test.YtfegielnmdppgaaGreatJ21
import Derived.Test.YtfegielnmdppgaaGreatJ37
import Derived.Test.YtfegielnmdppgaaGreatJ36
import Derived.Test.YtfegielnmdppgaaGreatJ10
import Derived.Test.YtfegielnmdppgaaGreatJ01
import Derived.Deep.Slices
import Derived.Lib.SmallJoins
import Derived.Test.YtfegielnmdppgaaGreatJ38
namespace Go.Proofs.YtfegielnmdppgaaGreat

section
set_option linter.unusedSimpArgs false
set_option linter.unusedVariables false
open Go.RowKit Go.Lib Go.Sort

deriving instance DecidableEq for Adv
theorem smp_ne {x y : Smp} (h : x ≠ y) : x.1 ≠ y.1 ∨ x.2 ≠ y.2 := by
  by_cases h1 : x.1 = y.1
  · exact .inr (fun h2 => h (Prod.ext h1 h2))
  · exact .inl h1
theorem adv_ne {x y : Adv} (h : x ≠ y) : x.tick ≠ y.tick ∨ x.load ≠ y.load ∨ x.want ≠ y.want ∨ x.repl ≠ y.repl ∨ x.why ≠ y.why := by
  obtain ⟨a, b, c, d, e⟩ := x
  obtain ⟨a2, b2, c2, d2, e2⟩ := y
  by_cases h1 : a = a2 <;> by_cases h2 : b = b2 <;> by_cases h3 : c = c2 <;> by_cases h4 : d = d2 <;> by_cases h5 : e = e2 <;> simp_all

set_option maxRecDepth 100000 in
set_option maxHeartbeats 8000000 in
theorem sEqual_any (v u : Value) (l m : List Smp) (w : World) (hv : RowIn 2 smpC w v l) (hu : RowIn 2 smpC w u m) (hl : l.length ≤ 1000000) (hm : m.length ≤ 1000000) :
    Calls Tryz.prog 143 #[v, u] w fun e w' => e = .returned (.bool (decide (l = m))) ∧ Below w.heap.size w w' := by
  obtain ⟨A, c, rfl⟩ := hv.form
  obtain ⟨A', c', rfl⟩ := hu.form
  have HV := Lib.hid hv
  have HU := Lib.hid hu
  have hl9 : l.length ≤ 9223372036854775807 := by omega
  have hm9 : m.length ≤ 9223372036854775807 := by omega
  clear hv hu
  by_cases hlen : l.length = m.length
  · have HLE := Lib.hid hlen
    have hne : ((l.length : Int) != (m.length : Int)) = false := by rw [hlen]; simp
    clear hlen
    go_enter Tryz.func143, Tryz.ntmps143
    go_wp2_with fail
    clear hne
    go_loopg [13] l.length (fun g s13 wr => ∃ k : Nat, k ≤ l.length ∧ l.length - k ≤ g ∧ s13 = .int .i64 k ∧ Hid (l.take k = m.take k) ∧ Below w.heap.size w wr)
    case atStart => exact ⟨0, Nat.zero_le _, Nat.le_refl _, rfl, Lib.hid (by simp), Below.refl _ _⟩
    case round =>
      obtain ⟨k, hk, hg, rfl, HT, hb⟩ := hrel
      rename World => wr
      have HB := Lib.hid hb
      clear hb
      by_cases hlt : k < l.length
      · have hlt2 : k < m.length := by have := HLE.out; omega
        obtain ⟨b1, o1, rfl, hb1, hc1⟩ := (HV.out.below HB.out).at_ hlt
        obtain ⟨b2, o2, rfl, hb2, hc2⟩ := (HU.out.below HB.out).at_ hlt2
        have z1 : (0 : Int) ≤ (k : Int) := by omega
        have z2 : (k : Int) < (l.length : Int) := by omega
        have z3 : (k : Int) < (m.length : Int) := by omega
        by_cases hxy : l[k] = m[k]
        · have HT2 := Lib.hid (show l.take (k + 1) = m.take (k + 1) by rw [List.take_succ_eq_append_getElem hlt, List.take_succ_eq_append_getElem hlt2, HT.out, hxy])
          rw [← hxy] at hc2
          generalize l[k] = x at hc1 hc2
          have c0 := hc1 0 _ rfl
          have c1 := hc1 1 _ rfl
          rw [Nat.add_zero] at c0
          have d0 := hc2 0 _ rfl
          have d1 := hc2 1 _ rfl
          rw [Nat.add_zero] at d0
          clear hc1 hc2 hxy
          go_wp2_with fail
          go_quiet (fail)
          go_wp2_with fail
          go_roundg (l.length - (k + 1))
          case measure => omega
          case rel => exact ⟨k + 1, hlt, Nat.le_refl _, by go_num, HT2, below_drewN HB.out _⟩
        · have HNE := Lib.hid (show decide (l = m) = false from decide_eq_false (fun e => hxy (by subst e; rfl)))
          generalize l[k] = x at hc1 hxy
          generalize m[k] = y at hc2 hxy
          have c0 := hc1 0 _ rfl
          have c1 := hc1 1 _ rfl
          rw [Nat.add_zero] at c0
          have d0 := hc2 0 _ rfl
          have d1 := hc2 1 _ rfl
          rw [Nat.add_zero] at d0
          clear hc1 hc2
          rcases smp_ne hxy with hne | hne
          · have hq : (x.1 == y.1) = false := by simpa using hne
            clear hne
            go_wp2_with fail
            go_quiet (fail)
            go_wp2_with fail
            go_ret
            exact ⟨by rw [HNE.out]; rfl, below_drewN HB.out _⟩
          · have hq : (x.2 == y.2) = false := by simpa using hne
            clear hne
            go_wp2_with fail
            go_quiet (fail)
            go_wp2_with fail
            go_ret
            exact ⟨by rw [HNE.out]; rfl, below_drewN HB.out _⟩
      · obtain rfl : k = l.length := by omega
        have e : l = m := by have := HT.out; rw [List.take_length, HLE.out, List.take_length] at this; exact this
        have HE := Lib.hid (show decide (l = m) = true from decide_eq_true e)
        clear e
        go_wp2_with fail
        go_ret
        exact ⟨by rw [HE.out]; rfl, HB.out⟩
  · have hne : ((l.length : Int) != (m.length : Int)) = true := by simp; omega
    have HNE := Lib.hid (show decide (l = m) = false from decide_eq_false (fun e => hlen (by rw [e])))
    clear hlen
    go_enter Tryz.func143, Tryz.ntmps143
    go_wp2_with fail
    go_ret
    exact ⟨by rw [HNE.out]; rfl, Below.refl _ _⟩

set_option maxRecDepth 100000 in
set_option maxHeartbeats 8000000 in
theorem aEqual_any (v u : Value) (l m : List Adv) (w : World) (hv : RowIn 5 advC w v l) (hu : RowIn 5 advC w u m) (hl : l.length ≤ 1000000) (hm : m.length ≤ 1000000) :
    Calls Tryz.prog 144 #[v, u] w fun e w' => e = .returned (.bool (decide (l = m))) ∧ Below w.heap.size w w' := by
  obtain ⟨A, c, rfl⟩ := hv.form
  obtain ⟨A', c', rfl⟩ := hu.form
  have HV := Lib.hid hv
  have HU := Lib.hid hu
  have hl9 : l.length ≤ 9223372036854775807 := by omega
  have hm9 : m.length ≤ 9223372036854775807 := by omega
  clear hv hu
  by_cases hlen : l.length = m.length
  · have HLE := Lib.hid hlen
    have hne : ((l.length : Int) != (m.length : Int)) = false := by rw [hlen]; simp
    clear hlen
    go_enter Tryz.func144, Tryz.ntmps144
    go_wp2_with fail
    clear hne
    go_loopg [13] l.length (fun g s13 wr => ∃ k : Nat, k ≤ l.length ∧ l.length - k ≤ g ∧ s13 = .int .i64 k ∧ Hid (l.take k = m.take k) ∧ Below w.heap.size w wr)
    case atStart => exact ⟨0, Nat.zero_le _, Nat.le_refl _, rfl, Lib.hid (by simp), Below.refl _ _⟩
    case round =>
      obtain ⟨k, hk, hg, rfl, HT, hb⟩ := hrel
      rename World => wr
      have HB := Lib.hid hb
      clear hb
      by_cases hlt : k < l.length
      · have hlt2 : k < m.length := by have := HLE.out; omega
        obtain ⟨b1, o1, rfl, hb1, hc1⟩ := (HV.out.below HB.out).at_ hlt
        obtain ⟨b2, o2, rfl, hb2, hc2⟩ := (HU.out.below HB.out).at_ hlt2
        have z1 : (0 : Int) ≤ (k : Int) := by omega
        have z2 : (k : Int) < (l.length : Int) := by omega
        have z3 : (k : Int) < (m.length : Int) := by omega
        by_cases hxy : l[k] = m[k]
        · have HT2 := Lib.hid (show l.take (k + 1) = m.take (k + 1) by rw [List.take_succ_eq_append_getElem hlt, List.take_succ_eq_append_getElem hlt2, HT.out, hxy])
          rw [← hxy] at hc2
          generalize l[k] = x at hc1 hc2
          have c0 := hc1 0 _ rfl
          have c1 := hc1 1 _ rfl
          have c2 := hc1 2 _ rfl
          have c3 := hc1 3 _ rfl
          have c4 := hc1 4 _ rfl
          rw [Nat.add_zero] at c0
          have d0 := hc2 0 _ rfl
          have d1 := hc2 1 _ rfl
          have d2 := hc2 2 _ rfl
          have d3 := hc2 3 _ rfl
          have d4 := hc2 4 _ rfl
          rw [Nat.add_zero] at d0
          clear hc1 hc2 hxy
          go_wp2_with fail
          go_quiet (fail)
          go_wp2_with fail
          go_roundg (l.length - (k + 1))
          case measure => omega
          case rel => exact ⟨k + 1, hlt, Nat.le_refl _, by go_num, HT2, below_drewN HB.out _⟩
        · have HNE := Lib.hid (show decide (l = m) = false from decide_eq_false (fun e => hxy (by subst e; rfl)))
          generalize l[k] = x at hc1 hxy
          generalize m[k] = y at hc2 hxy
          have c0 := hc1 0 _ rfl
          have c1 := hc1 1 _ rfl
          have c2 := hc1 2 _ rfl
          have c3 := hc1 3 _ rfl
          have c4 := hc1 4 _ rfl
          rw [Nat.add_zero] at c0
          have d0 := hc2 0 _ rfl
          have d1 := hc2 1 _ rfl
          have d2 := hc2 2 _ rfl
          have d3 := hc2 3 _ rfl
          have d4 := hc2 4 _ rfl
          rw [Nat.add_zero] at d0
          clear hc1 hc2
          rcases adv_ne hxy with hne | hne | hne | hne | hne
          · have hq : (x.tick == y.tick) = false := by simpa using hne
            clear hne
            go_wp2_with fail
            go_quiet (fail)
            go_wp2_with fail
            go_ret
            exact ⟨by rw [HNE.out]; rfl, below_drewN HB.out _⟩
          · have hq : (x.load == y.load) = false := by simpa using hne
            clear hne
            go_wp2_with fail
            go_quiet (fail)
            go_wp2_with fail
            go_ret
            exact ⟨by rw [HNE.out]; rfl, below_drewN HB.out _⟩
          · have hq : (x.want == y.want) = false := by simpa using hne
            clear hne
            go_wp2_with fail
            go_quiet (fail)
            go_wp2_with fail
            go_ret
            exact ⟨by rw [HNE.out]; rfl, below_drewN HB.out _⟩
          · have hq : (x.repl == y.repl) = false := by simpa using hne
            clear hne
            go_wp2_with fail
            go_quiet (fail)
            go_wp2_with fail
            go_ret
            exact ⟨by rw [HNE.out]; rfl, below_drewN HB.out _⟩
          · have hq : (x.why == y.why) = false := by simpa using hne
            clear hne
            go_wp2_with fail
            go_quiet (fail)
            go_wp2_with fail
            go_ret
            exact ⟨by rw [HNE.out]; rfl, below_drewN HB.out _⟩
      · obtain rfl : k = l.length := by omega
        have e : l = m := by have := HT.out; rw [List.take_length, HLE.out, List.take_length] at this; exact this
        have HE := Lib.hid (show decide (l = m) = true from decide_eq_true e)
        clear e
        go_wp2_with fail
        go_ret
        exact ⟨by rw [HE.out]; rfl, HB.out⟩
  · have hne : ((l.length : Int) != (m.length : Int)) = true := by simp; omega
    have HNE := Lib.hid (show decide (l = m) = false from decide_eq_false (fun e => hlen (by rw [e])))
    clear hlen
    go_enter Tryz.func144, Tryz.ntmps144
    go_wp2_with fail
    go_ret
    exact ⟨by rw [HNE.out]; rfl, Below.refl _ _⟩

set_option maxRecDepth 100000 in
set_option maxHeartbeats 8000000 in
theorem r8eq_any (v u : Value) (l m : List Smp) (w : World) (hv : RowIn 2 smpC w v l) (hu : RowIn 2 smpC w u m) (hl : l.length ≤ 1000000) (hm : m.length ≤ 1000000) :
    Calls Tryz.prog 74 #[v, u] w fun e w' => e = .returned (.bool (decide (l = m))) ∧ Below w.heap.size w w' := by
  obtain ⟨A, c, rfl⟩ := hv.form
  obtain ⟨A', c', rfl⟩ := hu.form
  have HV := Lib.hid hv
  have HU := Lib.hid hu
  have hl9 : l.length ≤ 9223372036854775807 := by omega
  have hm9 : m.length ≤ 9223372036854775807 := by omega
  clear hv hu
  by_cases hlen : l.length = m.length
  · have HLE := Lib.hid hlen
    have hne : ((l.length : Int) != (m.length : Int)) = false := by rw [hlen]; simp
    clear hlen
    go_enter Tryz.func74, Tryz.ntmps74
    go_wp2_with fail
    clear hne
    go_loopg [5] l.length (fun g s5 wr => ∃ k : Nat, k ≤ l.length ∧ l.length - k ≤ g ∧ s5 = .int .i64 k ∧ Hid (l.take k = m.take k) ∧ Below w.heap.size w wr)
    case atStart => exact ⟨0, Nat.zero_le _, Nat.le_refl _, rfl, Lib.hid (by simp), Below.refl _ _⟩
    case round =>
      obtain ⟨k, hk, hg, rfl, HT, hb⟩ := hrel
      rename World => wr
      have HB := Lib.hid hb
      clear hb
      by_cases hlt : k < l.length
      · have hlt2 : k < m.length := by have := HLE.out; omega
        obtain ⟨b1, o1, rfl, hb1, hc1⟩ := (HV.out.below HB.out).at_ hlt
        obtain ⟨b2, o2, rfl, hb2, hc2⟩ := (HU.out.below HB.out).at_ hlt2
        have z1 : (0 : Int) ≤ (k : Int) := by omega
        have z2 : (k : Int) < (l.length : Int) := by omega
        have z3 : (k : Int) < (m.length : Int) := by omega
        by_cases hxy : l[k] = m[k]
        · have HT2 := Lib.hid (show l.take (k + 1) = m.take (k + 1) by rw [List.take_succ_eq_append_getElem hlt, List.take_succ_eq_append_getElem hlt2, HT.out, hxy])
          rw [← hxy] at hc2
          generalize l[k] = x at hc1 hc2
          have c0 := hc1 0 _ rfl
          have c1 := hc1 1 _ rfl
          rw [Nat.add_zero] at c0
          have d0 := hc2 0 _ rfl
          have d1 := hc2 1 _ rfl
          rw [Nat.add_zero] at d0
          clear hc1 hc2 hxy
          go_wp2_with fail
          go_quiet (fail)
          go_wp2_with fail
          go_roundg (l.length - (k + 1))
          case measure => omega
          case rel => exact ⟨k + 1, hlt, Nat.le_refl _, by go_num, HT2, below_drewN HB.out _⟩
        · have HNE := Lib.hid (show decide (l = m) = false from decide_eq_false (fun e => hxy (by subst e; rfl)))
          generalize l[k] = x at hc1 hxy
          generalize m[k] = y at hc2 hxy
          have c0 := hc1 0 _ rfl
          have c1 := hc1 1 _ rfl
          rw [Nat.add_zero] at c0
          have d0 := hc2 0 _ rfl
          have d1 := hc2 1 _ rfl
          rw [Nat.add_zero] at d0
          clear hc1 hc2
          rcases smp_ne hxy with hne | hne
          · have hq : (x.1 == y.1) = false := by simpa using hne
            clear hne
            go_wp2_with fail
            go_quiet (fail)
            go_wp2_with fail
            go_ret
            exact ⟨by rw [HNE.out]; rfl, below_drewN HB.out _⟩
          · have hq : (x.2 == y.2) = false := by simpa using hne
            clear hne
            go_wp2_with fail
            go_quiet (fail)
            go_wp2_with fail
            go_ret
            exact ⟨by rw [HNE.out]; rfl, below_drewN HB.out _⟩
      · obtain rfl : k = l.length := by omega
        have e : l = m := by have := HT.out; rw [List.take_length, HLE.out, List.take_length] at this; exact this
        have HE := Lib.hid (show decide (l = m) = true from decide_eq_true e)
        clear e
        go_wp2_with fail
        go_ret
        exact ⟨by rw [HE.out]; rfl, HB.out⟩
  · have hne : ((l.length : Int) != (m.length : Int)) = true := by simp; omega
    have HNE := Lib.hid (show decide (l = m) = false from decide_eq_false (fun e => hlen (by rw [e])))
    clear hlen
    go_enter Tryz.func74, Tryz.ntmps74
    go_wp2_with fail
    go_ret
    exact ⟨by rw [HNE.out]; rfl, Below.refl _ _⟩

set_option maxRecDepth 100000 in
set_option maxHeartbeats 8000000 in
theorem r14eq_any (v u : Value) (l m : List Adv) (w : World) (hv : RowIn 5 advC w v l) (hu : RowIn 5 advC w u m) (hl : l.length ≤ 1000000) (hm : m.length ≤ 1000000) :
    Calls Tryz.prog 75 #[v, u] w fun e w' => e = .returned (.bool (decide (l = m))) ∧ Below w.heap.size w w' := by
  obtain ⟨A, c, rfl⟩ := hv.form
  obtain ⟨A', c', rfl⟩ := hu.form
  have HV := Lib.hid hv
  have HU := Lib.hid hu
  have hl9 : l.length ≤ 9223372036854775807 := by omega
  have hm9 : m.length ≤ 9223372036854775807 := by omega
  clear hv hu
  by_cases hlen : l.length = m.length
  · have HLE := Lib.hid hlen
    have hne : ((l.length : Int) != (m.length : Int)) = false := by rw [hlen]; simp
    clear hlen
    go_enter Tryz.func75, Tryz.ntmps75
    go_wp2_with fail
    clear hne
    go_loopg [5] l.length (fun g s5 wr => ∃ k : Nat, k ≤ l.length ∧ l.length - k ≤ g ∧ s5 = .int .i64 k ∧ Hid (l.take k = m.take k) ∧ Below w.heap.size w wr)
    case atStart => exact ⟨0, Nat.zero_le _, Nat.le_refl _, rfl, Lib.hid (by simp), Below.refl _ _⟩
    case round =>
      obtain ⟨k, hk, hg, rfl, HT, hb⟩ := hrel
      rename World => wr
      have HB := Lib.hid hb
      clear hb
      by_cases hlt : k < l.length
      · have hlt2 : k < m.length := by have := HLE.out; omega
        obtain ⟨b1, o1, rfl, hb1, hc1⟩ := (HV.out.below HB.out).at_ hlt
        obtain ⟨b2, o2, rfl, hb2, hc2⟩ := (HU.out.below HB.out).at_ hlt2
        have z1 : (0 : Int) ≤ (k : Int) := by omega
        have z2 : (k : Int) < (l.length : Int) := by omega
        have z3 : (k : Int) < (m.length : Int) := by omega
        by_cases hxy : l[k] = m[k]
        · have HT2 := Lib.hid (show l.take (k + 1) = m.take (k + 1) by rw [List.take_succ_eq_append_getElem hlt, List.take_succ_eq_append_getElem hlt2, HT.out, hxy])
          rw [← hxy] at hc2
          generalize l[k] = x at hc1 hc2
          have c0 := hc1 0 _ rfl
          have c1 := hc1 1 _ rfl
          have c2 := hc1 2 _ rfl
          have c3 := hc1 3 _ rfl
          have c4 := hc1 4 _ rfl
          rw [Nat.add_zero] at c0
          have d0 := hc2 0 _ rfl
          have d1 := hc2 1 _ rfl
          have d2 := hc2 2 _ rfl
          have d3 := hc2 3 _ rfl
          have d4 := hc2 4 _ rfl
          rw [Nat.add_zero] at d0
          clear hc1 hc2 hxy
          go_wp2_with fail
          go_quiet (fail)
          go_wp2_with fail
          go_roundg (l.length - (k + 1))
          case measure => omega
          case rel => exact ⟨k + 1, hlt, Nat.le_refl _, by go_num, HT2, below_drewN HB.out _⟩
        · have HNE := Lib.hid (show decide (l = m) = false from decide_eq_false (fun e => hxy (by subst e; rfl)))
          generalize l[k] = x at hc1 hxy
          generalize m[k] = y at hc2 hxy
          have c0 := hc1 0 _ rfl
          have c1 := hc1 1 _ rfl
          have c2 := hc1 2 _ rfl
          have c3 := hc1 3 _ rfl
          have c4 := hc1 4 _ rfl
          rw [Nat.add_zero] at c0
          have d0 := hc2 0 _ rfl
          have d1 := hc2 1 _ rfl
          have d2 := hc2 2 _ rfl
          have d3 := hc2 3 _ rfl
          have d4 := hc2 4 _ rfl
          rw [Nat.add_zero] at d0
          clear hc1 hc2
          rcases adv_ne hxy with hne | hne | hne | hne | hne
          · have hq : (x.tick == y.tick) = false := by simpa using hne
            clear hne
            go_wp2_with fail
            go_quiet (fail)
            go_wp2_with fail
            go_ret
            exact ⟨by rw [HNE.out]; rfl, below_drewN HB.out _⟩
          · have hq : (x.load == y.load) = false := by simpa using hne
            clear hne
            go_wp2_with fail
            go_quiet (fail)
            go_wp2_with fail
            go_ret
            exact ⟨by rw [HNE.out]; rfl, below_drewN HB.out _⟩
          · have hq : (x.want == y.want) = false := by simpa using hne
            clear hne
            go_wp2_with fail
            go_quiet (fail)
            go_wp2_with fail
            go_ret
            exact ⟨by rw [HNE.out]; rfl, below_drewN HB.out _⟩
          · have hq : (x.repl == y.repl) = false := by simpa using hne
            clear hne
            go_wp2_with fail
            go_quiet (fail)
            go_wp2_with fail
            go_ret
            exact ⟨by rw [HNE.out]; rfl, below_drewN HB.out _⟩
          · have hq : (x.why == y.why) = false := by simpa using hne
            clear hne
            go_wp2_with fail
            go_quiet (fail)
            go_wp2_with fail
            go_ret
            exact ⟨by rw [HNE.out]; rfl, below_drewN HB.out _⟩
      · obtain rfl : k = l.length := by omega
        have e : l = m := by have := HT.out; rw [List.take_length, HLE.out, List.take_length] at this; exact this
        have HE := Lib.hid (show decide (l = m) = true from decide_eq_true e)
        clear e
        go_wp2_with fail
        go_ret
        exact ⟨by rw [HE.out]; rfl, HB.out⟩
  · have hne : ((l.length : Int) != (m.length : Int)) = true := by simp; omega
    have HNE := Lib.hid (show decide (l = m) = false from decide_eq_false (fun e => hlen (by rw [e])))
    clear hlen
    go_enter Tryz.func75, Tryz.ntmps75
    go_wp2_with fail
    go_ret
    exact ⟨by rw [HNE.out]; rfl, Below.refl _ _⟩
end

section
set_option linter.unusedSimpArgs false
set_option linter.unusedVariables false
open Go.RowKit Go.Lib Go.Sort

deriving instance DecidableEq for Pol
theorem pol_ne {x y : Pol} (h : x ≠ y) : x.mn ≠ y.mn ∨ x.mx ≠ y.mx ∨ x.tg ≠ y.tg ∨ x.tol ≠ y.tol ∨ x.win ≠ y.win ∨ x.hold ≠ y.hold := by
  obtain ⟨a, b, c, d, e, f⟩ := x
  obtain ⟨a2, b2, c2, d2, e2, f2⟩ := y
  by_cases h1 : a = a2 <;> by_cases h2 : b = b2 <;> by_cases h3 : c = c2 <;> by_cases h4 : d = d2 <;> by_cases h5 : e = e2 <;> by_cases h6 : f = f2 <;> simp_all

set_option maxRecDepth 100000 in
set_option maxHeartbeats 8000000 in
theorem alike_core (N1 N2 : Nat) (p q : Pol) (b d : Bool) (l m : List Smp) (l2 m2 : List Adv) (w : World)
    (P1 : Hid (∀ W, Below w.heap.size w W → Calls Tryz.prog 73 #[.pointer (some ⟨N1, 0, none⟩)] W fun e w' => e = .returned (.tuple #[.agg #[.int .i64 p.mn, .int .i64 p.mx, .int .i64 p.tg, .int .i64 p.tol, .int .i64 p.win, .int .i64 p.hold], .bool b]) ∧ Below W.heap.size W w'))
    (P2 : Hid (∀ W, Below w.heap.size w W → Calls Tryz.prog 73 #[.pointer (some ⟨N2, 0, none⟩)] W fun e w' => e = .returned (.tuple #[.agg #[.int .i64 q.mn, .int .i64 q.mx, .int .i64 q.tg, .int .i64 q.tol, .int .i64 q.win, .int .i64 q.hold], .bool d]) ∧ Below W.heap.size W w'))
    (S1 : Hid (∀ W, Below w.heap.size w W → Calls Tryz.prog 71 #[.pointer (some ⟨N1, 0, none⟩)] W (CloneS smpC 42 2 W l)))
    (S2 : Hid (∀ W, Below w.heap.size w W → Calls Tryz.prog 71 #[.pointer (some ⟨N2, 0, none⟩)] W (CloneS smpC 42 2 W m)))
    (A1 : Hid (∀ W, Below w.heap.size w W → Calls Tryz.prog 76 #[.pointer (some ⟨N1, 0, none⟩)] W (CloneS advC 46 5 W l2)))
    (A2 : Hid (∀ W, Below w.heap.size w W → Calls Tryz.prog 76 #[.pointer (some ⟨N2, 0, none⟩)] W (CloneS advC 46 5 W m2)))
    (HL : Hid (l.length ≤ 1000000 ∧ m.length ≤ 1000000 ∧ l2.length ≤ 1000000 ∧ m2.length ≤ 1000000)) :
    Calls Tryz.prog 79 #[.pointer (some ⟨N1, 0, none⟩), .pointer (some ⟨N2, 0, none⟩)] w fun e w' => e = .returned (.bool (decide (b = d) && decide (p = q) && decide (l = m) && decide (l2 = m2))) ∧ Below w.heap.size w w' := by
  by_cases hb : b = d
  · subst hb
    by_cases hp : p = q
    · subst hp
      cases hs : decide (l = m) with
      | false =>
        as_aux_lemma =>
          have HSE := Lib.hid hs
          have HRES := Lib.hid (show (decide (b = b) && decide (p = p) && false && decide (l2 = m2)) = false by simp)
          clear hs
          go_enter Tryz.func79, Tryz.ntmps79
          go_wp2_with (first
            | (go_at_call 73
               have h9 := HB1
               refine calls_named ?_
               intro W2 hW2
               have hb2 : Below w1.heap.size w1 W2 := by rw [hW2]; exact balloc (Below.refl _ _) _
               have hx2 : W2.heap[w1.heap.size]? = some (.cells #[.int .i64 p.mn, .int .i64 p.mx, .int .i64 p.tg, .int .i64 p.tol, .int .i64 p.win, .int .i64 p.hold] 44 (0, 0)) := by rw [hW2]; exact heap_alloc_new _ _
               clear hW2 h9
               refine (P2.out W2 (bthen HB1.out hb2)).mono ?_
               rintro e w3 ⟨rfl, hb3⟩
               obtain ⟨a1, a2, a3⟩ := box_cells hb3 hx2
               have HB3 := Lib.hid (bthen HB1.out (bthen hb2 hb3))
               clear hb2 hx2 hb3)
            | (go_at_call 73
               refine (P1.out w (Below.refl _ _)).mono ?_
               rintro e w1 ⟨rfl, hb1⟩
               have HB1 := Lib.hid hb1
               clear hb1)
            | (go_at_call 71
               have h9 := HB5
               refine (S2.out w5 HB5.out).mono ?_
               rintro e w6 ⟨A6, c6, f6, rfl, hr, _, hb⟩
               have HR6 := Lib.hid (hr.row eSmp)
               have HR56 := Lib.hid (HR5.out.below hb)
               have HB6 := Lib.hid (bthen HB5.out hb)
               clear hr hb h9)
            | (go_at_call 71
               refine calls_named ?_
               intro W4 hW4
               have hb4 : Below w3.heap.size w3 W4 := by rw [hW4]; exact balloc (Below.refl _ _) _
               clear hW4
               refine (S1.out W4 (bthen HB3.out hb4)).mono ?_
               rintro e w5 ⟨A5, c5, f5, rfl, hr, _, hb⟩
               have HR5 := Lib.hid (hr.row eSmp)
               have HB5 := Lib.hid (bthen HB3.out (bthen hb4 hb))
               clear hr hb hb4)
            | (go_at_call 143
               refine (sEqual_any _ _ l m w6 HR56.out HR6.out HL.out.1 HL.out.2.1).mono ?_
               rw [HSE.out]
               rintro e w7 ⟨rfl, hb⟩
               have HB7 := Lib.hid (bthen HB6.out hb)
               clear hb)
            | (go_at_call 76
               have h9 := HB8
               refine (A2.out w8 HB8.out).mono ?_
               rintro e w9 ⟨A9, c9, f9, rfl, hr, _, hb⟩
               have HR9 := Lib.hid (hr.row eAdv)
               have HR89 := Lib.hid (HR8.out.below hb)
               have HB9 := Lib.hid (bthen HB8.out hb)
               clear hr hb h9)
            | (go_at_call 76
               refine (A1.out w7 HB7.out).mono ?_
               rintro e w8 ⟨A8, c8, f8, rfl, hr, _, hb⟩
               have HR8 := Lib.hid (hr.row eAdv)
               have HB8 := Lib.hid (bthen HB7.out hb)
               clear hr hb)
            | (go_at_call 144
               refine (aEqual_any _ _ l2 m2 w9 HR89.out HR9.out HL.out.2.2.1 HL.out.2.2.2).mono ?_
               rw [HAE.out]
               rintro e w10 ⟨rfl, hb⟩
               have HB10 := Lib.hid (bthen HB9.out hb)
               clear hb))
          go_ret
          exact ⟨by rw [HRES.out]; rfl, HB7.out⟩
      | true =>
        cases ha : decide (l2 = m2) with
        | false =>
          as_aux_lemma =>
            have HSE := Lib.hid hs
            have HAE := Lib.hid ha
            have HRES := Lib.hid (show (decide (b = b) && decide (p = p) && true && false) = false by simp)
            clear hs ha
            go_enter Tryz.func79, Tryz.ntmps79
            go_wp2_with (first
              | (go_at_call 73
                 have h9 := HB1
                 refine calls_named ?_
                 intro W2 hW2
                 have hb2 : Below w1.heap.size w1 W2 := by rw [hW2]; exact balloc (Below.refl _ _) _
                 have hx2 : W2.heap[w1.heap.size]? = some (.cells #[.int .i64 p.mn, .int .i64 p.mx, .int .i64 p.tg, .int .i64 p.tol, .int .i64 p.win, .int .i64 p.hold] 44 (0, 0)) := by rw [hW2]; exact heap_alloc_new _ _
                 clear hW2 h9
                 refine (P2.out W2 (bthen HB1.out hb2)).mono ?_
                 rintro e w3 ⟨rfl, hb3⟩
                 obtain ⟨a1, a2, a3⟩ := box_cells hb3 hx2
                 have HB3 := Lib.hid (bthen HB1.out (bthen hb2 hb3))
                 clear hb2 hx2 hb3)
              | (go_at_call 73
                 refine (P1.out w (Below.refl _ _)).mono ?_
                 rintro e w1 ⟨rfl, hb1⟩
                 have HB1 := Lib.hid hb1
                 clear hb1)
              | (go_at_call 71
                 have h9 := HB5
                 refine (S2.out w5 HB5.out).mono ?_
                 rintro e w6 ⟨A6, c6, f6, rfl, hr, _, hb⟩
                 have HR6 := Lib.hid (hr.row eSmp)
                 have HR56 := Lib.hid (HR5.out.below hb)
                 have HB6 := Lib.hid (bthen HB5.out hb)
                 clear hr hb h9)
              | (go_at_call 71
                 refine calls_named ?_
                 intro W4 hW4
                 have hb4 : Below w3.heap.size w3 W4 := by rw [hW4]; exact balloc (Below.refl _ _) _
                 clear hW4
                 refine (S1.out W4 (bthen HB3.out hb4)).mono ?_
                 rintro e w5 ⟨A5, c5, f5, rfl, hr, _, hb⟩
                 have HR5 := Lib.hid (hr.row eSmp)
                 have HB5 := Lib.hid (bthen HB3.out (bthen hb4 hb))
                 clear hr hb hb4)
              | (go_at_call 143
                 refine (sEqual_any _ _ l m w6 HR56.out HR6.out HL.out.1 HL.out.2.1).mono ?_
                 rw [HSE.out]
                 rintro e w7 ⟨rfl, hb⟩
                 have HB7 := Lib.hid (bthen HB6.out hb)
                 clear hb)
              | (go_at_call 76
                 have h9 := HB8
                 refine (A2.out w8 HB8.out).mono ?_
                 rintro e w9 ⟨A9, c9, f9, rfl, hr, _, hb⟩
                 have HR9 := Lib.hid (hr.row eAdv)
                 have HR89 := Lib.hid (HR8.out.below hb)
                 have HB9 := Lib.hid (bthen HB8.out hb)
                 clear hr hb h9)
              | (go_at_call 76
                 refine (A1.out w7 HB7.out).mono ?_
                 rintro e w8 ⟨A8, c8, f8, rfl, hr, _, hb⟩
                 have HR8 := Lib.hid (hr.row eAdv)
                 have HB8 := Lib.hid (bthen HB7.out hb)
                 clear hr hb)
              | (go_at_call 144
                 refine (aEqual_any _ _ l2 m2 w9 HR89.out HR9.out HL.out.2.2.1 HL.out.2.2.2).mono ?_
                 rw [HAE.out]
                 rintro e w10 ⟨rfl, hb⟩
                 have HB10 := Lib.hid (bthen HB9.out hb)
                 clear hb))
            go_ret
            exact ⟨by rw [HRES.out]; rfl, HB10.out⟩
        | true =>
          as_aux_lemma =>
            have HSE := Lib.hid hs
            have HAE := Lib.hid ha
            have HRES := Lib.hid (show (decide (b = b) && decide (p = p) && true && true) = true by simp)
            clear hs ha
            go_enter Tryz.func79, Tryz.ntmps79
            go_wp2_with (first
              | (go_at_call 73
                 have h9 := HB1
                 refine calls_named ?_
                 intro W2 hW2
                 have hb2 : Below w1.heap.size w1 W2 := by rw [hW2]; exact balloc (Below.refl _ _) _
                 have hx2 : W2.heap[w1.heap.size]? = some (.cells #[.int .i64 p.mn, .int .i64 p.mx, .int .i64 p.tg, .int .i64 p.tol, .int .i64 p.win, .int .i64 p.hold] 44 (0, 0)) := by rw [hW2]; exact heap_alloc_new _ _
                 clear hW2 h9
                 refine (P2.out W2 (bthen HB1.out hb2)).mono ?_
                 rintro e w3 ⟨rfl, hb3⟩
                 obtain ⟨a1, a2, a3⟩ := box_cells hb3 hx2
                 have HB3 := Lib.hid (bthen HB1.out (bthen hb2 hb3))
                 clear hb2 hx2 hb3)
              | (go_at_call 73
                 refine (P1.out w (Below.refl _ _)).mono ?_
                 rintro e w1 ⟨rfl, hb1⟩
                 have HB1 := Lib.hid hb1
                 clear hb1)
              | (go_at_call 71
                 have h9 := HB5
                 refine (S2.out w5 HB5.out).mono ?_
                 rintro e w6 ⟨A6, c6, f6, rfl, hr, _, hb⟩
                 have HR6 := Lib.hid (hr.row eSmp)
                 have HR56 := Lib.hid (HR5.out.below hb)
                 have HB6 := Lib.hid (bthen HB5.out hb)
                 clear hr hb h9)
              | (go_at_call 71
                 refine calls_named ?_
                 intro W4 hW4
                 have hb4 : Below w3.heap.size w3 W4 := by rw [hW4]; exact balloc (Below.refl _ _) _
                 clear hW4
                 refine (S1.out W4 (bthen HB3.out hb4)).mono ?_
                 rintro e w5 ⟨A5, c5, f5, rfl, hr, _, hb⟩
                 have HR5 := Lib.hid (hr.row eSmp)
                 have HB5 := Lib.hid (bthen HB3.out (bthen hb4 hb))
                 clear hr hb hb4)
              | (go_at_call 143
                 refine (sEqual_any _ _ l m w6 HR56.out HR6.out HL.out.1 HL.out.2.1).mono ?_
                 rw [HSE.out]
                 rintro e w7 ⟨rfl, hb⟩
                 have HB7 := Lib.hid (bthen HB6.out hb)
                 clear hb)
              | (go_at_call 76
                 have h9 := HB8
                 refine (A2.out w8 HB8.out).mono ?_
                 rintro e w9 ⟨A9, c9, f9, rfl, hr, _, hb⟩
                 have HR9 := Lib.hid (hr.row eAdv)
                 have HR89 := Lib.hid (HR8.out.below hb)
                 have HB9 := Lib.hid (bthen HB8.out hb)
                 clear hr hb h9)
              | (go_at_call 76
                 refine (A1.out w7 HB7.out).mono ?_
                 rintro e w8 ⟨A8, c8, f8, rfl, hr, _, hb⟩
                 have HR8 := Lib.hid (hr.row eAdv)
                 have HB8 := Lib.hid (bthen HB7.out hb)
                 clear hr hb)
              | (go_at_call 144
                 refine (aEqual_any _ _ l2 m2 w9 HR89.out HR9.out HL.out.2.2.1 HL.out.2.2.2).mono ?_
                 rw [HAE.out]
                 rintro e w10 ⟨rfl, hb⟩
                 have HB10 := Lib.hid (bthen HB9.out hb)
                 clear hb))
            go_ret
            exact ⟨by rw [HRES.out]; rfl, HB10.out⟩
    · have HRES := Lib.hid (show (decide (b = b) && decide (p = q) && decide (l = m) && decide (l2 = m2)) = false by simp [hp])
      rcases pol_ne hp with hne | hne | hne | hne | hne | hne
      · as_aux_lemma =>
          have hq : (p.mn == q.mn) = false := by simpa using hne
          clear hne hp
          go_enter Tryz.func79, Tryz.ntmps79
          go_wp2_with (first
            | (go_at_call 73
               have h9 := HB1
               refine calls_named ?_
               intro W2 hW2
               have hb2 : Below w1.heap.size w1 W2 := by rw [hW2]; exact balloc (Below.refl _ _) _
               have hx2 : W2.heap[w1.heap.size]? = some (.cells #[.int .i64 p.mn, .int .i64 p.mx, .int .i64 p.tg, .int .i64 p.tol, .int .i64 p.win, .int .i64 p.hold] 44 (0, 0)) := by rw [hW2]; exact heap_alloc_new _ _
               clear hW2 h9
               refine (P2.out W2 (bthen HB1.out hb2)).mono ?_
               rintro e w3 ⟨rfl, hb3⟩
               obtain ⟨a1, a2, a3⟩ := box_cells hb3 hx2
               have HB3 := Lib.hid (bthen HB1.out (bthen hb2 hb3))
               clear hb2 hx2 hb3)
            | (go_at_call 73
               refine (P1.out w (Below.refl _ _)).mono ?_
               rintro e w1 ⟨rfl, hb1⟩
               have HB1 := Lib.hid hb1
               clear hb1)
            | (go_at_call 71
               have h9 := HB5
               refine (S2.out w5 HB5.out).mono ?_
               rintro e w6 ⟨A6, c6, f6, rfl, hr, _, hb⟩
               have HR6 := Lib.hid (hr.row eSmp)
               have HR56 := Lib.hid (HR5.out.below hb)
               have HB6 := Lib.hid (bthen HB5.out hb)
               clear hr hb h9)
            | (go_at_call 71
               refine calls_named ?_
               intro W4 hW4
               have hb4 : Below w3.heap.size w3 W4 := by rw [hW4]; exact balloc (Below.refl _ _) _
               clear hW4
               refine (S1.out W4 (bthen HB3.out hb4)).mono ?_
               rintro e w5 ⟨A5, c5, f5, rfl, hr, _, hb⟩
               have HR5 := Lib.hid (hr.row eSmp)
               have HB5 := Lib.hid (bthen HB3.out (bthen hb4 hb))
               clear hr hb hb4)
            | (go_at_call 143
               refine (sEqual_any _ _ l m w6 HR56.out HR6.out HL.out.1 HL.out.2.1).mono ?_
               rw [HSE.out]
               rintro e w7 ⟨rfl, hb⟩
               have HB7 := Lib.hid (bthen HB6.out hb)
               clear hb)
            | (go_at_call 76
               have h9 := HB8
               refine (A2.out w8 HB8.out).mono ?_
               rintro e w9 ⟨A9, c9, f9, rfl, hr, _, hb⟩
               have HR9 := Lib.hid (hr.row eAdv)
               have HR89 := Lib.hid (HR8.out.below hb)
               have HB9 := Lib.hid (bthen HB8.out hb)
               clear hr hb h9)
            | (go_at_call 76
               refine (A1.out w7 HB7.out).mono ?_
               rintro e w8 ⟨A8, c8, f8, rfl, hr, _, hb⟩
               have HR8 := Lib.hid (hr.row eAdv)
               have HB8 := Lib.hid (bthen HB7.out hb)
               clear hr hb)
            | (go_at_call 144
               refine (aEqual_any _ _ l2 m2 w9 HR89.out HR9.out HL.out.2.2.1 HL.out.2.2.2).mono ?_
               rw [HAE.out]
               rintro e w10 ⟨rfl, hb⟩
               have HB10 := Lib.hid (bthen HB9.out hb)
               clear hb))
          go_ret
          exact ⟨by rw [HRES.out]; rfl, bthen HB3.out (balloc (Below.refl _ _) _)⟩
      · as_aux_lemma =>
          have hq : (p.mx == q.mx) = false := by simpa using hne
          clear hne hp
          go_enter Tryz.func79, Tryz.ntmps79
          go_wp2_with (first
            | (go_at_call 73
               have h9 := HB1
               refine calls_named ?_
               intro W2 hW2
               have hb2 : Below w1.heap.size w1 W2 := by rw [hW2]; exact balloc (Below.refl _ _) _
               have hx2 : W2.heap[w1.heap.size]? = some (.cells #[.int .i64 p.mn, .int .i64 p.mx, .int .i64 p.tg, .int .i64 p.tol, .int .i64 p.win, .int .i64 p.hold] 44 (0, 0)) := by rw [hW2]; exact heap_alloc_new _ _
               clear hW2 h9
               refine (P2.out W2 (bthen HB1.out hb2)).mono ?_
               rintro e w3 ⟨rfl, hb3⟩
               obtain ⟨a1, a2, a3⟩ := box_cells hb3 hx2
               have HB3 := Lib.hid (bthen HB1.out (bthen hb2 hb3))
               clear hb2 hx2 hb3)
            | (go_at_call 73
               refine (P1.out w (Below.refl _ _)).mono ?_
               rintro e w1 ⟨rfl, hb1⟩
               have HB1 := Lib.hid hb1
               clear hb1)
            | (go_at_call 71
               have h9 := HB5
               refine (S2.out w5 HB5.out).mono ?_
               rintro e w6 ⟨A6, c6, f6, rfl, hr, _, hb⟩
               have HR6 := Lib.hid (hr.row eSmp)
               have HR56 := Lib.hid (HR5.out.below hb)
               have HB6 := Lib.hid (bthen HB5.out hb)
               clear hr hb h9)
            | (go_at_call 71
               refine calls_named ?_
               intro W4 hW4
               have hb4 : Below w3.heap.size w3 W4 := by rw [hW4]; exact balloc (Below.refl _ _) _
               clear hW4
               refine (S1.out W4 (bthen HB3.out hb4)).mono ?_
               rintro e w5 ⟨A5, c5, f5, rfl, hr, _, hb⟩
               have HR5 := Lib.hid (hr.row eSmp)
               have HB5 := Lib.hid (bthen HB3.out (bthen hb4 hb))
               clear hr hb hb4)
            | (go_at_call 143
               refine (sEqual_any _ _ l m w6 HR56.out HR6.out HL.out.1 HL.out.2.1).mono ?_
               rw [HSE.out]
               rintro e w7 ⟨rfl, hb⟩
               have HB7 := Lib.hid (bthen HB6.out hb)
               clear hb)
            | (go_at_call 76
               have h9 := HB8
               refine (A2.out w8 HB8.out).mono ?_
               rintro e w9 ⟨A9, c9, f9, rfl, hr, _, hb⟩
               have HR9 := Lib.hid (hr.row eAdv)
               have HR89 := Lib.hid (HR8.out.below hb)
               have HB9 := Lib.hid (bthen HB8.out hb)
               clear hr hb h9)
            | (go_at_call 76
               refine (A1.out w7 HB7.out).mono ?_
               rintro e w8 ⟨A8, c8, f8, rfl, hr, _, hb⟩
               have HR8 := Lib.hid (hr.row eAdv)
               have HB8 := Lib.hid (bthen HB7.out hb)
               clear hr hb)
            | (go_at_call 144
               refine (aEqual_any _ _ l2 m2 w9 HR89.out HR9.out HL.out.2.2.1 HL.out.2.2.2).mono ?_
               rw [HAE.out]
               rintro e w10 ⟨rfl, hb⟩
               have HB10 := Lib.hid (bthen HB9.out hb)
               clear hb))
          go_ret
          exact ⟨by rw [HRES.out]; rfl, bthen HB3.out (balloc (Below.refl _ _) _)⟩
      · as_aux_lemma =>
          have hq : (p.tg == q.tg) = false := by simpa using hne
          clear hne hp
          go_enter Tryz.func79, Tryz.ntmps79
          go_wp2_with (first
            | (go_at_call 73
               have h9 := HB1
               refine calls_named ?_
               intro W2 hW2
               have hb2 : Below w1.heap.size w1 W2 := by rw [hW2]; exact balloc (Below.refl _ _) _
               have hx2 : W2.heap[w1.heap.size]? = some (.cells #[.int .i64 p.mn, .int .i64 p.mx, .int .i64 p.tg, .int .i64 p.tol, .int .i64 p.win, .int .i64 p.hold] 44 (0, 0)) := by rw [hW2]; exact heap_alloc_new _ _
               clear hW2 h9
               refine (P2.out W2 (bthen HB1.out hb2)).mono ?_
               rintro e w3 ⟨rfl, hb3⟩
               obtain ⟨a1, a2, a3⟩ := box_cells hb3 hx2
               have HB3 := Lib.hid (bthen HB1.out (bthen hb2 hb3))
               clear hb2 hx2 hb3)
            | (go_at_call 73
               refine (P1.out w (Below.refl _ _)).mono ?_
               rintro e w1 ⟨rfl, hb1⟩
               have HB1 := Lib.hid hb1
               clear hb1)
            | (go_at_call 71
               have h9 := HB5
               refine (S2.out w5 HB5.out).mono ?_
               rintro e w6 ⟨A6, c6, f6, rfl, hr, _, hb⟩
               have HR6 := Lib.hid (hr.row eSmp)
               have HR56 := Lib.hid (HR5.out.below hb)
               have HB6 := Lib.hid (bthen HB5.out hb)
               clear hr hb h9)
            | (go_at_call 71
               refine calls_named ?_
               intro W4 hW4
               have hb4 : Below w3.heap.size w3 W4 := by rw [hW4]; exact balloc (Below.refl _ _) _
               clear hW4
               refine (S1.out W4 (bthen HB3.out hb4)).mono ?_
               rintro e w5 ⟨A5, c5, f5, rfl, hr, _, hb⟩
               have HR5 := Lib.hid (hr.row eSmp)
               have HB5 := Lib.hid (bthen HB3.out (bthen hb4 hb))
               clear hr hb hb4)
            | (go_at_call 143
               refine (sEqual_any _ _ l m w6 HR56.out HR6.out HL.out.1 HL.out.2.1).mono ?_
               rw [HSE.out]
               rintro e w7 ⟨rfl, hb⟩
               have HB7 := Lib.hid (bthen HB6.out hb)
               clear hb)
            | (go_at_call 76
               have h9 := HB8
               refine (A2.out w8 HB8.out).mono ?_
               rintro e w9 ⟨A9, c9, f9, rfl, hr, _, hb⟩
               have HR9 := Lib.hid (hr.row eAdv)
               have HR89 := Lib.hid (HR8.out.below hb)
               have HB9 := Lib.hid (bthen HB8.out hb)
               clear hr hb h9)
            | (go_at_call 76
               refine (A1.out w7 HB7.out).mono ?_
               rintro e w8 ⟨A8, c8, f8, rfl, hr, _, hb⟩
               have HR8 := Lib.hid (hr.row eAdv)
               have HB8 := Lib.hid (bthen HB7.out hb)
               clear hr hb)
            | (go_at_call 144
               refine (aEqual_any _ _ l2 m2 w9 HR89.out HR9.out HL.out.2.2.1 HL.out.2.2.2).mono ?_
               rw [HAE.out]
               rintro e w10 ⟨rfl, hb⟩
               have HB10 := Lib.hid (bthen HB9.out hb)
               clear hb))
          go_ret
          exact ⟨by rw [HRES.out]; rfl, bthen HB3.out (balloc (Below.refl _ _) _)⟩
      · as_aux_lemma =>
          have hq : (p.tol == q.tol) = false := by simpa using hne
          clear hne hp
          go_enter Tryz.func79, Tryz.ntmps79
          go_wp2_with (first
            | (go_at_call 73
               have h9 := HB1
               refine calls_named ?_
               intro W2 hW2
               have hb2 : Below w1.heap.size w1 W2 := by rw [hW2]; exact balloc (Below.refl _ _) _
               have hx2 : W2.heap[w1.heap.size]? = some (.cells #[.int .i64 p.mn, .int .i64 p.mx, .int .i64 p.tg, .int .i64 p.tol, .int .i64 p.win, .int .i64 p.hold] 44 (0, 0)) := by rw [hW2]; exact heap_alloc_new _ _
               clear hW2 h9
               refine (P2.out W2 (bthen HB1.out hb2)).mono ?_
               rintro e w3 ⟨rfl, hb3⟩
               obtain ⟨a1, a2, a3⟩ := box_cells hb3 hx2
               have HB3 := Lib.hid (bthen HB1.out (bthen hb2 hb3))
               clear hb2 hx2 hb3)
            | (go_at_call 73
               refine (P1.out w (Below.refl _ _)).mono ?_
               rintro e w1 ⟨rfl, hb1⟩
               have HB1 := Lib.hid hb1
               clear hb1)
            | (go_at_call 71
               have h9 := HB5
               refine (S2.out w5 HB5.out).mono ?_
               rintro e w6 ⟨A6, c6, f6, rfl, hr, _, hb⟩
               have HR6 := Lib.hid (hr.row eSmp)
               have HR56 := Lib.hid (HR5.out.below hb)
               have HB6 := Lib.hid (bthen HB5.out hb)
               clear hr hb h9)
            | (go_at_call 71
               refine calls_named ?_
               intro W4 hW4
               have hb4 : Below w3.heap.size w3 W4 := by rw [hW4]; exact balloc (Below.refl _ _) _
               clear hW4
               refine (S1.out W4 (bthen HB3.out hb4)).mono ?_
               rintro e w5 ⟨A5, c5, f5, rfl, hr, _, hb⟩
               have HR5 := Lib.hid (hr.row eSmp)
               have HB5 := Lib.hid (bthen HB3.out (bthen hb4 hb))
               clear hr hb hb4)
            | (go_at_call 143
               refine (sEqual_any _ _ l m w6 HR56.out HR6.out HL.out.1 HL.out.2.1).mono ?_
               rw [HSE.out]
               rintro e w7 ⟨rfl, hb⟩
               have HB7 := Lib.hid (bthen HB6.out hb)
               clear hb)
            | (go_at_call 76
               have h9 := HB8
               refine (A2.out w8 HB8.out).mono ?_
               rintro e w9 ⟨A9, c9, f9, rfl, hr, _, hb⟩
               have HR9 := Lib.hid (hr.row eAdv)
               have HR89 := Lib.hid (HR8.out.below hb)
               have HB9 := Lib.hid (bthen HB8.out hb)
               clear hr hb h9)
            | (go_at_call 76
               refine (A1.out w7 HB7.out).mono ?_
               rintro e w8 ⟨A8, c8, f8, rfl, hr, _, hb⟩
               have HR8 := Lib.hid (hr.row eAdv)
               have HB8 := Lib.hid (bthen HB7.out hb)
               clear hr hb)
            | (go_at_call 144
               refine (aEqual_any _ _ l2 m2 w9 HR89.out HR9.out HL.out.2.2.1 HL.out.2.2.2).mono ?_
               rw [HAE.out]
               rintro e w10 ⟨rfl, hb⟩
               have HB10 := Lib.hid (bthen HB9.out hb)
               clear hb))
          go_ret
          exact ⟨by rw [HRES.out]; rfl, bthen HB3.out (balloc (Below.refl _ _) _)⟩
      · as_aux_lemma =>
          have hq : (p.win == q.win) = false := by simpa using hne
          clear hne hp
          go_enter Tryz.func79, Tryz.ntmps79
          go_wp2_with (first
            | (go_at_call 73
               have h9 := HB1
               refine calls_named ?_
               intro W2 hW2
               have hb2 : Below w1.heap.size w1 W2 := by rw [hW2]; exact balloc (Below.refl _ _) _
               have hx2 : W2.heap[w1.heap.size]? = some (.cells #[.int .i64 p.mn, .int .i64 p.mx, .int .i64 p.tg, .int .i64 p.tol, .int .i64 p.win, .int .i64 p.hold] 44 (0, 0)) := by rw [hW2]; exact heap_alloc_new _ _
               clear hW2 h9
               refine (P2.out W2 (bthen HB1.out hb2)).mono ?_
               rintro e w3 ⟨rfl, hb3⟩
               obtain ⟨a1, a2, a3⟩ := box_cells hb3 hx2
               have HB3 := Lib.hid (bthen HB1.out (bthen hb2 hb3))
               clear hb2 hx2 hb3)
            | (go_at_call 73
               refine (P1.out w (Below.refl _ _)).mono ?_
               rintro e w1 ⟨rfl, hb1⟩
               have HB1 := Lib.hid hb1
               clear hb1)
            | (go_at_call 71
               have h9 := HB5
               refine (S2.out w5 HB5.out).mono ?_
               rintro e w6 ⟨A6, c6, f6, rfl, hr, _, hb⟩
               have HR6 := Lib.hid (hr.row eSmp)
               have HR56 := Lib.hid (HR5.out.below hb)
               have HB6 := Lib.hid (bthen HB5.out hb)
               clear hr hb h9)
            | (go_at_call 71
               refine calls_named ?_
               intro W4 hW4
               have hb4 : Below w3.heap.size w3 W4 := by rw [hW4]; exact balloc (Below.refl _ _) _
               clear hW4
               refine (S1.out W4 (bthen HB3.out hb4)).mono ?_
               rintro e w5 ⟨A5, c5, f5, rfl, hr, _, hb⟩
               have HR5 := Lib.hid (hr.row eSmp)
               have HB5 := Lib.hid (bthen HB3.out (bthen hb4 hb))
               clear hr hb hb4)
            | (go_at_call 143
               refine (sEqual_any _ _ l m w6 HR56.out HR6.out HL.out.1 HL.out.2.1).mono ?_
               rw [HSE.out]
               rintro e w7 ⟨rfl, hb⟩
               have HB7 := Lib.hid (bthen HB6.out hb)
               clear hb)
            | (go_at_call 76
               have h9 := HB8
               refine (A2.out w8 HB8.out).mono ?_
               rintro e w9 ⟨A9, c9, f9, rfl, hr, _, hb⟩
               have HR9 := Lib.hid (hr.row eAdv)
               have HR89 := Lib.hid (HR8.out.below hb)
               have HB9 := Lib.hid (bthen HB8.out hb)
               clear hr hb h9)
            | (go_at_call 76
               refine (A1.out w7 HB7.out).mono ?_
               rintro e w8 ⟨A8, c8, f8, rfl, hr, _, hb⟩
               have HR8 := Lib.hid (hr.row eAdv)
               have HB8 := Lib.hid (bthen HB7.out hb)
               clear hr hb)
            | (go_at_call 144
               refine (aEqual_any _ _ l2 m2 w9 HR89.out HR9.out HL.out.2.2.1 HL.out.2.2.2).mono ?_
               rw [HAE.out]
               rintro e w10 ⟨rfl, hb⟩
               have HB10 := Lib.hid (bthen HB9.out hb)
               clear hb))
          go_ret
          exact ⟨by rw [HRES.out]; rfl, bthen HB3.out (balloc (Below.refl _ _) _)⟩
      · as_aux_lemma =>
          have hq : (p.hold == q.hold) = false := by simpa using hne
          clear hne hp
          go_enter Tryz.func79, Tryz.ntmps79
          go_wp2_with (first
            | (go_at_call 73
               have h9 := HB1
               refine calls_named ?_
               intro W2 hW2
               have hb2 : Below w1.heap.size w1 W2 := by rw [hW2]; exact balloc (Below.refl _ _) _
               have hx2 : W2.heap[w1.heap.size]? = some (.cells #[.int .i64 p.mn, .int .i64 p.mx, .int .i64 p.tg, .int .i64 p.tol, .int .i64 p.win, .int .i64 p.hold] 44 (0, 0)) := by rw [hW2]; exact heap_alloc_new _ _
               clear hW2 h9
               refine (P2.out W2 (bthen HB1.out hb2)).mono ?_
               rintro e w3 ⟨rfl, hb3⟩
               obtain ⟨a1, a2, a3⟩ := box_cells hb3 hx2
               have HB3 := Lib.hid (bthen HB1.out (bthen hb2 hb3))
               clear hb2 hx2 hb3)
            | (go_at_call 73
               refine (P1.out w (Below.refl _ _)).mono ?_
               rintro e w1 ⟨rfl, hb1⟩
               have HB1 := Lib.hid hb1
               clear hb1)
            | (go_at_call 71
               have h9 := HB5
               refine (S2.out w5 HB5.out).mono ?_
               rintro e w6 ⟨A6, c6, f6, rfl, hr, _, hb⟩
               have HR6 := Lib.hid (hr.row eSmp)
               have HR56 := Lib.hid (HR5.out.below hb)
               have HB6 := Lib.hid (bthen HB5.out hb)
               clear hr hb h9)
            | (go_at_call 71
               refine calls_named ?_
               intro W4 hW4
               have hb4 : Below w3.heap.size w3 W4 := by rw [hW4]; exact balloc (Below.refl _ _) _
               clear hW4
               refine (S1.out W4 (bthen HB3.out hb4)).mono ?_
               rintro e w5 ⟨A5, c5, f5, rfl, hr, _, hb⟩
               have HR5 := Lib.hid (hr.row eSmp)
               have HB5 := Lib.hid (bthen HB3.out (bthen hb4 hb))
               clear hr hb hb4)
            | (go_at_call 143
               refine (sEqual_any _ _ l m w6 HR56.out HR6.out HL.out.1 HL.out.2.1).mono ?_
               rw [HSE.out]
               rintro e w7 ⟨rfl, hb⟩
               have HB7 := Lib.hid (bthen HB6.out hb)
               clear hb)
            | (go_at_call 76
               have h9 := HB8
               refine (A2.out w8 HB8.out).mono ?_
               rintro e w9 ⟨A9, c9, f9, rfl, hr, _, hb⟩
               have HR9 := Lib.hid (hr.row eAdv)
               have HR89 := Lib.hid (HR8.out.below hb)
               have HB9 := Lib.hid (bthen HB8.out hb)
               clear hr hb h9)
            | (go_at_call 76
               refine (A1.out w7 HB7.out).mono ?_
               rintro e w8 ⟨A8, c8, f8, rfl, hr, _, hb⟩
               have HR8 := Lib.hid (hr.row eAdv)
               have HB8 := Lib.hid (bthen HB7.out hb)
               clear hr hb)
            | (go_at_call 144
               refine (aEqual_any _ _ l2 m2 w9 HR89.out HR9.out HL.out.2.2.1 HL.out.2.2.2).mono ?_
               rw [HAE.out]
               rintro e w10 ⟨rfl, hb⟩
               have HB10 := Lib.hid (bthen HB9.out hb)
               clear hb))
          go_ret
          exact ⟨by rw [HRES.out]; rfl, bthen HB3.out (balloc (Below.refl _ _) _)⟩
  · have HRES := Lib.hid (show (decide (b = d) && decide (p = q) && decide (l = m) && decide (l2 = m2)) = false by simp [hb])
    have hq : (b == d) = false := by simpa using hb
    clear hb
    as_aux_lemma =>
      skip
      go_enter Tryz.func79, Tryz.ntmps79
      go_wp2_with (first
        | (go_at_call 73
           have h9 := HB1
           refine calls_named ?_
           intro W2 hW2
           have hb2 : Below w1.heap.size w1 W2 := by rw [hW2]; exact balloc (Below.refl _ _) _
           have hx2 : W2.heap[w1.heap.size]? = some (.cells #[.int .i64 p.mn, .int .i64 p.mx, .int .i64 p.tg, .int .i64 p.tol, .int .i64 p.win, .int .i64 p.hold] 44 (0, 0)) := by rw [hW2]; exact heap_alloc_new _ _
           clear hW2 h9
           refine (P2.out W2 (bthen HB1.out hb2)).mono ?_
           rintro e w3 ⟨rfl, hb3⟩
           obtain ⟨a1, a2, a3⟩ := box_cells hb3 hx2
           have HB3 := Lib.hid (bthen HB1.out (bthen hb2 hb3))
           clear hb2 hx2 hb3)
        | (go_at_call 73
           refine (P1.out w (Below.refl _ _)).mono ?_
           rintro e w1 ⟨rfl, hb1⟩
           have HB1 := Lib.hid hb1
           clear hb1)
        | (go_at_call 71
           have h9 := HB5
           refine (S2.out w5 HB5.out).mono ?_
           rintro e w6 ⟨A6, c6, f6, rfl, hr, _, hb⟩
           have HR6 := Lib.hid (hr.row eSmp)
           have HR56 := Lib.hid (HR5.out.below hb)
           have HB6 := Lib.hid (bthen HB5.out hb)
           clear hr hb h9)
        | (go_at_call 71
           refine calls_named ?_
           intro W4 hW4
           have hb4 : Below w3.heap.size w3 W4 := by rw [hW4]; exact balloc (Below.refl _ _) _
           clear hW4
           refine (S1.out W4 (bthen HB3.out hb4)).mono ?_
           rintro e w5 ⟨A5, c5, f5, rfl, hr, _, hb⟩
           have HR5 := Lib.hid (hr.row eSmp)
           have HB5 := Lib.hid (bthen HB3.out (bthen hb4 hb))
           clear hr hb hb4)
        | (go_at_call 143
           refine (sEqual_any _ _ l m w6 HR56.out HR6.out HL.out.1 HL.out.2.1).mono ?_
           rw [HSE.out]
           rintro e w7 ⟨rfl, hb⟩
           have HB7 := Lib.hid (bthen HB6.out hb)
           clear hb)
        | (go_at_call 76
           have h9 := HB8
           refine (A2.out w8 HB8.out).mono ?_
           rintro e w9 ⟨A9, c9, f9, rfl, hr, _, hb⟩
           have HR9 := Lib.hid (hr.row eAdv)
           have HR89 := Lib.hid (HR8.out.below hb)
           have HB9 := Lib.hid (bthen HB8.out hb)
           clear hr hb h9)
        | (go_at_call 76
           refine (A1.out w7 HB7.out).mono ?_
           rintro e w8 ⟨A8, c8, f8, rfl, hr, _, hb⟩
           have HR8 := Lib.hid (hr.row eAdv)
           have HB8 := Lib.hid (bthen HB7.out hb)
           clear hr hb)
        | (go_at_call 144
           refine (aEqual_any _ _ l2 m2 w9 HR89.out HR9.out HL.out.2.2.1 HL.out.2.2.2).mono ?_
           rw [HAE.out]
           rintro e w10 ⟨rfl, hb⟩
           have HB10 := Lib.hid (bthen HB9.out hb)
           clear hb))
      go_ret
      exact ⟨by rw [HRES.out]; rfl, bthen HB3.out (balloc (Below.refl _ _) _)⟩

def alikeN (x y : Nd) : Bool := decide (x.ruled = y.ruled) && decide (x.pol = y.pol) && decide (x.smp = y.smp) && decide (x.past = y.past)
theorem alike_any (N1 N2 : Nat) (x y : Nd) (rs rh rs2 rh2 : Nat) (fp fp2 : List Nat) (w : World) (h1 : NodeIn w N1 x rs rh fp) (h2 : NodeIn w N2 y rs2 rh2 fp2) (b1 : rs ≤ 256) (b2 : rh ≤ 64) (b3 : rs2 ≤ 256) (b4 : rh2 ≤ 64)
    (hl : x.smp.length ≤ 1000000 ∧ y.smp.length ≤ 1000000 ∧ x.past.length ≤ 1000000 ∧ y.past.length ≤ 1000000) :
    Calls Tryz.prog 79 #[.pointer (some ⟨N1, 0, none⟩), .pointer (some ⟨N2, 0, none⟩)] w fun e w' => e = .returned (.bool (alikeN x y)) ∧ Below w.heap.size w w' :=
  alike_core N1 N2 x.pol y.pol x.ruled y.ruled x.smp y.smp x.past y.past w (Lib.hid fun W hW => nodePolicy_any N1 x rs rh fp W (h1.below hW)) (Lib.hid fun W hW => nodePolicy_any N2 y rs2 rh2 fp2 W (h2.below hW))
    (Lib.hid fun W hW => nodeSamples_any N1 x rs rh fp W (h1.below hW) b1) (Lib.hid fun W hW => nodeSamples_any N2 y rs2 rh2 fp2 W (h2.below hW) b3) (Lib.hid fun W hW => nodePast_any N1 x rs rh fp W (h1.below hW) b2) (Lib.hid fun W hW => nodePast_any N2 y rs2 rh2 fp2 W (h2.below hW) b4) (Lib.hid hl)

theorem heap_alloc_new2 (w : World) (o o2 : Obj) : ((w.alloc o).alloc o2).heap[w.heap.size + 1]? = some o2 := by
  have := heap_alloc_new (w.alloc o) o2
  simpa using this
set_option maxRecDepth 100000 in
set_option maxHeartbeats 8000000 in
theorem ralike_core (p q : Pol) (b d : Bool) (l m : List Smp) (l2 m2 : List Adv) (sA sB pA pB : Option Addr) (sc sd pc pd : Nat) (v1 v2 : Int) (w : World)
    (HR1 : Hid (RowIn 2 smpC w (.slice sA l.length sc) l)) (HR2 : Hid (RowIn 2 smpC w (.slice sB m.length sd) m)) (HA1 : Hid (RowIn 5 advC w (.slice pA l2.length pc) l2)) (HA2 : Hid (RowIn 5 advC w (.slice pB m2.length pd) m2))
    (HL : Hid (l.length ≤ 1000000 ∧ m.length ≤ 1000000 ∧ l2.length ≤ 1000000 ∧ m2.length ≤ 1000000)) :
    Calls Tryz.prog 27 #[.agg #[.slice sA l.length sc, .slice pA l2.length pc, .int .i64 p.mn, .int .i64 p.mx, .int .i64 p.tg, .int .i64 p.tol, .int .i64 p.win, .int .i64 p.hold, .bool b, .int .i64 v1], .agg #[.slice sB m.length sd, .slice pB m2.length pd, .int .i64 q.mn, .int .i64 q.mx, .int .i64 q.tg, .int .i64 q.tol, .int .i64 q.win, .int .i64 q.hold, .bool d, .int .i64 v2]] w fun e w' => e = .returned (.bool (decide (b = d) && decide (p = q) && decide (l = m) && decide (l2 = m2))) ∧ Below w.heap.size w w' := by
  cases hs : decide (l = m) with
  | false =>
    as_aux_lemma =>
      have HSE := Lib.hid hs
      have HRES := Lib.hid (show (decide (b = d) && decide (p = q) && false && decide (l2 = m2)) = false by simp)
      clear hs
      go_enter Tryz.func27, Tryz.ntmps27
      go_wp2_with (first
        | (go_at_call 74
           refine calls_named ?_
           intro W1 hW1
           have hb1 : Below w.heap.size w W1 := by rw [hW1]; exact balloc (balloc (Below.refl _ _) _) _
           have hx1 : W1.heap[w.heap.size]? = some (.cells #[.slice sA l.length sc, .slice pA l2.length pc, .int .i64 p.mn, .int .i64 p.mx, .int .i64 p.tg, .int .i64 p.tol, .int .i64 p.win, .int .i64 p.hold, .bool b, .int .i64 v1] 68 (0, 0)) := by rw [hW1]; exact (Below.heap_alloc _ _ _ (by simp)).trans (heap_alloc_new _ _)
           have hx2 : W1.heap[w.heap.size + 1]? = some (.cells #[.slice sB m.length sd, .slice pB m2.length pd, .int .i64 q.mn, .int .i64 q.mx, .int .i64 q.tg, .int .i64 q.tol, .int .i64 q.win, .int .i64 q.hold, .bool d, .int .i64 v2] 68 (0, 0)) := by rw [hW1]; exact heap_alloc_new2 _ _ _
           clear hW1
           refine (r8eq_any _ _ l m W1 (HR1.out.below hb1) (HR2.out.below hb1) HL.out.1 HL.out.2.1).mono ?_
           rw [HSE.out]
           rintro e w2 ⟨rfl, hb2⟩
           obtain ⟨a1, a2, a3⟩ := box_cells hb2 hx1
           obtain ⟨a4, a5, a6⟩ := box_cells hb2 hx2
           have HX1 := Lib.hid ((hb2.block _ (Array.getElem?_eq_some_iff.1 hx1).1).trans hx1)
           have HX2 := Lib.hid ((hb2.block _ (Array.getElem?_eq_some_iff.1 hx2).1).trans hx2)
           have HB2 := Lib.hid (bthen hb1 hb2)
           clear hb1 hx1 hx2 hb2)
        | (go_at_call 75
           refine (r14eq_any _ _ l2 m2 w2 (HA1.out.below HB2.out) (HA2.out.below HB2.out) HL.out.2.2.1 HL.out.2.2.2).mono ?_
           rw [HAE.out]
           rintro e w3 ⟨rfl, hb3⟩
           obtain ⟨d1, d2, d3⟩ := box_cells hb3 HX1.out
           obtain ⟨d4, d5, d6⟩ := box_cells hb3 HX2.out
           have HB3 := Lib.hid (bthen HB2.out hb3)
           clear hb3))
      go_ret
      exact ⟨by rw [HRES.out]; rfl, HB2.out⟩
  | true =>
    have HSE := Lib.hid hs
    cases ha : decide (l2 = m2) with
    | false =>
      as_aux_lemma =>
        have HAE := Lib.hid ha
        have HRES := Lib.hid (show (decide (b = d) && decide (p = q) && true && false) = false by simp)
        clear hs ha
        go_enter Tryz.func27, Tryz.ntmps27
        go_wp2_with (first
          | (go_at_call 74
             refine calls_named ?_
             intro W1 hW1
             have hb1 : Below w.heap.size w W1 := by rw [hW1]; exact balloc (balloc (Below.refl _ _) _) _
             have hx1 : W1.heap[w.heap.size]? = some (.cells #[.slice sA l.length sc, .slice pA l2.length pc, .int .i64 p.mn, .int .i64 p.mx, .int .i64 p.tg, .int .i64 p.tol, .int .i64 p.win, .int .i64 p.hold, .bool b, .int .i64 v1] 68 (0, 0)) := by rw [hW1]; exact (Below.heap_alloc _ _ _ (by simp)).trans (heap_alloc_new _ _)
             have hx2 : W1.heap[w.heap.size + 1]? = some (.cells #[.slice sB m.length sd, .slice pB m2.length pd, .int .i64 q.mn, .int .i64 q.mx, .int .i64 q.tg, .int .i64 q.tol, .int .i64 q.win, .int .i64 q.hold, .bool d, .int .i64 v2] 68 (0, 0)) := by rw [hW1]; exact heap_alloc_new2 _ _ _
             clear hW1
             refine (r8eq_any _ _ l m W1 (HR1.out.below hb1) (HR2.out.below hb1) HL.out.1 HL.out.2.1).mono ?_
             rw [HSE.out]
             rintro e w2 ⟨rfl, hb2⟩
             obtain ⟨a1, a2, a3⟩ := box_cells hb2 hx1
             obtain ⟨a4, a5, a6⟩ := box_cells hb2 hx2
             have HX1 := Lib.hid ((hb2.block _ (Array.getElem?_eq_some_iff.1 hx1).1).trans hx1)
             have HX2 := Lib.hid ((hb2.block _ (Array.getElem?_eq_some_iff.1 hx2).1).trans hx2)
             have HB2 := Lib.hid (bthen hb1 hb2)
             clear hb1 hx1 hx2 hb2)
          | (go_at_call 75
             refine (r14eq_any _ _ l2 m2 w2 (HA1.out.below HB2.out) (HA2.out.below HB2.out) HL.out.2.2.1 HL.out.2.2.2).mono ?_
             rw [HAE.out]
             rintro e w3 ⟨rfl, hb3⟩
             obtain ⟨d1, d2, d3⟩ := box_cells hb3 HX1.out
             obtain ⟨d4, d5, d6⟩ := box_cells hb3 HX2.out
             have HB3 := Lib.hid (bthen HB2.out hb3)
             clear hb3))
        go_ret
        exact ⟨by rw [HRES.out]; rfl, HB3.out⟩
    | true =>
      have HAE := Lib.hid ha
      clear hs ha
      by_cases hp : p = q
      · subst hp
        by_cases hb : b = d
        · subst hb
          as_aux_lemma =>
            have HRES := Lib.hid (show (decide (b = b) && decide (p = p) && true && true) = true by simp)
            go_enter Tryz.func27, Tryz.ntmps27
            go_wp2_with (first
              | (go_at_call 74
                 refine calls_named ?_
                 intro W1 hW1
                 have hb1 : Below w.heap.size w W1 := by rw [hW1]; exact balloc (balloc (Below.refl _ _) _) _
                 have hx1 : W1.heap[w.heap.size]? = some (.cells #[.slice sA l.length sc, .slice pA l2.length pc, .int .i64 p.mn, .int .i64 p.mx, .int .i64 p.tg, .int .i64 p.tol, .int .i64 p.win, .int .i64 p.hold, .bool b, .int .i64 v1] 68 (0, 0)) := by rw [hW1]; exact (Below.heap_alloc _ _ _ (by simp)).trans (heap_alloc_new _ _)
                 have hx2 : W1.heap[w.heap.size + 1]? = some (.cells #[.slice sB m.length sd, .slice pB m2.length pd, .int .i64 p.mn, .int .i64 p.mx, .int .i64 p.tg, .int .i64 p.tol, .int .i64 p.win, .int .i64 p.hold, .bool b, .int .i64 v2] 68 (0, 0)) := by rw [hW1]; exact heap_alloc_new2 _ _ _
                 clear hW1
                 refine (r8eq_any _ _ l m W1 (HR1.out.below hb1) (HR2.out.below hb1) HL.out.1 HL.out.2.1).mono ?_
                 rw [HSE.out]
                 rintro e w2 ⟨rfl, hb2⟩
                 obtain ⟨a1, a2, a3⟩ := box_cells hb2 hx1
                 obtain ⟨a4, a5, a6⟩ := box_cells hb2 hx2
                 have HX1 := Lib.hid ((hb2.block _ (Array.getElem?_eq_some_iff.1 hx1).1).trans hx1)
                 have HX2 := Lib.hid ((hb2.block _ (Array.getElem?_eq_some_iff.1 hx2).1).trans hx2)
                 have HB2 := Lib.hid (bthen hb1 hb2)
                 clear hb1 hx1 hx2 hb2)
              | (go_at_call 75
                 refine (r14eq_any _ _ l2 m2 w2 (HA1.out.below HB2.out) (HA2.out.below HB2.out) HL.out.2.2.1 HL.out.2.2.2).mono ?_
                 rw [HAE.out]
                 rintro e w3 ⟨rfl, hb3⟩
                 obtain ⟨d1, d2, d3⟩ := box_cells hb3 HX1.out
                 obtain ⟨d4, d5, d6⟩ := box_cells hb3 HX2.out
                 have HB3 := Lib.hid (bthen HB2.out hb3)
                 clear hb3))
            go_ret
            exact ⟨by rw [HRES.out]; rfl, HB3.out⟩
        · have HRES := Lib.hid (show (decide (b = d) && decide (p = p) && true && true) = false by simp [hb])
          have hq : (b == d) = false := by simpa using hb
          clear hb
          as_aux_lemma =>
            skip
            go_enter Tryz.func27, Tryz.ntmps27
            go_wp2_with (first
              | (go_at_call 74
                 refine calls_named ?_
                 intro W1 hW1
                 have hb1 : Below w.heap.size w W1 := by rw [hW1]; exact balloc (balloc (Below.refl _ _) _) _
                 have hx1 : W1.heap[w.heap.size]? = some (.cells #[.slice sA l.length sc, .slice pA l2.length pc, .int .i64 p.mn, .int .i64 p.mx, .int .i64 p.tg, .int .i64 p.tol, .int .i64 p.win, .int .i64 p.hold, .bool b, .int .i64 v1] 68 (0, 0)) := by rw [hW1]; exact (Below.heap_alloc _ _ _ (by simp)).trans (heap_alloc_new _ _)
                 have hx2 : W1.heap[w.heap.size + 1]? = some (.cells #[.slice sB m.length sd, .slice pB m2.length pd, .int .i64 p.mn, .int .i64 p.mx, .int .i64 p.tg, .int .i64 p.tol, .int .i64 p.win, .int .i64 p.hold, .bool d, .int .i64 v2] 68 (0, 0)) := by rw [hW1]; exact heap_alloc_new2 _ _ _
                 clear hW1
                 refine (r8eq_any _ _ l m W1 (HR1.out.below hb1) (HR2.out.below hb1) HL.out.1 HL.out.2.1).mono ?_
                 rw [HSE.out]
                 rintro e w2 ⟨rfl, hb2⟩
                 obtain ⟨a1, a2, a3⟩ := box_cells hb2 hx1
                 obtain ⟨a4, a5, a6⟩ := box_cells hb2 hx2
                 have HX1 := Lib.hid ((hb2.block _ (Array.getElem?_eq_some_iff.1 hx1).1).trans hx1)
                 have HX2 := Lib.hid ((hb2.block _ (Array.getElem?_eq_some_iff.1 hx2).1).trans hx2)
                 have HB2 := Lib.hid (bthen hb1 hb2)
                 clear hb1 hx1 hx2 hb2)
              | (go_at_call 75
                 refine (r14eq_any _ _ l2 m2 w2 (HA1.out.below HB2.out) (HA2.out.below HB2.out) HL.out.2.2.1 HL.out.2.2.2).mono ?_
                 rw [HAE.out]
                 rintro e w3 ⟨rfl, hb3⟩
                 obtain ⟨d1, d2, d3⟩ := box_cells hb3 HX1.out
                 obtain ⟨d4, d5, d6⟩ := box_cells hb3 HX2.out
                 have HB3 := Lib.hid (bthen HB2.out hb3)
                 clear hb3))
            go_ret
            exact ⟨by rw [HRES.out]; rfl, HB3.out⟩
      · have HRES := Lib.hid (show (decide (b = d) && decide (p = q) && true && true) = false by simp [hp])
        rcases pol_ne hp with hne | hne | hne | hne | hne | hne
        · as_aux_lemma =>
            have hq : (p.mn == q.mn) = false := by simpa using hne
            clear hne hp
            go_enter Tryz.func27, Tryz.ntmps27
            go_wp2_with (first
              | (go_at_call 74
                 refine calls_named ?_
                 intro W1 hW1
                 have hb1 : Below w.heap.size w W1 := by rw [hW1]; exact balloc (balloc (Below.refl _ _) _) _
                 have hx1 : W1.heap[w.heap.size]? = some (.cells #[.slice sA l.length sc, .slice pA l2.length pc, .int .i64 p.mn, .int .i64 p.mx, .int .i64 p.tg, .int .i64 p.tol, .int .i64 p.win, .int .i64 p.hold, .bool b, .int .i64 v1] 68 (0, 0)) := by rw [hW1]; exact (Below.heap_alloc _ _ _ (by simp)).trans (heap_alloc_new _ _)
                 have hx2 : W1.heap[w.heap.size + 1]? = some (.cells #[.slice sB m.length sd, .slice pB m2.length pd, .int .i64 q.mn, .int .i64 q.mx, .int .i64 q.tg, .int .i64 q.tol, .int .i64 q.win, .int .i64 q.hold, .bool d, .int .i64 v2] 68 (0, 0)) := by rw [hW1]; exact heap_alloc_new2 _ _ _
                 clear hW1
                 refine (r8eq_any _ _ l m W1 (HR1.out.below hb1) (HR2.out.below hb1) HL.out.1 HL.out.2.1).mono ?_
                 rw [HSE.out]
                 rintro e w2 ⟨rfl, hb2⟩
                 obtain ⟨a1, a2, a3⟩ := box_cells hb2 hx1
                 obtain ⟨a4, a5, a6⟩ := box_cells hb2 hx2
                 have HX1 := Lib.hid ((hb2.block _ (Array.getElem?_eq_some_iff.1 hx1).1).trans hx1)
                 have HX2 := Lib.hid ((hb2.block _ (Array.getElem?_eq_some_iff.1 hx2).1).trans hx2)
                 have HB2 := Lib.hid (bthen hb1 hb2)
                 clear hb1 hx1 hx2 hb2)
              | (go_at_call 75
                 refine (r14eq_any _ _ l2 m2 w2 (HA1.out.below HB2.out) (HA2.out.below HB2.out) HL.out.2.2.1 HL.out.2.2.2).mono ?_
                 rw [HAE.out]
                 rintro e w3 ⟨rfl, hb3⟩
                 obtain ⟨d1, d2, d3⟩ := box_cells hb3 HX1.out
                 obtain ⟨d4, d5, d6⟩ := box_cells hb3 HX2.out
                 have HB3 := Lib.hid (bthen HB2.out hb3)
                 clear hb3))
            go_ret
            exact ⟨by rw [HRES.out]; rfl, HB3.out⟩
        · as_aux_lemma =>
            have hq : (p.mx == q.mx) = false := by simpa using hne
            clear hne hp
            go_enter Tryz.func27, Tryz.ntmps27
            go_wp2_with (first
              | (go_at_call 74
                 refine calls_named ?_
                 intro W1 hW1
                 have hb1 : Below w.heap.size w W1 := by rw [hW1]; exact balloc (balloc (Below.refl _ _) _) _
                 have hx1 : W1.heap[w.heap.size]? = some (.cells #[.slice sA l.length sc, .slice pA l2.length pc, .int .i64 p.mn, .int .i64 p.mx, .int .i64 p.tg, .int .i64 p.tol, .int .i64 p.win, .int .i64 p.hold, .bool b, .int .i64 v1] 68 (0, 0)) := by rw [hW1]; exact (Below.heap_alloc _ _ _ (by simp)).trans (heap_alloc_new _ _)
                 have hx2 : W1.heap[w.heap.size + 1]? = some (.cells #[.slice sB m.length sd, .slice pB m2.length pd, .int .i64 q.mn, .int .i64 q.mx, .int .i64 q.tg, .int .i64 q.tol, .int .i64 q.win, .int .i64 q.hold, .bool d, .int .i64 v2] 68 (0, 0)) := by rw [hW1]; exact heap_alloc_new2 _ _ _
                 clear hW1
                 refine (r8eq_any _ _ l m W1 (HR1.out.below hb1) (HR2.out.below hb1) HL.out.1 HL.out.2.1).mono ?_
                 rw [HSE.out]
                 rintro e w2 ⟨rfl, hb2⟩
                 obtain ⟨a1, a2, a3⟩ := box_cells hb2 hx1
                 obtain ⟨a4, a5, a6⟩ := box_cells hb2 hx2
                 have HX1 := Lib.hid ((hb2.block _ (Array.getElem?_eq_some_iff.1 hx1).1).trans hx1)
                 have HX2 := Lib.hid ((hb2.block _ (Array.getElem?_eq_some_iff.1 hx2).1).trans hx2)
                 have HB2 := Lib.hid (bthen hb1 hb2)
                 clear hb1 hx1 hx2 hb2)
              | (go_at_call 75
                 refine (r14eq_any _ _ l2 m2 w2 (HA1.out.below HB2.out) (HA2.out.below HB2.out) HL.out.2.2.1 HL.out.2.2.2).mono ?_
                 rw [HAE.out]
                 rintro e w3 ⟨rfl, hb3⟩
                 obtain ⟨d1, d2, d3⟩ := box_cells hb3 HX1.out
                 obtain ⟨d4, d5, d6⟩ := box_cells hb3 HX2.out
                 have HB3 := Lib.hid (bthen HB2.out hb3)
                 clear hb3))
            go_ret
            exact ⟨by rw [HRES.out]; rfl, HB3.out⟩
        · as_aux_lemma =>
            have hq : (p.tg == q.tg) = false := by simpa using hne
            clear hne hp
            go_enter Tryz.func27, Tryz.ntmps27
            go_wp2_with (first
              | (go_at_call 74
                 refine calls_named ?_
                 intro W1 hW1
                 have hb1 : Below w.heap.size w W1 := by rw [hW1]; exact balloc (balloc (Below.refl _ _) _) _
                 have hx1 : W1.heap[w.heap.size]? = some (.cells #[.slice sA l.length sc, .slice pA l2.length pc, .int .i64 p.mn, .int .i64 p.mx, .int .i64 p.tg, .int .i64 p.tol, .int .i64 p.win, .int .i64 p.hold, .bool b, .int .i64 v1] 68 (0, 0)) := by rw [hW1]; exact (Below.heap_alloc _ _ _ (by simp)).trans (heap_alloc_new _ _)
                 have hx2 : W1.heap[w.heap.size + 1]? = some (.cells #[.slice sB m.length sd, .slice pB m2.length pd, .int .i64 q.mn, .int .i64 q.mx, .int .i64 q.tg, .int .i64 q.tol, .int .i64 q.win, .int .i64 q.hold, .bool d, .int .i64 v2] 68 (0, 0)) := by rw [hW1]; exact heap_alloc_new2 _ _ _
                 clear hW1
                 refine (r8eq_any _ _ l m W1 (HR1.out.below hb1) (HR2.out.below hb1) HL.out.1 HL.out.2.1).mono ?_
                 rw [HSE.out]
                 rintro e w2 ⟨rfl, hb2⟩
                 obtain ⟨a1, a2, a3⟩ := box_cells hb2 hx1
                 obtain ⟨a4, a5, a6⟩ := box_cells hb2 hx2
                 have HX1 := Lib.hid ((hb2.block _ (Array.getElem?_eq_some_iff.1 hx1).1).trans hx1)
                 have HX2 := Lib.hid ((hb2.block _ (Array.getElem?_eq_some_iff.1 hx2).1).trans hx2)
                 have HB2 := Lib.hid (bthen hb1 hb2)
                 clear hb1 hx1 hx2 hb2)
              | (go_at_call 75
                 refine (r14eq_any _ _ l2 m2 w2 (HA1.out.below HB2.out) (HA2.out.below HB2.out) HL.out.2.2.1 HL.out.2.2.2).mono ?_
                 rw [HAE.out]
                 rintro e w3 ⟨rfl, hb3⟩
                 obtain ⟨d1, d2, d3⟩ := box_cells hb3 HX1.out
                 obtain ⟨d4, d5, d6⟩ := box_cells hb3 HX2.out
                 have HB3 := Lib.hid (bthen HB2.out hb3)
                 clear hb3))
            go_ret
            exact ⟨by rw [HRES.out]; rfl, HB3.out⟩
        · as_aux_lemma =>
            have hq : (p.tol == q.tol) = false := by simpa using hne
            clear hne hp
            go_enter Tryz.func27, Tryz.ntmps27
            go_wp2_with (first
              | (go_at_call 74
                 refine calls_named ?_
                 intro W1 hW1
                 have hb1 : Below w.heap.size w W1 := by rw [hW1]; exact balloc (balloc (Below.refl _ _) _) _
                 have hx1 : W1.heap[w.heap.size]? = some (.cells #[.slice sA l.length sc, .slice pA l2.length pc, .int .i64 p.mn, .int .i64 p.mx, .int .i64 p.tg, .int .i64 p.tol, .int .i64 p.win, .int .i64 p.hold, .bool b, .int .i64 v1] 68 (0, 0)) := by rw [hW1]; exact (Below.heap_alloc _ _ _ (by simp)).trans (heap_alloc_new _ _)
                 have hx2 : W1.heap[w.heap.size + 1]? = some (.cells #[.slice sB m.length sd, .slice pB m2.length pd, .int .i64 q.mn, .int .i64 q.mx, .int .i64 q.tg, .int .i64 q.tol, .int .i64 q.win, .int .i64 q.hold, .bool d, .int .i64 v2] 68 (0, 0)) := by rw [hW1]; exact heap_alloc_new2 _ _ _
                 clear hW1
                 refine (r8eq_any _ _ l m W1 (HR1.out.below hb1) (HR2.out.below hb1) HL.out.1 HL.out.2.1).mono ?_
                 rw [HSE.out]
                 rintro e w2 ⟨rfl, hb2⟩
                 obtain ⟨a1, a2, a3⟩ := box_cells hb2 hx1
                 obtain ⟨a4, a5, a6⟩ := box_cells hb2 hx2
                 have HX1 := Lib.hid ((hb2.block _ (Array.getElem?_eq_some_iff.1 hx1).1).trans hx1)
                 have HX2 := Lib.hid ((hb2.block _ (Array.getElem?_eq_some_iff.1 hx2).1).trans hx2)
                 have HB2 := Lib.hid (bthen hb1 hb2)
                 clear hb1 hx1 hx2 hb2)
              | (go_at_call 75
                 refine (r14eq_any _ _ l2 m2 w2 (HA1.out.below HB2.out) (HA2.out.below HB2.out) HL.out.2.2.1 HL.out.2.2.2).mono ?_
                 rw [HAE.out]
                 rintro e w3 ⟨rfl, hb3⟩
                 obtain ⟨d1, d2, d3⟩ := box_cells hb3 HX1.out
                 obtain ⟨d4, d5, d6⟩ := box_cells hb3 HX2.out
                 have HB3 := Lib.hid (bthen HB2.out hb3)
                 clear hb3))
            go_ret
            exact ⟨by rw [HRES.out]; rfl, HB3.out⟩
        · as_aux_lemma =>
            have hq : (p.win == q.win) = false := by simpa using hne
            clear hne hp
            go_enter Tryz.func27, Tryz.ntmps27
            go_wp2_with (first
              | (go_at_call 74
                 refine calls_named ?_
                 intro W1 hW1
                 have hb1 : Below w.heap.size w W1 := by rw [hW1]; exact balloc (balloc (Below.refl _ _) _) _
                 have hx1 : W1.heap[w.heap.size]? = some (.cells #[.slice sA l.length sc, .slice pA l2.length pc, .int .i64 p.mn, .int .i64 p.mx, .int .i64 p.tg, .int .i64 p.tol, .int .i64 p.win, .int .i64 p.hold, .bool b, .int .i64 v1] 68 (0, 0)) := by rw [hW1]; exact (Below.heap_alloc _ _ _ (by simp)).trans (heap_alloc_new _ _)
                 have hx2 : W1.heap[w.heap.size + 1]? = some (.cells #[.slice sB m.length sd, .slice pB m2.length pd, .int .i64 q.mn, .int .i64 q.mx, .int .i64 q.tg, .int .i64 q.tol, .int .i64 q.win, .int .i64 q.hold, .bool d, .int .i64 v2] 68 (0, 0)) := by rw [hW1]; exact heap_alloc_new2 _ _ _
                 clear hW1
                 refine (r8eq_any _ _ l m W1 (HR1.out.below hb1) (HR2.out.below hb1) HL.out.1 HL.out.2.1).mono ?_
                 rw [HSE.out]
                 rintro e w2 ⟨rfl, hb2⟩
                 obtain ⟨a1, a2, a3⟩ := box_cells hb2 hx1
                 obtain ⟨a4, a5, a6⟩ := box_cells hb2 hx2
                 have HX1 := Lib.hid ((hb2.block _ (Array.getElem?_eq_some_iff.1 hx1).1).trans hx1)
                 have HX2 := Lib.hid ((hb2.block _ (Array.getElem?_eq_some_iff.1 hx2).1).trans hx2)
                 have HB2 := Lib.hid (bthen hb1 hb2)
                 clear hb1 hx1 hx2 hb2)
              | (go_at_call 75
                 refine (r14eq_any _ _ l2 m2 w2 (HA1.out.below HB2.out) (HA2.out.below HB2.out) HL.out.2.2.1 HL.out.2.2.2).mono ?_
                 rw [HAE.out]
                 rintro e w3 ⟨rfl, hb3⟩
                 obtain ⟨d1, d2, d3⟩ := box_cells hb3 HX1.out
                 obtain ⟨d4, d5, d6⟩ := box_cells hb3 HX2.out
                 have HB3 := Lib.hid (bthen HB2.out hb3)
                 clear hb3))
            go_ret
            exact ⟨by rw [HRES.out]; rfl, HB3.out⟩
        · as_aux_lemma =>
            have hq : (p.hold == q.hold) = false := by simpa using hne
            clear hne hp
            go_enter Tryz.func27, Tryz.ntmps27
            go_wp2_with (first
              | (go_at_call 74
                 refine calls_named ?_
                 intro W1 hW1
                 have hb1 : Below w.heap.size w W1 := by rw [hW1]; exact balloc (balloc (Below.refl _ _) _) _
                 have hx1 : W1.heap[w.heap.size]? = some (.cells #[.slice sA l.length sc, .slice pA l2.length pc, .int .i64 p.mn, .int .i64 p.mx, .int .i64 p.tg, .int .i64 p.tol, .int .i64 p.win, .int .i64 p.hold, .bool b, .int .i64 v1] 68 (0, 0)) := by rw [hW1]; exact (Below.heap_alloc _ _ _ (by simp)).trans (heap_alloc_new _ _)
                 have hx2 : W1.heap[w.heap.size + 1]? = some (.cells #[.slice sB m.length sd, .slice pB m2.length pd, .int .i64 q.mn, .int .i64 q.mx, .int .i64 q.tg, .int .i64 q.tol, .int .i64 q.win, .int .i64 q.hold, .bool d, .int .i64 v2] 68 (0, 0)) := by rw [hW1]; exact heap_alloc_new2 _ _ _
                 clear hW1
                 refine (r8eq_any _ _ l m W1 (HR1.out.below hb1) (HR2.out.below hb1) HL.out.1 HL.out.2.1).mono ?_
                 rw [HSE.out]
                 rintro e w2 ⟨rfl, hb2⟩
                 obtain ⟨a1, a2, a3⟩ := box_cells hb2 hx1
                 obtain ⟨a4, a5, a6⟩ := box_cells hb2 hx2
                 have HX1 := Lib.hid ((hb2.block _ (Array.getElem?_eq_some_iff.1 hx1).1).trans hx1)
                 have HX2 := Lib.hid ((hb2.block _ (Array.getElem?_eq_some_iff.1 hx2).1).trans hx2)
                 have HB2 := Lib.hid (bthen hb1 hb2)
                 clear hb1 hx1 hx2 hb2)
              | (go_at_call 75
                 refine (r14eq_any _ _ l2 m2 w2 (HA1.out.below HB2.out) (HA2.out.below HB2.out) HL.out.2.2.1 HL.out.2.2.2).mono ?_
                 rw [HAE.out]
                 rintro e w3 ⟨rfl, hb3⟩
                 obtain ⟨d1, d2, d3⟩ := box_cells hb3 HX1.out
                 obtain ⟨d4, d5, d6⟩ := box_cells hb3 HX2.out
                 have HB3 := Lib.hid (bthen HB2.out hb3)
                 clear hb3))
            go_ret
            exact ⟨by rw [HRES.out]; rfl, HB3.out⟩

theorem ralike_any (P Q : Nat → Prop) (x y : It) (w : World) (h1 : LoadIn P w x) (h2 : LoadIn Q w y) (hl : x.nd.smp.length ≤ 1000000 ∧ y.nd.smp.length ≤ 1000000 ∧ x.nd.past.length ≤ 1000000 ∧ y.nd.past.length ≤ 1000000) :
    Calls Tryz.prog 27 #[.agg (loadC x).toArray, .agg (loadC y).toArray] w fun e w' => e = .returned (.bool (alikeN x.nd y.nd)) ∧ Below w.heap.size w w' :=
  ralike_core x.nd.pol y.nd.pol x.nd.ruled y.nd.ruled x.nd.smp y.nd.smp x.nd.past y.nd.past x.sA y.sA x.pA y.pA x.sc y.sc x.pc y.pc _ _ w (Lib.hid h1.1.1) (Lib.hid h2.1.1) (Lib.hid h1.2.1) (Lib.hid h2.2.1) (Lib.hid hl)
end

section
set_option linter.unusedSimpArgs false
set_option linter.unusedVariables false
open Go.RowKit Go.Lib Go.Sort

theorem eKyC : EltOf 70 40 2 16 (.agg #[.int .u64 0, .int .u64 0]) keyC :=
  ⟨by kernel_rfl, by kernel_rfl, rfl, by decide, by decide, fun _ => rfl, fun x u hu => by
    simp only [keyC, List.mem_cons, List.not_mem_nil, or_false] at hu
    rcases hu with rfl | rfl <;> rfl⟩
theorem cellsK_row (l : List Ky) : cellsK l = cellsOfRow keyC l := by
  induction l with
  | nil => rfl
  | cons x l ih => simp [cellsK, cellsOfRow, keyC, List.flatMap_cons] at ih ⊢; try exact ih
theorem RisW.own {w w' : World} {l : List Ky} {e : Ending} (h : RisW w l e w') : ∃ A c, e = .returned (.slice A l.length c) ∧ OwnL keyC 40 2 w.heap.size w' (.slice A l.length c) l ∧ Below w.heap.size w w' := by
  obtain ⟨v, rfl, _, hb, ho⟩ := h
  rw [cellsK_row] at ho
  have ho : OwnL keyC 40 2 w.heap.size w' v l := ho
  obtain ⟨A, c, rfl⟩ := ho.form
  exact ⟨A, c, rfl, ho, hb⟩

set_option maxRecDepth 100000 in
set_option maxHeartbeats 8000000 in
theorem cutKeys_any (C : Nat) (ep : Int) (l : List En) (w : World) (h : CutIn w C ep l) (hl : l.length ≤ 1000) :
    Calls Tryz.prog 24 #[.pointer (some ⟨C, 0, none⟩)] w (RisW w (risL (l.map (·.1)))) := by
  obtain ⟨A, c, h1, h2⟩ := h
  have HX := Lib.hid h1
  have HR := Lib.hid h2
  obtain ⟨a1, a2, a3⟩ := box_cells (Below.refl _ _) h1
  have hl9 : l.length ≤ 9223372036854775807 := by omega
  clear h1 h2
  go_enter Tryz.func24, Tryz.ntmps24
  go_wp2_with fail
  clear a1 a2 a3
  go_loopg [3, 13] l.length (fun g s3 s13 wr => ∃ k : Nat, k ≤ l.length ∧ l.length - k ≤ g ∧ s13 = .int .i64 k ∧ OwnL keyC 40 2 w.heap.size wr s3 ((l.map (·.1)).take k) ∧ Below w.heap.size w wr)
  case atStart => exact ⟨0, Nat.zero_le _, Nat.le_refl _, rfl, by rw [List.take_zero]; exact OwnL.nil _ _, Below.refl _ _⟩
  case round =>
    obtain ⟨k, hk, hg, rfl, hown, hb⟩ := hrel
    rename World => wr
    obtain ⟨pre, hpre⟩ : ∃ pre, pre = (l.map (·.1)).take k := ⟨_, rfl⟩
    rw [← hpre] at hown
    obtain ⟨A5, c5, rfl⟩ := hown.form
    have hkl : pre.length = k := by rw [hpre]; simp; omega
    have HPRE := Lib.hid hpre
    have HO := Lib.hid hown
    have HKL := Lib.hid hkl
    have HB := Lib.hid hb
    clear hpre hown hkl hb
    by_cases hlt : k < l.length
    · obtain ⟨b1, o1, rfl, hb1, hc⟩ := (HR.out.below HB.out).at_ hlt
      have HTK := Lib.hid (show (l.map (·.1)).take (k + 1) = pre ++ [l[k].1] by rw [List.take_succ_eq_append_getElem (by simpa using hlt), HPRE.out]; simp)
      have z1 : (0 : Int) ≤ (k : Int) := by omega
      have z2 : (k : Int) < (l.length : Int) := by omega
      generalize l[k] = x at hc HTK
      have d0 := hc 0 _ rfl
      have d1 := hc 1 _ rfl
      have d2 := hc 2 _ rfl
      rw [Nat.add_zero] at d0
      clear hc
      go_wp2_with (first
        | (at_builtin
           refine wpList_appendL eKyC (by rfl) (by rfl) w.heap.size pre [x.1] (.slice A5 pre.length c5) _ (by rfl) (by rfl) (HO.out.below (balloc (balloc (Below.refl _ _) _) _)) (RowIn.lit _ x.1 _ _ (wr.heap.size + 1) (by simp) rfl) (by rw [HKL.out]; simp; omega) (by have := HB.out.size; simp; omega) ?_
           intro out2 A2 c2 w2 hout2 hown2 hg2 _
           have HO2 := Lib.hid hout2
           have HW2 := Lib.hid hown2
           have HB2 := Lib.hid (show Below w.heap.size w w2 from (balloc (balloc HB.out _) _).trans (grown_own hg2 HO.out (by have := HB.out.size; simp; omega)))
           clear hout2 hown2 hg2))
      go_roundg (l.length - (k + 1))
      case measure => omega
      case rel => exact ⟨k + 1, hlt, Nat.le_refl _, by go_num, by rw [HTK.out, ← HO2.out]; exact HW2.out, HB2.out⟩
    · obtain rfl : k = l.length := by omega
      have hp := HPRE.out
      rw [List.take_of_length_le (by simp)] at hp
      have HRI := Lib.hid (rising_own _ pre wr (keysIn_row (HO.out.row eKyC)) (by rw [HKL.out]; omega))
      have HP := Lib.hid hp
      clear hp
      go_wp2_with (first
        | (go_at_call 77
           refine HRI.out.mono ?_
           rintro e w3 ⟨v3, rfl, h1, h2, h3⟩
           have HK3 := Lib.hid (And.intro h1 (And.intro h2 h3))
           clear h1 h2 h3))
      go_ret
      rw [HP.out] at HK3
      refine ⟨v3, rfl, HK3.out.1, bthen HB.out HK3.out.2.1, ?_⟩
      exact own_lower HK3.out.2.2 HB.out.size

/-- The nodes of a cut's entries. -/
def NodesOf (w : World) (l : List En) (nd : En → Nd) (rs rh : Nat) : Prop := ∀ x ∈ l, ∃ fp, NodeIn w x.2 (nd x) rs rh fp
theorem NodesOf.below {w w' : World} {l : List En} {nd : En → Nd} {rs rh : Nat} (h : NodesOf w l nd rs rh) (hb : Below w.heap.size w w') : NodesOf w' l nd rs rh := fun x hx => by
  obtain ⟨fp, h⟩ := h x hx
  exact ⟨fp, h.below hb⟩
theorem findE_mem {l : List En} {k : Ky} {n : Nat} (h : findE l k = some n) : (k, n) ∈ l := by
  unfold findE at h
  obtain ⟨x, hx, rfl⟩ := Option.map_eq_some_iff.1 h
  have h1 := List.mem_of_find?_eq_some hx
  have h2 := List.find?_some hx
  simp at h2
  obtain ⟨a, b⟩ := x
  obtain rfl : a = k := h2
  exact h1
/-- Whether what two cuts found of a key is unlike. -/
def diffO (nd md : En → Nd) (k : Ky) : Option Nat → Option Nat → Bool
  | none, none => false
  | some a, some b => !alikeN (nd (k, a)) (md (k, b))
  | none, some _ => true
  | some _, none => true
/-- Whether two cuts tell unlike things of a key. -/
def diffB (l1 l2 : List En) (nd md : En → Nd) (k : Ky) : Bool := diffO nd md k (findE l1 k) (findE l2 k)

set_option maxRecDepth 100000 in
set_option maxHeartbeats 8000000 in
theorem differ_any (C1 C2 : Nat) (e1 e2 : Int) (l1 l2 : List En) (nd md : En → Nd) (rs rh : Nat) (w : World) (h1 : CutIn w C1 e1 l1) (h2 : CutIn w C2 e2 l2) (r1 : Ris l1) (r2 : Ris l2) (b1 : l1.length ≤ 500) (b2 : l2.length ≤ 500)
    (n1 : NodesOf w l1 nd rs rh) (n2 : NodesOf w l2 md rs rh) (hrs : rs ≤ 256) (hrh : rh ≤ 64) (hsz : ∀ x : En, ((nd x).smp.length ≤ 1000000 ∧ (nd x).past.length ≤ 1000000) ∧ (md x).smp.length ≤ 1000000 ∧ (md x).past.length ≤ 1000000) :
    Calls Tryz.prog 29 #[.pointer (some ⟨C1, 0, none⟩), .pointer (some ⟨C2, 0, none⟩)] w fun e w' => ∃ A c, e = .returned (.slice A ((risL (risL (l1.map (·.1)) ++ risL (l2.map (·.1)))).filter (diffB l1 l2 nd md)).length c) ∧
      OwnL keyC 40 2 w.heap.size w' (.slice A ((risL (risL (l1.map (·.1)) ++ risL (l2.map (·.1)))).filter (diffB l1 l2 nd md)).length c) ((risL (risL (l1.map (·.1)) ++ risL (l2.map (·.1)))).filter (diffB l1 l2 nd md)) ∧ Below w.heap.size w w' := by
  have K1 := Lib.hid (cutKeys_any C1 e1 l1 w h1 (by omega))
  have K2 := Lib.hid (fun W (hW : Below w.heap.size w W) => cutKeys_any C2 e2 l2 W (h2.below hW) (by omega))
  have G1 := Lib.hid (fun k W (hW : Below w.heap.size w W) => cutGet_any C1 e1 l1 k W (h1.below hW) r1 (by omega))
  have G2 := Lib.hid (fun k W (hW : Below w.heap.size w W) => cutGet_any C2 e2 l2 k W (h2.below hW) r2 (by omega))
  have AL := Lib.hid (fun (a b : Nat) (k : Ky) (ha : findE l1 k = some a) (hb : findE l2 k = some b) W (hW : Below w.heap.size w W) => (show Calls Tryz.prog 79 #[.pointer (some ⟨a, 0, none⟩), .pointer (some ⟨b, 0, none⟩)] W fun e w' => e = .returned (.bool (alikeN (nd (k, a)) (md (k, b)))) ∧ Below W.heap.size W w' by
    have ma := findE_mem ha
    have mb := findE_mem hb
    obtain ⟨f1, q1⟩ := n1 _ ma
    obtain ⟨f2, q2⟩ := n2 _ mb
    have s1 := (hsz (k, a)).1
    have s2 := (hsz (k, b)).2
    exact alike_any a b (nd (k, a)) (md (k, b)) rs rh rs rh f1 f2 W (q1.below hW) (q2.below hW) hrs hrh hrs hrh ⟨s1.1, s2.1, s1.2, s2.2⟩))
  have hn1 : (risL (l1.map (·.1))).length ≤ 500 := Nat.le_trans (len_risL _) (by simpa using b1)
  have hn2 : (risL (l2.map (·.1))).length ≤ 500 := Nat.le_trans (len_risL _) (by simpa using b2)
  have HN := Lib.hid (And.intro hn1 hn2)
  clear h1 h2 r1 r2 b1 b2 n1 n2 hrs hrh hsz hn1 hn2
  generalize hk1 : risL (l1.map (·.1)) = ks1 at K1 HN ⊢
  generalize hk2 : risL (l2.map (·.1)) = ks2 at K2 HN ⊢
  clear hk1 hk2
  have hq : (risL (ks1 ++ ks2)).length ≤ 1000 := Nat.le_trans (len_risL _) (by have := HN.out; simp; omega)
  have hq9 : (risL (ks1 ++ ks2)).length ≤ 9223372036854775807 := by omega
  have HQ := Lib.hid hq
  clear hq
  go_enter Tryz.func29, Tryz.ntmps29
  go_wp2_with (first
    | (go_at_call 24
       have h9 := HO1
       refine (K2.out w1 HB1.out).mono ?_
       intro e w2 hr
       obtain ⟨A2, c2, rfl, ho, hb⟩ := hr.own
       have HO2 := Lib.hid ho
       have HO12 := Lib.hid (HO1.out.below hb)
       have HB2 := Lib.hid (bthen HB1.out hb)
       have HS2 := Lib.hid hb.size
       clear hr ho hb h9)
    | (go_at_call 24
       refine K1.out.mono ?_
       intro e w1 hr
       obtain ⟨A1, c1, rfl, ho, hb⟩ := hr.own
       have HO1 := Lib.hid ho
       have HB1 := Lib.hid hb
       clear hr ho hb)
    | (at_builtin
       refine wpList_appendL eKyC (by rfl) (by rfl) w.heap.size ks1 ks2 (.slice A1 ks1.length c1) (.slice A2 ks2.length c2) (by rfl) (by rfl) HO12.out (HO2.out.row eKyC) (by have := HN.out; omega) HB2.out.size ?_
       intro out3 A3 c3 w3 hout hown hg _
       have HW3 := Lib.hid (show OwnL keyC 40 2 w.heap.size w3 (.slice A3 out3.length c3) out3 from hown)
       have HOU3 := Lib.hid hout
       have HB3 := Lib.hid (show Below w.heap.size w w3 from HB2.out.trans (grown_own hg HO12.out HB2.out.size))
       have HRI := Lib.hid (rising_own _ out3 w3 (keysIn_row (HW3.out.row eKyC)) (by rw [hout]; have := HN.out; simp; omega))
       clear hout hown hg)
    | (go_at_call 77
       refine HRI.out.mono ?_
       intro e w4 hr
       rw [HOU3.out] at hr
       obtain ⟨A4, c4, rfl, ho, hb⟩ := hr.own
       have HR4 := Lib.hid (ho.row eKyC)
       have HB4 := Lib.hid (bthen HB3.out hb)
       clear hr ho hb))
  obtain ⟨ks, hKS⟩ : ∃ ks, ks = risL (ks1 ++ ks2) := ⟨_, rfl⟩
  rw [← hKS] at HR4 HQ hq9 ⊢
  have HKS := Lib.hid hKS
  clear hKS
  go_loopg [5, 19] ks.length (fun g s5 s19 wr => ∃ k : Nat, k ≤ ks.length ∧ ks.length - k ≤ g ∧ s19 = .int .i64 k ∧ OwnL keyC 40 2 w4.heap.size wr s5 ((ks.take k).filter (diffB l1 l2 nd md)) ∧ Below w4.heap.size w4 wr)
  case atStart => exact ⟨0, Nat.zero_le _, Nat.le_refl _, rfl, by simp; exact OwnL.nil _ _, Below.refl _ _⟩
  case round =>
    obtain ⟨k, hk, hg, rfl, hown, hb⟩ := hrel
    rename World => wr
    obtain ⟨pre, hpre⟩ : ∃ pre, pre = (ks.take k).filter (diffB l1 l2 nd md) := ⟨_, rfl⟩
    rw [← hpre] at hown
    obtain ⟨A5, c5, rfl⟩ := hown.form
    have HPL := Lib.hid (show pre.length ≤ k by rw [hpre]; exact Nat.le_trans (List.length_filter_le ..) (by simp; omega))
    have HPRE := Lib.hid hpre
    have HO := Lib.hid hown
    have HB := Lib.hid hb
    have HBw := Lib.hid (bthen HB4.out hb)
    clear hpre hown hb
    by_cases hlt : k < ks.length
    · obtain ⟨b1, o1, rfl, hb1, hc⟩ := (HR4.out.below HB.out).at_ hlt
      have z1 : (0 : Int) ≤ (k : Int) := by omega
      have z2 : (k : Int) < (ks.length : Int) := by omega
      have HTK := Lib.hid (show (ks.take (k + 1)).filter (diffB l1 l2 nd md) = pre ++ [ks[k]].filter (diffB l1 l2 nd md) by rw [List.take_succ_eq_append_getElem hlt, List.filter_append, HPRE.out])
      generalize ks[k] = x at hc HTK
      have d0 := hc 0 _ rfl
      have d1 := hc 1 _ rfl
      rw [Nat.add_zero] at d0
      clear hc
      have HK := Lib.hid hlt
      have GX1 := Lib.hid (fun W (hW : Below w.heap.size w W) => G1.out x W hW)
      have GX2 := Lib.hid (fun W (hW : Below w.heap.size w W) => G2.out x W hW)
      have ALX := Lib.hid (fun a b ha hb => AL.out a b x ha hb)
      generalize hf1 : findE l1 x = f1 at GX1 ALX
      generalize hf2 : findE l2 x = f2 at GX2 ALX
      have HD := Lib.hid (show diffB l1 l2 nd md x = diffO nd md x f1 f2 by unfold diffB; rw [hf1, hf2])
      clear hf1 hf2
      cases f1 with
      | none =>
        have hd1 : ptr (none : Option Nat) = .pointer none := rfl
        rw [hd1] at GX1
        cases f2 with
        | none =>
          rw [hd1] at GX2
          simp only [Option.isSome_none] at GX1 GX2
          simp only [diffO] at HD
          clear ALX hd1
          as_aux_lemma =>
            go_wp2_with (first
              | (go_at_call 19
                 have h9 := HB6
                 refine (GX2.out w6 (bthen HBw.out HB6.out)).mono ?_
                 rintro e w7 ⟨rfl, hb7⟩
                 have hx7 := (hb7.block _ (Array.getElem?_eq_some_iff.1 HX6.out).1).trans HX6.out
                 obtain ⟨g1, g2, g3⟩ := box_cells (Below.refl _ _) hx7
                 have HX7 := Lib.hid hx7
                 have HB7 := Lib.hid (bthen HB6.out hb7)
                 clear hb7 hx7 h9)
              | (go_at_call 19
                 refine calls_named ?_
                 intro W5 hW5
                 have hb5 : Below wr.heap.size wr W5 := by rw [hW5]; exact balloc (Below.refl _ _) _
                 have hx1 : W5.heap[wr.heap.size]? = some (.cells #[.int .u64 x.1, .int .u64 x.2] 40 (0, 0)) := by rw [hW5]; exact heap_alloc_new _ _
                 clear hW5
                 refine (GX1.out W5 (bthen HBw.out hb5)).mono ?_
                 rintro e w6 ⟨rfl, hb6⟩
                 have hx6 := (hb6.block _ (Array.getElem?_eq_some_iff.1 hx1).1).trans hx1
                 obtain ⟨a1, a2, a3⟩ := box_cells (Below.refl _ _) hx6
                 have HX6 := Lib.hid hx6
                 have HB6 := Lib.hid (bthen hb5 hb6)
                 clear hb5 hx1 hb6 hx6))
            go_roundg (ks.length - (k + 1))
            case measure => omega
            case rel => exact ⟨k + 1, HK.out, Nat.le_refl _, by go_num, by rw [HTK.out, show [x].filter (diffB l1 l2 nd md) = [] by simp [HD.out], List.append_nil]; exact HO.out.below HB7.out, bthen HB.out HB7.out⟩
        | some b =>
          have hd2 : ptr (some b) = .pointer (some ⟨b, 0, none⟩) := rfl
          rw [hd2] at GX2
          simp only [Option.isSome_none, Option.isSome_some] at GX1 GX2
          simp only [diffO] at HD
          clear ALX hd1 hd2
          as_aux_lemma =>
            go_wp2_with (first
              | (go_at_call 19
                 have h9 := HB6
                 refine (GX2.out w6 (bthen HBw.out HB6.out)).mono ?_
                 rintro e w7 ⟨rfl, hb7⟩
                 have hx7 := (hb7.block _ (Array.getElem?_eq_some_iff.1 HX6.out).1).trans HX6.out
                 obtain ⟨g1, g2, g3⟩ := box_cells (Below.refl _ _) hx7
                 have HX7 := Lib.hid hx7
                 have HB7 := Lib.hid (bthen HB6.out hb7)
                 clear hb7 hx7 h9)
              | (go_at_call 19
                 refine calls_named ?_
                 intro W5 hW5
                 have hb5 : Below wr.heap.size wr W5 := by rw [hW5]; exact balloc (Below.refl _ _) _
                 have hx1 : W5.heap[wr.heap.size]? = some (.cells #[.int .u64 x.1, .int .u64 x.2] 40 (0, 0)) := by rw [hW5]; exact heap_alloc_new _ _
                 clear hW5
                 refine (GX1.out W5 (bthen HBw.out hb5)).mono ?_
                 rintro e w6 ⟨rfl, hb6⟩
                 have hx6 := (hb6.block _ (Array.getElem?_eq_some_iff.1 hx1).1).trans hx1
                 obtain ⟨a1, a2, a3⟩ := box_cells (Below.refl _ _) hx6
                 have HX6 := Lib.hid hx6
                 have HB6 := Lib.hid (bthen hb5 hb6)
                 clear hb5 hx1 hb6 hx6)
              | (at_builtin
                 refine wpList_appendL eKyC (by rfl) (by rfl) w4.heap.size pre [x] (.slice A5 pre.length c5) _ (by rfl) (by rfl) ((HO.out.below HB7.out).below (balloc (Below.refl _ _) _)) (RowIn.lit _ x _ _ w7.heap.size rfl rfl) (by have := HPL.out; have := HQ.out; have := HK.out; simp; omega) (by have := HB.out.size; have := HB7.out.size; simp; omega) ?_
                 intro out2 A9 c9 w9 hout2 hown2 hg2 _
                 have HO9 := Lib.hid hout2
                 have HW9 := Lib.hid hown2
                 have HB9 := Lib.hid (show Below w4.heap.size w4 w9 from (bthen HB.out (bthen HB7.out (balloc (Below.refl _ _) _))).trans (grown_own hg2 HO.out (by have := HB.out.size; have := HB7.out.size; simp; omega)))
                 clear hout2 hown2 hg2))
            go_roundg (ks.length - (k + 1))
            case measure => omega
            case rel => exact ⟨k + 1, HK.out, Nat.le_refl _, by go_num, by rw [HTK.out, show [x].filter (diffB l1 l2 nd md) = [x] by simp [HD.out], ← HO9.out]; exact HW9.out, HB9.out⟩
      | some a =>
        have hd2 : ptr (some a) = .pointer (some ⟨a, 0, none⟩) := rfl
        rw [hd2] at GX1
        cases f2 with
        | none =>
          have hd1 : ptr (none : Option Nat) = .pointer none := rfl
          rw [hd1] at GX2
          simp only [Option.isSome_none, Option.isSome_some] at GX1 GX2
          simp only [diffO] at HD
          clear ALX hd1 hd2
          as_aux_lemma =>
            go_wp2_with (first
              | (go_at_call 19
                 have h9 := HB6
                 refine (GX2.out w6 (bthen HBw.out HB6.out)).mono ?_
                 rintro e w7 ⟨rfl, hb7⟩
                 have hx7 := (hb7.block _ (Array.getElem?_eq_some_iff.1 HX6.out).1).trans HX6.out
                 obtain ⟨g1, g2, g3⟩ := box_cells (Below.refl _ _) hx7
                 have HX7 := Lib.hid hx7
                 have HB7 := Lib.hid (bthen HB6.out hb7)
                 clear hb7 hx7 h9)
              | (go_at_call 19
                 refine calls_named ?_
                 intro W5 hW5
                 have hb5 : Below wr.heap.size wr W5 := by rw [hW5]; exact balloc (Below.refl _ _) _
                 have hx1 : W5.heap[wr.heap.size]? = some (.cells #[.int .u64 x.1, .int .u64 x.2] 40 (0, 0)) := by rw [hW5]; exact heap_alloc_new _ _
                 clear hW5
                 refine (GX1.out W5 (bthen HBw.out hb5)).mono ?_
                 rintro e w6 ⟨rfl, hb6⟩
                 have hx6 := (hb6.block _ (Array.getElem?_eq_some_iff.1 hx1).1).trans hx1
                 obtain ⟨a1, a2, a3⟩ := box_cells (Below.refl _ _) hx6
                 have HX6 := Lib.hid hx6
                 have HB6 := Lib.hid (bthen hb5 hb6)
                 clear hb5 hx1 hb6 hx6)
              | (at_builtin
                 refine wpList_appendL eKyC (by rfl) (by rfl) w4.heap.size pre [x] (.slice A5 pre.length c5) _ (by rfl) (by rfl) ((HO.out.below HB7.out).below (balloc (Below.refl _ _) _)) (RowIn.lit _ x _ _ w7.heap.size rfl rfl) (by have := HPL.out; have := HQ.out; have := HK.out; simp; omega) (by have := HB.out.size; have := HB7.out.size; simp; omega) ?_
                 intro out2 A9 c9 w9 hout2 hown2 hg2 _
                 have HO9 := Lib.hid hout2
                 have HW9 := Lib.hid hown2
                 have HB9 := Lib.hid (show Below w4.heap.size w4 w9 from (bthen HB.out (bthen HB7.out (balloc (Below.refl _ _) _))).trans (grown_own hg2 HO.out (by have := HB.out.size; have := HB7.out.size; simp; omega)))
                 clear hout2 hown2 hg2))
            go_roundg (ks.length - (k + 1))
            case measure => omega
            case rel => exact ⟨k + 1, HK.out, Nat.le_refl _, by go_num, by rw [HTK.out, show [x].filter (diffB l1 l2 nd md) = [x] by simp [HD.out], ← HO9.out]; exact HW9.out, HB9.out⟩
        | some b =>
          have hd3 : ptr (some b) = .pointer (some ⟨b, 0, none⟩) := rfl
          rw [hd3] at GX2
          simp only [Option.isSome_some] at GX1 GX2
          simp only [diffO] at HD
          clear hd2 hd3
          cases hab : alikeN (nd (x, a)) (md (x, b)) with
          | true =>
            rw [hab] at HD
            have HAB := Lib.hid hab
            clear hab
            as_aux_lemma =>
              go_wp2_with (first
                | (go_at_call 19
                   have h9 := HB6
                   refine (GX2.out w6 (bthen HBw.out HB6.out)).mono ?_
                   rintro e w7 ⟨rfl, hb7⟩
                   have hx7 := (hb7.block _ (Array.getElem?_eq_some_iff.1 HX6.out).1).trans HX6.out
                   obtain ⟨g1, g2, g3⟩ := box_cells (Below.refl _ _) hx7
                   have HX7 := Lib.hid hx7
                   have HB7 := Lib.hid (bthen HB6.out hb7)
                   clear hb7 hx7 h9)
                | (go_at_call 19
                   refine calls_named ?_
                   intro W5 hW5
                   have hb5 : Below wr.heap.size wr W5 := by rw [hW5]; exact balloc (Below.refl _ _) _
                   have hx1 : W5.heap[wr.heap.size]? = some (.cells #[.int .u64 x.1, .int .u64 x.2] 40 (0, 0)) := by rw [hW5]; exact heap_alloc_new _ _
                   clear hW5
                   refine (GX1.out W5 (bthen HBw.out hb5)).mono ?_
                   rintro e w6 ⟨rfl, hb6⟩
                   have hx6 := (hb6.block _ (Array.getElem?_eq_some_iff.1 hx1).1).trans hx1
                   obtain ⟨a1, a2, a3⟩ := box_cells (Below.refl _ _) hx6
                   have HX6 := Lib.hid hx6
                   have HB6 := Lib.hid (bthen hb5 hb6)
                   clear hb5 hx1 hb6 hx6)
                | (go_at_call 79
                   refine (ALX.out a b rfl rfl w7 (bthen HBw.out HB7.out)).mono ?_
                   rw [HAB.out]
                   rintro e w8 ⟨rfl, hb8⟩
                   have hx8 := (hb8.block _ (Array.getElem?_eq_some_iff.1 HX7.out).1).trans HX7.out
                   obtain ⟨q1, q2, q3⟩ := box_cells (Below.refl _ _) hx8
                   have HB8 := Lib.hid (bthen HB7.out hb8)
                   clear hb8 hx8))
              go_roundg (ks.length - (k + 1))
              case measure => omega
              case rel => exact ⟨k + 1, HK.out, Nat.le_refl _, by go_num, by rw [HTK.out, show [x].filter (diffB l1 l2 nd md) = [] by simp [HD.out], List.append_nil]; exact HO.out.below HB8.out, bthen HB.out HB8.out⟩
          | false =>
            rw [hab] at HD
            have HAB := Lib.hid hab
            clear hab
            as_aux_lemma =>
              go_wp2_with (first
                | (go_at_call 19
                   have h9 := HB6
                   refine (GX2.out w6 (bthen HBw.out HB6.out)).mono ?_
                   rintro e w7 ⟨rfl, hb7⟩
                   have hx7 := (hb7.block _ (Array.getElem?_eq_some_iff.1 HX6.out).1).trans HX6.out
                   obtain ⟨g1, g2, g3⟩ := box_cells (Below.refl _ _) hx7
                   have HX7 := Lib.hid hx7
                   have HB7 := Lib.hid (bthen HB6.out hb7)
                   clear hb7 hx7 h9)
                | (go_at_call 19
                   refine calls_named ?_
                   intro W5 hW5
                   have hb5 : Below wr.heap.size wr W5 := by rw [hW5]; exact balloc (Below.refl _ _) _
                   have hx1 : W5.heap[wr.heap.size]? = some (.cells #[.int .u64 x.1, .int .u64 x.2] 40 (0, 0)) := by rw [hW5]; exact heap_alloc_new _ _
                   clear hW5
                   refine (GX1.out W5 (bthen HBw.out hb5)).mono ?_
                   rintro e w6 ⟨rfl, hb6⟩
                   have hx6 := (hb6.block _ (Array.getElem?_eq_some_iff.1 hx1).1).trans hx1
                   obtain ⟨a1, a2, a3⟩ := box_cells (Below.refl _ _) hx6
                   have HX6 := Lib.hid hx6
                   have HB6 := Lib.hid (bthen hb5 hb6)
                   clear hb5 hx1 hb6 hx6)
                | (go_at_call 79
                   refine (ALX.out a b rfl rfl w7 (bthen HBw.out HB7.out)).mono ?_
                   rw [HAB.out]
                   rintro e w8 ⟨rfl, hb8⟩
                   have hx8 := (hb8.block _ (Array.getElem?_eq_some_iff.1 HX7.out).1).trans HX7.out
                   obtain ⟨q1, q2, q3⟩ := box_cells (Below.refl _ _) hx8
                   have HB8 := Lib.hid (bthen HB7.out hb8)
                   clear hb8 hx8)
                | (at_builtin
                   refine wpList_appendL eKyC (by rfl) (by rfl) w4.heap.size pre [x] (.slice A5 pre.length c5) _ (by rfl) (by rfl) ((HO.out.below HB8.out).below (balloc (Below.refl _ _) _)) (RowIn.lit _ x _ _ w8.heap.size rfl rfl) (by have := HPL.out; have := HQ.out; have := HK.out; simp; omega) (by have := HB.out.size; have := HB8.out.size; simp; omega) ?_
                   intro out2 A9 c9 w9 hout2 hown2 hg2 _
                   have HO9 := Lib.hid hout2
                   have HW9 := Lib.hid hown2
                   have HB9 := Lib.hid (show Below w4.heap.size w4 w9 from (bthen HB.out (bthen HB8.out (balloc (Below.refl _ _) _))).trans (grown_own hg2 HO.out (by have := HB.out.size; have := HB8.out.size; simp; omega)))
                   clear hout2 hown2 hg2))
              go_roundg (ks.length - (k + 1))
              case measure => omega
              case rel => exact ⟨k + 1, HK.out, Nat.le_refl _, by go_num, by rw [HTK.out, show [x].filter (diffB l1 l2 nd md) = [x] by simp [HD.out], ← HO9.out]; exact HW9.out, HB9.out⟩
    · obtain rfl : k = ks.length := by omega
      have hp := HPRE.out
      rw [List.take_length] at hp
      have HP := Lib.hid hp
      have HW := Lib.hid (show OwnL keyC 40 2 w.heap.size wr (.slice A5 pre.length c5) pre from HO.out.lower HB4.out.size)
      clear hp
      go_wp2_with fail
      go_ret
      rw [← HKS.out, ← HP.out]
      exact ⟨A5, c5, rfl, HW.out, HBw.out⟩
end

section
set_option linter.unusedSimpArgs false
set_option linter.unusedVariables false
open Go.RowKit Go.Lib Go.Sort

/-- A world of which only the old blocks are left. -/
def cutW (w : World) (n : Nat) : World := { w with heap := w.heap.extract 0 n }
theorem cutW_below {w : World} {n : Nat} (hn : n ≤ w.heap.size) : (cutW w n).heap.size = n ∧ Below (cutW w n).heap.size (cutW w n) w := by
  have e : (cutW w n).heap.size = n := by simp [cutW]; omega
  refine ⟨e, ⟨rfl, rfl, rfl, by rw [e]; exact hn, fun k hk => ?_⟩⟩
  rw [e] at hk
  simp only [cutW]
  rw [Array.getElem?_extract]
  simp
  omega
/-- What lies above a bound is left by a turn of what lies below it. -/
theorem Play.turn {w0 W w1 : World} {T M : Nat} {c : Cfg} {rs rh n ver : Nat} {es : List (KO × NE)} {v : Value} {l : List It} (h : Play w0 W T M c rs rh n ver es v l) {fp fp' : List Nat} (hu : Upd W w1 fp fp') (hfp : ∀ r ∈ fp, r < w0.heap.size) :
    ∃ w2, w2.heap.size = w0.heap.size ∧ Play w2 w1 T M c rs rh n ver es v l := by
  have hk : ∀ r, w0.heap.size ≤ r → r < W.heap.size → w1.heap[r]? = W.heap[r]? := fun r h1 h2 => hu.block r h2 (fun hm => by have := hfp r hm; omega)
  obtain ⟨e, hb⟩ := cutW_below (w := w1) (n := w0.heap.size) (Nat.le_trans h.base.size hu.size)
  have hT : w0.heap.size ≤ T := h.above T (by simp [sfp])
  have hM : w0.heap.size ≤ M := h.above M (by simp [sfp])
  refine ⟨cutW w1 w0.heap.size, e, ⟨⟨(hk T hT h.at_.ltT).trans h.at_.cell, h.at_.map.block (hk M hM h.at_.map.lt), fun p hp => (h.at_.node p hp).kept (fun r hr => hk r (h.fresh p hp r hr) ((h.at_.node p hp).lt r hr)), h.at_.pair, h.at_.off, h.at_.ne⟩, ?_, h.tells, hb, ?_, ?_, h.grown, h.vers, h.ver_, h.room⟩⟩
  · rw [e]
    exact ⟨h.items.1.keepP hu.size (fun b hb hlt => hk b hb.2 hlt), fun x hx => ⟨(h.items.2 x hx).1.keepP hu.size (fun b hb hlt => hk b hb.2 hlt), (h.items.2 x hx).2.keepP hu.size (fun b hb hlt => hk b hb.2 hlt)⟩⟩
  · rw [e]; exact h.above
  · rw [e]; exact h.fresh

/-- What Freeze gives: an entry for each key, the node frozen. -/
def frL (es : List (KO × NE)) (l : List It) : List En := (keysI l).map fun q => (q, blkOf es q)
def ndF (es : List (KO × NE)) (x : En) : Nd := ((es.find? (fun p => p.1.1 = x.1)).map (fun p => frz p.2.2.1)).getD nd0
theorem frL_len (es : List (KO × NE)) (l : List It) : (frL es l).length = l.length := by simp [frL, keysI]
theorem frL_keys (es : List (KO × NE)) (l : List It) : (frL es l).map (·.1) = keysI l := by
  simp [frL, Function.comp_def]
theorem blk_at {es : List (KO × NE)} {q : Ky} (h : q ∈ kyN es) : ∃ p ∈ es, p.1.1 = q ∧ es.find? (fun p => p.1.1 = q) = some p := by
  obtain ⟨p, hp, rfl⟩ := List.mem_map.1 h
  cases hf : es.find? (fun x => x.1.1 = p.1.1) with
  | none => exact absurd (List.find?_eq_none.1 hf p hp) (by simp)
  | some r => exact ⟨r, List.mem_of_find?_eq_some hf, by simpa using List.find?_some hf, rfl⟩
theorem play_freezeC {w0 W : World} {T M : Nat} {c : Cfg} {rs rh n ver : Nat} {es : List (KO × NE)} {v : Value} {l : List It} (h : Play w0 W T M c rs rh n ver es v l) (hn : n ≤ 100) :
    Calls Tryz.prog 14 #[.pointer (some ⟨T, 0, none⟩)] W fun e w1 => ∃ A cc, e = .returned (.slice A (frL es l).length cc) ∧ OwnL enC 56 3 W.heap.size w1 (.slice A (frL es l).length cc) (frL es l) ∧
      (∀ x ∈ frL es l, ∃ fp, NodeIn w1 x.2 (ndF es x) rs rh fp ∧ (ndF es x).frz = true ∧ ∀ r ∈ fp, w0.heap.size ≤ r ∧ r < W.heap.size) ∧ ItemsIn (fun b => w0.heap.size ≤ b) w1 v l ∧ Upd W w1 (sfp T M es) (sfp T M (frzE es (risL (kyN es)))) := by
  have hl := h.len
  refine (sfreeze_any T M c ver es rs rh W h.at_ (by omega)).mono ?_
  rintro e w1 ⟨A, cc, rfl, h1, h2, hu⟩
  have hK : risL (kyN es) = keysI l := by rw [kyN_keysS, h.tells.risL, absI_keys]
  have e1 : (risL (kyN es)).length = (frL es l).length := by rw [hK]; simp [frL]
  have e2 : ((risL (kyN es)).map fun q => (q, blkOf es q)) = frL es l := by rw [hK]; rfl
  rw [e1, e2] at h1
  refine ⟨A, cc, by rw [e1], h1, fun x hx => ?_, (h.items.turnB hu).imp (fun b hb => hb.2), hu⟩
  obtain ⟨q, hq, rfl⟩ := List.mem_map.1 hx
  have hqk : q ∈ kyN es := (mem_risL _ _).1 (by rw [hK]; exact hq)
  obtain ⟨p, hp, hpq, hf⟩ := blk_at hqk
  have hb : blkOf es q = p.2.1 := by unfold blkOf; rw [hf]; rfl
  have hd : ndF es (q, blkOf es q) = frz p.2.2.1 := by unfold ndF; simp only; rw [hf]; rfl
  have hm : (p.1, (p.2.1, frz p.2.2.1, p.2.2.2)) ∈ frzE es (risL (kyN es)) := List.mem_map.2 ⟨p, hp, by rw [if_pos (by rw [hK, hpq]; exact hq)]⟩
  have hnode := h2.node _ hm
  simp only at hnode
  refine ⟨p.2.2.2, by rw [hd]; simp only; rw [hb]; exact hnode, by rw [hd]; rfl, fun r hr => ⟨h.fresh p hp r hr, (h.at_.node p hp).lt r hr⟩⟩
theorem frL_find {es : List (KO × NE)} {l : List It} (ht : Tells18 (ab es) (l.map absI)) (k : Ky) : findE (frL es l) k = if hasI l k = true then some (blkOf es k) else none := by
  have hs := ht.sortedI
  unfold findE frL
  by_cases h : hasI l k = true
  · rw [if_pos h]
    have hm := (hasI_iff hs k).1 h
    cases hf : ((keysI l).map fun q => (q, blkOf es q)).find? (fun x => decide (x.1 = k)) with
    | none =>
      have := List.find?_eq_none.1 hf (k, blkOf es k) (List.mem_map.2 ⟨k, hm, rfl⟩)
      simp at this
    | some r =>
      have h1 := List.mem_of_find?_eq_some hf
      have h2 := List.find?_some hf
      obtain ⟨q, _, rfl⟩ := List.mem_map.1 h1
      simp at h2
      subst h2
      rfl
  · rw [if_neg h]
    have hm : k ∉ keysI l := fun hm => h ((hasI_iff hs k).2 hm)
    rw [List.find?_eq_none.2]
    · rfl
    · intro x hx
      obtain ⟨q, hq, rfl⟩ := List.mem_map.1 hx
      simp
      rintro rfl
      exact hm hq
end

section
set_option linter.unusedSimpArgs false
set_option linter.unusedVariables false
open Go.RowKit Go.Lib Go.Sort

abbrev PartI := Option Addr × Nat × List It
def partIC (p : PartI) : List Value := [.slice p.1 p.2.2.length p.2.1]
theorem keysI_snoc (a b : List It) : keysI (a ++ b) = keysI a ++ keysI b := by simp [keysI]
set_option maxRecDepth 100000 in
set_option maxHeartbeats 8000000 in
theorem r19keys_any (v : Value) (ps : List PartI) (w : World) (hv : RowIn 1 partIC w v ps) (hi : ∀ p ∈ ps, RowIn 12 itC w (.slice p.1 p.2.2.length p.2.1) p.2.2) (hok : ∀ p ∈ ps, ∀ x ∈ p.2.2, x.key.ok) (hl : (ps.flatMap fun p => keysI p.2.2).length ≤ 1000) (hl2 : ps.length ≤ 1000) :
    Calls Tryz.prog 26 #[v] w (OwnsKeys w (risL (ps.flatMap fun p => keysI p.2.2))) := by
  obtain ⟨A0, c0, rfl⟩ := hv.form
  have HV := Lib.hid hv
  have HI := Lib.hid hi
  have HL := Lib.hid hl
  have HOK := Lib.hid (show ∀ k ∈ (ps.flatMap fun p => keysI p.2.2), k.ok from fun k hk => by
    obtain ⟨p, hp, hk⟩ := List.mem_flatMap.1 hk
    obtain ⟨x, hx, rfl⟩ := List.mem_map.1 hk
    exact hok p hp x hx)
  have hq : ps.length ≤ 9223372036854775807 := by omega
  clear hv hi hok hl
  go_enter Tryz.func26, Tryz.ntmps26
  go_wp2_with fail
  go_loopg [3, 4] ps.length (fun g s3 s4 wr => ∃ (i : Nat) (out : List Ky), i ≤ ps.length ∧ ps.length - i ≤ g ∧ s4 = .int .i64 i ∧ Hid (out = (ps.take i).flatMap fun p => keysI p.2.2) ∧ OwnL keyC 40 2 w.heap.size wr s3 out ∧ Below w.heap.size w wr)
  case atStart => exact ⟨0, [], Nat.zero_le _, Nat.le_refl _, rfl, Lib.hid rfl, OwnL.nil _ _, Below.refl _ _⟩
  case round =>
    obtain ⟨i, out, hi, hg, rfl, HO, hown, hb⟩ := hrel
    rename World => wr
    obtain ⟨A5, c5, rfl⟩ := hown.form
    have HW := Lib.hid hown
    have HB := Lib.hid hb
    clear hown hb
    by_cases hlt : i < ps.length
    · obtain ⟨b0, o0, rfl, hb0, hc0⟩ := HV.out.at_ hlt
      have z1 : (0 : Int) ≤ (i : Int) := by omega
      have z2 : (i : Int) < (ps.length : Int) := by omega
      have HR := Lib.hid (HI.out _ (List.getElem_mem hlt))
      have HNX := Lib.hid (show ((ps.take (i + 1)).flatMap fun p => keysI p.2.2) = out ++ keysI ps[i].2.2 by
        rw [List.take_succ_eq_append_getElem hlt, List.flatMap_append, HO.out]; simp)
      have HPL := Lib.hid (show (out ++ keysI ps[i].2.2).length ≤ 1000 by
        rw [← HNX.out]
        refine Nat.le_trans ?_ HL.out
        have e : (ps.flatMap fun p => keysI p.2.2) = ((ps.take (i + 1)).flatMap fun p => keysI p.2.2) ++ ((ps.drop (i + 1)).flatMap fun p => keysI p.2.2) := by rw [← List.flatMap_append, List.take_append_drop]
        rw [e, List.length_append]; omega)
      have d0 := hc0 0 _ rfl
      rw [Nat.mul_one, Nat.add_zero] at d0
      clear hc0
      generalize ps[i] = p at HR HNX HPL d0
      obtain ⟨Ap, cp, l⟩ := p
      simp only at HR HNX HPL d0
      have hll : l.length ≤ 1000 := by have := HPL.out; simp [keysI] at this; omega
      have hq3 : l.length ≤ 9223372036854775807 := by omega
      go_wp2_with fail
      go_loopg [3, 5] l.length (fun g s3 s5 wx => ∃ (j : Nat) (o2 : List Ky), j ≤ l.length ∧ l.length - j ≤ g ∧ s5 = .int .i64 j ∧ Hid (o2 = out ++ keysI (l.take j)) ∧ OwnL keyC 40 2 w.heap.size wx s3 o2 ∧ Below w.heap.size w wx)
      case atStart => exact ⟨0, out, Nat.zero_le _, Nat.le_refl _, rfl, Lib.hid (by simp [keysI]), HW.out, HB.out⟩
      case round =>
        obtain ⟨j, o2, hj, hgj, rfl, HO2, hown, hbx⟩ := hrel
        rename World => wx
        obtain ⟨A6, c6, rfl⟩ := hown.form
        have HWX := Lib.hid hown
        have e0 := (hbx.cell (p := ⟨b0, _, none⟩) hb0).trans d0
        have HBX := Lib.hid hbx
        clear hown hbx
        by_cases hjl : j < l.length
        · obtain ⟨b1, o1, rfl, hb1, hc1⟩ := (HR.out.below HBX.out).at_ hjl
          have y1 : (0 : Int) ≤ (j : Int) := by omega
          have y2 : (j : Int) < (l.length : Int) := by omega
          have HTK := Lib.hid (show keysI (l.take (j + 1)) = keysI (l.take j) ++ [l[j].key] by rw [List.take_succ_eq_append_getElem hjl, keysI_snoc]; rfl)
          have HLJ := Lib.hid (show o2.length + 1 ≤ 2001 by
            have := HPL.out
            rw [HO2.out]; simp [keysI] at this ⊢; omega)
          have f0 := hc1 0 _ rfl
          have f1 := hc1 1 _ rfl
          rw [Nat.add_zero] at f0
          clear hc1
          generalize l[j] = x at HTK f0 f1
          go_wp2_with (first
            | (at_builtin
               refine wpList_appendL eKyC (by rfl) (by rfl) w.heap.size o2 [x.key] (.slice A6 o2.length c6) _ (by rfl) (by rfl) (HWX.out.below (balloc (Below.refl _ _) _)) (RowIn.lit _ x.key _ _ wx.heap.size rfl rfl) (by have := HLJ.out; simp; omega) (by have := HBX.out.size; simp; omega) ?_
               intro out2 A9 c9 w9 hout2 hown2 hg2 _
               have HO9 := Lib.hid hout2
               have HW9 := Lib.hid hown2
               have HB9 := Lib.hid (show Below w.heap.size w w9 from (balloc HBX.out _).trans (grown_own hg2 HWX.out (by have := HBX.out.size; simp; omega)))
               clear hout2 hown2 hg2))
          go_roundg (l.length - (j + 1))
          case measure => omega
          case rel => exact ⟨j + 1, out2, hjl, Nat.le_refl _, by go_num, Lib.hid (by rw [HO9.out, HTK.out, HO2.out, List.append_assoc]), HW9.out, HB9.out⟩
        · obtain rfl : j = l.length := by omega
          go_wp2_with fail
          go_roundg (ps.length - (i + 1))
          case measure => omega
          case rel => exact ⟨i + 1, o2, hlt, Nat.le_refl _, by go_num, Lib.hid (by rw [HNX.out, HO2.out, List.take_length]), HWX.out, HBX.out⟩
    · obtain rfl : i = ps.length := by omega
      have ho := HO.out
      rw [List.take_length] at ho
      rw [← ho] at HL HOK
      have HOE := Lib.hid ho
      have HRI := Lib.hid (refRising_any _ out wr (keysIn_row (HW.out.row eKyC)) HOK.out (by have := HL.out; omega))
      clear ho
      go_wp2_with (first
        | (go_at_call 78
           refine HRI.out.mono ?_
           rintro e w3 ⟨v3, rfl, h1, h2⟩
           have HK3 := Lib.hid (And.intro h1 h2)
           clear h1 h2))
      go_ret
      rw [← HOE.out]
      exact ⟨v3, rfl, own_lower HK3.out.1 HB.out.size, bthen HB.out HK3.out.2⟩
end

section
set_option linter.unusedSimpArgs false
set_option linter.unusedVariables false
open Go.RowKit Go.Lib Go.Sort

theorem alikeN_same {x x2 y y2 : Nd} (h1 : sameN x x2) (h2 : sameN y y2) : alikeN x y = alikeN x2 y2 := by
  obtain ⟨a1, a2, a3, a4⟩ := h1
  obtain ⟨b1, b2, b3, b4⟩ := h2
  unfold alikeN
  rw [a1, a2, a3, a4, b1, b2, b3, b4]
theorem alikeN_self (x : Nd) : alikeN x x = true := by simp [alikeN]
theorem ndF_same {es : List (KO × NE)} {l : List It} (ht : Tells18 (ab es) (l.map absI)) {k : Ky} (hk : hasI l k = true) (n : Nat) : sameN (ndF es (k, n)) (getL l k).nd := by
  have hm : k ∈ kyN es := by
    have h1 := (hasI_iff ht.sortedI k).1 hk
    rw [← absI_keys] at h1
    rw [kyN_keysS]
    exact (ht.keys k).1 h1
  obtain ⟨p, hp, rfl, hf⟩ := blk_at hm
  have hfm : findM es p.1 = some p.2 := by
    unfold findM
    have e : (fun q : KO × NE => decide (q.1 = p.1)) = (fun q : KO × NE => decide (q.1.1 = p.1.1)) := by
      funext q
      rw [decide_eq_decide]
      exact ⟨fun h => by rw [h], fun h => Subtype.ext h⟩
    rw [e, hf]
    rfl
  have hg := ht.get p.1
  have h1 : ndOf (ab es) p.1 = p.2.2.1 := by unfold ndOf; rw [ab_find, hfm]; rfl
  have h2 : ndF es (p.1.1, n) = frz p.2.2.1 := by unfold ndF; simp only; rw [hf]; rfl
  rw [h1] at hg
  rw [h2]
  exact hg
theorem diff_law {es1 es2 : List (KO × NE)} {l1 l2 : List It} (h1 : Tells18 (ab es1) (l1.map absI)) (h2 : Tells18 (ab es2) (l2.map absI)) (k : Ky) (hk : hasI l1 k = true ∨ hasI l2 k = true) :
    diffB (frL es1 l1) (frL es2 l2) (ndF es1) (ndF es2) k = (hasI l1 k != hasI l2 k || !alikeN (getL l1 k).nd (getL l2 k).nd) := by
  unfold diffB
  rw [frL_find h1, frL_find h2]
  cases a : hasI l1 k <;> cases b : hasI l2 k
  · rw [a, b] at hk; simp at hk
  · simp [diffO]
  · simp [diffO]
  · simp only [if_true, diffO]
    rw [alikeN_same (ndF_same h1 a _) (ndF_same h2 b _)]
    rfl
theorem diff_self (l : List En) (nd : En → Nd) (k : Ky) : diffB l l nd nd k = false := by
  unfold diffB
  cases findE l k with
  | none => rfl
  | some a => simp [diffO, alikeN_self]
theorem frL_some (es : List (KO × NE)) (l : List It) : keptE (fun _ => true) ((frL es l).map fun x => (x.1, some x.2)) = frL es l := by
  induction frL es l with
  | nil => rfl
  | cons x m ih => simp only [List.map_cons, keptE, if_true, ih]
end

section
set_option linter.unusedSimpArgs false
set_option linter.unusedVariables false
open Go.RowKit Go.Lib Go.Sort

structure Cold (w0 W : World) (T M : Nat) (c : Cfg) (rs rh n ver : Nat) (es : List (KO × NE)) (ve : Value) (fl : List En) (v : Value) (l : List It) : Prop where
  at_ : SAt W T M c ver es rs rh
  items : ItemsIn (fun b => b ∉ sfp T M es) W v l
  rows : RowG (fun b => b ∉ sfp T M es) 3 enC W ve fl
  told : ∀ i (h : i < l.length) (h2 : i < fl.length), fl[i].1 = l[i].key ∧ ∃ y fp, NodeIn W fl[i].2 y rs rh fp ∧ y.frz = true ∧ sameN y l[i].nd ∧ ∀ r ∈ fp, r ∉ sfp T M es
  len : fl.length = l.length
  base : Below w0.heap.size w0 W
  above : ∀ r ∈ sfp T M es, w0.heap.size ≤ r
  grown : Grown n ver (ab es)
  ver_ : ver ≤ 1000 * n
theorem Cold.below {w0 W W' : World} {T M : Nat} {c : Cfg} {rs rh n ver : Nat} {es : List (KO × NE)} {ve : Value} {fl : List En} {v : Value} {l : List It} (h : Cold w0 W T M c rs rh n ver es ve fl v l) (hb : Below W.heap.size W W') : Cold w0 W' T M c rs rh n ver es ve fl v l :=
  ⟨h.at_.below hb, h.items.below hb, h.rows.below hb, fun i h1 h2 => by
    obtain ⟨a1, y, fp, a2, a3⟩ := h.told i h1 h2
    exact ⟨a1, y, fp, a2.below hb, a3⟩, h.len, bthen h.base hb, h.above, h.grown, h.ver_⟩
theorem grown_frz {n ver : Nat} {es : List (KO × NE)} (h : Grown n ver (ab es)) (K : List Ky) : Grown n ver (ab (frzE es K)) := by
  rw [ab_frzE]
  refine ⟨by simp only [List.length_map]; exact h.len, fun p hp => ?_⟩
  obtain ⟨q, hq, rfl⟩ := List.mem_map.1 hp
  have := h.vers q hq
  dsimp only
  split
  · simp only [frz]; omega
  · omega
theorem frz_all {es : List (KO × NE)} : ∀ p ∈ frzE es (risL (kyN es)), p.2.2.1.frz = true := by
  intro p hp
  obtain ⟨q, hq, rfl⟩ := List.mem_map.1 hp
  have hm : q.1.1 ∈ risL (kyN es) := (mem_risL _ _).2 (List.mem_map.2 ⟨q, hq, rfl⟩)
  dsimp only
  rw [if_pos hm]
  rfl
theorem mfp_frz {x : Nd} (h : x.frz = true) (fp : List Nat) : mfp x fp = [] := by
  unfold mfp
  rw [if_pos h]
theorem sfp_all {T M : Nat} {es : List (KO × NE)} (h : ∀ p ∈ es, p.2.2.1.frz = true) : ∀ r ∈ sfp T M es, r = T ∨ r = M := by
  intro r hr
  simp only [sfp, List.mem_cons] at hr
  rcases hr with rfl | rfl | hr
  · exact .inl rfl
  · exact .inr rfl
  · obtain ⟨p, hp, hr⟩ := mem_mfpE.1 hr
    rw [mfp_frz (h p hp)] at hr
    cases hr
theorem blk_frzE (es : List (KO × NE)) (K : List Ky) (q : Ky) : blkOf (frzE es K) q = blkOf es q := by
  unfold blkOf frzE
  rw [List.find?_map]
  simp only [Function.comp_def, Option.map_map]

/-- Freeze, at a stripe that plays. -/
theorem play_freeze {w0 W : World} {T M : Nat} {c : Cfg} {rs rh n ver : Nat} {es : List (KO × NE)} {v : Value} {l : List It} (h : Play w0 W T M c rs rh n ver es v l) (hn : n ≤ 100) :
    Calls Tryz.prog 14 #[.pointer (some ⟨T, 0, none⟩)] W fun e w1 => ∃ es2 fl A cc, e = .returned (.slice A fl.length cc) ∧ Cold w0 w1 T M c rs rh n ver es2 (.slice A fl.length cc) fl v l ∧ Upd W w1 (sfp T M es) (sfp T M es2) := by
  have hl := h.len
  refine (sfreeze_any T M c ver es rs rh W h.at_ (by omega)).mono ?_
  rintro e w1 ⟨A, cc, rfl, h1, h2, hu⟩
  have hK : risL (kyN es) = keysI l := by rw [kyN_keysS, h.tells.risL, absI_keys]
  have hfrz := frz_all (es := es)
  have hsf := sfp_all (T := T) (M := M) hfrz
  have ht2 : Tells18 (ab (frzE es (risL (kyN es)))) (l.map absI) := by rw [ab_frzE]; exact tells_frz h.tells _
  have hTM : ∀ r ∈ sfp T M (frzE es (risL (kyN es))), r < W.heap.size := by
    intro r hr
    rcases hsf r hr with rfl | rfl
    · exact h.at_.ltT
    · exact h.at_.map.lt
  refine ⟨frzE es (risL (kyN es)), (risL (kyN es)).map (fun q => (q, blkOf es q)), A, cc, by rw [List.length_map], ⟨h2, (h.items.imp (fun b hb => hb.1)).turn hu, ?_, ?_, by rw [List.length_map, hK]; simp [keysI], h.base.trans (hu.below h.base.size h.above), fun r hr => ?_, grown_frz h.grown _, h.ver_⟩, hu⟩
  · rw [List.length_map]
    exact (RowG.own eEn h1).imp (fun b hb hq => by have := hTM b hq; omega)
  · intro i hi hi2
    have e1 : ((risL (kyN es)).map (fun q => (q, blkOf es q)))[i] = (l[i].key, blkOf es l[i].key) := by
      simp only [List.getElem_map]
      have : (risL (kyN es))[i]'(by rw [List.length_map] at hi2; exact hi2) = l[i].key := by
        simp only [hK, keysI, List.getElem_map]
      rw [this]
    rw [e1]
    refine ⟨rfl, ?_⟩
    obtain ⟨k, b, a1, a2, a3, a4⟩ := tells_node h2 ht2 (List.getElem_mem hi)
    have a5 := blk_find a2
    rw [blk_frzE] at a5
    have hm := find_mem a2
    dsimp only
    rw [a1, a5]
    refine ⟨b.2.1, b.2.2, a3, hfrz _ hm, a4, fun r hr hq => ?_⟩
    rcases hsf r hq with rfl | rfl
    · exact (h2.off _ hm).1 hr
    · exact (h2.off _ hm).2 hr
  · rcases hu.fresh r hr with hr | hr
    · exact h.above r hr
    · exact Nat.le_trans h.base.size hr
end

section
set_option linter.unusedSimpArgs false
set_option linter.unusedVariables false
open Go.RowKit Go.Lib Go.Sort

theorem RowG.lt {α : Type} {P : Nat → Prop} {n : Nat} {f : α → List Value} {w : World} {v : Value} {l : List α} (h : RowG P n f w v l) : RowG (fun b => P b ∧ b < w.heap.size) n f w v l := by
  refine ⟨h.1, fun b o m c e hn => ⟨h.2 b o m c e hn, ?_⟩⟩
  obtain ⟨A, c2, rfl, hl, hx⟩ := h.1
  obtain ⟨b2, o2, rfl, hb, -⟩ := hx hn
  simp only [Value.slice.injEq, Option.some.injEq, Addr.mk.injEq, and_true] at e
  rw [← e.1.1]
  exact hb
theorem ItemsIn.lt {P : Nat → Prop} {w : World} {v : Value} {l : List It} (h : ItemsIn P w v l) : ItemsIn (fun b => P b ∧ b < w.heap.size) w v l :=
  ⟨h.1.lt, fun x hx => ⟨(h.2 x hx).1.lt, (h.2 x hx).2.lt⟩⟩
theorem ItemsIn.and {P Q : Nat → Prop} {w : World} {v : Value} {l : List It} (h : ItemsIn P w v l) (k : ItemsIn Q w v l) : ItemsIn (fun b => P b ∧ Q b) w v l :=
  ⟨⟨h.1.1, fun b o m c e hn => ⟨h.1.2 b o m c e hn, k.1.2 b o m c e hn⟩⟩, fun x hx => ⟨⟨(h.2 x hx).1.1, fun b o m c e hn => ⟨(h.2 x hx).1.2 b o m c e hn, (k.2 x hx).1.2 b o m c e hn⟩⟩, ⟨(h.2 x hx).2.1, fun b o m c e hn => ⟨(h.2 x hx).2.2 b o m c e hn, (k.2 x hx).2.2 b o m c e hn⟩⟩⟩⟩
theorem ItemsIn.keepS {P : Nat → Prop} {w w' : World} {v : Value} {l : List It} (h : ItemsIn P w v l) (hs : w.heap.size ≤ w'.heap.size) (hk : ∀ b, P b → b < w.heap.size → w'.heap[b]? = w.heap[b]?) : ItemsIn P w' v l :=
  ⟨h.1.keepP hs hk, fun x hx => ⟨(h.2 x hx).1.keepP hs hk, (h.2 x hx).2.keepP hs hk⟩⟩

/-- Frozen nodes and items, all in blocks of one kind. -/
def FzAt (S : Nat → Prop) (w : World) (es : List (KO × NE)) (rs rh : Nat) (v : Value) (l : List It) : Prop :=
  (∀ x ∈ frL es l, ∃ fp, NodeIn w x.2 (ndF es x) rs rh fp ∧ (ndF es x).frz = true ∧ ∀ r ∈ fp, S r) ∧ ItemsIn S w v l
theorem FzAt.kept {S : Nat → Prop} {w w' : World} {es : List (KO × NE)} {rs rh : Nat} {v : Value} {l : List It} (h : FzAt S w es rs rh v l) (hs : w.heap.size ≤ w'.heap.size) (hk : ∀ b, S b → b < w.heap.size → w'.heap[b]? = w.heap[b]?) : FzAt S w' es rs rh v l := by
  refine ⟨fun x hx => ?_, h.2.keepS hs hk⟩
  obtain ⟨fp, a, b, c⟩ := h.1 x hx
  exact ⟨fp, a.kept (fun r hr => hk r (c r hr) (a.lt r hr)), b, c⟩
theorem FzAt.below {S : Nat → Prop} {w w' : World} {es : List (KO × NE)} {rs rh : Nat} {v : Value} {l : List It} (h : FzAt S w es rs rh v l) (hb : Below w.heap.size w w') : FzAt S w' es rs rh v l := h.kept hb.size (fun b _ hlt => hb.block b hlt)
theorem FzAt.imp {S S' : Nat → Prop} {w : World} {es : List (KO × NE)} {rs rh : Nat} {v : Value} {l : List It} (h : FzAt S w es rs rh v l) (hi : ∀ b, S b → S' b) : FzAt S' w es rs rh v l :=
  ⟨fun x hx => by obtain ⟨fp, a, b, c⟩ := h.1 x hx; exact ⟨fp, a, b, fun r hr => hi r (c r hr)⟩, h.2.imp hi⟩
theorem FzAt.nodes {S : Nat → Prop} {w : World} {es : List (KO × NE)} {rs rh : Nat} {v : Value} {l : List It} (h : FzAt S w es rs rh v l) : NodesOf w (frL es l) (ndF es) rs rh := fun x hx => by
  obtain ⟨fp, a, _, _⟩ := h.1 x hx
  exact ⟨fp, a⟩
theorem FzAt.fz {S : Nat → Prop} {w : World} {es : List (KO × NE)} {rs rh : Nat} {v : Value} {l : List It} (h : FzAt S w es rs rh v l) : ∀ x ∈ frL es l, FzN w x.2 true := fun x hx => by
  obtain ⟨fp, a, b, _⟩ := h.1 x hx
  exact ⟨_, _, _, _, a, b⟩

/-- What Freeze gives, and where it lies. -/
theorem play_freezeF {w0 W : World} {T M : Nat} {c : Cfg} {rs rh n ver : Nat} {es : List (KO × NE)} {v : Value} {l : List It} (h : Play w0 W T M c rs rh n ver es v l) (hn : n ≤ 100) (N : Nat) (hes : ∀ p ∈ es, ∀ r ∈ p.2.2.2, r < N) (hit : ItemsIn (fun b => b < N) W v l) :
    Calls Tryz.prog 14 #[.pointer (some ⟨T, 0, none⟩)] W fun e w1 => ∃ A cc, e = .returned (.slice A (frL es l).length cc) ∧ OwnL enC 56 3 W.heap.size w1 (.slice A (frL es l).length cc) (frL es l) ∧
      FzAt (fun b => b < N ∧ w0.heap.size ≤ b ∧ b ∉ sfp T M (frzE es (risL (kyN es)))) w1 es rs rh v l ∧ SAt w1 T M c ver (frzE es (risL (kyN es))) rs rh ∧ Grown n ver (ab (frzE es (risL (kyN es)))) ∧
      Upd W w1 (sfp T M es) (sfp T M (frzE es (risL (kyN es)))) := by
  have hl := h.len
  refine (sfreeze_any T M c ver es rs rh W h.at_ (by omega)).mono ?_
  rintro e w1 ⟨A, cc, rfl, h1, h2, hu⟩
  have hK : risL (kyN es) = keysI l := by rw [kyN_keysS, h.tells.risL, absI_keys]
  have e1 : (risL (kyN es)).length = (frL es l).length := by rw [hK]; simp [frL]
  have e2 : ((risL (kyN es)).map fun q => (q, blkOf es q)) = frL es l := by rw [hK]; rfl
  rw [e1, e2] at h1
  have hsf := sfp_all (T := T) (M := M) (frz_all (es := es))
  refine ⟨A, cc, by rw [e1], h1, ⟨fun x hx => ?_, ?_⟩, h2, grown_frz h.grown _, hu⟩
  · obtain ⟨q, hq, rfl⟩ := List.mem_map.1 hx
    have hqk : q ∈ kyN es := (mem_risL _ _).1 (by rw [hK]; exact hq)
    obtain ⟨p, hp, hpq, hf⟩ := blk_at hqk
    have hb : blkOf es q = p.2.1 := by unfold blkOf; rw [hf]; rfl
    have hd : ndF es (q, blkOf es q) = frz p.2.2.1 := by unfold ndF; simp only; rw [hf]; rfl
    have hm : (p.1, (p.2.1, frz p.2.2.1, p.2.2.2)) ∈ frzE es (risL (kyN es)) := List.mem_map.2 ⟨p, hp, by rw [if_pos (by rw [hK, hpq]; exact hq)]⟩
    have hnode := h2.node _ hm
    have hoff := h2.off _ hm
    simp only at hnode hoff
    refine ⟨p.2.2.2, by rw [hd]; simp only; rw [hb]; exact hnode, by rw [hd]; rfl, fun r hr => ⟨hes p hp r hr, h.fresh p hp r hr, fun hq => ?_⟩⟩
    rcases hsf r hq with rfl | rfl
    · exact hoff.1 hr
    · exact hoff.2 hr
  · refine (ItemsIn.and (ItemsIn.keepS (hit.and h.items) hu.size (fun b hb hlt => hu.block b hlt hb.2.1)) (h.items.turnB hu)).imp (fun b hb => ⟨hb.1.1, hb.2.2, hb.2.1⟩)

/-! ### Cuts of frozen entries -/
def soE (l : List En) : List Eo := l.map fun x => (x.1, some x.2)
theorem soE_len (l : List En) : (soE l).length = l.length := by simp [soE]
theorem row_so {w : World} {v : Value} {l : List En} (h : RowIn 3 enC w v l) : RowIn 3 eoC w v (soE l) := by
  obtain ⟨A, c, rfl, hl, hc⟩ := h
  refine ⟨A, c, by simp [soE], by simpa [soE] using hl, fun hp => ?_⟩
  obtain ⟨b, o, rfl, hb, hx⟩ := hc (by simpa [soE] using hp)
  refine ⟨b, o, rfl, hb, fun k x hk j u hu => ?_⟩
  simp only [soE, List.getElem?_map, Option.map_eq_some_iff] at hk
  obtain ⟨y, hy, rfl⟩ := hk
  exact hx k y hy j u hu
theorem kept_so (l : List En) : keptE (fun _ => true) (soE l) = l := by
  induction l with
  | nil => rfl
  | cons x m ih => simp only [soE, List.map_cons, keptE, if_true] at ih ⊢; rw [ih]
theorem so_fz {w : World} {l : List En} (h : ∀ x ∈ l, FzN w x.2 true) : ∀ x ∈ soE l, ∀ n, x.2 = some n → FzN w n true := fun x hx n hn => by
  obtain ⟨y, hy, rfl⟩ := List.mem_map.1 hx
  simp at hn
  subst hn
  exact h y hy
theorem filter_sort (l : List En) (k : Ky) : (sortEn l).filter (fun x => decide (x.1 = k)) = l.filter (fun x => decide (x.1 = k)) := by
  have hperm : (sortEn l).Perm l := List.mergeSort_perm l _
  have hsub : (l.filter (fun x => decide (x.1 = k))).Sublist (sortEn l) := by
    unfold sortEn
    refine List.sublist_mergeSort ?_ ?_ ?_ List.filter_sublist
    · intro a b c h1 h2
      simp only [leS, ltE, Bool.not_eq_true'] at h1 h2 ⊢
      cases h3 : ltK c.1 a.1 with
      | false => rfl
      | true =>
        exfalso
        cases h4 : ltK a.1 b.1 with
        | true => rw [ltK_trans h3 h4] at h2; cases h2
        | false => rw [ltK_total h4 h1] at h3; rw [h3] at h2; cases h2
    · intro a b
      simp only [leS, ltE, Bool.or_eq_true, Bool.not_eq_true']
      cases h3 : ltK b.1 a.1 with
      | false => exact Or.inl rfl
      | true => exact Or.inr (ltK_asymm h3)
    · rw [List.pairwise_filter]
      refine List.pairwise_of_forall (fun a b ha hb => ?_)
      simp only [decide_eq_true_eq] at ha hb
      simp only [leS, ltE, ha, hb, ltK_irrefl]
      rfl
  have h2 := hsub.filter (fun x => decide (x.1 = k))
  rw [List.filter_filter] at h2
  simp only [Bool.and_self] at h2
  exact (h2.eq_of_length (by rw [(hperm.filter _).length_eq])).symm
theorem findE_filter (l : List En) (k : Ky) : findE l k = ((l.filter (fun x => decide (x.1 = k))).head?).map (·.2) := by
  unfold findE
  rw [List.head?_filter]
theorem findE_sort (l : List En) (k : Ky) : findE (sortEn l) k = findE l k := by
  rw [findE_filter, findE_filter, filter_sort]
theorem findE_append (a b : List En) (k : Ky) : findE (a ++ b) k = (findE a k).or (findE b k) := by
  unfold findE
  rw [List.find?_append]
  cases List.find? (fun x => decide (x.1 = k)) a <;> rfl
theorem mem_sortE (l : List En) (x : En) : x ∈ sortEn l ↔ x ∈ l := (List.mergeSort_perm l _).mem_iff
theorem keys_sortE (l : List En) (q : Ky) : q ∈ (sortEn l).map (·.1) ↔ q ∈ l.map (·.1) := ((List.mergeSort_perm l _).map _).mem_iff
theorem risL_same {l m : List Ky} (h : ∀ p, p ∈ l ↔ p ∈ m) : risL l = risL m :=
  pair_unique (risL_pair l) (risL_pair m) (fun p => by rw [mem_risL, mem_risL]; exact h p)
theorem diffB_sort (l1 l2 : List En) (nd md : En → Nd) (k : Ky) : diffB (sortEn l1) (sortEn l2) nd md k = diffB l1 l2 nd md k := by
  unfold diffB
  rw [findE_sort, findE_sort]
/-- What Differ tells of two cuts, by the items. -/
theorem differ_law {es1 es2 : List (KO × NE)} {l1 l2 : List It} (h1 : Tells18 (ab es1) (l1.map absI)) (h2 : Tells18 (ab es2) (l2.map absI)) :
    (risL (risL ((sortEn (frL es1 l1)).map (·.1)) ++ risL ((sortEn (frL es2 l2)).map (·.1)))).filter (diffB (sortEn (frL es1 l1)) (sortEn (frL es2 l2)) (ndF es1) (ndF es2)) =
      (risL (keysI l1 ++ keysI l2)).filter fun k => (hasI l1 k != hasI l2 k || !alikeN (getL l1 k).nd (getL l2 k).nd) := by
  have e : risL (risL ((sortEn (frL es1 l1)).map (·.1)) ++ risL ((sortEn (frL es2 l2)).map (·.1))) = risL (keysI l1 ++ keysI l2) := by
    apply risL_same
    intro p
    rw [List.mem_append, List.mem_append, mem_risL, mem_risL, keys_sortE, keys_sortE, frL_keys, frL_keys]
  rw [e]
  apply List.filter_congr
  intro k hk
  rw [mem_risL, List.mem_append] at hk
  rw [diffB_sort]
  exact diff_law h1 h2 k (hk.imp (hasI_iff h1.sortedI k).2 (hasI_iff h2.sortedI k).2)
theorem differ_none (l : List En) (nd : En → Nd) (ks : List Ky) : ks.filter (diffB l l nd nd) = [] := by
  rw [List.filter_eq_nil_iff]
  intro k _
  rw [diff_self]
  simp
end

section
set_option linter.unusedSimpArgs false
set_option linter.unusedVariables false
open Go.RowKit Go.Lib Go.Sort

set_option maxRecDepth 100000 in
set_option maxHeartbeats 4000000 in
theorem cutEpoch_any (C : Nat) (ep : Int) (l : List En) (w : World) (h : CutIn w C ep l) :
    Calls Tryz.prog 15 #[.pointer (some ⟨C, 0, none⟩)] w fun e w' => e = .returned (.int .i64 ep) ∧ Below w.heap.size w w' := by
  obtain ⟨A, c, h1, h2⟩ := h
  obtain ⟨a1, a2, a3⟩ := box_cells (Below.refl _ _) h1
  clear h1 h2
  go_enter Tryz.func15, Tryz.ntmps15
  go_wp2_with fail
  go_ret
  exact ⟨rfl, Below.refl _ _⟩
theorem cut_none (w : World) (C : Nat) (ep : Int) (h : CutIn w C ep []) : Calls Tryz.prog 24 #[.pointer (some ⟨C, 0, none⟩)] w fun e w' => ∃ A c, e = .returned (.slice A 0 c) ∧ Below w.heap.size w w' :=
  (cutKeys_any C ep [] w h (by simp)).mono fun e w' hr => by
    obtain ⟨A, c, rfl, _, hb⟩ := hr.own
    exact ⟨A, c, rfl, hb⟩
set_option maxRecDepth 100000 in
set_option maxHeartbeats 4000000 in
theorem cutTotal_none (C : Nat) (ep a b : Int) (w : World) (h : CutIn w C ep []) :
    Calls Tryz.prog 25 #[.pointer (some ⟨C, 0, none⟩), .int .i64 a, .int .i64 b] w fun e w' => e = .returned (.agg #[.int .i64 0, .int .i64 0, .int .i64 0, .int .i64 0, .int .i64 0]) ∧ Below w.heap.size w w' := by
  have K := Lib.hid (fun W (hW : Below w.heap.size w W) => cut_none W C ep (h.below hW))
  clear h
  go_enter Tryz.func25, Tryz.ntmps25
  go_wp2_with (first
    | (go_at_call 24
       refine calls_named ?_
       intro W1 hW1
       have hb1 : Below w.heap.size w W1 := by rw [hW1]; exact balloc (balloc (Below.refl _ _) _) _
       have hx1 : W1.heap[w.heap.size]? = some (.cells #[.int .i64 0, .int .i64 0, .int .i64 0, .int .i64 0, .int .i64 0] 60 (0, 0)) := by rw [hW1]; exact (Below.heap_alloc _ _ _ (by simp)).trans (heap_alloc_new _ _)
       have hx2 : W1.heap[w.heap.size + 1]? = some (.cells #[.int .i64 0, .int .i64 0, .int .i64 0, .int .i64 0, .int .i64 0] 60 (0, 0)) := by rw [hW1]; exact heap_alloc_new2 _ _ _
       clear hW1
       refine (K.out W1 hb1).mono ?_
       rintro e w2 ⟨A, c, rfl, hb2⟩
       have HX1 := Lib.hid ((hb2.block _ (Array.getElem?_eq_some_iff.1 hx1).1).trans hx1)
       have HX2 := Lib.hid ((hb2.block _ (Array.getElem?_eq_some_iff.1 hx2).1).trans hx2)
       have HB2 := Lib.hid (bthen hb1 hb2)
       clear hb1 hx1 hx2 hb2))
  obtain ⟨a1, a2, a3⟩ := box_cells (Below.refl _ _) HX1.out
  obtain ⟨a4, a5, a6⟩ := box_cells (Below.refl _ _) HX2.out
  go_loopg [15] 0 (fun g s15 wr => s15 = .int .i64 0 ∧ wr = w2)
  case atStart => exact ⟨rfl, rfl⟩
  case round =>
    obtain ⟨rfl, rfl⟩ := hrel
    go_wp2_with fail
    have hB := box5 (v0 := .int .i64 0) (v1 := .int .i64 0) (v2 := .int .i64 0) (v3 := .int .i64 0) (v4 := .int .i64 0) (cs := #[]) HX1.out
    have hb5 := below5 HB2.out (Nat.le_refl w.heap.size) (.int .i64 0) (.int .i64 0) (.int .i64 0) (.int .i64 0) (.int .i64 0)
    obtain ⟨b1, b2, b3⟩ := box_cells (Below.refl _ _) hB
    exact bodyPost_ret (v := .agg #[.int .i64 0, .int .i64 0, .int .i64 0, .int .i64 0, .int .i64 0]) (by simp [results, Tryz.results25, go_sem, b1]) rfl ⟨rfl, hb5⟩
set_option maxRecDepth 100000 in
set_option maxHeartbeats 4000000 in
theorem awake19_any (w : World) : Calls Tryz.prog 10 #[] w fun e w' => e = .returned (.bool true) ∧ Below w.heap.size w w' := by
  have HNW := Lib.hid (show Calls Tryz.prog 13 #[.int .i64 3, .slice none 0 0] w fun e w' => ∃ C, e = .returned (.pointer (some ⟨C, 0, none⟩)) ∧ CutIn w' C 3 [] ∧ Below w.heap.size w w' from
    (cutNew_any 3 (.slice none 0 0) [] (fun _ => false) w ⟨RowIn.nil, fun p hp => by cases hp⟩ (fun p hp => by cases hp) (by simp) (by simp) (fun p hp => by cases hp)).mono fun e w' ⟨C, h1, h2, h3⟩ => ⟨C, h1, by
      have h4 := h2.in_
      have e0 : sortEn (([] : List PartE).flatMap fun p => keptE (fun _ => false) p.2.2) = [] := by simp [sortEn]
      rw [e0] at h4
      exact h4, h3⟩)
  go_enter Tryz.func10, Tryz.ntmps10
  go_wp2_with (first
    | (go_at_call 13
       refine HNW.out.mono ?_
       rintro e w1 ⟨C, rfl, hc, hb⟩
       have HC := Lib.hid hc
       have HB1 := Lib.hid hb
       clear hc hb)
    | (go_at_call 15
       refine (cutEpoch_any C 3 [] w1 HC.out).mono ?_
       rintro e w2 ⟨rfl, hb⟩
       have HC2 := Lib.hid (HC.out.below hb)
       have HB2 := Lib.hid (bthen HB1.out hb)
       clear hb)
    | (go_at_call 24
       refine (cut_none w2 C 3 HC2.out).mono ?_
       rintro e w3 ⟨A, c, rfl, hb⟩
       have HC3 := Lib.hid (HC2.out.below hb)
       have HB3 := Lib.hid (bthen HB2.out hb)
       clear hb)
    | (go_at_call 25
       refine (cutTotal_none C 3 5 5 w3 HC3.out).mono ?_
       rintro e w4 ⟨rfl, hb⟩
       have HB4 := Lib.hid (bthen HB3.out hb)
       clear hb))
  go_ret
  exact ⟨rfl, HB4.out⟩
end

section
set_option linter.unusedSimpArgs false
set_option linter.unusedVariables false
open Go.RowKit Go.Lib Go.Sort

/-- Two stripes behind acts, and cuts of both as they were frozen. -/
def TwoCuts (w W : World) (rs rh : Nat) (C1 C2 : Nat) (es1 es2 : List (KO × NE)) (v1 v2 : Value) (l1 l2 : List It) : Prop :=
  ∃ B1 B2, CutAt B1 W C1 1 (sortEn (frL es1 l1)) ∧ CutAt B2 W C2 2 (sortEn (frL es2 l2)) ∧ FzAt (fun _ => True) W es1 rs rh v1 l1 ∧ FzAt (fun _ => True) W es2 rs rh v2 l2 ∧ Below w.heap.size w W
theorem TwoCuts.below {w W W' : World} {rs rh C1 C2 : Nat} {es1 es2 : List (KO × NE)} {v1 v2 : Value} {l1 l2 : List It} (h : TwoCuts w W rs rh C1 C2 es1 es2 v1 v2 l1 l2) (hb : Below W.heap.size W W') : TwoCuts w W' rs rh C1 C2 es1 es2 v1 v2 l1 l2 := by
  obtain ⟨B1, B2, a, b, c, d, e⟩ := h
  exact ⟨B1, B2, a.below hb, b.below hb, c.below hb, d.below hb, e.trans (hb.mono e.size)⟩
def LoadsOf (P : Nat → Prop) (w : World) (l : List It) : Prop := ∀ x ∈ l, LoadIn P w x
theorem keysI_ok {l : List It} (h : ∀ x ∈ l, x.key.ok) : ∀ k ∈ keysI l, k.ok := fun k hk => by
  obtain ⟨x, hx, rfl⟩ := List.mem_map.1 hk
  exact h x hx
theorem sizes_of {rs rh : Nat} {l : List It} (h : ∀ x ∈ l, NdOk rs rh x.nd ∧ x.key.ok) (h1 : rs ≤ 256) (h2 : rh ≤ 64) (k : Ky) : (getL l k).nd.smp.length ≤ 1000000 ∧ (getL l k).nd.past.length ≤ 1000000 := by
  cases hh : hasI l k with
  | false => rw [getL_none hh]; simp [it0, nd0]
  | true =>
    obtain ⟨hal, hg⟩ := getL_has hh
    rw [hg]
    have := (h _ (List.getElem_mem hal)).1
    exact ⟨Nat.le_trans this.len (by omega), Nat.le_trans this.past (by omega)⟩
theorem ndF_sizes {es : List (KO × NE)} (h : ∀ p ∈ es, p.2.2.1.smp.length ≤ 1000000 ∧ p.2.2.1.past.length ≤ 1000000) (x : En) : (ndF es x).smp.length ≤ 1000000 ∧ (ndF es x).past.length ≤ 1000000 := by
  unfold ndF
  cases hf : es.find? (fun p => decide (p.1.1 = x.1)) with
  | none => simp [nd0]
  | some p => exact h p (List.mem_of_find?_eq_some hf)

theorem cut_one (ep : Int) (A : Option Addr) (c : Nat) (fl : List En) (w : World) (T : TypeId) (hr : RowIn 3 enC w (.slice A fl.length c) fl) (hf : ∀ x ∈ fl, FzN w x.2 true) (hl : fl.length ≤ 40) :
    Calls Tryz.prog 13 #[.int .i64 ep, .slice (some ⟨w.heap.size, 0, none⟩) 1 1] (w.alloc (.cells #[.slice A fl.length c] T)) fun e w' => ∃ C, e = .returned (.pointer (some ⟨C, 0, none⟩)) ∧ CutAt w.heap.size w' C ep (sortEn fl) ∧ Below w.heap.size w w' := by
  have hb : Below w.heap.size w (w.alloc (.cells #[.slice A fl.length c] T)) := balloc (Below.refl _ _) _
  have e1 : ([(A, c, soE fl)] : List PartE).flatMap (fun p => keptE (fun _ => true) p.2.2) = fl := by simp [kept_so]
  have hc := cutNew_any ep (.slice (some ⟨w.heap.size, 0, none⟩) 1 1) [(A, c, soE fl)] (fun _ => true) (w.alloc (.cells #[.slice A fl.length c] T))
    ⟨RowIn.lit w (A, c, soE fl) _ _ w.heap.size rfl (by simp [partC, soE_len]), fun p hp => by
      obtain rfl := List.mem_singleton.1 hp
      have := (row_so hr).below hb
      simp only [soE_len]
      exact this⟩
    (fun p hp x hx n hn => by
      obtain rfl := List.mem_singleton.1 hp
      exact (so_fz hf x hx n hn).below hb)
    (by rw [e1]; exact hl) (by simp) (fun p hp => by
      obtain rfl := List.mem_singleton.1 hp
      simp only [soE_len]
      omega)
  refine hc.mono ?_
  rintro e w' ⟨C, he, h1, h2⟩
  rw [e1] at h1
  exact ⟨C, he, h1.lower hb.size, bthen hb h2⟩

/-- Whether a key tells unlike things of two stripes. -/
def unlikeI (l1 l2 : List It) (k : Ky) : Bool := hasI l1 k != hasI l2 k || !alikeN (getL l1 k).nd (getL l2 k).nd
theorem two_differ {w W : World} {rs rh C1 C2 : Nat} {es1 es2 : List (KO × NE)} {v1 v2 : Value} {l1 l2 : List It} (h : TwoCuts w W rs rh C1 C2 es1 es2 v1 v2 l1 l2) (t1 : Tells18 (ab es1) (l1.map absI)) (t2 : Tells18 (ab es2) (l2.map absI))
    (z1 : ∀ p ∈ es1, p.2.2.1.smp.length ≤ 1000000 ∧ p.2.2.1.past.length ≤ 1000000) (z2 : ∀ p ∈ es2, p.2.2.1.smp.length ≤ 1000000 ∧ p.2.2.1.past.length ≤ 1000000) (hrs : rs ≤ 256) (hrh : rh ≤ 64) (b1 : l1.length ≤ 40) (b2 : l2.length ≤ 40) :
    (∃ L, L = (risL (keysI l1 ++ keysI l2)).filter (unlikeI l1 l2) ∧ Calls Tryz.prog 29 #[.pointer (some ⟨C1, 0, none⟩), .pointer (some ⟨C2, 0, none⟩)] W fun e w' => ∃ A c, e = .returned (.slice A L.length c) ∧ OwnL keyC 40 2 W.heap.size w' (.slice A L.length c) L ∧ Below W.heap.size W w') ∧
    (∀ U, Below W.heap.size W U → Calls Tryz.prog 29 #[.pointer (some ⟨C1, 0, none⟩), .pointer (some ⟨C1, 0, none⟩)] U fun e w' => ∃ A c, e = .returned (.slice A 0 c) ∧ Below U.heap.size U w') := by
  obtain ⟨B1, B2, c1, c2, f1, f2, hb⟩ := h
  have n1 : NodesOf W (sortEn (frL es1 l1)) (ndF es1) rs rh := fun x hx => f1.nodes x ((mem_sortE _ _).1 hx)
  have n2 : NodesOf W (sortEn (frL es2 l2)) (ndF es2) rs rh := fun x hx => f2.nodes x ((mem_sortE _ _).1 hx)
  have k1 : (sortEn (frL es1 l1)).length ≤ 500 := by rw [sortEn_len, frL_len]; omega
  have k2 : (sortEn (frL es2 l2)).length ≤ 500 := by rw [sortEn_len, frL_len]; omega
  refine ⟨⟨_, differ_law t1 t2, differ_any C1 C2 1 2 _ _ (ndF es1) (ndF es2) rs rh W c1.in_ c2.in_ (ris_sort _) (ris_sort _) k1 k2 n1 n2 hrs hrh (fun x => ⟨ndF_sizes z1 x, ndF_sizes z2 x⟩)⟩, fun U hU => ?_⟩
  refine (differ_any C1 C1 1 1 _ _ (ndF es1) (ndF es1) rs rh U (c1.in_.below hU) (c1.in_.below hU) (ris_sort _) (ris_sort _) k1 k1 (n1.below hU) (n1.below hU) hrs hrh (fun x => ⟨ndF_sizes z1 x, ndF_sizes z1 x⟩)).mono ?_
  rintro e w' ⟨A, c, rfl, -, h3⟩
  exact ⟨A, c, by rw [differ_none]; rfl, h3⟩

set_option maxRecDepth 100000 in
set_option maxHeartbeats 8000000 in
theorem cdiffers_main (c : Cfg) (rs rh : Nat) (v v' : Value) (l l' : List ActK) (w : World) (hv : RowIn 16 actKC w v l) (hv' : RowIn 16 actKC w v' l') (hok : ∀ p ∈ l, p.1.ok) (hok' : ∀ p ∈ l', p.1.ok) (hl : l.length ≤ 30) (hl2 : l'.length ≤ 30) (hc : CfgOk c rs rh) :
    Calls Tryz.prog 5 #[cfgV c, v, v'] w fun e w' => e = .returned (.bool true) ∧ Below w.heap.size w w' := by
  obtain ⟨A, cc, rfl⟩ := hv.form
  obtain ⟨A', cc', rfl⟩ := hv'.form
  have HC := Lib.hid hc
  have HV := Lib.hid hv
  have HV' := Lib.hid hv'
  have HOK := Lib.hid hok
  have HOK' := Lib.hid hok'
  have HL := Lib.hid hl
  have HL2 := Lib.hid hl2
  have HR := Lib.hid hc.room
  have HRT : Hid (∀ W, Calls Tryz.prog 11 #[.agg #[.int .i64 c.st, .int .i64 c.sa, .int .i64 c.lo, .int .i64 c.hi]] W fun e w' => e = .returned (.bool true) ∧ Below W.heap.size W w') := Lib.hid (fun W => by have := ref17Right_any c W; rw [hc.cfg] at this; exact this)
  have q30 : ¬ (30 : Int) < (l.length : Int) := by omega
  have q31 : ¬ (30 : Int) < (l'.length : Int) := by omega
  unfold cfgV
  clear hv hv' hok hok' hl hl2 hc
  go_enter Tryz.func5, Tryz.ntmps5
  go_upto_region 7 with (first
    | (go_at_call 10
       refine calls_named ?_
       intro W0 hW0
       have hb0 : Below w.heap.size w W0 := by rw [hW0]; exact balloc (Below.refl _ _) _
       have hxc : W0.heap[w.heap.size]? = some (.cells #[.int .i64 c.st, .int .i64 c.sa, .int .i64 c.lo, .int .i64 c.hi] 23 (0, 0)) := by rw [hW0]; exact heap_alloc_new _ _
       clear hW0
       refine (awake19_any W0).mono ?_
       rintro e w1 ⟨rfl, hb1⟩
       obtain ⟨a1, a1f, a1l⟩ := box_cells hb1 hxc
       have hx1 := (hb1.block _ (Array.getElem?_eq_some_iff.1 hxc).1).trans hxc
       have HB1 := Lib.hid (bthen hb0 hb1)
       have HX1 := Lib.hid hx1
       clear hb0 hxc hb1 hx1)
    | (go_at_call 11
       refine (HRT.out w1).mono ?_
       rintro e w2 ⟨rfl, hb2⟩
       obtain ⟨a2, a2f, a2l⟩ := box_cells hb2 HX1.out
       have HXC := Lib.hid ((hb2.block _ (Array.getElem?_eq_some_iff.1 HX1.out).1).trans HX1.out)
       have HB2 := Lib.hid (bthen HB1.out hb2)
       clear hb2)
    | (go_at_call 12
       have h9 := HPS
       with_reducible refine (made_19 c rs rh _ l' w3 (HV'.out.below HB3.out) HOK'.out HL2.out HC.out).mono ?_
       rintro e w4 ⟨T', M', ver', es', m', Am', cm', rfl, hp⟩
       have HPT := Lib.hid hp
       have HB4 := Lib.hid (bthen HB3.out hp.base)
       clear hp h9)
    | (go_at_call 12
       with_reducible refine (made_19 c rs rh _ l w2 (HV.out.below HB2.out) HOK.out HL.out HC.out).mono ?_
       rintro e w3 ⟨T, M, ver, es, m, Am, cm, rfl, hp⟩
       have HPS := Lib.hid hp
       have hb := bthen HB2.out hp.base
       obtain ⟨a3, a3f, a3l⟩ := box_cells hp.base HXC.out
       have HB3 := Lib.hid hb
       clear hp hb))
  go_upto_region 8 with (first
    | (go_at_call 14
       have h9 := HC1
       refine (play_freezeF (HPT5.out.below HB57.out) (by have := HL2.out; omega) w4.heap.size HESt.out (HITt.out.below HB57.out)).mono ?_
       rintro e w8 ⟨A8, c8, rfl, hown, hfz, -, -, hu⟩
       have HO8 := Lib.hid hown
       have HFZ8t := Lib.hid (hfz.imp (S' := fun _ => True) (fun _ _ => trivial))
       have HFZ8 := Lib.hid (((HFZ.out.below HB57.out).kept hu.size (fun b hb hlt => hu.block b hlt (fun hm => by have := HPT5.out.above _ hm; have := HW3.out; have := hb.1; omega))).imp (S' := fun _ => True) (fun _ _ => trivial))
       have HC18 := Lib.hid (HC1.out.kept (fun r hr hlt => hu.block r hlt (fun hm => by have := HPT5.out.at_.sfpLt _ hm; omega)))
       have HB8 := Lib.hid ((bthen HB5.out HB57.out).trans (hu.below (bthen HB5.out HB57.out).size (fun k hk => Nat.le_trans HB3.out.size (by have := HPT5.out.above _ hk; have := HW3.out; omega))))
       have HQ8 := Lib.hid (show (frL es' m').length ≤ 40 by rw [frL_len]; have := HPT.out.len.2; have := HL2.out; omega)
       clear h9 hown hfz hu)
    | (go_at_call 14
       refine (play_freezeF (HPS.out.below HPT.out.base) (by have := HL.out; omega) w3.heap.size (fun p hp r hr => (HPS.out.at_.node p hp).lt r hr) ((HPS.out.items.lt.below HPT.out.base).imp (fun b hb => hb.2))).mono ?_
       rintro e w5 ⟨A5, c5, rfl, hown, hfz, -, -, hu⟩
       obtain ⟨w3', hw3, hpt⟩ := HPT.out.turn hu (fun r hr => HPS.out.at_.sfpLt r hr)
       have HO5 := Lib.hid hown
       have HFZ := Lib.hid hfz
       have HW3 := Lib.hid hw3
       have HPT5 := Lib.hid hpt
       have HESt := Lib.hid (show ∀ p ∈ es', ∀ r ∈ p.2.2.2, r < w4.heap.size from fun p hp r hr => (HPT.out.at_.node p hp).lt r hr)
       have HITt := Lib.hid (((HPT.out.items.lt.keepS hu.size (fun b hb hlt => hu.block b hlt (fun hm => by have := HPS.out.at_.sfpLt _ hm; have := hb.1.2; omega))).imp (fun b hb => hb.2)) : ItemsIn (fun b => b < w4.heap.size) w5 _ m')
       have HB5 := Lib.hid (HB4.out.trans (hu.below HB4.out.size (fun k hk => Nat.le_trans HB2.out.size (HPS.out.above _ hk))))
       have HQ5 := Lib.hid (show (frL es m).length ≤ 40 by rw [frL_len]; have := HPS.out.len.2; have := HL.out; omega)
       clear hown hfz hu hpt hw3)
    | (go_at_call 13
       have h9 := HO8
       refine (cut_one 2 A8 c8 (frL es' m') w8 _ (HO8.out.row eEn) HFZ8t.out.fz HQ8.out).mono ?_
       rintro e w10 ⟨C2, rfl, hc2, hb10⟩
       have HTC := Lib.hid (show TwoCuts w w10 rs rh C1 C2 es es' (.slice Am m.length cm) (.slice Am' m'.length cm') m m' from ⟨_, _, HC18.out.below hb10, hc2, HFZ8.out.below hb10, HFZ8t.out.below hb10, bthen HB8.out hb10⟩)
       clear h9 hc2 hb10)
    | (go_at_call 13
       refine (cut_one 1 A5 c5 (frL es m) w5 _ (HO5.out.row eEn) HFZ.out.fz HQ5.out).mono ?_
       rintro e w7 ⟨C1, rfl, hc1, hb7⟩
       have HC1 := Lib.hid hc1
       have HB57 := Lib.hid hb7
       clear hc1 hb7))
  have HIT := Lib.hid (show RowIn 12 itC w10 (.slice Am m.length cm) m ∧ RowIn 12 itC w10 (.slice Am' m'.length cm') m' ∧ (∀ x ∈ m, x.key.ok) ∧ (∀ x ∈ m', x.key.ok) ∧ (([(Am, cm, m), (Am', cm', m')] : List PartI).flatMap fun p => keysI p.2.2).length ≤ 1000 by
    obtain ⟨B1, B2, c1, c2, f1, f2, hb⟩ := HTC.out
    refine ⟨f1.2.1.1, f2.2.1.1, fun x hx => (tells_ok HPS.out.at_ HPS.out.tells x hx).2, fun x hx => (tells_ok HPT.out.at_ HPT.out.tells x hx).2, ?_⟩
    have h1 := HPS.out.len.2
    have h2 := HPT.out.len.2
    have h3 := HL.out
    have h4 := HL2.out
    simp [keysI]
    omega)
  have HLD := Lib.hid (show LoadsOf (fun _ => True) w10 m ∧ LoadsOf (fun _ => True) w10 m' from by
    obtain ⟨B1, B2, c1, c2, f1, f2, hb⟩ := HTC.out
    exact ⟨f1.2.2, f2.2.2⟩)
  have HOKS := Lib.hid (And.intro (tells_ok HPS.out.at_ HPS.out.tells) (tells_ok HPT.out.at_ HPT.out.tells))
  have HDIF := Lib.hid (fun U (hU : Below w10.heap.size w10 U) => two_differ (HTC.out.below hU) HPS.out.tells HPT.out.tells (fun p hp => by have := (HPS.out.at_.node p hp).ok; exact ⟨by have := this.len; have := HR.out.r2; omega, by have := this.past; have := HR.out.h2; omega⟩) (fun p hp => by have := (HPT.out.at_.node p hp).ok; exact ⟨by have := this.len; have := HR.out.r2; omega, by have := this.past; have := HR.out.h2; omega⟩) HR.out.r2 HR.out.h2 (by have := HPS.out.len.2; have := HL.out; omega) (by have := HPT.out.len.2; have := HL2.out; omega))
  have HBB := Lib.hid (show Below w.heap.size w w10 by obtain ⟨B1, B2, c1, c2, f1, f2, hb⟩ := HTC.out; exact hb)
  have HML := Lib.hid (show m.length ≤ 1000000 ∧ m'.length ≤ 1000000 by have h1 := HPS.out.len.2; have h2 := HPT.out.len.2; have h3 := HL.out; have h4 := HL2.out; omega)
  clear HPS HPT HPT5 HO5 HFZ HW3 HESt HITt HB5 HQ5 HO8 HFZ8t HFZ8 HC18 HB8 HQ8 HC1 HB57 HTC HB4 HB3
  have hkse : (([(Am, cm, m), (Am', cm', m')] : List PartI).flatMap fun p => keysI p.2.2) = keysI m ++ keysI m' := by simp
  have hksok : ∀ k ∈ risL (keysI m ++ keysI m'), k.ok := fun k hk => by
    rw [mem_risL, List.mem_append] at hk
    exact hk.elim (keysI_ok HIT.out.2.2.1 k) (keysI_ok HIT.out.2.2.2.1 k)
  have hksl : (risL (keysI m ++ keysI m')).length ≤ 1000 := Nat.le_trans (len_risL _) (by have := HIT.out.2.2.2.2; rw [hkse] at this; exact this)
  obtain ⟨L, hL, -⟩ := (HDIF.out w10 (Below.refl _ _)).1
  have hks0 := congrArg risL hkse
  generalize hks : risL (keysI m ++ keysI m') = ks at hks0 hksok hksl hL
  have HKS0 := Lib.hid hks0
  have HKO := Lib.hid hksok
  have HKL := Lib.hid hksl
  have HKSE := Lib.hid hks
  have HLE := Lib.hid hL
  clear hks0 hksok hksl hks hL hkse
  go_wp2_with (first
    | (go_at_call 26
       refine calls_named ?_
       intro W11 hW11
       have hb11 : Below w10.heap.size w10 W11 := by rw [hW11]; exact balloc (Below.refl _ _) _
       refine (r19keys_any _ [(Am, cm, m), (Am', cm', m')] W11 (by rw [hW11]; exact RowIn.lit2 w10 (Am, cm, m) (Am', cm', m') _ _ w10.heap.size rfl (fun _ => rfl) rfl) (by
         intro p hp
         rcases List.mem_cons.1 hp with rfl | hp
         · exact (HIT.out.1.below hb11)
         · obtain rfl := List.mem_singleton.1 hp
           exact (HIT.out.2.1.below hb11)) (by
         intro p hp
         rcases List.mem_cons.1 hp with rfl | hp
         · exact HIT.out.2.2.1
         · obtain rfl := List.mem_singleton.1 hp
           exact HIT.out.2.2.2.1) HIT.out.2.2.2.2 (by simp)).mono ?_
       rintro e w12 ⟨v12, rfl, h1, h2⟩
       rw [HKS0.out, cellsK_row] at h1
       obtain ⟨A12, c12, rfl⟩ := own_form h1
       have HK12 := Lib.hid (show OwnL keyC 40 2 _ w12 (.slice A12 ks.length c12) ks from h1)
       have HB12 := Lib.hid (bthen hb11 h2)
       clear hW11 hb11 h1 h2))
  have HKR := Lib.hid (HK12.out.row eKyC)
  have hksl9 : ks.length ≤ 9223372036854775807 := by have := HKL.out; omega
  have HB12w := Lib.hid (bthen HBB.out HB12.out)
  have CH1 := Lib.hid (show ∀ (k : Ky) U, k.ok → Below w10.heap.size w10 U → Calls Tryz.prog 21 #[.slice Am m.length cm, .agg #[.int .u64 k.1, .int .u64 k.2]] U fun e w' => e = .returned (.bool (hasI m k)) ∧ Below U.heap.size U w' from fun k U hk hU => ihas_any _ m k U (HIT.out.1.below hU) HML.out.1 HIT.out.2.2.1 hk)
  have CH2 := Lib.hid (show ∀ (k : Ky) U, k.ok → Below w10.heap.size w10 U → Calls Tryz.prog 21 #[.slice Am' m'.length cm', .agg #[.int .u64 k.1, .int .u64 k.2]] U fun e w' => e = .returned (.bool (hasI m' k)) ∧ Below U.heap.size U w' from fun k U hk hU => ihas_any _ m' k U (HIT.out.2.1.below hU) HML.out.2 HIT.out.2.2.2.1 hk)
  have CG1 := Lib.hid (show ∀ (k : Ky) U, k.ok → Below w10.heap.size w10 U → Calls Tryz.prog 23 #[.slice Am m.length cm, .agg #[.int .u64 k.1, .int .u64 k.2]] U fun e w' => e = .returned (.agg (loadC (getL m k)).toArray) ∧ Below U.heap.size U w' from fun k U hk hU => iget_any _ m k U (HIT.out.1.below hU) HML.out.1 HIT.out.2.2.1 hk)
  have CG2 := Lib.hid (show ∀ (k : Ky) U, k.ok → Below w10.heap.size w10 U → Calls Tryz.prog 23 #[.slice Am' m'.length cm', .agg #[.int .u64 k.1, .int .u64 k.2]] U fun e w' => e = .returned (.agg (loadC (getL m' k)).toArray) ∧ Below U.heap.size U w' from fun k U hk hU => iget_any _ m' k U (HIT.out.2.1.below hU) HML.out.2 HIT.out.2.2.2.1 hk)
  have CAL := Lib.hid (show ∀ (k : Ky) U, Below w10.heap.size w10 U → Calls Tryz.prog 27 #[.agg (loadC (getL m k)).toArray, .agg (loadC (getL m' k)).toArray] U fun e w' => e = .returned (.bool (alikeN (getL m k).nd (getL m' k).nd)) ∧ Below U.heap.size U w' from fun k U hU => ralike_any _ _ (getL m k) (getL m' k) U ((getL_load HLD.out.1 k).below hU) ((getL_load HLD.out.2 k).below hU) (by have h1 := sizes_of HOKS.out.1 HR.out.r2 HR.out.h2 k; have h2 := sizes_of HOKS.out.2 HR.out.r2 HR.out.h2 k; exact ⟨h1.1, h2.1, h1.2, h2.2⟩))
  clear HK12
  go_loopg [13, 56] ks.length (fun g s13 s56 wr => ∃ k : Nat, k ≤ ks.length ∧ ks.length - k ≤ g ∧ s56 = .int .i64 k ∧ OwnL keyC 40 2 w12.heap.size wr s13 ((ks.take k).filter (unlikeI m m')) ∧ Below w12.heap.size w12 wr)
  case atStart => exact ⟨0, Nat.zero_le _, Nat.le_refl _, rfl, by simp; exact OwnL.nil _ _, Below.refl _ _⟩
  case round =>
    obtain ⟨k, hk, hg, rfl, hown, hb⟩ := hrel
    rename World => wr
    obtain ⟨pre, hpre⟩ : ∃ pre, pre = (ks.take k).filter (unlikeI m m') := ⟨_, rfl⟩
    rw [← hpre] at hown
    obtain ⟨A5, c5, rfl⟩ := hown.form
    have HPL := Lib.hid (show pre.length ≤ k by rw [hpre]; exact Nat.le_trans (List.length_filter_le ..) (by simp; omega))
    have HPRE := Lib.hid hpre
    have HO := Lib.hid hown
    have HB := Lib.hid hb
    have HBw := Lib.hid (bthen HB12.out hb)
    clear hpre hown hb
    by_cases hlt : k < ks.length
    · obtain ⟨b1, o1, rfl, hb1, hc⟩ := (HKR.out.below HB.out).at_ hlt
      have z1 : (0 : Int) ≤ (k : Int) := by omega
      have z2 : (k : Int) < (ks.length : Int) := by omega
      have HTK := Lib.hid (show (ks.take (k + 1)).filter (unlikeI m m') = pre ++ [ks[k]].filter (unlikeI m m') by rw [List.take_succ_eq_append_getElem hlt, List.filter_append, HPRE.out])
      have HXO := Lib.hid (HKO.out _ (List.getElem_mem hlt))
      generalize ks[k] = x at hc HTK HXO
      have d0 := hc 0 _ rfl
      have d1 := hc 1 _ rfl
      rw [Nat.add_zero] at d0
      clear hc
      have HK := Lib.hid hlt
      have X1 := Lib.hid (fun U => CH1.out x U HXO.out)
      have X2 := Lib.hid (fun U => CH2.out x U HXO.out)
      have X3 := Lib.hid (fun U => CG1.out x U HXO.out)
      have X4 := Lib.hid (fun U => CG2.out x U HXO.out)
      have X5 := Lib.hid (CAL.out x)
      have HUN := Lib.hid (show unlikeI m m' x = (hasI m x != hasI m' x || !alikeN (getL m x).nd (getL m' x).nd) from rfl)
      generalize loadC (getL m x) = q1 at X3 X5
      generalize loadC (getL m' x) = q2 at X4 X5
      generalize hasI m x = f1 at X1 HUN
      generalize hasI m' x = f2 at X2 HUN
      generalize alikeN (getL m x).nd (getL m' x).nd = f3 at X5 HUN
      go_upto_region 12 with fail
      refine name_world ?_
      intro W4 hW4
      have hb4 : Below wr.heap.size wr W4 := by rw [hW4]; exact balloc (Below.refl _ _) _
      have HX4 := Lib.hid (show W4.heap[wr.heap.size]? = some (.cells #[.int .u64 x.1, .int .u64 x.2] 40 (0, 0)) by rw [hW4]; exact heap_alloc_new _ _)
      have HB4 := Lib.hid (bthen HBw.out hb4)
      have HB4q := Lib.hid (bthen HB.out hb4)
      have HB4p := Lib.hid hb4
      have HB4r := Lib.hid (Below.refl W4.heap.size W4)
      clear hW4 hb4 d0 d1
      by_cases hd : f1 = f2
      · subst hd
        as_aux_lemma =>
          refine wp_region_held_drew (S := (fun U : World => Below W4.heap.size W4 U)) (by kernel_rfl) ?hS11 (fun hHeld => ?_)
          case hS11 => first | with_reducible exact HB4r.out | exact HB4r.out.drew | with_reducible exact HB5.out | with_reducible exact HB6.out | with_reducible exact HB7.out | with_reducible exact HB8.out | with_reducible exact HB9.out
          refine wpAnyH_take (i := 0) (v := ?v12) rfl (by kernel_rfl) (by kernel_rfl) (by kernel_rfl) (fun _ _ _ h => h) (Or.inl ⟨by rfl, ?hy12⟩) (by assumption) ?_
          case hy12 =>
            intro w' hSw
            (try dsimp only at hSw)
            go_simp
            try (with_reducible rfl)
          try simp only [Act.put, List.getElem_toArray, List.getElem_cons_succ, List.getElem_cons_zero, List.setIfInBounds_toArray, List.set_cons_zero, List.set_cons_succ]
          refine wpAnyH_take (i := 1) (v := ?v13) rfl (by kernel_rfl) (by kernel_rfl) (by kernel_rfl) (fun _ _ _ h => h) (Or.inl ⟨by rfl, ?hy13⟩) (by assumption) ?_
          case hy13 =>
            intro w' hSw
            (try dsimp only at hSw)
            have q1 := (box_cells hSw HX4.out).1
            go_simp
            try (with_reducible rfl)
          try simp only [Act.put, List.getElem_toArray, List.getElem_cons_succ, List.getElem_cons_zero, List.setIfInBounds_toArray, List.set_cons_zero, List.set_cons_succ]
          refine wpAnyH_take (i := 3) (v := ?v14) rfl (by kernel_rfl) (by kernel_rfl) (by kernel_rfl) (fun _ _ _ h => h) (Or.inl ⟨by rfl, ?hy14⟩) (by assumption) ?_
          case hy14 =>
            intro w' hSw
            (try dsimp only at hSw)
            go_simp
            try (with_reducible rfl)
          try simp only [Act.put, List.getElem_toArray, List.getElem_cons_succ, List.getElem_cons_zero, List.setIfInBounds_toArray, List.set_cons_zero, List.set_cons_succ]
          refine wpAnyH_take (i := 4) (v := ?v15) rfl (by kernel_rfl) (by kernel_rfl) (by kernel_rfl) (fun _ _ _ h => h) (Or.inl ⟨by rfl, ?hy15⟩) (by assumption) ?_
          case hy15 =>
            intro w' hSw
            (try dsimp only at hSw)
            have q1 := (box_cells hSw HX4.out).1
            go_simp
            try (with_reducible rfl)
          try simp only [Act.put, List.getElem_toArray, List.getElem_cons_succ, List.getElem_cons_zero, List.setIfInBounds_toArray, List.set_cons_zero, List.set_cons_succ]
          refine wpAnyH_ready (rs := [2]) (by kernel_rfl) (by simp) ?_
          refine AllReadyH.cons rfl (fun K hK => ?_) AllReadyH.nil
          go_simp
          go_at_call 21
          refine calls_named ?_
          intro W5 hW5
          have hb5 : Below W4.heap.size W4 W5 := by rw [hW5]; first | exact Below.refl _ _ | exact (Below.refl _ _).drew
          clear hW5
          with_reducible refine (X1.out W5 (bthen HB4.out hb5)).mono ?_
          rintro e w5 ⟨rfl, hb6⟩
          have HB5 := Lib.hid (bthen hb5 hb6)
          clear hb5 hb6
          try go_simp
          refine hK.out _ _ ?hS16 (fun hHeld2 => ?_)
          case hS16 => first | with_reducible exact HB4r.out | exact HB4r.out.drew | with_reducible exact HB5.out | with_reducible exact HB6.out | with_reducible exact HB7.out | with_reducible exact HB8.out | with_reducible exact HB9.out
          clear hK K hHeld
          have hHeld := hHeld2
          clear hHeld2
          try simp only [Act.put, List.getElem_toArray, List.getElem_cons_succ, List.getElem_cons_zero, List.setIfInBounds_toArray, List.set_cons_zero, List.set_cons_succ]
          refine wpAnyH_ready (rs := [5]) (by kernel_rfl) (by simp) ?_
          refine AllReadyH.cons rfl (fun K hK => ?_) AllReadyH.nil
          go_simp
          go_at_call 21
          with_reducible refine (X2.out w5 (bthen HB4.out HB5.out)).mono ?_
          rintro e w6 ⟨rfl, hb6⟩
          have HB6 := Lib.hid (bthen HB5.out hb6)
          clear hb6
          try go_simp
          refine hK.out _ _ ?hS17 (fun hHeld2 => ?_)
          case hS17 => first | with_reducible exact HB4r.out | exact HB4r.out.drew | with_reducible exact HB5.out | with_reducible exact HB6.out | with_reducible exact HB7.out | with_reducible exact HB8.out | with_reducible exact HB9.out
          clear hK K hHeld
          have hHeld := hHeld2
          clear hHeld2
          try simp only [Act.put, List.getElem_toArray, List.getElem_cons_succ, List.getElem_cons_zero, List.setIfInBounds_toArray, List.set_cons_zero, List.set_cons_succ]
          refine wpAnyH_take (i := 6) (v := ?v18) rfl (by kernel_rfl) (by kernel_rfl) (by kernel_rfl) (fun _ _ _ h => h) (Or.inl ⟨by rfl, ?hy18⟩) (by assumption) ?_
          case hy18 =>
            intro w' hSw
            (try dsimp only at hSw)
            go_simp
            try (with_reducible rfl)
          try simp only [Act.put, List.getElem_toArray, List.getElem_cons_succ, List.getElem_cons_zero, List.setIfInBounds_toArray, List.set_cons_zero, List.set_cons_succ]
          refine wpAnyH_take (i := 7) (v := ?v19) rfl (by kernel_rfl) (by kernel_rfl) (by kernel_rfl) (fun _ _ _ h => h) (Or.inl ⟨by rfl, ?hy19⟩) (by assumption) ?_
          case hy19 =>
            intro w' hSw
            (try dsimp only at hSw)
            go_simp
            try (with_reducible rfl)
          try simp only [Act.put, List.getElem_toArray, List.getElem_cons_succ, List.getElem_cons_zero, List.setIfInBounds_toArray, List.set_cons_zero, List.set_cons_succ]
          refine wpAnyH_take (i := 8) (v := ?v20) rfl (by kernel_rfl) (by kernel_rfl) (by kernel_rfl) (fun _ _ _ h => h) (Or.inl ⟨by rfl, ?hy20⟩) (by assumption) ?_
          case hy20 =>
            intro w' hSw
            (try dsimp only at hSw)
            go_simp
            try (with_reducible rfl)
          try simp only [Act.put, List.getElem_toArray, List.getElem_cons_succ, List.getElem_cons_zero, List.setIfInBounds_toArray, List.set_cons_zero, List.set_cons_succ]
          refine wpAnyH_take (i := 9) (v := ?v21) rfl (by kernel_rfl) (by kernel_rfl) (by kernel_rfl) (fun _ _ _ h => h) (Or.inl ⟨by rfl, ?hy21⟩) (by assumption) ?_
          case hy21 =>
            intro w' hSw
            (try dsimp only at hSw)
            have q1 := (box_cells hSw HX4.out).1
            go_simp
            try (with_reducible rfl)
          try simp only [Act.put, List.getElem_toArray, List.getElem_cons_succ, List.getElem_cons_zero, List.setIfInBounds_toArray, List.set_cons_zero, List.set_cons_succ]
          refine wpAnyH_take (i := 11) (v := ?v22) rfl (by kernel_rfl) (by kernel_rfl) (by kernel_rfl) (fun _ _ _ h => h) (Or.inl ⟨by rfl, ?hy22⟩) (by assumption) ?_
          case hy22 =>
            intro w' hSw
            (try dsimp only at hSw)
            go_simp
            try (with_reducible rfl)
          try simp only [Act.put, List.getElem_toArray, List.getElem_cons_succ, List.getElem_cons_zero, List.setIfInBounds_toArray, List.set_cons_zero, List.set_cons_succ]
          refine wpAnyH_take (i := 12) (v := ?v23) rfl (by kernel_rfl) (by kernel_rfl) (by kernel_rfl) (fun _ _ _ h => h) (Or.inl ⟨by rfl, ?hy23⟩) (by assumption) ?_
          case hy23 =>
            intro w' hSw
            (try dsimp only at hSw)
            have q1 := (box_cells hSw HX4.out).1
            go_simp
            try (with_reducible rfl)
          try simp only [Act.put, List.getElem_toArray, List.getElem_cons_succ, List.getElem_cons_zero, List.setIfInBounds_toArray, List.set_cons_zero, List.set_cons_succ]
          refine wpAnyH_ready (rs := [10]) (by kernel_rfl) (by simp) ?_
          refine AllReadyH.cons rfl (fun K hK => ?_) AllReadyH.nil
          go_simp
          go_at_call 23
          with_reducible refine (X3.out w6 (bthen HB4.out HB6.out)).mono ?_
          rintro e w7 ⟨rfl, hb6⟩
          have HB7 := Lib.hid (bthen HB6.out hb6)
          clear hb6
          try go_simp
          refine hK.out _ _ ?hS24 (fun hHeld2 => ?_)
          case hS24 => first | with_reducible exact HB4r.out | exact HB4r.out.drew | with_reducible exact HB5.out | with_reducible exact HB6.out | with_reducible exact HB7.out | with_reducible exact HB8.out | with_reducible exact HB9.out
          clear hK K hHeld
          have hHeld := hHeld2
          clear hHeld2
          try simp only [Act.put, List.getElem_toArray, List.getElem_cons_succ, List.getElem_cons_zero, List.setIfInBounds_toArray, List.set_cons_zero, List.set_cons_succ]
          refine wpAnyH_ready (rs := [13]) (by kernel_rfl) (by simp) ?_
          refine AllReadyH.cons rfl (fun K hK => ?_) AllReadyH.nil
          go_simp
          go_at_call 23
          with_reducible refine (X4.out w7 (bthen HB4.out HB7.out)).mono ?_
          rintro e w8 ⟨rfl, hb6⟩
          have HB8 := Lib.hid (bthen HB7.out hb6)
          clear hb6
          try go_simp
          refine hK.out _ _ ?hS25 (fun hHeld2 => ?_)
          case hS25 => first | with_reducible exact HB4r.out | exact HB4r.out.drew | with_reducible exact HB5.out | with_reducible exact HB6.out | with_reducible exact HB7.out | with_reducible exact HB8.out | with_reducible exact HB9.out
          clear hK K hHeld
          have hHeld := hHeld2
          clear hHeld2
          try simp only [Act.put, List.getElem_toArray, List.getElem_cons_succ, List.getElem_cons_zero, List.setIfInBounds_toArray, List.set_cons_zero, List.set_cons_succ]
          refine wpAnyH_ready (rs := [14]) (by kernel_rfl) (by simp) ?_
          refine AllReadyH.cons rfl (fun K hK => ?_) AllReadyH.nil
          go_simp
          go_at_call 27
          with_reducible refine (X5.out w8 (bthen HB4.out HB8.out)).mono ?_
          rintro e w9 ⟨rfl, hb6⟩
          have HB9 := Lib.hid (bthen HB8.out hb6)
          clear hb6
          try go_simp
          refine hK.out _ _ ?hS26 (fun hHeld2 => ?_)
          case hS26 => first | with_reducible exact HB4r.out | exact HB4r.out.drew | with_reducible exact HB5.out | with_reducible exact HB6.out | with_reducible exact HB7.out | with_reducible exact HB8.out | with_reducible exact HB9.out
          clear hK K hHeld
          have hHeld := hHeld2
          clear hHeld2
          try simp only [Act.put, List.getElem_toArray, List.getElem_cons_succ, List.getElem_cons_zero, List.setIfInBounds_toArray, List.set_cons_zero, List.set_cons_succ]
          refine wpAnyH_take (i := 15) (v := ?v27) rfl (by kernel_rfl) (by kernel_rfl) (by kernel_rfl) (fun _ _ _ h => h) (Or.inl ⟨by rfl, ?hy27⟩) (by assumption) ?_
          case hy27 =>
            intro w' hSw
            (try dsimp only at hSw)
            go_simp
            try (with_reducible rfl)
          try simp only [Act.put, List.getElem_toArray, List.getElem_cons_succ, List.getElem_cons_zero, List.setIfInBounds_toArray, List.set_cons_zero, List.set_cons_succ]
          refine wpAnyH_take (i := 16) (v := ?v28) rfl (by kernel_rfl) (by kernel_rfl) (by kernel_rfl) (fun _ _ _ h => h) (Or.inl ⟨by rfl, ?hy28⟩) (by assumption) ?_
          case hy28 =>
            intro w' hSw
            (try dsimp only at hSw)
            go_simp
            try (with_reducible rfl)
          try simp only [Act.put, List.getElem_toArray, List.getElem_cons_succ, List.getElem_cons_zero, List.setIfInBounds_toArray, List.set_cons_zero, List.set_cons_succ]
          refine wpAnyH_done (by kernel_rfl) ?_ _
          obtain ⟨e1, e2, e3⟩ := box_cells HB9.out HX4.out
          cases f3
          · go_wp2_with (first
              | (at_builtin
                 refine wpList_appendL eKyC (by rfl) (by rfl) w12.heap.size pre [x] (.slice A5 pre.length c5) _ (by rfl) (by rfl) ((HO.out.below (bthen HB4p.out HB9.out)).below (balloc (Below.refl _ _) _)) (RowIn.lit _ x _ _ w9.heap.size rfl rfl) (by have := HPL.out; have := HKL.out; have := HK.out; simp; omega) (by have := (bthen HB4q.out HB9.out).size; simp; omega) ?_
                 intro out2 A9 c9 w13 hout2 hown2 hg2 _
                 have HO13 := Lib.hid hout2
                 have HW13 := Lib.hid hown2
                 have HB13 := Lib.hid (show Below w12.heap.size w12 w13 from (bthen HB4q.out (bthen HB9.out (balloc (Below.refl _ _) _))).trans (grown_own hg2 HO.out (by have := (bthen HB4q.out HB9.out).size; simp; omega)))
                 clear hout2 hown2 hg2))
            go_roundg (ks.length - (k + 1))
            case measure => omega
            case rel => exact ⟨k + 1, HK.out, Nat.le_refl _, by go_num, by rw [HTK.out, show [x].filter (unlikeI m m') = [x] by simp [HUN.out], ← HO13.out]; exact HW13.out, HB13.out⟩
          · go_wp2_with fail
            go_roundg (ks.length - (k + 1))
            case measure => omega
            case rel => exact ⟨k + 1, HK.out, Nat.le_refl _, by go_num, by rw [HTK.out, show [x].filter (unlikeI m m') = [] by simp [HUN.out], List.append_nil]; exact HO.out.below (bthen HB4p.out HB9.out), bthen HB4q.out HB9.out⟩
      · have hd1 : (f1 == f2) = false := by simpa using hd
        as_aux_lemma =>
          refine wp_region_held_drew (S := (fun U : World => Below W4.heap.size W4 U)) (by kernel_rfl) ?hS1 (fun hHeld => ?_)
          case hS1 => first | with_reducible exact HB4r.out | exact HB4r.out.drew | with_reducible exact HB5.out | with_reducible exact HB6.out
          refine wpAnyH_take (i := 0) (v := ?v2) rfl (by kernel_rfl) (by kernel_rfl) (by kernel_rfl) (fun _ _ _ h => h) (Or.inl ⟨by rfl, ?hy2⟩) (by assumption) ?_
          case hy2 =>
            intro w' hSw
            (try dsimp only at hSw)
            go_simp
            try (with_reducible rfl)
          try simp only [Act.put, List.getElem_toArray, List.getElem_cons_succ, List.getElem_cons_zero, List.setIfInBounds_toArray, List.set_cons_zero, List.set_cons_succ]
          refine wpAnyH_take (i := 1) (v := ?v3) rfl (by kernel_rfl) (by kernel_rfl) (by kernel_rfl) (fun _ _ _ h => h) (Or.inl ⟨by rfl, ?hy3⟩) (by assumption) ?_
          case hy3 =>
            intro w' hSw
            (try dsimp only at hSw)
            have q1 := (box_cells hSw HX4.out).1
            go_simp
            try (with_reducible rfl)
          try simp only [Act.put, List.getElem_toArray, List.getElem_cons_succ, List.getElem_cons_zero, List.setIfInBounds_toArray, List.set_cons_zero, List.set_cons_succ]
          refine wpAnyH_take (i := 3) (v := ?v4) rfl (by kernel_rfl) (by kernel_rfl) (by kernel_rfl) (fun _ _ _ h => h) (Or.inl ⟨by rfl, ?hy4⟩) (by assumption) ?_
          case hy4 =>
            intro w' hSw
            (try dsimp only at hSw)
            go_simp
            try (with_reducible rfl)
          try simp only [Act.put, List.getElem_toArray, List.getElem_cons_succ, List.getElem_cons_zero, List.setIfInBounds_toArray, List.set_cons_zero, List.set_cons_succ]
          refine wpAnyH_take (i := 4) (v := ?v5) rfl (by kernel_rfl) (by kernel_rfl) (by kernel_rfl) (fun _ _ _ h => h) (Or.inl ⟨by rfl, ?hy5⟩) (by assumption) ?_
          case hy5 =>
            intro w' hSw
            (try dsimp only at hSw)
            have q1 := (box_cells hSw HX4.out).1
            go_simp
            try (with_reducible rfl)
          try simp only [Act.put, List.getElem_toArray, List.getElem_cons_succ, List.getElem_cons_zero, List.setIfInBounds_toArray, List.set_cons_zero, List.set_cons_succ]
          refine wpAnyH_ready (rs := [2]) (by kernel_rfl) (by simp) ?_
          refine AllReadyH.cons rfl (fun K hK => ?_) AllReadyH.nil
          go_simp
          go_at_call 21
          refine calls_named ?_
          intro W5 hW5
          have hb5 : Below W4.heap.size W4 W5 := by rw [hW5]; first | exact Below.refl _ _ | exact (Below.refl _ _).drew
          clear hW5
          with_reducible refine (X1.out W5 (bthen HB4.out hb5)).mono ?_
          rintro e w5 ⟨rfl, hb6⟩
          have HB5 := Lib.hid (bthen hb5 hb6)
          clear hb5 hb6
          try go_simp
          refine hK.out _ _ ?hS6 (fun hHeld2 => ?_)
          case hS6 => first | with_reducible exact HB4r.out | exact HB4r.out.drew | with_reducible exact HB5.out | with_reducible exact HB6.out
          clear hK K hHeld
          have hHeld := hHeld2
          clear hHeld2
          try simp only [Act.put, List.getElem_toArray, List.getElem_cons_succ, List.getElem_cons_zero, List.setIfInBounds_toArray, List.set_cons_zero, List.set_cons_succ]
          refine wpAnyH_ready (rs := [5]) (by kernel_rfl) (by simp) ?_
          refine AllReadyH.cons rfl (fun K hK => ?_) AllReadyH.nil
          go_simp
          go_at_call 21
          with_reducible refine (X2.out w5 (bthen HB4.out HB5.out)).mono ?_
          rintro e w6 ⟨rfl, hb6⟩
          have HB6 := Lib.hid (bthen HB5.out hb6)
          clear hb6
          try go_simp
          refine hK.out _ _ ?hS7 (fun hHeld2 => ?_)
          case hS7 => first | with_reducible exact HB4r.out | exact HB4r.out.drew | with_reducible exact HB5.out | with_reducible exact HB6.out
          clear hK K hHeld
          have hHeld := hHeld2
          clear hHeld2
          try simp only [Act.put, List.getElem_toArray, List.getElem_cons_succ, List.getElem_cons_zero, List.setIfInBounds_toArray, List.set_cons_zero, List.set_cons_succ]
          refine wpAnyH_take (i := 6) (v := ?v8) rfl (by kernel_rfl) (by kernel_rfl) (by kernel_rfl) (fun _ _ _ h => h) (Or.inl ⟨by rfl, ?hy8⟩) (by assumption) ?_
          case hy8 =>
            intro w' hSw
            (try dsimp only at hSw)
            go_simp
            try (with_reducible rfl)
          try simp only [Act.put, List.getElem_toArray, List.getElem_cons_succ, List.getElem_cons_zero, List.setIfInBounds_toArray, List.set_cons_zero, List.set_cons_succ]
          refine wpAnyH_take (i := 7) (v := ?v9) rfl (by kernel_rfl) (by kernel_rfl) (by kernel_rfl) (fun _ _ _ h => h) (Or.inl ⟨by rfl, ?hy9⟩) (by assumption) ?_
          case hy9 =>
            intro w' hSw
            (try dsimp only at hSw)
            go_simp
            try (with_reducible rfl)
          try simp only [Act.put, List.getElem_toArray, List.getElem_cons_succ, List.getElem_cons_zero, List.setIfInBounds_toArray, List.set_cons_zero, List.set_cons_succ]
          refine wpAnyH_take (i := 8) (v := undef) rfl (by kernel_rfl) (by kernel_rfl) (by kernel_rfl) (fun _ _ _ h => h) (Or.inr ⟨by go_simp, rfl⟩) (by assumption) ?_
          try simp only [Act.put, List.getElem_toArray, List.getElem_cons_succ, List.getElem_cons_zero, List.setIfInBounds_toArray, List.set_cons_zero, List.set_cons_succ]
          refine wpAnyH_take (i := 9) (v := undef) rfl (by kernel_rfl) (by kernel_rfl) (by kernel_rfl) (fun _ _ _ h => h) (Or.inr ⟨by go_simp, rfl⟩) (by assumption) ?_
          try simp only [Act.put, List.getElem_toArray, List.getElem_cons_succ, List.getElem_cons_zero, List.setIfInBounds_toArray, List.set_cons_zero, List.set_cons_succ]
          refine wpAnyH_take (i := 10) (v := undef) rfl (by kernel_rfl) (by kernel_rfl) (by kernel_rfl) (fun _ _ _ h => h) (Or.inr ⟨by go_simp, rfl⟩) (by assumption) ?_
          try simp only [Act.put, List.getElem_toArray, List.getElem_cons_succ, List.getElem_cons_zero, List.setIfInBounds_toArray, List.set_cons_zero, List.set_cons_succ]
          refine wpAnyH_take (i := 11) (v := undef) rfl (by kernel_rfl) (by kernel_rfl) (by kernel_rfl) (fun _ _ _ h => h) (Or.inr ⟨by go_simp, rfl⟩) (by assumption) ?_
          try simp only [Act.put, List.getElem_toArray, List.getElem_cons_succ, List.getElem_cons_zero, List.setIfInBounds_toArray, List.set_cons_zero, List.set_cons_succ]
          refine wpAnyH_take (i := 12) (v := undef) rfl (by kernel_rfl) (by kernel_rfl) (by kernel_rfl) (fun _ _ _ h => h) (Or.inr ⟨by go_simp, rfl⟩) (by assumption) ?_
          try simp only [Act.put, List.getElem_toArray, List.getElem_cons_succ, List.getElem_cons_zero, List.setIfInBounds_toArray, List.set_cons_zero, List.set_cons_succ]
          refine wpAnyH_take (i := 13) (v := undef) rfl (by kernel_rfl) (by kernel_rfl) (by kernel_rfl) (fun _ _ _ h => h) (Or.inr ⟨by go_simp, rfl⟩) (by assumption) ?_
          try simp only [Act.put, List.getElem_toArray, List.getElem_cons_succ, List.getElem_cons_zero, List.setIfInBounds_toArray, List.set_cons_zero, List.set_cons_succ]
          refine wpAnyH_take (i := 14) (v := undef) rfl (by kernel_rfl) (by kernel_rfl) (by kernel_rfl) (fun _ _ _ h => h) (Or.inr ⟨by go_simp, rfl⟩) (by assumption) ?_
          try simp only [Act.put, List.getElem_toArray, List.getElem_cons_succ, List.getElem_cons_zero, List.setIfInBounds_toArray, List.set_cons_zero, List.set_cons_succ]
          refine wpAnyH_take (i := 15) (v := undef) rfl (by kernel_rfl) (by kernel_rfl) (by kernel_rfl) (fun _ _ _ h => h) (Or.inr ⟨by go_simp, rfl⟩) (by assumption) ?_
          try simp only [Act.put, List.getElem_toArray, List.getElem_cons_succ, List.getElem_cons_zero, List.setIfInBounds_toArray, List.set_cons_zero, List.set_cons_succ]
          refine wpAnyH_take (i := 16) (v := ?v10) rfl (by kernel_rfl) (by kernel_rfl) (by kernel_rfl) (fun _ _ _ h => h) (Or.inl ⟨by rfl, ?hy10⟩) (by assumption) ?_
          case hy10 =>
            intro w' hSw
            (try dsimp only at hSw)
            go_simp
            try (with_reducible rfl)
          try simp only [Act.put, List.getElem_toArray, List.getElem_cons_succ, List.getElem_cons_zero, List.setIfInBounds_toArray, List.set_cons_zero, List.set_cons_succ]
          refine wpAnyH_done (by kernel_rfl) ?_ _
          obtain ⟨e1, e2, e3⟩ := box_cells HB6.out HX4.out
          go_wp2_with (first
            | (at_builtin
               refine wpList_appendL eKyC (by rfl) (by rfl) w12.heap.size pre [x] (.slice A5 pre.length c5) _ (by rfl) (by rfl) ((HO.out.below (bthen HB4p.out HB6.out)).below (balloc (Below.refl _ _) _)) (RowIn.lit _ x _ _ w6.heap.size rfl rfl) (by have := HPL.out; have := HKL.out; have := HK.out; simp; omega) (by have := (bthen HB4q.out HB6.out).size; simp; omega) ?_
               intro out2 A9 c9 w13 hout2 hown2 hg2 _
               have HO13 := Lib.hid hout2
               have HW13 := Lib.hid hown2
               have HB13 := Lib.hid (show Below w12.heap.size w12 w13 from (bthen HB4q.out (bthen HB6.out (balloc (Below.refl _ _) _))).trans (grown_own hg2 HO.out (by have := (bthen HB4q.out HB6.out).size; simp; omega)))
               clear hout2 hown2 hg2))
          go_roundg (ks.length - (k + 1))
          case measure => omega
          case rel => exact ⟨k + 1, HK.out, Nat.le_refl _, by go_num, by rw [HTK.out, show [x].filter (unlikeI m m') = [x] by simp [HUN.out, hd1, bne], ← HO13.out]; exact HW13.out, HB13.out⟩
    · obtain rfl : k = ks.length := by omega
      have hp := HPRE.out
      rw [List.take_length, ← HLE.out] at hp
      subst hp
      have HD1 := Lib.hid (HDIF.out wr HBw.out)
      have HS1 := Lib.hid (show sameK pre pre = true from by simp [sameK])
      have HLL := Lib.hid (show pre.length ≤ maxLen by have := HPL.out; have := HKL.out; unfold maxLen; omega)
      go_wp2_with (first
        | (go_at_call 29
           have h9 := HS15
           with_reducible refine (HDIF.out w15 (bthen HBw.out HB15.out)).2 w15 (Below.refl _ _) |>.mono ?_
           rintro e w16 ⟨A16, c16, rfl, hb⟩
           have HB16 := Lib.hid (bthen HB15.out hb)
           clear hb h9)
        | (go_at_call 29
           obtain ⟨L2, hL2, hcd⟩ := HD1.out.1
           rw [HKSE.out, ← HLE.out] at hL2
           rw [hL2] at hcd
           refine hcd.mono ?_
           rintro e w14 ⟨A14, c14, rfl, ho, hb⟩
           have HK14 := Lib.hid (keysIn_row (ho.row eKyC))
           have HK5 := Lib.hid (keysIn_row ((HO.out.below hb).row eKyC))
           have HB14 := Lib.hid hb
           clear ho hb hcd hL2)
        | (go_at_call 28
           refine (same_any _ _ pre pre w14 HK14.out HK5.out HLL.out HLL.out).mono ?_
           rw [HS1.out]
           rintro e w15 ⟨rfl, hb⟩
           have HB15 := Lib.hid (bthen HB14.out hb)
           have HS15 := Lib.hid True.intro
           clear hb))
      go_ret
      exact ⟨rfl, bthen (bthen HB12w.out HB.out) HB16.out⟩
end

section
set_option linter.unusedSimpArgs false
set_option linter.unusedVariables false
open Go.RowKit Go.Lib Go.Sort

set_option maxRecDepth 100000 in
set_option maxHeartbeats 4000000 in
theorem cdiffers_nil (c : Cfg) (A1 : Option Addr) (n1 c1 : Nat) (A2 : Option Addr) (n2 c2 : Nat)  (w : World)  (hok : c.ok) (hc : cfgB c = false) :
    Calls Tryz.prog 5 #[cfgV c, .slice A1 n1 c1, .slice A2 n2 c2] w fun e w' => e = .returned (.bool true) ∧ Below w.heap.size w w' := by
  have HRT : Hid (∀ W, Calls Tryz.prog 11 #[.agg #[.int .i64 c.st, .int .i64 c.sa, .int .i64 c.lo, .int .i64 c.hi]] W fun e w' => e = .returned (.bool false) ∧ Below W.heap.size W w') := Lib.hid (fun W => by have := ref17Right_any c W; rw [hc] at this; exact this)
  unfold cfgV
  clear hc hok 
  go_enter Tryz.func5, Tryz.ntmps5
  go_wp2_with (first
    | (go_at_call 10
       refine calls_named ?_
       intro W0 hW0
       have hb0 : Below w.heap.size w W0 := by rw [hW0]; first | exact balloc (Below.refl _ _) _ | exact balloc (balloc (Below.refl _ _) _) _
       have hxc : W0.heap[w.heap.size]? = some (.cells #[.int .i64 c.st, .int .i64 c.sa, .int .i64 c.lo, .int .i64 c.hi] 23 (0, 0)) := by rw [hW0]; first | exact heap_alloc_new _ _ | exact (Below.heap_alloc _ _ _ (by simp)).trans (heap_alloc_new _ _)
       clear hW0
       refine (awake19_any W0).mono ?_
       rintro e w1 ⟨rfl, hb1⟩
       obtain ⟨hxc1, hxc1f, hxc1l⟩ := box_cells hb1 hxc
       have HHXC := Lib.hid ((hb1.block _ (Array.getElem?_eq_some_iff.1 hxc).1).trans hxc)
       have HB1 := Lib.hid (bthen hb0 hb1)
       clear hb0 hxc hb1)
    | (go_at_call 11
       refine (HRT.out _).mono ?_
       rintro e w2 ⟨rfl, hb⟩
       obtain ⟨hx2, hx2f, hx2l⟩ := box_cells hb HHXC.out
       have HB2 := Lib.hid (bthen HB1.out hb)
       clear hb))
  go_ret
  exact ⟨rfl, HB2.out⟩

set_option maxRecDepth 100000 in
set_option maxHeartbeats 4000000 in
theorem cdiffers_long1 (c : Cfg) (A1 : Option Addr) (n1 c1 : Nat) (A2 : Option Addr) (n2 c2 : Nat)  (w : World)  (h1 : 30 < n1) (hok : c.ok) (hc : cfgB c = true) :
    Calls Tryz.prog 5 #[cfgV c, .slice A1 n1 c1, .slice A2 n2 c2] w fun e w' => e = .returned (.bool true) ∧ Below w.heap.size w w' := by
  have HRT : Hid (∀ W, Calls Tryz.prog 11 #[.agg #[.int .i64 c.st, .int .i64 c.sa, .int .i64 c.lo, .int .i64 c.hi]] W fun e w' => e = .returned (.bool true) ∧ Below W.heap.size W w') := Lib.hid (fun W => by have := ref17Right_any c W; rw [hc] at this; exact this)
  have q1 : (30 : Int) < (n1 : Int) := by omega
  unfold cfgV
  clear hc hok h1
  go_enter Tryz.func5, Tryz.ntmps5
  go_wp2_with (first
    | (go_at_call 10
       refine calls_named ?_
       intro W0 hW0
       have hb0 : Below w.heap.size w W0 := by rw [hW0]; first | exact balloc (Below.refl _ _) _ | exact balloc (balloc (Below.refl _ _) _) _
       have hxc : W0.heap[w.heap.size]? = some (.cells #[.int .i64 c.st, .int .i64 c.sa, .int .i64 c.lo, .int .i64 c.hi] 23 (0, 0)) := by rw [hW0]; first | exact heap_alloc_new _ _ | exact (Below.heap_alloc _ _ _ (by simp)).trans (heap_alloc_new _ _)
       clear hW0
       refine (awake19_any W0).mono ?_
       rintro e w1 ⟨rfl, hb1⟩
       obtain ⟨hxc1, hxc1f, hxc1l⟩ := box_cells hb1 hxc
       have HHXC := Lib.hid ((hb1.block _ (Array.getElem?_eq_some_iff.1 hxc).1).trans hxc)
       have HB1 := Lib.hid (bthen hb0 hb1)
       clear hb0 hxc hb1)
    | (go_at_call 11
       refine (HRT.out _).mono ?_
       rintro e w2 ⟨rfl, hb⟩
       obtain ⟨hx2, hx2f, hx2l⟩ := box_cells hb HHXC.out
       have HB2 := Lib.hid (bthen HB1.out hb)
       clear hb))
  go_ret
  exact ⟨rfl, HB2.out⟩

set_option maxRecDepth 100000 in
set_option maxHeartbeats 4000000 in
theorem cdiffers_long2 (c : Cfg) (A1 : Option Addr) (n1 c1 : Nat) (A2 : Option Addr) (n2 c2 : Nat)  (w : World) (h1 : n1 ≤ 30) (h2 : 30 < n2) (hok : c.ok) (hc : cfgB c = true) :
    Calls Tryz.prog 5 #[cfgV c, .slice A1 n1 c1, .slice A2 n2 c2] w fun e w' => e = .returned (.bool true) ∧ Below w.heap.size w w' := by
  have HRT : Hid (∀ W, Calls Tryz.prog 11 #[.agg #[.int .i64 c.st, .int .i64 c.sa, .int .i64 c.lo, .int .i64 c.hi]] W fun e w' => e = .returned (.bool true) ∧ Below W.heap.size W w') := Lib.hid (fun W => by have := ref17Right_any c W; rw [hc] at this; exact this)
  have q1 : ¬ (30 : Int) < (n1 : Int) := by omega
  have q2 : (30 : Int) < (n2 : Int) := by omega
  unfold cfgV
  clear hc hok h1 h2
  go_enter Tryz.func5, Tryz.ntmps5
  go_wp2_with (first
    | (go_at_call 10
       refine calls_named ?_
       intro W0 hW0
       have hb0 : Below w.heap.size w W0 := by rw [hW0]; first | exact balloc (Below.refl _ _) _ | exact balloc (balloc (Below.refl _ _) _) _
       have hxc : W0.heap[w.heap.size]? = some (.cells #[.int .i64 c.st, .int .i64 c.sa, .int .i64 c.lo, .int .i64 c.hi] 23 (0, 0)) := by rw [hW0]; first | exact heap_alloc_new _ _ | exact (Below.heap_alloc _ _ _ (by simp)).trans (heap_alloc_new _ _)
       clear hW0
       refine (awake19_any W0).mono ?_
       rintro e w1 ⟨rfl, hb1⟩
       obtain ⟨hxc1, hxc1f, hxc1l⟩ := box_cells hb1 hxc
       have HHXC := Lib.hid ((hb1.block _ (Array.getElem?_eq_some_iff.1 hxc).1).trans hxc)
       have HB1 := Lib.hid (bthen hb0 hb1)
       clear hb0 hxc hb1)
    | (go_at_call 11
       refine (HRT.out _).mono ?_
       rintro e w2 ⟨rfl, hb⟩
       obtain ⟨hx2, hx2f, hx2l⟩ := box_cells hb HHXC.out
       have HB2 := Lib.hid (bthen HB1.out hb)
       clear hb))
  go_ret
  exact ⟨rfl, HB2.out⟩
end

section
set_option linter.unusedSimpArgs false
set_option linter.unusedVariables false
open Go.RowKit Go.Lib Go.ChangeShapes Go.WideShapes Go.Joins

theorem i64_of_wf {n : Int} (h : (Lit.int .i64 n).wf = true) : I64 n := by simpa [Lit.wf, IntKind.min, IntKind.max, IntKind.signed, IntKind.bits, I64] using h

theorem cl_pol : Tryz.prog.cellsOf 44 = 6 := by kernel_rfl
theorem cl_call : Tryz.prog.cellsOf 85 = 11 := by kernel_rfl
theorem cl_i64 : Tryz.prog.cellsOf 2 = 1 := by kernel_rfl
theorem cl_int : Tryz.prog.cellsOf 3 = 1 := by kernel_rfl
theorem cl_str : Tryz.prog.cellsOf 9 = 1 := by kernel_rfl

theorem list6 {α : Type} {l : List α} (h : l.length = 6) : ∃ a0 a1 a2 a3 a4 a5, l = [a0, a1, a2, a3, a4, a5] := by
  match l, h with
  | [a0, a1, a2, a3, a4, a5], _ => exact ⟨_, _, _, _, _, _, rfl⟩
theorem list11 {α : Type} {l : List α} (h : l.length = 11) : ∃ a0 a1 a2 a3 a4 a5 a6 a7 a8 a9 a10, l = [a0, a1, a2, a3, a4, a5, a6, a7, a8, a9, a10] := by
  match l, h with
  | [a0, a1, a2, a3, a4, a5, a6, a7, a8, a9, a10], _ => exact ⟨_, _, _, _, _, _, _, _, _, _, _, rfl⟩

section
variable {H : Type} {enc : TypeId × Value → H} {w : World} {base : Nat} {spare : Nat → Bool} {held : Bool}

/-- One field of a struct that is a number. -/
theorem field_i64 {fuel : Nat} {t : TypeId} (ht : Tryz.prog.underlying t = some (.int .i64)) (hc : Tryz.prog.cellsOf t = 1) {cs : List Value} {xs : List (DataW H × List MemPlace)} {i o : Nat} (hi : i < xs.length) {v : Value} (hv : cs.drop o = v :: cs.drop (o + 1))
    (h : DataW.trod enc Tryz.prog w base spare held fuel t ((cs.drop o).take (Tryz.prog.cellsOf t)) = xs[i]?) : ∃ n, v = .int .i64 n ∧ I64 n := by
  rw [hc, hv, List.take_succ_cons, List.take_zero, List.getElem?_eq_getElem hi] at h
  obtain ⟨n, hn, _, hw⟩ := DataW.trod_int ht h
  simp only [List.cons.injEq, and_true] at hn
  exact ⟨n, hn, i64_of_wf hw⟩

theorem field_str {fuel : Nat} {t : TypeId} (ht : Tryz.prog.underlying t = some .string) (hc : Tryz.prog.cellsOf t = 1) {cs : List Value} {xs : List (DataW H × List MemPlace)} {i o : Nat} (hi : i < xs.length) {v : Value} (hv : cs.drop o = v :: cs.drop (o + 1))
    (h : DataW.trod enc Tryz.prog w base spare held fuel t ((cs.drop o).take (Tryz.prog.cellsOf t)) = xs[i]?) : ∃ s : ByteArray, v = .string s ∧ s.size ≤ maxLen := by
  rw [hc, hv, List.take_succ_cons, List.take_zero, List.getElem?_eq_getElem hi] at h
  obtain ⟨n, hn, _, hw⟩ := DataW.trod_string ht h
  simp only [List.cons.injEq, and_true] at hn
  exact ⟨n, hn, hw⟩

theorem pol_reads {fuel : Nat} {cs : List Value} {x : DataW H × List MemPlace} (h : DataW.trod enc Tryz.prog w base spare held fuel 44 cs = some x) :
    ∃ p : Pol, p.ok ∧ cs = [.int .i64 p.mn, .int .i64 p.mx, .int .i64 p.tg, .int .i64 p.tol, .int .i64 p.win, .int .i64 p.hold] := by
  obtain ⟨xs, n, _, _, hl, hx, hf⟩ := DataW.trod_struct Tryz.underlying44 h
  rw [cl_pol] at hl
  replace hx : xs.length = 6 := hx
  obtain ⟨a0, a1, a2, a3, a4, a5, rfl⟩ := list6 hl
  obtain ⟨n0, rfl, k0⟩ := field_i64 Tryz.underlying2 cl_i64 (i := 0) (by omega) (o := 0) rfl (hf 0 _ rfl)
  obtain ⟨n1, rfl, k1⟩ := field_i64 Tryz.underlying2 cl_i64 (i := 1) (by omega) (o := 1) rfl (hf 1 _ rfl)
  obtain ⟨n2, rfl, k2⟩ := field_i64 Tryz.underlying2 cl_i64 (i := 2) (by omega) (o := 2) rfl (hf 2 _ rfl)
  obtain ⟨n3, rfl, k3⟩ := field_i64 Tryz.underlying2 cl_i64 (i := 3) (by omega) (o := 3) rfl (hf 3 _ rfl)
  obtain ⟨n4, rfl, k4⟩ := field_i64 Tryz.underlying2 cl_i64 (i := 4) (by omega) (o := 4) rfl (hf 4 _ rfl)
  obtain ⟨n5, rfl, k5⟩ := field_i64 Tryz.underlying2 cl_i64 (i := 5) (by omega) (o := 5) rfl (hf 5 _ rfl)
  exact ⟨⟨n0, n1, n2, n3, n4, n5⟩, ⟨k0, k1, k2, k3, k4, k5⟩, rfl⟩

theorem call_reads {fuel : Nat} {cs : List Value} {x : DataW H × List MemPlace} (h : DataW.trod enc Tryz.prog w base spare held fuel 85 cs = some x) :
    ∃ c : CallD, c.ok ∧ cs = callCells c := by
  obtain ⟨xs, n, _, _, hl, hx, hf⟩ := DataW.trod_struct Tryz.underlying85 h
  rw [cl_call] at hl
  replace hx : xs.length = 6 := hx
  obtain ⟨a0, a1, a2, a3, a4, a5, a6, a7, a8, a9, a10, rfl⟩ := list11 hl
  obtain ⟨n0, rfl, k0⟩ := field_i64 Tryz.underlying3 cl_int (i := 0) (by omega) (o := 0) rfl (hf 0 _ rfl)
  obtain ⟨n1, rfl, k1⟩ := field_str Tryz.underlying9 cl_str (i := 1) (by omega) (o := 1) rfl (hf 1 _ rfl)
  obtain ⟨n2, rfl, k2⟩ := field_i64 Tryz.underlying2 cl_i64 (i := 2) (by omega) (o := 2) rfl (hf 2 _ rfl)
  obtain ⟨n3, rfl, k3⟩ := field_i64 Tryz.underlying2 cl_i64 (i := 3) (by omega) (o := 3) rfl (hf 3 _ rfl)
  obtain ⟨n4, rfl, k4⟩ := field_i64 Tryz.underlying3 cl_int (i := 4) (by omega) (o := 4) rfl (hf 4 _ rfl)
  have h5 := hf 5 _ rfl
  rw [List.getElem?_eq_getElem (by omega)] at h5
  obtain ⟨p, k5, hp⟩ := pol_reads h5
  replace hp : ([a5, a6, a7, a8, a9, a10] : List Value).take (Tryz.prog.cellsOf 44) = _ := hp
  rw [cl_pol] at hp
  simp only [List.take_succ_cons, List.take_zero, List.cons.injEq, and_true] at hp
  obtain ⟨rfl, rfl, rfl, rfl, rfl, rfl⟩ := hp
  exact ⟨⟨n0, n1, n2, n3, n4, p⟩, ⟨k0, k1, k2, k3, k4, k5⟩, rfl⟩

theorem calls_row {fuel : Nat} {cs : List Value} {x : DataW H × List MemPlace} (h : DataW.trod enc Tryz.prog w base spare held fuel 79 cs = some x) :
    ∃ (v : Value) (l : List CallD), cs = [v] ∧ l.length ≤ maxLen ∧ (∀ p ∈ l, p.ok) ∧ RowIn 11 callCells w v l := by
  haveI : Inhabited CallD := ⟨⟨0, ⟨#[]⟩, 0, 0, 0, ⟨0, 0, 0, 0, 0, 0⟩⟩⟩
  exact row_read (f := callCells) Tryz.underlying79 cl_call (by decide) (fun _ _ _ h => call_reads h) h
end
end

section
set_option linter.unusedSimpArgs false
set_option linter.unusedVariables false
open Go.RowKit Go.Lib Go.ChangeShapes Go.WideShapes Go.Joins

theorem cfg_okW {c : Cfg} (hc : cfgB c = true) (hok : c.ok) : CfgOk c c.sa.toNat c.hi.toNat := by
  have h := hc
  unfold cfgB at h
  simp only [Bool.and_eq_true, decide_eq_true_eq] at h
  exact ⟨hc, by omega, by omega, hok⟩
section
variable {H : Type} {enc : TypeId × Value → H} {w : World} {base : Nat} {spare : Nat → Bool} {held : Bool}
set_option maxRecDepth 100000 in
theorem ssmp_readsI {fuel : Nat} {cs : List Value} {x : DataW H × List MemPlace} (h : DataW.trod enc Tryz.prog w base spare held fuel 42 cs = some x) :
    ∃ p : Smp, (I64 p.1 ∧ I64 p.2) ∧ cs = smpC p := by
  obtain ⟨xs, n, _, _, hl, hx, hf⟩ := DataW.trod_struct Tryz.underlying42 h
  rw [cl_ssmp] at hl
  replace hx : xs.length = 2 := hx
  match cs, hl with
  | [a0, a1], _ =>
    obtain ⟨n0, rfl, k0⟩ := field_i64 Tryz.underlying2 cl_si64 (i := 0) (by omega) (o := 0) rfl (hf 0 _ rfl)
    obtain ⟨n1, rfl, k1⟩ := field_i64 Tryz.underlying2 cl_si64 (i := 1) (by omega) (o := 1) rfl (hf 1 _ rfl)
    exact ⟨(n0, n1), ⟨k0, k1⟩, rfl⟩
set_option maxRecDepth 100000 in
theorem a17_readsI {fuel : Nat} {cs : List Value} {x : DataW H × List MemPlace} (h : DataW.trod enc Tryz.prog w base spare held fuel 48 cs = some x) :
    ∃ a : Act17, (I64 a.smp.1 ∧ I64 a.smp.2) ∧ cs = act17C a := by
  obtain ⟨xs, n, _, _, hl, hx, hf⟩ := DataW.trod_struct Tryz.underlying48 h
  rw [cl_sa17] at hl
  replace hx : xs.length = 4 := hx
  match cs, hl with
  | [a0, a1, a2, a3, a4, a5, a6, a7, a8, a9, a10, a11, a12, a13], _ =>
    obtain ⟨n0, rfl⟩ := sfield Tryz.underlying3 cl_sint (i := 0) (by omega) (o := 0) rfl (hf 0 _ rfl)
    have h1 := hf 1 _ rfl
    have h2 := hf 2 _ rfl
    have h3 := hf 3 _ rfl
    rw [List.getElem?_eq_getElem (by omega)] at h1 h2 h3
    obtain ⟨s, hsI, hs⟩ := ssmp_readsI h1
    obtain ⟨p, hp⟩ := spol_reads h2
    obtain ⟨v, hv⟩ := sadv_reads h3
    replace hs : ([a1, a2, a3, a4, a5, a6, a7, a8, a9, a10, a11, a12, a13] : List Value).take (Tryz.prog.cellsOf 42) = _ := hs
    replace hp : ([a3, a4, a5, a6, a7, a8, a9, a10, a11, a12, a13] : List Value).take (Tryz.prog.cellsOf 44) = _ := hp
    replace hv : ([a9, a10, a11, a12, a13] : List Value).take (Tryz.prog.cellsOf 46) = _ := hv
    rw [cl_ssmp] at hs
    rw [cl_spol] at hp
    rw [cl_sadv] at hv
    simp only [smpC, advC, List.take_succ_cons, List.take_zero, List.cons.injEq, and_true] at hs hp hv
    obtain ⟨rfl, rfl⟩ := hs
    obtain ⟨rfl, rfl, rfl, rfl, rfl, rfl⟩ := hp
    obtain ⟨rfl, rfl, rfl, rfl, rfl⟩ := hv
    exact ⟨⟨n0, s, p, v⟩, hsI, rfl⟩
set_option maxRecDepth 100000 in
theorem a18_readsI {fuel : Nat} {cs : List Value} {x : DataW H × List MemPlace} (h : DataW.trod enc Tryz.prog w base spare held fuel 50 cs = some x) :
    ∃ (k : Ky) (a : Act17), k.ok ∧ (I64 a.smp.1 ∧ I64 a.smp.2) ∧ cs = act18C k a := by
  obtain ⟨xs, n, _, _, hl, hx, hf⟩ := DataW.trod_struct Tryz.underlying50 h
  rw [cl_sa18] at hl
  replace hx : xs.length = 2 := hx
  match cs, hl with
  | [a0, a1, a2, a3, a4, a5, a6, a7, a8, a9, a10, a11, a12, a13, a14, a15], _ =>
    have h0 := hf 0 _ rfl
    have h1 := hf 1 _ rfl
    rw [List.getElem?_eq_getElem (by omega)] at h0 h1
    obtain ⟨k, hk, hs⟩ := key_reads h0
    obtain ⟨a, haI, hp⟩ := a17_readsI h1
    replace hs : ([a0, a1, a2, a3, a4, a5, a6, a7, a8, a9, a10, a11, a12, a13, a14, a15] : List Value).take (Tryz.prog.cellsOf 40) = _ := hs
    replace hp : ([a2, a3, a4, a5, a6, a7, a8, a9, a10, a11, a12, a13, a14, a15] : List Value).take (Tryz.prog.cellsOf 48) = _ := hp
    rw [cl_key] at hs
    rw [cl_sa17] at hp
    simp only [keyC, act17C, List.take_succ_cons, List.take_zero, List.cons.injEq, and_true] at hs hp
    obtain ⟨rfl, rfl⟩ := hs
    obtain ⟨rfl, rfl, rfl, rfl, rfl, rfl, rfl, rfl, rfl, rfl, rfl, rfl, rfl, rfl⟩ := hp
    exact ⟨k, a, hk, haI, rfl⟩

theorem actsK_readI {fuel : Nat} {cs : List Value} {x : DataW H × List MemPlace} (h : DataW.trod enc Tryz.prog w base spare held fuel 24 cs = some x) :
    ∃ (v : Value) (l : List ActK), cs = [v] ∧ ((∀ p ∈ l, p.1.ok) ∧ (∀ p ∈ l, I64 p.2.smp.1 ∧ I64 p.2.smp.2)) ∧ RowIn 16 actKC w v l := by
  haveI : Inhabited ActK := ⟨((0, 0), ⟨0, (0, 0), pol0, adv0⟩)⟩
  obtain ⟨v, l, h1, _, h3, h4⟩ := row_read (ok := fun p : ActK => p.1.ok ∧ I64 p.2.smp.1 ∧ I64 p.2.smp.2) (f := actKC) Tryz.underlying24 cl_sa18 (by decide) (fun _ _ _ h => by obtain ⟨k, a, hk, hi, rfl⟩ := a18_readsI h; exact ⟨(k, a), ⟨hk, hi⟩, rfl⟩) h
  exact ⟨v, l, h1, ⟨fun p hp => (h3 p hp).1, fun p hp => (h3 p hp).2⟩, h4⟩
end
end

section
set_option linter.unusedSimpArgs false
set_option linter.unusedVariables false
open Go.RowKit Go.Lib Go.Sort
theorem cdiffers_walk (c : Cfg) (v v' : Value) (l l' : List ActK) (w : World) (hc : c.ok) (hv : RowIn 16 actKC w v l) (hv' : RowIn 16 actKC w v' l') (hok : ∀ p ∈ l, p.1.ok) (hok' : ∀ p ∈ l', p.1.ok) :
    Calls Tryz.prog 5 #[cfgV c, v, v'] w fun e w' => e = .returned (.bool true) ∧ Below w.heap.size w w' := by
  obtain ⟨A, cc, rfl⟩ := hv.form
  obtain ⟨A', cc', rfl⟩ := hv'.form
  cases hb : cfgB c with
  | false => exact cdiffers_nil c A _ cc A' _ cc' w hc hb
  | true =>
    by_cases hl : l.length ≤ 30
    · by_cases hl' : l'.length ≤ 30
      · exact cdiffers_main c _ _ _ _ l l' w hv hv' hok hok' hl hl' (cfg_okW hb hc)
      · exact cdiffers_long2 c A _ cc A' _ cc' w hl (by omega) hc hb
    · exact cdiffers_long1 c A _ cc A' _ cc' w (by omega) hc hb
end

end Go.Proofs.YtfegielnmdppgaaGreat
