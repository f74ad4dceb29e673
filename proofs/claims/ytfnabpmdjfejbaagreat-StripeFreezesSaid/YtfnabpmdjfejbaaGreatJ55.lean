/- The short ways of StripeFreezes; the whole walk. -/
import Derived.Test.YtfnabpmdjfejbaaGreatJ53
import Derived.Test.YtfnabpmdjfejbaaGreatJ54
namespace Go.Proofs.YtfnabpmdjfejbaaGreat

section
set_option linter.unusedSimpArgs false
set_option linter.unusedVariables false
open Go.RowKit Go.Lib Go.Sort

set_option maxRecDepth 100000 in
set_option maxHeartbeats 4000000 in
theorem sfreezes_nil (c : Cfg) (A : Option Addr) (n cc : Nat) (A' : Option Addr) (n' cc' : Nat) (w : World)  (hok : c.ok) (hc : cfgB c = false) :
    Calls Tryz.prog 3 #[cfgV c, .slice A n cc, .slice A' n' cc'] w fun e w' => e = .returned (.bool true) ∧ Below w.heap.size w w' := by
  have HNW : Hid (∀ W, Calls Tryz.prog 7 #[.agg #[.int .i64 c.st, .int .i64 c.sa, .int .i64 c.lo, .int .i64 c.hi]] W fun e w' => e = .returned (.pointer none) ∧ Below W.heap.size W w') := Lib.hid (fun W => stripeNew_nil c W hc hok)
  have HRT : Hid (∀ W, Calls Tryz.prog 6 #[.agg #[.int .i64 c.st, .int .i64 c.sa, .int .i64 c.lo, .int .i64 c.hi]] W fun e w' => e = .returned (.bool false) ∧ Below W.heap.size W w') := Lib.hid (fun W => by have := ref17Right_any c W; rw [hc] at this; exact this)
  unfold cfgV
  clear hc hok
  go_enter Tryz.func3, Tryz.ntmps3
  go_wp2_with (first
    | (go_at_call 5
       refine calls_named ?_
       intro W0 hW0
       have hb0 : Below w.heap.size w W0 := by rw [hW0]; exact balloc (Below.refl _ _) _
       have hxc : W0.heap[w.heap.size]? = some (.cells #[.int .i64 c.st, .int .i64 c.sa, .int .i64 c.lo, .int .i64 c.hi] 23 (0, 0)) := by rw [hW0]; exact heap_alloc_new _ _
       clear hW0
       refine (awake_any W0).mono ?_
       rintro e w1 ⟨rfl, hb1⟩
       obtain ⟨hxc1, hxc1f, hxc1l⟩ := box_cells hb1 hxc
       have HHXC := Lib.hid ((hb1.block _ (Array.getElem?_eq_some_iff.1 hxc).1).trans hxc)
       have HB1 := Lib.hid (bthen hb0 hb1)
       clear hb0 hxc hb1)
    | (go_at_call 6
       refine (HRT.out _).mono ?_
       rintro e w2 ⟨rfl, hb⟩
       obtain ⟨hx2, hx2f, hx2l⟩ := box_cells hb HHXC.out
       have HXC2 := Lib.hid ((hb.block _ (Array.getElem?_eq_some_iff.1 HHXC.out).1).trans HHXC.out)
       have HB2 := Lib.hid (bthen HB1.out hb)
       clear hb))
  go_ret
  exact ⟨rfl, HB2.out⟩

set_option maxRecDepth 100000 in
set_option maxHeartbeats 4000000 in
theorem sfreezes_long (c : Cfg) (A : Option Addr) (n cc : Nat) (A' : Option Addr) (n' cc' : Nat) (w : World) (hn : 30 < n) (hok : c.ok) (hc : cfgB c = true) :
    Calls Tryz.prog 3 #[cfgV c, .slice A n cc, .slice A' n' cc'] w fun e w' => e = .returned (.bool true) ∧ Below w.heap.size w w' := by
  have HNW : Hid (∀ W, Calls Tryz.prog 7 #[.agg #[.int .i64 c.st, .int .i64 c.sa, .int .i64 c.lo, .int .i64 c.hi]] W (NewStripe W c c.sa.toNat c.hi.toNat)) := Lib.hid (fun W => stripeNew_any c c.sa.toNat c.hi.toNat W hc hok)
  have HRT : Hid (∀ W, Calls Tryz.prog 6 #[.agg #[.int .i64 c.st, .int .i64 c.sa, .int .i64 c.lo, .int .i64 c.hi]] W fun e w' => e = .returned (.bool true) ∧ Below W.heap.size W w') := Lib.hid (fun W => by have := ref17Right_any c W; rw [hc] at this; exact this)
  have q30 : (30 : Int) < (n : Int) := by omega
  clear hn
  unfold cfgV
  clear hc hok
  go_enter Tryz.func3, Tryz.ntmps3
  go_wp2_with (first
    | (go_at_call 5
       refine calls_named ?_
       intro W0 hW0
       have hb0 : Below w.heap.size w W0 := by rw [hW0]; exact balloc (Below.refl _ _) _
       have hxc : W0.heap[w.heap.size]? = some (.cells #[.int .i64 c.st, .int .i64 c.sa, .int .i64 c.lo, .int .i64 c.hi] 23 (0, 0)) := by rw [hW0]; exact heap_alloc_new _ _
       clear hW0
       refine (awake_any W0).mono ?_
       rintro e w1 ⟨rfl, hb1⟩
       obtain ⟨hxc1, hxc1f, hxc1l⟩ := box_cells hb1 hxc
       have HHXC := Lib.hid ((hb1.block _ (Array.getElem?_eq_some_iff.1 hxc).1).trans hxc)
       have HB1 := Lib.hid (bthen hb0 hb1)
       clear hb0 hxc hb1)
    | (go_at_call 6
       refine (HRT.out _).mono ?_
       rintro e w2 ⟨rfl, hb⟩
       obtain ⟨hx2, hx2f, hx2l⟩ := box_cells hb HHXC.out
       have HXC2 := Lib.hid ((hb.block _ (Array.getElem?_eq_some_iff.1 HHXC.out).1).trans HHXC.out)
       have HB2 := Lib.hid (bthen HB1.out hb)
       clear hb))
  go_ret
  exact ⟨rfl, HB2.out⟩

set_option maxRecDepth 100000 in
set_option maxHeartbeats 4000000 in
theorem sfreezes_long2 (c : Cfg) (A : Option Addr) (n cc : Nat) (A' : Option Addr) (n' cc' : Nat) (w : World) (hn : n ≤ 30) (hn2 : 30 < n') (hok : c.ok) (hc : cfgB c = true) :
    Calls Tryz.prog 3 #[cfgV c, .slice A n cc, .slice A' n' cc'] w fun e w' => e = .returned (.bool true) ∧ Below w.heap.size w w' := by
  have HNW : Hid (∀ W, Calls Tryz.prog 7 #[.agg #[.int .i64 c.st, .int .i64 c.sa, .int .i64 c.lo, .int .i64 c.hi]] W (NewStripe W c c.sa.toNat c.hi.toNat)) := Lib.hid (fun W => stripeNew_any c c.sa.toNat c.hi.toNat W hc hok)
  have HRT : Hid (∀ W, Calls Tryz.prog 6 #[.agg #[.int .i64 c.st, .int .i64 c.sa, .int .i64 c.lo, .int .i64 c.hi]] W fun e w' => e = .returned (.bool true) ∧ Below W.heap.size W w') := Lib.hid (fun W => by have := ref17Right_any c W; rw [hc] at this; exact this)
  have q30 : ¬ (30 : Int) < (n : Int) := by omega
  have q31 : (30 : Int) < (n' : Int) := by omega
  clear hn hn2
  unfold cfgV
  clear hc hok
  go_enter Tryz.func3, Tryz.ntmps3
  go_wp2_with (first
    | (go_at_call 5
       refine calls_named ?_
       intro W0 hW0
       have hb0 : Below w.heap.size w W0 := by rw [hW0]; exact balloc (Below.refl _ _) _
       have hxc : W0.heap[w.heap.size]? = some (.cells #[.int .i64 c.st, .int .i64 c.sa, .int .i64 c.lo, .int .i64 c.hi] 23 (0, 0)) := by rw [hW0]; exact heap_alloc_new _ _
       clear hW0
       refine (awake_any W0).mono ?_
       rintro e w1 ⟨rfl, hb1⟩
       obtain ⟨hxc1, hxc1f, hxc1l⟩ := box_cells hb1 hxc
       have HHXC := Lib.hid ((hb1.block _ (Array.getElem?_eq_some_iff.1 hxc).1).trans hxc)
       have HB1 := Lib.hid (bthen hb0 hb1)
       clear hb0 hxc hb1)
    | (go_at_call 6
       refine (HRT.out _).mono ?_
       rintro e w2 ⟨rfl, hb⟩
       obtain ⟨hx2, hx2f, hx2l⟩ := box_cells hb HHXC.out
       have HXC2 := Lib.hid ((hb.block _ (Array.getElem?_eq_some_iff.1 HHXC.out).1).trans HHXC.out)
       have HB2 := Lib.hid (bthen HB1.out hb)
       clear hb))
  go_ret
  exact ⟨rfl, HB2.out⟩

theorem sfreezes_walk (c : Cfg) (v v' : Value) (l l' : List ActK) (w : World) (hc : c.ok) (hv : RowIn 16 actKC w v l) (hv' : RowIn 16 actKC w v' l') (hok : ∀ p ∈ l, p.1.ok) (hok' : ∀ p ∈ l', p.1.ok) :
    Calls Tryz.prog 3 #[cfgV c, v, v'] w fun e w' => e = .returned (.bool true) ∧ Below w.heap.size w w' := by
  obtain ⟨A, cc, rfl⟩ := hv.form
  obtain ⟨A', cc', rfl⟩ := hv'.form
  cases hb : cfgB c with
  | false => exact sfreezes_nil c A _ cc A' _ cc' w hc hb
  | true =>
    by_cases hl : l.length ≤ 30
    · by_cases hl' : l'.length ≤ 30
      · exact sfreezes_main c _ _ _ _ l l' w hv hv' hok hok' hl hl' (cfg_ok hb hc)
      · exact sfreezes_long2 c A _ cc A' _ cc' w hl (by omega) hc hb
    · exact sfreezes_long c A _ cc A' _ cc' w (by omega) hc hb
end

end Go.Proofs.YtfnabpmdjfejbaaGreat
