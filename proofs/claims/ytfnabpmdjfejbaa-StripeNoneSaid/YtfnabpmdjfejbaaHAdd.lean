/- history.Add. -/
import Derived.Test.YtfnabpmdjfejbaaRPush2
namespace Go.Proofs.Ytfnabpmdjfejbaa
set_option linter.unusedSimpArgs false
set_option linter.unusedVariables false
open Go.RowKit Go.Lib Go.Sort

def HistSays (w : World) (H : Nat) (l : List Adv) (room : Nat) (fp : List Nat) (e : Ending) (w' : World) : Prop :=
  ∃ u fp', e = .returned u ∧ HistIn w' H l room fp' ∧ Upd w w' fp fp'
theorem hist_push {w w1 w2 : World} {H R : Nat} {l' : List Adv} {room : Nat} {fr fr' : List Nat} (hH : w.heap[H]? = some (.cells #[.pointer (some ⟨R, 0, none⟩)] 183 (0, 0))) (hn : H ∉ fr) (hb : Below w.heap.size w w1) (hr : RingIn w2 R l' room fr') (hR : R ∈ fr') (hu : Upd w1 w2 fr fr') :
    HistIn w2 H l' room (H :: fr') ∧ Upd w w2 (H :: fr) (H :: fr') := by
  have hlt := (Array.getElem?_eq_some_iff.1 hH).1
  have h1 := (hb.block H hlt).trans hH
  have hlt1 := (Array.getElem?_eq_some_iff.1 h1).1
  have h2 := (hu.block H hlt1 hn).trans h1
  refine ⟨⟨R, fr', h2, hr, fun h => ?_, rfl, hR⟩, (Upd.of_below hb _).trans (hu.mono (fun k hk => List.mem_cons_of_mem _ hk) (fun k hk => ?_))⟩
  · rcases hu.fresh H h with h | h
    · exact hn h
    · omega
  · rcases List.mem_cons.1 hk with rfl | hk
    · exact .inl (List.mem_cons_self ..)
    · exact (hu.fresh k hk).imp (List.mem_cons_of_mem _) id

set_option maxRecDepth 100000 in
set_option maxHeartbeats 4000000 in
theorem histAdd_any (H : Nat) (l : List Adv) (room : Nat) (fp : List Nat) (x : Adv) (w : World) (h : HistIn w H l room fp) (hroom : room ≤ 4096) :
    Calls Try.prog 137 #[.pointer (some ⟨H, 0, none⟩), .agg (advC x).toArray] w (HistSays w H (pushL l room x) room fp) := by
  obtain ⟨R, fr, hH, hR, hn, rfl, hRm⟩ := h
  have hlt := (Array.getElem?_eq_some_iff.1 hH).1
  have HH := Lib.hid hH
  have HR := Lib.hid hR
  clear hH hR
  unfold advC
  go_enter Try.func137, Try.ntmps137
  go_wp2_with (first
    | (go_at_call 153
       refine calls_named ?_
       intro W1 hW1
       have hb1 : Below w.heap.size w W1 := by rw [hW1]; exact balloc (Below.refl _ _) _
       have hx1 : W1.heap[w.heap.size]? = some (.cells #[.int .i64 x.tick, .int .i64 x.load, .int .i64 x.want, .int .i64 x.repl, .int .i64 x.why] 67 (0, 0)) := by rw [hW1]; exact heap_alloc_new _ _
       clear hW1
       refine (kept_any H R W1 ((hb1.block H hlt).trans HH.out)).mono ?_
       rintro e w2 ⟨rfl, hb2⟩
       obtain ⟨a1, a2, a3⟩ := box_cells hb2 hx1
       have HB2 := Lib.hid (bthen hb1 hb2)
       clear hb1 hx1 hb2)
    | (go_at_call 154
       refine calls_named ?_
       intro W3 hW3
       have hb3 : Below w.heap.size w W3 := by rw [hW3]; exact HB2.out
       clear hW3
       refine (push_any R l room fr x W3 (HR.out.below hb3) hroom).mono ?_
       rintro e w4 ⟨u, fr4, rfl, hr4, hR4, hu4⟩
       have HP := Lib.hid (hist_push HH.out hn hb3 hr4 hR4 hu4)
       have HR4 := Lib.hid hr4
       clear hr4 hR4 hu4 hb3)
    | (go_at_call 155
       refine (ringLen_any R _ room fr4 w4 HR4.out).mono ?_
       rintro e w5 ⟨rfl, hb5⟩
       have HB5 := Lib.hid hb5
       clear hb5))
  go_ret
  exact ⟨_, _, rfl, HP.out.1.below HB5.out, HP.out.2.trans (Upd.of_below HB5.out _)⟩
end Go.Proofs.Ytfnabpmdjfejbaa
