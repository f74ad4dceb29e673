/- slices.SortStableFunc at entries, of which there are forty at most; stripe.Sort. -/
import Derived.Test.YtfegielnmdppgaaJ11
import Derived.Test.YtfegielnmdppgaaJ12
import Derived.Shelf.SlSortCmp.PdqK
namespace Go.Proofs.Ytfegielnmdppgaa

section
set_option linter.unusedSimpArgs false
set_option linter.unusedVariables false
open Go.RowKit Go.Lib Go.Sort Go.Shelf

theorem insE_any (w0 : World) (g cap a b : Nat) (d0 d : Array Pl) (w : World) (hS : InSort w0 g d0 d w) (hab : a ≤ b) (hb : b ≤ d.size) (hsz : d.size ≤ 1000000) (hr : Rise a b d) :
    Calls Try.prog 48 #[.slice (some ⟨g, 0, none⟩) d.size cap, .int .i64 a, .int .i64 b, .func (.func 23) #[] #[]] w fun e w' =>
      e = .returned (.tuple #[]) ∧ ∃ d', d'.size = d.size ∧ PermIn a b d d' ∧ Up (RZ ltE) a b d' ∧ InSort w0 g d0 d' w' := by
  have eg : ∀ args w, (callFunc 23 args).run Try.prog w = .ok (.enter 23 args) w := enters_of Try.func23 (by kernel_rfl) rfl
  have hcmp : CmpLays Try.prog 23 #[] plC 3 cfP g 0 d0.size w0 := fun m os dk _ x y => ent_lays x.1 y.1 _
  refine (AnyQ.insertionSortCmpFunc_w insE 3 Try.isAgg36 Try.sizeOf36 plC cfP 23 #[] g 0 cap a b d0 d w0 w eg hcmp ⟨plC_len, plC_one, hS.h0, hS.hg⟩ hS.hs.symm hS.sw swoP hab hb (by omega)).mono ?_
  rintro e w' ⟨rfl, hsw⟩
  rw [ltOf_P] at hsw
  obtain ⟨hp, hu⟩ := ins_block swoE hab hb hr
  exact ⟨rfl, _, hp.1, hp, hu, ⟨hS.hg, hS.h0, hp.1.trans hS.hs, hsw⟩⟩
theorem Rise.out {d d' : Array Pl} {a b x y : Nat} (h : PermIn x y d d') (hr : Rise a b d) (ho : b ≤ x ∨ y ≤ a) : Rise a b d' := fun i j p q r => by
  rw [at_out h (show i < x ∨ y ≤ i by omega), at_out h (show j < x ∨ y ≤ j by omega)]; exact hr i j p q r
theorem crs_blocks {d0 d1 d2 : Array Pl} {m n : Nat} (hmn : m ≤ n) (hd : d0.size = n) (hr : Rise 0 n d0) (h1 : PermIn 0 m d0 d1) (h2 : PermIn m n d1 d2) : Crs (ltP ltE) (RZ ltE) 0 m n d2 := by
  refine crs_of fun i j p q r s => ?_
  rw [at_out h2 (Or.inl q)]
  have k1 : ∀ j, m ≤ j → j < n → (d1[i]!).2 ≤ (d1[j]!).2 := fun j r s => by
    rw [at_out h1 (i := j) (Or.inr r)]
    exact permIn_all d0 d1 0 m (fun x => x.2 ≤ (d0[j]!).2) (by omega) h1 (fun i p q => Nat.le_of_lt (hr i j p (by omega) s)) i p q
  exact permIn_all d1 d2 m n (fun x => (d1[i]!).2 ≤ x.2) (by rw [at_size h1]; omega) h2 (fun j r s => k1 j r s) j r s
set_option maxRecDepth 100000 in
set_option maxHeartbeats 4000000 in
theorem stable_a (w0 : World) (g cap n : Nat) (d0 : Array Pl) (w : World) (hS : InSort w0 g d0 d0 w) (hd : d0.size = n) (hn : n < 20) (hr : Rise 0 n d0) :
    Calls Try.prog 38 #[.slice (some ⟨g, 0, none⟩) n cap, .int .i64 n, .func (.func 23) #[] #[]] w fun e w' => e = .returned (.tuple #[]) ∧ ∃ d', d'.size = n ∧ PermIn 0 n d0 d' ∧ Up (RZ ltE) 0 n d' ∧ InSort w0 g d0 d' w' := by
  have CI := Lib.hid (fun (a b : Nat) (dk : Array Pl) (W : World) (h : InSort w0 g d0 dk W) (h1 : a ≤ b) (h2 : b ≤ n) (h3 : Rise a b dk) => by
    have := insE_any w0 g cap a b d0 dk W h h1 (by rw [h.hs, hd]; exact h2) (by rw [h.hs, hd]; omega) h3
    rwa [show dk.size = n from h.hs.trans hd] at this)
  have CM := Lib.hid (merge_any w0 g cap d0 n (by omega))
  have HR := Lib.hid hr
  have HST := Lib.hid hS
  have HD := Lib.hid hd
  clear hr hS hd
  go_enter Try.func38, Try.ntmps38
  go_wp2_with fail
  refine wp_loop_rounds 1 ?_
  rw [rounds_succ]
  go_wp2_with (first
    | (go_at_call 48
       refine (CI.out 0 n d0 w HST.out (by omega) (by omega) HR.out).mono ?_
       rintro e w1 ⟨rfl, d1, hs, hp, hu, hin⟩
       have HS1 := Lib.hid hs
       have HP1 := Lib.hid hp
       have HU1 := Lib.hid hu
       have HI1 := Lib.hid hin
       clear hs hp hu hin))
  refine wp_loop_rounds 1 ?_
  rw [rounds_succ]
  go_wp2_with fail
  go_end0
  exact ⟨rfl, d1, HS1.out, HP1.out, HU1.out, HI1.out⟩

set_option maxRecDepth 100000 in
set_option maxHeartbeats 4000000 in
theorem stable_b (w0 : World) (g cap n : Nat) (d0 : Array Pl) (w : World) (hS : InSort w0 g d0 d0 w) (hd : d0.size = n) (hn : n = 20) (hr : Rise 0 n d0) :
    Calls Try.prog 38 #[.slice (some ⟨g, 0, none⟩) n cap, .int .i64 n, .func (.func 23) #[] #[]] w fun e w' => e = .returned (.tuple #[]) ∧ ∃ d', d'.size = n ∧ PermIn 0 n d0 d' ∧ Up (RZ ltE) 0 n d' ∧ InSort w0 g d0 d' w' := by
  have CI := Lib.hid (fun (a b : Nat) (dk : Array Pl) (W : World) (h : InSort w0 g d0 dk W) (h1 : a ≤ b) (h2 : b ≤ n) (h3 : Rise a b dk) => by
    have := insE_any w0 g cap a b d0 dk W h h1 (by rw [h.hs, hd]; exact h2) (by rw [h.hs, hd]; omega) h3
    rwa [show dk.size = n from h.hs.trans hd] at this)
  have CM := Lib.hid (merge_any w0 g cap d0 n (by omega))
  have HR := Lib.hid hr
  have HST := Lib.hid hS
  have HD := Lib.hid hd
  clear hr hS hd
  subst hn
  go_enter Try.func38, Try.ntmps38
  go_wp2_with fail
  refine wp_loop_rounds 2 ?_
  rw [rounds_succ]
  go_wp2_with (first
    | (go_at_call 48
       refine (CI.out 0 20 d0 w HST.out (by omega) (by omega) HR.out).mono ?_
       rintro e w1 ⟨rfl, d1, hs, hp, hu, hin⟩
       have HS1 := Lib.hid hs
       have HP1 := Lib.hid hp
       have HU1 := Lib.hid hu
       have HI1 := Lib.hid hin
       clear hs hp hu hin))
  rw [rounds_succ]
  go_wp2_with (first
    | (go_at_call 48
       refine (CI.out 20 20 d1 w1 HI1.out (by omega) (by omega) (fun i j p q r => absurd r (by omega))).mono ?_
       rintro e w2 ⟨rfl, d2, hs, hp, hu, hin⟩
       have HS2 := Lib.hid hs
       have HP2 := Lib.hid hp
       have HU2 := Lib.hid hu
       have HI2 := Lib.hid hin
       clear hs hp hu hin))
  refine wp_loop_rounds 1 ?_
  rw [rounds_succ]
  go_wp2_with fail
  go_end0
  exact ⟨rfl, d2, HS2.out, permIn_trans _ _ _ _ _ HP1.out (permIn_mono d1 d2 20 20 0 20 (by omega) (by omega) (by rw [HS1.out]; omega) HP2.out), HU1.out.out HP2.out (Or.inl (Nat.le_refl _)), HI2.out⟩

set_option maxRecDepth 100000 in
set_option maxHeartbeats 4000000 in
theorem stable_c (w0 : World) (g cap n : Nat) (d0 : Array Pl) (w : World) (hS : InSort w0 g d0 d0 w) (hd : d0.size = n) (hn : 20 < n) (hn2 : n < 40) (hr : Rise 0 n d0) :
    Calls Try.prog 38 #[.slice (some ⟨g, 0, none⟩) n cap, .int .i64 n, .func (.func 23) #[] #[]] w fun e w' => e = .returned (.tuple #[]) ∧ ∃ d', d'.size = n ∧ PermIn 0 n d0 d' ∧ Up (RZ ltE) 0 n d' ∧ InSort w0 g d0 d' w' := by
  have CI := Lib.hid (fun (a b : Nat) (dk : Array Pl) (W : World) (h : InSort w0 g d0 dk W) (h1 : a ≤ b) (h2 : b ≤ n) (h3 : Rise a b dk) => by
    have := insE_any w0 g cap a b d0 dk W h h1 (by rw [h.hs, hd]; exact h2) (by rw [h.hs, hd]; omega) h3
    rwa [show dk.size = n from h.hs.trans hd] at this)
  have CM := Lib.hid (merge_any w0 g cap d0 n (by omega))
  have HR := Lib.hid hr
  have HST := Lib.hid hS
  have HD := Lib.hid hd
  clear hr hS hd
  go_enter Try.func38, Try.ntmps38
  go_wp2_with fail
  refine wp_loop_rounds 2 ?_
  rw [rounds_succ]
  go_wp2_with (first
    | (go_at_call 48
       refine (CI.out 0 20 d0 w HST.out (by omega) (by omega) (fun i j p q r => HR.out i j p q (by omega))).mono ?_
       rintro e w1 ⟨rfl, d1, hs, hp, hu, hin⟩
       have HS1 := Lib.hid hs
       have HP1 := Lib.hid hp
       have HU1 := Lib.hid hu
       have HI1 := Lib.hid hin
       clear hs hp hu hin))
  rw [rounds_succ]
  go_wp2_with (first
    | (go_at_call 48
       refine (CI.out 20 n d1 w1 HI1.out (by omega) (by omega) (Rise.out HP1.out (fun i j p q r => HR.out i j (by omega) q r) (Or.inr (Nat.le_refl _)))).mono ?_
       rintro e w2 ⟨rfl, d2, hs, hp, hu, hin⟩
       have HS2 := Lib.hid hs
       have HP2 := Lib.hid hp
       have HU2 := Lib.hid hu
       have HI2 := Lib.hid hin
       clear hs hp hu hin))
  have HV1 := Lib.hid (HU1.out.out HP2.out (Or.inl (Nat.le_refl _)))
  have HV2 := HU2
  have HCR := Lib.hid (crs_blocks (by omega) HD.out HR.out HP1.out HP2.out)
  refine wp_loop_rounds 2 ?_
  rw [rounds_succ]
  go_wp2_with fail
  refine wp_loop_rounds 1 ?_
  rw [rounds_succ]
  go_wp2_with (first
    | (go_at_call 49
       refine (CM.out 1000 0 20 n d2 w2 (by omega) HI2.out HS2.out (by omega) (by omega) (by omega) HV1.out HV2.out HCR.out).mono ?_
       rintro e w9 ⟨rfl, d9, hs, hp, hu, hin⟩
       have HS9 := Lib.hid hs
       have HP9 := Lib.hid hp
       have HU9 := Lib.hid hu
       have HI9 := Lib.hid hin
       clear hs hp hu hin))
  rw [rounds_succ]
  go_wp2_with fail
  go_end0
  exact ⟨rfl, d9, HS9.out, permIn_trans _ _ _ _ _ (permIn_trans _ _ _ _ _ (permIn_mono d0 d1 0 20 0 n (by omega) (by omega) (by have := HD.out; omega) HP1.out) (permIn_mono d1 d2 20 n 0 n (by omega) (by omega) (by have := HS1.out; omega) HP2.out)) HP9.out, HU9.out, HI9.out⟩

set_option maxRecDepth 100000 in
set_option maxHeartbeats 4000000 in
theorem stable_d (w0 : World) (g cap n : Nat) (d0 : Array Pl) (w : World) (hS : InSort w0 g d0 d0 w) (hd : d0.size = n) (hn : n = 40) (hr : Rise 0 n d0) :
    Calls Try.prog 38 #[.slice (some ⟨g, 0, none⟩) n cap, .int .i64 n, .func (.func 23) #[] #[]] w fun e w' => e = .returned (.tuple #[]) ∧ ∃ d', d'.size = n ∧ PermIn 0 n d0 d' ∧ Up (RZ ltE) 0 n d' ∧ InSort w0 g d0 d' w' := by
  have CI := Lib.hid (fun (a b : Nat) (dk : Array Pl) (W : World) (h : InSort w0 g d0 dk W) (h1 : a ≤ b) (h2 : b ≤ n) (h3 : Rise a b dk) => by
    have := insE_any w0 g cap a b d0 dk W h h1 (by rw [h.hs, hd]; exact h2) (by rw [h.hs, hd]; omega) h3
    rwa [show dk.size = n from h.hs.trans hd] at this)
  have CM := Lib.hid (merge_any w0 g cap d0 n (by omega))
  have HR := Lib.hid hr
  have HST := Lib.hid hS
  have HD := Lib.hid hd
  clear hr hS hd
  subst hn
  go_enter Try.func38, Try.ntmps38
  go_wp2_with fail
  refine wp_loop_rounds 3 ?_
  rw [rounds_succ]
  go_wp2_with (first
    | (go_at_call 48
       refine (CI.out 0 20 d0 w HST.out (by omega) (by omega) (fun i j p q r => HR.out i j p q (by omega))).mono ?_
       rintro e w1 ⟨rfl, d1, hs, hp, hu, hin⟩
       have HS1 := Lib.hid hs
       have HP1 := Lib.hid hp
       have HU1 := Lib.hid hu
       have HI1 := Lib.hid hin
       clear hs hp hu hin))
  rw [rounds_succ]
  go_wp2_with (first
    | (go_at_call 48
       refine (CI.out 20 40 d1 w1 HI1.out (by omega) (by omega) (Rise.out HP1.out (fun i j p q r => HR.out i j (by omega) q r) (Or.inr (Nat.le_refl _)))).mono ?_
       rintro e w2 ⟨rfl, d2, hs, hp, hu, hin⟩
       have HS2 := Lib.hid hs
       have HP2 := Lib.hid hp
       have HU2 := Lib.hid hu
       have HI2 := Lib.hid hin
       clear hs hp hu hin))
  rw [rounds_succ]
  go_wp2_with (first
    | (go_at_call 48
       refine (CI.out 40 40 d2 w2 HI2.out (by omega) (by omega) (fun i j p q r => absurd r (by omega))).mono ?_
       rintro e w3 ⟨rfl, d3, hs, hp, hu, hin⟩
       have HS3 := Lib.hid hs
       have HP3 := Lib.hid hp
       have HU3 := Lib.hid hu
       have HI3 := Lib.hid hin
       clear hs hp hu hin))
  have HV1 := Lib.hid ((HU1.out.out HP2.out (Or.inl (Nat.le_refl _))).out HP3.out (Or.inl (by omega)))
  have HV2 := Lib.hid (HU2.out.out HP3.out (Or.inl (Nat.le_refl _)))
  have HCR := Lib.hid ((crs_blocks (by omega) HD.out HR.out HP1.out HP2.out).out HP3.out (Or.inl (Nat.le_refl _)) ⟨by omega, by omega⟩)
  refine wp_loop_rounds 2 ?_
  rw [rounds_succ]
  go_wp2_with fail
  refine wp_loop_rounds 2 ?_
  rw [rounds_succ]
  go_wp2_with (first
    | (go_at_call 49
       refine (CM.out 1000 0 20 40 d3 w3 (by omega) HI3.out HS3.out (by omega) (by omega) (by omega) HV1.out HV2.out HCR.out).mono ?_
       rintro e w9 ⟨rfl, d9, hs, hp, hu, hin⟩
       have HS9 := Lib.hid hs
       have HP9 := Lib.hid hp
       have HU9 := Lib.hid hu
       have HI9 := Lib.hid hin
       clear hs hp hu hin))
  rw [rounds_succ]
  go_wp2_with fail
  rw [rounds_succ]
  go_wp2_with fail
  go_end0
  exact ⟨rfl, d9, HS9.out, permIn_trans _ _ _ _ _ (permIn_trans _ _ _ _ _ (permIn_trans _ _ _ _ _ (permIn_mono d0 d1 0 20 0 40 (by omega) (by omega) (by have := HD.out; omega) HP1.out) (permIn_mono d1 d2 20 40 0 40 (by omega) (by omega) (by have := HS1.out; omega) HP2.out)) (permIn_mono d2 d3 40 40 0 40 (by omega) (by omega) (by have := HS2.out; omega) HP3.out)) HP9.out, HU9.out, HI9.out⟩

theorem stable_any (w0 : World) (g cap n : Nat) (d0 : Array Pl) (w : World) (hS : InSort w0 g d0 d0 w) (hd : d0.size = n) (hn : n ≤ 40) (hr : Rise 0 n d0) :
    Calls Try.prog 38 #[.slice (some ⟨g, 0, none⟩) n cap, .int .i64 n, .func (.func 23) #[] #[]] w fun e w' => e = .returned (.tuple #[]) ∧ ∃ d', d'.size = n ∧ PermIn 0 n d0 d' ∧ Up (RZ ltE) 0 n d' ∧ InSort w0 g d0 d' w' := by
  rcases Nat.lt_or_ge n 20 with h | h
  · exact stable_a w0 g cap n d0 w hS hd h hr
  · rcases Nat.lt_or_ge 20 n with h2 | h2
    · rcases Nat.lt_or_ge n 40 with h3 | h3
      · exact stable_c w0 g cap n d0 w hS hd h2 h3 hr
      · exact stable_d w0 g cap n d0 w hS hd (by omega) hr
    · exact stable_b w0 g cap n d0 w hS hd (by omega) hr
end

end Go.Proofs.Ytfegielnmdppgaa
