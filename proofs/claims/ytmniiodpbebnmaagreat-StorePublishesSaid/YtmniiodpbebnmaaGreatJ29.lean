/- Contracts of the shelf, laid at this program (by lay-plain.mjs; numbers by name); slices.SortStableFunc at entries, of which there are forty at most; stripe.Sort; stripe.Sort: entries in order by their keys, those of one key in their order; Entries in order, and where each stood. -/
import Derived.Test.YtmniiodpbebnmaaGreatJ01
import Derived.Shelf.SlSortCmp.NoneTotal
import Derived.Test.YtmniiodpbebnmaaGreatJ28
import Derived.Shelf.SlSortCmp.PdqK
import Derived.Test.YtmniiodpbebnmaaGreatJ04
namespace Go.Proofs.YtmniiodpbebnmaaGreat

section
set_option linter.unusedSimpArgs false
set_option linter.unusedVariables false
open Go.Shelf
def insE_ren : Go.Shelf.Ren := ⟨fun | 20 => 296 | n => n, fun | 24 => 246 | 22 => 164 | 3 => 3 | 25 => 291 | 4 => 4 | 0 => 0 | n => n, fun | n => n⟩
theorem insE : Go.Proofs.SlLaysF0.n20 Tryz.prog insE_ren := {
  mixed := by kernel_rfl
  f20 := ⟨Tryz.f296.name, by decide, Tryz.func296.trans (congrArg some (by kernel_rfl))⟩
  t0 := Tryz.underlying0
  a0 := Tryz.isAgg0
  z0 := Tryz.sizeOf0
  v0 := Tryz.zeroValue0
  t3 := Tryz.underlying3
  a3 := Tryz.isAgg3
  z3 := Tryz.sizeOf3
  v3 := Tryz.zeroValue3
  t4 := Tryz.underlying4
  a4 := Tryz.isAgg4
  z4 := Tryz.sizeOf4
  v4 := Tryz.zeroValue4
  t22 := Tryz.underlying164
  a22 := Tryz.isAgg164
  z22 := Tryz.sizeOf164
  v22 := Tryz.zeroValue164
  t25 := Tryz.underlying291
  a25 := Tryz.isAgg291
  z25 := Tryz.sizeOf291
  v25 := Tryz.zeroValue291 }
end

section
set_option linter.unusedSimpArgs false
set_option linter.unusedVariables false
open Go.RowKit Go.Lib Go.Sort Go.Shelf

theorem insE_any (w0 : World) (g cap a b : Nat) (d0 d : Array Pl) (w : World) (hS : InSort w0 g d0 d w) (hab : a ≤ b) (hb : b ≤ d.size) (hsz : d.size ≤ 1000000) (hr : Rise a b d) :
    Calls Tryz.prog 296 #[.slice (some ⟨g, 0, none⟩) d.size cap, .int .i64 a, .int .i64 b, .func (.func 217) #[] #[]] w fun e w' =>
      e = .returned (.tuple #[]) ∧ ∃ d', d'.size = d.size ∧ PermIn a b d d' ∧ Up (RZ ltE) a b d' ∧ InSort w0 g d0 d' w' := by
  have eg : ∀ args w, (callFunc 217 args).run Tryz.prog w = .ok (.enter 217 args) w := enters_of Tryz.func217 (by kernel_rfl) rfl
  have hcmp : CmpLays Tryz.prog 217 #[] plC 3 cfP g 0 d0.size w0 := fun m os dk _ x y => ent_lays x.1 y.1 _
  refine (AnyQ.insertionSortCmpFunc_w insE 3 Tryz.isAgg246 Tryz.sizeOf246 plC cfP 217 #[] g 0 cap a b d0 d w0 w eg hcmp ⟨plC_len, plC_one, hS.h0, hS.hg⟩ hS.hs.symm hS.sw swoP hab hb (by omega)).mono ?_
  rintro e w' ⟨rfl, hsw⟩
  rw [ltOf_P] at hsw
  obtain ⟨hp, hu⟩ := ins_block swoE hab hb hr
  exact ⟨rfl, _, hp.1, hp, hu, ⟨hS.hg, hS.h0, hp.1.trans hS.hs, hsw⟩⟩
theorem Rise.out {d d' : Array Pl} {a b x y : Nat} (h : PermIn x y d d') (hr : Rise a b d) (ho : b ≤ x ∨ y ≤ a) : Rise a b d' := fun i j p q r => by
  rw [at_out h (show i < x ∨ y ≤ i by omega), at_out h (show j < x ∨ y ≤ j by omega)]; exact hr i j p q r
theorem crs_blocks {d0 d1 d2 : Array Pl} {m n : Nat} (hmn : m ≤ n) (hd : d0.size = n) (hr : Rise 0 n d0) (h1 : PermIn 0 m d0 d1) (h2 : PermIn m n d1 d2) : Crs (ltP ltE) (RZ ltE) 0 m n d2 := by
  refine crs_of fun i j p q r s => ?_
  rw [at_out h2 (Or.inl q)]
  have k1 : ∀ j, m ≤ j → j < n → (d1[i]!).2 ≤ (d1[j]!).2 := fun j r s => by
    rw [at_out h1 (i := j) (Or.inr r)]
    exact permIn_all d0 d1 0 m (fun x => x.2 ≤ (d0[j]!).2) (by omega) h1 (fun i p q => Nat.le_of_lt (hr i j p (by omega) s)) i p q
  exact permIn_all d1 d2 m n (fun x => (d1[i]!).2 ≤ x.2) (by rw [at_size h1]; omega) h2 (fun j r s => k1 j r s) j r s
set_option maxRecDepth 100000 in
set_option maxHeartbeats 4000000 in
theorem stable_a (w0 : World) (g cap n : Nat) (d0 : Array Pl) (w : World) (hS : InSort w0 g d0 d0 w) (hd : d0.size = n) (hn : n < 20) (hr : Rise 0 n d0) :
    Calls Tryz.prog 260 #[.slice (some ⟨g, 0, none⟩) n cap, .int .i64 n, .func (.func 217) #[] #[]] w fun e w' => e = .returned (.tuple #[]) ∧ ∃ d', d'.size = n ∧ PermIn 0 n d0 d' ∧ Up (RZ ltE) 0 n d' ∧ InSort w0 g d0 d' w' := by
  have CI := Lib.hid (fun (a b : Nat) (dk : Array Pl) (W : World) (h : InSort w0 g d0 dk W) (h1 : a ≤ b) (h2 : b ≤ n) (h3 : Rise a b dk) => by
    have := insE_any w0 g cap a b d0 dk W h h1 (by rw [h.hs, hd]; exact h2) (by rw [h.hs, hd]; omega) h3
    rwa [show dk.size = n from h.hs.trans hd] at this)
  have CM := Lib.hid (merge_any w0 g cap d0 n (by omega))
  have HR := Lib.hid hr
  have HST := Lib.hid hS
  have HD := Lib.hid hd
  clear hr hS hd
  go_enter Tryz.func260, Tryz.ntmps260
  go_wp2_with fail
  refine wp_loop_rounds 1 ?_
  rw [rounds_succ]
  go_wp2_with (first
    | (go_at_call 296
       refine (CI.out 0 n d0 w HST.out (by omega) (by omega) HR.out).mono ?_
       rintro e w1 ⟨rfl, d1, hs, hp, hu, hin⟩
       have HS1 := Lib.hid hs
       have HP1 := Lib.hid hp
       have HU1 := Lib.hid hu
       have HI1 := Lib.hid hin
       clear hs hp hu hin))
  refine wp_loop_rounds 1 ?_
  rw [rounds_succ]
  go_wp2_with fail
  go_end0
  exact ⟨rfl, d1, HS1.out, HP1.out, HU1.out, HI1.out⟩

set_option maxRecDepth 100000 in
set_option maxHeartbeats 4000000 in
theorem stable_b (w0 : World) (g cap n : Nat) (d0 : Array Pl) (w : World) (hS : InSort w0 g d0 d0 w) (hd : d0.size = n) (hn : n = 20) (hr : Rise 0 n d0) :
    Calls Tryz.prog 260 #[.slice (some ⟨g, 0, none⟩) n cap, .int .i64 n, .func (.func 217) #[] #[]] w fun e w' => e = .returned (.tuple #[]) ∧ ∃ d', d'.size = n ∧ PermIn 0 n d0 d' ∧ Up (RZ ltE) 0 n d' ∧ InSort w0 g d0 d' w' := by
  have CI := Lib.hid (fun (a b : Nat) (dk : Array Pl) (W : World) (h : InSort w0 g d0 dk W) (h1 : a ≤ b) (h2 : b ≤ n) (h3 : Rise a b dk) => by
    have := insE_any w0 g cap a b d0 dk W h h1 (by rw [h.hs, hd]; exact h2) (by rw [h.hs, hd]; omega) h3
    rwa [show dk.size = n from h.hs.trans hd] at this)
  have CM := Lib.hid (merge_any w0 g cap d0 n (by omega))
  have HR := Lib.hid hr
  have HST := Lib.hid hS
  have HD := Lib.hid hd
  clear hr hS hd
  subst hn
  go_enter Tryz.func260, Tryz.ntmps260
  go_wp2_with fail
  refine wp_loop_rounds 2 ?_
  rw [rounds_succ]
  go_wp2_with (first
    | (go_at_call 296
       refine (CI.out 0 20 d0 w HST.out (by omega) (by omega) HR.out).mono ?_
       rintro e w1 ⟨rfl, d1, hs, hp, hu, hin⟩
       have HS1 := Lib.hid hs
       have HP1 := Lib.hid hp
       have HU1 := Lib.hid hu
       have HI1 := Lib.hid hin
       clear hs hp hu hin))
  rw [rounds_succ]
  go_wp2_with (first
    | (go_at_call 296
       refine (CI.out 20 20 d1 w1 HI1.out (by omega) (by omega) (fun i j p q r => absurd r (by omega))).mono ?_
       rintro e w2 ⟨rfl, d2, hs, hp, hu, hin⟩
       have HS2 := Lib.hid hs
       have HP2 := Lib.hid hp
       have HU2 := Lib.hid hu
       have HI2 := Lib.hid hin
       clear hs hp hu hin))
  refine wp_loop_rounds 1 ?_
  rw [rounds_succ]
  go_wp2_with fail
  go_end0
  exact ⟨rfl, d2, HS2.out, permIn_trans _ _ _ _ _ HP1.out (permIn_mono d1 d2 20 20 0 20 (by omega) (by omega) (by rw [HS1.out]; omega) HP2.out), HU1.out.out HP2.out (Or.inl (Nat.le_refl _)), HI2.out⟩

set_option maxRecDepth 100000 in
set_option maxHeartbeats 4000000 in
theorem stable_c (w0 : World) (g cap n : Nat) (d0 : Array Pl) (w : World) (hS : InSort w0 g d0 d0 w) (hd : d0.size = n) (hn : 20 < n) (hn2 : n < 40) (hr : Rise 0 n d0) :
    Calls Tryz.prog 260 #[.slice (some ⟨g, 0, none⟩) n cap, .int .i64 n, .func (.func 217) #[] #[]] w fun e w' => e = .returned (.tuple #[]) ∧ ∃ d', d'.size = n ∧ PermIn 0 n d0 d' ∧ Up (RZ ltE) 0 n d' ∧ InSort w0 g d0 d' w' := by
  have CI := Lib.hid (fun (a b : Nat) (dk : Array Pl) (W : World) (h : InSort w0 g d0 dk W) (h1 : a ≤ b) (h2 : b ≤ n) (h3 : Rise a b dk) => by
    have := insE_any w0 g cap a b d0 dk W h h1 (by rw [h.hs, hd]; exact h2) (by rw [h.hs, hd]; omega) h3
    rwa [show dk.size = n from h.hs.trans hd] at this)
  have CM := Lib.hid (merge_any w0 g cap d0 n (by omega))
  have HR := Lib.hid hr
  have HST := Lib.hid hS
  have HD := Lib.hid hd
  clear hr hS hd
  go_enter Tryz.func260, Tryz.ntmps260
  go_wp2_with fail
  refine wp_loop_rounds 2 ?_
  rw [rounds_succ]
  go_wp2_with (first
    | (go_at_call 296
       refine (CI.out 0 20 d0 w HST.out (by omega) (by omega) (fun i j p q r => HR.out i j p q (by omega))).mono ?_
       rintro e w1 ⟨rfl, d1, hs, hp, hu, hin⟩
       have HS1 := Lib.hid hs
       have HP1 := Lib.hid hp
       have HU1 := Lib.hid hu
       have HI1 := Lib.hid hin
       clear hs hp hu hin))
  rw [rounds_succ]
  go_wp2_with (first
    | (go_at_call 296
       refine (CI.out 20 n d1 w1 HI1.out (by omega) (by omega) (Rise.out HP1.out (fun i j p q r => HR.out i j (by omega) q r) (Or.inr (Nat.le_refl _)))).mono ?_
       rintro e w2 ⟨rfl, d2, hs, hp, hu, hin⟩
       have HS2 := Lib.hid hs
       have HP2 := Lib.hid hp
       have HU2 := Lib.hid hu
       have HI2 := Lib.hid hin
       clear hs hp hu hin))
  have HV1 := Lib.hid (HU1.out.out HP2.out (Or.inl (Nat.le_refl _)))
  have HV2 := HU2
  have HCR := Lib.hid (crs_blocks (by omega) HD.out HR.out HP1.out HP2.out)
  refine wp_loop_rounds 2 ?_
  rw [rounds_succ]
  go_wp2_with fail
  refine wp_loop_rounds 1 ?_
  rw [rounds_succ]
  go_wp2_with (first
    | (go_at_call 297
       refine (CM.out 1000 0 20 n d2 w2 (by omega) HI2.out HS2.out (by omega) (by omega) (by omega) HV1.out HV2.out HCR.out).mono ?_
       rintro e w9 ⟨rfl, d9, hs, hp, hu, hin⟩
       have HS9 := Lib.hid hs
       have HP9 := Lib.hid hp
       have HU9 := Lib.hid hu
       have HI9 := Lib.hid hin
       clear hs hp hu hin))
  rw [rounds_succ]
  go_wp2_with fail
  go_end0
  exact ⟨rfl, d9, HS9.out, permIn_trans _ _ _ _ _ (permIn_trans _ _ _ _ _ (permIn_mono d0 d1 0 20 0 n (by omega) (by omega) (by have := HD.out; omega) HP1.out) (permIn_mono d1 d2 20 n 0 n (by omega) (by omega) (by have := HS1.out; omega) HP2.out)) HP9.out, HU9.out, HI9.out⟩

set_option maxRecDepth 100000 in
set_option maxHeartbeats 4000000 in
theorem stable_d (w0 : World) (g cap n : Nat) (d0 : Array Pl) (w : World) (hS : InSort w0 g d0 d0 w) (hd : d0.size = n) (hn : n = 40) (hr : Rise 0 n d0) :
    Calls Tryz.prog 260 #[.slice (some ⟨g, 0, none⟩) n cap, .int .i64 n, .func (.func 217) #[] #[]] w fun e w' => e = .returned (.tuple #[]) ∧ ∃ d', d'.size = n ∧ PermIn 0 n d0 d' ∧ Up (RZ ltE) 0 n d' ∧ InSort w0 g d0 d' w' := by
  have CI := Lib.hid (fun (a b : Nat) (dk : Array Pl) (W : World) (h : InSort w0 g d0 dk W) (h1 : a ≤ b) (h2 : b ≤ n) (h3 : Rise a b dk) => by
    have := insE_any w0 g cap a b d0 dk W h h1 (by rw [h.hs, hd]; exact h2) (by rw [h.hs, hd]; omega) h3
    rwa [show dk.size = n from h.hs.trans hd] at this)
  have CM := Lib.hid (merge_any w0 g cap d0 n (by omega))
  have HR := Lib.hid hr
  have HST := Lib.hid hS
  have HD := Lib.hid hd
  clear hr hS hd
  subst hn
  go_enter Tryz.func260, Tryz.ntmps260
  go_wp2_with fail
  refine wp_loop_rounds 3 ?_
  rw [rounds_succ]
  go_wp2_with (first
    | (go_at_call 296
       refine (CI.out 0 20 d0 w HST.out (by omega) (by omega) (fun i j p q r => HR.out i j p q (by omega))).mono ?_
       rintro e w1 ⟨rfl, d1, hs, hp, hu, hin⟩
       have HS1 := Lib.hid hs
       have HP1 := Lib.hid hp
       have HU1 := Lib.hid hu
       have HI1 := Lib.hid hin
       clear hs hp hu hin))
  rw [rounds_succ]
  go_wp2_with (first
    | (go_at_call 296
       refine (CI.out 20 40 d1 w1 HI1.out (by omega) (by omega) (Rise.out HP1.out (fun i j p q r => HR.out i j (by omega) q r) (Or.inr (Nat.le_refl _)))).mono ?_
       rintro e w2 ⟨rfl, d2, hs, hp, hu, hin⟩
       have HS2 := Lib.hid hs
       have HP2 := Lib.hid hp
       have HU2 := Lib.hid hu
       have HI2 := Lib.hid hin
       clear hs hp hu hin))
  rw [rounds_succ]
  go_wp2_with (first
    | (go_at_call 296
       refine (CI.out 40 40 d2 w2 HI2.out (by omega) (by omega) (fun i j p q r => absurd r (by omega))).mono ?_
       rintro e w3 ⟨rfl, d3, hs, hp, hu, hin⟩
       have HS3 := Lib.hid hs
       have HP3 := Lib.hid hp
       have HU3 := Lib.hid hu
       have HI3 := Lib.hid hin
       clear hs hp hu hin))
  have HV1 := Lib.hid ((HU1.out.out HP2.out (Or.inl (Nat.le_refl _))).out HP3.out (Or.inl (by omega)))
  have HV2 := Lib.hid (HU2.out.out HP3.out (Or.inl (Nat.le_refl _)))
  have HCR := Lib.hid ((crs_blocks (by omega) HD.out HR.out HP1.out HP2.out).out HP3.out (Or.inl (Nat.le_refl _)) ⟨by omega, by omega⟩)
  refine wp_loop_rounds 2 ?_
  rw [rounds_succ]
  go_wp2_with fail
  refine wp_loop_rounds 2 ?_
  rw [rounds_succ]
  go_wp2_with (first
    | (go_at_call 297
       refine (CM.out 1000 0 20 40 d3 w3 (by omega) HI3.out HS3.out (by omega) (by omega) (by omega) HV1.out HV2.out HCR.out).mono ?_
       rintro e w9 ⟨rfl, d9, hs, hp, hu, hin⟩
       have HS9 := Lib.hid hs
       have HP9 := Lib.hid hp
       have HU9 := Lib.hid hu
       have HI9 := Lib.hid hin
       clear hs hp hu hin))
  rw [rounds_succ]
  go_wp2_with fail
  rw [rounds_succ]
  go_wp2_with fail
  go_end0
  exact ⟨rfl, d9, HS9.out, permIn_trans _ _ _ _ _ (permIn_trans _ _ _ _ _ (permIn_trans _ _ _ _ _ (permIn_mono d0 d1 0 20 0 40 (by omega) (by omega) (by have := HD.out; omega) HP1.out) (permIn_mono d1 d2 20 40 0 40 (by omega) (by omega) (by have := HS1.out; omega) HP2.out)) (permIn_mono d2 d3 40 40 0 40 (by omega) (by omega) (by have := HS2.out; omega) HP3.out)) HP9.out, HU9.out, HI9.out⟩

theorem stable_any (w0 : World) (g cap n : Nat) (d0 : Array Pl) (w : World) (hS : InSort w0 g d0 d0 w) (hd : d0.size = n) (hn : n ≤ 40) (hr : Rise 0 n d0) :
    Calls Tryz.prog 260 #[.slice (some ⟨g, 0, none⟩) n cap, .int .i64 n, .func (.func 217) #[] #[]] w fun e w' => e = .returned (.tuple #[]) ∧ ∃ d', d'.size = n ∧ PermIn 0 n d0 d' ∧ Up (RZ ltE) 0 n d' ∧ InSort w0 g d0 d' w' := by
  rcases Nat.lt_or_ge n 20 with h | h
  · exact stable_a w0 g cap n d0 w hS hd h hr
  · rcases Nat.lt_or_ge 20 n with h2 | h2
    · rcases Nat.lt_or_ge n 40 with h3 | h3
      · exact stable_c w0 g cap n d0 w hS hd h2 h3 hr
      · exact stable_d w0 g cap n d0 w hS hd (by omega) hr
    · exact stable_b w0 g cap n d0 w hS hd (by omega) hr
end

section
set_option linter.unusedSimpArgs false
set_option linter.unusedVariables false
open Go.RowKit Go.Lib Go.Sort Go.Shelf

/-- Entries in order. -/
def sortEn (l : List En) : List En := l.mergeSort (leS ltE)
theorem sortEn_len (l : List En) : (sortEn l).length = l.length := by simp [sortEn]
theorem flat_map (d : Array Pl) : flatK plC 3 d = flatK enC 3 (d.map (·.1)) := by
  unfold flatK
  rw [Array.size_map]
  apply Array.ext
  · simp
  · intro i h1 h2
    simp only [Array.getElem_map, Array.getElem_range]
    have hi : i / 3 < d.size := by simp at h1; omega
    have : (d.map (·.1))[i / 3]! = (d[i / 3]!).1 := by
      rw [getElem!_pos (d.map (·.1)) (i / 3) (by simpa using hi), getElem!_pos d (i / 3) hi, Array.getElem_map]
    rw [this]
    rfl
theorem zip_fst (l : List En) : (zipA l).map (·.1) = l.toArray := by
  unfold zipA
  rw [List.map_toArray]
  simp
theorem holds_zip {w : World} {g : Nat} {l : List En} (h : HoldsK enC 3 w g 0 l.toArray) : HoldsK plC 3 w g 0 (zipA l) := by
  unfold HoldsK at *
  rw [flat_map, zip_fst]
  exact h
set_option maxRecDepth 100000 in
set_option maxHeartbeats 4000000 in
theorem stable_none (w : World) : Calls Tryz.prog 260 #[.slice none 0 0, .int .i64 0, .func (.func 217) #[] #[]] w fun e w' => e = .returned (.tuple #[]) ∧ w = w' := by
  have CI := Lib.hid (fun W => AnyF.insertionSortCmpFunc_none insE none 0 (.func (.func 217) #[] #[]) W)
  go_enter Tryz.func260, Tryz.ntmps260
  go_wp2_with fail
  refine wp_loop_rounds 1 ?_
  rw [rounds_succ]
  go_wp2_with (first
    | (go_at_call 296
       refine (CI.out _).mono ?_
       rintro e w1 ⟨rfl, rfl⟩))
  refine wp_loop_rounds 1 ?_
  rw [rounds_succ]
  go_wp2_with fail
  go_end0
  exact ⟨rfl, rfl⟩
set_option maxRecDepth 100000 in
set_option maxHeartbeats 4000000 in
/-- The stable sort at entries, from a row of the call's own. -/
theorem sorts_any {base : Nat} (v : Value) (l : List En) (w : World) (h : OwnL enC 246 3 base w v l) (hl : l.length ≤ 40) :
    Calls Tryz.prog 216 #[v, .func (.func 217) #[] #[]] w fun e w' =>
      e = .returned (.tuple #[]) ∧ w'.ownsRow base 246 3 v l.length (cellsOfRow enC (sortEn l)) ∧ w.grownBy w' v.ownBlock := by
  rcases Go.Joins.ownsRow_forms h with ⟨rfl, h0⟩ | ⟨g, cap, rfl⟩
  · obtain rfl : l = [] := List.eq_nil_of_length_eq_zero h0
    have CN := Lib.hid (stable_none w)
    have H := Lib.hid h
    clear h
    go_enter Tryz.func216, Tryz.ntmps216
    go_wp2_with (first
      | (go_at_call 260
         refine CN.out.mono ?_
         rintro e w1 ⟨rfl, rfl⟩))
    go_end0
    exact ⟨rfl, by rw [show sortEn [] = [] from List.eq_nil_of_length_eq_zero (sortEn_len [])]; exact H.out, ⟨rfl, rfl, rfl, Nat.le_refl _, fun _ _ _ => rfl⟩⟩
  · have hH := holds_zip (holdsK_own (f := enC) (n := 3) eEn.len (by decide) h)
    have hg := (OwnL.lt h (r := g) rfl).2
    have hin : InSort w g (zipA l) (zipA l) w := ⟨hg, hH, rfl, SWK.start hH⟩
    have CS := Lib.hid (stable_any w g cap l.length (zipA l) w hin (zipA_size l) hl (zipA_rise l 0 l.length (Nat.le_refl _)))
    have H := Lib.hid h
    have q0 : (l.length : Int) ≤ 40 := by omega
    clear h hH hg hin
    go_enter Tryz.func216, Tryz.ntmps216
    go_wp2_with (first
      | (go_at_call 260
         refine CS.out.mono ?_
         rintro e w1 ⟨rfl, d1, hs, hp, hu, hin⟩
         have HX := Lib.hid (show PermIn 0 l.length (zipA l) d1 ∧ Up (RZ ltE) 0 l.length d1 ∧ InSort w g (zipA l) d1 w1 from ⟨hp, hu, hin⟩)
         clear hs hp hu hin))
    go_end0
    obtain ⟨hp, hu, hin⟩ := HX.out
    have hl2 : d1.toList.map (·.1) = sortEn l := stable_end swoE l d1 hp hu
    obtain ⟨m, os, rfl⟩ := hin.sw
    have e1 : sortWorldK plC 3 w g 0 m d1 os = grow (putRowK enC 3 (Sort.ahead w m) g 0 (sortEn l).toArray) os := by
      unfold sortWorldK putRowK
      rw [flat_map, ← hl2]
      congr 3
      rw [← List.map_toArray]
    rw [e1]
    have k := own_putRowK (f := enC) (n := 3) (m := sortEn l) (k := m) eEn.len (by decide) H.out (sortEn_len l) os
    rw [sortEn_len] at k
    exact ⟨rfl, k.1, k.2⟩

def CloneE (w : World) (l : List En) (e : Ending) (w' : World) : Prop := ∃ A c, e = .returned (.slice A l.length c) ∧ OwnL enC 246 3 w.heap.size w' (.slice A l.length c) l ∧ Below w.heap.size w w'
set_option maxRecDepth 100000 in
set_option maxHeartbeats 2000000 in
theorem cloneE_any (v : Value) (l : List En) (w : World) (hv : RowIn 3 enC w v l) (hl : l.length ≤ 1000000) :
    Calls Tryz.prog 215 #[v] w (CloneE w l) := by
  obtain ⟨A, c, rfl⟩ := hv.form
  cases A with
  | none =>
    have h0 : l.length = 0 := by
      obtain ⟨A1, c1, e1, _, hr⟩ := hv
      injection e1 with e1 _ _
      rcases Nat.eq_zero_or_pos l.length with h | h
      · exact h
      · obtain ⟨_, _, hA, _⟩ := hr h; rw [hA] at e1; cases e1
    obtain rfl : l = [] := List.eq_nil_of_length_eq_zero h0
    have hq : ∀ W, (binOp .eql 164 (.slice none 0 c) (.slice none 0 0)).run Tryz.prog W = .ok (.bool true) W := fun W => Lib.run_eql_slice_nil W _ _ none 0 c 0 0 eEn.ht
    clear hv h0
    go_enter Tryz.func215, Tryz.ntmps215
    go_wp2
    go_ret
    exact ⟨none, 0, rfl, OwnL.nil _ _, Below.refl _ _⟩
  | some ad =>
    have HV := Lib.hid hv
    have hq : ∀ W, (binOp .eql 164 (.slice (some ad) l.length c) (.slice none 0 0)).run Tryz.prog W = .ok (.bool false) W := fun W => Lib.run_eql_slice_nil W _ _ (some ad) l.length c 0 0 eEn.ht
    clear hv
    go_enter Tryz.func215, Tryz.ntmps215
    go_wp2_with (at_builtin; refine wpList_appendL eEn (by rfl) (s := .tmp 5) (x := .tmp 6) (by rfl) w.heap.size [] l _ _ (by rfl) (by rfl) (OwnL.lit0 _ w _ _ rfl (Nat.le_refl _)) (HV.out.below (balloc (Below.refl _ _) _)) (by simp; omega) (by simp) ?_; intro out A2 c2 w2 hout hown hg _; have HOUT := Lib.hid hout; have HO := Lib.hid hown; have HG := Lib.hid hg; clear hout hown hg)
    go_ret
    have e1 : out = l := by rw [HOUT.out]; rfl
    subst e1
    exact ⟨A2, c2, rfl, HO.out, (balloc (Below.refl _ _) _).trans (grown_below HG.out (by simp) (fun r hr => by have hr' : some w.heap.size = some r := hr; injection hr'; omega))⟩
set_option maxRecDepth 100000 in
set_option maxHeartbeats 4000000 in
/-- stripe.Sort. -/
theorem sortE_any (v : Value) (l : List En) (w : World) (hv : RowIn 3 enC w v l) (hl : l.length ≤ 40) :
    Calls Tryz.prog 163 #[v] w (CloneE w (sortEn l)) := by
  have CC := Lib.hid (cloneE_any v l w hv (by omega))
  have CS := Lib.hid (fun (v : Value) (W : World) (h : OwnL enC 246 3 w.heap.size W v l) => sorts_any v l W h hl)
  clear hv
  go_enter Tryz.func163, Tryz.ntmps163
  go_wp2_with (first
    | (go_at_call 215
       refine CC.out.mono ?_
       rintro e w1 ⟨A, c, rfl, hown, hb⟩
       have HO := Lib.hid hown
       have HB := Lib.hid hb
       clear hown hb)
    | (go_at_call 216
       refine (CS.out _ w1 HO.out).mono ?_
       rintro e w2 ⟨rfl, hown, hg⟩
       have HO2 := Lib.hid hown
       have HG := Lib.hid hg
       clear hown hg))
  go_ret
  have ho := HO2.out
  refine ⟨A, c, by rw [sortEn_len]; rfl, ?_, HB.out.trans (grown_below HG.out HB.out.size (fun r hr => (HO.out.lt hr).1))⟩
  unfold OwnL
  rw [sortEn_len]
  exact ho
end

section
set_option linter.unusedSimpArgs false
set_option linter.unusedVariables false
open Go.RowKit Go.Lib Go.Sort
end

end Go.Proofs.YtmniiodpbebnmaaGreat
