/- stripe.Stripe in memory: New, made; a nil stripe: Ingest, Trim, Note, Get, Keys, Len, Version, Freeze; stripe.Set of a nil stripe. -/
import Derived.Test.YtfnabpmdjfejbaaGreatJ24
import Derived.Test.YtfnabpmdjfejbaaGreatJ09
import Derived.Laws.Cover3
namespace Go.Proofs.YtfnabpmdjfejbaaGreat

section
set_option linter.unusedSimpArgs false
set_option linter.unusedVariables false
open Go.RowKit Go.Lib Go.Sort

/-- What a stripe keeps at a key: a node's block, what it has, its footprint. -/
abbrev NE := Nat × Nd × List Nat
def neV (b : NE) : Value := .pointer (some ⟨b.1, 0, none⟩)
def apart (a b : List Nat) : Prop := ∀ k ∈ a, k ∉ b
def StripeIn (w : World) (T : Nat) (c : Cfg) (ver : Nat) (es : List (KO × NE)) (rs rh : Nat) (fp : List Nat) : Prop :=
  ∃ M, w.heap[T]? = some (.cells #[.map (some M), .int .i64 c.st, .int .i64 c.sa, .int .i64 c.lo, .int .i64 c.hi, .int .i64 (ver : Nat)] 72 (0, 0)) ∧ MapIn koV neV w M es ∧ (∀ p ∈ es, NodeIn w p.2.1 p.2.2.1 rs rh p.2.2.2) ∧
    (∀ p ∈ es, ∀ q ∈ es, p.1 ≠ q.1 → apart p.2.2.2 q.2.2.2) ∧ (∀ p ∈ es, T ∉ p.2.2.2 ∧ M ∉ p.2.2.2) ∧ T ≠ M ∧ fp = T :: M :: es.flatMap (fun p => p.2.2.2)
theorem StripeIn.kept {w w' : World} {T : Nat} {c : Cfg} {ver : Nat} {es : List (KO × NE)} {rs rh : Nat} {fp : List Nat} (h : StripeIn w T c ver es rs rh fp) (hb : ∀ r ∈ fp, w'.heap[r]? = w.heap[r]?) : StripeIn w' T c ver es rs rh fp := by
  obtain ⟨M, h1, h2, h3, h4, h5, h6, rfl⟩ := h
  exact ⟨M, (hb T (List.mem_cons_self ..)).trans h1, h2.block (hb M (List.mem_cons_of_mem _ (List.mem_cons_self ..))), fun p hp => (h3 p hp).kept (fun r hr => hb r (List.mem_cons_of_mem _ (List.mem_cons_of_mem _ (List.mem_flatMap.2 ⟨p, hp, hr⟩)))), h4, h5, h6, rfl⟩
theorem StripeIn.lt {w : World} {T : Nat} {c : Cfg} {ver : Nat} {es : List (KO × NE)} {rs rh : Nat} {fp : List Nat} (h : StripeIn w T c ver es rs rh fp) : ∀ r ∈ fp, r < w.heap.size := by
  obtain ⟨M, h1, h2, h3, h4, h5, h6, rfl⟩ := h
  intro r hr
  rcases List.mem_cons.1 hr with rfl | hr
  · exact (Array.getElem?_eq_some_iff.1 h1).1
  rcases List.mem_cons.1 hr with rfl | hr
  · exact h2.lt
  · obtain ⟨p, hp, hr⟩ := List.mem_flatMap.1 hr
    exact (h3 p hp).lt r hr
theorem StripeIn.below {w w' : World} {T : Nat} {c : Cfg} {ver : Nat} {es : List (KO × NE)} {rs rh : Nat} {fp : List Nat} (h : StripeIn w T c ver es rs rh fp) (hb : Below w.heap.size w w') : StripeIn w' T c ver es rs rh fp := h.kept (fun r hr => hb.block r (h.lt r hr))

set_option maxRecDepth 100000 in
set_option maxHeartbeats 4000000 in
theorem stripeNew_nil (c : Cfg) (w : World) (hc : cfgB c = false) (hok : c.ok) :
    Calls Tryz.prog 7 #[cfgV c] w fun e w' => e = .returned (.pointer none) ∧ Below w.heap.size w w' := by
  have hE : cfgE c = 1 := by unfold cfgE; rw [hc]; rfl
  have HE := Lib.hid hE
  have HNR := Lib.hid (nodeRight_any c)
  obtain ⟨st, sa, lo, hi⟩ := c
  clear hc hE
  unfold cfgV
  unfold cfgV at HNR
  go_enter Tryz.func7, Tryz.ntmps7
  go_wp2_with (go_at_call 21; refine (HNR.out _ hok).mono ?_; rw [HE.out]; rintro e w2 ⟨rfl, hb2⟩; have HB := Lib.hid hb2; clear hb2)
  go_ret
  exact ⟨rfl, bthen (balloc (Below.refl _ _) _) HB.out⟩

set_option maxRecDepth 100000 in
set_option maxHeartbeats 4000000 in
theorem smade_any (T : Nat) (c : Cfg) (ver : Nat) (es : List (KO × NE)) (rs rh : Nat) (fp : List Nat) (w : World) (h : StripeIn w T c ver es rs rh fp) :
    Calls Tryz.prog 37 #[.pointer (some ⟨T, 0, none⟩)] w fun e w' => e = .returned (.bool true) ∧ Below w.heap.size w w' := by
  obtain ⟨M, h1, h2, h3, h4, h5, h6, rfl⟩ := h
  have z0 : w.cell? ⟨T, 0, none⟩ = some (.map (some M)) := by simp only [World.cell?, h1]; rfl
  have hq : ∀ W, (binOp .neq 70 (.map (some M)) (.map none)).run Tryz.prog W = .ok (.bool true) W := fun W => run_neq_map_nil W _ _ _ (some M) Tryz.underlying70
  clear h1 h2 h3 h4 h5 h6
  go_enter Tryz.func37, Tryz.ntmps37
  go_wp2
  go_ret
  exact ⟨rfl, Below.refl _ _⟩

set_option maxRecDepth 100000 in
set_option maxHeartbeats 4000000 in
theorem smade_nil (w : World) :
    Calls Tryz.prog 37 #[.pointer none] w fun e w' => e = .returned (.bool false) ∧ Below w.heap.size w w' := by
  go_enter Tryz.func37, Tryz.ntmps37
  go_wp2
  go_ret
  exact ⟨rfl, Below.refl _ _⟩

def NewStripe (w : World) (c : Cfg) (rs rh : Nat) (e : Ending) (w' : World) : Prop :=
  ∃ T fp, e = .returned (.pointer (some ⟨T, 0, none⟩)) ∧ StripeIn w' T c 0 [] rs rh fp ∧ (∀ k ∈ fp, w.heap.size ≤ k) ∧ Below w.heap.size w w'

set_option maxRecDepth 100000 in
set_option maxHeartbeats 4000000 in
theorem stripeNew_any (c : Cfg) (rs rh : Nat) (w : World) (hc : cfgB c = true) (hok : c.ok) :
    Calls Tryz.prog 7 #[cfgV c] w (NewStripe w c rs rh) := by
  have hE : cfgE c = 0 := by unfold cfgE; rw [if_pos hc]
  have HE := Lib.hid hE
  have HNR := Lib.hid (nodeRight_any c)
  obtain ⟨st, sa, lo, hi⟩ := c
  have hmm := @run_makeMap Tryz.prog
  clear hc hE
  unfold cfgV
  unfold cfgV at HNR
  go_enter Tryz.func7, Tryz.ntmps7
  go_wp2_with (go_at_call 21
               refine calls_named ?_
               intro W1 hW1
               have hb1 : Below w.heap.size w W1 := by rw [hW1]; exact balloc (Below.refl _ _) _
               have hx1 : W1.heap[w.heap.size]? = some (.cells #[.int .i64 st, .int .i64 sa, .int .i64 lo, .int .i64 hi] 23 (0, 0)) := by rw [hW1]; exact heap_alloc_new _ _
               clear hW1
               refine (HNR.out W1 hok).mono ?_
               rw [HE.out]
               rintro e w2 ⟨rfl, hb2⟩
               obtain ⟨a1, a2, a3⟩ := box_cells hb2 hx1
               have HB := Lib.hid (bthen hb1 hb2)
               clear hb1 hb2 hx1)
  go_ret
  have hsz := HB.out.size
  refine ⟨w2.heap.size + 1, [w2.heap.size + 1, w2.heap.size], rfl, ⟨w2.heap.size, box_new _ _ _, (MapIn.made w2).below (balloc (Below.refl _ _) _), fun p hp => by simp at hp, fun p hp => by simp at hp, fun p hp => by simp at hp, by omega, rfl⟩, fun k hk => by simp at hk; omega, balloc (balloc HB.out _) _⟩
end

section
set_option linter.unusedSimpArgs false
set_option linter.unusedVariables false
open Go.RowKit Go.Lib Go.Sort

set_option maxRecDepth 100000 in
set_option maxHeartbeats 4000000 in
theorem keys_nil (w : World) :
    Calls Tryz.prog 28 #[.pointer none] w fun e w' => e = .returned (.slice none 0 0) ∧ Below w.heap.size w w' := by
  go_enter Tryz.func28, Tryz.ntmps28
  go_wp2_with (go_at_call 37; refine (smade_nil _).mono ?_; rintro e w2 ⟨rfl, hb2⟩; have HB := Lib.hid hb2; clear hb2)
  go_ret
  exact ⟨rfl, HB.out⟩

set_option maxRecDepth 100000 in
set_option maxHeartbeats 4000000 in
theorem slen_nil (w : World) :
    Calls Tryz.prog 17 #[.pointer none] w fun e w' => e = .returned (.int .i64 0) ∧ Below w.heap.size w w' := by
  go_enter Tryz.func17, Tryz.ntmps17
  go_wp2_with (go_at_call 28; refine (keys_nil _).mono ?_; rintro e w2 ⟨rfl, hb2⟩; have HB := Lib.hid hb2; clear hb2)
  go_ret
  exact ⟨rfl, HB.out⟩

set_option maxRecDepth 100000 in
set_option maxHeartbeats 4000000 in
theorem sver_nil (w : World) :
    Calls Tryz.prog 14 #[.pointer none] w fun e w' => e = .returned (.int .i64 0) ∧ Below w.heap.size w w' := by
  go_enter Tryz.func14, Tryz.ntmps14
  go_wp2_with (go_at_call 37; refine (smade_nil _).mono ?_; rintro e w2 ⟨rfl, hb2⟩; have HB := Lib.hid hb2; clear hb2)
  go_ret
  exact ⟨rfl, HB.out⟩

set_option maxRecDepth 100000 in
set_option maxHeartbeats 4000000 in
theorem sget_nil (k : Value) (w : World) (hi lo : Int) (hk : k = .agg #[.int .u64 hi, .int .u64 lo]) :
    Calls Tryz.prog 15 #[.pointer none, k] w fun e w' => e = .returned (.pointer none) ∧ Below w.heap.size w w' := by
  subst hk
  go_enter Tryz.func15, Tryz.ntmps15
  go_wp2_with (go_at_call 37; refine (smade_nil _).mono ?_; rintro e w2 ⟨rfl, hb2⟩; have HB := Lib.hid hb2; clear hb2)
  go_ret
  exact ⟨rfl, bthen (balloc (Below.refl _ _) _) HB.out⟩

set_option maxRecDepth 100000 in
set_option maxHeartbeats 4000000 in
theorem singest_nil (hi lo t v : Int) (w : World) :
    Calls Tryz.prog 18 #[.pointer none, .agg #[.int .u64 hi, .int .u64 lo], .int .i64 t, .int .i64 v] w fun e w' => e = .returned (.int .i64 (if serE t v = 0 then 5 else serE t v)) ∧ Below w.heap.size w w' := by
  have HR := Lib.hid (seriesRight_any t v)
  by_cases h : serE t v = 0
  · rw [if_pos h]
    have H := Lib.hid h
    clear h
    go_enter Tryz.func18, Tryz.ntmps18
    go_wp2_with (first
      | (go_at_call 39; refine (HR.out _).mono ?_; rw [H.out]; rintro e w1 ⟨rfl, rfl⟩)
      | (go_at_call 37; refine (smade_nil _).mono ?_; rintro e w2 ⟨rfl, hb2⟩; have HB := Lib.hid hb2; clear hb2))
    go_ret
    exact ⟨rfl, bthen (balloc (Below.refl _ _) _) HB.out⟩
  · rw [if_neg h]
    have hn : (serE t v != 0) = true := by simpa using h
    generalize serE t v = r at h hn HR
    clear h
    go_enter Tryz.func18, Tryz.ntmps18
    go_wp2_with (go_at_call 39; refine (HR.out _).mono ?_; rintro e w1 ⟨rfl, rfl⟩)
    go_ret
    exact ⟨rfl, balloc (Below.refl _ _) _⟩

set_option maxRecDepth 100000 in
set_option maxHeartbeats 4000000 in
theorem snote_nil (hi lo : Int) (a : Adv) (w : World) :
    Calls Tryz.prog 23 #[.pointer none, .agg #[.int .u64 hi, .int .u64 lo], .agg (advC a).toArray] w fun e w' => e = .returned (.int .i64 5) ∧ Below w.heap.size w w' := by
  unfold advC
  go_enter Tryz.func23, Tryz.ntmps23
  go_wp2_with (go_at_call 15; refine (sget_nil _ _ hi lo rfl).mono ?_; rintro e w2 ⟨rfl, hb2⟩; have HB := Lib.hid hb2; clear hb2)
  go_ret
  exact ⟨rfl, bthen (balloc (balloc (Below.refl _ _) _) _) HB.out⟩

set_option maxRecDepth 100000 in
set_option maxHeartbeats 4000000 in
theorem strim_nil (t : Int) (w : World) :
    Calls Tryz.prog 19 #[.pointer none, .int .i64 t] w fun e w' => e = .returned (.int .i64 0) ∧ Below w.heap.size w w' := by
  go_enter Tryz.func19, Tryz.ntmps19
  go_wp2_with (go_at_call 28; refine (keys_nil _).mono ?_; rintro e w2 ⟨rfl, hb2⟩; have HB := Lib.hid hb2; clear hb2)
  first | refine wp_loop_rounds 1 ?_ | (go_loop [13] (fun i => i = .int .i64 0) (fun _ => 0))
  first | rw [rounds_succ] | skip
  go_wp2
  go_ret
  exact ⟨rfl, HB.out⟩

set_option maxRecDepth 100000 in
set_option maxHeartbeats 4000000 in
theorem sfreeze_nil (w : World) :
    Calls Tryz.prog 10 #[.pointer none] w fun e w' => e = .returned (.slice none 0 0) ∧ Below w.heap.size w w' := by
  go_enter Tryz.func10, Tryz.ntmps10
  go_wp2_with (go_at_call 28; refine (keys_nil _).mono ?_; rintro e w2 ⟨rfl, hb2⟩; have HB := Lib.hid hb2; clear hb2)
  first | refine wp_loop_rounds 1 ?_ | skip
  first | rw [rounds_succ] | skip
  go_wp2
  go_ret
  exact ⟨rfl, HB.out⟩
end

section
set_option linter.unusedSimpArgs false
set_option linter.unusedVariables false
open Go.RowKit Go.Lib Go.Sort

def cfg1 : Cfg := ⟨1, 1, 1, 1⟩
set_option maxRecDepth 100000 in
set_option maxHeartbeats 4000000 in
theorem sset_nil (hi lo : Int) (p : Pol) (w : World) :
    Calls Tryz.prog 22 #[.pointer none, .agg #[.int .u64 hi, .int .u64 lo], polV p] w fun e w' => e = .returned (.int .i64 (if polB p = true then 5 else 7)) ∧ Below w.heap.size w w' := by
  have hNN : ∀ W, Calls Tryz.prog 45 #[.agg #[.int .i64 1, .int .i64 1, .int .i64 1, .int .i64 1]] W (NewNode W nd0 1 1) := fun W => nodeNew_any cfg1 1 1 W (by decide) rfl rfl (by simp [Cfg.ok, cfg1, I64])
  have HNN := Lib.hid hNN
  clear hNN
  cases hp : polB p with
  | true =>
    have HP := Lib.hid hp
    have HS := Lib.hid (fun (N : Nat) (fp : List Nat) (W : World) (h : NodeIn W N nd0 1 1 fp) => nodeSet_any N nd0 1 1 fp p W h (by omega) (by omega) (by simp [nd0]) hp)
    clear hp
    unfold polV
    unfold polV at HS
    go_enter Tryz.func22, Tryz.ntmps22
    go_wp2_with fail
    refine name_world ?_
    intro W1 hW1
    have hb1 : Below w.heap.size w W1 := by rw [hW1]; exact balloc (balloc (Below.refl _ _) _) _
    have hx1 : W1.heap[w.heap.size + 1]? = some (.cells #[.int .i64 p.mn, .int .i64 p.mx, .int .i64 p.tg, .int .i64 p.tol, .int .i64 p.win, .int .i64 p.hold] 36 (0, 0)) := by rw [hW1]; exact box_new _ _ _
    clear hW1
    obtain ⟨a1, a2, a3⟩ := box_cells (Below.refl _ _) hx1
    have HB1 := Lib.hid hb1
    have HX1 := Lib.hid hx1
    clear hb1 hx1
    go_region_with (first
      | (go_at_call 45
         refine calls_named ?_
         intro W2 hW2
         have hb2 : Below W1.heap.size W1 W2 := by rw [hW2]; repeat (first | exact Below.refl _ _ | refine balloc ?_ _ | refine Below.drew ?_)
         clear hW2
         refine (HNN.out W2).mono ?_
         rintro e w3 ⟨N, fp, rfl, h1, h2, h3⟩
         have hb3 := bthen hb2 h3
         obtain ⟨b1, b2, b3⟩ := box_cells hb3 HX1.out
         have h2' : ∀ k ∈ fp, W1.heap.size ≤ k := fun k hk => by have := h2 k hk; have := hb2.size; omega
         have HN := Lib.hid h1
         have HF := Lib.hid h2'
         have HB3 := Lib.hid hb3
         clear h1 h2 h3 h2' hb2 hb3)
      | (go_at_call 46
         refine calls_named ?_
         intro W4 hW4
         have hb4 : Below w3.heap.size w3 W4 := by rw [hW4]; repeat (first | exact Below.refl _ _ | refine balloc ?_ _ | refine Below.drew ?_)
         clear hW4
         refine (HS.out N fp W4 (HN.out.below hb4)).mono ?_
         rintro e w5 ⟨N5, fp5, rfl, _, hu5⟩
         have HB5 := Lib.hid ((bthen HB1.out (bthen HB3.out hb4)).trans (hu5.below (B := w.heap.size) ((bthen HB1.out (bthen HB3.out hb4)).size) (fun k hk => by have := HF.out k hk; have := HB1.out.size; omega)))
         clear hu5 hb4))
    all_goals
      go_wp2_with (go_at_call 37; refine (smade_nil _).mono ?_; rintro e w7 ⟨rfl, hb7⟩; have HB7 := Lib.hid (HB5.out.trans (hb7.mono (HB5.out.size))); clear hb7)
      go_ret
      first | exact ⟨by simp, HB7.out⟩ | exact ⟨by simp, HB5.out⟩
  | false =>
    have HP := Lib.hid hp
    have HS := Lib.hid (fun (N : Nat) (W : World) => nodeSet_bad N p W hp)
    clear hp
    unfold polV
    unfold polV at HS
    go_enter Tryz.func22, Tryz.ntmps22
    go_wp2_with fail
    refine name_world ?_
    intro W1 hW1
    have hb1 : Below w.heap.size w W1 := by rw [hW1]; exact balloc (balloc (Below.refl _ _) _) _
    have hx1 : W1.heap[w.heap.size + 1]? = some (.cells #[.int .i64 p.mn, .int .i64 p.mx, .int .i64 p.tg, .int .i64 p.tol, .int .i64 p.win, .int .i64 p.hold] 36 (0, 0)) := by rw [hW1]; exact box_new _ _ _
    clear hW1
    obtain ⟨a1, a2, a3⟩ := box_cells (Below.refl _ _) hx1
    have HB1 := Lib.hid hb1
    have HX1 := Lib.hid hx1
    clear hb1 hx1
    go_region_with (first
      | (go_at_call 45
         refine calls_named ?_
         intro W2 hW2
         have hb2 : Below W1.heap.size W1 W2 := by rw [hW2]; repeat (first | exact Below.refl _ _ | refine balloc ?_ _ | refine Below.drew ?_)
         clear hW2
         refine (HNN.out W2).mono ?_
         rintro e w3 ⟨N, fp, rfl, h1, h2, h3⟩
         have hb3 := bthen hb2 h3
         obtain ⟨b1, b2, b3⟩ := box_cells hb3 HX1.out
         have h2' : ∀ k ∈ fp, W1.heap.size ≤ k := fun k hk => by have := h2 k hk; have := hb2.size; omega
         have HN := Lib.hid h1
         have HF := Lib.hid h2'
         have HB3 := Lib.hid hb3
         clear h1 h2 h3 h2' hb2 hb3)
      | (go_at_call 46
         refine calls_named ?_
         intro W4 hW4
         have hb4 : Below w3.heap.size w3 W4 := by rw [hW4]; repeat (first | exact Below.refl _ _ | refine balloc ?_ _ | refine Below.drew ?_)
         clear hW4
         refine (HS.out N W4).mono ?_
         rintro e w5 ⟨rfl, hu5⟩
         have HB5 := Lib.hid ((bthen HB1.out (bthen HB3.out hb4)).trans (hu5.mono ((bthen HB1.out (bthen HB3.out hb4)).size)))
         clear hu5 hb4))
    all_goals
      go_wp2_with (go_at_call 37; refine (smade_nil _).mono ?_; rintro e w7 ⟨rfl, hb7⟩; have HB7 := Lib.hid (HB5.out.trans (hb7.mono (HB5.out.size))); clear hb7)
      go_ret
      first | exact ⟨by simp, HB7.out⟩ | exact ⟨by simp, HB5.out⟩
end

end Go.Proofs.YtfnabpmdjfejbaaGreat
