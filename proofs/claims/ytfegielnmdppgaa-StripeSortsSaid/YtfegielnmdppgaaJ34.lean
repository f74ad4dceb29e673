/- node.Set; node.Trim; stripe.Stripe in memory: New, made. -/
import Derived.Test.YtfegielnmdppgaaJ33
import Derived.Test.YtfegielnmdppgaaJ18
import Derived.Laws.Cover3
namespace Go.Proofs.Ytfegielnmdppgaa

section
set_option linter.unusedSimpArgs false
set_option linter.unusedVariables false
open Go.RowKit Go.Lib Go.Sort
end

section
set_option linter.unusedSimpArgs false
set_option linter.unusedVariables false
open Go.RowKit Go.Lib Go.Sort

theorem placeS_zero {l : List Smp} (hr : risingS l) (t : Int) (h : placeS l t = 0) : ∀ h0 : 0 < l.length, t ≤ l[0].1 := fun h0 => by
  by_cases h3 : l[0].1 < t
  · have := (placeS_lt hr t 0 h0).2 h3; omega
  · omega
theorem placeS_pos {l : List Smp} (hr : risingS l) (t : Int) (h : 0 < placeS l t) : ∃ h0 : 0 < l.length, l[0].1 < t := by
  have h0 : 0 < l.length := by have := placeS_le l t; omega
  exact ⟨h0, (placeS_lt hr t 0 h0).1 h⟩

def TrimS (w : World) (N : Nat) (x : Nd) (rs rh : Nat) (fp : List Nat) (t : Int) (e : Ending) (w' : World) : Prop :=
  (placeS x.smp t = 0 ∧ e = .returned (.tuple #[.pointer (some ⟨N, 0, none⟩), .int .i64 0]) ∧ Below w.heap.size w w') ∨
  (0 < placeS x.smp t ∧ NdSays w { bump x with smp := x.smp.drop (placeS x.smp t) } rs rh (mfp x fp) (fun q => .tuple #[q, .int .i64 (placeS x.smp t : Nat)]) e w')

set_option maxRecDepth 100000 in
set_option maxHeartbeats 4000000 in
theorem nodeTrim_none (N : Nat) (x : Nd) (rs rh : Nat) (fp : List Nat) (t : Int) (w : World) (h : NodeIn w N x rs rh fp) (hrs : rs ≤ 256) (h0 : placeS x.smp t = 0) :
    Calls Try.prog 30 #[.pointer (some ⟨N, 0, none⟩), .int .i64 t] w (TrimS w N x rs rh fp t) := by
  have HN := Lib.hid h
  have HM := Lib.hid (made_any N x rs rh fp w h)
  obtain ⟨S, fs, H, fh, h1, h2, h3, h4, h5, h6, hfp, h7, h8⟩ := h
  unfold ndC at h1
  have hz := placeS_zero h7 t h0
  have HS := Lib.hid h2
  have H1 := Lib.hid h1
  have H0 := Lib.hid h0
  clear h1 h2 h3 h4 h5 h6 hfp h7 h0
  rcases Nat.eq_zero_or_pos x.smp.length with he | hp
  · go_enter Try.func30, Try.ntmps30
    go_wp2_with (first
      | (go_at_call 18; refine HM.out.mono ?_; rintro e w2 ⟨rfl, hb2⟩; obtain ⟨a1, a2, a3⟩ := box_cells hb2 H1.out; have HB2 := Lib.hid hb2; clear hb2)
      | (go_at_call 39
         refine (serList_any S _ _ fs w2 (HS.out.below HB2.out) (by omega)).mono ?_
         rintro e w3 ⟨A, c, fq, rfl, hq, _, hb3⟩
         have HB3 := Lib.hid (bthen HB2.out hb3)
         clear hq hb3))
    exact bodyPost_ret (v := .tuple #[.pointer (some ⟨N, 0, none⟩), .int .i64 0]) (by simp [results, Try.results30, go_sem]) rfl (.inl ⟨H0.out, rfl, HB3.out⟩)
  · have hz1 := hz hp
    have hne : ((x.smp.length : Int) == 0) = false := by rw [beq_eq_false_iff_ne]; omega
    clear hz
    go_enter Try.func30, Try.ntmps30
    go_wp2_with (first
      | (go_at_call 18; refine HM.out.mono ?_; rintro e w2 ⟨rfl, hb2⟩; obtain ⟨a1, a2, a3⟩ := box_cells hb2 H1.out; have HB2 := Lib.hid hb2; clear hb2)
      | (go_at_call 39
         refine (serList_any S _ _ fs w2 (HS.out.below HB2.out) (by omega)).mono ?_
         rintro e w3 ⟨A, c, fq, rfl, hq, _, hb3⟩
         obtain ⟨g, o, rfl, hg, hc⟩ := (hq.row eSmp).at_ hp
         have hc0 := hc 0 _ rfl
         simp only [Nat.zero_mul, Nat.add_zero] at hc0
         have q1 : (0 : Int) < (x.smp.length : Int) := by omega
         have HB3 := Lib.hid (bthen HB2.out hb3)
         clear hq hb3 hc))
    exact bodyPost_ret (v := .tuple #[.pointer (some ⟨N, 0, none⟩), .int .i64 0]) (by simp [results, Try.results30, go_sem]) rfl (.inl ⟨H0.out, rfl, HB3.out⟩)
set_option maxRecDepth 100000 in
set_option maxHeartbeats 4000000 in
theorem nodeTrim_some (N : Nat) (x : Nd) (rs rh : Nat) (fp : List Nat) (t : Int) (w : World) (h : NodeIn w N x rs rh fp) (hrs : rs ≤ 256) (hrh : rh ≤ 64) (hv : x.ver ≤ 1000000) (h0 : 0 < placeS x.smp t) :
    Calls Try.prog 30 #[.pointer (some ⟨N, 0, none⟩), .int .i64 t] w (TrimS w N x rs rh fp t) := by
  have HN := Lib.hid h
  have HM := Lib.hid (made_any N x rs rh fp w h)
  obtain ⟨S, fs, H, fh, h1, h2, h3, h4, h5, h6, hfp, h7, h8⟩ := h
  unfold ndC at h1
  obtain ⟨hp, hlt⟩ := placeS_pos h7 t h0
  have HS := Lib.hid h2
  have H1 := Lib.hid h1
  have H0 := Lib.hid h0
  clear h1 h2 h3 h4 h5 h6 hfp h7 h0
  have hz1 : ¬ t ≤ x.smp[0].1 := by omega
  have hne : ((x.smp.length : Int) == 0) = false := by rw [beq_eq_false_iff_ne]; omega
  clear hlt
  go_enter Try.func30, Try.ntmps30
  go_wp2_with (first
    | (go_at_call 18; refine HM.out.mono ?_; rintro e w2 ⟨rfl, hb2⟩; obtain ⟨a1, a2, a3⟩ := box_cells hb2 H1.out; have HB2 := Lib.hid hb2; clear hb2)
    | (go_at_call 39
       refine (serList_any S _ _ fs w2 (HS.out.below HB2.out) (by omega)).mono ?_
       rintro e w3 ⟨A, c, fq, rfl, hq, _, hb3⟩
       obtain ⟨g, o, rfl, hg, hc⟩ := (hq.row eSmp).at_ hp
       have hc0 := hc 0 _ rfl
       simp only [Nat.zero_mul, Nat.add_zero] at hc0
       have q1 : (0 : Int) < (x.smp.length : Int) := by omega
       have HB3 := Lib.hid (bthen HB2.out hb3)
       clear hq hb3 hc)
    | (go_at_call 19
       refine (own_any N x rs rh fp w3 (HN.out.below HB3.out) hrs hrh hv).mono ?_
       rintro e w5 ⟨N3, fp3, rfl, ⟨S5, fs5, H5, fh5, h1, h2, h3, h4, h5, h6, hfp, h7, h8⟩, hu3⟩
       have g1 := h1
       unfold ndC at g1
       obtain ⟨b1, b2, b3⟩ := box_cells (Below.refl _ _) g1
       have HU3 := Lib.hid ((Upd.of_below HB3.out _).trans hu3)
       have G1 := Lib.hid h1
       have G2 := Lib.hid h2
       have G3 := Lib.hid h3
       have G7 := Lib.hid h7
       have G8 := Lib.hid h8
       have HFP := Lib.hid hfp
       clear g1 h1 h2 h3 h7 h8 hu3 hfp)
    | (go_at_call 42
       refine (serTrim_any S5 _ (rs : Nat) fs5 t w5 G2.out G7.out (by have := G8.out; omega)).mono ?_
       rintro e w6 ⟨fs', rfl, hs4, hu4⟩
       have HL := Lib.hid (node_ser G1.out G3.out h4 h5 h6 hs4 hu4 (rising_drop G7.out _) (by have := G8.out; simp; omega))
       clear hs4 hu4))
  refine bodyPost_ret (v := .tuple #[.pointer (some ⟨N3, 0, none⟩), .int .i64 (placeS x.smp t : Nat)]) (by simp [results, Try.results30, go_sem, bump]) rfl ?_
  obtain ⟨l1, l2⟩ := HL.out
  refine .inr ⟨H0.out, N3, _, rfl, l1, ?_⟩
  have hu := HU3.out
  rw [HFP.out] at hu
  exact hu.trans l2

theorem nodeTrim_any (N : Nat) (x : Nd) (rs rh : Nat) (fp : List Nat) (t : Int) (w : World) (h : NodeIn w N x rs rh fp) (hrs : rs ≤ 256) (hrh : rh ≤ 64) (hv : x.ver ≤ 1000000) :
    Calls Try.prog 30 #[.pointer (some ⟨N, 0, none⟩), .int .i64 t] w (TrimS w N x rs rh fp t) := by
  rcases Nat.eq_zero_or_pos (placeS x.smp t) with h0 | h0
  · exact nodeTrim_none N x rs rh fp t w h hrs h0
  · exact nodeTrim_some N x rs rh fp t w h hrs hrh hv h0
end

section
set_option linter.unusedSimpArgs false
set_option linter.unusedVariables false
open Go.RowKit Go.Lib Go.Sort

/-- What a stripe keeps at a key: a node's block, what it has, its footprint. -/
abbrev NE := Nat × Nd × List Nat
def neV (b : NE) : Value := .pointer (some ⟨b.1, 0, none⟩)
def apart (a b : List Nat) : Prop := ∀ k ∈ a, k ∉ b
def StripeIn (w : World) (T : Nat) (c : Cfg) (ver : Nat) (es : List (KO × NE)) (rs rh : Nat) (fp : List Nat) : Prop :=
  ∃ M, w.heap[T]? = some (.cells #[.map (some M), .int .i64 c.st, .int .i64 c.sa, .int .i64 c.lo, .int .i64 c.hi, .int .i64 (ver : Nat)] 68 (0, 0)) ∧ MapIn koV neV w M es ∧ (∀ p ∈ es, NodeIn w p.2.1 p.2.2.1 rs rh p.2.2.2) ∧
    (∀ p ∈ es, ∀ q ∈ es, p.1 ≠ q.1 → apart p.2.2.2 q.2.2.2) ∧ (∀ p ∈ es, T ∉ p.2.2.2 ∧ M ∉ p.2.2.2) ∧ T ≠ M ∧ fp = T :: M :: es.flatMap (fun p => p.2.2.2)
theorem StripeIn.kept {w w' : World} {T : Nat} {c : Cfg} {ver : Nat} {es : List (KO × NE)} {rs rh : Nat} {fp : List Nat} (h : StripeIn w T c ver es rs rh fp) (hb : ∀ r ∈ fp, w'.heap[r]? = w.heap[r]?) : StripeIn w' T c ver es rs rh fp := by
  obtain ⟨M, h1, h2, h3, h4, h5, h6, rfl⟩ := h
  exact ⟨M, (hb T (List.mem_cons_self ..)).trans h1, h2.block (hb M (List.mem_cons_of_mem _ (List.mem_cons_self ..))), fun p hp => (h3 p hp).kept (fun r hr => hb r (List.mem_cons_of_mem _ (List.mem_cons_of_mem _ (List.mem_flatMap.2 ⟨p, hp, hr⟩)))), h4, h5, h6, rfl⟩
theorem StripeIn.lt {w : World} {T : Nat} {c : Cfg} {ver : Nat} {es : List (KO × NE)} {rs rh : Nat} {fp : List Nat} (h : StripeIn w T c ver es rs rh fp) : ∀ r ∈ fp, r < w.heap.size := by
  obtain ⟨M, h1, h2, h3, h4, h5, h6, rfl⟩ := h
  intro r hr
  rcases List.mem_cons.1 hr with rfl | hr
  · exact (Array.getElem?_eq_some_iff.1 h1).1
  rcases List.mem_cons.1 hr with rfl | hr
  · exact h2.lt
  · obtain ⟨p, hp, hr⟩ := List.mem_flatMap.1 hr
    exact (h3 p hp).lt r hr
theorem StripeIn.below {w w' : World} {T : Nat} {c : Cfg} {ver : Nat} {es : List (KO × NE)} {rs rh : Nat} {fp : List Nat} (h : StripeIn w T c ver es rs rh fp) (hb : Below w.heap.size w w') : StripeIn w' T c ver es rs rh fp := h.kept (fun r hr => hb.block r (h.lt r hr))

set_option maxRecDepth 100000 in
set_option maxHeartbeats 4000000 in
theorem stripeNew_nil (c : Cfg) (w : World) (hc : cfgB c = false) (hok : c.ok) :
    Calls Try.prog 10 #[cfgV c] w fun e w' => e = .returned (.pointer none) ∧ Below w.heap.size w w' := by
  have hE : cfgE c = 1 := by unfold cfgE; rw [hc]; rfl
  have HE := Lib.hid hE
  have HNR := Lib.hid (nodeRight_any c)
  obtain ⟨st, sa, lo, hi⟩ := c
  clear hc hE
  unfold cfgV
  unfold cfgV at HNR
  go_enter Try.func10, Try.ntmps10
  go_wp2_with (go_at_call 14; refine (HNR.out _ hok).mono ?_; rw [HE.out]; rintro e w2 ⟨rfl, hb2⟩; have HB := Lib.hid hb2; clear hb2)
  go_ret
  exact ⟨rfl, bthen (balloc (Below.refl _ _) _) HB.out⟩

set_option maxRecDepth 100000 in
set_option maxHeartbeats 4000000 in
theorem smade_any (T : Nat) (c : Cfg) (ver : Nat) (es : List (KO × NE)) (rs rh : Nat) (fp : List Nat) (w : World) (h : StripeIn w T c ver es rs rh fp) :
    Calls Try.prog 26 #[.pointer (some ⟨T, 0, none⟩)] w fun e w' => e = .returned (.bool true) ∧ Below w.heap.size w w' := by
  obtain ⟨M, h1, h2, h3, h4, h5, h6, rfl⟩ := h
  have z0 : w.cell? ⟨T, 0, none⟩ = some (.map (some M)) := by simp only [World.cell?, h1]; rfl
  have hq : ∀ W, (binOp .neq 66 (.map (some M)) (.map none)).run Try.prog W = .ok (.bool true) W := fun W => run_neq_map_nil W _ _ _ (some M) Try.underlying66
  clear h1 h2 h3 h4 h5 h6
  go_enter Try.func26, Try.ntmps26
  go_wp2
  go_ret
  exact ⟨rfl, Below.refl _ _⟩

set_option maxRecDepth 100000 in
set_option maxHeartbeats 4000000 in
theorem smade_nil (w : World) :
    Calls Try.prog 26 #[.pointer none] w fun e w' => e = .returned (.bool false) ∧ Below w.heap.size w w' := by
  go_enter Try.func26, Try.ntmps26
  go_wp2
  go_ret
  exact ⟨rfl, Below.refl _ _⟩

def NewStripe (w : World) (c : Cfg) (rs rh : Nat) (e : Ending) (w' : World) : Prop :=
  ∃ T fp, e = .returned (.pointer (some ⟨T, 0, none⟩)) ∧ StripeIn w' T c 0 [] rs rh fp ∧ (∀ k ∈ fp, w.heap.size ≤ k) ∧ Below w.heap.size w w'

set_option maxRecDepth 100000 in
set_option maxHeartbeats 4000000 in
theorem stripeNew_any (c : Cfg) (rs rh : Nat) (w : World) (hc : cfgB c = true) (hok : c.ok) :
    Calls Try.prog 10 #[cfgV c] w (NewStripe w c rs rh) := by
  have hE : cfgE c = 0 := by unfold cfgE; rw [if_pos hc]
  have HE := Lib.hid hE
  have HNR := Lib.hid (nodeRight_any c)
  obtain ⟨st, sa, lo, hi⟩ := c
  have hmm := @run_makeMap Try.prog
  clear hc hE
  unfold cfgV
  unfold cfgV at HNR
  go_enter Try.func10, Try.ntmps10
  go_wp2_with (go_at_call 14
               refine calls_named ?_
               intro W1 hW1
               have hb1 : Below w.heap.size w W1 := by rw [hW1]; exact balloc (Below.refl _ _) _
               have hx1 : W1.heap[w.heap.size]? = some (.cells #[.int .i64 st, .int .i64 sa, .int .i64 lo, .int .i64 hi] 33 (0, 0)) := by rw [hW1]; exact heap_alloc_new _ _
               clear hW1
               refine (HNR.out W1 hok).mono ?_
               rw [HE.out]
               rintro e w2 ⟨rfl, hb2⟩
               obtain ⟨a1, a2, a3⟩ := box_cells hb2 hx1
               have HB := Lib.hid (bthen hb1 hb2)
               clear hb1 hb2 hx1)
  go_ret
  have hsz := HB.out.size
  refine ⟨w2.heap.size + 1, [w2.heap.size + 1, w2.heap.size], rfl, ⟨w2.heap.size, box_new _ _ _, (MapIn.made w2).below (balloc (Below.refl _ _) _), fun p hp => by simp at hp, fun p hp => by simp at hp, fun p hp => by simp at hp, by omega, rfl⟩, fun k hk => by simp at hk; omega, balloc (balloc HB.out _) _⟩
end

end Go.Proofs.Ytfegielnmdppgaa
