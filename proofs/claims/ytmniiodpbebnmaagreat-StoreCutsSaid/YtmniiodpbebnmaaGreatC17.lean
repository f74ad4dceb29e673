/- a stripe's Ingest, Get, Version; a stripe's Trim; a stripe's Trim, walked. -/
import Derived.Test.YtmniiodpbebnmaaGreatC16
namespace Go.Proofs.YtmniiodpbebnmaaGreat

section
set_option linter.unusedSimpArgs false
set_option linter.unusedVariables false
open Go.RowKit Go.Lib Go.Sort
open Go.ChangeMaps (setBlock)

def ndOf (l : List (KO × Nd)) (k : KO) : Nd := (findM l k).getD nd0
theorem ser0 {s : Smp} (h : serE s.1 s.2 = 0) : 0 ≤ s.1 ∧ 0 ≤ s.2 := by
  unfold serE at h
  split at h
  · cases h
  · split at h
    · cases h
    · omega

/-- The room was there: what stands at the key, to be changed, and what is known of it. -/
theorem made_world {w w4 w' : World} {T M : Nat} {c : Cfg} {es : List (KO × NE)} {rs rh ver : Nat} {k : KO} {N : Nat} {y : Nd} {mf fq : List Nat} {v : Value}
    (hu : Upd w w4 mf fq) (hm : ∀ r ∈ mf, r ∈ mfpE es) (hs : SAt w' T M c ver (putM es k (N, y, fq)) rs rh) (hk : Upd w4 w' [T, M] [T, M]) :
    SSays w T M c es rs rh v ver (putM (ab es) k y) (.returned v) w' :=
  ⟨_, rfl, hs, ab_putM .., upd_keep hu hk hm, Old.put hu hm⟩

set_option maxRecDepth 100000 in
set_option maxHeartbeats 4000000 in
theorem singest_bad (T M : Nat) (c : Cfg) (ver : Nat) (es : List (KO × NE)) (rs rh : Nat) (k : KO) (s : Smp) (w : World) (h : SAt w T M c ver es rs rh) (hs : serE s.1 s.2 ≠ 0) :
    Calls Tryz.prog 82 #[.pointer (some ⟨T, 0, none⟩), .agg #[.int .u64 k.1.1, .int .u64 k.1.2], .int .i64 s.1, .int .i64 s.2] w (SSays w T M c es rs rh (.int .i64 (serE s.1 s.2)) ver (ab es)) := by
  have HE := Lib.hid (fun w' => SSays.of_below (w' := w') (.int .i64 (serE s.1 s.2)) h)
  have HR := Lib.hid (seriesRight_any s.1 s.2)
  have hn : (serE s.1 s.2 != 0) = true := by simpa using hs
  generalize serE s.1 s.2 = r at hs hn HR HE ⊢
  clear h
  go_enter Tryz.func82, Tryz.ntmps82
  go_wp2_with (go_at_call 102; refine (HR.out _).mono ?_; rintro e w1 ⟨rfl, rfl⟩)
  go_ret
  exact HE.out _ (balloc (Below.refl _ _) _)

set_option maxRecDepth 100000 in
set_option maxHeartbeats 4000000 in
theorem singest_full (T M : Nat) (c : Cfg) (ver : Nat) (es : List (KO × NE)) (rs rh : Nat) (k : KO) (s : Smp) (w : World) (h : SAt w T M c ver es rs rh) (hs : serE s.1 s.2 = 0) (hb : findM es k = none) (hl : c.lo ≤ (es.length : Nat)) :
    Calls Tryz.prog 82 #[.pointer (some ⟨T, 0, none⟩), .agg #[.int .u64 k.1.1, .int .u64 k.1.2], .int .i64 s.1, .int .i64 s.2] w (SSays w T M c es rs rh (.int .i64 6) ver (ab es)) := by
  have HE := Lib.hid (fun w' => SSays.of_below (w' := w') (.int .i64 6) h)
  have H := Lib.hid h
  have HS := Lib.hid hs
  have HB := Lib.hid hb
  have HL := Lib.hid hl
  clear h hs hb hl
  go_enter Tryz.func82, Tryz.ntmps82
  go_wp2_with (first
    | (go_at_call 102; refine (seriesRight_any _ _ _).mono ?_; rw [HS.out]; rintro e w1 ⟨rfl, rfl⟩)
    | (go_at_call 149
       refine calls_named ?_
       intro W1 hW1
       have hb1 : Below w.heap.size w W1 := by rw [hW1]; exact balloc (Below.refl _ _) _
       have hx1 : W1.heap[w.heap.size]? = some (.cells #[.int .u64 k.1.1, .int .u64 k.1.2] 74 (0, 0)) := by rw [hW1]; exact heap_alloc_new _ _
       clear hW1
       refine (smade_any T c ver es rs rh _ W1 ((H.out.below hb1).in_)).mono ?_
       rintro e w2 ⟨rfl, hb2⟩
       obtain ⟨a1, a2, a3⟩ := box_cells hb2 hx1
       have HB2 := Lib.hid (bthen hb1 hb2)
       clear hb1 hb2 hx1)
    | (go_at_call 150
       refine (room_full T M c ver es rs rh k w2 (H.out.below HB2.out) HB.out HL.out).mono ?_
       rintro e w3 ⟨rfl, hb3⟩
       have HB3 := Lib.hid (bthen HB2.out hb3)
       clear hb3))
  go_ret
  exact HE.out _ HB3.out

/-- What both arms of room lead to. -/
def GotS (w w3 : World) (T M : Nat) (c : Cfg) (ver : Nat) (es : List (KO × NE)) (rs rh : Nat) (k : KO) (N : Nat) (x : Nd) (fq : List Nat) : Prop :=
  NodeIn w3 N x rs rh fq ∧ x = ndOf (ab es) k ∧ (∀ w4 fr, Upd w3 w4 (mfp x fq) fr → SHole w4 T M c ver es rs rh k fr ∧ ∃ mf, Upd w w4 mf fr ∧ ∀ r ∈ mf, r ∈ mfpE es)
theorem got_some {w w3 : World} {T M : Nat} {c : Cfg} {ver : Nat} {es : List (KO × NE)} {rs rh : Nat} {k : KO} {b : NE} (h : SAt w T M c ver es rs rh) (hb : findM es k = some b) (hw : Below w.heap.size w w3) : GotS w w3 T M c ver es rs rh k b.1 b.2.1 b.2.2 := by
  have hm := find_mem hb
  refine ⟨(h.node _ hm).below hw, by simp [ndOf, ab_find, hb], fun w4 fr hu => ?_⟩
  refine ⟨(h.below hw).hole hm hu, mfp b.2.1 b.2.2, ⟨hu.os.trans hw.os, hu.tape.trans hw.tape, hu.output.trans hw.output, Nat.le_trans hw.size hu.size, fun r hr hn => (hu.block r (Nat.lt_of_lt_of_le hr hw.size) hn).trans (hw.block r hr), fun r hr => (hu.fresh r hr).imp id (fun h' => Nat.le_trans hw.size h')⟩, fun r hr => mem_mfpE.2 ⟨_, hm, hr⟩⟩
theorem got_new {w w3 : World} {T M : Nat} {c : Cfg} {ver : Nat} {es : List (KO × NE)} {rs rh : Nat} {k : KO} {N : Nat} {fq : List Nat} (h : SAt w T M c ver es rs rh) (hb : findM es k = none) (hn : NodeIn w3 N nd0 rs rh fq) (hu0 : Upd w w3 [] fq) : GotS w w3 T M c ver es rs rh k N nd0 fq := by
  refine ⟨hn, by simp [ndOf, ab_find, hb], fun w4 fr hu => ?_⟩
  have hf : ∀ r ∈ fq, w.heap.size ≤ r := fun r hr => (hu0.fresh r hr).elim (fun h => by cases h) id
  have hfr : ∀ r ∈ fr, w.heap.size ≤ r := fun r hr => (hu.fresh r hr).elim (fun h => hf r (mfp_sub _ _ r h)) (fun h => Nat.le_trans hu0.size h)
  have hb2 : Below w.heap.size w w4 := (hu0.below (Nat.le_refl _) (fun _ h => by cases h)).trans (hu.below hu0.size (fun r hr => hf r (mfp_sub _ _ r hr)))
  exact ⟨h.hole_new hb2 hfr, [], ⟨hb2.os, hb2.tape, hb2.output, hb2.size, fun r hr _ => hb2.block r hr, fun r hr => .inr (hfr r hr)⟩, fun _ h => by cases h⟩
theorem room_any (T M : Nat) (c : Cfg) (ver : Nat) (es : List (KO × NE)) (rs rh : Nat) (k : KO) (w0 w : World) (h0 : SAt w0 T M c ver es rs rh) (hb : Below w0.heap.size w0 w) (hl : ¬ (hasM es k = false ∧ c.lo ≤ (es.length : Nat))) (hc : cfgB c = true) (hrs : c.sa = (rs : Nat)) (hrh : c.hi = (rh : Nat)) (hok : c.ok) :
    Calls Tryz.prog 150 #[.pointer (some ⟨T, 0, none⟩), .agg #[.int .u64 k.1.1, .int .u64 k.1.2]] w fun e w' => ∃ N x fq, e = .returned (.tuple #[.pointer (some ⟨N, 0, none⟩), .int .i64 0]) ∧ GotS w0 w' T M c ver es rs rh k N x fq ∧ (∀ r ∈ fq, r < w0.heap.size ∨ w.heap.size ≤ r) ∧ Below w.heap.size w w' := by
  have h := h0.below hb
  cases hf : findM es k with
  | some b =>
    refine (room_some T M c ver es rs rh k b w h hf).mono ?_
    rintro e w' ⟨rfl, hb'⟩
    exact ⟨b.1, b.2.1, b.2.2, rfl, got_some h0 hf (bthen hb hb'), fun r hr => .inl ((h0.node _ (find_mem hf)).lt r hr), hb'⟩
  | none =>
    refine (room_new T M c ver es rs rh k w h hf (fun hl' => hl ⟨none_has hf, hl'⟩) hc hrs hrh hok).mono ?_
    rintro e w' ⟨N, fq, rfl, h1, h2⟩
    have hu : Upd w0 w' [] fq := ⟨h2.os.trans hb.os, h2.tape.trans hb.tape, h2.output.trans hb.output, Nat.le_trans hb.size h2.size, fun r hr hn => (h2.block r (Nat.lt_of_lt_of_le hr hb.size) hn).trans (hb.block r hr), fun r hr => (h2.fresh r hr).imp id (fun h' => Nat.le_trans hb.size h')⟩
    exact ⟨N, nd0, fq, rfl, got_new h0 hf h1 hu, fun r hr => (h2.fresh r hr).elim (fun h => by cases h) .inr, h2.below (Nat.le_refl _) (fun _ h => by cases h)⟩

theorem upd_cell {w w' : World} {fp fp' : List Nat} (h : Upd w w' fp fp') {B : Nat} {cs : Array Value} {t : TypeId} (hB : w.heap[B]? = some (.cells cs t (0, 0))) (hn : B ∉ fp) : w'.heap[B]? = some (.cells cs t (0, 0)) :=
  (h.block B (Array.getElem?_eq_some_iff.1 hB).1 hn).trans hB

set_option maxRecDepth 100000 in
set_option maxHeartbeats 4000000 in
theorem singest_ok (T M : Nat) (c : Cfg) (ver : Nat) (es : List (KO × NE)) (rs rh : Nat) (k : KO) (s : Smp) (w : World) (h : SAt w T M c ver es rs rh) (hs : serE s.1 s.2 = 0) (hl : ¬ (hasM es k = false ∧ c.lo ≤ (es.length : Nat))) (hc : cfgB c = true) (hrs : c.sa = (rs : Nat)) (hrh : c.hi = (rh : Nat)) (hok : c.ok)
    (hv : ver ≤ 1000000) (hvn : ∀ p ∈ ab es, p.2.ver ≤ 1000000) :
    Calls Tryz.prog 82 #[.pointer (some ⟨T, 0, none⟩), .agg #[.int .u64 k.1.1, .int .u64 k.1.2], .int .i64 s.1, .int .i64 s.2] w (SSays w T M c es rs rh (.int .i64 0) (ver + 1) (putM (ab es) k { bump (ndOf (ab es) k) with smp := putS (ndOf (ab es) k).smp (rs : Nat) s })) := by
  have hb0 : 1 ≤ rs ∧ rs ≤ 256 ∧ rh ≤ 64 := by
    unfold cfgB at hc
    simp only [Bool.and_eq_true, decide_eq_true_eq] at hc
    omega
  have hvx : (ndOf (ab es) k).ver ≤ 1000000 := by
    unfold ndOf
    cases hf : findM (ab es) k with
    | none => simp [nd0]
    | some x => exact hvn _ (find_mem hf)
  have H := Lib.hid h
  have HS := Lib.hid hs
  have HRoom := Lib.hid (fun (W : World) (hb : Below w.heap.size w W) => room_any T M c ver es rs rh k w W h hb hl hc hrs hrh hok)
  have HVX := Lib.hid hvx
  have HV := Lib.hid hv
  clear h hs hl hc hrs hrh hok hvn hvx hv
  go_enter Tryz.func82, Tryz.ntmps82
  go_wp2_with (first
    | (go_at_call 102; refine (seriesRight_any _ _ _).mono ?_; rw [HS.out]; rintro e w1 ⟨rfl, rfl⟩)
    | (go_at_call 149
       refine calls_named ?_
       intro W1 hW1
       have hb1 : Below w.heap.size w W1 := by rw [hW1]; exact balloc (Below.refl _ _) _
       have hx1 : W1.heap[w.heap.size]? = some (.cells #[.int .u64 k.1.1, .int .u64 k.1.2] 74 (0, 0)) := by rw [hW1]; exact heap_alloc_new _ _
       clear hW1
       refine (smade_any T c ver es rs rh _ W1 ((H.out.below hb1).in_)).mono ?_
       rintro e w2 ⟨rfl, hb2⟩
       obtain ⟨a1, a2, a3, a4⟩ := box_at hb2 hx1
       have HX2 := Lib.hid a4
       have HB2 := Lib.hid (bthen hb1 hb2)
       clear hb1 hb2 hx1 a4)
    | (go_at_call 150
       refine (HRoom.out w2 HB2.out).mono ?_
       rintro e w3 ⟨N, x, fq, rfl, hg, hfq, hb3⟩
       obtain ⟨b1, b2, b3, b4⟩ := box_at hb3 HX2.out
       have hnb : w.heap.size ∉ fq := fun hr => by have := (Array.getElem?_eq_some_iff.1 HX2.out).1; rcases hfq _ hr with h' | h' <;> omega
       have HX3 := Lib.hid (And.intro b4 hnb)
       have HG := Lib.hid hg
       clear hg hb3 b4 hfq hnb)
    | (go_at_call 151
       refine (nodePut_any N x rs rh fq s w3 HG.out.1 hb0.1 hb0.2.1 hb0.2.2 (by rw [HG.out.2.1]; exact HVX.out) (ser0 HS.out).1 (ser0 HS.out).2).mono ?_
       rintro e w4 ⟨N4, fr, rfl, hn4, hu4⟩
       have hhole := HG.out.2.2 w4 fr hu4
       have hbox : w4.heap[w.heap.size]? = _ := upd_cell hu4 HX3.out.1 (fun hr => HX3.out.2 (mfp_sub _ _ _ hr))
       obtain ⟨c1, c2, c3⟩ := box_cells (Below.refl _ _) hbox
       have HN4 := Lib.hid hn4
       have HH := Lib.hid hhole
       clear hn4 hu4 hhole hbox)
    | (go_at_call 152
       obtain ⟨hH, mf, hU, hmf⟩ := HH.out
       refine (keep_any T M c ver es rs rh k N4 _ fr w4 hH HN4.out HV.out).mono ?_
       rintro e w5 ⟨rfl, h5, hu5⟩
       have HF := Lib.hid (made_world (v := .int .i64 0) hU hmf h5 hu5)
       clear h5 hu5))
  go_ret
  have hf := HF.out
  rw [HG.out.2.1] at hf
  exact hf
end

section
set_option linter.unusedSimpArgs false
set_option linter.unusedVariables false
open Go.RowKit Go.Lib Go.Sort
open Go.ChangeMaps (setBlock)

section
variable {α β : Type} [DecidableEq α]
theorem find_mapK (f : α → β → β) (l : List (α × β)) (x : α) : findM (l.map fun p => (p.1, f p.1 p.2)) x = (findM l x).map (f x) := by
  unfold findM
  rw [List.find?_map]
  simp only [Function.comp_def]
  cases h : l.find? (fun p => decide (p.1 = x)) with
  | none => simp
  | some q =>
    have := List.find?_some h
    simp at this
    simp [this]
theorem find_of_mem {l : List (α × β)} (hn : (l.map (·.1)).Nodup) {x : α} {v : β} (h : (x, v) ∈ l) : findM l x = some v := by
  obtain ⟨u, hu, hm⟩ := findM_some (es := l) (x := x) ((hasM_iff l x).2 (List.mem_map.2 ⟨_, h, rfl⟩))
  obtain ⟨i, hi⟩ := List.getElem?_of_mem h
  obtain ⟨j, hj⟩ := List.getElem?_of_mem hm
  have h1 : (l.map (·.1))[i]? = some x := by simp [hi]
  have h2 : (l.map (·.1))[j]? = some x := by simp [hj]
  obtain rfl := nodup_inj hn h1 h2
  rw [hi] at hj
  injection hj with hj
  injection hj with _ hj
  rw [hu, hj]
end

def trimN (cut : Int) (x : Nd) : Nd := if placeS x.smp cut = 0 then x else { bump x with smp := x.smp.drop (placeS x.smp cut) }
def goneK (l : List (KO × Nd)) (cut : Int) (q : Ky) : Nat := ((l.find? (fun p => p.1.1 = q)).map (fun p => placeS p.2.smp cut)).getD 0
def trimK (l : List (KO × Nd)) (cut : Int) (ks : List Ky) : List (KO × Nd) := l.map fun p => (p.1, if p.1.1 ∈ ks then trimN cut p.2 else p.2)
def goneS (l : List (KO × Nd)) (cut : Int) (ks : List Ky) : Nat := (ks.map (goneK l cut)).sum
def manyS (l : List (KO × Nd)) (cut : Int) (ks : List Ky) : Nat := ks.countP (fun q => 0 < goneK l cut q)

theorem gone_find {l : List (KO × Nd)} {k : KO} {x : Nd} (cut : Int) (h : findM l k = some x) : goneK l cut k.1 = placeS x.smp cut := by
  unfold goneK
  have e : (fun p : KO × Nd => decide (p.1.1 = k.1)) = (fun p : KO × Nd => decide (p.1 = k)) := by
    funext p
    rw [decide_eq_decide]
    exact ⟨fun h => Subtype.ext h, fun h => by rw [h]⟩
  rw [e]
  unfold findM at h
  obtain ⟨q, hq, rfl⟩ := Option.map_eq_some_iff.1 h
  rw [hq]
  rfl
theorem trimK_find (l : List (KO × Nd)) (cut : Int) (ks : List Ky) (k : KO) : findM (trimK l cut ks) k = (findM l k).map (fun x => if k.1 ∈ ks then trimN cut x else x) :=
  find_mapK (fun (k : KO) (x : Nd) => if k.1 ∈ ks then trimN cut x else x) l k
theorem trimK_keys (l : List (KO × Nd)) (cut : Int) (ks : List Ky) : (trimK l cut ks).map (·.1) = l.map (·.1) := by
  unfold trimK
  rw [List.map_map]
  rfl
theorem trimK_snoc {l : List (KO × Nd)} (hn : (l.map (·.1)).Nodup) (cut : Int) (ks : List Ky) {k : KO} {x : Nd} (hx : findM l k = some x) (hk : k.1 ∉ ks) :
    putM (trimK l cut ks) k (trimN cut x) = trimK l cut (ks ++ [k.1]) := by
  have hh : hasM (trimK l cut ks) k = true := by
    rw [hasM_iff, trimK_keys]
    exact List.mem_map.2 ⟨_, find_mem hx, rfl⟩
  unfold putM
  rw [if_pos hh]
  unfold trimK
  rw [List.map_map]
  refine List.map_congr_left fun p hp => ?_
  simp only [Function.comp, List.mem_append, List.mem_singleton]
  by_cases e : p.1 = k
  · have h2 := find_of_mem hn (show (k, p.2) ∈ l by rw [← e]; exact hp)
    rw [hx] at h2
    injection h2 with h2
    rw [if_pos e, e, h2]
    simp
  · rw [if_neg e]
    have : ¬ p.1.1 = k.1 := fun h => e (Subtype.ext h)
    simp [this]
theorem trimK_same {l : List (KO × Nd)} (hn : (l.map (·.1)).Nodup) (cut : Int) (ks : List Ky) {k : KO} {x : Nd} (hx : findM l k = some x) (h0 : placeS x.smp cut = 0) : trimK l cut (ks ++ [k.1]) = trimK l cut ks := by
  unfold trimK
  refine List.map_congr_left fun p hp => ?_
  simp only [List.mem_append, List.mem_singleton]
  by_cases e : p.1 = k
  · have h2 := find_of_mem hn (show (k, p.2) ∈ l by rw [← e]; exact hp)
    rw [hx] at h2
    injection h2 with h2
    have : trimN cut p.2 = p.2 := by rw [← h2]; unfold trimN; rw [if_pos h0]
    rw [this]
    split <;> split <;> rfl
  · have : ¬ p.1.1 = k.1 := fun h => e (Subtype.ext h)
    simp [this]
theorem goneS_snoc (l : List (KO × Nd)) (cut : Int) (ks : List Ky) (q : Ky) : goneS l cut (ks ++ [q]) = goneS l cut ks + goneK l cut q := by simp [goneS]
theorem manyS_snoc (l : List (KO × Nd)) (cut : Int) (ks : List Ky) (q : Ky) : manyS l cut (ks ++ [q]) = manyS l cut ks + if 0 < goneK l cut q then 1 else 0 := by
  simp [manyS, List.countP_append, List.countP_cons]

theorem nodeTrim0 (N : Nat) (x : Nd) (rs rh : Nat) (fp : List Nat) (t : Int) (w : World) (h : NodeIn w N x rs rh fp) (hrs : rs ≤ 256) (h0 : placeS x.smp t = 0) :
    Calls Tryz.prog 154 #[.pointer (some ⟨N, 0, none⟩), .int .i64 t] w fun e w' => e = .returned (.tuple #[.pointer (some ⟨N, 0, none⟩), .int .i64 0]) ∧ Below w.heap.size w w' := by
  refine (nodeTrim_none N x rs rh fp t w h hrs h0).mono ?_
  rintro e w' (⟨_, h1, h2⟩ | ⟨h1, _⟩)
  · exact ⟨h1, h2⟩
  · omega
theorem nodeTrim1 (N : Nat) (x : Nd) (rs rh : Nat) (fp : List Nat) (t : Int) (w : World) (h : NodeIn w N x rs rh fp) (hrs : rs ≤ 256) (hrh : rh ≤ 64) (hv : x.ver ≤ 1000000) (h0 : 0 < placeS x.smp t) :
    Calls Tryz.prog 154 #[.pointer (some ⟨N, 0, none⟩), .int .i64 t] w (NdSays w { bump x with smp := x.smp.drop (placeS x.smp t) } rs rh (mfp x fp) (fun q => .tuple #[q, .int .i64 (placeS x.smp t : Nat)])) := by
  refine (nodeTrim_some N x rs rh fp t w h hrs hrh hv h0).mono ?_
  rintro e w' (⟨h1, _⟩ | ⟨_, h1⟩)
  · omega
  · exact h1
theorem mem_risL' (l : List Ky) (q : Ky) : q ∈ risL l → q ∈ l := (mem_risL l q).1
theorem risL_nodup {l : List Ky} (hn : l.Nodup) : (risL l).Nodup := by
  have h := sortL_ris (List.Perm.refl l) hn
  rw [← h]
  exact ((List.mergeSort_perm l _).nodup_iff).2 hn

/-- What stands at a round's beginning: the keys of K that have been done. -/
structure TrimAt (w wr : World) (T M : Nat) (c : Cfg) (ver : Nat) (es : List (KO × NE)) (rs rh : Nat) (cut : Int) (K : List Ky) (v : Value) (k : Nat) (es' : List (KO × NE)) : Prop where
  at_ : SAt wr T M c (ver + manyS (ab es) cut (K.take k)) es' rs rh
  is : ab es' = trimK (ab es) cut (K.take k)
  upd : Upd w wr (sfp T M es) (sfp T M es')
  row : RowIn 2 keyC wr v K
  blk : ∀ b o m cc, v = .slice (some ⟨b, o, none⟩) m cc → 0 < K.length → b ∉ sfp T M es' ∧ b < wr.heap.size
  old : Old w.heap.size es es'

theorem RowIn.keepB {α : Type} {n : Nat} {f : α → List Value} {w w' : World} {v : Value} {l : List α} (h : RowIn n f w v l) (hs : w.heap.size ≤ w'.heap.size) (hk : ∀ b o m c, v = .slice (some ⟨b, o, none⟩) m c → 0 < l.length → w'.heap[b]? = w.heap[b]?) : RowIn n f w' v l := by
  obtain ⟨A, c, hv, hc, hr⟩ := h
  refine ⟨A, c, hv, hc, fun hn => ?_⟩
  obtain ⟨b, o, hA, hlt, hat⟩ := hr hn
  have hb := hk b o _ _ (by rw [hv, hA]) hn
  exact ⟨b, o, hA, Nat.lt_of_lt_of_le hlt hs, fun k x hx j u hu => by
    have := hat k x hx j u hu
    simp only [World.cell?] at this ⊢
    rw [hb]
    exact this⟩
section
variable {w wr w3 w5 : World} {T M : Nat} {c : Cfg} {ver : Nat} {es : List (KO × NE)} {rs rh : Nat} {cut : Int} {K : List Ky} {v : Value} {k : Nat} {es' : List (KO × NE)} {ko : KO} {x : Nd} {b : NE}
theorem TrimAt.same (h : TrimAt w wr T M c ver es rs rh cut K v k es') (hnd : ((ab es).map (·.1)).Nodup) (hk : k < K.length) (hko : K[k] = ko.1) (hx : findM (ab es) ko = some x) (h0 : placeS x.smp cut = 0) (hb : Below wr.heap.size wr w3) : TrimAt w w3 T M c ver es rs rh cut K v (k + 1) es' := by
  have e : K.take (k + 1) = K.take k ++ [ko.1] := by rw [List.take_succ_eq_append_getElem hk, hko]
  have hg := gone_find cut hx
  refine ⟨?_, ?_, h.upd.trans (Upd.of_below hb _), h.row.below hb, fun b o m c' e hn => ?_, h.old⟩
  · rw [e, manyS_snoc, hg, h0]
    exact h.at_.below hb
  · rw [e, trimK_same hnd cut _ hx h0]
    exact h.is
  · have := h.blk b o m c' e hn
    exact ⟨this.1, Nat.lt_of_lt_of_le this.2 hb.size⟩
theorem TrimAt.step {N : Nat} {fr : List Nat} (h : TrimAt w wr T M c ver es rs rh cut K v k es') (hnd : ((ab es).map (·.1)).Nodup) (hk : k < K.length) (hko : K[k] = ko.1) (hx : findM (ab es) ko = some x) (hnk : ko.1 ∉ K.take k) (hb : findM es' ko = some b) (hbx : b.2.1 = x) (h0 : 0 < placeS x.smp cut)
    (hu : Upd wr w3 (mfp b.2.1 b.2.2) fr) (hs : SAt w5 T M c (ver + manyS (ab es) cut (K.take k) + 1) (putM es' ko (N, { bump x with smp := x.smp.drop (placeS x.smp cut) }, fr)) rs rh) (hk5 : Upd w3 w5 [T, M] [T, M]) :
    TrimAt w w5 T M c ver es rs rh cut K v (k + 1) (putM es' ko (N, { bump x with smp := x.smp.drop (placeS x.smp cut) }, fr)) := by
  have e : K.take (k + 1) = K.take k ++ [ko.1] := by rw [List.take_succ_eq_append_getElem hk, hko]
  have hg := gone_find cut hx
  have hmf : ∀ r ∈ mfp b.2.1 b.2.2, r ∈ mfpE es' := fun r hr => mem_mfpE.2 ⟨_, find_mem hb, hr⟩
  have hu2 := upd_keep (k := ko) (N := N) (y := { bump x with smp := x.smp.drop (placeS x.smp cut) }) hu hk5 hmf
  refine ⟨?_, ?_, h.upd.trans hu2, h.row.keepB hu2.size (fun b o m c' e hn => ?_), fun b o m c' e hn => ?_, h.old.trans (Old.put hu hmf) h.upd.size⟩
  · rw [e, manyS_snoc, hg, if_pos h0]
    exact hs
  · rw [e, ← trimK_snoc hnd cut _ hx hnk, ab_putM, h.is]
    unfold trimN
    rw [if_neg (by omega)]
  · obtain ⟨h1, h2⟩ := h.blk b o m c' e hn
    exact hu2.block b h2 h1
  · obtain ⟨h1, h2⟩ := h.blk b o m c' e hn
    exact ⟨fun hm => (hu2.fresh b hm).elim h1 (fun h' => by omega), Nat.lt_of_lt_of_le h2 hu2.size⟩
end
end

section
set_option linter.unusedSimpArgs false
set_option linter.unusedVariables false
open Go.RowKit Go.Lib Go.Sort
open Go.ChangeMaps (setBlock)

/-- A key that is there, and what stands at it. -/
theorem TrimAt.entry {w wr : World} {T M : Nat} {c : Cfg} {ver : Nat} {es : List (KO × NE)} {rs rh : Nat} {cut : Int} {v : Value} {k : Nat} {es' : List (KO × NE)} {K : List Ky} (h : TrimAt w wr T M c ver es rs rh cut K v k es') (hK : K = risL (kyN es)) (hnd : (kyN es).Nodup) (hk : k < K.length) :
    ∃ ko x b, K[k] = ko.1 ∧ findM (ab es) ko = some x ∧ findM es' ko = some b ∧ b.2.1 = x ∧ ko.1 ∉ K.take k := by
  have hm : K[k] ∈ kyN es := by subst hK; exact mem_risL' _ _ (List.getElem_mem hk)
  obtain ⟨p, hp, he⟩ := List.mem_map.1 hm
  have hn : K.Nodup := by subst hK; exact risL_nodup hnd
  have hnk : K[k] ∉ K.take k := fun hmem => by
    obtain ⟨i, hi⟩ := List.getElem?_of_mem hmem
    have hil : i < k := by
      have := (List.getElem?_eq_some_iff.1 hi).1
      simp at this; omega
    rw [List.getElem?_take_of_lt hil] at hi
    have := nodup_inj hn hi (List.getElem?_eq_getElem hk)
    omega
  have hhas : hasM (ab es) p.1 = true := (hasM_iff _ _).2 (List.mem_map.2 ⟨(p.1, p.2.2.1), List.mem_map.2 ⟨p, hp, rfl⟩, rfl⟩)
  obtain ⟨x, hx, _⟩ := findM_some hhas
  have h2 : findM (ab es') p.1 = some x := by
    rw [h.is, trimK_find, hx]
    have : p.1.1 ∉ K.take k := by rw [he]; exact hnk
    simp [this]
  rw [ab_find] at h2
  obtain ⟨b, hb, hbx⟩ := Option.map_eq_some_iff.1 h2
  exact ⟨p.1, x, b, he.symm, hx, hb, hbx, by rw [he]; exact hnk⟩

set_option maxRecDepth 100000 in
set_option maxHeartbeats 8000000 in
theorem strim_any (T M : Nat) (c : Cfg) (ver : Nat) (es : List (KO × NE)) (rs rh : Nat) (cut : Int) (w : World) (h : SAt w T M c ver es rs rh) (hrs : rs ≤ 256) (hrh : rh ≤ 64) (hl : es.length ≤ 1000) (hv : ver ≤ 900000) (hvn : ∀ p ∈ ab es, p.2.ver ≤ 1000000) (hsl : ∀ p ∈ ab es, p.2.smp.length ≤ 256) :
    Calls Tryz.prog 83 #[.pointer (some ⟨T, 0, none⟩), .int .i64 cut] w (SSays w T M c es rs rh (.int .i64 (goneS (ab es) cut (risL (kyN es)) : Nat)) (ver + manyS (ab es) cut (risL (kyN es))) (trimK (ab es) cut (risL (kyN es)))) := by
  have hnd : (kyN es).Nodup := kyN_nodup h.map
  have hndl : ((ab es).map (·.1)).Nodup := by have := h.nodup; simpa [ab, List.map_map, Function.comp_def] using this
  obtain ⟨K, hK⟩ : ∃ K, K = risL (kyN es) := ⟨_, rfl⟩
  have hKl : K.length ≤ 1000 := by rw [hK, risL_length hnd]; simp [kyN]; exact hl
  have hgk : ∀ q, goneK (ab es) cut q ≤ 256 := fun q => by
    unfold goneK
    cases hf : (ab es).find? (fun p => decide (p.1.1 = q)) with
    | none => simp
    | some p =>
      have := hsl p (List.mem_of_find?_eq_some hf)
      have := placeS_le p.2.smp cut
      simp; omega
  have hgs : ∀ k, goneS (ab es) cut (K.take k) ≤ 256 * 1000 := fun k => by
    have h1 : ∀ ks : List Ky, goneS (ab es) cut ks ≤ 256 * ks.length := fun ks => by
      induction ks with
      | nil => simp [goneS]
      | cons a ks ih => have := hgk a; simp only [goneS, List.map_cons, List.sum_cons, List.length_cons] at ih ⊢; omega
    have h2 := h1 (K.take k)
    have h3 : (K.take k).length ≤ 1000 := by simp; omega
    omega
  have hms : ∀ k, manyS (ab es) cut (K.take k) ≤ 1000 := fun k => by
    have : manyS (ab es) cut (K.take k) ≤ (K.take k).length := List.countP_le_length ..
    have h3 : (K.take k).length ≤ 1000 := by simp; omega
    omega
  rw [← hK]
  have hk0 := skeys_any T c ver es rs rh _ w h.in_ (by omega)
  rw [← hK] at hk0
  have HK := Lib.hid hk0
  have H := Lib.hid h
  have HKK := Lib.hid hK
  have HND := Lib.hid hnd
  have HNDL := Lib.hid hndl
  have HVN := Lib.hid hvn
  have HGS := Lib.hid hgs
  have HMS := Lib.hid hms
  clear h hnd hndl hvn hsl hgk hgs hms hk0 hK
  go_enter Tryz.func83, Tryz.ntmps83
  go_wp2_with (first
    | (go_at_call 153
       refine HK.out.mono ?_
       rintro e w2 ⟨v, rfl, hrow, hb2⟩
       obtain ⟨A, cc, rfl⟩ := own_form hrow
       have hri : RowIn 2 keyC w2 (.slice A K.length cc) K := RowIn.own (n := 2) (f := keyC) (fun _ => rfl) hrow
       have hblk : ∀ b o m c', (Value.slice A K.length cc) = .slice (some ⟨b, o, none⟩) m c' → 0 < K.length → w.heap.size ≤ b ∧ b < w2.heap.size := fun b o m c' e hn => by
         rcases hrow.2 with ⟨hv', h0⟩ | ⟨g, cap, cur, hv', _⟩
         · omega
         · have hlt := hrow.lt g (by rw [hv']; rfl)
           rw [e] at hv'
           injection hv' with e1 _ _
           injection e1 with e1
           injection e1 with e1
           rw [e1]
           exact hlt
       have HRI := Lib.hid hri
       have HBL := Lib.hid hblk
       have HB2 := Lib.hid hb2
       clear hrow hri hblk hb2))
  go_loopg [5, 13] K.length (fun g s5 s13 wr => ∃ k es', k ≤ K.length ∧ K.length - k ≤ g ∧ s13 = .int .i64 (k : Nat) ∧ s5 = .int .i64 (goneS (ab es) cut (K.take k) : Nat) ∧ TrimAt w wr T M c ver es rs rh cut K (.slice A K.length cc) k es')
  case atStart =>
    refine ⟨0, es, Nat.zero_le _, Nat.le_refl _, rfl, by simp [goneS], ⟨?_, ?_, ?_, HRI.out, ?_, Old.refl _ _⟩⟩
    · have := H.out.below HB2.out
      simpa [manyS] using this
    · simp [trimK]
    · exact Upd.of_below HB2.out _
    · intro b o m c' e hn
      obtain ⟨h1, h2⟩ := HBL.out b o m c' e hn
      refine ⟨fun hm => ?_, h2⟩
      simp only [sfp, List.mem_cons] at hm
      rcases hm with rfl | rfl | hm
      · have := H.out.ltT; omega
      · have := H.out.map.lt; omega
      · obtain ⟨p, hp, hr⟩ := mem_mfpE.1 hm
        have := (H.out.node p hp).lt b (mfp_sub _ _ b hr); omega
  case round =>
    obtain ⟨k, es', hk, hg, rfl, rfl, hT⟩ := hrel
    by_cases hlt : k < K.length
    · obtain ⟨ko, x, b, hko, hx, hb, hbx, hnk⟩ := hT.entry HKK.out HND.out hlt
      obtain ⟨bb, o, rfl, hbw, hc⟩ := hT.row.at_ hlt
      have c1 : wr.cell? ⟨bb, o + k * 2, none⟩ = some (.int .u64 K[k].1) := hc 0 _ rfl
      have c2 : wr.cell? ⟨bb, o + k * 2 + 1, none⟩ = some (.int .u64 K[k].2) := hc 1 _ rfl
      rw [hko] at c1 c2
      have hS := hT.at_
      have hnode := hS.node _ (find_mem hb)
      dsimp only at hnode
      rw [hbx] at hnode
      have HN := Lib.hid hnode
      have HS := Lib.hid hS
      have HT := Lib.hid hT
      have HFB := Lib.hid hb
      have HBX := Lib.hid hbx
      have HKO := Lib.hid hko
      have HXX := Lib.hid hx
      have HNK := Lib.hid hnk
      have hgk := gone_find cut hx
      have hsn : goneS (ab es) cut (K.take (k + 1)) = goneS (ab es) cut (K.take k) + placeS x.smp cut := by
        rw [List.take_succ_eq_append_getElem hlt, hko, goneS_snoc, hgk]
      have HSN := Lib.hid hsn
      have hg0 := HGS.out k
      have hg1 := HGS.out (k + 1)
      have hxv : x.ver ≤ 1000000 := HVN.out _ (find_mem hx)
      rw [hsn] at hg1
      clear hc hT hb hbx hko hx hnk hgk hsn hnode hS
      generalize hGS : goneS (ab es) cut (K.take k) = G at *
      clear hGS
      go_wp2_with fail
      refine name_world ?_
      intro W1 hW1
      have hb1 : Below wr.heap.size wr W1 := by rw [hW1]; exact balloc (Below.refl _ _) _
      have hx1 : W1.heap[wr.heap.size]? = some (.cells #[.int .u64 ko.1.1, .int .u64 ko.1.2] 74 (0, 0)) := by rw [hW1]; exact heap_alloc_new _ _
      clear hW1 c1 c2
      have a1 : W1.cell? ⟨wr.heap.size, 0, none⟩ = some (.int .u64 ko.1.1) := by simp [World.cell?, hx1]
      have a2 : W1.cell? ⟨wr.heap.size, 1, none⟩ = some (.int .u64 ko.1.2) := by simp [World.cell?, hx1]
      have h1 := HS.out.below hb1
      have hltT := h1.ltT
      have z0 : W1.cell? ⟨T, 0, none⟩ = some (.map (some M)) := by simp only [World.cell?, h1.cell]; rfl
      have r4 : (Instr.lookup 230 (.map (some M)) (.agg #[.int .u64 ko.1.1, .int .u64 ko.1.2]) false).run Tryz.prog W1.drew = .ok (.pointer (some ⟨b.1, 0, none⟩)) W1.drew := by
        have := look_es (h1.map.below ((Below.refl _ W1).drew)) ko false
        rw [HFB.out] at this
        exact this
      have HX1 := Lib.hid hx1
      have HB1 := Lib.hid hb1
      clear hx1 hb1 h1
      rcases Nat.eq_zero_or_pos (placeS x.smp cut) with h0 | h0
      · go_region_with (first
          | (go_at_call 154
             refine calls_named ?_
             intro W2 hW2
             have hb2 : Below W1.heap.size W1 W2 := by rw [hW2]; repeat (first | exact Below.refl _ _ | refine balloc ?_ _ | refine Below.drew ?_)
             clear hW2
             refine (nodeTrim0 b.1 x rs rh b.2.2 cut W2 (HN.out.below (bthen HB1.out hb2)) hrs h0).mono ?_
             rintro e w3 ⟨rfl, hb3⟩
             have HB3 := Lib.hid (bthen (bthen HB1.out hb2) hb3)
             clear hb2 hb3))
        all_goals
          go_wp2
          go_roundg (K.length - (k + 1))
          case measure => omega
          case rel => exact ⟨k + 1, es', hlt, Nat.le_refl _, by go_num, by rw [HSN.out, h0]; rfl, HT.out.same HNDL.out hlt HKO.out HXX.out h0 HB3.out⟩
      · have hgt : (0 : Int) < (placeS x.smp cut : Nat) := by omega
        have hwr : IntKind.i64.wrap ((G : Int) + (placeS x.smp cut : Nat)) = ((G + placeS x.smp cut : Nat) : Int) := by rw [IntKind.wrap_i64]; omega
        have hvk : ver + manyS (ab es) cut (K.take k) ≤ 1000000 := by have := HMS.out k; omega
        go_region_with (first
          | (go_at_call 154
             refine calls_named ?_
             intro W2 hW2
             have hb2 : Below W1.heap.size W1 W2 := by rw [hW2]; repeat (first | exact Below.refl _ _ | refine balloc ?_ _ | refine Below.drew ?_)
             clear hW2
             refine (nodeTrim1 b.1 x rs rh b.2.2 cut W2 (HN.out.below (bthen HB1.out hb2)) hrs hrh hxv h0).mono ?_
             rintro e w3 ⟨N3, fr, rfl, hn3, hu3⟩
             have hbx : wr.heap.size ∉ mfp x b.2.2 := fun hr => by have := HN.out.lt _ (mfp_sub _ _ _ hr); omega
             have hx3 := upd_cell hu3 ((hb2.block _ (Array.getElem?_eq_some_iff.1 HX1.out).1).trans HX1.out) hbx
             obtain ⟨q1, q2, q3⟩ := box_cells (Below.refl _ _) hx3
             have hbw2 := bthen HB1.out hb2
             have hu30 : Upd wr w3 (mfp b.2.1 b.2.2) fr := by rw [HBX.out]; exact (Upd.of_below hbw2 _).trans hu3
             have hole := HS.out.hole (find_mem HFB.out) hu30
             have HN3 := Lib.hid hn3
             have HU3 := Lib.hid hu30
             have HOL := Lib.hid hole
             clear hb2 hn3 hu3 hbx hx3 hbw2 hu30 hole))
        all_goals
          go_wp2_with (first
            | (go_at_call 152
               refine (keep_any T M c _ es' rs rh ko N3 _ fr w3 HOL.out HN3.out hvk).mono ?_
               rintro e w5 ⟨rfl, h5, hu5⟩
               have HT5 := Lib.hid (HT.out.step HNDL.out hlt HKO.out HXX.out HNK.out HFB.out HBX.out h0 HU3.out h5 hu5)
               clear h5 hu5))
          go_roundg (K.length - (k + 1))
          case measure => omega
          case rel => exact ⟨k + 1, _, hlt, Nat.le_refl _, by go_num, by rw [HSN.out, Int.natCast_add], HT5.out⟩
    · obtain rfl : k = K.length := by omega
      have hT' := hT.upd
      have hat := hT.at_
      have his := hT.is
      rw [List.take_length] at hat his ⊢
      have HF := Lib.hid (show SSays w T M c es rs rh (.int .i64 (goneS (ab es) cut K : Nat)) (ver + manyS (ab es) cut K) (trimK (ab es) cut K) (.returned (.int .i64 (goneS (ab es) cut K : Nat))) wr from ⟨es', rfl, hat, his, hT', hT.old⟩)
      clear hT hT' hat his
      go_wp2
      go_ret
      exact HF.out
end

end Go.Proofs.YtmniiodpbebnmaaGreat
