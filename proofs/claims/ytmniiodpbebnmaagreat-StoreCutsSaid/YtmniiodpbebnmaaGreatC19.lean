/- a stripe's Set; Entries: a key, and its node's block; a stripe's Freeze, walked; chapter 18's do, on a live stripe. -/
import Derived.Test.YtmniiodpbebnmaaGreatC17
import Derived.Test.YtmniiodpbebnmaaGreatC18
import Derived.Deep.DeepCutAuto
import Derived.Test.YtmniiodpbebnmaaGreatC03
namespace Go.Proofs.YtmniiodpbebnmaaGreat

section
set_option linter.unusedSimpArgs false
set_option linter.unusedVariables false
open Go.RowKit Go.Lib Go.Sort
open Go.ChangeMaps (setBlock)

theorem two_boxs (w : World) (o1 o2 : Obj) : ∀ W, W = (w.alloc o1).alloc o2 → W.heap[w.heap.size]? = some o1 ∧ W.heap[w.heap.size + 1]? = some o2 ∧ Below w.heap.size w W := by
  rintro W rfl
  refine ⟨(Below.heap_alloc _ _ _ (by simp)).trans (heap_alloc_new _ _), ?_, balloc (balloc (Below.refl _ _) _) _⟩
  have := heap_alloc_new (w.alloc o1) o2
  rw [World.size_alloc] at this
  exact this

set_option maxRecDepth 100000 in
set_option maxHeartbeats 8000000 in
theorem sset_ok (T M : Nat) (c : Cfg) (ver : Nat) (es : List (KO × NE)) (rs rh : Nat) (k : KO) (p : Pol) (w : World) (h : SAt w T M c ver es rs rh) (hp : polB p = true) (hl : ¬ (hasM es k = false ∧ c.lo ≤ (es.length : Nat))) (hc : cfgB c = true) (hrs : c.sa = (rs : Nat)) (hrh : c.hi = (rh : Nat)) (hok : c.ok)
    (hv : ver ≤ 1000000) (hvn : ∀ p ∈ ab es, p.2.ver ≤ 1000000) :
    Calls Tryz.prog 86 #[.pointer (some ⟨T, 0, none⟩), .agg #[.int .u64 k.1.1, .int .u64 k.1.2], polV p] w (SSays w T M c es rs rh (.int .i64 0) (ver + 1) (putM (ab es) k { bump (ndOf (ab es) k) with pol := p, ruled := true })) := by
  have hNN : ∀ W, Calls Tryz.prog 156 #[.agg #[.int .i64 1, .int .i64 1, .int .i64 1, .int .i64 1]] W (NewNode W nd0 1 1) := fun W => nodeNew_any cfg1 1 1 W (by decide) rfl rfl (by simp [Cfg.ok, cfg1, I64])
  have HNN := Lib.hid hNN
  have hb0 : 1 ≤ rs ∧ rs ≤ 256 ∧ rh ≤ 64 := by
    unfold cfgB at hc
    simp only [Bool.and_eq_true, decide_eq_true_eq] at hc
    omega
  have hvx : (ndOf (ab es) k).ver ≤ 1000000 := by
    unfold ndOf
    cases hf : findM (ab es) k with
    | none => simp [nd0]
    | some x => exact hvn _ (find_mem hf)
  have HS1 := Lib.hid (fun (N : Nat) (fp : List Nat) (W : World) (h : NodeIn W N nd0 1 1 fp) => nodeSet_any N nd0 1 1 fp p W h (by omega) (by omega) (by simp [nd0]) hp)
  have HS2 := Lib.hid (fun (N : Nat) (x : Nd) (fp : List Nat) (W : World) (h : NodeIn W N x rs rh fp) (hxv : x.ver ≤ 1000000) => nodeSet_any N x rs rh fp p W h hb0.2.1 hb0.2.2 hxv hp)
  have H := Lib.hid h
  have HRoom := Lib.hid (fun (W : World) (hb : Below w.heap.size w W) => room_any T M c ver es rs rh k w W h hb hl hc hrs hrh hok)
  have HVX := Lib.hid hvx
  have HV := Lib.hid hv
  unfold polV
  unfold polV at HS1 HS2
  clear h hl hc hrs hrh hok hvn hvx hv hNN hp
  go_enter Tryz.func86, Tryz.ntmps86
  go_upto_region 1 with fail
  refine name_world ?_
  intro W1 hW1
  obtain ⟨k0, k1, hb1⟩ := two_boxs w _ _ W1 hW1
  clear hW1
  obtain ⟨a1, a2, a3⟩ := box_cells (Below.refl _ _) k1
  have HX0 := Lib.hid k0
  have HX1 := Lib.hid k1
  have HB1 := Lib.hid hb1
  clear k0 k1 hb1
  go_cut [7, 8] (fun s7 s8 wx => ∃ N, s7 = .pointer (some ⟨N, 0, none⟩) ∧ s8 = .int .i64 0 ∧ Below W1.heap.size W1 wx)
  case first =>
    go_region_with (first
      | (go_at_call 156
         refine calls_named ?_
         intro W2 hW2
         have hb2 : Below W1.heap.size W1 W2 := by rw [hW2]; repeat (first | exact Below.refl _ _ | refine balloc ?_ _ | refine Below.drew ?_)
         clear hW2
         refine (HNN.out W2).mono ?_
         rintro e w3 ⟨N, fp, rfl, h1, h2, h3⟩
         have hb3 := bthen hb2 h3
         obtain ⟨b1, b2, b3⟩ := box_cells hb3 HX1.out
         have h2' : ∀ k ∈ fp, W1.heap.size ≤ k := fun k hk => by have := h2 k hk; have := hb2.size; omega
         have HN := Lib.hid h1
         have HF := Lib.hid h2'
         have HB3 := Lib.hid hb3
         clear h1 h2 h3 h2' hb2 hb3)
      | (go_at_call 157
         refine calls_named ?_
         intro W4 hW4
         have hb4 : Below w3.heap.size w3 W4 := by rw [hW4]; repeat (first | exact Below.refl _ _ | refine balloc ?_ _ | refine Below.drew ?_)
         clear hW4
         refine (HS1.out N fp W4 (HN.out.below hb4)).mono ?_
         rintro e w5 ⟨N5, fp5, rfl, _, hu5⟩
         have HB5 := Lib.hid ((bthen HB3.out hb4).trans (hu5.below (B := W1.heap.size) (bthen HB3.out hb4).size (fun k hk => HF.out k hk)))
         clear hu5 hb4))
    all_goals
      go_wp2_with fail
      go_meet
      exact ⟨N5, rfl, rfl, HB5.out⟩
  case rest =>
    obtain ⟨N0, rfl, rfl, hbc⟩ := hcut
    have HBC := Lib.hid (bthen HB1.out hbc)
    have HC0 := Lib.hid ((hbc.block _ (Array.getElem?_eq_some_iff.1 HX0.out).1).trans HX0.out)
    have HC1 := Lib.hid ((hbc.block _ (Array.getElem?_eq_some_iff.1 HX1.out).1).trans HX1.out)
    clear hbc a1 a2 a3
    go_wp2_with (first
      | (go_at_call 149
         refine (smade_any T c ver es rs rh _ wc ((H.out.below HBC.out).in_)).mono ?_
         rintro e w2 ⟨rfl, hb2⟩
         obtain ⟨a1, a2, a3, a4⟩ := box_at hb2 HC0.out
         have HY0 := Lib.hid a4
         have HY1 := Lib.hid ((hb2.block _ (Array.getElem?_eq_some_iff.1 HC1.out).1).trans HC1.out)
         have HB2 := Lib.hid (bthen HBC.out hb2)
         clear hb2 a4)
      | (go_at_call 150
         refine (HRoom.out w2 HB2.out).mono ?_
         rintro e w3 ⟨N, x, fq, rfl, hg, hfq, hb3⟩
         obtain ⟨b1, b2, b3, b4⟩ := box_at hb3 HY0.out
         obtain ⟨d1, d2, d3, d4⟩ := box_at hb3 HY1.out
         have hnb : w.heap.size ∉ fq := fun hr => by have := (Array.getElem?_eq_some_iff.1 HY0.out).1; rcases hfq _ hr with h' | h' <;> omega
         have HX3 := Lib.hid (And.intro b4 hnb)
         have HG := Lib.hid hg
         clear hg hb3 b4 d4 hfq hnb)
      | (go_at_call 157
         refine (HS2.out N x fq w3 HG.out.1 (by rw [HG.out.2.1]; exact HVX.out)).mono ?_
         rintro e w4 ⟨N4, fr, rfl, hn4, hu4⟩
         have hhole := HG.out.2.2 w4 fr hu4
         have hbox : w4.heap[w.heap.size]? = _ := upd_cell hu4 HX3.out.1 (fun hr => HX3.out.2 (mfp_sub _ _ _ hr))
         obtain ⟨c1, c2, c3⟩ := box_cells (Below.refl _ _) hbox
         have HN4 := Lib.hid hn4
         have HH := Lib.hid hhole
         clear hn4 hu4 hhole hbox)
      | (go_at_call 152
         obtain ⟨hH, mf, hU, hmf⟩ := HH.out
         refine (keep_any T M c ver es rs rh k N4 _ fr w4 hH HN4.out HV.out).mono ?_
         rintro e w5 ⟨rfl, h5, hu5⟩
         have HF := Lib.hid (made_world (v := .int .i64 0) hU hmf h5 hu5)
         clear h5 hu5))
    go_ret
    have hf := HF.out
    rw [HG.out.2.1] at hf
    exact hf

set_option maxRecDepth 100000 in
set_option maxHeartbeats 8000000 in
theorem sset_full (T M : Nat) (c : Cfg) (ver : Nat) (es : List (KO × NE)) (rs rh : Nat) (k : KO) (p : Pol) (w : World) (h : SAt w T M c ver es rs rh) (hp : polB p = true) (hf : findM es k = none) (hl : c.lo ≤ (es.length : Nat)) :
    Calls Tryz.prog 86 #[.pointer (some ⟨T, 0, none⟩), .agg #[.int .u64 k.1.1, .int .u64 k.1.2], polV p] w (SSays w T M c es rs rh (.int .i64 6) ver (ab es)) := by
  have hNN : ∀ W, Calls Tryz.prog 156 #[.agg #[.int .i64 1, .int .i64 1, .int .i64 1, .int .i64 1]] W (NewNode W nd0 1 1) := fun W => nodeNew_any cfg1 1 1 W (by decide) rfl rfl (by simp [Cfg.ok, cfg1, I64])
  have HNN := Lib.hid hNN
  have HS1 := Lib.hid (fun (N : Nat) (fp : List Nat) (W : World) (h : NodeIn W N nd0 1 1 fp) => nodeSet_any N nd0 1 1 fp p W h (by omega) (by omega) (by simp [nd0]) hp)
  have H := Lib.hid h
  have HE := Lib.hid (fun w' => SSays.of_below (w' := w') (.int .i64 6) h)
  have HRoom := Lib.hid (fun (W : World) (hb : Below w.heap.size w W) => room_full T M c ver es rs rh k W (h.below hb) hf hl)
  unfold polV
  unfold polV at HS1
  clear h hl hNN hp hf
  go_enter Tryz.func86, Tryz.ntmps86
  go_upto_region 1 with fail
  refine name_world ?_
  intro W1 hW1
  obtain ⟨k0, k1, hb1⟩ := two_boxs w _ _ W1 hW1
  clear hW1
  obtain ⟨a1, a2, a3⟩ := box_cells (Below.refl _ _) k1
  have HX0 := Lib.hid k0
  have HX1 := Lib.hid k1
  have HB1 := Lib.hid hb1
  clear k0 k1 hb1
  go_cut [7, 8] (fun s7 s8 wx => ∃ N, s7 = .pointer (some ⟨N, 0, none⟩) ∧ s8 = .int .i64 0 ∧ Below W1.heap.size W1 wx)
  case first =>
    go_region_with (first
      | (go_at_call 156
         refine calls_named ?_
         intro W2 hW2
         have hb2 : Below W1.heap.size W1 W2 := by rw [hW2]; repeat (first | exact Below.refl _ _ | refine balloc ?_ _ | refine Below.drew ?_)
         clear hW2
         refine (HNN.out W2).mono ?_
         rintro e w3 ⟨N, fp, rfl, h1, h2, h3⟩
         have hb3 := bthen hb2 h3
         obtain ⟨b1, b2, b3⟩ := box_cells hb3 HX1.out
         have h2' : ∀ k ∈ fp, W1.heap.size ≤ k := fun k hk => by have := h2 k hk; have := hb2.size; omega
         have HN := Lib.hid h1
         have HF := Lib.hid h2'
         have HB3 := Lib.hid hb3
         clear h1 h2 h3 h2' hb2 hb3)
      | (go_at_call 157
         refine calls_named ?_
         intro W4 hW4
         have hb4 : Below w3.heap.size w3 W4 := by rw [hW4]; repeat (first | exact Below.refl _ _ | refine balloc ?_ _ | refine Below.drew ?_)
         clear hW4
         refine (HS1.out N fp W4 (HN.out.below hb4)).mono ?_
         rintro e w5 ⟨N5, fp5, rfl, _, hu5⟩
         have HB5 := Lib.hid ((bthen HB3.out hb4).trans (hu5.below (B := W1.heap.size) (bthen HB3.out hb4).size (fun k hk => HF.out k hk)))
         clear hu5 hb4))
    all_goals
      go_wp2_with fail
      go_meet
      exact ⟨N5, rfl, rfl, HB5.out⟩
  case rest =>
    obtain ⟨N0, rfl, rfl, hbc⟩ := hcut
    have HBC := Lib.hid (bthen HB1.out hbc)
    have HC0 := Lib.hid ((hbc.block _ (Array.getElem?_eq_some_iff.1 HX0.out).1).trans HX0.out)
    have HC1 := Lib.hid ((hbc.block _ (Array.getElem?_eq_some_iff.1 HX1.out).1).trans HX1.out)
    clear hbc a1 a2 a3
    go_wp2_with (first
      | (go_at_call 149
         refine (smade_any T c ver es rs rh _ wc ((H.out.below HBC.out).in_)).mono ?_
         rintro e w2 ⟨rfl, hb2⟩
         obtain ⟨a1, a2, a3, a4⟩ := box_at hb2 HC0.out
         have HB2 := Lib.hid (bthen HBC.out hb2)
         clear hb2 a4)
      | (go_at_call 150
         refine (HRoom.out w2 HB2.out).mono ?_
         rintro e w3 ⟨rfl, hb3⟩
         have HB3 := Lib.hid (bthen HB2.out hb3)
         clear hb3))
    go_ret
    exact HE.out _ HB3.out

set_option maxRecDepth 100000 in
set_option maxHeartbeats 8000000 in
theorem sset_bad (T M : Nat) (c : Cfg) (ver : Nat) (es : List (KO × NE)) (rs rh : Nat) (k : KO) (p : Pol) (w : World) (h : SAt w T M c ver es rs rh) (hp : polB p = false) :
    Calls Tryz.prog 86 #[.pointer (some ⟨T, 0, none⟩), .agg #[.int .u64 k.1.1, .int .u64 k.1.2], polV p] w (SSays w T M c es rs rh (.int .i64 7) ver (ab es)) := by
  have hNN : ∀ W, Calls Tryz.prog 156 #[.agg #[.int .i64 1, .int .i64 1, .int .i64 1, .int .i64 1]] W (NewNode W nd0 1 1) := fun W => nodeNew_any cfg1 1 1 W (by decide) rfl rfl (by simp [Cfg.ok, cfg1, I64])
  have HNN := Lib.hid hNN
  have HS1 := Lib.hid (fun (N : Nat) (W : World) => nodeSet_bad N p W hp)
  have HE := Lib.hid (fun w' => SSays.of_below (w' := w') (.int .i64 7) h)
  unfold polV
  unfold polV at HS1
  clear h hNN hp
  go_enter Tryz.func86, Tryz.ntmps86
  go_upto_region 1 with fail
  refine name_world ?_
  intro W1 hW1
  obtain ⟨k0, k1, hb1⟩ := two_boxs w _ _ W1 hW1
  clear hW1
  obtain ⟨a1, a2, a3⟩ := box_cells (Below.refl _ _) k1
  have HX0 := Lib.hid k0
  have HX1 := Lib.hid k1
  have HB1 := Lib.hid hb1
  clear k0 k1 hb1
  go_cut [7, 8] (fun s7 s8 wx => ∃ N, s7 = .pointer (some ⟨N, 0, none⟩) ∧ s8 = .int .i64 7 ∧ Below W1.heap.size W1 wx)
  case first =>
    go_region_with (first
      | (go_at_call 156
         refine calls_named ?_
         intro W2 hW2
         have hb2 : Below W1.heap.size W1 W2 := by rw [hW2]; repeat (first | exact Below.refl _ _ | refine balloc ?_ _ | refine Below.drew ?_)
         clear hW2
         refine (HNN.out W2).mono ?_
         rintro e w3 ⟨N, fp, rfl, h1, h2, h3⟩
         have hb3 := bthen hb2 h3
         obtain ⟨b1, b2, b3⟩ := box_cells hb3 HX1.out
         have h2' : ∀ k ∈ fp, W1.heap.size ≤ k := fun k hk => by have := h2 k hk; have := hb2.size; omega
         have HN := Lib.hid h1
         have HF := Lib.hid h2'
         have HB3 := Lib.hid hb3
         clear h1 h2 h3 h2' hb2 hb3)
      | (go_at_call 157
         refine calls_named ?_
         intro W4 hW4
         have hb4 : Below w3.heap.size w3 W4 := by rw [hW4]; repeat (first | exact Below.refl _ _ | refine balloc ?_ _ | refine Below.drew ?_)
         clear hW4
         refine (HS1.out N W4).mono ?_
         rintro e w5 ⟨rfl, hu5⟩
         have HB5 := Lib.hid (bthen (bthen HB3.out hb4) hu5)
         clear hu5 hb4))
    all_goals
      go_wp2_with fail
      go_meet
      exact ⟨N, rfl, rfl, HB5.out⟩
  case rest =>
    obtain ⟨N0, rfl, rfl, hbc⟩ := hcut
    have HBC := Lib.hid (bthen HB1.out hbc)
    have HC0 := Lib.hid ((hbc.block _ (Array.getElem?_eq_some_iff.1 HX0.out).1).trans HX0.out)
    have HC1 := Lib.hid ((hbc.block _ (Array.getElem?_eq_some_iff.1 HX1.out).1).trans HX1.out)
    clear hbc a1 a2 a3
    go_wp2
    go_ret
    exact HE.out _ HBC.out
end

section
set_option linter.unusedSimpArgs false
set_option linter.unusedVariables false
open Go.RowKit Go.Lib

/-- An entry: a key, a node's block. -/
abbrev En := Ky × Nat
def enC (x : En) : List Value := [.int .u64 x.1.1, .int .u64 x.1.2, .pointer (some ⟨x.2, 0, none⟩)]
theorem eEn : EltOf 164 246 3 24 (.agg #[.int .u64 0, .int .u64 0, .pointer none]) enC :=
  ⟨by kernel_rfl, by kernel_rfl, rfl, by decide, by decide, fun _ => rfl, fun x u hu => by
    simp only [enC, List.mem_cons, List.not_mem_nil, or_false] at hu
    rcases hu with rfl | rfl | rfl <;> rfl⟩
end

section
set_option linter.unusedSimpArgs false
set_option linter.unusedVariables false
open Go.RowKit Go.Lib Go.Sort
open Go.ChangeMaps (setBlock)

/-- The block of a key's node. -/
def blkOf (es : List (KO × NE)) (q : Ky) : Nat := ((es.find? (fun p => p.1.1 = q)).map (fun p => p.2.1)).getD 0
theorem blk_find {es : List (KO × NE)} {k : KO} {b : NE} (h : findM es k = some b) : blkOf es k.1 = b.1 := by
  unfold blkOf
  have e : (fun p : KO × NE => decide (p.1.1 = k.1)) = (fun p : KO × NE => decide (p.1 = k)) := by
    funext p
    rw [decide_eq_decide]
    exact ⟨fun h => Subtype.ext h, fun h => by rw [h]⟩
  rw [e]
  unfold findM at h
  obtain ⟨q, hq, rfl⟩ := Option.map_eq_some_iff.1 h
  rw [hq]
  rfl

/-- What Freeze says: the entries, in order; the stripe with all its nodes frozen. -/
def FreezeS (w : World) (T M : Nat) (c : Cfg) (ver : Nat) (es : List (KO × NE)) (rs rh : Nat) (e : Ending) (w' : World) : Prop :=
  ∃ A cc, e = .returned (.slice A (risL (kyN es)).length cc) ∧ OwnL enC 246 3 w.heap.size w' (.slice A (risL (kyN es)).length cc) ((risL (kyN es)).map fun q => (q, blkOf es q)) ∧
    SAt w' T M c ver (frzE es (risL (kyN es))) rs rh ∧ Upd w w' (sfp T M es) (sfp T M (frzE es (risL (kyN es))))

def FreezeS2 (w : World) (T M : Nat) (c : Cfg) (ver : Nat) (es : List (KO × NE)) (rs rh : Nat) (K : List Ky) (e : Ending) (w' : World) : Prop :=
  ∃ A cc, e = .returned (.slice A K.length cc) ∧ OwnL enC 246 3 w.heap.size w' (.slice A K.length cc) (K.map fun q => (q, blkOf es q)) ∧
    SAt w' T M c ver (frzE es K) rs rh ∧ Upd w w' (sfp T M es) (sfp T M (frzE es K))
theorem SAt.keptB {w w' : World} {T M : Nat} {c : Cfg} {ver : Nat} {es : List (KO × NE)} {rs rh : Nat} (h : SAt w T M c ver es rs rh) {n : Nat} (hT : T < n) (hM : M < n) (hn : ∀ p ∈ es, ∀ r ∈ p.2.2.2, r < n) (hb : Below n w w') : SAt w' T M c ver es rs rh :=
  ⟨(hb.block T hT).trans h.cell, h.map.block (hb.block M hM), fun p hp => (h.node p hp).kept (fun r hr => hb.block r (hn p hp r hr)), h.pair, h.off, h.ne⟩
theorem Upd.thenB {w a b : World} {fp fq : List Nat} (h : Upd w a fp fq) (hb : Below w.heap.size a b) : Upd w b fp fq :=
  ⟨hb.os.trans h.os, hb.tape.trans h.tape, hb.output.trans h.output, Nat.le_trans h.size hb.size, fun k hk hn => (hb.block k hk).trans (h.block k hk hn), h.fresh⟩
theorem frzE_lt {w : World} {T M : Nat} {c : Cfg} {ver : Nat} {es : List (KO × NE)} {rs rh : Nat} (h : SAt w T M c ver es rs rh) (ks : List Ky) : ∀ p ∈ frzE es ks, ∀ r ∈ p.2.2.2, r < w.heap.size := by
  intro p hp r hr
  obtain ⟨q, hq, rfl⟩ := frzE_mem hp
  exact (h.node q hq).lt r hr

set_option maxRecDepth 100000 in
set_option maxHeartbeats 8000000 in
theorem sfreeze_any (T M : Nat) (c : Cfg) (ver : Nat) (es : List (KO × NE)) (rs rh : Nat) (w : World) (h : SAt w T M c ver es rs rh) (hl : es.length ≤ 1000) :
    Calls Tryz.prog 97 #[.pointer (some ⟨T, 0, none⟩)] w (FreezeS w T M c ver es rs rh) := by
  have hnd : (kyN es).Nodup := kyN_nodup h.map
  have hnod : (es.map (·.1)).Nodup := h.nodup
  obtain ⟨K, hK⟩ : ∃ K, K = risL (kyN es) := ⟨_, rfl⟩
  have hKl : K.length ≤ 1000 := by rw [hK, risL_length hnd]; simp [kyN]; exact hl
  have hk0 := skeys_any T c ver es rs rh _ w h.in_ (by omega)
  unfold FreezeS
  rw [← hK] at hk0 ⊢
  have HK := Lib.hid hk0
  have H := Lib.hid h
  have HKK := Lib.hid hK
  have HND := Lib.hid hnd
  clear h hnd hnod hk0 hK
  go_enter Tryz.func97, Tryz.ntmps97
  go_wp2_with (first
    | (go_at_call 153
       refine HK.out.mono ?_
       rintro e w2 ⟨v, rfl, hrow, hb2⟩
       obtain ⟨A, cc, rfl⟩ := own_form hrow
       have hri : RowIn 2 keyC w2 (.slice A K.length cc) K := RowIn.own (n := 2) (f := keyC) (fun _ => rfl) hrow
       have hblk : ∀ b o m c', (Value.slice A K.length cc) = .slice (some ⟨b, o, none⟩) m c' → 0 < K.length → w.heap.size ≤ b ∧ b < w2.heap.size := fun b o m c' e hn => by
         rcases hrow.2 with ⟨hv', h0⟩ | ⟨g, cap, cur, hv', _⟩
         · omega
         · have hlt := hrow.lt g (by rw [hv']; rfl)
           rw [e] at hv'
           injection hv' with e1 _ _
           injection e1 with e1
           injection e1 with e1
           rw [e1]
           exact hlt
       have HRI := Lib.hid hri
       have HBL := Lib.hid hblk
       have HB2 := Lib.hid hb2
       clear hrow hri hblk hb2))
  go_loopg [3, 9] K.length (fun g s3 s9 wr => ∃ k, k ≤ K.length ∧ K.length - k ≤ g ∧ s9 = .int .i64 (k : Nat) ∧ OwnL enC 246 3 w2.heap.size wr s3 ((K.take k).map fun q => (q, blkOf es q)) ∧ SAt wr T M c ver (frzE es (K.take k)) rs rh ∧ Upd w wr (sfp T M es) (sfp T M (frzE es (K.take k))) ∧ RowIn 2 keyC wr (.slice A K.length cc) K ∧ w2.heap.size ≤ wr.heap.size)
  case atStart =>
    refine ⟨0, Nat.zero_le _, Nat.le_refl _, rfl, OwnL.nil _ _, ?_, ?_, HRI.out, Nat.le_refl _⟩
    · rw [List.take_zero, frzE_nil]; exact H.out.below HB2.out
    · rw [List.take_zero, frzE_nil]; exact Upd.of_below HB2.out _
  case round =>
    obtain ⟨k, hk, hg, rfl, hown, hS, hU, hrow, hsz⟩ := hrel
    by_cases hlt : k < K.length
    · have hm : K[k] ∈ kyN es := by have := HKK.out; subst this; exact mem_risL' _ _ (List.getElem_mem hlt)
      obtain ⟨pp, hp, he⟩ := List.mem_map.1 hm
      obtain ⟨ko, b⟩ := pp
      have hn : K.Nodup := by have := HKK.out; subst this; exact risL_nodup HND.out
      have hnk : K[k] ∉ K.take k := fun hmem => by
        obtain ⟨i, hi⟩ := List.getElem?_of_mem hmem
        have hil : i < k := by
          have := (List.getElem?_eq_some_iff.1 hi).1
          simp at this; omega
        rw [List.getElem?_take_of_lt hil] at hi
        have := nodup_inj hn hi (List.getElem?_eq_getElem hlt)
        omega
      have hfb := find_of_mem H.out.nodup hp
      have hff : findM (frzE es (K.take k)) ko = some b := by
        rw [frzE_find, hfb]
        have : ko.1 ∉ K.take k := by show ko.1 ∉ _; rw [show ko.1 = K[k] from he]; exact hnk
        simp [this]
      have HTK := Lib.hid (show K.take (k + 1) = K.take k ++ [ko.1] by rw [List.take_succ_eq_append_getElem hlt, ← he])
      have HBK := Lib.hid (blk_find hfb)
      obtain ⟨bb, o, rfl, hbw, hc⟩ := hrow.at_ hlt
      have c1 : wr.cell? ⟨bb, o + k * 2, none⟩ = some (.int .u64 K[k].1) := hc 0 _ rfl
      have c2 : wr.cell? ⟨bb, o + k * 2 + 1, none⟩ = some (.int .u64 K[k].2) := hc 1 _ rfl
      rw [← show ko.1 = K[k] from he] at c1 c2
      obtain ⟨A3, c3, rfl⟩ := hown.form
      have hol : ((K.take k).map fun q => (q, blkOf es q)).length = k := by simp; omega
      have HOL := Lib.hid hol
      have HOW := Lib.hid hown
      have HN := Lib.hid (hS.node _ (find_mem hff))
      have HSS := Lib.hid hS
      have HUU := Lib.hid hU
      have HRW := Lib.hid hrow
      have HFF := Lib.hid hff
      have HSZ := Lib.hid hsz
      clear hm hp he hn hnk hfb hff hol hown hS hU hrow hc hsz
      generalize hout : ((K.take k).map fun q => (q, blkOf es q)) = out at *
      have HOUT := Lib.hid hout
      clear hout
      go_wp2_with fail
      refine name_world ?_
      intro W1 hW1
      have hb1 : Below wr.heap.size wr W1 := by rw [hW1]; exact balloc (Below.refl _ _) _
      have hx1 : W1.heap[wr.heap.size]? = some (.cells #[.int .u64 ko.1.1, .int .u64 ko.1.2] 74 (0, 0)) := by rw [hW1]; exact heap_alloc_new _ _
      clear hW1 c1 c2
      have a1 : W1.cell? ⟨wr.heap.size, 0, none⟩ = some (.int .u64 ko.1.1) := by simp [World.cell?, hx1]
      have a2 : W1.cell? ⟨wr.heap.size, 1, none⟩ = some (.int .u64 ko.1.2) := by simp [World.cell?, hx1]
      have h1 := HSS.out.below hb1
      have hltT := h1.ltT
      have z0 : W1.cell? ⟨T, 0, none⟩ = some (.map (some M)) := by simp only [World.cell?, h1.cell]; rfl
      have r4 : (Instr.lookup 230 (.map (some M)) (.agg #[.int .u64 ko.1.1, .int .u64 ko.1.2]) false).run Tryz.prog W1.drew = .ok (.pointer (some ⟨b.1, 0, none⟩)) W1.drew := by
        have := look_es (h1.map.below ((Below.refl _ W1).drew)) ko false
        rw [HFF.out] at this
        exact this
      have HX1 := Lib.hid hx1
      have HB1 := Lib.hid hb1
      clear hx1 hb1 h1
      go_region_law (first
        | (refine step_appendL eEn (by rfl) (.tmp 13) (.tmp 23) (by rfl) w2.heap.size out [(ko.1, b.1)] (.slice A3 out.length c3) _ (by rfl) (by rfl) (HO4.out.below (by repeat (first | exact Below.refl _ _ | refine balloc ?_ _ | refine Below.drew ?_ | refine below_drewN ?_ _))) (RowIn.lit (n := 3) (f := enC) _ (ko.1, b.1) _ _ _ (by first | rfl | simp) rfl) (by have := HOL.out; simp; omega) (by have := HZ4.out; simp; omega) ?_
           intro out6 A6 c6 w6 hout6 hown6 hg6 hblk6
           have hb6 : Below w2.heap.size w4 w6 := ((by repeat (first | exact Below.refl _ _ | refine balloc ?_ _ | refine Below.drew ?_ | refine below_drewN ?_ _) : Below w4.heap.size w4 _).mono HZ4.out).trans (grown_own hg6 HO4.out (by have := HZ4.out; simp; omega))
           have HB6 := Lib.hid hb6
           have HO6 := Lib.hid hown6
           have HE6 := Lib.hid hout6
           clear hout6 hown6 hg6 hblk6 hb6)
        | (go_simp
           go_at_call 165
           refine calls_named ?_
           intro W2 hW2
           have hb2 : Below W1.heap.size W1 W2 := by rw [hW2]; repeat (first | exact Below.refl _ _ | refine balloc ?_ _ | refine Below.drew ?_)
           clear hW2
           have hbw2 := bthen HB1.out hb2
           refine (nodeFreeze_any b.1 b.2.1 rs rh b.2.2 W2 (HN.out.below hbw2)).mono ?_
           rintro e w4 ⟨rfl, hn4, hu4⟩
           have hsz := HSZ.out
           have hfl : ∀ r ∈ mfp b.2.1 b.2.2, r < w.heap.size := fun r hr => frzE_lt H.out _ _ (find_mem HFF.out) r (mfp_sub _ _ r hr)
           have hx4 := upd_cell hu4 ((hb2.block _ (Array.getElem?_eq_some_iff.1 HX1.out).1).trans HX1.out) (fun hr => by have := hfl _ hr; have := HB2.out.size; omega)
           obtain ⟨q1, q2, q3⟩ := box_cells (Below.refl _ _) hx4
           have hu0 : Upd wr w4 (mfp b.2.1 b.2.2) [] := (Upd.of_below hbw2 _).trans hu4
           have hfz := HSS.out.freeze HFF.out hn4 hu0
           have HO4 := Lib.hid (HOW.out.kept (fun r hr => hu0.block r (HOW.out.lt hr).2 (fun hk => by have := hfl r hk; have := (HOW.out.lt hr).1; have := HB2.out.size; omega)))
           have HR4 := Lib.hid (HRW.out.keepB hu0.size (fun b' o' m' c' e hn => hu0.block b' (by injection e with e1 _ _; injection e1 with e1; injection e1 with e1; omega) (fun hk => by
             have h1 := hfl b' hk
             have h2 := (HBL.out b' o' m' c' e hn).1
             omega)))
           have HZ4 := Lib.hid (show w2.heap.size ≤ w4.heap.size from Nat.le_trans hsz hu0.size)
           have HS4 := Lib.hid hfz.1
           have HU4 := Lib.hid (HUU.out.trans hfz.2)
           clear hb2 hbw2 hn4 hu4 hx4 hu0 hfz hfl hsz))
      all_goals
        have hw := HB2.out.size
        have H3 : Hid (OwnL enC 246 3 w2.heap.size w6 (.slice A6 out6.length c6) (out ++ [(ko.1, b.1)])) := Lib.hid (by rw [← HE6.out]; exact HO6.out)
        have H4 := Lib.hid (HS4.out.keptB (n := w2.heap.size) (Nat.lt_of_lt_of_le H.out.ltT hw) (Nat.lt_of_lt_of_le H.out.map.lt hw) (fun p hp r hr => Nat.lt_of_lt_of_le (frzE_lt H.out _ p hp r hr) hw) HB6.out)
        have H5 := Lib.hid (HU4.out.thenB (HB6.out.mono hw))
        have H6 := Lib.hid (HR4.out.keepB HB6.out.size (fun b' o' m' c' e hn => HB6.out.block b' (HBL.out b' o' m' c' e hn).2))
        have H7 := Lib.hid (Nat.le_trans HZ4.out HB6.out.size)
        clear hw
        go_wp2
        go_roundg (K.length - (k + 1))
        case measure => omega
        case rel =>
          refine ⟨k + 1, hlt, Nat.le_refl _, by go_num, ?_, ?_, ?_, H6.out, H7.out⟩
          · rw [HTK.out, List.map_append, HOUT.out, List.map_cons, List.map_nil, HBK.out]
            exact H3.out
          · rw [HTK.out]; exact H4.out
          · rw [HTK.out]; exact H5.out
    · obtain rfl : k = K.length := by omega
      obtain ⟨A3, c3, rfl⟩ := hown.form
      rw [List.take_length] at hown hS hU
      have HOW := Lib.hid hown
      have HSS := Lib.hid hS
      have HUU := Lib.hid hU
      clear hown hS hU hrow
      have hf : FreezeS2 w T M c ver es rs rh K (.returned (.slice A3 (((K.take K.length).map fun q => (q, blkOf es q))).length c3)) wr := by
        have h9 := HOW.out.lower HB2.out.size
        rw [show ((K.take K.length).map fun q => (q, blkOf es q)).length = K.length by simp]
        rw [show (K.map fun q => (q, blkOf es q)).length = K.length by simp] at h9
        exact ⟨A3, c3, rfl, by simpa using h9, HSS.out, HUU.out⟩
      have HF := Lib.hid hf
      clear hf
      go_wp2
      go_ret
      exact HF.out
end

section
set_option linter.unusedSimpArgs false
set_option linter.unusedVariables false
open Go.RowKit Go.Lib Go.Sort

structure DoR where
  err : Int
  gone : Nat
  ver : Nat
  has : List (KO × Nd)
/-- What an act comes to. -/
def doS (c : Cfg) (rs rh ver : Nat) (S : List (KO × Nd)) (k : KO) (a : Act17) : DoR :=
  if a.kind = 0 then (if serE a.smp.1 a.smp.2 = 0 then (if hasM S k = false ∧ c.lo ≤ (S.length : Nat) then ⟨6, 0, ver, S⟩ else ⟨0, 0, ver + 1, putM S k { bump (ndOf S k) with smp := putS (ndOf S k).smp (rs : Nat) a.smp }⟩) else ⟨serE a.smp.1 a.smp.2, 0, ver, S⟩)
  else if a.kind = 1 then ⟨0, goneS S a.smp.1 (risL (keysS S)), ver + manyS S a.smp.1 (risL (keysS S)), trimK S a.smp.1 (risL (keysS S))⟩
  else if a.kind = 2 then (if polB a.pol = true then (if hasM S k = false ∧ c.lo ≤ (S.length : Nat) then ⟨6, 0, ver, S⟩ else ⟨0, 0, ver + 1, putM S k { bump (ndOf S k) with pol := a.pol, ruled := true }⟩) else ⟨7, 0, ver, S⟩)
  else if a.kind = 3 then (if hasM S k = true then ⟨0, 0, ver + 1, putM S k { bump (ndOf S k) with past := pushL (ndOf S k).past rh a.adv }⟩ else ⟨5, 0, ver, S⟩)
  else ⟨0, 0, ver, S.map fun p => (p.1, if p.1.1 ∈ risL (keysS S) then frz p.2 else p.2)⟩
theorem kyN_keysS (es : List (KO × NE)) : kyN es = keysS (ab es) := by simp [kyN, keysS, ab, List.map_map, Function.comp_def]
theorem Old.frz (n : Nat) (es : List (KO × NE)) (K : List Ky) : Old n es (frzE es K) := fun p hp r hr => by
  obtain ⟨q, hq, rfl⟩ := frzE_mem hp
  exact .inr ⟨q, hq, hr⟩
/-- What a stripe must be that acts are done to it. -/
structure SOk (c : Cfg) (rs rh ver : Nat) (S : List (KO × Nd)) : Prop where
  cfg : cfgB c = true
  sa : c.sa = (rs : Nat)
  hi : c.hi = (rh : Nat)
  ok : c.ok
  len : S.length ≤ 1000
  ver_ : ver ≤ 900000
  vers : ∀ p ∈ S, p.2.ver ≤ 1000000
theorem SOk.room {c : Cfg} {rs rh ver : Nat} {S : List (KO × Nd)} (h : SOk c rs rh ver S) : rs ≤ 256 ∧ rh ≤ 64 := by
  have hc := h.cfg
  have h1 := h.sa
  have h2 := h.hi
  unfold cfgB at hc
  simp only [Bool.and_eq_true, decide_eq_true_eq] at hc
  omega

theorem none_of_has {es : List (KO × NE)} {k : KO} (h : hasM es k = false) : findM es k = none := findM_none h
theorem ingest_all (T M : Nat) (c : Cfg) (ver : Nat) (es : List (KO × NE)) (rs rh : Nat) (k : KO) (a : Act17) (w : World) (h : SAt w T M c ver es rs rh) (ho : SOk c rs rh ver (ab es)) (h0 : a.kind = 0) :
    Calls Tryz.prog 82 #[.pointer (some ⟨T, 0, none⟩), .agg #[.int .u64 k.1.1, .int .u64 k.1.2], .int .i64 a.smp.1, .int .i64 a.smp.2] w (SSays w T M c es rs rh (.int .i64 (doS c rs rh ver (ab es) k a).err) (doS c rs rh ver (ab es) k a).ver (doS c rs rh ver (ab es) k a).has) := by
  unfold doS
  rw [if_pos h0]
  by_cases hs : serE a.smp.1 a.smp.2 = 0
  · rw [if_pos hs]
    by_cases hf : hasM (ab es) k = false ∧ c.lo ≤ ((ab es).length : Nat)
    · rw [if_pos hf]
      refine singest_full T M c ver es rs rh k a.smp w h hs ?_ (by rw [← ab_len]; exact hf.2)
      have := none_of_has (by rw [← ab_has]; exact hf.1 : hasM es k = false)
      exact this
    · rw [if_neg hf]
      exact singest_ok T M c ver es rs rh k a.smp w h hs (fun hh => hf ⟨by rw [ab_has]; exact hh.1, by rw [ab_len]; exact hh.2⟩) ho.cfg ho.sa ho.hi ho.ok (by have := ho.ver_; omega) ho.vers
  · rw [if_neg hs]
    exact singest_bad T M c ver es rs rh k a.smp w h hs
theorem set_all (T M : Nat) (c : Cfg) (ver : Nat) (es : List (KO × NE)) (rs rh : Nat) (k : KO) (a : Act17) (w : World) (h : SAt w T M c ver es rs rh) (ho : SOk c rs rh ver (ab es)) (h0 : a.kind = 2) :
    Calls Tryz.prog 86 #[.pointer (some ⟨T, 0, none⟩), .agg #[.int .u64 k.1.1, .int .u64 k.1.2], polV a.pol] w (SSays w T M c es rs rh (.int .i64 (doS c rs rh ver (ab es) k a).err) (doS c rs rh ver (ab es) k a).ver (doS c rs rh ver (ab es) k a).has) := by
  unfold doS
  rw [if_neg (by omega), if_neg (by omega), if_pos h0]
  cases hs : polB a.pol with
  | true =>
    rw [if_pos rfl]
    by_cases hf : hasM (ab es) k = false ∧ c.lo ≤ ((ab es).length : Nat)
    · rw [if_pos hf]
      exact sset_full T M c ver es rs rh k a.pol w h hs (none_of_has (by rw [← ab_has]; exact hf.1)) (by rw [← ab_len]; exact hf.2)
    · rw [if_neg hf]
      exact sset_ok T M c ver es rs rh k a.pol w h hs (fun hh => hf ⟨by rw [ab_has]; exact hh.1, by rw [ab_len]; exact hh.2⟩) ho.cfg ho.sa ho.hi ho.ok (by have := ho.ver_; omega) ho.vers
  | false =>
    rw [if_neg (by simp)]
    exact sset_bad T M c ver es rs rh k a.pol w h hs
end

end Go.Proofs.YtmniiodpbebnmaaGreat
