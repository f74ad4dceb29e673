/- a stripe's Set; Entries: a key, and its node's block. -/
import Derived.Test.YtmniiodpbebnmaaGreatJ21
import Derived.Test.YtmniiodpbebnmaaGreatJ23
import Derived.Deep.DeepCutAuto
import Derived.Test.YtmniiodpbebnmaaGreatJ03
namespace Go.Proofs.YtmniiodpbebnmaaGreat

section
set_option linter.unusedSimpArgs false
set_option linter.unusedVariables false
open Go.RowKit Go.Lib Go.Sort
open Go.ChangeMaps (setBlock)

theorem two_boxs (w : World) (o1 o2 : Obj) : ∀ W, W = (w.alloc o1).alloc o2 → W.heap[w.heap.size]? = some o1 ∧ W.heap[w.heap.size + 1]? = some o2 ∧ Below w.heap.size w W := by
  rintro W rfl
  refine ⟨(Below.heap_alloc _ _ _ (by simp)).trans (heap_alloc_new _ _), ?_, balloc (balloc (Below.refl _ _) _) _⟩
  have := heap_alloc_new (w.alloc o1) o2
  rw [World.size_alloc] at this
  exact this

set_option maxRecDepth 100000 in
set_option maxHeartbeats 8000000 in
theorem sset_ok (T M : Nat) (c : Cfg) (ver : Nat) (es : List (KO × NE)) (rs rh : Nat) (k : KO) (p : Pol) (w : World) (h : SAt w T M c ver es rs rh) (hp : polB p = true) (hl : ¬ (hasM es k = false ∧ c.lo ≤ (es.length : Nat))) (hc : cfgB c = true) (hrs : c.sa = (rs : Nat)) (hrh : c.hi = (rh : Nat)) (hok : c.ok)
    (hv : ver ≤ 1000000) (hvn : ∀ p ∈ ab es, p.2.ver ≤ 1000000) :
    Calls Tryz.prog 86 #[.pointer (some ⟨T, 0, none⟩), .agg #[.int .u64 k.1.1, .int .u64 k.1.2], polV p] w (SSays w T M c es rs rh (.int .i64 0) (ver + 1) (putM (ab es) k { bump (ndOf (ab es) k) with pol := p, ruled := true })) := by
  have hNN : ∀ W, Calls Tryz.prog 156 #[.agg #[.int .i64 1, .int .i64 1, .int .i64 1, .int .i64 1]] W (NewNode W nd0 1 1) := fun W => nodeNew_any cfg1 1 1 W (by decide) rfl rfl (by simp [Cfg.ok, cfg1, I64])
  have HNN := Lib.hid hNN
  have hb0 : 1 ≤ rs ∧ rs ≤ 256 ∧ rh ≤ 64 := by
    unfold cfgB at hc
    simp only [Bool.and_eq_true, decide_eq_true_eq] at hc
    omega
  have hvx : (ndOf (ab es) k).ver ≤ 1000000 := by
    unfold ndOf
    cases hf : findM (ab es) k with
    | none => simp [nd0]
    | some x => exact hvn _ (find_mem hf)
  have HS1 := Lib.hid (fun (N : Nat) (fp : List Nat) (W : World) (h : NodeIn W N nd0 1 1 fp) => nodeSet_any N nd0 1 1 fp p W h (by omega) (by omega) (by simp [nd0]) hp)
  have HS2 := Lib.hid (fun (N : Nat) (x : Nd) (fp : List Nat) (W : World) (h : NodeIn W N x rs rh fp) (hxv : x.ver ≤ 1000000) => nodeSet_any N x rs rh fp p W h hb0.2.1 hb0.2.2 hxv hp)
  have H := Lib.hid h
  have HRoom := Lib.hid (fun (W : World) (hb : Below w.heap.size w W) => room_any T M c ver es rs rh k w W h hb hl hc hrs hrh hok)
  have HVX := Lib.hid hvx
  have HV := Lib.hid hv
  unfold polV
  unfold polV at HS1 HS2
  clear h hl hc hrs hrh hok hvn hvx hv hNN hp
  go_enter Tryz.func86, Tryz.ntmps86
  go_upto_region 1 with fail
  refine name_world ?_
  intro W1 hW1
  obtain ⟨k0, k1, hb1⟩ := two_boxs w _ _ W1 hW1
  clear hW1
  obtain ⟨a1, a2, a3⟩ := box_cells (Below.refl _ _) k1
  have HX0 := Lib.hid k0
  have HX1 := Lib.hid k1
  have HB1 := Lib.hid hb1
  clear k0 k1 hb1
  go_cut [7, 8] (fun s7 s8 wx => ∃ N, s7 = .pointer (some ⟨N, 0, none⟩) ∧ s8 = .int .i64 0 ∧ Below W1.heap.size W1 wx)
  case first =>
    go_region_with (first
      | (go_at_call 156
         refine calls_named ?_
         intro W2 hW2
         have hb2 : Below W1.heap.size W1 W2 := by rw [hW2]; repeat (first | exact Below.refl _ _ | refine balloc ?_ _ | refine Below.drew ?_)
         clear hW2
         refine (HNN.out W2).mono ?_
         rintro e w3 ⟨N, fp, rfl, h1, h2, h3⟩
         have hb3 := bthen hb2 h3
         obtain ⟨b1, b2, b3⟩ := box_cells hb3 HX1.out
         have h2' : ∀ k ∈ fp, W1.heap.size ≤ k := fun k hk => by have := h2 k hk; have := hb2.size; omega
         have HN := Lib.hid h1
         have HF := Lib.hid h2'
         have HB3 := Lib.hid hb3
         clear h1 h2 h3 h2' hb2 hb3)
      | (go_at_call 157
         refine calls_named ?_
         intro W4 hW4
         have hb4 : Below w3.heap.size w3 W4 := by rw [hW4]; repeat (first | exact Below.refl _ _ | refine balloc ?_ _ | refine Below.drew ?_)
         clear hW4
         refine (HS1.out N fp W4 (HN.out.below hb4)).mono ?_
         rintro e w5 ⟨N5, fp5, rfl, _, hu5⟩
         have HB5 := Lib.hid ((bthen HB3.out hb4).trans (hu5.below (B := W1.heap.size) (bthen HB3.out hb4).size (fun k hk => HF.out k hk)))
         clear hu5 hb4))
    all_goals
      go_wp2_with fail
      go_meet
      exact ⟨N5, rfl, rfl, HB5.out⟩
  case rest =>
    obtain ⟨N0, rfl, rfl, hbc⟩ := hcut
    have HBC := Lib.hid (bthen HB1.out hbc)
    have HC0 := Lib.hid ((hbc.block _ (Array.getElem?_eq_some_iff.1 HX0.out).1).trans HX0.out)
    have HC1 := Lib.hid ((hbc.block _ (Array.getElem?_eq_some_iff.1 HX1.out).1).trans HX1.out)
    clear hbc a1 a2 a3
    go_wp2_with (first
      | (go_at_call 149
         refine (smade_any T c ver es rs rh _ wc ((H.out.below HBC.out).in_)).mono ?_
         rintro e w2 ⟨rfl, hb2⟩
         obtain ⟨a1, a2, a3, a4⟩ := box_at hb2 HC0.out
         have HY0 := Lib.hid a4
         have HY1 := Lib.hid ((hb2.block _ (Array.getElem?_eq_some_iff.1 HC1.out).1).trans HC1.out)
         have HB2 := Lib.hid (bthen HBC.out hb2)
         clear hb2 a4)
      | (go_at_call 150
         refine (HRoom.out w2 HB2.out).mono ?_
         rintro e w3 ⟨N, x, fq, rfl, hg, hfq, hb3⟩
         obtain ⟨b1, b2, b3, b4⟩ := box_at hb3 HY0.out
         obtain ⟨d1, d2, d3, d4⟩ := box_at hb3 HY1.out
         have hnb : w.heap.size ∉ fq := fun hr => by have := (Array.getElem?_eq_some_iff.1 HY0.out).1; rcases hfq _ hr with h' | h' <;> omega
         have HX3 := Lib.hid (And.intro b4 hnb)
         have HG := Lib.hid hg
         clear hg hb3 b4 d4 hfq hnb)
      | (go_at_call 157
         refine (HS2.out N x fq w3 HG.out.1 (by rw [HG.out.2.1]; exact HVX.out)).mono ?_
         rintro e w4 ⟨N4, fr, rfl, hn4, hu4⟩
         have hhole := HG.out.2.2 w4 fr hu4
         have hbox : w4.heap[w.heap.size]? = _ := upd_cell hu4 HX3.out.1 (fun hr => HX3.out.2 (mfp_sub _ _ _ hr))
         obtain ⟨c1, c2, c3⟩ := box_cells (Below.refl _ _) hbox
         have HN4 := Lib.hid hn4
         have HH := Lib.hid hhole
         clear hn4 hu4 hhole hbox)
      | (go_at_call 152
         obtain ⟨hH, mf, hU, hmf⟩ := HH.out
         refine (keep_any T M c ver es rs rh k N4 _ fr w4 hH HN4.out HV.out).mono ?_
         rintro e w5 ⟨rfl, h5, hu5⟩
         have HF := Lib.hid (made_world (v := .int .i64 0) hU hmf h5 hu5)
         clear h5 hu5))
    go_ret
    have hf := HF.out
    rw [HG.out.2.1] at hf
    exact hf

set_option maxRecDepth 100000 in
set_option maxHeartbeats 8000000 in
theorem sset_full (T M : Nat) (c : Cfg) (ver : Nat) (es : List (KO × NE)) (rs rh : Nat) (k : KO) (p : Pol) (w : World) (h : SAt w T M c ver es rs rh) (hp : polB p = true) (hf : findM es k = none) (hl : c.lo ≤ (es.length : Nat)) :
    Calls Tryz.prog 86 #[.pointer (some ⟨T, 0, none⟩), .agg #[.int .u64 k.1.1, .int .u64 k.1.2], polV p] w (SSays w T M c es rs rh (.int .i64 6) ver (ab es)) := by
  have hNN : ∀ W, Calls Tryz.prog 156 #[.agg #[.int .i64 1, .int .i64 1, .int .i64 1, .int .i64 1]] W (NewNode W nd0 1 1) := fun W => nodeNew_any cfg1 1 1 W (by decide) rfl rfl (by simp [Cfg.ok, cfg1, I64])
  have HNN := Lib.hid hNN
  have HS1 := Lib.hid (fun (N : Nat) (fp : List Nat) (W : World) (h : NodeIn W N nd0 1 1 fp) => nodeSet_any N nd0 1 1 fp p W h (by omega) (by omega) (by simp [nd0]) hp)
  have H := Lib.hid h
  have HE := Lib.hid (fun w' => SSays.of_below (w' := w') (.int .i64 6) h)
  have HRoom := Lib.hid (fun (W : World) (hb : Below w.heap.size w W) => room_full T M c ver es rs rh k W (h.below hb) hf hl)
  unfold polV
  unfold polV at HS1
  clear h hl hNN hp hf
  go_enter Tryz.func86, Tryz.ntmps86
  go_upto_region 1 with fail
  refine name_world ?_
  intro W1 hW1
  obtain ⟨k0, k1, hb1⟩ := two_boxs w _ _ W1 hW1
  clear hW1
  obtain ⟨a1, a2, a3⟩ := box_cells (Below.refl _ _) k1
  have HX0 := Lib.hid k0
  have HX1 := Lib.hid k1
  have HB1 := Lib.hid hb1
  clear k0 k1 hb1
  go_cut [7, 8] (fun s7 s8 wx => ∃ N, s7 = .pointer (some ⟨N, 0, none⟩) ∧ s8 = .int .i64 0 ∧ Below W1.heap.size W1 wx)
  case first =>
    go_region_with (first
      | (go_at_call 156
         refine calls_named ?_
         intro W2 hW2
         have hb2 : Below W1.heap.size W1 W2 := by rw [hW2]; repeat (first | exact Below.refl _ _ | refine balloc ?_ _ | refine Below.drew ?_)
         clear hW2
         refine (HNN.out W2).mono ?_
         rintro e w3 ⟨N, fp, rfl, h1, h2, h3⟩
         have hb3 := bthen hb2 h3
         obtain ⟨b1, b2, b3⟩ := box_cells hb3 HX1.out
         have h2' : ∀ k ∈ fp, W1.heap.size ≤ k := fun k hk => by have := h2 k hk; have := hb2.size; omega
         have HN := Lib.hid h1
         have HF := Lib.hid h2'
         have HB3 := Lib.hid hb3
         clear h1 h2 h3 h2' hb2 hb3)
      | (go_at_call 157
         refine calls_named ?_
         intro W4 hW4
         have hb4 : Below w3.heap.size w3 W4 := by rw [hW4]; repeat (first | exact Below.refl _ _ | refine balloc ?_ _ | refine Below.drew ?_)
         clear hW4
         refine (HS1.out N fp W4 (HN.out.below hb4)).mono ?_
         rintro e w5 ⟨N5, fp5, rfl, _, hu5⟩
         have HB5 := Lib.hid ((bthen HB3.out hb4).trans (hu5.below (B := W1.heap.size) (bthen HB3.out hb4).size (fun k hk => HF.out k hk)))
         clear hu5 hb4))
    all_goals
      go_wp2_with fail
      go_meet
      exact ⟨N5, rfl, rfl, HB5.out⟩
  case rest =>
    obtain ⟨N0, rfl, rfl, hbc⟩ := hcut
    have HBC := Lib.hid (bthen HB1.out hbc)
    have HC0 := Lib.hid ((hbc.block _ (Array.getElem?_eq_some_iff.1 HX0.out).1).trans HX0.out)
    have HC1 := Lib.hid ((hbc.block _ (Array.getElem?_eq_some_iff.1 HX1.out).1).trans HX1.out)
    clear hbc a1 a2 a3
    go_wp2_with (first
      | (go_at_call 149
         refine (smade_any T c ver es rs rh _ wc ((H.out.below HBC.out).in_)).mono ?_
         rintro e w2 ⟨rfl, hb2⟩
         obtain ⟨a1, a2, a3, a4⟩ := box_at hb2 HC0.out
         have HB2 := Lib.hid (bthen HBC.out hb2)
         clear hb2 a4)
      | (go_at_call 150
         refine (HRoom.out w2 HB2.out).mono ?_
         rintro e w3 ⟨rfl, hb3⟩
         have HB3 := Lib.hid (bthen HB2.out hb3)
         clear hb3))
    go_ret
    exact HE.out _ HB3.out

set_option maxRecDepth 100000 in
set_option maxHeartbeats 8000000 in
theorem sset_bad (T M : Nat) (c : Cfg) (ver : Nat) (es : List (KO × NE)) (rs rh : Nat) (k : KO) (p : Pol) (w : World) (h : SAt w T M c ver es rs rh) (hp : polB p = false) :
    Calls Tryz.prog 86 #[.pointer (some ⟨T, 0, none⟩), .agg #[.int .u64 k.1.1, .int .u64 k.1.2], polV p] w (SSays w T M c es rs rh (.int .i64 7) ver (ab es)) := by
  have hNN : ∀ W, Calls Tryz.prog 156 #[.agg #[.int .i64 1, .int .i64 1, .int .i64 1, .int .i64 1]] W (NewNode W nd0 1 1) := fun W => nodeNew_any cfg1 1 1 W (by decide) rfl rfl (by simp [Cfg.ok, cfg1, I64])
  have HNN := Lib.hid hNN
  have HS1 := Lib.hid (fun (N : Nat) (W : World) => nodeSet_bad N p W hp)
  have HE := Lib.hid (fun w' => SSays.of_below (w' := w') (.int .i64 7) h)
  unfold polV
  unfold polV at HS1
  clear h hNN hp
  go_enter Tryz.func86, Tryz.ntmps86
  go_upto_region 1 with fail
  refine name_world ?_
  intro W1 hW1
  obtain ⟨k0, k1, hb1⟩ := two_boxs w _ _ W1 hW1
  clear hW1
  obtain ⟨a1, a2, a3⟩ := box_cells (Below.refl _ _) k1
  have HX0 := Lib.hid k0
  have HX1 := Lib.hid k1
  have HB1 := Lib.hid hb1
  clear k0 k1 hb1
  go_cut [7, 8] (fun s7 s8 wx => ∃ N, s7 = .pointer (some ⟨N, 0, none⟩) ∧ s8 = .int .i64 7 ∧ Below W1.heap.size W1 wx)
  case first =>
    go_region_with (first
      | (go_at_call 156
         refine calls_named ?_
         intro W2 hW2
         have hb2 : Below W1.heap.size W1 W2 := by rw [hW2]; repeat (first | exact Below.refl _ _ | refine balloc ?_ _ | refine Below.drew ?_)
         clear hW2
         refine (HNN.out W2).mono ?_
         rintro e w3 ⟨N, fp, rfl, h1, h2, h3⟩
         have hb3 := bthen hb2 h3
         obtain ⟨b1, b2, b3⟩ := box_cells hb3 HX1.out
         have h2' : ∀ k ∈ fp, W1.heap.size ≤ k := fun k hk => by have := h2 k hk; have := hb2.size; omega
         have HN := Lib.hid h1
         have HF := Lib.hid h2'
         have HB3 := Lib.hid hb3
         clear h1 h2 h3 h2' hb2 hb3)
      | (go_at_call 157
         refine calls_named ?_
         intro W4 hW4
         have hb4 : Below w3.heap.size w3 W4 := by rw [hW4]; repeat (first | exact Below.refl _ _ | refine balloc ?_ _ | refine Below.drew ?_)
         clear hW4
         refine (HS1.out N W4).mono ?_
         rintro e w5 ⟨rfl, hu5⟩
         have HB5 := Lib.hid (bthen (bthen HB3.out hb4) hu5)
         clear hu5 hb4))
    all_goals
      go_wp2_with fail
      go_meet
      exact ⟨N, rfl, rfl, HB5.out⟩
  case rest =>
    obtain ⟨N0, rfl, rfl, hbc⟩ := hcut
    have HBC := Lib.hid (bthen HB1.out hbc)
    have HC0 := Lib.hid ((hbc.block _ (Array.getElem?_eq_some_iff.1 HX0.out).1).trans HX0.out)
    have HC1 := Lib.hid ((hbc.block _ (Array.getElem?_eq_some_iff.1 HX1.out).1).trans HX1.out)
    clear hbc a1 a2 a3
    go_wp2
    go_ret
    exact HE.out _ HBC.out
end

section
set_option linter.unusedSimpArgs false
set_option linter.unusedVariables false
open Go.RowKit Go.Lib

/-- An entry: a key, a node's block. -/
abbrev En := Ky × Nat
def enC (x : En) : List Value := [.int .u64 x.1.1, .int .u64 x.1.2, .pointer (some ⟨x.2, 0, none⟩)]
theorem eEn : EltOf 164 246 3 24 (.agg #[.int .u64 0, .int .u64 0, .pointer none]) enC :=
  ⟨by kernel_rfl, by kernel_rfl, rfl, by decide, by decide, fun _ => rfl, fun x u hu => by
    simp only [enC, List.mem_cons, List.not_mem_nil, or_false] at hu
    rcases hu with rfl | rfl | rfl <;> rfl⟩
end

end Go.Proofs.YtmniiodpbebnmaaGreat
