/- flat's Plan and Note at once; a nil map; chapter 22's awake; The walk of FlatNone; Calls as they come in. -/
import Derived.Test.YtmniiodpbebnmaaGreatC35
import Derived.KernelRfl
import Derived.Test.YtmniiodpbebnmaaGreatC07
import Derived.Test.YtmniiodpbebnmaaGreatC01
import Derived.Deep.Slices
import Derived.Lib.SmallJoins
namespace Go.Proofs.YtmniiodpbebnmaaGreat

section
set_option linter.unusedSimpArgs false
set_option linter.unusedVariables false
open Go.RowKit Go.Lib

theorem flPlan_any {P : Nat → Prop} {w : World} {M : Nat} {c : Cfg} {rs rh n : Nat} {wd : Wd} {d : FlatD} (s : SK) (h : FW P w M c rs rh n wd d) (hc : CfgOk c rs rh) :
    Calls Tryz.prog 23 #[.pointer (some ⟨M, 0, none⟩), .string s.1] w fun e w' => e = .returned (.tuple #[.agg (advC (planF (findM d.es s)).1).toArray, .int .i64 (planF (findM d.es s)).2]) ∧ Below w.heap.size w w' := by
  have CL := Lib.hid (fun W (hW : Below w.heap.size w W) => flLoad_any s W (h.at_.below hW) (h.small hc))
  cases hf : findM d.es s with
  | none =>
    rw [hf] at CL
    exact flPlan_no _ _ none w (.inl rfl) CL
  | some x =>
    rw [hf] at CL
    unfold planF
    dsimp only
    cases hr : x.nd.ruled with
    | false =>
      rw [if_neg (by simp)]
      exact flPlan_no _ _ (some x) w (.inr ⟨x, rfl, hr⟩) CL
    | true =>
      rw [if_pos rfl]
      have h1 := h.at_.tells.it h.ok _ (find_mem hf)
      have h2 := h.small hc _ (find_mem hf)
      exact flPlan_yes _ _ x w hr h2.1 h2.2 h1.2.1 h1.2.2.2 CL
theorem flNote_any {P : Nat → Prop} {w : World} {M : Nat} {c : Cfg} {rs rh n : Nat} {wd : Wd} {d : FlatD} (s : SK) (av : Adv) (h : FW P w M c rs rh n wd d) (hP : ∀ b, w.heap.size ≤ b → P b) (hc : CfgOk c rs rh) (hs : idS s.1 = true) :
    Calls Tryz.prog 24 #[.pointer (some ⟨M, 0, none⟩), .string s.1, .agg (advC av).toArray] w (FWSays P w M c rs rh (n + 1) d.L (.bool (noteW c rs rh wd s.1 av).2) (noteW c rs rh wd s.1 av).1) := by
  cases hf : findM d.es s with
  | none =>
    have CL := Lib.hid (fun W (hW : Below w.heap.size w W) => flLoad_any s W (h.at_.below hW) (h.small hc))
    rw [hf] at CL
    rw [h.at_.tells.note_no s hs av hf]
    refine (flNote_none _ _ av w CL).mono ?_
    rintro e w' ⟨rfl, hb⟩
    exact h.same (Nat.le_succ _) hb
  | some x =>
    rw [(h.at_.tells.note (rs := rs) hc.st s hs av x hf ⟨x.key, x.sA, x.sc, x.pA, x.pc, noteF rh x.nd av⟩ rfl).1]
    exact flNote_some s av x h hP hc hs hf
/-- Of what is no id nothing is there. -/
theorem FlTells.none {c : Cfg} {es : List (SK × It)} {wd : Wd} (h : FlTells c es wd) (s : SK) (hs : idS s.1 = false) : findM es s = none := by
  refine findM_none ?_
  cases hh : hasM es s with
  | false => rfl
  | true =>
    obtain ⟨p, hp, rfl⟩ := List.mem_map.1 ((hasM_iff es s).1 hh)
    rw [h.has.1 p hp] at hs
    cases hs
theorem fw_new (c : Cfg) (rs rh k : Nat) (w : World) (hc : CfgOk c rs rh) (hk : (k : Int) = c.st) :
    Calls Tryz.prog 12 #[cfgV c] w fun e w' => ∃ M d, e = .returned (.pointer (some ⟨M, 0, none⟩)) ∧ FW (fun b => b ≠ M ∧ b ≠ d.L) w' M c rs rh 0 (newW k) d ∧ w.heap.size ≤ M ∧ w.heap.size ≤ d.L ∧ Below w.heap.size w w' := by
  refine (flNew_ok c rs rh k w hc.ok (by unfold cfgE; rw [if_pos hc.cfg]) hk).mono ?_
  rintro e w' ⟨M, d, rfl, h, h1, h2, h3⟩
  exact ⟨M, d, rfl, ⟨h, newW_ok c rs rh k hk⟩, h1, h2, h3⟩

/-! ### A nil map -/
theorem loadS_nil (id : ByteArray) (w : World) : Hid (∀ W, Below w.heap.size w W → Calls Tryz.prog 22 #[.pointer none, .string id] W (LoadS W none)) := Lib.hid (fun W hW => by
  refine (flLoad_nil id W).mono ?_
  rintro e w' ⟨rfl, hb⟩
  exact ⟨it00, rfl, rfl, ⟨OwnL.nil _ _, OwnL.nil _ _⟩, hb⟩)
set_option maxRecDepth 100000 in
set_option maxHeartbeats 4000000 in
theorem flTwin_nil (w : World) : Calls Tryz.prog 20 #[.pointer none] w fun e w' => e = .returned (.pointer none) ∧ w' = w := by
  go_enter Tryz.func20, Tryz.ntmps20
  go_wp2_with (go_at_call 57; refine (flMade_nil _).mono ?_; rintro e w3 ⟨rfl, rfl⟩)
  go_ret
  exact ⟨rfl, rfl⟩
set_option maxRecDepth 100000 in
set_option maxHeartbeats 4000000 in
theorem flIds_nil (w : World) : Calls Tryz.prog 25 #[.pointer none] w fun e w' => e = .returned (.slice none 0 0) ∧ w' = w := by
  go_enter Tryz.func25, Tryz.ntmps25
  go_wp2_with (go_at_call 57; refine (flMade_nil _).mono ?_; rintro e w3 ⟨rfl, rfl⟩)
  go_ret
  exact ⟨rfl, rfl⟩

/-! ### awake -/
def cB22 : Cfg := ⟨1, 4, 4, 2⟩
theorem cB22_ok : CfgOk cB22 4 2 := ⟨by decide, rfl, rfl, by unfold Cfg.ok I64 cB22; decide⟩
def idB : ByteArray := { data := #[97] }
def advB : Adv := ⟨1, 250, 3, 3, 2⟩
theorem i64_sm {n : Int} (h : 0 ≤ n ∧ n ≤ 1000) : I64 n := by unfold I64; omega
def xB1 : CallD := ⟨6, idB, 0, 0, 0, ⟨1, 10, 100, 100, 5, 3⟩⟩
theorem xB1_ok : xB1.ok := ⟨i64_sm (by decide), by decide, i64_sm (by decide), i64_sm (by decide), i64_sm (by decide), ⟨i64_sm (by decide), i64_sm (by decide), i64_sm (by decide), i64_sm (by decide), i64_sm (by decide), i64_sm (by decide)⟩⟩
def xB2 : CallD := ⟨1, idB, 1, 250, 0, ⟨0, 0, 0, 0, 0, 0⟩⟩
theorem xB2_ok : xB2.ok := ⟨i64_sm (by decide), by decide, i64_sm (by decide), i64_sm (by decide), i64_sm (by decide), ⟨i64_sm (by decide), i64_sm (by decide), i64_sm (by decide), i64_sm (by decide), i64_sm (by decide), i64_sm (by decide)⟩⟩
def xB3 : CallD := ⟨7, idB, 0, 0, 0, ⟨0, 0, 0, 0, 0, 0⟩⟩
theorem xB3_ok : xB3.ok := ⟨i64_sm (by decide), by decide, i64_sm (by decide), i64_sm (by decide), i64_sm (by decide), ⟨i64_sm (by decide), i64_sm (by decide), i64_sm (by decide), i64_sm (by decide), i64_sm (by decide), i64_sm (by decide)⟩⟩
def xB4 : CallD := ⟨7, idB, 0, 0, 0, ⟨0, 0, 0, 0, 0, 0⟩⟩
theorem xB4_ok : xB4.ok := ⟨i64_sm (by decide), by decide, i64_sm (by decide), i64_sm (by decide), i64_sm (by decide), ⟨i64_sm (by decide), i64_sm (by decide), i64_sm (by decide), i64_sm (by decide), i64_sm (by decide), i64_sm (by decide)⟩⟩
def wB1 : Wd := (doW cB22 4 2 (newW 1) xB1).1
def wB2 : Wd := (doW cB22 4 2 wB1 xB2).1
def wB3 : Wd := (doW cB22 4 2 wB2 xB3).1
def wB4 : Wd := (noteW cB22 4 2 wB3 idB advB).1
def wB5 : Wd := (doW cB22 4 2 wB4 xB4).1
set_option maxRecDepth 100000 in
theorem rB1 : repV (doW cB22 4 2 (newW 1) xB1).2 = .agg #[.int .i64 0, .int .i64 0, .int .i64 0, .int .i64 0, .int .i64 0, .int .i64 0, .int .i64 0, .int .i64 0, .int .i64 0, .int .i64 0, .int .i64 0, .int .i64 0, .int .i64 0] := by kernel_rfl
theorem dB1 {P : Nat → Prop} {w : World} {M : Nat} {d : FlatD} (h : FW P w M cB22 4 2 0 (newW 1) d) (hP : ∀ b, w.heap.size ≤ b → P b) :
    Calls Tryz.prog 17 #[.pointer (some ⟨M, 0, none⟩), .agg #[.int .i64 6, .string { data := #[97] }, .int .i64 0, .int .i64 0, .int .i64 0, .int .i64 1, .int .i64 10, .int .i64 100, .int .i64 100, .int .i64 5, .int .i64 3]] w (FWSays P w M cB22 4 2 1 d.L (.agg #[.int .i64 0, .int .i64 0, .int .i64 0, .int .i64 0, .int .i64 0, .int .i64 0, .int .i64 0, .int .i64 0, .int .i64 0, .int .i64 0, .int .i64 0, .int .i64 0, .int .i64 0]) wB1) := by
  have := flDo_any xB1 h hP cB22_ok (by decide) xB1_ok
  rw [rB1] at this
  exact this
set_option maxRecDepth 100000 in
theorem rB2 : repV (doW cB22 4 2 wB1 xB2).2 = .agg #[.int .i64 0, .int .i64 0, .int .i64 0, .int .i64 0, .int .i64 0, .int .i64 0, .int .i64 0, .int .i64 0, .int .i64 0, .int .i64 0, .int .i64 0, .int .i64 0, .int .i64 0] := by kernel_rfl
theorem dB2 {P : Nat → Prop} {w : World} {M : Nat} {d : FlatD} (h : FW P w M cB22 4 2 1 wB1 d) (hP : ∀ b, w.heap.size ≤ b → P b) :
    Calls Tryz.prog 17 #[.pointer (some ⟨M, 0, none⟩), .agg #[.int .i64 1, .string { data := #[97] }, .int .i64 1, .int .i64 250, .int .i64 0, .int .i64 0, .int .i64 0, .int .i64 0, .int .i64 0, .int .i64 0, .int .i64 0]] w (FWSays P w M cB22 4 2 2 d.L (.agg #[.int .i64 0, .int .i64 0, .int .i64 0, .int .i64 0, .int .i64 0, .int .i64 0, .int .i64 0, .int .i64 0, .int .i64 0, .int .i64 0, .int .i64 0, .int .i64 0, .int .i64 0]) wB2) := by
  have := flDo_any xB2 h hP cB22_ok (by decide) xB2_ok
  rw [rB2] at this
  exact this
set_option maxRecDepth 100000 in
theorem rB3 : repV (doW cB22 4 2 wB2 xB3).2 = .agg #[.int .i64 0, .int .i64 0, .int .i64 0, .int .i64 0, .int .i64 0, .int .i64 0, .int .i64 0, .int .i64 0, .int .i64 0, .int .i64 0, .int .i64 0, .int .i64 0, .int .i64 0] := by kernel_rfl
theorem dB3 {P : Nat → Prop} {w : World} {M : Nat} {d : FlatD} (h : FW P w M cB22 4 2 2 wB2 d) (hP : ∀ b, w.heap.size ≤ b → P b) :
    Calls Tryz.prog 17 #[.pointer (some ⟨M, 0, none⟩), .agg #[.int .i64 7, .string { data := #[97] }, .int .i64 0, .int .i64 0, .int .i64 0, .int .i64 0, .int .i64 0, .int .i64 0, .int .i64 0, .int .i64 0, .int .i64 0]] w (FWSays P w M cB22 4 2 3 d.L (.agg #[.int .i64 0, .int .i64 0, .int .i64 0, .int .i64 0, .int .i64 0, .int .i64 0, .int .i64 0, .int .i64 0, .int .i64 0, .int .i64 0, .int .i64 0, .int .i64 0, .int .i64 0]) wB3) := by
  have := flDo_any xB3 h hP cB22_ok (by decide) xB3_ok
  rw [rB3] at this
  exact this
set_option maxRecDepth 100000 in
theorem rB4 : repV (doW cB22 4 2 wB4 xB4).2 = .agg #[.int .i64 0, .int .i64 0, .int .i64 0, .int .i64 0, .int .i64 0, .int .i64 0, .int .i64 0, .int .i64 0, .int .i64 1, .int .i64 250, .int .i64 3, .int .i64 3, .int .i64 2] := by kernel_rfl
theorem dB4 {P : Nat → Prop} {w : World} {M : Nat} {d : FlatD} (h : FW P w M cB22 4 2 4 wB4 d) (hP : ∀ b, w.heap.size ≤ b → P b) :
    Calls Tryz.prog 17 #[.pointer (some ⟨M, 0, none⟩), .agg #[.int .i64 7, .string { data := #[97] }, .int .i64 0, .int .i64 0, .int .i64 0, .int .i64 0, .int .i64 0, .int .i64 0, .int .i64 0, .int .i64 0, .int .i64 0]] w (FWSays P w M cB22 4 2 5 d.L (.agg #[.int .i64 0, .int .i64 0, .int .i64 0, .int .i64 0, .int .i64 0, .int .i64 0, .int .i64 0, .int .i64 0, .int .i64 1, .int .i64 250, .int .i64 3, .int .i64 3, .int .i64 2]) wB5) := by
  have := flDo_any xB4 h hP cB22_ok (by decide) xB4_ok
  rw [rB4] at this
  exact this
set_option maxRecDepth 100000 in
theorem pB : planW wB2 idB = (advB, 0) := by kernel_rfl
set_option maxRecDepth 100000 in
theorem nB : (noteW cB22 4 2 wB3 idB advB).2 = true := by kernel_rfl
theorem planB {P : Nat → Prop} {w : World} {M : Nat} {d : FlatD} (h : FW P w M cB22 4 2 2 wB2 d) :
    Calls Tryz.prog 23 #[.pointer (some ⟨M, 0, none⟩), .string { data := #[97] }] w fun e w' => e = .returned (.tuple #[.agg #[.int .i64 1, .int .i64 250, .int .i64 3, .int .i64 3, .int .i64 2], .int .i64 0]) ∧ Below w.heap.size w w' := by
  have h1 := flPlan_any ⟨idB, by decide⟩ h cB22_ok
  rw [planF_law h.at_.tells ⟨idB, by decide⟩ (by kernel_rfl), pB] at h1
  exact h1
theorem noteB {P : Nat → Prop} {w : World} {M : Nat} {d : FlatD} (h : FW P w M cB22 4 2 3 wB3 d) (hP : ∀ b, w.heap.size ≤ b → P b) :
    Calls Tryz.prog 24 #[.pointer (some ⟨M, 0, none⟩), .string { data := #[97] }, .agg #[.int .i64 1, .int .i64 250, .int .i64 3, .int .i64 3, .int .i64 2]] w (FWSays P w M cB22 4 2 4 d.L (.bool true) wB4) := by
  have h1 := flNote_any ⟨idB, by decide⟩ advB h hP cB22_ok (by kernel_rfl)
  rw [nB] at h1
  exact h1
set_option maxRecDepth 100000 in
set_option maxHeartbeats 4000000 in
theorem usual22 (w : World) : Calls Tryz.prog 45 #[] w fun e w' => e = .returned (.agg #[.int .i64 1, .int .i64 10, .int .i64 100, .int .i64 100, .int .i64 5, .int .i64 3]) ∧ Below w.heap.size w w' := by
  go_enter Tryz.func45, Tryz.ntmps45
  go_wp2_with fail
  refine post_named ?_
  intro W9 hW9
  have hx9 : W9.heap[w.heap.size]? = some (.cells #[.int .i64 1, .int .i64 10, .int .i64 100, .int .i64 100, .int .i64 5, .int .i64 3] 35 (0, 0)) := by rw [hW9]; exact heap_alloc_new _ _
  have hb9 : Below w.heap.size w W9 := by rw [hW9]; exact balloc (Below.refl _ _) _
  obtain ⟨a9, a8, a7⟩ := box_cells (Below.refl _ _) hx9
  clear hW9
  exact bodyPost_ret (v := .agg #[.int .i64 1, .int .i64 10, .int .i64 100, .int .i64 100, .int .i64 5, .int .i64 3]) (by simp [results, Tryz.results45, go_sem, a9]) rfl ⟨rfl, hb9⟩

set_option maxRecDepth 100000 in
set_option maxHeartbeats 4000000 in
theorem awake22_any (w : World) : Calls Tryz.prog 11 #[] w fun e w' => e = .returned (.bool true) ∧ Below w.heap.size w w' := by
  have CN := Lib.hid (show Calls Tryz.prog 12 #[.agg #[.int .i64 1, .int .i64 4, .int .i64 4, .int .i64 2]] w fun e w' => ∃ M d, e = .returned (.pointer (some ⟨M, 0, none⟩)) ∧ FW (fun b => b ≠ M ∧ b ≠ d.L) w' M cB22 4 2 0 (newW 1) d ∧ w.heap.size ≤ M ∧ w.heap.size ≤ d.L ∧ Below w.heap.size w w' from fw_new cB22 4 2 1 w cB22_ok rfl)
  go_enter Tryz.func11, Tryz.ntmps11
  go_wp2_with (first
    | (go_at_call 12
       refine CN.out.mono ?_
       rintro e w0 ⟨M, d0, rfl, hd, h1, h2, hb⟩
       obtain ⟨z, hz⟩ : ∃ z, z = w0.heap.size := ⟨_, rfl⟩
       have HZ := Lib.hid hz
       have hMlt : M < z ∧ d0.L < z := by rw [hz]; exact ⟨hd.at_.lt, hd.at_.map.lt⟩
       obtain ⟨L, hLL⟩ : ∃ L, L = d0.L := ⟨_, rfl⟩
       rw [← hLL] at hd h2 hMlt
       have HD0 := Lib.hid hd
       have HB0 := Lib.hid hb
       have HL0 := Lib.hid hLL.symm
       have HS0 := Lib.hid (show z ≤ w0.heap.size from Nat.le_of_eq hz)
       have HM := Lib.hid hMlt
       have HMB := Lib.hid (And.intro h1 h2)
       have HU0 := Lib.hid (Upd.refl w0 [M, L])
       clear hd h1 h2 hb hLL hMlt hz)
    | (go_at_call 45
       refine (usual22 _).mono ?_
       rintro e u1 ⟨rfl, hbu⟩
       have HBU := Lib.hid hbu
       clear hbu)
    | (go_at_call 17
       refine calls_named ?_
       intro V6 hV
       have hb : Below w5.heap.size w5 V6 := by rw [hV]; repeat (first | exact Below.refl _ _ | refine balloc ?_ _)
       clear hV
       with_reducible refine (dB4 (HD5.out.below hb) (fun b hb9 => ⟨by have := HM.out.1; have := HS5.out; have := hb.size; omega, by have := HM.out.2; have := HS5.out; have := hb.size; omega⟩)).mono ?_
       rintro e w6 ⟨d6, rfl, hd, hL, hu⟩
       have HD6 := Lib.hid hd
       have HL6 := Lib.hid (hL.trans HL5.out)
       have HS6 := Lib.hid (Nat.le_trans HS5.out (Nat.le_trans hb.size hu.size))
       have HU6 := Lib.hid (HU5.out.trans ((Upd.of_below hb _).trans (by rw [HL5.out] at hu; exact hu)))
       have HXa_6 := Lib.hid ((hu.block _ (Nat.lt_of_lt_of_le (Array.getElem?_eq_some_iff.1 HXa_5.out).1 hb.size) (by rw [HL5.out]; have h1 := HM.out.1; have h2 := HM.out.2; have h3 := HQa.out; simp only [List.mem_cons, List.not_mem_nil, or_false]; omega)).trans ((hb.block _ (Array.getElem?_eq_some_iff.1 HXa_5.out).1).trans HXa_5.out))
       have HXb_6 := Lib.hid ((hu.block _ (Nat.lt_of_lt_of_le (Array.getElem?_eq_some_iff.1 HXb_5.out).1 hb.size) (by rw [HL5.out]; have h1 := HM.out.1; have h2 := HM.out.2; have h3 := HQb.out; simp only [List.mem_cons, List.not_mem_nil, or_false]; omega)).trans ((hb.block _ (Array.getElem?_eq_some_iff.1 HXb_5.out).1).trans HXb_5.out))
       obtain ⟨q1, q2, q3⟩ := box_cells (Below.refl _ _) HXa_6.out
       obtain ⟨r1, r2, r3⟩ := box_cells (Below.refl _ _) HXb_6.out
       clear hd hL hu hb)
    | (go_at_call 24
       refine calls_named ?_
       intro V5 hV
       have hb : Below w4.heap.size w4 V5 := by rw [hV]; repeat (first | exact Below.refl _ _ | refine balloc ?_ _)
       have hn : V5.heap[w4.heap.size]? = some (.cells #[.int .i64 0, .int .i64 0, .int .i64 0, .int .i64 0, .int .i64 0, .int .i64 0, .int .i64 0, .int .i64 0, .int .i64 0, .int .i64 0, .int .i64 0, .int .i64 0, .int .i64 0] 46 (0, 0)) := by rw [hV]; exact heap_alloc_new _ _
       clear hV
       with_reducible refine (noteB (HD4.out.below hb) (fun b hb9 => ⟨by have := HM.out.1; have := HS4.out; have := hb.size; omega, by have := HM.out.2; have := HS4.out; have := hb.size; omega⟩)).mono ?_
       rintro e w5 ⟨d5, rfl, hd, hL, hu⟩
       have HD5 := Lib.hid hd
       have HL5 := Lib.hid (hL.trans HL4.out)
       have HS5 := Lib.hid (Nat.le_trans HS4.out (Nat.le_trans hb.size hu.size))
       have HU5 := Lib.hid (HU4.out.trans ((Upd.of_below hb _).trans (by rw [HL4.out] at hu; exact hu)))
       have HXa_5 := Lib.hid ((hu.block _ (Nat.lt_of_lt_of_le (Array.getElem?_eq_some_iff.1 HXa_4.out).1 hb.size) (by rw [HL4.out]; have h1 := HM.out.1; have h2 := HM.out.2; have h3 := HQa.out; simp only [List.mem_cons, List.not_mem_nil, or_false]; omega)).trans ((hb.block _ (Array.getElem?_eq_some_iff.1 HXa_4.out).1).trans HXa_4.out))
       have HQb := Lib.hid (show z ≤ w4.heap.size from HS4.out)
       have HXb_5 := Lib.hid ((hu.block _ (Array.getElem?_eq_some_iff.1 hn).1 (by rw [HL4.out]; have h1 := HM.out.1; have h2 := HM.out.2; have h3 := HS4.out; simp only [List.mem_cons, List.not_mem_nil, or_false]; omega)).trans hn)
       clear hd hL hu hb hn)
    | (go_at_call 17
       refine calls_named ?_
       intro V4 hV
       have hb : Below w3.heap.size w3 V4 := by rw [hV]; repeat (first | exact Below.refl _ _ | refine balloc ?_ _)
       have hn : V4.heap[w3.heap.size]? = some (.cells #[.int .i64 1, .int .i64 250, .int .i64 3, .int .i64 3, .int .i64 2] 44 (0, 0)) := by rw [hV]; exact heap_alloc_new _ _
       clear hV
       with_reducible refine (dB3 (HD3.out.below hb) (fun b hb9 => ⟨by have := HM.out.1; have := HS3.out; have := hb.size; omega, by have := HM.out.2; have := HS3.out; have := hb.size; omega⟩)).mono ?_
       rintro e w4 ⟨d4, rfl, hd, hL, hu⟩
       have HD4 := Lib.hid hd
       have HL4 := Lib.hid (hL.trans HL3.out)
       have HS4 := Lib.hid (Nat.le_trans HS3.out (Nat.le_trans hb.size hu.size))
       have HU4 := Lib.hid (HU3.out.trans ((Upd.of_below hb _).trans (by rw [HL3.out] at hu; exact hu)))
       have HQa := Lib.hid (show z ≤ w3.heap.size from HS3.out)
       have HXa_4 := Lib.hid ((hu.block _ (Array.getElem?_eq_some_iff.1 hn).1 (by rw [HL3.out]; have h1 := HM.out.1; have h2 := HM.out.2; have h3 := HS3.out; simp only [List.mem_cons, List.not_mem_nil, or_false]; omega)).trans hn)
       obtain ⟨p1, p2, p3⟩ := box_cells (Below.refl _ _) HXa_4.out
       clear hd hL hu hb hn)
    | (go_at_call 23
       refine (planB HD2.out).mono ?_
       rintro e w3 ⟨rfl, hb⟩
       have HD3 := Lib.hid (HD2.out.below hb)
       obtain ⟨d3, hd3⟩ : ∃ d, d = d2 := ⟨_, rfl⟩
       rw [← hd3] at HD3
       have HL3 := Lib.hid (show d3.L = L by rw [hd3]; exact HL2.out)
       have HS3 := Lib.hid (Nat.le_trans HS2.out hb.size)
       have HU3 := Lib.hid (HU2.out.trans (Upd.of_below hb _))
       clear hb hd3)
    | (go_at_call 17
       refine calls_named ?_
       intro V2 hV
       have hb : Below w1.heap.size w1 V2 := by rw [hV]; repeat (first | exact Below.refl _ _ | refine balloc ?_ _)
       clear hV
       with_reducible refine (dB2 (HD1.out.below hb) (fun b hb9 => ⟨by have := HM.out.1; have := HS1.out; have := hb.size; omega, by have := HM.out.2; have := HS1.out; have := hb.size; omega⟩)).mono ?_
       rintro e w2 ⟨d2, rfl, hd, hL, hu⟩
       have HD2 := Lib.hid hd
       have HL2 := Lib.hid (hL.trans HL1.out)
       have HS2 := Lib.hid (Nat.le_trans HS1.out (Nat.le_trans hb.size hu.size))
       have HU2 := Lib.hid (HU1.out.trans ((Upd.of_below hb _).trans (by rw [HL1.out] at hu; exact hu)))
       clear hd hL hu hb)
    | (go_at_call 17
       refine calls_named ?_
       intro V1 hV
       have hb : Below w0.heap.size w0 V1 := by rw [hV]; exact HBU.out
       clear hV
       with_reducible refine (dB1 (HD0.out.below hb) (fun b hb9 => ⟨by have := HM.out.1; have := HS0.out; have := hb.size; omega, by have := HM.out.2; have := HS0.out; have := hb.size; omega⟩)).mono ?_
       rintro e w1 ⟨d1, rfl, hd, hL, hu⟩
       have HD1 := Lib.hid hd
       have HL1 := Lib.hid (hL.trans HL0.out)
       have HS1 := Lib.hid (Nat.le_trans HS0.out (Nat.le_trans hb.size hu.size))
       have HU1 := Lib.hid (HU0.out.trans ((Upd.of_below hb _).trans (by rw [HL0.out] at hu; exact hu)))
       clear hd hL hu hb))
  go_ret
  refine ⟨rfl, balloc (HB0.out.trans (HU6.out.below (HZ.out ▸ HB0.out.size) (fun k hk => ?_))) _⟩
  have h1 := HMB.out.1
  have h2 := HMB.out.2
  simp only [List.mem_cons, List.not_mem_nil, or_false] at hk
  rcases hk with rfl | rfl
  · exact h1
  · exact h2
end

section
set_option linter.unusedSimpArgs false
set_option linter.unusedVariables false
open Go.RowKit Go.Lib

theorem keep1 {w W w2 : World} {a : Nat} {o1 : Obj} (hb : Below W.heap.size W w2) (h : Hid (Below w.heap.size w W)) (h1 : Hid (W.heap[a]? = some o1)) : Hid (Below w.heap.size w w2) ∧ Hid (w2.heap[a]? = some o1) :=
  ⟨Lib.hid (bthen h.out hb), Lib.hid ((hb.block _ (Array.getElem?_eq_some_iff.1 h1.out).1).trans h1.out)⟩

set_option maxRecDepth 100000 in
set_option maxHeartbeats 4000000 in
theorem flNone_lo (kind : Int) (id : ByteArray) (tick val handle : Int) (p : Pol) (w : World) (hm : id.size ≤ maxLen) (hk : kind < 1) :
    Calls Tryz.prog 5 #[callV ⟨kind, id, tick, val, handle, p⟩] w fun e w' => e = .returned (.bool true) ∧ Below w.heap.size w w' := by
  have CD := Lib.hid (fun W => flDo_kind none kind id tick val handle p W (.inl hk))
  have CN := Lib.hid (fun W => flNew_bad ⟨0, 0, 0, 0⟩ W (by unfold Cfg.ok I64; decide) (by decide))
  have CI := Lib.hid (fun W => id_any id W hm)
  have CL := Lib.hid (fun W => flLoad_nil id W)
  have CP := Lib.hid (fun W => flPlan_no none id none W (.inl rfl) (loadS_nil id W))
  have CT := Lib.hid (fun W => flNote_none none id adv0 W (loadS_nil id W))
  have z9 : ¬ 8 < kind := by omega
  obtain ⟨p0, p1, p2, p3, p4, p5⟩ := p
  unfold callV at CD ⊢
  unfold repV repC repF st0 adv0 at CD
  unfold cfgV at CN
  unfold advC adv0 at CP CT
  unfold ldV ldC it00 nd0 pol0 at CL
  dsimp only at CD CN CP CT CL ⊢
  clear hm
  go_enter Tryz.func5, Tryz.ntmps5
  go_upto_region 1 with fail
  refine name_world ?_
  intro w1 hW1
  have HB1 := Lib.hid (show Below w.heap.size w w1 by rw [hW1]; exact balloc (Below.refl _ _) _)
  have HX1 := Lib.hid (show w1.heap[w.heap.size]? = some (.cells #[.int .i64 kind, .string id, .int .i64 tick, .int .i64 val, .int .i64 handle, .int .i64 p0, .int .i64 p1, .int .i64 p2, .int .i64 p3, .int .i64 p4, .int .i64 p5] 37 (0, 0)) by rw [hW1]; exact heap_alloc_new _ _)
  clear hW1
  go_wp2_with (first
    | (go_at_call 24
       refine calls_named ?_
       intro V8 hV
       have hd : Below w7.heap.size w7 V8 := by rw [hV]; repeat (first | exact Below.refl _ _ | refine balloc ?_ _)
       clear hV
       refine (CT.out V8).mono ?_
       rintro e w8 ⟨rfl, hb⟩
       obtain ⟨HB8, HX8⟩ := keep1 (bthen hd hb) HB7 HX7
       obtain ⟨b1, b2, b3⟩ := box_cells (Below.refl _ _) HX8.out
       clear hd hb)
    | (go_at_call 17
       refine calls_named ?_
       intro V7 hV
       have hd : Below w6.heap.size w6 V7 := by rw [hV]; repeat (first | exact Below.refl _ _ | refine balloc ?_ _)
       clear hV
       refine (CD.out V7).mono ?_
       rintro e w7 ⟨rfl, hb⟩
       obtain ⟨HB7, HX7⟩ := keep1 (bthen hd hb) HB6 HX6
       obtain ⟨b1, b2, b3⟩ := box_cells (Below.refl _ _) HX7.out
       clear hd hb)
    | (go_at_call 23
       refine calls_named ?_
       intro V6 hV
       have hd : Below w5.heap.size w5 V6 := by rw [hV]; repeat (first | exact Below.refl _ _ | refine balloc ?_ _)
       clear hV
       refine (CP.out V6).mono ?_
       rintro e w6 ⟨rfl, hb⟩
       obtain ⟨HB6, HX6⟩ := keep1 (bthen hd hb) HB5 HX5
       obtain ⟨b1, b2, b3⟩ := box_cells (Below.refl _ _) HX6.out
       clear hd hb)
    | (go_at_call 22
       refine calls_named ?_
       intro V5 hV
       have hd : Below w3.heap.size w3 V5 := by rw [hV]; repeat (first | exact Below.refl _ _ | refine balloc ?_ _)
       clear hV
       refine (CL.out V5).mono ?_
       rintro e w5 ⟨rfl, hb⟩
       obtain ⟨HB5, HX5⟩ := keep1 (bthen hd hb) HB3 HX3
       obtain ⟨b1, b2, b3⟩ := box_cells (Below.refl _ _) HX5.out
       clear hd hb)
    | (go_at_call 12
       refine calls_named ?_
       intro V3 hV
       have hd : Below w2.heap.size w2 V3 := by rw [hV]; repeat (first | exact Below.refl _ _ | refine balloc ?_ _)
       clear hV
       refine (CN.out V3).mono ?_
       rintro e w3 ⟨rfl, hb⟩
       obtain ⟨HB3, HX3⟩ := keep1 (bthen hd hb) HB2 HX2
       obtain ⟨b1, b2, b3⟩ := box_cells (Below.refl _ _) HX3.out
       clear hd hb)
    | (go_at_call 11
       refine calls_named ?_
       intro V2 hV
       have hd : Below w1.heap.size w1 V2 := by rw [hV]; repeat (first | exact Below.refl _ _ | refine balloc ?_ _)
       clear hV
       refine (awake22_any V2).mono ?_
       rintro e w2 ⟨rfl, hb⟩
       obtain ⟨HB2, HX2⟩ := keep1 (bthen hd hb) HB1 HX1
       obtain ⟨b1, b2, b3⟩ := box_cells (Below.refl _ _) HX2.out
       clear hd hb)
    | (go_at_call 20
       refine (flTwin_nil _).mono ?_
       rintro e u9 ⟨rfl, rfl⟩)
    | (go_at_call 25
       refine (flIds_nil _).mono ?_
       rintro e u9 ⟨rfl, rfl⟩))
  go_ret
  exact ⟨rfl, HB8.out⟩

set_option maxRecDepth 100000 in
set_option maxHeartbeats 4000000 in
theorem flNone_hi (kind : Int) (id : ByteArray) (tick val handle : Int) (p : Pol) (w : World) (hm : id.size ≤ maxLen) (hk : 8 < kind) :
    Calls Tryz.prog 5 #[callV ⟨kind, id, tick, val, handle, p⟩] w fun e w' => e = .returned (.bool true) ∧ Below w.heap.size w w' := by
  have CD := Lib.hid (fun W => flDo_kind none kind id tick val handle p W (.inr hk))
  have CN := Lib.hid (fun W => flNew_bad ⟨0, 0, 0, 0⟩ W (by unfold Cfg.ok I64; decide) (by decide))
  have CI := Lib.hid (fun W => id_any id W hm)
  have CL := Lib.hid (fun W => flLoad_nil id W)
  have CP := Lib.hid (fun W => flPlan_no none id none W (.inl rfl) (loadS_nil id W))
  have CT := Lib.hid (fun W => flNote_none none id adv0 W (loadS_nil id W))
  have z9 : ¬ kind < 1 := by omega
  obtain ⟨p0, p1, p2, p3, p4, p5⟩ := p
  unfold callV at CD ⊢
  unfold repV repC repF st0 adv0 at CD
  unfold cfgV at CN
  unfold advC adv0 at CP CT
  unfold ldV ldC it00 nd0 pol0 at CL
  dsimp only at CD CN CP CT CL ⊢
  clear hm
  go_enter Tryz.func5, Tryz.ntmps5
  go_upto_region 1 with fail
  refine name_world ?_
  intro w1 hW1
  have HB1 := Lib.hid (show Below w.heap.size w w1 by rw [hW1]; exact balloc (Below.refl _ _) _)
  have HX1 := Lib.hid (show w1.heap[w.heap.size]? = some (.cells #[.int .i64 kind, .string id, .int .i64 tick, .int .i64 val, .int .i64 handle, .int .i64 p0, .int .i64 p1, .int .i64 p2, .int .i64 p3, .int .i64 p4, .int .i64 p5] 37 (0, 0)) by rw [hW1]; exact heap_alloc_new _ _)
  clear hW1
  go_wp2_with (first
    | (go_at_call 24
       refine calls_named ?_
       intro V8 hV
       have hd : Below w7.heap.size w7 V8 := by rw [hV]; repeat (first | exact Below.refl _ _ | refine balloc ?_ _)
       clear hV
       refine (CT.out V8).mono ?_
       rintro e w8 ⟨rfl, hb⟩
       obtain ⟨HB8, HX8⟩ := keep1 (bthen hd hb) HB7 HX7
       obtain ⟨b1, b2, b3⟩ := box_cells (Below.refl _ _) HX8.out
       clear hd hb)
    | (go_at_call 17
       refine calls_named ?_
       intro V7 hV
       have hd : Below w6.heap.size w6 V7 := by rw [hV]; repeat (first | exact Below.refl _ _ | refine balloc ?_ _)
       clear hV
       refine (CD.out V7).mono ?_
       rintro e w7 ⟨rfl, hb⟩
       obtain ⟨HB7, HX7⟩ := keep1 (bthen hd hb) HB6 HX6
       obtain ⟨b1, b2, b3⟩ := box_cells (Below.refl _ _) HX7.out
       clear hd hb)
    | (go_at_call 23
       refine calls_named ?_
       intro V6 hV
       have hd : Below w5.heap.size w5 V6 := by rw [hV]; repeat (first | exact Below.refl _ _ | refine balloc ?_ _)
       clear hV
       refine (CP.out V6).mono ?_
       rintro e w6 ⟨rfl, hb⟩
       obtain ⟨HB6, HX6⟩ := keep1 (bthen hd hb) HB5 HX5
       obtain ⟨b1, b2, b3⟩ := box_cells (Below.refl _ _) HX6.out
       clear hd hb)
    | (go_at_call 22
       refine calls_named ?_
       intro V5 hV
       have hd : Below w3.heap.size w3 V5 := by rw [hV]; repeat (first | exact Below.refl _ _ | refine balloc ?_ _)
       clear hV
       refine (CL.out V5).mono ?_
       rintro e w5 ⟨rfl, hb⟩
       obtain ⟨HB5, HX5⟩ := keep1 (bthen hd hb) HB3 HX3
       obtain ⟨b1, b2, b3⟩ := box_cells (Below.refl _ _) HX5.out
       clear hd hb)
    | (go_at_call 12
       refine calls_named ?_
       intro V3 hV
       have hd : Below w2.heap.size w2 V3 := by rw [hV]; repeat (first | exact Below.refl _ _ | refine balloc ?_ _)
       clear hV
       refine (CN.out V3).mono ?_
       rintro e w3 ⟨rfl, hb⟩
       obtain ⟨HB3, HX3⟩ := keep1 (bthen hd hb) HB2 HX2
       obtain ⟨b1, b2, b3⟩ := box_cells (Below.refl _ _) HX3.out
       clear hd hb)
    | (go_at_call 11
       refine calls_named ?_
       intro V2 hV
       have hd : Below w1.heap.size w1 V2 := by rw [hV]; repeat (first | exact Below.refl _ _ | refine balloc ?_ _)
       clear hV
       refine (awake22_any V2).mono ?_
       rintro e w2 ⟨rfl, hb⟩
       obtain ⟨HB2, HX2⟩ := keep1 (bthen hd hb) HB1 HX1
       obtain ⟨b1, b2, b3⟩ := box_cells (Below.refl _ _) HX2.out
       clear hd hb)
    | (go_at_call 20
       refine (flTwin_nil _).mono ?_
       rintro e u9 ⟨rfl, rfl⟩)
    | (go_at_call 25
       refine (flIds_nil _).mono ?_
       rintro e u9 ⟨rfl, rfl⟩))
  go_ret
  exact ⟨rfl, HB8.out⟩

set_option maxRecDepth 100000 in
set_option maxHeartbeats 4000000 in
theorem flNone_2 (id : ByteArray) (tick val handle : Int) (p : Pol) (w : World) (hm : id.size ≤ maxLen) :
    Calls Tryz.prog 5 #[callV ⟨2, id, tick, val, handle, p⟩] w fun e w' => e = .returned (.bool true) ∧ Below w.heap.size w w' := by
  have CD := Lib.hid (fun W => flDo_nil2 id tick val handle p W hm)
  have CN := Lib.hid (fun W => flNew_bad ⟨0, 0, 0, 0⟩ W (by unfold Cfg.ok I64; decide) (by decide))
  have CI := Lib.hid (fun W => id_any id W hm)
  have CL := Lib.hid (fun W => flLoad_nil id W)
  have CP := Lib.hid (fun W => flPlan_no none id none W (.inl rfl) (loadS_nil id W))
  have CT := Lib.hid (fun W => flNote_none none id adv0 W (loadS_nil id W))
  obtain ⟨p0, p1, p2, p3, p4, p5⟩ := p
  unfold callV at CD ⊢
  unfold repV repC repF st0 adv0 at CD
  unfold cfgV at CN
  unfold advC adv0 at CP CT
  unfold ldV ldC it00 nd0 pol0 at CL
  dsimp only at CD CN CP CT CL ⊢
  clear hm
  go_enter Tryz.func5, Tryz.ntmps5
  go_upto_region 1 with fail
  refine name_world ?_
  intro w1 hW1
  have HB1 := Lib.hid (show Below w.heap.size w w1 by rw [hW1]; exact balloc (Below.refl _ _) _)
  have HX1 := Lib.hid (show w1.heap[w.heap.size]? = some (.cells #[.int .i64 2, .string id, .int .i64 tick, .int .i64 val, .int .i64 handle, .int .i64 p0, .int .i64 p1, .int .i64 p2, .int .i64 p3, .int .i64 p4, .int .i64 p5] 37 (0, 0)) by rw [hW1]; exact heap_alloc_new _ _)
  clear hW1
  go_wp2_with (first
    | (go_at_call 24
       refine calls_named ?_
       intro V8 hV
       have hd : Below w7.heap.size w7 V8 := by rw [hV]; repeat (first | exact Below.refl _ _ | refine balloc ?_ _)
       clear hV
       refine (CT.out V8).mono ?_
       rintro e w8 ⟨rfl, hb⟩
       obtain ⟨HB8, HX8⟩ := keep1 (bthen hd hb) HB7 HX7
       obtain ⟨b1, b2, b3⟩ := box_cells (Below.refl _ _) HX8.out
       clear hd hb)
    | (go_at_call 17
       refine calls_named ?_
       intro V7 hV
       have hd : Below w6.heap.size w6 V7 := by rw [hV]; repeat (first | exact Below.refl _ _ | refine balloc ?_ _)
       clear hV
       refine (CD.out V7).mono ?_
       rintro e w7 ⟨rfl, hb⟩
       obtain ⟨HB7, HX7⟩ := keep1 (bthen hd hb) HB6 HX6
       obtain ⟨b1, b2, b3⟩ := box_cells (Below.refl _ _) HX7.out
       clear hd hb)
    | (go_at_call 23
       refine calls_named ?_
       intro V6 hV
       have hd : Below w5.heap.size w5 V6 := by rw [hV]; repeat (first | exact Below.refl _ _ | refine balloc ?_ _)
       clear hV
       refine (CP.out V6).mono ?_
       rintro e w6 ⟨rfl, hb⟩
       obtain ⟨HB6, HX6⟩ := keep1 (bthen hd hb) HB5 HX5
       obtain ⟨b1, b2, b3⟩ := box_cells (Below.refl _ _) HX6.out
       clear hd hb)
    | (go_at_call 22
       refine calls_named ?_
       intro V5 hV
       have hd : Below w3.heap.size w3 V5 := by rw [hV]; repeat (first | exact Below.refl _ _ | refine balloc ?_ _)
       clear hV
       refine (CL.out V5).mono ?_
       rintro e w5 ⟨rfl, hb⟩
       obtain ⟨HB5, HX5⟩ := keep1 (bthen hd hb) HB3 HX3
       obtain ⟨b1, b2, b3⟩ := box_cells (Below.refl _ _) HX5.out
       clear hd hb)
    | (go_at_call 12
       refine calls_named ?_
       intro V3 hV
       have hd : Below w2.heap.size w2 V3 := by rw [hV]; repeat (first | exact Below.refl _ _ | refine balloc ?_ _)
       clear hV
       refine (CN.out V3).mono ?_
       rintro e w3 ⟨rfl, hb⟩
       obtain ⟨HB3, HX3⟩ := keep1 (bthen hd hb) HB2 HX2
       obtain ⟨b1, b2, b3⟩ := box_cells (Below.refl _ _) HX3.out
       clear hd hb)
    | (go_at_call 11
       refine calls_named ?_
       intro V2 hV
       have hd : Below w1.heap.size w1 V2 := by rw [hV]; repeat (first | exact Below.refl _ _ | refine balloc ?_ _)
       clear hV
       refine (awake22_any V2).mono ?_
       rintro e w2 ⟨rfl, hb⟩
       obtain ⟨HB2, HX2⟩ := keep1 (bthen hd hb) HB1 HX1
       obtain ⟨b1, b2, b3⟩ := box_cells (Below.refl _ _) HX2.out
       clear hd hb)
    | (go_at_call 20
       refine (flTwin_nil _).mono ?_
       rintro e u9 ⟨rfl, rfl⟩)
    | (go_at_call 25
       refine (flIds_nil _).mono ?_
       rintro e u9 ⟨rfl, rfl⟩))
  go_ret
  exact ⟨rfl, HB8.out⟩

set_option maxRecDepth 100000 in
set_option maxHeartbeats 4000000 in
theorem flNone_3 (id : ByteArray) (tick val handle : Int) (p : Pol) (w : World) (hm : id.size ≤ maxLen) :
    Calls Tryz.prog 5 #[callV ⟨3, id, tick, val, handle, p⟩] w fun e w' => e = .returned (.bool true) ∧ Below w.heap.size w w' := by
  have CD := Lib.hid (fun W => flDo_nil3 id tick val handle p W hm)
  have CN := Lib.hid (fun W => flNew_bad ⟨0, 0, 0, 0⟩ W (by unfold Cfg.ok I64; decide) (by decide))
  have CI := Lib.hid (fun W => id_any id W hm)
  have CL := Lib.hid (fun W => flLoad_nil id W)
  have CP := Lib.hid (fun W => flPlan_no none id none W (.inl rfl) (loadS_nil id W))
  have CT := Lib.hid (fun W => flNote_none none id adv0 W (loadS_nil id W))
  obtain ⟨p0, p1, p2, p3, p4, p5⟩ := p
  unfold callV at CD ⊢
  unfold repV repC repF st0 adv0 at CD
  unfold cfgV at CN
  unfold advC adv0 at CP CT
  unfold ldV ldC it00 nd0 pol0 at CL
  dsimp only at CD CN CP CT CL ⊢
  clear hm
  go_enter Tryz.func5, Tryz.ntmps5
  go_upto_region 1 with fail
  refine name_world ?_
  intro w1 hW1
  have HB1 := Lib.hid (show Below w.heap.size w w1 by rw [hW1]; exact balloc (Below.refl _ _) _)
  have HX1 := Lib.hid (show w1.heap[w.heap.size]? = some (.cells #[.int .i64 3, .string id, .int .i64 tick, .int .i64 val, .int .i64 handle, .int .i64 p0, .int .i64 p1, .int .i64 p2, .int .i64 p3, .int .i64 p4, .int .i64 p5] 37 (0, 0)) by rw [hW1]; exact heap_alloc_new _ _)
  clear hW1
  go_wp2_with (first
    | (go_at_call 24
       refine calls_named ?_
       intro V8 hV
       have hd : Below w7.heap.size w7 V8 := by rw [hV]; repeat (first | exact Below.refl _ _ | refine balloc ?_ _)
       clear hV
       refine (CT.out V8).mono ?_
       rintro e w8 ⟨rfl, hb⟩
       obtain ⟨HB8, HX8⟩ := keep1 (bthen hd hb) HB7 HX7
       obtain ⟨b1, b2, b3⟩ := box_cells (Below.refl _ _) HX8.out
       clear hd hb)
    | (go_at_call 17
       refine calls_named ?_
       intro V7 hV
       have hd : Below w6.heap.size w6 V7 := by rw [hV]; repeat (first | exact Below.refl _ _ | refine balloc ?_ _)
       clear hV
       refine (CD.out V7).mono ?_
       rintro e w7 ⟨rfl, hb⟩
       obtain ⟨HB7, HX7⟩ := keep1 (bthen hd hb) HB6 HX6
       obtain ⟨b1, b2, b3⟩ := box_cells (Below.refl _ _) HX7.out
       clear hd hb)
    | (go_at_call 23
       refine calls_named ?_
       intro V6 hV
       have hd : Below w5.heap.size w5 V6 := by rw [hV]; repeat (first | exact Below.refl _ _ | refine balloc ?_ _)
       clear hV
       refine (CP.out V6).mono ?_
       rintro e w6 ⟨rfl, hb⟩
       obtain ⟨HB6, HX6⟩ := keep1 (bthen hd hb) HB5 HX5
       obtain ⟨b1, b2, b3⟩ := box_cells (Below.refl _ _) HX6.out
       clear hd hb)
    | (go_at_call 22
       refine calls_named ?_
       intro V5 hV
       have hd : Below w3.heap.size w3 V5 := by rw [hV]; repeat (first | exact Below.refl _ _ | refine balloc ?_ _)
       clear hV
       refine (CL.out V5).mono ?_
       rintro e w5 ⟨rfl, hb⟩
       obtain ⟨HB5, HX5⟩ := keep1 (bthen hd hb) HB3 HX3
       obtain ⟨b1, b2, b3⟩ := box_cells (Below.refl _ _) HX5.out
       clear hd hb)
    | (go_at_call 12
       refine calls_named ?_
       intro V3 hV
       have hd : Below w2.heap.size w2 V3 := by rw [hV]; repeat (first | exact Below.refl _ _ | refine balloc ?_ _)
       clear hV
       refine (CN.out V3).mono ?_
       rintro e w3 ⟨rfl, hb⟩
       obtain ⟨HB3, HX3⟩ := keep1 (bthen hd hb) HB2 HX2
       obtain ⟨b1, b2, b3⟩ := box_cells (Below.refl _ _) HX3.out
       clear hd hb)
    | (go_at_call 11
       refine calls_named ?_
       intro V2 hV
       have hd : Below w1.heap.size w1 V2 := by rw [hV]; repeat (first | exact Below.refl _ _ | refine balloc ?_ _)
       clear hV
       refine (awake22_any V2).mono ?_
       rintro e w2 ⟨rfl, hb⟩
       obtain ⟨HB2, HX2⟩ := keep1 (bthen hd hb) HB1 HX1
       obtain ⟨b1, b2, b3⟩ := box_cells (Below.refl _ _) HX2.out
       clear hd hb)
    | (go_at_call 20
       refine (flTwin_nil _).mono ?_
       rintro e u9 ⟨rfl, rfl⟩)
    | (go_at_call 25
       refine (flIds_nil _).mono ?_
       rintro e u9 ⟨rfl, rfl⟩))
  go_ret
  exact ⟨rfl, HB8.out⟩

set_option maxRecDepth 100000 in
set_option maxHeartbeats 4000000 in
theorem flNone_4 (id : ByteArray) (tick val handle : Int) (p : Pol) (w : World) (hm : id.size ≤ maxLen) :
    Calls Tryz.prog 5 #[callV ⟨4, id, tick, val, handle, p⟩] w fun e w' => e = .returned (.bool true) ∧ Below w.heap.size w w' := by
  have CD := Lib.hid (fun W => flDo_nil4 id tick val handle p W hm)
  have CN := Lib.hid (fun W => flNew_bad ⟨0, 0, 0, 0⟩ W (by unfold Cfg.ok I64; decide) (by decide))
  have CI := Lib.hid (fun W => id_any id W hm)
  have CL := Lib.hid (fun W => flLoad_nil id W)
  have CP := Lib.hid (fun W => flPlan_no none id none W (.inl rfl) (loadS_nil id W))
  have CT := Lib.hid (fun W => flNote_none none id adv0 W (loadS_nil id W))
  obtain ⟨p0, p1, p2, p3, p4, p5⟩ := p
  unfold callV at CD ⊢
  unfold repV repC repF st0 adv0 at CD
  unfold cfgV at CN
  unfold advC adv0 at CP CT
  unfold ldV ldC it00 nd0 pol0 at CL
  dsimp only at CD CN CP CT CL ⊢
  clear hm
  go_enter Tryz.func5, Tryz.ntmps5
  go_upto_region 1 with fail
  refine name_world ?_
  intro w1 hW1
  have HB1 := Lib.hid (show Below w.heap.size w w1 by rw [hW1]; exact balloc (Below.refl _ _) _)
  have HX1 := Lib.hid (show w1.heap[w.heap.size]? = some (.cells #[.int .i64 4, .string id, .int .i64 tick, .int .i64 val, .int .i64 handle, .int .i64 p0, .int .i64 p1, .int .i64 p2, .int .i64 p3, .int .i64 p4, .int .i64 p5] 37 (0, 0)) by rw [hW1]; exact heap_alloc_new _ _)
  clear hW1
  go_wp2_with (first
    | (go_at_call 24
       refine calls_named ?_
       intro V8 hV
       have hd : Below w7.heap.size w7 V8 := by rw [hV]; repeat (first | exact Below.refl _ _ | refine balloc ?_ _)
       clear hV
       refine (CT.out V8).mono ?_
       rintro e w8 ⟨rfl, hb⟩
       obtain ⟨HB8, HX8⟩ := keep1 (bthen hd hb) HB7 HX7
       obtain ⟨b1, b2, b3⟩ := box_cells (Below.refl _ _) HX8.out
       clear hd hb)
    | (go_at_call 17
       refine calls_named ?_
       intro V7 hV
       have hd : Below w6.heap.size w6 V7 := by rw [hV]; repeat (first | exact Below.refl _ _ | refine balloc ?_ _)
       clear hV
       refine (CD.out V7).mono ?_
       rintro e w7 ⟨rfl, hb⟩
       obtain ⟨HB7, HX7⟩ := keep1 (bthen hd hb) HB6 HX6
       obtain ⟨b1, b2, b3⟩ := box_cells (Below.refl _ _) HX7.out
       clear hd hb)
    | (go_at_call 23
       refine calls_named ?_
       intro V6 hV
       have hd : Below w5.heap.size w5 V6 := by rw [hV]; repeat (first | exact Below.refl _ _ | refine balloc ?_ _)
       clear hV
       refine (CP.out V6).mono ?_
       rintro e w6 ⟨rfl, hb⟩
       obtain ⟨HB6, HX6⟩ := keep1 (bthen hd hb) HB5 HX5
       obtain ⟨b1, b2, b3⟩ := box_cells (Below.refl _ _) HX6.out
       clear hd hb)
    | (go_at_call 22
       refine calls_named ?_
       intro V5 hV
       have hd : Below w3.heap.size w3 V5 := by rw [hV]; repeat (first | exact Below.refl _ _ | refine balloc ?_ _)
       clear hV
       refine (CL.out V5).mono ?_
       rintro e w5 ⟨rfl, hb⟩
       obtain ⟨HB5, HX5⟩ := keep1 (bthen hd hb) HB3 HX3
       obtain ⟨b1, b2, b3⟩ := box_cells (Below.refl _ _) HX5.out
       clear hd hb)
    | (go_at_call 12
       refine calls_named ?_
       intro V3 hV
       have hd : Below w2.heap.size w2 V3 := by rw [hV]; repeat (first | exact Below.refl _ _ | refine balloc ?_ _)
       clear hV
       refine (CN.out V3).mono ?_
       rintro e w3 ⟨rfl, hb⟩
       obtain ⟨HB3, HX3⟩ := keep1 (bthen hd hb) HB2 HX2
       obtain ⟨b1, b2, b3⟩ := box_cells (Below.refl _ _) HX3.out
       clear hd hb)
    | (go_at_call 11
       refine calls_named ?_
       intro V2 hV
       have hd : Below w1.heap.size w1 V2 := by rw [hV]; repeat (first | exact Below.refl _ _ | refine balloc ?_ _)
       clear hV
       refine (awake22_any V2).mono ?_
       rintro e w2 ⟨rfl, hb⟩
       obtain ⟨HB2, HX2⟩ := keep1 (bthen hd hb) HB1 HX1
       obtain ⟨b1, b2, b3⟩ := box_cells (Below.refl _ _) HX2.out
       clear hd hb)
    | (go_at_call 20
       refine (flTwin_nil _).mono ?_
       rintro e u9 ⟨rfl, rfl⟩)
    | (go_at_call 25
       refine (flIds_nil _).mono ?_
       rintro e u9 ⟨rfl, rfl⟩))
  go_ret
  exact ⟨rfl, HB8.out⟩

set_option maxRecDepth 100000 in
set_option maxHeartbeats 4000000 in
theorem flNone_8 (id : ByteArray) (tick val handle : Int) (p : Pol) (w : World) (hm : id.size ≤ maxLen) :
    Calls Tryz.prog 5 #[callV ⟨8, id, tick, val, handle, p⟩] w fun e w' => e = .returned (.bool true) ∧ Below w.heap.size w w' := by
  have CD := Lib.hid (fun W => flDo_nil8 id tick val handle p W hm)
  have CN := Lib.hid (fun W => flNew_bad ⟨0, 0, 0, 0⟩ W (by unfold Cfg.ok I64; decide) (by decide))
  have CI := Lib.hid (fun W => id_any id W hm)
  have CL := Lib.hid (fun W => flLoad_nil id W)
  have CP := Lib.hid (fun W => flPlan_no none id none W (.inl rfl) (loadS_nil id W))
  have CT := Lib.hid (fun W => flNote_none none id adv0 W (loadS_nil id W))
  obtain ⟨p0, p1, p2, p3, p4, p5⟩ := p
  unfold callV at CD ⊢
  unfold repV repC repF st0 adv0 at CD
  unfold cfgV at CN
  unfold advC adv0 at CP CT
  unfold ldV ldC it00 nd0 pol0 at CL
  dsimp only at CD CN CP CT CL ⊢
  clear hm
  go_enter Tryz.func5, Tryz.ntmps5
  go_upto_region 1 with fail
  refine name_world ?_
  intro w1 hW1
  have HB1 := Lib.hid (show Below w.heap.size w w1 by rw [hW1]; exact balloc (Below.refl _ _) _)
  have HX1 := Lib.hid (show w1.heap[w.heap.size]? = some (.cells #[.int .i64 8, .string id, .int .i64 tick, .int .i64 val, .int .i64 handle, .int .i64 p0, .int .i64 p1, .int .i64 p2, .int .i64 p3, .int .i64 p4, .int .i64 p5] 37 (0, 0)) by rw [hW1]; exact heap_alloc_new _ _)
  clear hW1
  go_wp2_with (first
    | (go_at_call 24
       refine calls_named ?_
       intro V8 hV
       have hd : Below w7.heap.size w7 V8 := by rw [hV]; repeat (first | exact Below.refl _ _ | refine balloc ?_ _)
       clear hV
       refine (CT.out V8).mono ?_
       rintro e w8 ⟨rfl, hb⟩
       obtain ⟨HB8, HX8⟩ := keep1 (bthen hd hb) HB7 HX7
       obtain ⟨b1, b2, b3⟩ := box_cells (Below.refl _ _) HX8.out
       clear hd hb)
    | (go_at_call 17
       refine calls_named ?_
       intro V7 hV
       have hd : Below w6.heap.size w6 V7 := by rw [hV]; repeat (first | exact Below.refl _ _ | refine balloc ?_ _)
       clear hV
       refine (CD.out V7).mono ?_
       rintro e w7 ⟨rfl, hb⟩
       obtain ⟨HB7, HX7⟩ := keep1 (bthen hd hb) HB6 HX6
       obtain ⟨b1, b2, b3⟩ := box_cells (Below.refl _ _) HX7.out
       clear hd hb)
    | (go_at_call 23
       refine calls_named ?_
       intro V6 hV
       have hd : Below w5.heap.size w5 V6 := by rw [hV]; repeat (first | exact Below.refl _ _ | refine balloc ?_ _)
       clear hV
       refine (CP.out V6).mono ?_
       rintro e w6 ⟨rfl, hb⟩
       obtain ⟨HB6, HX6⟩ := keep1 (bthen hd hb) HB5 HX5
       obtain ⟨b1, b2, b3⟩ := box_cells (Below.refl _ _) HX6.out
       clear hd hb)
    | (go_at_call 22
       refine calls_named ?_
       intro V5 hV
       have hd : Below w3.heap.size w3 V5 := by rw [hV]; repeat (first | exact Below.refl _ _ | refine balloc ?_ _)
       clear hV
       refine (CL.out V5).mono ?_
       rintro e w5 ⟨rfl, hb⟩
       obtain ⟨HB5, HX5⟩ := keep1 (bthen hd hb) HB3 HX3
       obtain ⟨b1, b2, b3⟩ := box_cells (Below.refl _ _) HX5.out
       clear hd hb)
    | (go_at_call 12
       refine calls_named ?_
       intro V3 hV
       have hd : Below w2.heap.size w2 V3 := by rw [hV]; repeat (first | exact Below.refl _ _ | refine balloc ?_ _)
       clear hV
       refine (CN.out V3).mono ?_
       rintro e w3 ⟨rfl, hb⟩
       obtain ⟨HB3, HX3⟩ := keep1 (bthen hd hb) HB2 HX2
       obtain ⟨b1, b2, b3⟩ := box_cells (Below.refl _ _) HX3.out
       clear hd hb)
    | (go_at_call 11
       refine calls_named ?_
       intro V2 hV
       have hd : Below w1.heap.size w1 V2 := by rw [hV]; repeat (first | exact Below.refl _ _ | refine balloc ?_ _)
       clear hV
       refine (awake22_any V2).mono ?_
       rintro e w2 ⟨rfl, hb⟩
       obtain ⟨HB2, HX2⟩ := keep1 (bthen hd hb) HB1 HX1
       obtain ⟨b1, b2, b3⟩ := box_cells (Below.refl _ _) HX2.out
       clear hd hb)
    | (go_at_call 20
       refine (flTwin_nil _).mono ?_
       rintro e u9 ⟨rfl, rfl⟩)
    | (go_at_call 25
       refine (flIds_nil _).mono ?_
       rintro e u9 ⟨rfl, rfl⟩))
  go_ret
  exact ⟨rfl, HB8.out⟩

set_option maxRecDepth 100000 in
set_option maxHeartbeats 4000000 in
theorem flNone_1y (id : ByteArray) (tick val handle : Int) (p : Pol) (w : World) (hm : id.size ≤ maxLen) (hid : idS id = true) :
    Calls Tryz.prog 5 #[callV ⟨1, id, tick, val, handle, p⟩] w fun e w' => e = .returned (.bool true) ∧ Below w.heap.size w w' := by
  have CD := Lib.hid (fun W => flDo_nil1 id tick val handle p W hm hid)
  have CN := Lib.hid (fun W => flNew_bad ⟨0, 0, 0, 0⟩ W (by unfold Cfg.ok I64; decide) (by decide))
  have CI := Lib.hid (fun W => id_any id W hm)
  have CL := Lib.hid (fun W => flLoad_nil id W)
  have CP := Lib.hid (fun W => flPlan_no none id none W (.inl rfl) (loadS_nil id W))
  have CT := Lib.hid (fun W => flNote_none none id adv0 W (loadS_nil id W))
  rw [hid] at CI
  obtain ⟨p0, p1, p2, p3, p4, p5⟩ := p
  unfold callV at CD ⊢
  unfold repV repC repF st0 adv0 at CD
  unfold cfgV at CN
  unfold advC adv0 at CP CT
  unfold ldV ldC it00 nd0 pol0 at CL
  dsimp only at CD CN CP CT CL ⊢
  clear hm
  go_enter Tryz.func5, Tryz.ntmps5
  go_upto_region 1 with fail
  refine name_world ?_
  intro w1 hW1
  have HB1 := Lib.hid (show Below w.heap.size w w1 by rw [hW1]; exact balloc (Below.refl _ _) _)
  have HX1 := Lib.hid (show w1.heap[w.heap.size]? = some (.cells #[.int .i64 1, .string id, .int .i64 tick, .int .i64 val, .int .i64 handle, .int .i64 p0, .int .i64 p1, .int .i64 p2, .int .i64 p3, .int .i64 p4, .int .i64 p5] 37 (0, 0)) by rw [hW1]; exact heap_alloc_new _ _)
  clear hW1
  go_wp2_with (first
    | (go_at_call 24
       refine calls_named ?_
       intro V8 hV
       have hd : Below w7.heap.size w7 V8 := by rw [hV]; repeat (first | exact Below.refl _ _ | refine balloc ?_ _)
       clear hV
       refine (CT.out V8).mono ?_
       rintro e w8 ⟨rfl, hb⟩
       obtain ⟨HB8, HX8⟩ := keep1 (bthen hd hb) HB7 HX7
       obtain ⟨b1, b2, b3⟩ := box_cells (Below.refl _ _) HX8.out
       clear hd hb)
    | (go_at_call 17
       refine calls_named ?_
       intro V7 hV
       have hd : Below w6.heap.size w6 V7 := by rw [hV]; repeat (first | exact Below.refl _ _ | refine balloc ?_ _)
       clear hV
       refine (CD.out V7).mono ?_
       rintro e w7 ⟨rfl, hb⟩
       obtain ⟨HB7, HX7⟩ := keep1 (bthen hd hb) HB6 HX6
       obtain ⟨b1, b2, b3⟩ := box_cells (Below.refl _ _) HX7.out
       clear hd hb)
    | (go_at_call 23
       refine calls_named ?_
       intro V6 hV
       have hd : Below w5.heap.size w5 V6 := by rw [hV]; repeat (first | exact Below.refl _ _ | refine balloc ?_ _)
       clear hV
       refine (CP.out V6).mono ?_
       rintro e w6 ⟨rfl, hb⟩
       obtain ⟨HB6, HX6⟩ := keep1 (bthen hd hb) HB5 HX5
       obtain ⟨b1, b2, b3⟩ := box_cells (Below.refl _ _) HX6.out
       clear hd hb)
    | (go_at_call 22
       refine calls_named ?_
       intro V5 hV
       have hd : Below V4.heap.size V4 V5 := by rw [hV]; repeat (first | exact Below.refl _ _ | refine balloc ?_ _)
       clear hV
       refine (CL.out V5).mono ?_
       rintro e w5 ⟨rfl, hb⟩
       obtain ⟨HB5, HX5⟩ := keep1 (bthen hd hb) HB4 HX4
       obtain ⟨b1, b2, b3⟩ := box_cells (Below.refl _ _) HX5.out
       clear hd hb)
    | (go_at_call 21
       refine calls_named ?_
       intro V4 hV
       have hd : Below w3.heap.size w3 V4 := by rw [hV]; repeat (first | exact Below.refl _ _ | refine balloc ?_ _)
       clear hV
       refine (CI.out V4).mono ?_
       rintro e w4 ⟨rfl, hw⟩
       subst hw
       obtain ⟨HB4, HX4⟩ := keep1 hd HB3 HX3
       obtain ⟨b1, b2, b3⟩ := box_cells (Below.refl _ _) HX4.out
       clear hd)
    | (go_at_call 12
       refine calls_named ?_
       intro V3 hV
       have hd : Below w2.heap.size w2 V3 := by rw [hV]; repeat (first | exact Below.refl _ _ | refine balloc ?_ _)
       clear hV
       refine (CN.out V3).mono ?_
       rintro e w3 ⟨rfl, hb⟩
       obtain ⟨HB3, HX3⟩ := keep1 (bthen hd hb) HB2 HX2
       obtain ⟨b1, b2, b3⟩ := box_cells (Below.refl _ _) HX3.out
       clear hd hb)
    | (go_at_call 11
       refine calls_named ?_
       intro V2 hV
       have hd : Below w1.heap.size w1 V2 := by rw [hV]; repeat (first | exact Below.refl _ _ | refine balloc ?_ _)
       clear hV
       refine (awake22_any V2).mono ?_
       rintro e w2 ⟨rfl, hb⟩
       obtain ⟨HB2, HX2⟩ := keep1 (bthen hd hb) HB1 HX1
       obtain ⟨b1, b2, b3⟩ := box_cells (Below.refl _ _) HX2.out
       clear hd hb)
    | (go_at_call 20
       refine (flTwin_nil _).mono ?_
       rintro e u9 ⟨rfl, rfl⟩)
    | (go_at_call 25
       refine (flIds_nil _).mono ?_
       rintro e u9 ⟨rfl, rfl⟩))
  go_ret
  exact ⟨rfl, HB8.out⟩

set_option maxRecDepth 100000 in
set_option maxHeartbeats 4000000 in
theorem flNone_1n (id : ByteArray) (tick val handle : Int) (p : Pol) (w : World) (hm : id.size ≤ maxLen) (hid : idS id = false) :
    Calls Tryz.prog 5 #[callV ⟨1, id, tick, val, handle, p⟩] w fun e w' => e = .returned (.bool true) ∧ Below w.heap.size w w' := by
  have CD := Lib.hid (fun W => flDo_id1 none id tick val handle p W hm hid)
  have CN := Lib.hid (fun W => flNew_bad ⟨0, 0, 0, 0⟩ W (by unfold Cfg.ok I64; decide) (by decide))
  have CI := Lib.hid (fun W => id_any id W hm)
  have CL := Lib.hid (fun W => flLoad_nil id W)
  have CP := Lib.hid (fun W => flPlan_no none id none W (.inl rfl) (loadS_nil id W))
  have CT := Lib.hid (fun W => flNote_none none id adv0 W (loadS_nil id W))
  rw [hid] at CI
  obtain ⟨p0, p1, p2, p3, p4, p5⟩ := p
  unfold callV at CD ⊢
  unfold repV repC repF st0 adv0 at CD
  unfold cfgV at CN
  unfold advC adv0 at CP CT
  unfold ldV ldC it00 nd0 pol0 at CL
  dsimp only at CD CN CP CT CL ⊢
  clear hm
  go_enter Tryz.func5, Tryz.ntmps5
  go_upto_region 1 with fail
  refine name_world ?_
  intro w1 hW1
  have HB1 := Lib.hid (show Below w.heap.size w w1 by rw [hW1]; exact balloc (Below.refl _ _) _)
  have HX1 := Lib.hid (show w1.heap[w.heap.size]? = some (.cells #[.int .i64 1, .string id, .int .i64 tick, .int .i64 val, .int .i64 handle, .int .i64 p0, .int .i64 p1, .int .i64 p2, .int .i64 p3, .int .i64 p4, .int .i64 p5] 37 (0, 0)) by rw [hW1]; exact heap_alloc_new _ _)
  clear hW1
  go_wp2_with (first
    | (go_at_call 24
       refine calls_named ?_
       intro V8 hV
       have hd : Below w7.heap.size w7 V8 := by rw [hV]; repeat (first | exact Below.refl _ _ | refine balloc ?_ _)
       clear hV
       refine (CT.out V8).mono ?_
       rintro e w8 ⟨rfl, hb⟩
       obtain ⟨HB8, HX8⟩ := keep1 (bthen hd hb) HB7 HX7
       obtain ⟨b1, b2, b3⟩ := box_cells (Below.refl _ _) HX8.out
       clear hd hb)
    | (go_at_call 17
       refine calls_named ?_
       intro V7 hV
       have hd : Below w6.heap.size w6 V7 := by rw [hV]; repeat (first | exact Below.refl _ _ | refine balloc ?_ _)
       clear hV
       refine (CD.out V7).mono ?_
       rintro e w7 ⟨rfl, hb⟩
       obtain ⟨HB7, HX7⟩ := keep1 (bthen hd hb) HB6 HX6
       obtain ⟨b1, b2, b3⟩ := box_cells (Below.refl _ _) HX7.out
       clear hd hb)
    | (go_at_call 23
       refine calls_named ?_
       intro V6 hV
       have hd : Below w5.heap.size w5 V6 := by rw [hV]; repeat (first | exact Below.refl _ _ | refine balloc ?_ _)
       clear hV
       refine (CP.out V6).mono ?_
       rintro e w6 ⟨rfl, hb⟩
       obtain ⟨HB6, HX6⟩ := keep1 (bthen hd hb) HB5 HX5
       obtain ⟨b1, b2, b3⟩ := box_cells (Below.refl _ _) HX6.out
       clear hd hb)
    | (go_at_call 22
       refine calls_named ?_
       intro V5 hV
       have hd : Below V4.heap.size V4 V5 := by rw [hV]; repeat (first | exact Below.refl _ _ | refine balloc ?_ _)
       clear hV
       refine (CL.out V5).mono ?_
       rintro e w5 ⟨rfl, hb⟩
       obtain ⟨HB5, HX5⟩ := keep1 (bthen hd hb) HB4 HX4
       obtain ⟨b1, b2, b3⟩ := box_cells (Below.refl _ _) HX5.out
       clear hd hb)
    | (go_at_call 21
       refine calls_named ?_
       intro V4 hV
       have hd : Below w3.heap.size w3 V4 := by rw [hV]; repeat (first | exact Below.refl _ _ | refine balloc ?_ _)
       clear hV
       refine (CI.out V4).mono ?_
       rintro e w4 ⟨rfl, hw⟩
       subst hw
       obtain ⟨HB4, HX4⟩ := keep1 hd HB3 HX3
       obtain ⟨b1, b2, b3⟩ := box_cells (Below.refl _ _) HX4.out
       clear hd)
    | (go_at_call 12
       refine calls_named ?_
       intro V3 hV
       have hd : Below w2.heap.size w2 V3 := by rw [hV]; repeat (first | exact Below.refl _ _ | refine balloc ?_ _)
       clear hV
       refine (CN.out V3).mono ?_
       rintro e w3 ⟨rfl, hb⟩
       obtain ⟨HB3, HX3⟩ := keep1 (bthen hd hb) HB2 HX2
       obtain ⟨b1, b2, b3⟩ := box_cells (Below.refl _ _) HX3.out
       clear hd hb)
    | (go_at_call 11
       refine calls_named ?_
       intro V2 hV
       have hd : Below w1.heap.size w1 V2 := by rw [hV]; repeat (first | exact Below.refl _ _ | refine balloc ?_ _)
       clear hV
       refine (awake22_any V2).mono ?_
       rintro e w2 ⟨rfl, hb⟩
       obtain ⟨HB2, HX2⟩ := keep1 (bthen hd hb) HB1 HX1
       obtain ⟨b1, b2, b3⟩ := box_cells (Below.refl _ _) HX2.out
       clear hd hb)
    | (go_at_call 20
       refine (flTwin_nil _).mono ?_
       rintro e u9 ⟨rfl, rfl⟩)
    | (go_at_call 25
       refine (flIds_nil _).mono ?_
       rintro e u9 ⟨rfl, rfl⟩))
  go_ret
  exact ⟨rfl, HB8.out⟩

set_option maxRecDepth 100000 in
set_option maxHeartbeats 4000000 in
theorem flNone_5y (id : ByteArray) (tick val handle : Int) (p : Pol) (w : World) (hm : id.size ≤ maxLen) (hid : idS id = true) :
    Calls Tryz.prog 5 #[callV ⟨5, id, tick, val, handle, p⟩] w fun e w' => e = .returned (.bool true) ∧ Below w.heap.size w w' := by
  have CD := Lib.hid (fun W => flDo_nil5 id tick val handle p W hm hid)
  have CN := Lib.hid (fun W => flNew_bad ⟨0, 0, 0, 0⟩ W (by unfold Cfg.ok I64; decide) (by decide))
  have CI := Lib.hid (fun W => id_any id W hm)
  have CL := Lib.hid (fun W => flLoad_nil id W)
  have CP := Lib.hid (fun W => flPlan_no none id none W (.inl rfl) (loadS_nil id W))
  have CT := Lib.hid (fun W => flNote_none none id adv0 W (loadS_nil id W))
  rw [hid] at CI
  obtain ⟨p0, p1, p2, p3, p4, p5⟩ := p
  unfold callV at CD ⊢
  unfold repV repC repF st0 adv0 at CD
  unfold cfgV at CN
  unfold advC adv0 at CP CT
  unfold ldV ldC it00 nd0 pol0 at CL
  dsimp only at CD CN CP CT CL ⊢
  clear hm
  go_enter Tryz.func5, Tryz.ntmps5
  go_upto_region 1 with fail
  refine name_world ?_
  intro w1 hW1
  have HB1 := Lib.hid (show Below w.heap.size w w1 by rw [hW1]; exact balloc (Below.refl _ _) _)
  have HX1 := Lib.hid (show w1.heap[w.heap.size]? = some (.cells #[.int .i64 5, .string id, .int .i64 tick, .int .i64 val, .int .i64 handle, .int .i64 p0, .int .i64 p1, .int .i64 p2, .int .i64 p3, .int .i64 p4, .int .i64 p5] 37 (0, 0)) by rw [hW1]; exact heap_alloc_new _ _)
  clear hW1
  go_wp2_with (first
    | (go_at_call 24
       refine calls_named ?_
       intro V8 hV
       have hd : Below w7.heap.size w7 V8 := by rw [hV]; repeat (first | exact Below.refl _ _ | refine balloc ?_ _)
       clear hV
       refine (CT.out V8).mono ?_
       rintro e w8 ⟨rfl, hb⟩
       obtain ⟨HB8, HX8⟩ := keep1 (bthen hd hb) HB7 HX7
       obtain ⟨b1, b2, b3⟩ := box_cells (Below.refl _ _) HX8.out
       clear hd hb)
    | (go_at_call 17
       refine calls_named ?_
       intro V7 hV
       have hd : Below w6.heap.size w6 V7 := by rw [hV]; repeat (first | exact Below.refl _ _ | refine balloc ?_ _)
       clear hV
       refine (CD.out V7).mono ?_
       rintro e w7 ⟨rfl, hb⟩
       obtain ⟨HB7, HX7⟩ := keep1 (bthen hd hb) HB6 HX6
       obtain ⟨b1, b2, b3⟩ := box_cells (Below.refl _ _) HX7.out
       clear hd hb)
    | (go_at_call 23
       refine calls_named ?_
       intro V6 hV
       have hd : Below w5.heap.size w5 V6 := by rw [hV]; repeat (first | exact Below.refl _ _ | refine balloc ?_ _)
       clear hV
       refine (CP.out V6).mono ?_
       rintro e w6 ⟨rfl, hb⟩
       obtain ⟨HB6, HX6⟩ := keep1 (bthen hd hb) HB5 HX5
       obtain ⟨b1, b2, b3⟩ := box_cells (Below.refl _ _) HX6.out
       clear hd hb)
    | (go_at_call 22
       refine calls_named ?_
       intro V5 hV
       have hd : Below V4.heap.size V4 V5 := by rw [hV]; repeat (first | exact Below.refl _ _ | refine balloc ?_ _)
       clear hV
       refine (CL.out V5).mono ?_
       rintro e w5 ⟨rfl, hb⟩
       obtain ⟨HB5, HX5⟩ := keep1 (bthen hd hb) HB4 HX4
       obtain ⟨b1, b2, b3⟩ := box_cells (Below.refl _ _) HX5.out
       clear hd hb)
    | (go_at_call 21
       refine calls_named ?_
       intro V4 hV
       have hd : Below w3.heap.size w3 V4 := by rw [hV]; repeat (first | exact Below.refl _ _ | refine balloc ?_ _)
       clear hV
       refine (CI.out V4).mono ?_
       rintro e w4 ⟨rfl, hw⟩
       subst hw
       obtain ⟨HB4, HX4⟩ := keep1 hd HB3 HX3
       obtain ⟨b1, b2, b3⟩ := box_cells (Below.refl _ _) HX4.out
       clear hd)
    | (go_at_call 12
       refine calls_named ?_
       intro V3 hV
       have hd : Below w2.heap.size w2 V3 := by rw [hV]; repeat (first | exact Below.refl _ _ | refine balloc ?_ _)
       clear hV
       refine (CN.out V3).mono ?_
       rintro e w3 ⟨rfl, hb⟩
       obtain ⟨HB3, HX3⟩ := keep1 (bthen hd hb) HB2 HX2
       obtain ⟨b1, b2, b3⟩ := box_cells (Below.refl _ _) HX3.out
       clear hd hb)
    | (go_at_call 11
       refine calls_named ?_
       intro V2 hV
       have hd : Below w1.heap.size w1 V2 := by rw [hV]; repeat (first | exact Below.refl _ _ | refine balloc ?_ _)
       clear hV
       refine (awake22_any V2).mono ?_
       rintro e w2 ⟨rfl, hb⟩
       obtain ⟨HB2, HX2⟩ := keep1 (bthen hd hb) HB1 HX1
       obtain ⟨b1, b2, b3⟩ := box_cells (Below.refl _ _) HX2.out
       clear hd hb)
    | (go_at_call 20
       refine (flTwin_nil _).mono ?_
       rintro e u9 ⟨rfl, rfl⟩)
    | (go_at_call 25
       refine (flIds_nil _).mono ?_
       rintro e u9 ⟨rfl, rfl⟩))
  go_ret
  exact ⟨rfl, HB8.out⟩

set_option maxRecDepth 100000 in
set_option maxHeartbeats 4000000 in
theorem flNone_5n (id : ByteArray) (tick val handle : Int) (p : Pol) (w : World) (hm : id.size ≤ maxLen) (hid : idS id = false) :
    Calls Tryz.prog 5 #[callV ⟨5, id, tick, val, handle, p⟩] w fun e w' => e = .returned (.bool true) ∧ Below w.heap.size w w' := by
  have CD := Lib.hid (fun W => flDo_id5 none id tick val handle p W hm hid)
  have CN := Lib.hid (fun W => flNew_bad ⟨0, 0, 0, 0⟩ W (by unfold Cfg.ok I64; decide) (by decide))
  have CI := Lib.hid (fun W => id_any id W hm)
  have CL := Lib.hid (fun W => flLoad_nil id W)
  have CP := Lib.hid (fun W => flPlan_no none id none W (.inl rfl) (loadS_nil id W))
  have CT := Lib.hid (fun W => flNote_none none id adv0 W (loadS_nil id W))
  rw [hid] at CI
  obtain ⟨p0, p1, p2, p3, p4, p5⟩ := p
  unfold callV at CD ⊢
  unfold repV repC repF st0 adv0 at CD
  unfold cfgV at CN
  unfold advC adv0 at CP CT
  unfold ldV ldC it00 nd0 pol0 at CL
  dsimp only at CD CN CP CT CL ⊢
  clear hm
  go_enter Tryz.func5, Tryz.ntmps5
  go_upto_region 1 with fail
  refine name_world ?_
  intro w1 hW1
  have HB1 := Lib.hid (show Below w.heap.size w w1 by rw [hW1]; exact balloc (Below.refl _ _) _)
  have HX1 := Lib.hid (show w1.heap[w.heap.size]? = some (.cells #[.int .i64 5, .string id, .int .i64 tick, .int .i64 val, .int .i64 handle, .int .i64 p0, .int .i64 p1, .int .i64 p2, .int .i64 p3, .int .i64 p4, .int .i64 p5] 37 (0, 0)) by rw [hW1]; exact heap_alloc_new _ _)
  clear hW1
  go_wp2_with (first
    | (go_at_call 24
       refine calls_named ?_
       intro V8 hV
       have hd : Below w7.heap.size w7 V8 := by rw [hV]; repeat (first | exact Below.refl _ _ | refine balloc ?_ _)
       clear hV
       refine (CT.out V8).mono ?_
       rintro e w8 ⟨rfl, hb⟩
       obtain ⟨HB8, HX8⟩ := keep1 (bthen hd hb) HB7 HX7
       obtain ⟨b1, b2, b3⟩ := box_cells (Below.refl _ _) HX8.out
       clear hd hb)
    | (go_at_call 17
       refine calls_named ?_
       intro V7 hV
       have hd : Below w6.heap.size w6 V7 := by rw [hV]; repeat (first | exact Below.refl _ _ | refine balloc ?_ _)
       clear hV
       refine (CD.out V7).mono ?_
       rintro e w7 ⟨rfl, hb⟩
       obtain ⟨HB7, HX7⟩ := keep1 (bthen hd hb) HB6 HX6
       obtain ⟨b1, b2, b3⟩ := box_cells (Below.refl _ _) HX7.out
       clear hd hb)
    | (go_at_call 23
       refine calls_named ?_
       intro V6 hV
       have hd : Below w5.heap.size w5 V6 := by rw [hV]; repeat (first | exact Below.refl _ _ | refine balloc ?_ _)
       clear hV
       refine (CP.out V6).mono ?_
       rintro e w6 ⟨rfl, hb⟩
       obtain ⟨HB6, HX6⟩ := keep1 (bthen hd hb) HB5 HX5
       obtain ⟨b1, b2, b3⟩ := box_cells (Below.refl _ _) HX6.out
       clear hd hb)
    | (go_at_call 22
       refine calls_named ?_
       intro V5 hV
       have hd : Below V4.heap.size V4 V5 := by rw [hV]; repeat (first | exact Below.refl _ _ | refine balloc ?_ _)
       clear hV
       refine (CL.out V5).mono ?_
       rintro e w5 ⟨rfl, hb⟩
       obtain ⟨HB5, HX5⟩ := keep1 (bthen hd hb) HB4 HX4
       obtain ⟨b1, b2, b3⟩ := box_cells (Below.refl _ _) HX5.out
       clear hd hb)
    | (go_at_call 21
       refine calls_named ?_
       intro V4 hV
       have hd : Below w3.heap.size w3 V4 := by rw [hV]; repeat (first | exact Below.refl _ _ | refine balloc ?_ _)
       clear hV
       refine (CI.out V4).mono ?_
       rintro e w4 ⟨rfl, hw⟩
       subst hw
       obtain ⟨HB4, HX4⟩ := keep1 hd HB3 HX3
       obtain ⟨b1, b2, b3⟩ := box_cells (Below.refl _ _) HX4.out
       clear hd)
    | (go_at_call 12
       refine calls_named ?_
       intro V3 hV
       have hd : Below w2.heap.size w2 V3 := by rw [hV]; repeat (first | exact Below.refl _ _ | refine balloc ?_ _)
       clear hV
       refine (CN.out V3).mono ?_
       rintro e w3 ⟨rfl, hb⟩
       obtain ⟨HB3, HX3⟩ := keep1 (bthen hd hb) HB2 HX2
       obtain ⟨b1, b2, b3⟩ := box_cells (Below.refl _ _) HX3.out
       clear hd hb)
    | (go_at_call 11
       refine calls_named ?_
       intro V2 hV
       have hd : Below w1.heap.size w1 V2 := by rw [hV]; repeat (first | exact Below.refl _ _ | refine balloc ?_ _)
       clear hV
       refine (awake22_any V2).mono ?_
       rintro e w2 ⟨rfl, hb⟩
       obtain ⟨HB2, HX2⟩ := keep1 (bthen hd hb) HB1 HX1
       obtain ⟨b1, b2, b3⟩ := box_cells (Below.refl _ _) HX2.out
       clear hd hb)
    | (go_at_call 20
       refine (flTwin_nil _).mono ?_
       rintro e u9 ⟨rfl, rfl⟩)
    | (go_at_call 25
       refine (flIds_nil _).mono ?_
       rintro e u9 ⟨rfl, rfl⟩))
  go_ret
  exact ⟨rfl, HB8.out⟩

set_option maxRecDepth 100000 in
set_option maxHeartbeats 4000000 in
theorem flNone_6y (id : ByteArray) (tick val handle : Int) (p : Pol) (w : World) (hm : id.size ≤ maxLen) (hid : idS id = true) :
    Calls Tryz.prog 5 #[callV ⟨6, id, tick, val, handle, p⟩] w fun e w' => e = .returned (.bool true) ∧ Below w.heap.size w w' := by
  have CD := Lib.hid (fun W => flDo_nil6 id tick val handle p W hm hid)
  have CN := Lib.hid (fun W => flNew_bad ⟨0, 0, 0, 0⟩ W (by unfold Cfg.ok I64; decide) (by decide))
  have CI := Lib.hid (fun W => id_any id W hm)
  have CL := Lib.hid (fun W => flLoad_nil id W)
  have CP := Lib.hid (fun W => flPlan_no none id none W (.inl rfl) (loadS_nil id W))
  have CT := Lib.hid (fun W => flNote_none none id adv0 W (loadS_nil id W))
  rw [hid] at CI
  obtain ⟨p0, p1, p2, p3, p4, p5⟩ := p
  unfold callV at CD ⊢
  unfold repV repC repF st0 adv0 at CD
  unfold cfgV at CN
  unfold advC adv0 at CP CT
  unfold ldV ldC it00 nd0 pol0 at CL
  dsimp only at CD CN CP CT CL ⊢
  clear hm
  go_enter Tryz.func5, Tryz.ntmps5
  go_upto_region 1 with fail
  refine name_world ?_
  intro w1 hW1
  have HB1 := Lib.hid (show Below w.heap.size w w1 by rw [hW1]; exact balloc (Below.refl _ _) _)
  have HX1 := Lib.hid (show w1.heap[w.heap.size]? = some (.cells #[.int .i64 6, .string id, .int .i64 tick, .int .i64 val, .int .i64 handle, .int .i64 p0, .int .i64 p1, .int .i64 p2, .int .i64 p3, .int .i64 p4, .int .i64 p5] 37 (0, 0)) by rw [hW1]; exact heap_alloc_new _ _)
  clear hW1
  go_wp2_with (first
    | (go_at_call 24
       refine calls_named ?_
       intro V8 hV
       have hd : Below w7.heap.size w7 V8 := by rw [hV]; repeat (first | exact Below.refl _ _ | refine balloc ?_ _)
       clear hV
       refine (CT.out V8).mono ?_
       rintro e w8 ⟨rfl, hb⟩
       obtain ⟨HB8, HX8⟩ := keep1 (bthen hd hb) HB7 HX7
       obtain ⟨b1, b2, b3⟩ := box_cells (Below.refl _ _) HX8.out
       clear hd hb)
    | (go_at_call 17
       refine calls_named ?_
       intro V7 hV
       have hd : Below w6.heap.size w6 V7 := by rw [hV]; repeat (first | exact Below.refl _ _ | refine balloc ?_ _)
       clear hV
       refine (CD.out V7).mono ?_
       rintro e w7 ⟨rfl, hb⟩
       obtain ⟨HB7, HX7⟩ := keep1 (bthen hd hb) HB6 HX6
       obtain ⟨b1, b2, b3⟩ := box_cells (Below.refl _ _) HX7.out
       clear hd hb)
    | (go_at_call 23
       refine calls_named ?_
       intro V6 hV
       have hd : Below w5.heap.size w5 V6 := by rw [hV]; repeat (first | exact Below.refl _ _ | refine balloc ?_ _)
       clear hV
       refine (CP.out V6).mono ?_
       rintro e w6 ⟨rfl, hb⟩
       obtain ⟨HB6, HX6⟩ := keep1 (bthen hd hb) HB5 HX5
       obtain ⟨b1, b2, b3⟩ := box_cells (Below.refl _ _) HX6.out
       clear hd hb)
    | (go_at_call 22
       refine calls_named ?_
       intro V5 hV
       have hd : Below V4.heap.size V4 V5 := by rw [hV]; repeat (first | exact Below.refl _ _ | refine balloc ?_ _)
       clear hV
       refine (CL.out V5).mono ?_
       rintro e w5 ⟨rfl, hb⟩
       obtain ⟨HB5, HX5⟩ := keep1 (bthen hd hb) HB4 HX4
       obtain ⟨b1, b2, b3⟩ := box_cells (Below.refl _ _) HX5.out
       clear hd hb)
    | (go_at_call 21
       refine calls_named ?_
       intro V4 hV
       have hd : Below w3.heap.size w3 V4 := by rw [hV]; repeat (first | exact Below.refl _ _ | refine balloc ?_ _)
       clear hV
       refine (CI.out V4).mono ?_
       rintro e w4 ⟨rfl, hw⟩
       subst hw
       obtain ⟨HB4, HX4⟩ := keep1 hd HB3 HX3
       obtain ⟨b1, b2, b3⟩ := box_cells (Below.refl _ _) HX4.out
       clear hd)
    | (go_at_call 12
       refine calls_named ?_
       intro V3 hV
       have hd : Below w2.heap.size w2 V3 := by rw [hV]; repeat (first | exact Below.refl _ _ | refine balloc ?_ _)
       clear hV
       refine (CN.out V3).mono ?_
       rintro e w3 ⟨rfl, hb⟩
       obtain ⟨HB3, HX3⟩ := keep1 (bthen hd hb) HB2 HX2
       obtain ⟨b1, b2, b3⟩ := box_cells (Below.refl _ _) HX3.out
       clear hd hb)
    | (go_at_call 11
       refine calls_named ?_
       intro V2 hV
       have hd : Below w1.heap.size w1 V2 := by rw [hV]; repeat (first | exact Below.refl _ _ | refine balloc ?_ _)
       clear hV
       refine (awake22_any V2).mono ?_
       rintro e w2 ⟨rfl, hb⟩
       obtain ⟨HB2, HX2⟩ := keep1 (bthen hd hb) HB1 HX1
       obtain ⟨b1, b2, b3⟩ := box_cells (Below.refl _ _) HX2.out
       clear hd hb)
    | (go_at_call 20
       refine (flTwin_nil _).mono ?_
       rintro e u9 ⟨rfl, rfl⟩)
    | (go_at_call 25
       refine (flIds_nil _).mono ?_
       rintro e u9 ⟨rfl, rfl⟩))
  go_ret
  exact ⟨rfl, HB8.out⟩

set_option maxRecDepth 100000 in
set_option maxHeartbeats 4000000 in
theorem flNone_6n (id : ByteArray) (tick val handle : Int) (p : Pol) (w : World) (hm : id.size ≤ maxLen) (hid : idS id = false) :
    Calls Tryz.prog 5 #[callV ⟨6, id, tick, val, handle, p⟩] w fun e w' => e = .returned (.bool true) ∧ Below w.heap.size w w' := by
  have CD := Lib.hid (fun W => flDo_id6 none id tick val handle p W hm hid)
  have CN := Lib.hid (fun W => flNew_bad ⟨0, 0, 0, 0⟩ W (by unfold Cfg.ok I64; decide) (by decide))
  have CI := Lib.hid (fun W => id_any id W hm)
  have CL := Lib.hid (fun W => flLoad_nil id W)
  have CP := Lib.hid (fun W => flPlan_no none id none W (.inl rfl) (loadS_nil id W))
  have CT := Lib.hid (fun W => flNote_none none id adv0 W (loadS_nil id W))
  rw [hid] at CI
  obtain ⟨p0, p1, p2, p3, p4, p5⟩ := p
  unfold callV at CD ⊢
  unfold repV repC repF st0 adv0 at CD
  unfold cfgV at CN
  unfold advC adv0 at CP CT
  unfold ldV ldC it00 nd0 pol0 at CL
  dsimp only at CD CN CP CT CL ⊢
  clear hm
  go_enter Tryz.func5, Tryz.ntmps5
  go_upto_region 1 with fail
  refine name_world ?_
  intro w1 hW1
  have HB1 := Lib.hid (show Below w.heap.size w w1 by rw [hW1]; exact balloc (Below.refl _ _) _)
  have HX1 := Lib.hid (show w1.heap[w.heap.size]? = some (.cells #[.int .i64 6, .string id, .int .i64 tick, .int .i64 val, .int .i64 handle, .int .i64 p0, .int .i64 p1, .int .i64 p2, .int .i64 p3, .int .i64 p4, .int .i64 p5] 37 (0, 0)) by rw [hW1]; exact heap_alloc_new _ _)
  clear hW1
  go_wp2_with (first
    | (go_at_call 24
       refine calls_named ?_
       intro V8 hV
       have hd : Below w7.heap.size w7 V8 := by rw [hV]; repeat (first | exact Below.refl _ _ | refine balloc ?_ _)
       clear hV
       refine (CT.out V8).mono ?_
       rintro e w8 ⟨rfl, hb⟩
       obtain ⟨HB8, HX8⟩ := keep1 (bthen hd hb) HB7 HX7
       obtain ⟨b1, b2, b3⟩ := box_cells (Below.refl _ _) HX8.out
       clear hd hb)
    | (go_at_call 17
       refine calls_named ?_
       intro V7 hV
       have hd : Below w6.heap.size w6 V7 := by rw [hV]; repeat (first | exact Below.refl _ _ | refine balloc ?_ _)
       clear hV
       refine (CD.out V7).mono ?_
       rintro e w7 ⟨rfl, hb⟩
       obtain ⟨HB7, HX7⟩ := keep1 (bthen hd hb) HB6 HX6
       obtain ⟨b1, b2, b3⟩ := box_cells (Below.refl _ _) HX7.out
       clear hd hb)
    | (go_at_call 23
       refine calls_named ?_
       intro V6 hV
       have hd : Below w5.heap.size w5 V6 := by rw [hV]; repeat (first | exact Below.refl _ _ | refine balloc ?_ _)
       clear hV
       refine (CP.out V6).mono ?_
       rintro e w6 ⟨rfl, hb⟩
       obtain ⟨HB6, HX6⟩ := keep1 (bthen hd hb) HB5 HX5
       obtain ⟨b1, b2, b3⟩ := box_cells (Below.refl _ _) HX6.out
       clear hd hb)
    | (go_at_call 22
       refine calls_named ?_
       intro V5 hV
       have hd : Below V4.heap.size V4 V5 := by rw [hV]; repeat (first | exact Below.refl _ _ | refine balloc ?_ _)
       clear hV
       refine (CL.out V5).mono ?_
       rintro e w5 ⟨rfl, hb⟩
       obtain ⟨HB5, HX5⟩ := keep1 (bthen hd hb) HB4 HX4
       obtain ⟨b1, b2, b3⟩ := box_cells (Below.refl _ _) HX5.out
       clear hd hb)
    | (go_at_call 21
       refine calls_named ?_
       intro V4 hV
       have hd : Below w3.heap.size w3 V4 := by rw [hV]; repeat (first | exact Below.refl _ _ | refine balloc ?_ _)
       clear hV
       refine (CI.out V4).mono ?_
       rintro e w4 ⟨rfl, hw⟩
       subst hw
       obtain ⟨HB4, HX4⟩ := keep1 hd HB3 HX3
       obtain ⟨b1, b2, b3⟩ := box_cells (Below.refl _ _) HX4.out
       clear hd)
    | (go_at_call 12
       refine calls_named ?_
       intro V3 hV
       have hd : Below w2.heap.size w2 V3 := by rw [hV]; repeat (first | exact Below.refl _ _ | refine balloc ?_ _)
       clear hV
       refine (CN.out V3).mono ?_
       rintro e w3 ⟨rfl, hb⟩
       obtain ⟨HB3, HX3⟩ := keep1 (bthen hd hb) HB2 HX2
       obtain ⟨b1, b2, b3⟩ := box_cells (Below.refl _ _) HX3.out
       clear hd hb)
    | (go_at_call 11
       refine calls_named ?_
       intro V2 hV
       have hd : Below w1.heap.size w1 V2 := by rw [hV]; repeat (first | exact Below.refl _ _ | refine balloc ?_ _)
       clear hV
       refine (awake22_any V2).mono ?_
       rintro e w2 ⟨rfl, hb⟩
       obtain ⟨HB2, HX2⟩ := keep1 (bthen hd hb) HB1 HX1
       obtain ⟨b1, b2, b3⟩ := box_cells (Below.refl _ _) HX2.out
       clear hd hb)
    | (go_at_call 20
       refine (flTwin_nil _).mono ?_
       rintro e u9 ⟨rfl, rfl⟩)
    | (go_at_call 25
       refine (flIds_nil _).mono ?_
       rintro e u9 ⟨rfl, rfl⟩))
  go_ret
  exact ⟨rfl, HB8.out⟩

set_option maxRecDepth 100000 in
set_option maxHeartbeats 4000000 in
theorem flNone_7y (id : ByteArray) (tick val handle : Int) (p : Pol) (w : World) (hm : id.size ≤ maxLen) (hid : idS id = true) :
    Calls Tryz.prog 5 #[callV ⟨7, id, tick, val, handle, p⟩] w fun e w' => e = .returned (.bool true) ∧ Below w.heap.size w w' := by
  have CD := Lib.hid (fun W => flDo_nil7 id tick val handle p W hm hid)
  have CN := Lib.hid (fun W => flNew_bad ⟨0, 0, 0, 0⟩ W (by unfold Cfg.ok I64; decide) (by decide))
  have CI := Lib.hid (fun W => id_any id W hm)
  have CL := Lib.hid (fun W => flLoad_nil id W)
  have CP := Lib.hid (fun W => flPlan_no none id none W (.inl rfl) (loadS_nil id W))
  have CT := Lib.hid (fun W => flNote_none none id adv0 W (loadS_nil id W))
  rw [hid] at CI
  obtain ⟨p0, p1, p2, p3, p4, p5⟩ := p
  unfold callV at CD ⊢
  unfold repV repC repF st0 adv0 at CD
  unfold cfgV at CN
  unfold advC adv0 at CP CT
  unfold ldV ldC it00 nd0 pol0 at CL
  dsimp only at CD CN CP CT CL ⊢
  clear hm
  go_enter Tryz.func5, Tryz.ntmps5
  go_upto_region 1 with fail
  refine name_world ?_
  intro w1 hW1
  have HB1 := Lib.hid (show Below w.heap.size w w1 by rw [hW1]; exact balloc (Below.refl _ _) _)
  have HX1 := Lib.hid (show w1.heap[w.heap.size]? = some (.cells #[.int .i64 7, .string id, .int .i64 tick, .int .i64 val, .int .i64 handle, .int .i64 p0, .int .i64 p1, .int .i64 p2, .int .i64 p3, .int .i64 p4, .int .i64 p5] 37 (0, 0)) by rw [hW1]; exact heap_alloc_new _ _)
  clear hW1
  go_wp2_with (first
    | (go_at_call 24
       refine calls_named ?_
       intro V8 hV
       have hd : Below w7.heap.size w7 V8 := by rw [hV]; repeat (first | exact Below.refl _ _ | refine balloc ?_ _)
       clear hV
       refine (CT.out V8).mono ?_
       rintro e w8 ⟨rfl, hb⟩
       obtain ⟨HB8, HX8⟩ := keep1 (bthen hd hb) HB7 HX7
       obtain ⟨b1, b2, b3⟩ := box_cells (Below.refl _ _) HX8.out
       clear hd hb)
    | (go_at_call 17
       refine calls_named ?_
       intro V7 hV
       have hd : Below w6.heap.size w6 V7 := by rw [hV]; repeat (first | exact Below.refl _ _ | refine balloc ?_ _)
       clear hV
       refine (CD.out V7).mono ?_
       rintro e w7 ⟨rfl, hb⟩
       obtain ⟨HB7, HX7⟩ := keep1 (bthen hd hb) HB6 HX6
       obtain ⟨b1, b2, b3⟩ := box_cells (Below.refl _ _) HX7.out
       clear hd hb)
    | (go_at_call 23
       refine calls_named ?_
       intro V6 hV
       have hd : Below w5.heap.size w5 V6 := by rw [hV]; repeat (first | exact Below.refl _ _ | refine balloc ?_ _)
       clear hV
       refine (CP.out V6).mono ?_
       rintro e w6 ⟨rfl, hb⟩
       obtain ⟨HB6, HX6⟩ := keep1 (bthen hd hb) HB5 HX5
       obtain ⟨b1, b2, b3⟩ := box_cells (Below.refl _ _) HX6.out
       clear hd hb)
    | (go_at_call 22
       refine calls_named ?_
       intro V5 hV
       have hd : Below V4.heap.size V4 V5 := by rw [hV]; repeat (first | exact Below.refl _ _ | refine balloc ?_ _)
       clear hV
       refine (CL.out V5).mono ?_
       rintro e w5 ⟨rfl, hb⟩
       obtain ⟨HB5, HX5⟩ := keep1 (bthen hd hb) HB4 HX4
       obtain ⟨b1, b2, b3⟩ := box_cells (Below.refl _ _) HX5.out
       clear hd hb)
    | (go_at_call 21
       refine calls_named ?_
       intro V4 hV
       have hd : Below w3.heap.size w3 V4 := by rw [hV]; repeat (first | exact Below.refl _ _ | refine balloc ?_ _)
       clear hV
       refine (CI.out V4).mono ?_
       rintro e w4 ⟨rfl, hw⟩
       subst hw
       obtain ⟨HB4, HX4⟩ := keep1 hd HB3 HX3
       obtain ⟨b1, b2, b3⟩ := box_cells (Below.refl _ _) HX4.out
       clear hd)
    | (go_at_call 12
       refine calls_named ?_
       intro V3 hV
       have hd : Below w2.heap.size w2 V3 := by rw [hV]; repeat (first | exact Below.refl _ _ | refine balloc ?_ _)
       clear hV
       refine (CN.out V3).mono ?_
       rintro e w3 ⟨rfl, hb⟩
       obtain ⟨HB3, HX3⟩ := keep1 (bthen hd hb) HB2 HX2
       obtain ⟨b1, b2, b3⟩ := box_cells (Below.refl _ _) HX3.out
       clear hd hb)
    | (go_at_call 11
       refine calls_named ?_
       intro V2 hV
       have hd : Below w1.heap.size w1 V2 := by rw [hV]; repeat (first | exact Below.refl _ _ | refine balloc ?_ _)
       clear hV
       refine (awake22_any V2).mono ?_
       rintro e w2 ⟨rfl, hb⟩
       obtain ⟨HB2, HX2⟩ := keep1 (bthen hd hb) HB1 HX1
       obtain ⟨b1, b2, b3⟩ := box_cells (Below.refl _ _) HX2.out
       clear hd hb)
    | (go_at_call 20
       refine (flTwin_nil _).mono ?_
       rintro e u9 ⟨rfl, rfl⟩)
    | (go_at_call 25
       refine (flIds_nil _).mono ?_
       rintro e u9 ⟨rfl, rfl⟩))
  go_ret
  exact ⟨rfl, HB8.out⟩

set_option maxRecDepth 100000 in
set_option maxHeartbeats 4000000 in
theorem flNone_7n (id : ByteArray) (tick val handle : Int) (p : Pol) (w : World) (hm : id.size ≤ maxLen) (hid : idS id = false) :
    Calls Tryz.prog 5 #[callV ⟨7, id, tick, val, handle, p⟩] w fun e w' => e = .returned (.bool true) ∧ Below w.heap.size w w' := by
  have CD := Lib.hid (fun W => flDo_id7 none id tick val handle p W hm hid)
  have CN := Lib.hid (fun W => flNew_bad ⟨0, 0, 0, 0⟩ W (by unfold Cfg.ok I64; decide) (by decide))
  have CI := Lib.hid (fun W => id_any id W hm)
  have CL := Lib.hid (fun W => flLoad_nil id W)
  have CP := Lib.hid (fun W => flPlan_no none id none W (.inl rfl) (loadS_nil id W))
  have CT := Lib.hid (fun W => flNote_none none id adv0 W (loadS_nil id W))
  rw [hid] at CI
  obtain ⟨p0, p1, p2, p3, p4, p5⟩ := p
  unfold callV at CD ⊢
  unfold repV repC repF st0 adv0 at CD
  unfold cfgV at CN
  unfold advC adv0 at CP CT
  unfold ldV ldC it00 nd0 pol0 at CL
  dsimp only at CD CN CP CT CL ⊢
  clear hm
  go_enter Tryz.func5, Tryz.ntmps5
  go_upto_region 1 with fail
  refine name_world ?_
  intro w1 hW1
  have HB1 := Lib.hid (show Below w.heap.size w w1 by rw [hW1]; exact balloc (Below.refl _ _) _)
  have HX1 := Lib.hid (show w1.heap[w.heap.size]? = some (.cells #[.int .i64 7, .string id, .int .i64 tick, .int .i64 val, .int .i64 handle, .int .i64 p0, .int .i64 p1, .int .i64 p2, .int .i64 p3, .int .i64 p4, .int .i64 p5] 37 (0, 0)) by rw [hW1]; exact heap_alloc_new _ _)
  clear hW1
  go_wp2_with (first
    | (go_at_call 24
       refine calls_named ?_
       intro V8 hV
       have hd : Below w7.heap.size w7 V8 := by rw [hV]; repeat (first | exact Below.refl _ _ | refine balloc ?_ _)
       clear hV
       refine (CT.out V8).mono ?_
       rintro e w8 ⟨rfl, hb⟩
       obtain ⟨HB8, HX8⟩ := keep1 (bthen hd hb) HB7 HX7
       obtain ⟨b1, b2, b3⟩ := box_cells (Below.refl _ _) HX8.out
       clear hd hb)
    | (go_at_call 17
       refine calls_named ?_
       intro V7 hV
       have hd : Below w6.heap.size w6 V7 := by rw [hV]; repeat (first | exact Below.refl _ _ | refine balloc ?_ _)
       clear hV
       refine (CD.out V7).mono ?_
       rintro e w7 ⟨rfl, hb⟩
       obtain ⟨HB7, HX7⟩ := keep1 (bthen hd hb) HB6 HX6
       obtain ⟨b1, b2, b3⟩ := box_cells (Below.refl _ _) HX7.out
       clear hd hb)
    | (go_at_call 23
       refine calls_named ?_
       intro V6 hV
       have hd : Below w5.heap.size w5 V6 := by rw [hV]; repeat (first | exact Below.refl _ _ | refine balloc ?_ _)
       clear hV
       refine (CP.out V6).mono ?_
       rintro e w6 ⟨rfl, hb⟩
       obtain ⟨HB6, HX6⟩ := keep1 (bthen hd hb) HB5 HX5
       obtain ⟨b1, b2, b3⟩ := box_cells (Below.refl _ _) HX6.out
       clear hd hb)
    | (go_at_call 22
       refine calls_named ?_
       intro V5 hV
       have hd : Below V4.heap.size V4 V5 := by rw [hV]; repeat (first | exact Below.refl _ _ | refine balloc ?_ _)
       clear hV
       refine (CL.out V5).mono ?_
       rintro e w5 ⟨rfl, hb⟩
       obtain ⟨HB5, HX5⟩ := keep1 (bthen hd hb) HB4 HX4
       obtain ⟨b1, b2, b3⟩ := box_cells (Below.refl _ _) HX5.out
       clear hd hb)
    | (go_at_call 21
       refine calls_named ?_
       intro V4 hV
       have hd : Below w3.heap.size w3 V4 := by rw [hV]; repeat (first | exact Below.refl _ _ | refine balloc ?_ _)
       clear hV
       refine (CI.out V4).mono ?_
       rintro e w4 ⟨rfl, hw⟩
       subst hw
       obtain ⟨HB4, HX4⟩ := keep1 hd HB3 HX3
       obtain ⟨b1, b2, b3⟩ := box_cells (Below.refl _ _) HX4.out
       clear hd)
    | (go_at_call 12
       refine calls_named ?_
       intro V3 hV
       have hd : Below w2.heap.size w2 V3 := by rw [hV]; repeat (first | exact Below.refl _ _ | refine balloc ?_ _)
       clear hV
       refine (CN.out V3).mono ?_
       rintro e w3 ⟨rfl, hb⟩
       obtain ⟨HB3, HX3⟩ := keep1 (bthen hd hb) HB2 HX2
       obtain ⟨b1, b2, b3⟩ := box_cells (Below.refl _ _) HX3.out
       clear hd hb)
    | (go_at_call 11
       refine calls_named ?_
       intro V2 hV
       have hd : Below w1.heap.size w1 V2 := by rw [hV]; repeat (first | exact Below.refl _ _ | refine balloc ?_ _)
       clear hV
       refine (awake22_any V2).mono ?_
       rintro e w2 ⟨rfl, hb⟩
       obtain ⟨HB2, HX2⟩ := keep1 (bthen hd hb) HB1 HX1
       obtain ⟨b1, b2, b3⟩ := box_cells (Below.refl _ _) HX2.out
       clear hd hb)
    | (go_at_call 20
       refine (flTwin_nil _).mono ?_
       rintro e u9 ⟨rfl, rfl⟩)
    | (go_at_call 25
       refine (flIds_nil _).mono ?_
       rintro e u9 ⟨rfl, rfl⟩))
  go_ret
  exact ⟨rfl, HB8.out⟩

theorem flNone_any (x : CallD) (w : World) (hx : x.ok) : Calls Tryz.prog 5 #[callV x] w fun e w' => e = .returned (.bool true) ∧ Below w.heap.size w w' := by
  obtain ⟨kind, id, tick, val, handle, p⟩ := x
  have hm : id.size ≤ maxLen := hx.2.1
  by_cases h1 : kind < 1
  · exact flNone_lo kind id tick val handle p w hm h1
  by_cases h2 : 8 < kind
  · exact flNone_hi kind id tick val handle p w hm h2
  have hcase : kind = 1 ∨ kind = 2 ∨ kind = 3 ∨ kind = 4 ∨ kind = 5 ∨ kind = 6 ∨ kind = 7 ∨ kind = 8 := by omega
  rcases hcase with rfl | rfl | rfl | rfl | rfl | rfl | rfl | rfl
  · cases hid : idS id with
    | true => exact flNone_1y id tick val handle p w hm hid
    | false => exact flNone_1n id tick val handle p w hm hid
  · exact flNone_2 id tick val handle p w hm
  · exact flNone_3 id tick val handle p w hm
  · exact flNone_4 id tick val handle p w hm
  · cases hid : idS id with
    | true => exact flNone_5y id tick val handle p w hm hid
    | false => exact flNone_5n id tick val handle p w hm hid
  · cases hid : idS id with
    | true => exact flNone_6y id tick val handle p w hm hid
    | false => exact flNone_6n id tick val handle p w hm hid
  · cases hid : idS id with
    | true => exact flNone_7y id tick val handle p w hm hid
    | false => exact flNone_7n id tick val handle p w hm hid
  · exact flNone_8 id tick val handle p w hm
end

section
set_option linter.unusedSimpArgs false
set_option linter.unusedVariables false
open Go.RowKit Go.Lib Go.ChangeShapes Go.WideShapes Go.Joins

theorem i64_of_wf {n : Int} (h : (Lit.int .i64 n).wf = true) : I64 n := by simpa [Lit.wf, IntKind.min, IntKind.max, IntKind.signed, IntKind.bits, I64] using h

theorem cl_pol : Tryz.prog.cellsOf 35 = 6 := by kernel_rfl
theorem cl_call : Tryz.prog.cellsOf 37 = 11 := by kernel_rfl
theorem cl_i64 : Tryz.prog.cellsOf 2 = 1 := by kernel_rfl
theorem cl_int : Tryz.prog.cellsOf 3 = 1 := by kernel_rfl
theorem cl_str : Tryz.prog.cellsOf 9 = 1 := by kernel_rfl

theorem list6 {α : Type} {l : List α} (h : l.length = 6) : ∃ a0 a1 a2 a3 a4 a5, l = [a0, a1, a2, a3, a4, a5] := by
  match l, h with
  | [a0, a1, a2, a3, a4, a5], _ => exact ⟨_, _, _, _, _, _, rfl⟩
theorem list11 {α : Type} {l : List α} (h : l.length = 11) : ∃ a0 a1 a2 a3 a4 a5 a6 a7 a8 a9 a10, l = [a0, a1, a2, a3, a4, a5, a6, a7, a8, a9, a10] := by
  match l, h with
  | [a0, a1, a2, a3, a4, a5, a6, a7, a8, a9, a10], _ => exact ⟨_, _, _, _, _, _, _, _, _, _, _, rfl⟩

section
variable {H : Type} {enc : TypeId × Value → H} {w : World} {base : Nat} {spare : Nat → Bool} {held : Bool}

/-- One field of a struct that is a number. -/
theorem field_i64 {fuel : Nat} {t : TypeId} (ht : Tryz.prog.underlying t = some (.int .i64)) (hc : Tryz.prog.cellsOf t = 1) {cs : List Value} {xs : List (DataW H × List MemPlace)} {i o : Nat} (hi : i < xs.length) {v : Value} (hv : cs.drop o = v :: cs.drop (o + 1))
    (h : DataW.trod enc Tryz.prog w base spare held fuel t ((cs.drop o).take (Tryz.prog.cellsOf t)) = xs[i]?) : ∃ n, v = .int .i64 n ∧ I64 n := by
  rw [hc, hv, List.take_succ_cons, List.take_zero, List.getElem?_eq_getElem hi] at h
  obtain ⟨n, hn, _, hw⟩ := DataW.trod_int ht h
  simp only [List.cons.injEq, and_true] at hn
  exact ⟨n, hn, i64_of_wf hw⟩

theorem field_str {fuel : Nat} {t : TypeId} (ht : Tryz.prog.underlying t = some .string) (hc : Tryz.prog.cellsOf t = 1) {cs : List Value} {xs : List (DataW H × List MemPlace)} {i o : Nat} (hi : i < xs.length) {v : Value} (hv : cs.drop o = v :: cs.drop (o + 1))
    (h : DataW.trod enc Tryz.prog w base spare held fuel t ((cs.drop o).take (Tryz.prog.cellsOf t)) = xs[i]?) : ∃ s : ByteArray, v = .string s ∧ s.size ≤ maxLen := by
  rw [hc, hv, List.take_succ_cons, List.take_zero, List.getElem?_eq_getElem hi] at h
  obtain ⟨n, hn, _, hw⟩ := DataW.trod_string ht h
  simp only [List.cons.injEq, and_true] at hn
  exact ⟨n, hn, hw⟩

theorem pol_reads {fuel : Nat} {cs : List Value} {x : DataW H × List MemPlace} (h : DataW.trod enc Tryz.prog w base spare held fuel 35 cs = some x) :
    ∃ p : Pol, p.ok ∧ cs = [.int .i64 p.mn, .int .i64 p.mx, .int .i64 p.tg, .int .i64 p.tol, .int .i64 p.win, .int .i64 p.hold] := by
  obtain ⟨xs, n, _, _, hl, hx, hf⟩ := DataW.trod_struct Tryz.underlying35 h
  rw [cl_pol] at hl
  replace hx : xs.length = 6 := hx
  obtain ⟨a0, a1, a2, a3, a4, a5, rfl⟩ := list6 hl
  obtain ⟨n0, rfl, k0⟩ := field_i64 Tryz.underlying2 cl_i64 (i := 0) (by omega) (o := 0) rfl (hf 0 _ rfl)
  obtain ⟨n1, rfl, k1⟩ := field_i64 Tryz.underlying2 cl_i64 (i := 1) (by omega) (o := 1) rfl (hf 1 _ rfl)
  obtain ⟨n2, rfl, k2⟩ := field_i64 Tryz.underlying2 cl_i64 (i := 2) (by omega) (o := 2) rfl (hf 2 _ rfl)
  obtain ⟨n3, rfl, k3⟩ := field_i64 Tryz.underlying2 cl_i64 (i := 3) (by omega) (o := 3) rfl (hf 3 _ rfl)
  obtain ⟨n4, rfl, k4⟩ := field_i64 Tryz.underlying2 cl_i64 (i := 4) (by omega) (o := 4) rfl (hf 4 _ rfl)
  obtain ⟨n5, rfl, k5⟩ := field_i64 Tryz.underlying2 cl_i64 (i := 5) (by omega) (o := 5) rfl (hf 5 _ rfl)
  exact ⟨⟨n0, n1, n2, n3, n4, n5⟩, ⟨k0, k1, k2, k3, k4, k5⟩, rfl⟩

theorem call_reads {fuel : Nat} {cs : List Value} {x : DataW H × List MemPlace} (h : DataW.trod enc Tryz.prog w base spare held fuel 37 cs = some x) :
    ∃ c : CallD, c.ok ∧ cs = callCells c := by
  obtain ⟨xs, n, _, _, hl, hx, hf⟩ := DataW.trod_struct Tryz.underlying37 h
  rw [cl_call] at hl
  replace hx : xs.length = 6 := hx
  obtain ⟨a0, a1, a2, a3, a4, a5, a6, a7, a8, a9, a10, rfl⟩ := list11 hl
  obtain ⟨n0, rfl, k0⟩ := field_i64 Tryz.underlying3 cl_int (i := 0) (by omega) (o := 0) rfl (hf 0 _ rfl)
  obtain ⟨n1, rfl, k1⟩ := field_str Tryz.underlying9 cl_str (i := 1) (by omega) (o := 1) rfl (hf 1 _ rfl)
  obtain ⟨n2, rfl, k2⟩ := field_i64 Tryz.underlying2 cl_i64 (i := 2) (by omega) (o := 2) rfl (hf 2 _ rfl)
  obtain ⟨n3, rfl, k3⟩ := field_i64 Tryz.underlying2 cl_i64 (i := 3) (by omega) (o := 3) rfl (hf 3 _ rfl)
  obtain ⟨n4, rfl, k4⟩ := field_i64 Tryz.underlying3 cl_int (i := 4) (by omega) (o := 4) rfl (hf 4 _ rfl)
  have h5 := hf 5 _ rfl
  rw [List.getElem?_eq_getElem (by omega)] at h5
  obtain ⟨p, k5, hp⟩ := pol_reads h5
  replace hp : ([a5, a6, a7, a8, a9, a10] : List Value).take (Tryz.prog.cellsOf 35) = _ := hp
  rw [cl_pol] at hp
  simp only [List.take_succ_cons, List.take_zero, List.cons.injEq, and_true] at hp
  obtain ⟨rfl, rfl, rfl, rfl, rfl, rfl⟩ := hp
  exact ⟨⟨n0, n1, n2, n3, n4, p⟩, ⟨k0, k1, k2, k3, k4, k5⟩, rfl⟩

end
end

end Go.Proofs.YtmniiodpbebnmaaGreat
