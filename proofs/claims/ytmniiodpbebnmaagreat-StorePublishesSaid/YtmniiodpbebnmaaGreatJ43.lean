/- Walks of a table's Open, a store's Publish; A whole row is stored into a block; A reply that says nothing. -/
import Derived.Test.YtmniiodpbebnmaaGreatJ42
import Derived.Test.YtmniiodpbebnmaaGreatJ05
import Derived.Test.YtmniiodpbebnmaaGreatJ11
namespace Go.Proofs.YtmniiodpbebnmaaGreat

section
set_option linter.unusedSimpArgs false
set_option linter.unusedVariables false
open Go.RowKit Go.Lib Go.Sort
open Go.ChangeMaps (setBlock)

section
variable {B : Nat → Prop} {S : Nat} {c : Cfg} {rs rh n : Nat} {wd : Wd} {d : StoD}
set_option maxRecDepth 100000 in
set_option maxHeartbeats 1000000 in
theorem tabOpen_full (w : World) (h : StoreAt B w S c rs rh n wd d) (hl : wd.cuts.length ≤ 900000) (C : Nat) (hf : 64 ≤ d.live.length) :
    Calls Tryz.prog 93 #[.pointer (some ⟨d.H, 0, none⟩), .pointer (some ⟨C, 0, none⟩)] w fun e w' => e = .returned (.tuple #[.int .i64 0, .int .i64 6]) ∧ w' = w := by
  obtain ⟨a1, a2, a3⟩ := box_cells (Below.refl _ _) h.tab
  have hlen := fun ty => len_hd h.live ty
  have z1 : ¬ ((wd.cuts.length + 1 : Nat) : Int) < 1 := by omega
  have z2 : (64 : Int) ≤ (d.live.length : Int) := by omega
  generalize ((wd.cuts.length + 1 : Nat) : Int) = m at a1 z1
  clear h hf
  go_enter Tryz.func93, Tryz.ntmps93
  go_wp2
  go_ret2
  exact ⟨rfl, rfl⟩
set_option maxRecDepth 100000 in
set_option maxHeartbeats 1000000 in
theorem tabOpen_ok (w : World) (h : StoreAt B w S c rs rh n wd d) (hl : wd.cuts.length ≤ 900000) (C : Nat) (hf : ¬ 64 ≤ d.live.length) :
    Calls Tryz.prog 93 #[.pointer (some ⟨d.H, 0, none⟩), .pointer (some ⟨C, 0, none⟩)] w fun e w' => e = .returned (.tuple #[.int .i64 ((wd.cuts.length + 1 : Nat) : Int), .int .i64 0]) ∧ ∃ o, w' = (setBlock w d.L o).setCell ⟨d.H, 1, none⟩ (.int .i64 ((wd.cuts.length + 1 + 1 : Nat) : Int)) ∧ MapIn hdV blkV (setBlock w d.L o) d.L (putM d.live (hdl (wd.cuts.length + 1)) C) := by
  obtain ⟨a1, a2, a3⟩ := box_cells (Below.refl _ _) h.tab
  have hlen := fun ty => len_hd h.live ty
  obtain ⟨o, ho1, ho2⟩ := store_hd h.live (hdl (wd.cuts.length + 1)) C
  rw [hdl_val (by omega)] at ho1
  have HO2 := Lib.hid ho2
  have htab2 : (setBlock w d.L o).heap[d.H]? = _ := (setBlock_other h.ne.2.2).trans h.tab
  obtain ⟨b1, b2, b3⟩ := box_cells (Below.refl _ _) htab2
  have hm : ((wd.cuts.length + 1 + 1 : Nat) : Int) = ((wd.cuts.length + 1 : Nat) : Int) + 1 := by omega
  have z1 : ¬ ((wd.cuts.length + 1 : Nat) : Int) < 1 := by omega
  have z2 : ¬ (64 : Int) ≤ (d.live.length : Int) := by omega
  have z3 : ((wd.cuts.length + 1 : Nat) : Int) ≤ 1000000 := by omega
  rw [hm]
  have hB : ∃ q : Nat, q = wd.cuts.length + 1 := ⟨_, rfl⟩
  generalize ((wd.cuts.length + 1 : Nat) : Int) = m at a1 b1 z1 z3 ho1 ⊢
  have hw : IntKind.i64.wrap (m + 1) = m + 1 := by rw [IntKind.wrap_i64]; omega
  have hw2 : wrap64 (m + 1) = m + 1 := by unfold wrap64; omega
  obtain ⟨m1, hm1⟩ : ∃ m1, m1 = m + 1 := ⟨_, rfl⟩
  rw [← hm1] at hw hw2 ⊢
  clear h hf hm htab2 ho2 hB
  go_enter Tryz.func93, Tryz.ntmps93
  go_wp2
  go_ret2
  exact ⟨rfl, o, rfl, HO2.out⟩

/-- What Publish makes of the stripes' entries, frozen. -/
structure PubIn (w : World) (v : Value) (d : StoD) : Prop where
  fz : ∀ s ∈ d.sts, allFz s.es
  parts : ∃ ps : List PartE, PartsIn w v ps ∧ (ps.flatMap fun p => keptE (fun _ => true) p.2.2) = entS d.sts ∧ (∀ p ∈ ps, ∀ x ∈ p.2.2, ∀ N, x.2 = some N → FzN w N true) ∧ ps.length ≤ 1000 ∧ ∀ p ∈ ps, p.2.2.length ≤ 1000000
theorem PubIn.below {w w' : World} {v : Value} (h : PubIn w v d) (hb : Below w.heap.size w w') : PubIn w' v d := by
  obtain ⟨ps, h1, h2, h3, h4, h5⟩ := h.parts
  exact ⟨h.fz, ps, h1.below hb, h2, fun p hp x hx N hN => (h3 p hp x hx N hN).below hb, h4, h5⟩
theorem pub_new (w : World) (v : Value) (h : StoreAt B w S c rs rh n wd d) (hB : ∀ b, w.heap.size ≤ b → B b) (hp : PubIn w v d) (hh : HomeOk c wd) (hl : (allW wd).length ≤ 40) (ep : Int) :
    Calls Tryz.prog 94 #[.int .i64 ep, v] w fun e w' => ∃ C, e = .returned (.pointer (some ⟨C, 0, none⟩)) ∧ CutHas (fun b => b ∉ d.fp S ∧ B b) w' C rs rh ep (allW wd) ∧ w.heap.size ≤ C ∧ Below w.heap.size w w' := by
  obtain ⟨ps, h1, h2, h3, h4, h5⟩ := hp.parts
  refine (cutNew_any ep v ps (fun _ => true) w h1 h3 (by rw [h2, h.ent_len]; exact hl) h4 h5).mono ?_
  rintro e w' ⟨C, rfl, hC, hb⟩
  rw [h2] at hC
  exact ⟨C, rfl, h.cut_has hB hp.fz hh (by omega) hC hb, hC.1, hb⟩

set_option maxRecDepth 100000 in
set_option maxHeartbeats 2000000 in
theorem stoPublish_full (w : World) (v : Value) (h : StoreAt B w S c rs rh n wd d) (hB : ∀ b, w.heap.size ≤ b → B b) (hp0 : 0 < d.sts.length) (hp : PubIn w v d) (hh : HomeOk c wd) (hl : (allW wd).length ≤ 40) (hc : wd.cuts.length ≤ 900000) (hep : 0 ≤ wd.ep ∧ wd.ep ≤ 1000000) (hf : 64 ≤ d.live.length) :
    Calls Tryz.prog 34 #[.pointer (some ⟨S, 0, none⟩), v] w fun e w' => e = .returned (.tuple #[.int .i64 0, .int .i64 0, .int .i64 6]) ∧ Below w.heap.size w w' := by
  obtain ⟨a1, a2, a3⟩ := box_cells (Below.refl _ _) h.cell
  have HM := Lib.hid (stoMade_any w h hp0)
  obtain ⟨e1, he1⟩ : ∃ e1, e1 = wd.ep + 1 := ⟨_, rfl⟩
  have hw : IntKind.i64.wrap (wd.ep + 1) = e1 := by rw [IntKind.wrap_i64]; omega
  have hw2 : wrap64 (wd.ep + 1) = e1 := by unfold wrap64; omega
  have CN := Lib.hid (fun W (hW : Below w.heap.size w W) => pub_new W v (h.below hW) (fun b hb => hB b (Nat.le_trans hW.size hb)) (hp.below hW) hh hl (wd.ep + 1))
  have CO := Lib.hid (fun W (hW : Below w.heap.size w W) C => tabOpen_full W (h.below hW) hc C hf)
  rw [← he1] at CN
  have rs1 : ∀ U, Below w.heap.size w U → U.cell? ⟨S, 1, none⟩ = some (.pointer (some ⟨d.H, 0, none⟩)) := fun U hU => (hU.cell (p := ⟨S, _, none⟩) a3).trans (a1 1)
  have rs2 : ∀ U, Below w.heap.size w U → U.cell? ⟨S, 2, none⟩ = some (.int .i64 wd.ep) := fun U hU => (hU.cell (p := ⟨S, _, none⟩) a3).trans (a1 2)
  clear h hp hh hB he1 a1 a2 hp0 hep
  generalize wd.ep = ep at *
  go_enter Tryz.func34, Tryz.ntmps34
  go_wp2_with (go_at_call 80; refine HM.out.mono ?_; rintro e w' ⟨rfl, rfl⟩)
  have hS00 : Below w'.heap.size w' w' := Below.refl _ _
  have hS0 : Below w'.heap.size w' w'.drew := hS00.drew
  go_region_held3 (fun U => Below w'.heap.size w' U)
    (first
      | with_reducible exact hS0
      | with_reducible exact HB5.out
      | with_reducible exact hS00)
    (first
    | (go_at_call 94
       refine (CN.out _ ‹Below w'.heap.size w' _›).mono ?_
       rintro e w5 ⟨C, rfl, _, _, hb5⟩
       have HB5 := Lib.hid (bthen ‹Below w'.heap.size w' _› hb5)
       clear hb5)
    | (go_at_call 93
       refine (CO.out _ ‹Below w'.heap.size w' _› _).mono ?_
       rintro e w6 ⟨rfl, rfl⟩))
  all_goals
    refine then_named ?_
    intro W6 hW6
    have hb6 : Below w'.heap.size w' W6 := by rw [hW6]; first | exact HB5.out | exact HB5.out.drew | exact below_drewN HB5.out _
    clear hW6
    go_wp2
    go_ret3
    exact ⟨rfl, hb6⟩

set_option maxRecDepth 100000 in
set_option maxHeartbeats 4000000 in
theorem stoPublish_ok (w : World) (v : Value) (h : StoreAt B w S c rs rh n wd d) (hB : ∀ b, w.heap.size ≤ b → B b) (hp0 : 0 < d.sts.length) (hp : PubIn w v d) (hh : HomeOk c wd) (hl : (allW wd).length ≤ 40) (hc : wd.cuts.length ≤ 900000) (hep : 0 ≤ wd.ep ∧ wd.ep ≤ 1000000) (hf : ¬ 64 ≤ d.live.length) :
    Calls Tryz.prog 34 #[.pointer (some ⟨S, 0, none⟩), v] w fun e w' => e = .returned (.tuple #[.int .i64 (wd.ep + 1), .int .i64 ((wd.cuts.length + 1 : Nat) : Int), .int .i64 0]) ∧
      ∃ C, w.heap.size ≤ C ∧ StoreAt B w' S c rs rh n { wd with ep := wd.ep + 1, cuts := wd.cuts ++ [⟨wd.ep + 1, allW wd, false⟩] } { d with live := putM d.live (hdl (wd.cuts.length + 1)) C } ∧ Upd w w' (d.fp S) (d.fp S) := by
  obtain ⟨a1, a2, a3⟩ := box_cells (Below.refl _ _) h.cell
  have HM := Lib.hid (stoMade_any w h hp0)
  obtain ⟨e1, he1⟩ : ∃ e1, e1 = wd.ep + 1 := ⟨_, rfl⟩
  have hw : IntKind.i64.wrap (wd.ep + 1) = e1 := by rw [IntKind.wrap_i64]; omega
  have hw2 : wrap64 (wd.ep + 1) = e1 := by unfold wrap64; omega
  have H := Lib.hid h
  have HEP := Lib.hid hep
  have HCL := Lib.hid hc
  have CN := Lib.hid (fun W (hW : Below w.heap.size w W) => pub_new W v (h.below hW) (fun b hb => hB b (Nat.le_trans hW.size hb)) (hp.below hW) hh hl (wd.ep + 1))
  have CO := Lib.hid (fun W (hW : Below w.heap.size w W) C => tabOpen_ok W (h.below hW) hc C hf)
  have rs1 : ∀ U, Below w.heap.size w U → U.cell? ⟨S, 1, none⟩ = some (.pointer (some ⟨d.H, 0, none⟩)) := fun U hU => (hU.cell (p := ⟨S, _, none⟩) a3).trans (a1 1)
  have rs2 : ∀ U, Below w.heap.size w U → U.cell? ⟨S, 2, none⟩ = some (.int .i64 wd.ep) := fun U hU => (hU.cell (p := ⟨S, _, none⟩) a3).trans (a1 2)
  have HE1 := Lib.hid he1
  rw [← he1] at CN ⊢
  obtain ⟨m1, hm1⟩ : ∃ m1, m1 = ((wd.cuts.length + 1 : Nat) : Int) := ⟨_, rfl⟩
  obtain ⟨m2, hm2⟩ : ∃ m2, m2 = ((wd.cuts.length + 1 + 1 : Nat) : Int) := ⟨_, rfl⟩
  have HM2 := Lib.hid hm2
  rw [← hm1, ← hm2] at CO
  rw [← hm1]
  clear h hp hh hB he1 a1 a2 hp0 hep hm1 hm2 hc hl hf
  go_enter Tryz.func34, Tryz.ntmps34
  go_wp2_with (go_at_call 80; refine HM.out.mono ?_; rintro e w' ⟨rfl, rfl⟩)
  go_region_with (first
    | (go_at_call 94
       refine calls_named ?_
       intro W2 hW2
       have hb2 : Below w'.heap.size w' W2 := by rw [hW2]; repeat (first | exact Below.refl _ _ | refine balloc ?_ _ | refine Below.drew ?_)
       clear hW2
       refine (CN.out W2 hb2).mono ?_
       rintro e w5 ⟨C, rfl, hC5, hge, hb5⟩
       have HB5 := Lib.hid (bthen hb2 hb5)
       have HC5 := Lib.hid hC5
       have HGE := Lib.hid (Nat.le_trans hb2.size hge)
       have h5 := bthen hb2 hb5
       clear hb2 hb5 hC5 hge)
    | (go_at_call 93
       refine calls_named ?_
       intro W4 hW4
       have hb4 : Below w5.heap.size w5 W4 := by rw [hW4]; repeat (first | exact Below.refl _ _ | refine balloc ?_ _ | refine Below.drew ?_)
       clear hW4
       have HB4 := Lib.hid hb4
       refine (CO.out W4 (bthen HB5.out hb4) C).mono ?_
       rintro e w6 ⟨rfl, o, hw6, ho⟩
       have HW6 := Lib.hid hw6
       have HO := Lib.hid ho
       have hS6 := (show w6.heap[S]? = W4.heap[S]? by rw [hw6]; exact (setCell_keep H.out.ne.1).trans (setBlock_other H.out.ne.2.1)).trans (H.out.below (bthen HB5.out hb4)).cell
       have HS6 := Lib.hid hS6
       clear hb4 hw6 ho hS6))
  all_goals
    refine then_named ?_
    intro W7 hW7
    have hh7 : W7.heap = w6.heap := by rw [hW7]
    have h70 : W7.os = w6.os ∧ W7.tape = w6.tape ∧ W7.output = w6.output := by rw [hW7]; refine ⟨?_, ?_, ?_⟩ <;> rfl
    have hS7 : W7.heap[S]? = _ := (show W7.heap[S]? = w6.heap[S]? by rw [hh7]).trans HS6.out
    obtain ⟨b1, b2, b3⟩ := box_cells (Below.refl _ _) hS7
    have HH7 := Lib.hid hh7
    have H70 := Lib.hid h70
    have HS7 := Lib.hid hS7
    clear hW7 hh7 h70 hS7 h5 rs1 rs2 a3
    go_wp2
    go_ret3
    refine ⟨rfl, C, HGE.out, ?_⟩
    have hb45 := bthen HB5.out HB4.out
    have hat := H.out.below hb45
    have hC4 := HC5.out.keep HB4.out.size (fun b hb hlt => ⟨HB4.out.block b hlt, hb⟩)
    have hw6 := HW6.out
    have hw7 := HH7.out
    have hL7 : W7.heap.size = W4.heap.size := by rw [hw7, hw6]; simp [setBlock_size]
    have hk7 : ∀ r, r ≠ d.H → r ≠ d.L → W7.heap[r]? = W4.heap[r]? := fun r h1 h2 => by rw [hw7, hw6]; exact (setCell_keep h1).trans (setBlock_other h2)
    have hop := hat.opened (w' := W7.setCell ⟨S, 2, none⟩ (.int .i64 e1)) (C := C) HCL.out HEP.out.1 (by rw [← HE1.out]; exact hC4) (by show W7.os = _; rw [H70.out.1, hw6]; rfl) (by show W7.tape = _; rw [H70.out.2.1, hw6]; rfl) (by show W7.output = _; rw [H70.out.2.2, hw6]; rfl) (by simp [hL7]) (fun r h1 h2 h3 => (setCell_keep h1).trans (hk7 r h2 h3))
      (by rw [setCell_block HS7.out, ← HE1.out]; rfl)
      (by
        rw [setCell_keep (Ne.symm H.out.ne.1), hw7, hw6, setCell_block ((setBlock_other H.out.ne.2.2).trans hat.tab), HM2.out]
        rfl)
      (HO.out.block ((setCell_keep (Ne.symm H.out.ne.2.1)).trans (by rw [hw7, hw6]; exact setCell_keep (Ne.symm H.out.ne.2.2))))
    rw [← HE1.out] at hop
    exact ⟨hop.1, (Upd.of_below hb45 _).trans hop.2⟩
end
end

section
set_option linter.unusedSimpArgs false
set_option linter.unusedVariables false
open Go.RowKit Go.Lib

def stor (w : World) (B i : Nat) : List Value → World
  | [] => w
  | v :: vs => stor (w.setCell ⟨B, i, none⟩ v) B (i + 1) vs
theorem stor_one {w : World} {B i : Nat} {cs : Array Value} {T : TypeId} {fr : Nat × Nat} {v : Value} (h : w.heap[B]? = some (.cells cs T fr)) : (w.setCell ⟨B, i, none⟩ v).heap[B]? = some (.cells (cs.setIfInBounds i v) T fr) := by
  obtain ⟨hlt, hk⟩ := Array.getElem?_eq_some_iff.1 h
  show (w.heap.modify B _)[B]? = _
  rw [Array.getElem?_eq_getElem (by rw [Array.size_modify]; exact hlt), Array.getElem_modify_self, hk]
  simp
theorem stor_other {w : World} {B i k : Nat} {v : Value} (h : k ≠ B) : (w.setCell ⟨B, i, none⟩ v).heap[k]? = w.heap[k]? := by
  show (w.heap.modify B _)[k]? = _
  by_cases hk : k < w.heap.size
  · rw [Array.getElem?_eq_getElem (by rw [Array.size_modify]; exact hk), Array.getElem_modify_of_ne (Ne.symm h), Array.getElem?_eq_getElem hk]
  · rw [Array.getElem?_eq_none (by rw [Array.size_modify]; omega), Array.getElem?_eq_none (by omega)]
theorem stor_all : ∀ (vs : List Value) (w : World) (B i : Nat) (cs : Array Value) (T : TypeId), w.heap[B]? = some (.cells cs T (0, 0)) → cs.size = i + vs.length →
    (stor w B i vs).heap[B]? = some (.cells ((cs.toList.take i ++ vs).toArray) T (0, 0)) ∧ (∀ k, k ≠ B → (stor w B i vs).heap[k]? = w.heap[k]?) ∧ (stor w B i vs).heap.size = w.heap.size ∧ ∀ n, n ≤ B → Below n w (stor w B i vs) := by
  intro vs
  induction vs with
  | nil =>
    intro w B i cs T h hn
    refine ⟨?_, fun _ _ => rfl, rfl, fun n _ => Below.refl _ _⟩
    simp only [List.length_nil, Nat.add_zero] at hn
    rw [stor, h, List.append_nil, List.take_of_length_le (by simp; omega)]
  | cons v vs ih =>
    intro w B i cs T h hn
    simp only [List.length_cons] at hn
    have h1 := stor_one (i := i) (v := v) h
    obtain ⟨a1, a2, a3, a4⟩ := ih (w.setCell ⟨B, i, none⟩ v) B (i + 1) _ T h1 (by simp; omega)
    refine ⟨?_, fun k hk => (a2 k hk).trans (stor_other hk), a3.trans (by simp [World.setCell]), fun n hn => ((Below.refl _ _).setCell hn _).trans (a4 n hn)⟩
    rw [stor, a1]
    congr 3
    rw [Array.toList_setIfInBounds, List.take_add_one, List.take_set_of_le (Nat.le_refl _)]
    rw [List.getElem?_set_self (by simp; omega)]
    simp
theorem stor_at {w : World} {B : Nat} {cs : Array Value} {T : TypeId} (h : w.heap[B]? = some (.cells cs T (0, 0))) (vs : List Value) (hn : cs.size = vs.length) : ∀ W, W = stor w B 0 vs →
    W.heap[B]? = some (.cells vs.toArray T (0, 0)) ∧ (∀ k, k ≠ B → W.heap[k]? = w.heap[k]?) ∧ W.heap.size = w.heap.size ∧ ∀ n, n ≤ B → Below n w W := by
  rintro W rfl
  have := stor_all vs w B 0 cs T h (by omega)
  simpa using this
end

section
set_option linter.unusedSimpArgs false
set_option linter.unusedVariables false
open Go.RowKit Go.Lib

/-- The cells of a reply that was not written yet. -/
def zR : List Value := [.int .i64 0, .int .i64 0, .int .i64 0, .int .i64 0, .int .i64 0, .int .i64 0, .int .i64 0, .int .i64 0, .int .i64 0, .int .i64 0, .int .i64 0, .int .i64 0, .int .i64 0]
end

end Go.Proofs.YtmniiodpbebnmaaGreat
