/- flat's free; Contracts of the shelf, laid at this program (by lay-plain.mjs; numbers by name); flat's Ids. -/
import Derived.Test.YtmniiodpbebnmaaGreatC31
import Derived.Test.YtmniiodpbebnmaaGreatC01
import Derived.Shelf.SlIter.Nil
import Derived.Shelf.SortM.Plain
import Derived.Shelf.SortM.SortNone
namespace Go.Proofs.YtmniiodpbebnmaaGreat

section
set_option linter.unusedSimpArgs false
set_option linter.unusedVariables false
open Go.RowKit Go.Lib

def fc0 : FCut := ⟨0, none, [], true⟩
theorem fcRow_set (l : List FCut) (x : FCut) : ∀ p, p < l.length → cellsOfRow fcC (l.set p x) = (((cellsOfRow fcC l).set (p * 3) (.int .i64 x.ep)).set (p * 3 + 1) (.map x.m)).set (p * 3 + 2) (.bool x.fr) := by
  induction l with
  | nil => intro p hp; simp at hp
  | cons a l ih =>
    intro p hp
    cases p with
    | zero => rfl
    | succ p =>
      rw [List.set_cons_succ, cellsOfRow_cons, cellsOfRow_cons, ih p (by simpa using hp), show (p + 1) * 3 = p * 3 + 3 by omega]
      rfl
theorem own_setF {base : Nat} {w : World} {g c : Nat} {l : List FCut} (h : OwnL fcC 136 3 base w (.slice (some ⟨g, 0, none⟩) l.length c) l) (p : Nat) (hp : p < l.length) (x : FCut) :
    OwnL fcC 136 3 base (((w.setCell ⟨g, p * 3, none⟩ (.int .i64 x.ep)).setCell ⟨g, p * 3 + 1, none⟩ (.map x.m)).setCell ⟨g, p * 3 + 2, none⟩ (.bool x.fr)) (.slice (some ⟨g, 0, none⟩) l.length c) (l.set p x) := by
  obtain ⟨h1, g1⟩ := World.ownsRow.stored h (p * 3) (.int .i64 x.ep)
  obtain ⟨h2, g2⟩ := World.ownsRow.stored h1 (p * 3 + 1) (.map x.m)
  obtain ⟨h3, g3⟩ := World.ownsRow.stored h2 (p * 3 + 2) (.bool x.fr)
  unfold OwnL
  rw [fcRow_set l x p hp, List.length_set]
  exact h3
theorem FlatAt.free {P : Nat → Prop} {w w8 : World} {M : Nat} {c : Cfg} {rs rh n m : Nat} {wd : Wd} {d : FlatD} (h : FlatAt P w M c rs rh n wd d) (j : Nat) (hs : w.heap.size ≤ w8.heap.size) (hk : ∀ b, b ≠ M → b < w.heap.size → w8.heap[b]? = w.heap[b]?) {A : Option Addr} {cp : Nat}
    (hcell : w8.heap[M]? = some (.cells #[.int .i64 c.st, .int .i64 c.sa, .int .i64 c.lo, .int .i64 c.hi, .map (some d.L), .slice A (d.cuts.set j fc0).length cp, .int .i64 wd.ep, .bool wd.over] 103 (0, 0)))
    (hrow : RowG P 3 fcC w8 (.slice A (d.cuts.set j fc0).length cp) (d.cuts.set j fc0)) :
    FlatAt P w8 M c rs rh m { wd with cuts := wd.cuts.set j ⟨0, [], true⟩ } { d with A := A, cp := cp, cuts := d.cuts.set j fc0 } := by
  have hkP : ∀ b, P b → b < w.heap.size → w8.heap[b]? = w.heap[b]? ∧ P b := fun b hP hlt => ⟨hk b (h.off b hP).1 hlt, hP⟩
  refine ⟨⟨hcell, h.map.block (hk d.L (fun e => h.ne e.symm) h.map.lt), h.ne, h.off, fun p hp => (h.rows p hp).keepG hs hkP, ?_, hrow, fun i x q hx hq => ?_⟩, h.tells.same rfl⟩
  · show (d.cuts.set j fc0).length = (wd.cuts.set j _).length
    rw [List.length_set, List.length_set, h.len]
  · have hx : (d.cuts.set j fc0)[i]? = some x := hx
    have hq : (wd.cuts.set j (⟨0, [], true⟩ : CutD))[i]? = some q := hq
    by_cases hi : j = i
    · subst hi
      rw [List.getElem?_set_self'] at hx hq
      have e1 : x = fc0 := by
        cases hd : d.cuts[j]? with
        | none => rw [hd] at hx; cases hx
        | some y => rw [hd] at hx; injection hx with hx; exact hx.symm
      have e2 : q = ⟨0, [], true⟩ := by
        cases hd : wd.cuts[j]? with
        | none => rw [hd] at hq; cases hq
        | some y => rw [hd] at hq; injection hq with hq; exact hq.symm
      subst e1
      subst e2
      exact ⟨rfl, fun hf => by cases hf⟩
    · rw [List.getElem?_set_ne hi] at hx hq
      refine ⟨(h.cut i x q hx hq).1, fun hf => ?_⟩
      obtain ⟨h1, l2, h2, h3, h4, h5, h6⟩ := (h.cut i x q hx hq).2 hf
      exact ⟨h1, l2, h2, h3, h4.block (hkP l2 h3 h4.lt).1, fun p hp => (h5 p hp).keepG hs hkP, h6⟩

set_option maxRecDepth 100000 in
set_option maxHeartbeats 4000000 in
theorem flFree_bad {P : Nat → Prop} {w : World} {M : Nat} {c : Cfg} {rs rh n : Nat} {wd : Wd} {d : FlatD} (k : Int) (h : FW P w M c rs rh n wd d) (hn : n ≤ 100000) (he : findT (tabW wd) k ≠ 0) :
    Calls Tryz.prog 61 #[.pointer (some ⟨M, 0, none⟩), .int .i64 k] w fun e w' => e = .returned (repV (repF (findT (tabW wd) k))) ∧ Below w.heap.size w w' := by
  have hcl : wd.cuts.length ≤ 900000 := by have := h.ok.cuts; omega
  have CK := Lib.hid (fun W (hW : Below w.heap.size w W) => flFind_any k W (h.at_.below hW) hcl (fun q hq => (h.ok.cep q hq).1))
  have HC := Lib.hid h.at_.cell
  have z0 : (findT (tabW wd) k == 0) = false := by simpa using he
  have z1 : (findT (tabW wd) k != 0) = true := by simpa using he
  generalize findT (tabW wd) k = er at *
  clear h hn hcl he
  go_enter Tryz.func61, Tryz.ntmps61
  go_wp2_with (first
    | (go_at_call 133
       refine calls_named ?_
       intro W1 hW1
       have HB2 := Lib.hid (show Below w.heap.size w W1 by rw [hW1]; exact balloc (Below.refl _ _) _)
       have HX2 := Lib.hid (show W1.heap[w.heap.size]? = some (.cells #[.int .i64 0, .int .i64 0, .int .i64 0, .int .i64 0, .int .i64 0, .int .i64 0, .int .i64 0, .int .i64 0, .int .i64 0, .int .i64 0, .int .i64 0, .int .i64 0, .int .i64 0] 46 (0, 0)) by rw [hW1]; exact heap_alloc_new _ _)
       clear hW1
       refine (CK.out W1 HB2.out).mono ?_
       rintro e w2 ⟨rfl, rfl⟩
       obtain ⟨y1, y2, y3⟩ := box_cells (Below.refl _ _) HX2.out
       obtain ⟨m1, m2, m3⟩ := box_cells HB2.out HC.out))
  refine post_named ?_
  intro W9 hW9
  have hW9' : W9 = stor w2 w.heap.size 0 (repC (repF er)) := hW9
  obtain ⟨t1, t2, t3, t4⟩ := stor_at HX2.out (repC (repF er)) rfl W9 hW9'
  obtain ⟨a9, a8, a7⟩ := box_cells (Below.refl _ _) t1
  clear hW9 hW9'
  exact bodyPost_ret (v := repV (repF er)) (by simp [results, Tryz.results61, go_sem, a9, repV, repC, repF, st0, adv0]) rfl ⟨rfl, HB2.out.trans (t4 _ (Nat.le_refl _))⟩

set_option maxRecDepth 100000 in
set_option maxHeartbeats 4000000 in
theorem flFree_ok {P : Nat → Prop} {w : World} {M : Nat} {c : Cfg} {rs rh n : Nat} {wd : Wd} {d : FlatD} (k : Int) (h : FW P w M c rs rh n wd d) (hP : ∀ b, w.heap.size ≤ b → P b) (hc : CfgOk c rs rh) (hn : n ≤ 100000) (j : Nat) (hkj : k = ((j + 1 : Nat) : Int)) (hjl : j < wd.cuts.length) (he : findT (tabW wd) k = 0) :
    Calls Tryz.prog 61 #[.pointer (some ⟨M, 0, none⟩), .int .i64 k] w (FWSays P w M c rs rh (n + 1) d.L (repV (repF 0)) { wd with cuts := wd.cuts.set j ⟨0, [], true⟩ }) := by
  have hcl : wd.cuts.length ≤ 100000 := by have := h.ok.cuts; omega
  have CK := Lib.hid (fun W (hW : Below w.heap.size w W) => flFind_any k W (h.at_.below hW) (by omega) (fun q hq => (h.ok.cep q hq).1))
  rw [he] at CK
  have HC := Lib.hid h.at_.cell
  have hav := h.avoidX (X := w.heap.size) (Nat.le_refl _) (Below.refl _ _)
  have hwd : WdOk c rs rh (n + 1) { wd with cuts := wd.cuts.set j ⟨0, [], true⟩ } := by
    have h9 := freeW_ok (k := k) h.ok
    unfold freeW at h9
    rw [if_neg (by rw [he]; simp), hkj, show ((j + 1 : Nat) : Int).toNat - 1 = j by omega] at h9
    exact h9
  have HFIN := Lib.hid (show ∀ (W8 W9 : World) (A : Option Addr) (cp : Nat), w.heap.size ≤ W8.heap.size → (∀ b, b ≠ M → b < w.heap.size → W8.heap[b]? = w.heap[b]?) →
      W8.heap[M]? = some (.cells #[.int .i64 c.st, .int .i64 c.sa, .int .i64 c.lo, .int .i64 c.hi, .map (some d.L), .slice A (d.cuts.set j fc0).length cp, .int .i64 wd.ep, .bool wd.over] 103 (0, 0)) →
      RowG (fun b => w.heap.size < b) 3 fcC W8 (.slice A (d.cuts.set j fc0).length cp) (d.cuts.set j fc0) → W8.os = w.os → W8.tape = w.tape → W8.output = w.output →
      (∀ k, k ≠ w.heap.size → W9.heap[k]? = W8.heap[k]?) → W9.heap.size = W8.heap.size → (∀ n, n ≤ w.heap.size → Below n W8 W9) →
      FWSays P w M c rs rh (n + 1) d.L (repV (repF 0)) { wd with cuts := wd.cuts.set j ⟨0, [], true⟩ } (.returned (repV (repF 0))) W9 from fun W8 W9 A cp hs hk hcell hrow ho1 ho2 ho3 h4 h5 h6 => by
    have h1 := hav.at_.free (m := n + 1) j hs hk hcell (hrow.imp (fun b hb => ⟨hP b (by omega), by omega⟩))
    have h2 : Upd w W8 [M, d.L] [M, d.L] := ⟨ho1, ho2, ho3, hs, fun k hlt hn => hk k (fun e => hn (by rw [e]; simp)) hlt, fun k hk => .inl hk⟩
    have h3 := FW.fin (d := { d with A := A, cp := cp, cuts := d.cuts.set j fc0 }) ⟨h1, hwd⟩ h.at_.off h2 (Nat.le_refl _) h.at_.lt h.at_.map.lt h4 h5 h6
    exact ⟨_, rfl, h3.1, rfl, h3.2⟩)
  have HLT := Lib.hid h.at_.lt
  have CC := Lib.hid (fun W (hW : Below w.heap.size w W) => cloneF_any (.slice d.A d.cuts.length d.cp) d.cuts W (h.at_.row.1.below hW) (by have := h.at_.len; omega))
  have hjd : j < d.cuts.length := by rw [h.at_.len]; exact hjl
  have hcd : d.cuts.length ≤ 100000 := by rw [h.at_.len]; exact hcl
  obtain ⟨cuts, hcu⟩ : ∃ l, l = d.cuts := ⟨_, rfl⟩
  obtain ⟨A, hA⟩ : ∃ l, l = d.A := ⟨_, rfl⟩
  obtain ⟨cp, hcp⟩ : ∃ l, l = d.cp := ⟨_, rfl⟩
  rw [← hcu] at HFIN CC HC hjd hcd
  rw [← hA, ← hcp] at CC HC
  obtain ⟨cl, hcln⟩ : ∃ n, n = cuts.length := ⟨_, rfl⟩
  have HCL := Lib.hid hcln
  have z3 : (0 : Int) ≤ (j : Int) := by omega
  have z4 : (j : Int) < (cuts.length : Int) := by omega
  have z5 : ((j : Int) + 1) - 1 = (j : Int) := by omega
  have z6 : wrap64 (j : Int) = (j : Int) := by unfold wrap64; omega
  have hjn : k = (j : Int) + 1 := by omega
  have HJD := Lib.hid hjd
  rw [hjn] at CK ⊢
  clear h hP hc hn he hkj hjl hcl hav hwd hcu hA hcp hcln hjn hjd hcd
  go_enter Tryz.func61, Tryz.ntmps61
  go_upto_region 4 with (first
    | (go_at_call 133
       refine calls_named ?_
       intro W1 hW1
       have HB2 := Lib.hid (show Below w.heap.size w W1 by rw [hW1]; exact balloc (Below.refl _ _) _)
       have HX2 := Lib.hid (show W1.heap[w.heap.size]? = some (.cells #[.int .i64 0, .int .i64 0, .int .i64 0, .int .i64 0, .int .i64 0, .int .i64 0, .int .i64 0, .int .i64 0, .int .i64 0, .int .i64 0, .int .i64 0, .int .i64 0, .int .i64 0] 46 (0, 0)) by rw [hW1]; exact heap_alloc_new _ _)
       clear hW1
       refine (CK.out W1 HB2.out).mono ?_
       rintro e w2 ⟨rfl, rfl⟩
       obtain ⟨y1, y2, y3⟩ := box_cells (Below.refl _ _) HX2.out
       obtain ⟨m1, m2, m3⟩ := box_cells HB2.out HC.out)
    | (go_at_call 72
       refine (CC.out w2 HB2.out).mono ?_
       rintro e w3 ⟨A9, c9, fp9, rfl, hq9, hf9, hb9⟩
       have HQ3 := Lib.hid (own_srow (base := w2.heap.size) hq9 hf9)
       have HM3 := Lib.hid ((hb9.block _ (Nat.lt_of_lt_of_le HLT.out HB2.out.size)).trans ((HB2.out.block M HLT.out).trans HC.out))
       have HX3 := Lib.hid ((hb9.block _ (Array.getElem?_eq_some_iff.1 HX2.out).1).trans HX2.out)
       have HB3 := Lib.hid (bthen HB2.out hb9)
       have HRS := Lib.hid (show w.heap.size < w2.heap.size from (Array.getElem?_eq_some_iff.1 HX2.out).1)
       clear hq9 hf9 hb9 y1 y2 y3 m1 m2 m3
       obtain ⟨m1, m2, m3⟩ := box_cells (Below.refl _ _) HM3.out))
  refine name_world ?_
  intro W4 hW4
  have hjd := HJD.out
  rcases HQ3.out.2 with ⟨_, h0⟩ | ⟨g, cap, cur, hv, hbg, hg, _, _, _, _⟩
  · omega
  injection hv with hA9 _ hc9
  subst hA9
  subst hc9
  have hgM : g ≠ M := by have := HLT.out; have := HB2.out.size; omega
  have hgX : g ≠ w.heap.size := by have := HRS.out; omega
  have hXM : w.heap.size ≠ M := by have := HLT.out; omega
  have HG4 := Lib.hid (show W4.heap[g]? = some (.cells cur 136 (0, 0)) by rw [hW4]; exact heap_set_ne hg hgM)
  have HO4 := Lib.hid (show OwnL fcC 136 3 w2.heap.size W4 (.slice (some ⟨g, 0, none⟩) cuts.length c9) cuts from HQ3.out.kept (fun r hr => by rw [hW4]; exact heap_set_ne rfl (by have hr2 : g = r := (by simpa [Value.ownBlock] using hr); omega)))
  have HM4 := Lib.hid (show W4.heap[M]? = some (.cells #[.int .i64 c.st, .int .i64 c.sa, .int .i64 c.lo, .int .i64 c.hi, .map (some d.L), .slice (some ⟨g, 0, none⟩) cuts.length c9, .int .i64 wd.ep, .bool wd.over] 103 (0, 0)) by rw [hW4]; exact setCell_block HM3.out)
  have HX4 := Lib.hid ((show W4.heap[w.heap.size]? = w3.heap[w.heap.size]? by rw [hW4]; exact heap_set_ne rfl hXM).trans HX3.out)
  have HK4 := Lib.hid (show ∀ b, b ≠ M → b < w.heap.size → W4.heap[b]? = w.heap[b]? from fun b hb hlt => by rw [hW4]; exact (heap_set_ne rfl hb).trans (HB3.out.block b hlt))
  have HZ4 := Lib.hid (show W4.heap.size = w3.heap.size ∧ W4.os = w3.os ∧ W4.tape = w3.tape ∧ W4.output = w3.output by rw [hW4]; exact ⟨by simp [World.setCell], rfl, rfl, rfl⟩)
  have HGB := Lib.hid (show w.heap.size < g by have := HRS.out; omega)
  clear hW4 m1 m2 m3 hg
  obtain ⟨m1, m2, m3⟩ := box_cells (Below.refl _ _) HM4.out
  obtain ⟨b, o, hbo, hb, hcc⟩ := (HO4.out.row eFc).at_ hjd
  injection hbo with hbo
  injection hbo with hb1 ho1 _
  subst hb1
  subst ho1
  have c0 : W4.cell? ⟨g, j * 3, none⟩ = some (.int .i64 cuts[j].ep) := by have := hcc 0 _ rfl; simpa using this
  have c1 : W4.cell? ⟨g, j * 3 + 1, none⟩ = some (.map cuts[j].m) := by have := hcc 1 _ rfl; simpa using this
  have c2 : W4.cell? ⟨g, j * 3 + 2, none⟩ = some (.bool cuts[j].fr) := by have := hcc 2 _ rfl; simpa using this
  obtain ⟨f1, f2, f3⟩ := box_cells (Below.refl _ _) HG4.out
  generalize cuts[j] = cj at c0 c1 c2
  clear f1 hcc hb
  go_upto_region 5 with fail
  refine name_world ?_
  intro W5 hW5
  have hW5' : W5 = ((W4.setCell ⟨g, j * 3, none⟩ (.int .i64 fc0.ep)).setCell ⟨g, j * 3 + 1, none⟩ (.map fc0.m)).setCell ⟨g, j * 3 + 2, none⟩ (.bool fc0.fr) := hW5
  have HO5 := Lib.hid (show OwnL fcC 136 3 w2.heap.size W5 (.slice (some ⟨g, 0, none⟩) cuts.length c9) (cuts.set j fc0) by rw [hW5']; exact own_setF HO4.out j hjd fc0)
  have hoth : ∀ b, b ≠ g → W5.heap[b]? = W4.heap[b]? := fun b hb => by rw [hW5']; exact (heap_set_ne rfl hb).trans ((heap_set_ne rfl hb).trans (heap_set_ne rfl hb))
  have HM5 := Lib.hid ((hoth M (fun e => hgM e.symm)).trans HM4.out)
  have HX5 := Lib.hid ((hoth w.heap.size (fun e => hgX e.symm)).trans HX4.out)
  have HK5 := Lib.hid (show ∀ b, b ≠ M → b < w.heap.size → W5.heap[b]? = w.heap[b]? from fun b hb hlt => (hoth b (by have := HGB.out; omega)).trans (HK4.out b hb hlt))
  have HZ5 := Lib.hid (show W5.heap.size = w3.heap.size ∧ W5.os = w.os ∧ W5.tape = w.tape ∧ W5.output = w.output by
    rw [hW5']
    exact ⟨by simp only [World.setCell, Array.size_modify]; exact HZ4.out.1, HZ4.out.2.1.trans HB3.out.os, HZ4.out.2.2.1.trans HB3.out.tape, HZ4.out.2.2.2.trans HB3.out.output⟩)
  clear hW5 hW5' hoth c0 c1 c2 f2 f3 m1 m2 m3 z3 z4 z5 z6
  obtain ⟨y1, y2, y3⟩ := box_cells (Below.refl _ _) HX5.out
  go_wp2_with fail
  refine post_named ?_
  intro W9 hW9
  have hW9' : W9 = stor W5 w.heap.size 0 (repC (repF 0)) := hW9
  obtain ⟨t1, t2, t3, t4⟩ := stor_at HX5.out (repC (repF 0)) rfl W9 hW9'
  obtain ⟨a9, a8, a7⟩ := box_cells (Below.refl _ _) t1
  clear hW9 hW9'
  exact bodyPost_ret (v := repV (repF 0)) (by simp [results, Tryz.results61, go_sem, a9, repV, repC, repF, st0, adv0]) rfl (HFIN.out W5 W9 (some ⟨g, 0, none⟩) c9 (by rw [HZ5.out.1]; exact HB3.out.size) HK5.out (by rw [List.length_set]; exact HM5.out) (by rw [List.length_set]; have h9 := RowG.own eFc HO5.out; exact h9.imp (fun b hb => by have := HRS.out; omega)) HZ5.out.2.1 HZ5.out.2.2.1 HZ5.out.2.2.2 t2 t3 t4)

theorem flFree_any {P : Nat → Prop} {w : World} {M : Nat} {c : Cfg} {rs rh n : Nat} {wd : Wd} {d : FlatD} (k : Int) (h : FW P w M c rs rh n wd d) (hP : ∀ b, w.heap.size ≤ b → P b) (hc : CfgOk c rs rh) (hn : n ≤ 100000) :
    Calls Tryz.prog 61 #[.pointer (some ⟨M, 0, none⟩), .int .i64 k] w (FWSays P w M c rs rh (n + 1) d.L (repV (freeW wd k).2) (freeW wd k).1) := by
  unfold freeW
  by_cases he : findT (tabW wd) k = 0
  · rw [if_neg (by rw [he]; simp)]
    obtain ⟨j, q, hkj, hq, _⟩ := findT_ok he
    have h9 := flFree_ok k h hP hc hn j hkj (List.getElem?_eq_some_iff.1 hq).1 he
    rw [show k.toNat - 1 = j by omega]
    exact h9
  · rw [if_pos he]
    refine (flFree_bad k h hn he).mono ?_
    rintro e w' ⟨rfl, hb⟩
    exact h.same (Nat.le_succ _) hb
end

section
set_option linter.unusedSimpArgs false
set_option linter.unusedVariables false
open Go.Shelf
def keysM_ren : Go.Shelf.Ren := ⟨fun | 7 => 77 | 10 => 148 | n => n, fun | 23 => 100 | 26 => 9 | 3 => 60 | 28 => 142 | 0 => 0 | 27 => 141 | 33 => 56 | 4 => 4 | n => n, fun | n => n⟩
theorem keysM : Go.Proofs.SlLaysZ.n7 Tryz.prog keysM_ren := {
  mixed := by kernel_rfl
  f7 := ⟨Tryz.f77.name, by decide, Tryz.func77.trans (congrArg some (by kernel_rfl))⟩
  f10 := ⟨Tryz.f148.name, by decide, Tryz.func148.trans (congrArg some (by kernel_rfl))⟩
  t0 := Tryz.underlying0
  a0 := Tryz.isAgg0
  z0 := Tryz.sizeOf0
  v0 := Tryz.zeroValue0
  t4 := Tryz.underlying4
  a4 := Tryz.isAgg4
  z4 := Tryz.sizeOf4
  v4 := Tryz.zeroValue4
  t23 := Tryz.underlying100
  a23 := Tryz.isAgg100
  z23 := Tryz.sizeOf100
  v23 := Tryz.zeroValue100
  t26 := Tryz.underlying9
  a26 := Tryz.isAgg9
  z26 := Tryz.sizeOf9
  v26 := Tryz.zeroValue9
  t27 := Tryz.underlying141
  a27 := Tryz.isAgg141
  z27 := Tryz.sizeOf141
  v27 := Tryz.zeroValue141
  t28 := Tryz.underlying142
  a28 := Tryz.isAgg142
  z28 := Tryz.sizeOf142
  v28 := Tryz.zeroValue142
  t33 := Tryz.underlying56
  a33 := Tryz.isAgg56
  z33 := Tryz.sizeOf56
  v33 := Tryz.zeroValue56 }
def sortedM_ren : Go.Shelf.Ren := ⟨fun | 6 => 76 | 8 => 146 | 9 => 147 | 11 => 204 | 13 => 206 | 12 => 205 | 23 => 253 | 24 => 254 | 14 => 244 | 15 => 245 | 16 => 246 | 17 => 247 | 18 => 248 | 19 => 249 | 20 => 250 | 21 => 251 | 22 => 252 | 25 => 288 | 26 => 289 | 27 => 290 | 28 => 291 | 29 => 292 | 30 => 293 | 31 => 306 | n => n, fun | 26 => 9 | 28 => 142 | 24 => 51 | 0 => 0 | 3 => 3 | 37 => 233 | 48 => 316 | 50 => 72 | 4 => 4 | 40 => 310 | 39 => 309 | 45 => 251 | 5 => 5 | 9 => 9 | 51 => 355 | 55 => 359 | 57 => 370 | 58 => 371 | 33 => 56 | n => n, fun | n => n⟩
theorem sortedM : Go.Proofs.SlLaysZ.n6 Tryz.prog sortedM_ren := {
  mixed := by kernel_rfl
  f6 := ⟨Tryz.f76.name, by decide, Tryz.func76.trans (congrArg some (by kernel_rfl))⟩
  f8 := ⟨Tryz.f146.name, by decide, Tryz.func146.trans (congrArg some (by kernel_rfl))⟩
  f11 := ⟨Tryz.f204.name, by decide, Tryz.func204.trans (congrArg some (by kernel_rfl))⟩
  t0 := Tryz.underlying0
  a0 := Tryz.isAgg0
  z0 := Tryz.sizeOf0
  v0 := Tryz.zeroValue0
  t24 := Tryz.underlying51
  a24 := Tryz.isAgg51
  z24 := Tryz.sizeOf51
  v24 := Tryz.zeroValue51
  t26 := Tryz.underlying9
  a26 := Tryz.isAgg9
  z26 := Tryz.sizeOf9
  v26 := Tryz.zeroValue9
  t28 := Tryz.underlying142
  a28 := Tryz.isAgg142
  z28 := Tryz.sizeOf142
  v28 := Tryz.zeroValue142
  i26 := by kernel_rfl }
def sortM_ren : Go.Shelf.Ren := ⟨fun | 6 => 147 | 8 => 206 | 9 => 205 | 19 => 253 | 20 => 254 | 21 => 244 | 22 => 245 | 23 => 246 | 24 => 247 | 25 => 248 | 26 => 249 | 27 => 250 | 28 => 251 | 29 => 252 | 36 => 288 | 31 => 289 | 32 => 290 | 37 => 291 | 38 => 292 | 39 => 293 | 41 => 306 | n => n, fun | 27 => 51 | 29 => 9 | 3 => 3 | 32 => 233 | 26 => 51 | 0 => 0 | 44 => 316 | 46 => 72 | 4 => 4 | 36 => 310 | 35 => 309 | 41 => 251 | 5 => 5 | 9 => 9 | 53 => 355 | 57 => 359 | 63 => 370 | 64 => 371 | n => n, fun | n => n⟩
theorem sortM : Go.Proofs.SlLaysM.n6 Tryz.prog sortM_ren := {
  mixed := by kernel_rfl
  f6 := ⟨Tryz.f147.name, by decide, Tryz.func147.trans (congrArg some (by kernel_rfl))⟩
  f8 := Tryz.func206.trans (congrArg some (by kernel_rfl))
  f9 := ⟨Tryz.f205.name, by decide, Tryz.func205.trans (congrArg some (by kernel_rfl))⟩
  f19 := Tryz.func253.trans (congrArg some (by kernel_rfl))
  f20 := Tryz.func254.trans (congrArg some (by kernel_rfl))
  f21 := ⟨Tryz.f244.name, by decide, Tryz.func244.trans (congrArg some (by kernel_rfl))⟩
  f22 := ⟨Tryz.f245.name, by decide, Tryz.func245.trans (congrArg some (by kernel_rfl))⟩
  f23 := ⟨Tryz.f246.name, by decide, Tryz.func246.trans (congrArg some (by kernel_rfl))⟩
  f24 := ⟨Tryz.f247.name, by decide, Tryz.func247.trans (congrArg some (by kernel_rfl))⟩
  f25 := ⟨Tryz.f248.name, by decide, Tryz.func248.trans (congrArg some (by kernel_rfl))⟩
  f26 := ⟨Tryz.f249.name, by decide, Tryz.func249.trans (congrArg some (by kernel_rfl))⟩
  f27 := ⟨Tryz.f250.name, by decide, Tryz.func250.trans (congrArg some (by kernel_rfl))⟩
  f28 := ⟨Tryz.f251.name, by decide, Tryz.func251.trans (congrArg some (by kernel_rfl))⟩
  f29 := ⟨Tryz.f252.name, by decide, Tryz.func252.trans (congrArg some (by kernel_rfl))⟩
  f31 := Tryz.func289.trans (congrArg some (by kernel_rfl))
  f32 := Tryz.func290.trans (congrArg some (by kernel_rfl))
  f36 := ⟨Tryz.f288.name, by decide, Tryz.func288.trans (congrArg some (by kernel_rfl))⟩
  f37 := ⟨Tryz.f291.name, by decide, Tryz.func291.trans (congrArg some (by kernel_rfl))⟩
  f38 := ⟨Tryz.f292.name, by decide, Tryz.func292.trans (congrArg some (by kernel_rfl))⟩
  f39 := ⟨Tryz.f293.name, by decide, Tryz.func293.trans (congrArg some (by kernel_rfl))⟩
  f41 := ⟨Tryz.f306.name, by decide, Tryz.func306.trans (congrArg some (by kernel_rfl))⟩
  t0 := Tryz.underlying0
  a0 := Tryz.isAgg0
  z0 := Tryz.sizeOf0
  v0 := Tryz.zeroValue0
  t3 := Tryz.underlying3
  a3 := Tryz.isAgg3
  z3 := Tryz.sizeOf3
  v3 := Tryz.zeroValue3
  t4 := Tryz.underlying4
  a4 := Tryz.isAgg4
  z4 := Tryz.sizeOf4
  v4 := Tryz.zeroValue4
  t5 := Tryz.underlying5
  a5 := Tryz.isAgg5
  z5 := Tryz.sizeOf5
  v5 := Tryz.zeroValue5
  t9 := Tryz.underlying9
  a9 := Tryz.isAgg9
  z9 := Tryz.sizeOf9
  v9 := Tryz.zeroValue9
  t26 := Tryz.underlying51
  a26 := Tryz.isAgg51
  z26 := Tryz.sizeOf51
  v26 := Tryz.zeroValue51
  t27 := Tryz.underlying51
  a27 := Tryz.isAgg51
  z27 := Tryz.sizeOf51
  v27 := Tryz.zeroValue51
  t29 := Tryz.underlying9
  a29 := Tryz.isAgg9
  z29 := Tryz.sizeOf9
  v29 := Tryz.zeroValue9
  t32 := Tryz.underlying233
  a32 := Tryz.isAgg233
  z32 := Tryz.sizeOf233
  v32 := Tryz.zeroValue233
  t35 := Tryz.underlying309
  a35 := Tryz.isAgg309
  z35 := Tryz.sizeOf309
  v35 := Tryz.zeroValue309
  t36 := Tryz.underlying310
  a36 := Tryz.isAgg310
  z36 := Tryz.sizeOf310
  v36 := Tryz.zeroValue310
  t41 := Tryz.underlying251
  a41 := Tryz.isAgg251
  z41 := Tryz.sizeOf251
  v41 := Tryz.zeroValue251
  t44 := Tryz.underlying316
  a44 := Tryz.isAgg316
  z44 := Tryz.sizeOf316
  v44 := Tryz.zeroValue316
  t46 := Tryz.underlying72
  a46 := Tryz.isAgg72
  z46 := Tryz.sizeOf72
  v46 := Tryz.zeroValue72
  t53 := Tryz.underlying355
  a53 := Tryz.isAgg355
  z53 := Tryz.sizeOf355
  v53 := Tryz.zeroValue355
  t57 := Tryz.underlying359
  a57 := Tryz.isAgg359
  z57 := Tryz.sizeOf359
  v57 := Tryz.zeroValue359
  t63 := Tryz.underlying370
  a63 := Tryz.isAgg370
  z63 := Tryz.sizeOf370
  v63 := Tryz.zeroValue370
  t64 := Tryz.underlying371
  a64 := Tryz.isAgg371
  z64 := Tryz.sizeOf371
  v64 := Tryz.zeroValue371 }
end

section
set_option linter.unusedSimpArgs false
set_option linter.unusedVariables false
open Go.RowKit Go.Lib Go.Sort Go.Maps Go.Shelf

def idC (s : ByteArray) : List Value := [.string s]
theorem eId : EltOf 51 9 1 16 (.string ⟨#[]⟩) idC :=
  ⟨by kernel_rfl, by kernel_rfl, rfl, by decide, by decide, fun _ => rfl, fun x u hu => by
    simp only [idC, List.mem_cons, List.not_mem_nil, or_false] at hu
    subst hu
    rfl⟩
def bytesK (es : List (SK × It)) : List (List UInt8) := es.map fun p => p.1.1.data.toList
/-- All ids, in order. -/
def idsF (es : List (SK × It)) : List ByteArray := ((bytesK es).mergeSort fun x y => decide (x ≤ y)).map fun x => ⟨x.toArray⟩
def anyR (H : Type) : Value → Option (DataW H × List MemPlace) := fun _ => some (.nil, [])
theorem owns_of_map {w : World} {L : Nat} {es : List (SK × It)} (h : MapIn skV ldV w L es) (hl : es.length ≤ 1000000) :
    ∃ D0 : DataW Unit, w.ownsMap Tryz.prog 9 (anyR Unit) L es.length D0 ∧ (strKeys D0).Perm (bytesK es) ∧ Maps.size D0 = es.length := by
  obtain ⟨ents, clock, hb, hkv, hbn, hcl, hn⟩ := h
  have hsz : ents.size = es.length := by simpa using congrArg List.length hkv
  have hkeys : ents.toList.map (·.key) = es.map fun p => skV p.1 := by
    have := congrArg (List.map Prod.fst) hkv
    rw [List.map_map, List.map_map] at this
    exact this
  have hrd : ∀ x ∈ ents.toList, ∃ s : SK, x.key = skV s ∧ Go.WideElems.rd Tryz.prog 9 (anyR Unit) x = some (.string s.1.data.toList, .nil) := fun x hx => by
    obtain ⟨p, hp, hk, _⟩ := ents_mem hkv hx
    refine ⟨p.1, hk, ?_⟩
    unfold Go.WideElems.rd
    rw [hk]
    show (keyOf Tryz.prog 9 (.string p.1.1)).bind _ = _
    rw [Go.WideMaps.keyOf_string_mk Tryz.underlying9 p.1.2]
    rfl
  have hnd : (ents.toList.map (·.key)).Nodup := by
    rw [hkeys]
    have e : (es.map fun p => skV p.1) = (es.map (·.1)).map skV := by rw [List.map_map]; rfl
    rw [e]
    exact List.pairwise_map.2 (hn.imp (fun hne e => hne (keysSk.inj _ _ e)))
  refine ⟨_, ⟨ents, clock, hb, ⟨by rw [hsz]; unfold maxLen; omega, ⟨hcl, hbn, hnd⟩, fun x hx => by obtain ⟨s, _, h1⟩ := hrd x hx; exact ⟨_, h1⟩⟩, Nat.le_of_eq hsz, rfl⟩, ?_, ?_⟩
  · show ((List.foldr DataW.insert [] (ents.toList.map (Go.WideElems.rg Tryz.prog 9 (anyR Unit)))).map fun p => strOf p.1).Perm _
    refine ((Go.WideShapes.sorted_perm _).map _).trans (List.Perm.of_eq ?_)
    rw [List.map_map]
    have e : bytesK es = (es.map fun p => skV p.1).map fun v => match v with | .string s => s.data.toList | _ => [] := by
      unfold bytesK
      rw [List.map_map]
      rfl
    rw [e, ← hkeys, List.map_map]
    refine List.map_congr_left (fun x hx => ?_)
    obtain ⟨s, hk, h1⟩ := hrd x hx
    simp only [Function.comp, Go.WideElems.rg, h1, hk, skV, Option.getD_some]
    rfl
  · show (List.foldr DataW.insert [] _).length = _
    rw [length_sorted, List.length_map, Array.length_toList, hsz]

theorem sortsM (m : Nat) : AnyZ.SortsIn Tryz.prog sortedM_ren Fence.wide m :=
  ⟨fun blk off cap ss W hH hblk hsz => callsIn_wide.2 (AnyM.slices_Sort_string sortM blk off cap ss W hH hblk hsz),
   fun p cap W => callsIn_wide.2 (AnyM.slices_Sort_string_none sortM p cap W)⟩
theorem flKeys_any (mb : Option Nat) (W : World) : Calls Tryz.prog 77 #[.map mb] W fun e w' => e = .returned (.func (.func 148) #[] #[.pointer (some ⟨W.heap.size, 0, none⟩)]) ∧ w' = W.alloc (.cells #[.map mb] 100) :=
  callsIn_wide.1 (AnyZ.keys_in keysM Fence.wide 5 trivial rfl mb W)

set_option maxHeartbeats 1000000 in
theorem flSorted_any (b : Nat) (es : List (SK × It)) (w : World) (h : MapIn skV ldV w b es) (hl : es.length ≤ 1000000) :
    Calls Tryz.prog 76 #[.func (.func 148) #[] #[.pointer (some ⟨w.heap.size, 0, none⟩)]] (w.alloc (.cells #[.map (some b)] 100)) fun e w' => ∃ A c, e = .returned (.slice A (idsF es).length c) ∧
      OwnL idC 9 1 w.heap.size w' (.slice A (idsF es).length c) (idsF es) ∧ Below w.heap.size w w' := by
  obtain ⟨D0, hown, hperm, hsize⟩ := owns_of_map h hl
  have hbl := hown.lt
  have hseq : SeqGives Fence.wide 2 Tryz.prog 148 #[.pointer (some ⟨w.heap.size, 0, none⟩)] encStr (fun ss => ss.Perm (strKeys D0)) (Maps.size D0) (w.alloc (.cells #[.map (some b)] 100)) :=
    AnyZ.keys_gives (ρ := keysM_ren) { keysM with } Fence.wide _ trivial rfl (by omega) w.heap.size b es.length D0 _ (by simp) (by simp) (by
      obtain ⟨es, clock, hb, Ft, hs, hD⟩ := hown
      exact ⟨es, clock, (Below.heap_alloc _ _ b hbl).trans hb, Ft, hs, hD⟩)
  have h1 := callsIn_wide.1 (AnyZ.sorted_in sortedM Fence.wide 5 trivial trivial trivial trivial rfl (by omega) (sortsM _) (enters_of Tryz.func147 (by kernel_rfl) rfl) 148 #[.pointer (some ⟨w.heap.size, 0, none⟩)] trivial (enters_of Tryz.func148 (by kernel_rfl) rfl) _ _ (by rw [hsize]; unfold maxLen; omega) (by rw [hsize]; omega) _ hseq)
  refine h1.mono ?_
  rintro e w' ⟨v, ss, rfl, hS, hrow, _, hb⟩
  have e1 : (ss.mergeSort fun x y => decide (x ≤ y)).map encStr = cellsOfRow idC (idsF es) := by
    unfold idsF
    rw [← mergeSort_of_perm (hS.trans hperm)]
    generalize ss.mergeSort leB = l
    induction l with
    | nil => rfl
    | cons a l ih =>
      rw [List.map_cons, List.map_cons, cellsOfRow_cons, ih]
      rfl
  have e2 : ss.length = (idsF es).length := by
    unfold idsF
    rw [List.length_map, List.length_mergeSort, ← (hS.trans hperm).length_eq]
  rw [e1, e2] at hrow
  have hrow' : OwnL idC 9 1 w.heap.size w' v (idsF es) := own_lower hrow (by simp)
  obtain ⟨A, c, rfl⟩ := hrow'.form
  exact ⟨A, c, rfl, hrow', (balloc (Below.refl _ _) _).trans (hb.mono (by simp))⟩

set_option maxRecDepth 100000 in
set_option maxHeartbeats 2000000 in
theorem flMadeM_any {P : Nat → Prop} {M : Nat} {c : Cfg} {wd : Wd} {d : FlatD} (w : World) (h : FlMem P w M c wd d) :
    Calls Tryz.prog 57 #[.pointer (some ⟨M, 0, none⟩)] w fun e w' => e = .returned (.bool true) ∧ w' = w := by
  obtain ⟨a1, a2, a3⟩ := box_cells (Below.refl _ _) h.cell
  have hq : ∀ W, (binOp .neq 100 (.map (some d.L)) (.map none)).run Tryz.prog W = .ok (.bool true) W := fun W => run_neq_map_nil W _ _ _ (some d.L) Tryz.underlying100
  clear h
  go_enter Tryz.func57, Tryz.ntmps57
  go_wp2_with fail
  go_ret
  exact ⟨rfl, rfl⟩
set_option maxRecDepth 100000 in
set_option maxHeartbeats 2000000 in
theorem flIds_any {P : Nat → Prop} {M : Nat} {c : Cfg} {wd : Wd} {d : FlatD} (w : World) (h : FlMem P w M c wd d) (hl : d.es.length ≤ 1000000) :
    Calls Tryz.prog 25 #[.pointer (some ⟨M, 0, none⟩)] w fun e w' => ∃ A c, e = .returned (.slice A (idsF d.es).length c) ∧ OwnL idC 9 1 w.heap.size w' (.slice A (idsF d.es).length c) (idsF d.es) ∧ Below w.heap.size w w' := by
  have CM := Lib.hid (fun W (hW : Below w.heap.size w W) => flMadeM_any W (h.below hW))
  have CS := Lib.hid (flSorted_any d.L d.es w h.map hl)
  obtain ⟨a1, a2, a3⟩ := box_cells (Below.refl _ _) h.cell
  clear h hl
  go_enter Tryz.func25, Tryz.ntmps25
  go_wp2_with (first
    | (go_at_call 57
       refine (CM.out w (Below.refl _ _)).mono ?_
       rintro e w2 ⟨rfl, rfl⟩)
    | (go_at_call 77
       refine (flKeys_any _ _).mono ?_
       rintro e w3 ⟨rfl, rfl⟩)
    | (go_at_call 76
       refine CS.out.mono ?_
       rintro e w4 ⟨A, c9, rfl, ho4, hb4⟩
       have HO4 := Lib.hid ho4
       have HB4 := Lib.hid hb4
       clear ho4 hb4))
  go_ret
  exact ⟨A, c9, rfl, HO4.out, HB4.out⟩
end

end Go.Proofs.YtmniiodpbebnmaaGreat
