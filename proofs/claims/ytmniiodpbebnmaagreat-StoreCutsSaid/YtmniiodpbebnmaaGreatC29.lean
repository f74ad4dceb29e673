/- Walks of a store's table: find, Get, Free, Open; What is told of a cut, till it is freed; epochs (plain); A store's Free, Cut, Shut; a cut is opened: the walks and their frames; A key's stripe is one of them (plain). -/
import Derived.Test.YtmniiodpbebnmaaGreatC28
import Derived.Test.YtmniiodpbebnmaaGreatC26
import Derived.Test.YtmniiodpbebnmaaGreatC12
namespace Go.Proofs.YtmniiodpbebnmaaGreat

section
set_option linter.unusedSimpArgs false
set_option linter.unusedVariables false
open Go.RowKit Go.Lib Go.Sort
open Go.ChangeMaps (setBlock)

theorem look_hd {w : World} {L : Nat} {es : List (HN × Nat)} (h : MapIn hdV blkV w L es) (x : HN) (W : World) (hW : W.heap[L]? = w.heap[L]?) :
    (Instr.lookup 227 (.map (some L)) (.int .i64 (x.1 : Nat)) false).run Tryz.prog W = .ok (((findM es x).map blkV).getD (.pointer none)) W := by
  have := MapIn.look (V := blkV) (h.block hW) keysHd Tryz.underlying227 (Tryz.zeroValue83 W) false x
  simpa [hdV] using this
theorem store_hd {w : World} {L : Nat} {es : List (HN × Nat)} (h : MapIn hdV blkV w L es) (x : HN) (b : Nat) :
    ∃ o, (Instr.mapUpdate 227 (.map (some L)) (.int .i64 (x.1 : Nat)) (.pointer (some ⟨b, 0, none⟩))).run Tryz.prog w = .ok () (setBlock w L o) ∧ MapIn hdV blkV (setBlock w L o) L (putM es x b) :=
  MapIn.store (V := blkV) h keysHd Tryz.underlying227 x b
theorem drop_hd {w : World} {L : Nat} {es : List (HN × Nat)} (h : MapIn hdV blkV w L es) (x : HN) (ty : TypeId) :
    ∃ o, (Builtin.delete_ #[227, 3] ty #[.map (some L), .int .i64 (x.1 : Nat)]).run Tryz.prog w = .ok (.tuple #[]) (setBlock w L o) ∧ MapIn hdV blkV (setBlock w L o) L (delM es x) :=
  MapIn.drop (V := blkV) h keysHd Tryz.underlying227 x ty
theorem len_hd {w : World} {L : Nat} {es : List (HN × Nat)} (h : MapIn hdV blkV w L es) (ty : TypeId) : (Builtin.len_ #[227] ty #[.map (some L)]).run Tryz.prog w = .ok (.int .i64 es.length) w :=
  MapIn.len (V := blkV) h Tryz.underlying227 ty

section
variable {B : Nat → Prop} {S : Nat} {c : Cfg} {rs rh n : Nat} {wd : Wd} {d : StoD}
/-- What the table says of a number. -/
theorem StoreAt.find {w : World} (h : StoreAt B w S c rs rh n wd d) (hl : wd.cuts.length ≤ 900000) (hep : ∀ q ∈ wd.cuts, 0 ≤ q.ep) (i : Nat) (hi : i < wd.cuts.length) :
    (findM d.live (hdl (i + 1)) = none ∧ findT (tabW wd) ((i + 1 : Nat) : Int) = 8) ∨ ∃ C q, findM d.live (hdl (i + 1)) = some C ∧ findT (tabW wd) ((i + 1 : Nat) : Int) = 0 ∧ wd.cuts[i]? = some q ∧ q.freed = false ∧ CutHas (fun b => b ∉ d.fp S ∧ B b) w C rs rh q.ep q.items := by
  have hq := List.getElem?_eq_getElem hi
  have htl : (tabW wd).length = wd.cuts.length := by simp [tabW]
  have ht : (tabW wd)[i]? = some (if wd.cuts[i].freed = true then -1 else wd.cuts[i].ep) := by
    unfold tabW
    rw [List.getElem?_map, hq]
    rfl
  have hf : findT (tabW wd) ((i + 1 : Nat) : Int) = if (if wd.cuts[i].freed = true then -1 else wd.cuts[i].ep) < 0 then 8 else 0 := by
    unfold findT
    rw [if_neg (by omega), show ((i + 1 : Nat) : Int).toNat - 1 = i by omega, ht]
  have he := hep _ (List.getElem_mem hi)
  rcases h.cut i _ hq with ⟨h1, h2⟩ | ⟨h1, C, h2, h3⟩
  · refine .inl ⟨h2, ?_⟩
    rw [hf, if_pos h1]
    rfl
  · refine .inr ⟨C, _, h2, ?_, hq, h1, h3⟩
    have hn : ¬ wd.cuts[i].ep < 0 := by omega
    rw [hf, h1]
    simp [hn]
theorem findT_out {t : List Int} {k : Int} (h : k < 1 ∨ (t.length : Nat) < k) : findT t k = 5 := by
  unfold findT
  rw [if_pos h]

set_option maxRecDepth 100000 in
set_option maxHeartbeats 1000000 in
theorem tabFind_any (w : World) (h : StoreAt B w S c rs rh n wd d) (hl : wd.cuts.length ≤ 900000) (hep : ∀ q ∈ wd.cuts, 0 ≤ q.ep) (k : Int) :
    Calls Tryz.prog 164 #[.pointer (some ⟨d.H, 0, none⟩), .int .i64 k] w fun e w' => e = .returned (.int .i64 (findT (tabW wd) k)) ∧ w' = w := by
  obtain ⟨a1, a2, a3⟩ := box_cells (Below.refl _ _) h.tab
  have htl : (tabW wd).length = wd.cuts.length := by simp [tabW]
  by_cases h1 : k < 1
  · rw [findT_out (.inl h1)]
    clear h
    go_enter Tryz.func164, Tryz.ntmps164
    go_wp2
    go_ret
    exact ⟨rfl, rfl⟩
  · by_cases h2 : (wd.cuts.length : Int) < k
    · rw [findT_out (.inr (by rw [htl]; exact h2))]
      have z : ((wd.cuts.length + 1 : Nat) : Int) ≤ k := by omega
      generalize ((wd.cuts.length + 1 : Nat) : Int) = m at a1 z
      clear h
      go_enter Tryz.func164, Tryz.ntmps164
      go_wp2
      go_ret
      exact ⟨rfl, rfl⟩
    · obtain ⟨i, rfl⟩ : ∃ i : Nat, k = ((i + 1 : Nat) : Int) := ⟨k.toNat - 1, by omega⟩
      have hi : i < wd.cuts.length := by omega
      have hlk := look_hd h.live (hdl (i + 1)) w rfl
      rw [hdl_val (by omega)] at hlk
      have z : ¬ ((wd.cuts.length + 1 : Nat) : Int) ≤ ((i + 1 : Nat) : Int) := by omega
      have z1 : ¬ ((i + 1 : Nat) : Int) < 1 := h1
      rcases h.find hl hep i hi with ⟨e1, e2⟩ | ⟨C, q, e1, e2, _⟩
      · rw [e2]
        rw [e1] at hlk
        simp only [Option.map_none, Option.getD_none] at hlk
        generalize ((wd.cuts.length + 1 : Nat) : Int) = m at a1 z
        generalize ((i + 1 : Nat) : Int) = k at *
        clear h e1 e2 h1 h2
        go_enter Tryz.func164, Tryz.ntmps164
        go_wp2
        go_ret
        exact ⟨rfl, rfl⟩
      · rw [e2]
        rw [e1] at hlk
        simp only [Option.map_some, Option.getD_some, blkV] at hlk
        generalize ((wd.cuts.length + 1 : Nat) : Int) = m at a1 z
        generalize ((i + 1 : Nat) : Int) = k at *
        clear h e1 e2 h1 h2
        go_enter Tryz.func164, Tryz.ntmps164
        go_wp2
        go_ret
        exact ⟨rfl, rfl⟩

set_option maxRecDepth 100000 in
set_option maxHeartbeats 1000000 in
theorem tabGet_bad (w : World) (h : StoreAt B w S c rs rh n wd d) (hl : wd.cuts.length ≤ 900000) (hep : ∀ q ∈ wd.cuts, 0 ≤ q.ep) (k : Int) (hk : findT (tabW wd) k ≠ 0) :
    Calls Tryz.prog 95 #[.pointer (some ⟨d.H, 0, none⟩), .int .i64 k] w fun e w' => e = .returned (.tuple #[.pointer none, .int .i64 (findT (tabW wd) k)]) ∧ w' = w := by
  have HF := Lib.hid (tabFind_any w h hl hep k)
  generalize findT (tabW wd) k = e at HF hk ⊢
  have z : ¬ e = 0 := hk
  clear h hk
  go_enter Tryz.func95, Tryz.ntmps95
  go_wp2_with (go_at_call 164; refine HF.out.mono ?_; rintro e w' ⟨rfl, rfl⟩)
  go_ret2
  exact ⟨rfl, rfl⟩
set_option maxRecDepth 100000 in
set_option maxHeartbeats 1000000 in
theorem tabGet_ok (w : World) (h : StoreAt B w S c rs rh n wd d) (hl : wd.cuts.length ≤ 900000) (hep : ∀ q ∈ wd.cuts, 0 ≤ q.ep) (i : Nat) (hi : i < wd.cuts.length) (C : Nat) (hC : findM d.live (hdl (i + 1)) = some C) (hk : findT (tabW wd) ((i + 1 : Nat) : Int) = 0) :
    Calls Tryz.prog 95 #[.pointer (some ⟨d.H, 0, none⟩), .int .i64 ((i + 1 : Nat) : Int)] w fun e w' => e = .returned (.tuple #[.pointer (some ⟨C, 0, none⟩), .int .i64 0]) ∧ w' = w := by
  have HF := Lib.hid (tabFind_any w h hl hep ((i + 1 : Nat) : Int))
  rw [hk] at HF
  obtain ⟨a1, a2, a3⟩ := box_cells (Below.refl _ _) h.tab
  have hlk := look_hd h.live (hdl (i + 1)) w rfl
  rw [hdl_val (by omega), hC] at hlk
  simp only [Option.map_some, Option.getD_some, blkV] at hlk
  generalize ((wd.cuts.length + 1 : Nat) : Int) = m at a1
  generalize ((i + 1 : Nat) : Int) = k at *
  clear h hk hC
  go_enter Tryz.func95, Tryz.ntmps95
  go_wp2_with (go_at_call 164; refine HF.out.mono ?_; rintro e w' ⟨rfl, rfl⟩)
  go_ret2
  exact ⟨rfl, rfl⟩
end
end

section
set_option linter.unusedSimpArgs false
set_option linter.unusedVariables false
open Go.RowKit Go.Lib

theorem findT_cut {wd : Wd} {h : Nat} {q : CutD} (hq : wd.cuts[h]? = some q) (hf : q.freed = false) (he : 0 ≤ q.ep) : findT (tabW wd) ((h + 1 : Nat) : Int) = 0 := by
  have hl := (List.getElem?_eq_some_iff.1 hq).1
  have htl : (tabW wd).length = wd.cuts.length := by simp [tabW]
  unfold findT
  rw [if_neg (by rw [htl]; omega), show ((h + 1 : Nat) : Int).toNat - 1 = h by omega]
  have : (tabW wd)[h]? = some q.ep := by
    unfold tabW
    rw [List.getElem?_map, hq]
    simp [hf]
  rw [this]
  show (if q.ep < 0 then (8 : Int) else 0) = 0
  rw [if_neg (by omega)]
theorem findT_freed {wd : Wd} {h : Nat} {q : CutD} (hq : wd.cuts[h]? = some q) (hf : q.freed = true) : findT (tabW wd) ((h + 1 : Nat) : Int) = 8 := by
  have hl := (List.getElem?_eq_some_iff.1 hq).1
  have htl : (tabW wd).length = wd.cuts.length := by simp [tabW]
  unfold findT
  rw [if_neg (by rw [htl]; omega), show ((h + 1 : Nat) : Int).toNat - 1 = h by omega]
  have : (tabW wd)[h]? = some (-1) := by
    unfold tabW
    rw [List.getElem?_map, hq]
    simp [hf]
  rw [this]
  rfl
/-- The call that looks. -/
def lkD (id : ByteArray) (til wid : Int) (h : Nat) : CallD := ⟨5, id, til, wid, ((h + 1 : Nat) : Int), pol0⟩
/-- What is told of a cut. -/
def lkR (q : CutD) (id : ByteArray) (til wid : Int) : RepD :=
  if idS id = false then repF 2 else match findIt q.items (keyK id) with
    | none => repF 5
    | some y => ⟨0, q.ep, 0, statW y.smp til wid, adv0⟩
theorem chk_look (id : ByteArray) (til wid : Int) (h : Nat) : chkC (lkD id til wid h) = if idS id = false then 2 else 0 := by
  unfold chkC lkD
  cases idS id <;> simp
theorem look_same {c : Cfg} {rs rh : Nat} {wd : Wd} {h : Nat} {q : CutD} (hq : wd.cuts[h]? = some q) (hf : q.freed = false) (he : 0 ≤ q.ep) (id : ByteArray) (til wid : Int) : doW c rs rh wd (lkD id til wid h) = (wd, lkR q id til wid) := by
  unfold doW
  rw [chk_look]
  unfold lkR
  cases hid : idS id with
  | false => simp
  | true =>
    simp only [Bool.true_eq_false, if_false, ne_eq, not_true, lkD, show ¬ (5 : Int) = 1 by decide, show ¬ (5 : Int) = 2 by decide, show ¬ (5 : Int) = 3 by decide, show ¬ (5 : Int) = 4 by decide, if_true, Prod.mk.injEq, true_and]
    unfold lookW
    dsimp only
    rw [if_neg (by rw [findT_cut hq hf he]; simp), show ((h + 1 : Nat) : Int).toNat - 1 = h by omega, hq]
    rfl
theorem look_freed {c : Cfg} {rs rh : Nat} {wd : Wd} {h : Nat} {q : CutD} (hq : wd.cuts[h]? = some q) (hf : q.freed = true) (id : ByteArray) (til wid : Int) : doW c rs rh wd (lkD id til wid h) = (wd, repF (if idS id = false then 2 else 8)) := by
  unfold doW
  rw [chk_look]
  cases hid : idS id with
  | false => simp
  | true =>
    simp only [Bool.true_eq_false, if_false, ne_eq, not_true, lkD, show ¬ (5 : Int) = 1 by decide, show ¬ (5 : Int) = 2 by decide, show ¬ (5 : Int) = 3 by decide, show ¬ (5 : Int) = 4 by decide, if_true, Prod.mk.injEq, true_and]
    unfold lookW
    dsimp only
    rw [if_pos (by rw [findT_freed hq hf]; decide), findT_freed hq hf]
theorem chk_free (id : ByteArray) (tick val handle : Int) (p : Pol) : chkC ⟨4, id, tick, val, handle, p⟩ = 0 := by unfold chkC; simp
theorem free_this {c : Cfg} {rs rh : Nat} {wd : Wd} {h : Nat} {q : CutD} (hq : wd.cuts[h]? = some q) (hf : q.freed = false) (he : 0 ≤ q.ep) (id : ByteArray) (tick val : Int) (p : Pol) :
    (doW c rs rh wd ⟨4, id, tick, val, ((h + 1 : Nat) : Int), p⟩).2 = repF 0 ∧ (doW c rs rh wd ⟨4, id, tick, val, ((h + 1 : Nat) : Int), p⟩).1.cuts[h]? = some ⟨0, [], true⟩ := by
  have hl := (List.getElem?_eq_some_iff.1 hq).1
  unfold doW
  rw [chk_free]
  simp only [ne_eq, not_true, if_false, show ¬ (4 : Int) = 1 by decide, show ¬ (4 : Int) = 2 by decide, show ¬ (4 : Int) = 3 by decide, if_true]
  unfold freeW
  rw [if_neg (by rw [findT_cut hq hf he]; simp), show ((h + 1 : Nat) : Int).toNat - 1 = h by omega]
  exact ⟨rfl, by show (wd.cuts.set h _)[h]? = _; rw [List.getElem?_set, if_pos rfl, if_pos hl]⟩
/-- Any other call leaves a cut; epochs rise with Snaps alone. -/
theorem do_cut {c : Cfg} {rs rh : Nat} {wd : Wd} {h : Nat} {q : CutD} (hq : wd.cuts[h]? = some q) (x : CallD) (hx : ¬ (x.kind = 4 ∧ x.handle = ((h + 1 : Nat) : Int))) :
    (doW c rs rh wd x).1.cuts[h]? = some q ∧ (x.kind = 3 ∧ (doW c rs rh wd x).2.err = 0 → (doW c rs rh wd x).2.ep = wd.ep + 1 ∧ (doW c rs rh wd x).1.ep = wd.ep + 1) ∧ (¬ (x.kind = 3 ∧ (doW c rs rh wd x).2.err = 0) → (doW c rs rh wd x).1.ep = wd.ep) := by
  have hl := (List.getElem?_eq_some_iff.1 hq).1
  unfold doW
  split
  · rename_i h0
    exact ⟨hq, fun h9 => absurd h9.2 h0, fun _ => rfl⟩
  · split
    · rename_i h1
      exact ⟨hq, fun h9 => absurd (h1.symm.trans h9.1) (by decide), fun _ => rfl⟩
    · split
      · rename_i h1
        exact ⟨hq, fun h9 => absurd (h1.symm.trans h9.1) (by decide), fun _ => rfl⟩
      · split
        · rename_i h3
          unfold snapW
          split
          · exact ⟨hq, fun h9 => absurd h9.2 (show ¬ (6 : Int) = 0 by decide), fun _ => rfl⟩
          · refine ⟨by show (wd.cuts ++ _)[h]? = some q; rw [List.getElem?_append_left hl]; exact hq, fun _ => ⟨rfl, rfl⟩, fun h9 => absurd ⟨h3, rfl⟩ h9⟩
        · rename_i h3
          split
          · rename_i h4
            refine ⟨?_, fun h9 => absurd h9.1 h3, fun _ => ?_⟩
            · unfold freeW
              split
              · exact hq
              · rename_i hf
                have hf : findT (tabW wd) x.handle = 0 := by
                  by_cases h9 : findT (tabW wd) x.handle = 0
                  · exact h9
                  · exact absurd h9 hf
                have h1 : ¬ (x.handle < 1 ∨ ((tabW wd).length : Nat) < x.handle) := fun h9 => by rw [findT_out h9] at hf; cases hf
                show (wd.cuts.set (x.handle.toNat - 1) _)[h]? = some q
                rw [List.getElem?_set, if_neg (by intro h9; exact hx ⟨h4, by omega⟩)]
                exact hq
            · unfold freeW
              split
              · rfl
              · rfl
          · split
            · exact ⟨hq, fun h9 => absurd h9.1 h3, fun _ => rfl⟩
            · split
              · exact ⟨hq, fun h9 => absurd h9.1 h3, fun _ => rfl⟩
              · split
                · exact ⟨hq, fun h9 => absurd h9.1 h3, fun _ => rfl⟩
                · split
                  · exact ⟨hq, fun h9 => absurd h9.1 h3, fun _ => rfl⟩
                  · exact ⟨hq, fun h9 => absurd h9.1 h3, fun _ => rfl⟩
/-- The call that snaps. -/
def snD : CallD := ⟨3, ⟨#[]⟩, 0, 0, 0, pol0⟩
theorem do_snap {c : Cfg} {rs rh : Nat} {wd : Wd} : doW c rs rh wd snD = snapW wd := by
  unfold doW snD
  have : chkC ⟨3, ⟨#[]⟩, 0, 0, 0, pol0⟩ = 0 := by unfold chkC; simp
  rw [this]
  simp only [ne_eq, not_true, if_false, show ¬ (3 : Int) = 1 by decide, show ¬ (3 : Int) = 2 by decide, if_true]
theorem snap_ok {wd : Wd} (h : ¬ 64 ≤ liveT (tabW wd)) : snapW wd = ({ wd with ep := wd.ep + 1, cuts := wd.cuts ++ [⟨wd.ep + 1, allW wd, false⟩] }, ⟨0, wd.ep + 1, ((wd.cuts.length + 1 : Nat) : Int), st0, adv0⟩) := by unfold snapW; rw [if_neg h]
theorem snap_full {wd : Wd} (h : 64 ≤ liveT (tabW wd)) : snapW wd = (wd, repF 6) := by unfold snapW; rw [if_pos h]
end

section
set_option linter.unusedSimpArgs false
set_option linter.unusedVariables false
open Go.RowKit Go.Lib Go.Sort
open Go.ChangeMaps (setBlock)

theorem setCell_keep {w : World} {b i : Nat} {v : Value} {k : Nat} (h : k ≠ b) : (w.setCell ⟨b, i, none⟩ v).heap[k]? = w.heap[k]? := heap_set_ne rfl h
theorem set_upd {w : World} {b i : Nat} {v : Value} {fp : List Nat} (h : b ∈ fp) : Upd w (w.setCell ⟨b, i, none⟩ v) fp fp :=
  ⟨rfl, rfl, rfl, Nat.le_of_eq (by simp), fun r _ hn => setCell_keep (fun e => hn (by rw [e]; exact h)), fun r hr => .inl hr⟩
theorem block_upd {w : World} {b : Nat} {o : Obj} {fp : List Nat} (h : b ∈ fp) : Upd w (setBlock w b o) fp fp :=
  ⟨rfl, rfl, rfl, Nat.le_of_eq setBlock_size.symm, fun r _ hn => setBlock_other (fun e => hn (by rw [e]; exact h)), fun r hr => .inl hr⟩

theorem liveT_set {t : List Int} {i : Nat} (hi : i < t.length) (h : 0 ≤ t[i]) : liveT (t.set i (-1)) + 1 = liveT t := by
  unfold liveT
  rw [List.countP_set hi]
  have h1 : 0 < List.countP (fun n => decide (0 ≤ n)) t := List.countP_pos_iff.2 ⟨t[i], List.getElem_mem hi, by simpa using h⟩
  simp [h]
  omega
theorem delM_len {α β : Type} [DecidableEq α] {es : List (α × β)} (hn : (es.map (·.1)).Nodup) {x : α} {v : β} (h : findM es x = some v) : (delM es x).length + 1 = es.length := by
  have hm := find_mem h
  obtain ⟨j, hj⟩ := List.getElem?_of_mem hm
  rw [filter_erase hn hj, List.length_eraseIdx]
  have := (List.getElem?_eq_some_iff.1 hj).1
  rw [if_pos this]
  omega
theorem findM_delM {α β : Type} [DecidableEq α] (es : List (α × β)) (x y : α) : findM (delM es x) y = if y = x then none else findM es y := by
  unfold findM delM
  rw [List.find?_filter]
  by_cases h : y = x
  · subst h
    rw [if_pos rfl, List.find?_eq_none.2]
    · rfl
    · intro p _
      by_cases e : p.1 = y <;> simp [e]
  · rw [if_neg h]
    congr 1
    congr 1
    funext p
    by_cases e : p.1 = y
    · simp [e, h]
    · simp [e]

section
variable {B : Nat → Prop} {S : Nat} {c : Cfg} {rs rh n : Nat} {wd : Wd} {d : StoD}
/-- What lies outside the table and the store's own block is as it was. -/
theorem StoreAt.own3 {w w' : World} {wd' : Wd} {d' : StoD} (h : StoreAt B w S c rs rh n wd d) (hs : w.heap.size = w'.heap.size) (hk : ∀ r, r ≠ S → r ≠ d.H → r ≠ d.L → w'.heap[r]? = w.heap[r]?)
    (e1 : d'.A = d.A) (e2 : d'.cp = d.cp) (e3 : d'.H = d.H) (e4 : d'.L = d.L) (e5 : d'.sts = d.sts) (e6 : wd'.st = wd.st)
    (hcell : w'.heap[S]? = some (.cells #[.slice (some ⟨d.A, 0, none⟩) d.sts.length d.cp, .pointer (some ⟨d.H, 0, none⟩), .int .i64 wd'.ep, .bool wd'.over] 148 (0, 0)))
    (htab : w'.heap[d.H]? = some (.cells #[.map (some d.L), .int .i64 ((wd'.cuts.length + 1 : Nat) : Int)] 229 (0, 0)))
    (hlive : MapIn hdV blkV w' d.L d'.live) (hkeys : ∀ p ∈ d'.live, 1 ≤ p.1.1 ∧ p.1.1 ≤ wd'.cuts.length) (hcnt : d'.live.length = liveT (tabW wd'))
    (hcut : ∀ (i : Nat) q, wd'.cuts[i]? = some q → (q.freed = true ∧ findM d'.live (hdl (i + 1)) = none) ∨ (q.freed = false ∧ ∃ C, findM d'.live (hdl (i + 1)) = some C ∧ CutHas (fun b => b ∉ d.fp S ∧ B b) w' C rs rh q.ep q.items)) :
    StoreAt B w' S c rs rh n wd' d' ∧ d'.fp S = d.fp S := by
  obtain ⟨A', cp', H', L', sts', live'⟩ := d'
  obtain ⟨A, cp, H, L, sts, live⟩ := d
  simp only at *
  subst e1 e2 e3 e4 e5
  have hfp : StoD.fp S ⟨A', cp', H', L', sts', live'⟩ = StoD.fp S ⟨A', cp', H', L', sts', live⟩ := rfl
  have ha : ∀ s ∈ sts', ∀ r ∈ s.all, w'.heap[r]? = w.heap[r]? := fun s hs' r hr => hk r (fun e => (h.off s hs').1 (by rw [← e]; exact hr)) (fun e => (h.off s hs').2.1 (by rw [← e]; exact hr)) (fun e => (h.off s hs').2.2 (by rw [← e]; exact hr))
  refine ⟨⟨hcell, ?_, by rw [e6]; exact h.len, fun i s R hs' hR => ?_, h.pair, h.off, h.ne, htab, hlive, hkeys, fun i q hq => ?_, hcnt, h.bS, h.bs⟩, hfp⟩
  · exact h.row.keepP (Nat.le_of_eq hs) (fun b hb _ => hk b (fun e => hb.1 (mem_fp.2 (.inl e))) (fun e => hb.1 (mem_fp.2 (.inr (.inl e)))) (fun e => hb.1 (mem_fp.2 (.inr (.inr (.inl e))))))
  · rw [e6] at hR
    exact (h.str i s R hs' hR).kept (ha s (List.mem_of_getElem? hs'))
  · exact hcut i q hq

set_option maxRecDepth 100000 in
set_option maxHeartbeats 1000000 in
theorem tabFree_bad (w : World) (h : StoreAt B w S c rs rh n wd d) (hl : wd.cuts.length ≤ 900000) (hep : ∀ q ∈ wd.cuts, 0 ≤ q.ep) (k : Int) (hk : findT (tabW wd) k ≠ 0) :
    Calls Tryz.prog 96 #[.pointer (some ⟨d.H, 0, none⟩), .int .i64 k] w fun e w' => e = .returned (.int .i64 (findT (tabW wd) k)) ∧ w' = w := by
  have HF := Lib.hid (tabFind_any w h hl hep k)
  generalize findT (tabW wd) k = e at HF hk ⊢
  have z : ¬ e = 0 := hk
  clear h hk
  go_enter Tryz.func96, Tryz.ntmps96
  go_wp2_with (go_at_call 164; refine HF.out.mono ?_; rintro e w' ⟨rfl, rfl⟩)
  go_ret
  exact ⟨rfl, rfl⟩
set_option maxRecDepth 100000 in
set_option maxHeartbeats 1000000 in
theorem tabFree_ok (w : World) (h : StoreAt B w S c rs rh n wd d) (hl : wd.cuts.length ≤ 900000) (hep : ∀ q ∈ wd.cuts, 0 ≤ q.ep) (i : Nat) (hi : i < wd.cuts.length) (hk : findT (tabW wd) ((i + 1 : Nat) : Int) = 0) :
    Calls Tryz.prog 96 #[.pointer (some ⟨d.H, 0, none⟩), .int .i64 ((i + 1 : Nat) : Int)] w fun e w' => e = .returned (.int .i64 0) ∧ ∃ o, w' = setBlock w d.L o ∧ MapIn hdV blkV w' d.L (delM d.live (hdl (i + 1))) := by
  have HF := Lib.hid (tabFind_any w h hl hep ((i + 1 : Nat) : Int))
  rw [hk] at HF
  obtain ⟨a1, a2, a3⟩ := box_cells (Below.refl _ _) h.tab
  have hd := fun ty => drop_hd h.live (hdl (i + 1)) ty
  obtain ⟨o, ho1, ho2⟩ := hd 0
  have ho : ∀ ty, (Builtin.delete_ #[227, 3] ty #[.map (some d.L), .int .i64 ((i + 1 : Nat) : Int)]).run Tryz.prog w = .ok (.tuple #[]) (setBlock w d.L o) := fun ty => by
    rw [hdl_val (by omega)] at ho1
    exact ho1
  have HO2 := Lib.hid ho2
  generalize ((wd.cuts.length + 1 : Nat) : Int) = m at a1
  generalize ((i + 1 : Nat) : Int) = k at *
  clear h hk hd ho1 ho2
  go_enter Tryz.func96, Tryz.ntmps96
  go_wp2_with (first
    | (go_at_call 164; refine HF.out.mono ?_; rintro e w' ⟨rfl, rfl⟩))
  go_ret
  exact ⟨rfl, o, rfl, HO2.out⟩

set_option maxRecDepth 100000 in
set_option maxHeartbeats 1000000 in
theorem stoFree_bad (w : World) (h : StoreAt B w S c rs rh n wd d) (hp : 0 < d.sts.length) (hl : wd.cuts.length ≤ 900000) (hep : ∀ q ∈ wd.cuts, 0 ≤ q.ep) (k : Int) (hk : findT (tabW wd) k ≠ 0) :
    Calls Tryz.prog 36 #[.pointer (some ⟨S, 0, none⟩), .int .i64 k] w fun e w' => e = .returned (.int .i64 (findT (tabW wd) k)) ∧ w' = w := by
  obtain ⟨a1, a2, a3⟩ := box_cells (Below.refl _ _) h.cell
  have HM := Lib.hid (stoMade_any w h hp)
  have HF := Lib.hid (tabFree_bad w h hl hep k hk)
  generalize findT (tabW wd) k = e at HF ⊢
  clear h hk hep
  go_enter Tryz.func36, Tryz.ntmps36
  go_wp2_with (first
    | (go_at_call 80; refine HM.out.mono ?_; rintro e w' ⟨rfl, rfl⟩)
    | (go_at_call 96; refine HF.out.mono ?_; rintro e w' ⟨rfl, rfl⟩))
  go_ret
  exact ⟨rfl, rfl⟩
set_option maxRecDepth 100000 in
set_option maxHeartbeats 1000000 in
theorem stoFree_ok (w : World) (h : StoreAt B w S c rs rh n wd d) (hp : 0 < d.sts.length) (hl : wd.cuts.length ≤ 900000) (hep : ∀ q ∈ wd.cuts, 0 ≤ q.ep) (i : Nat) (hi : i < wd.cuts.length) (hk : findT (tabW wd) ((i + 1 : Nat) : Int) = 0) :
    Calls Tryz.prog 36 #[.pointer (some ⟨S, 0, none⟩), .int .i64 ((i + 1 : Nat) : Int)] w fun e w' => e = .returned (.int .i64 0) ∧ ∃ o, w' = setBlock w d.L o ∧ MapIn hdV blkV w' d.L (delM d.live (hdl (i + 1))) := by
  obtain ⟨a1, a2, a3⟩ := box_cells (Below.refl _ _) h.cell
  have HM := Lib.hid (stoMade_any w h hp)
  have HF := Lib.hid (tabFree_ok w h hl hep i hi hk)
  generalize ((i + 1 : Nat) : Int) = k at *
  clear h hk hep
  go_enter Tryz.func36, Tryz.ntmps36
  go_wp2_with (first
    | (go_at_call 80; refine HM.out.mono ?_; rintro e w' ⟨rfl, rfl⟩)
    | (go_at_call 96; refine HF.out.mono ?_; rintro e w' ⟨rfl, o, rfl, ho⟩))
  go_ret
  exact ⟨rfl, o, rfl, ho⟩
/-- A cut is freed. -/
theorem StoreAt.free {w : World} {o : Obj} (h : StoreAt B w S c rs rh n wd d) (hl : wd.cuts.length ≤ 900000) (hep : ∀ q ∈ wd.cuts, 0 ≤ q.ep) (i : Nat) (hi : i < wd.cuts.length) (hk : findT (tabW wd) ((i + 1 : Nat) : Int) = 0) (ho : MapIn hdV blkV (setBlock w d.L o) d.L (delM d.live (hdl (i + 1)))) :
    StoreAt B (setBlock w d.L o) S c rs rh n { wd with cuts := wd.cuts.set i ⟨0, [], true⟩ } { d with live := delM d.live (hdl (i + 1)) } ∧ Upd w (setBlock w d.L o) (d.fp S) (d.fp S) := by
  have hother : ∀ r, r ≠ d.L → (setBlock w d.L o).heap[r]? = w.heap[r]? := fun r hr => setBlock_other hr
  obtain ⟨C, q, e1, e2, e3, e4, e5⟩ : ∃ C q, findM d.live (hdl (i + 1)) = some C ∧ findT (tabW wd) ((i + 1 : Nat) : Int) = 0 ∧ wd.cuts[i]? = some q ∧ q.freed = false ∧ CutHas (fun b => b ∉ d.fp S ∧ B b) w C rs rh q.ep q.items := by
    rcases h.find hl hep i hi with ⟨_, e2⟩ | h9
    · rw [hk] at e2; cases e2
    · exact h9
  have hnd : (d.live.map (·.1)).Nodup := by
    obtain ⟨_, _, _, _, _, _, hn⟩ := h.live
    exact hn
  refine ⟨(h.own3 (d' := { d with live := delM d.live (hdl (i + 1)) }) (wd' := { wd with cuts := wd.cuts.set i ⟨0, [], true⟩ }) setBlock_size.symm (fun r _ _ h3 => hother r h3) rfl rfl rfl rfl rfl rfl ?_ ?_ ho (fun p hp => ?_) ?_ (fun j q' hq' => ?_)).1, block_upd (mem_fp.2 (.inr (.inr (.inl rfl))))⟩
  · exact (hother S h.ne.2.1).trans h.cell
  · show _ = some (Obj.cells #[_, .int .i64 (((wd.cuts.set i ⟨0, [], true⟩).length + 1 : Nat) : Int)] _ _)
    rw [List.length_set]
    exact (hother d.H h.ne.2.2).trans h.tab
  · show _ ∧ _ ≤ (wd.cuts.set i _).length
    rw [List.length_set]
    exact h.keys p ((List.mem_filter.1 hp).1)
  · have h1 := delM_len hnd e1
    have h2 := h.cnt
    have h3 : tabW { wd with cuts := wd.cuts.set i ⟨0, [], true⟩ } = (tabW wd).set i (-1) := by
      unfold tabW
      rw [List.map_set]
      rfl
    have hti : i < (tabW wd).length := by simpa [tabW] using hi
    have h4 : (0 : Int) ≤ (tabW wd)[i] := by
      simp only [tabW, List.getElem_map]
      obtain ⟨_, hq⟩ := List.getElem?_eq_some_iff.1 e3
      rw [hq, e4, if_neg (by simp)]
      exact hep q (List.mem_of_getElem? e3)
    have h5 := liveT_set hti h4
    rw [h3]
    show (delM d.live _).length = _
    omega
  · have hq' : (wd.cuts.set i ⟨0, [], true⟩)[j]? = some q' := hq'
    show (_ ∧ findM (delM d.live _) _ = none) ∨ (_ ∧ ∃ C, findM (delM d.live _) _ = some C ∧ _)
    rw [List.getElem?_set] at hq'
    have hj : j < wd.cuts.length := by
      rcases Nat.lt_or_ge j wd.cuts.length with h9 | h9
      · exact h9
      · split at hq'
        · omega
        · rw [List.getElem?_eq_none h9] at hq'; cases hq'
    rw [findM_delM]
    split at hq'
    · rename_i e
      have e9 := Option.some.inj hq'
      rw [← e9, ← e, if_pos rfl]
      exact .inl ⟨rfl, rfl⟩
    · rename_i e
      rw [if_neg (fun e9 => e (by have := hdl_inj (by omega) (by omega) e9; omega))]
      rcases h.cut j q' hq' with h9 | ⟨h9, C', h10, h11⟩
      · exact .inl h9
      · exact .inr ⟨h9, C', h10, h11.keep (Nat.le_of_eq setBlock_size.symm) (fun b hb hlt => ⟨hother b (fun e => hb.1 (mem_fp.2 (.inr (.inr (.inl e))))), hb⟩)⟩

set_option maxRecDepth 100000 in
set_option maxHeartbeats 1000000 in
theorem stoCut_bad (w : World) (h : StoreAt B w S c rs rh n wd d) (hp : 0 < d.sts.length) (hl : wd.cuts.length ≤ 900000) (hep : ∀ q ∈ wd.cuts, 0 ≤ q.ep) (k : Int) (hk : findT (tabW wd) k ≠ 0) :
    Calls Tryz.prog 35 #[.pointer (some ⟨S, 0, none⟩), .int .i64 k] w fun e w' => e = .returned (.tuple #[.pointer none, .int .i64 (findT (tabW wd) k)]) ∧ w' = w := by
  obtain ⟨a1, a2, a3⟩ := box_cells (Below.refl _ _) h.cell
  have HM := Lib.hid (stoMade_any w h hp)
  have HF := Lib.hid (tabGet_bad w h hl hep k hk)
  generalize findT (tabW wd) k = e at HF ⊢
  clear h hk hep
  go_enter Tryz.func35, Tryz.ntmps35
  go_wp2_with (first
    | (go_at_call 80; refine HM.out.mono ?_; rintro e w' ⟨rfl, rfl⟩)
    | (go_at_call 95; refine HF.out.mono ?_; rintro e w' ⟨rfl, rfl⟩))
  go_ret2
  exact ⟨rfl, rfl⟩
set_option maxRecDepth 100000 in
set_option maxHeartbeats 1000000 in
theorem stoCut_ok (w : World) (h : StoreAt B w S c rs rh n wd d) (hp : 0 < d.sts.length) (hl : wd.cuts.length ≤ 900000) (hep : ∀ q ∈ wd.cuts, 0 ≤ q.ep) (i : Nat) (hi : i < wd.cuts.length) (C : Nat) (hC : findM d.live (hdl (i + 1)) = some C) (hk : findT (tabW wd) ((i + 1 : Nat) : Int) = 0) :
    Calls Tryz.prog 35 #[.pointer (some ⟨S, 0, none⟩), .int .i64 ((i + 1 : Nat) : Int)] w fun e w' => e = .returned (.tuple #[.pointer (some ⟨C, 0, none⟩), .int .i64 0]) ∧ w' = w := by
  obtain ⟨a1, a2, a3⟩ := box_cells (Below.refl _ _) h.cell
  have HM := Lib.hid (stoMade_any w h hp)
  have HF := Lib.hid (tabGet_ok w h hl hep i hi C hC hk)
  generalize ((i + 1 : Nat) : Int) = k at *
  clear h hk hep hC
  go_enter Tryz.func35, Tryz.ntmps35
  go_wp2_with (first
    | (go_at_call 80; refine HM.out.mono ?_; rintro e w' ⟨rfl, rfl⟩)
    | (go_at_call 95; refine HF.out.mono ?_; rintro e w' ⟨rfl, rfl⟩))
  go_ret2
  exact ⟨rfl, rfl⟩
set_option maxRecDepth 100000 in
set_option maxHeartbeats 1000000 in
theorem stoShut_over (w : World) (h : StoreAt B w S c rs rh n wd d) (hp : 0 < d.sts.length) (ho : wd.over = true) :
    Calls Tryz.prog 37 #[.pointer (some ⟨S, 0, none⟩)] w fun e w' => e = .returned (.int .i64 9) ∧ w' = w := by
  obtain ⟨a1, a2, a3⟩ := box_cells (Below.refl _ _) h.cell
  have HM := Lib.hid (stoMade_any w h hp)
  rw [ho] at a1
  clear h ho
  go_enter Tryz.func37, Tryz.ntmps37
  go_wp2_with (first
    | (go_at_call 80; refine HM.out.mono ?_; rintro e w' ⟨rfl, rfl⟩))
  go_ret
  exact ⟨rfl, rfl⟩
set_option maxRecDepth 100000 in
set_option maxHeartbeats 1000000 in
theorem stoShut_ok (w : World) (h : StoreAt B w S c rs rh n wd d) (hp : 0 < d.sts.length) (ho : wd.over = false) :
    Calls Tryz.prog 37 #[.pointer (some ⟨S, 0, none⟩)] w fun e w' => e = .returned (.int .i64 0) ∧ StoreAt B w' S c rs rh n { wd with over := true } d ∧ Upd w w' (d.fp S) (d.fp S) := by
  obtain ⟨a1, a2, a3⟩ := box_cells (Below.refl _ _) h.cell
  have HM := Lib.hid (stoMade_any w h hp)
  rw [ho] at a1
  have HF := Lib.hid (show StoreAt B (w.setCell ⟨S, 3, none⟩ (.bool true)) S c rs rh n { wd with over := true } d ∧ Upd w (w.setCell ⟨S, 3, none⟩ (.bool true)) (d.fp S) (d.fp S) from by
    have hk : ∀ r, r ≠ S → (w.setCell ⟨S, 3, none⟩ (.bool true)).heap[r]? = w.heap[r]? := fun r hr => setCell_keep hr
    refine ⟨(h.own3 (d' := d) (wd' := { wd with over := true }) (by simp) (fun r h1 _ _ => hk r h1) rfl rfl rfl rfl rfl rfl ?_ ?_ (h.live.block (hk _ (Ne.symm h.ne.2.1))) h.keys h.cnt (fun i q hq => ?_)).1, set_upd (mem_fp.2 (.inl rfl))⟩
    · rw [setCell_block h.cell]
      rfl
    · exact (hk _ (Ne.symm h.ne.1)).trans h.tab
    · rcases h.cut i q hq with h9 | ⟨h9, C, h10, h11⟩
      · exact .inl h9
      · exact .inr ⟨h9, C, h10, h11.keep (by simp) (fun b hb hlt => ⟨hk b (fun e => hb.1 (mem_fp.2 (.inl e))), hb⟩)⟩)
  clear h ho
  go_enter Tryz.func37, Tryz.ntmps37
  go_wp2_with (first
    | (go_at_call 80; refine HM.out.mono ?_; rintro e w' ⟨rfl, rfl⟩))
  go_ret
  exact ⟨rfl, HF.out.1, HF.out.2⟩
end
end

section
set_option linter.unusedSimpArgs false
set_option linter.unusedVariables false
open Go.RowKit Go.Lib

theorem foldN_pow (h b : Nat) (h1 : 1 ≤ 2 ^ b) : foldN h b < 2 ^ b := by
  unfold foldN
  split
  · exact h1
  · exact Nat.mod_lt _ h1
theorem route_lt {hi lo : Nat} {n : Int} (hn : okSt n = true) : 0 ≤ routeI hi lo n ∧ routeI hi lo n < n := by
  unfold routeI
  rw [if_pos hn]
  obtain ⟨j, hj, rfl⟩ : ∃ j, j < 7 ∧ n = ((2 ^ j : Nat) : Int) := by
    rcases (okSt_iff n).1 hn with h | h | h | h | h | h | h
    · exact ⟨0, by omega, h⟩
    · exact ⟨1, by omega, h⟩
    · exact ⟨2, by omega, h⟩
    · exact ⟨3, by omega, h⟩
    · exact ⟨4, by omega, h⟩
    · exact ⟨5, by omega, h⟩
    · exact ⟨6, by omega, h⟩
  rw [bitsI_pow j hj]
  have := foldN_pow (fnvKey hi lo) j (Nat.two_pow_pos j)
  simp only [Int.toNat_natCast]
  omega
end

end Go.Proofs.YtmniiodpbebnmaaGreat
