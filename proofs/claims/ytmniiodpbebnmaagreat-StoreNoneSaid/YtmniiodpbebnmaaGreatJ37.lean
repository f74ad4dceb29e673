/- Walks of a store's small methods and of its table's; Walks of a store's table: find, Get, Free, Open. -/
import Derived.Test.YtmniiodpbebnmaaGreatJ36
import Derived.Test.YtmniiodpbebnmaaGreatJ32
namespace Go.Proofs.YtmniiodpbebnmaaGreat

section
set_option linter.unusedSimpArgs false
set_option linter.unusedVariables false
open Go.RowKit Go.Lib Go.Sort

section
variable {B : Nat → Prop} {S : Nat} {c : Cfg} {rs rh n : Nat} {wd : Wd} {d : StoD}
set_option maxRecDepth 100000 in
set_option maxHeartbeats 1000000 in
theorem stoMade_any (w : World) (h : StoreAt B w S c rs rh n wd d) (hp : 0 < d.sts.length) :
    Calls Tryz.prog 80 #[.pointer (some ⟨S, 0, none⟩)] w fun e w' => e = .returned (.bool true) ∧ w' = w := by
  obtain ⟨a1, a2, a3⟩ := box_cells (Below.refl _ _) h.cell
  have z : (0 : Int) < (d.sts.length : Int) := by omega
  have z2 : decide (0 < d.sts.length) = true := by simpa using hp
  clear h hp
  go_enter Tryz.func80, Tryz.ntmps80
  go_wp2
  go_ret
  exact ⟨rfl, rfl⟩
set_option maxRecDepth 100000 in
set_option maxHeartbeats 1000000 in
theorem stoMade_nil (w : World) :
    Calls Tryz.prog 80 #[.pointer none] w fun e w' => e = .returned (.bool false) ∧ w' = w := by
  go_enter Tryz.func80, Tryz.ntmps80
  go_wp2
  go_ret
  exact ⟨rfl, rfl⟩
set_option maxRecDepth 100000 in
set_option maxHeartbeats 1000000 in
theorem stoCount_any (w : World) (h : StoreAt B w S c rs rh n wd d) (hp : 0 < d.sts.length) :
    Calls Tryz.prog 29 #[.pointer (some ⟨S, 0, none⟩)] w fun e w' => e = .returned (.int .i64 (d.sts.length : Nat)) ∧ w' = w := by
  obtain ⟨a1, a2, a3⟩ := box_cells (Below.refl _ _) h.cell
  have HM := Lib.hid (stoMade_any w h hp)
  clear h hp
  go_enter Tryz.func29, Tryz.ntmps29
  go_wp2_with (go_at_call 80; refine HM.out.mono ?_; rintro e w' ⟨rfl, rfl⟩)
  go_ret
  exact ⟨rfl, rfl⟩
set_option maxRecDepth 100000 in
set_option maxHeartbeats 1000000 in
theorem stoCount_nil (w : World) :
    Calls Tryz.prog 29 #[.pointer none] w fun e w' => e = .returned (.int .i64 0) ∧ w' = w := by
  go_enter Tryz.func29, Tryz.ntmps29
  go_wp2_with (go_at_call 80; refine (stoMade_nil _).mono ?_; rintro e w' ⟨rfl, rfl⟩)
  go_ret
  exact ⟨rfl, rfl⟩
set_option maxRecDepth 100000 in
set_option maxHeartbeats 1000000 in
theorem stoStripe_any (w : World) (h : StoreAt B w S c rs rh n wd d) (i : Nat) (s : St) (hi : d.sts[i]? = some s) (hl : d.sts.length ≤ 64) :
    Calls Tryz.prog 32 #[.pointer (some ⟨S, 0, none⟩), .int .i64 (i : Nat)] w fun e w' => e = .returned (.pointer (some ⟨s.T, 0, none⟩)) ∧ w' = w := by
  obtain ⟨a1, a2, a3⟩ := box_cells (Below.refl _ _) h.cell
  obtain ⟨hil, his⟩ := List.getElem?_eq_some_iff.1 hi
  have HM := Lib.hid (stoCount_any w h (by omega))
  obtain ⟨b, o, hA, hb, hc⟩ := h.row.1.at_ hil
  injection hA with hA
  injection hA with e1 e2
  subst e1 e2
  have c1 : w.cell? ⟨d.A, i, none⟩ = some (.pointer (some ⟨s.T, 0, none⟩)) := by
    rw [his] at hc
    have := hc 0 _ rfl
    simpa using this
  have z1 : ¬ (i : Int) < 0 := by omega
  have z2 : ¬ (d.sts.length : Int) ≤ (i : Int) := by omega
  have z3 : (i : Int) < (d.sts.length : Int) := by omega
  have z4 : (0 : Int) ≤ (i : Int) := by omega
  clear h hi hil his hc hb hl
  go_enter Tryz.func32, Tryz.ntmps32
  go_wp2_with (go_at_call 29; refine HM.out.mono ?_; rintro e w' ⟨rfl, rfl⟩)
  go_ret
  exact ⟨rfl, rfl⟩
set_option maxRecDepth 100000 in
set_option maxHeartbeats 1000000 in
theorem stoStripe_low (p : Option Addr) (w : World) (i : Int) (hi : i < 0) :
    Calls Tryz.prog 32 #[.pointer p, .int .i64 i] w fun e w' => e = .returned (.pointer none) ∧ w' = w := by
  go_enter Tryz.func32, Tryz.ntmps32
  go_wp2
  go_ret
  exact ⟨rfl, rfl⟩
set_option maxRecDepth 100000 in
set_option maxHeartbeats 1000000 in
theorem stoStripe_high (w : World) (h : StoreAt B w S c rs rh n wd d) (hp : 0 < d.sts.length) (i : Int) (hi : (d.sts.length : Int) ≤ i) :
    Calls Tryz.prog 32 #[.pointer (some ⟨S, 0, none⟩), .int .i64 i] w fun e w' => e = .returned (.pointer none) ∧ w' = w := by
  have HM := Lib.hid (stoCount_any w h hp)
  have z1 : ¬ i < 0 := by omega
  clear h hp
  go_enter Tryz.func32, Tryz.ntmps32
  go_wp2_with (go_at_call 29; refine HM.out.mono ?_; rintro e w' ⟨rfl, rfl⟩)
  go_ret
  exact ⟨rfl, rfl⟩
set_option maxRecDepth 100000 in
set_option maxHeartbeats 1000000 in
theorem stoHome_any (w : World) (h : StoreAt B w S c rs rh n wd d) (hp : 0 < d.sts.length) (hl : (d.sts.length : Int) = c.st) (hl2 : d.sts.length ≤ 64) (k : Ky) (hk : k.ok) :
    Calls Tryz.prog 30 #[.pointer (some ⟨S, 0, none⟩), .agg #[.int .u64 k.1, .int .u64 k.2]] w fun e w' => e = .returned (.int .i64 (routeI k.1 k.2 c.st)) ∧ Below w.heap.size w w' := by
  have HM := Lib.hid (fun W (hW : Below w.heap.size w W) => stoCount_any W (h.below hW) hp)
  have HR := Lib.hid (fun W => show Calls Tryz.prog 88 #[.agg #[.int .u64 k.1, .int .u64 k.2], .int .i64 (d.sts.length : Nat)] W fun e w' => e = .returned (.int .i64 (routeI k.1 k.2 c.st)) ∧ Below W.heap.size W w' from hl ▸ routeOf_any k.1 k.2 (d.sts.length : Nat) W hk.1 hk.2 (by unfold I64; omega))
  clear h hp hl
  go_enter Tryz.func30, Tryz.ntmps30
  go_wp2_with fail
  refine name_world ?_
  intro W hW
  have hb1 : Below w.heap.size w W := by rw [hW]; exact balloc (Below.refl _ _) _
  have hx1 : W.heap[w.heap.size]? = some (.cells #[.int .u64 k.1, .int .u64 k.2] 74 (0, 0)) := by rw [hW]; exact heap_alloc_new _ _
  clear hW
  have rk0 : ∀ U, Below W.heap.size W U → U.cell? ⟨w.heap.size, 0, none⟩ = some (.int .u64 k.1) := fun U hU => (box_cells hU hx1).1 0
  have rk1 : ∀ U, Below W.heap.size W U → U.cell? ⟨w.heap.size, 1, none⟩ = some (.int .u64 k.2) := fun U hU => (box_cells hU hx1).1 1
  have hS00 : Below W.heap.size W W := Below.refl _ _
  have hS0 : Below W.heap.size W W.drew := hS00.drew
  have HB1 := Lib.hid hb1
  clear hb1 hx1
  go_region_held3 (fun U => Below W.heap.size W U)
    (first
      | with_reducible exact hS0
      | with_reducible exact HB5.out
      | with_reducible exact hS00)
    (first
    | (go_at_call 29
       refine (HM.out _ (bthen HB1.out ‹Below W.heap.size W _›)).mono ?_
       rintro e w4 ⟨rfl, rfl⟩)
    | (go_at_call 88
       refine (HR.out _).mono ?_
       rintro e w5 ⟨rfl, hb5⟩
       have HB5 := Lib.hid (bthen ‹Below W.heap.size W _› hb5)
       clear hb5))
  all_goals
    refine then_named ?_
    intro W6 hW6
    have hb6 : Below w.heap.size w W6 := by rw [hW6]; first | exact bthen HB1.out HB5.out | exact (bthen HB1.out HB5.out).drew | exact below_drewN (bthen HB1.out HB5.out) _
    clear hW6
    go_wp2
    go_ret
    exact ⟨rfl, hb6⟩
end
end

section
set_option linter.unusedSimpArgs false
set_option linter.unusedVariables false
open Go.RowKit Go.Lib Go.Sort
open Go.ChangeMaps (setBlock)

theorem look_hd {w : World} {L : Nat} {es : List (HN × Nat)} (h : MapIn hdV blkV w L es) (x : HN) (W : World) (hW : W.heap[L]? = w.heap[L]?) :
    (Instr.lookup 227 (.map (some L)) (.int .i64 (x.1 : Nat)) false).run Tryz.prog W = .ok (((findM es x).map blkV).getD (.pointer none)) W := by
  have := MapIn.look (V := blkV) (h.block hW) keysHd Tryz.underlying227 (Tryz.zeroValue83 W) false x
  simpa [hdV] using this
theorem store_hd {w : World} {L : Nat} {es : List (HN × Nat)} (h : MapIn hdV blkV w L es) (x : HN) (b : Nat) :
    ∃ o, (Instr.mapUpdate 227 (.map (some L)) (.int .i64 (x.1 : Nat)) (.pointer (some ⟨b, 0, none⟩))).run Tryz.prog w = .ok () (setBlock w L o) ∧ MapIn hdV blkV (setBlock w L o) L (putM es x b) :=
  MapIn.store (V := blkV) h keysHd Tryz.underlying227 x b
theorem drop_hd {w : World} {L : Nat} {es : List (HN × Nat)} (h : MapIn hdV blkV w L es) (x : HN) (ty : TypeId) :
    ∃ o, (Builtin.delete_ #[227, 3] ty #[.map (some L), .int .i64 (x.1 : Nat)]).run Tryz.prog w = .ok (.tuple #[]) (setBlock w L o) ∧ MapIn hdV blkV (setBlock w L o) L (delM es x) :=
  MapIn.drop (V := blkV) h keysHd Tryz.underlying227 x ty
theorem len_hd {w : World} {L : Nat} {es : List (HN × Nat)} (h : MapIn hdV blkV w L es) (ty : TypeId) : (Builtin.len_ #[227] ty #[.map (some L)]).run Tryz.prog w = .ok (.int .i64 es.length) w :=
  MapIn.len (V := blkV) h Tryz.underlying227 ty

section
variable {B : Nat → Prop} {S : Nat} {c : Cfg} {rs rh n : Nat} {wd : Wd} {d : StoD}
/-- What the table says of a number. -/
theorem StoreAt.find {w : World} (h : StoreAt B w S c rs rh n wd d) (hl : wd.cuts.length ≤ 900000) (hep : ∀ q ∈ wd.cuts, 0 ≤ q.ep) (i : Nat) (hi : i < wd.cuts.length) :
    (findM d.live (hdl (i + 1)) = none ∧ findT (tabW wd) ((i + 1 : Nat) : Int) = 8) ∨ ∃ C q, findM d.live (hdl (i + 1)) = some C ∧ findT (tabW wd) ((i + 1 : Nat) : Int) = 0 ∧ wd.cuts[i]? = some q ∧ q.freed = false ∧ CutHas (fun b => b ∉ d.fp S ∧ B b) w C rs rh q.ep q.items := by
  have hq := List.getElem?_eq_getElem hi
  have htl : (tabW wd).length = wd.cuts.length := by simp [tabW]
  have ht : (tabW wd)[i]? = some (if wd.cuts[i].freed = true then -1 else wd.cuts[i].ep) := by
    unfold tabW
    rw [List.getElem?_map, hq]
    rfl
  have hf : findT (tabW wd) ((i + 1 : Nat) : Int) = if (if wd.cuts[i].freed = true then -1 else wd.cuts[i].ep) < 0 then 8 else 0 := by
    unfold findT
    rw [if_neg (by omega), show ((i + 1 : Nat) : Int).toNat - 1 = i by omega, ht]
  have he := hep _ (List.getElem_mem hi)
  rcases h.cut i _ hq with ⟨h1, h2⟩ | ⟨h1, C, h2, h3⟩
  · refine .inl ⟨h2, ?_⟩
    rw [hf, if_pos h1]
    rfl
  · refine .inr ⟨C, _, h2, ?_, hq, h1, h3⟩
    have hn : ¬ wd.cuts[i].ep < 0 := by omega
    rw [hf, h1]
    simp [hn]
theorem findT_out {t : List Int} {k : Int} (h : k < 1 ∨ (t.length : Nat) < k) : findT t k = 5 := by
  unfold findT
  rw [if_pos h]

set_option maxRecDepth 100000 in
set_option maxHeartbeats 1000000 in
theorem tabFind_any (w : World) (h : StoreAt B w S c rs rh n wd d) (hl : wd.cuts.length ≤ 900000) (hep : ∀ q ∈ wd.cuts, 0 ≤ q.ep) (k : Int) :
    Calls Tryz.prog 164 #[.pointer (some ⟨d.H, 0, none⟩), .int .i64 k] w fun e w' => e = .returned (.int .i64 (findT (tabW wd) k)) ∧ w' = w := by
  obtain ⟨a1, a2, a3⟩ := box_cells (Below.refl _ _) h.tab
  have htl : (tabW wd).length = wd.cuts.length := by simp [tabW]
  by_cases h1 : k < 1
  · rw [findT_out (.inl h1)]
    clear h
    go_enter Tryz.func164, Tryz.ntmps164
    go_wp2
    go_ret
    exact ⟨rfl, rfl⟩
  · by_cases h2 : (wd.cuts.length : Int) < k
    · rw [findT_out (.inr (by rw [htl]; exact h2))]
      have z : ((wd.cuts.length + 1 : Nat) : Int) ≤ k := by omega
      generalize ((wd.cuts.length + 1 : Nat) : Int) = m at a1 z
      clear h
      go_enter Tryz.func164, Tryz.ntmps164
      go_wp2
      go_ret
      exact ⟨rfl, rfl⟩
    · obtain ⟨i, rfl⟩ : ∃ i : Nat, k = ((i + 1 : Nat) : Int) := ⟨k.toNat - 1, by omega⟩
      have hi : i < wd.cuts.length := by omega
      have hlk := look_hd h.live (hdl (i + 1)) w rfl
      rw [hdl_val (by omega)] at hlk
      have z : ¬ ((wd.cuts.length + 1 : Nat) : Int) ≤ ((i + 1 : Nat) : Int) := by omega
      have z1 : ¬ ((i + 1 : Nat) : Int) < 1 := h1
      rcases h.find hl hep i hi with ⟨e1, e2⟩ | ⟨C, q, e1, e2, _⟩
      · rw [e2]
        rw [e1] at hlk
        simp only [Option.map_none, Option.getD_none] at hlk
        generalize ((wd.cuts.length + 1 : Nat) : Int) = m at a1 z
        generalize ((i + 1 : Nat) : Int) = k at *
        clear h e1 e2 h1 h2
        go_enter Tryz.func164, Tryz.ntmps164
        go_wp2
        go_ret
        exact ⟨rfl, rfl⟩
      · rw [e2]
        rw [e1] at hlk
        simp only [Option.map_some, Option.getD_some, blkV] at hlk
        generalize ((wd.cuts.length + 1 : Nat) : Int) = m at a1 z
        generalize ((i + 1 : Nat) : Int) = k at *
        clear h e1 e2 h1 h2
        go_enter Tryz.func164, Tryz.ntmps164
        go_wp2
        go_ret
        exact ⟨rfl, rfl⟩

set_option maxRecDepth 100000 in
set_option maxHeartbeats 1000000 in
theorem tabGet_bad (w : World) (h : StoreAt B w S c rs rh n wd d) (hl : wd.cuts.length ≤ 900000) (hep : ∀ q ∈ wd.cuts, 0 ≤ q.ep) (k : Int) (hk : findT (tabW wd) k ≠ 0) :
    Calls Tryz.prog 95 #[.pointer (some ⟨d.H, 0, none⟩), .int .i64 k] w fun e w' => e = .returned (.tuple #[.pointer none, .int .i64 (findT (tabW wd) k)]) ∧ w' = w := by
  have HF := Lib.hid (tabFind_any w h hl hep k)
  generalize findT (tabW wd) k = e at HF hk ⊢
  have z : ¬ e = 0 := hk
  clear h hk
  go_enter Tryz.func95, Tryz.ntmps95
  go_wp2_with (go_at_call 164; refine HF.out.mono ?_; rintro e w' ⟨rfl, rfl⟩)
  go_ret2
  exact ⟨rfl, rfl⟩
set_option maxRecDepth 100000 in
set_option maxHeartbeats 1000000 in
theorem tabGet_ok (w : World) (h : StoreAt B w S c rs rh n wd d) (hl : wd.cuts.length ≤ 900000) (hep : ∀ q ∈ wd.cuts, 0 ≤ q.ep) (i : Nat) (hi : i < wd.cuts.length) (C : Nat) (hC : findM d.live (hdl (i + 1)) = some C) (hk : findT (tabW wd) ((i + 1 : Nat) : Int) = 0) :
    Calls Tryz.prog 95 #[.pointer (some ⟨d.H, 0, none⟩), .int .i64 ((i + 1 : Nat) : Int)] w fun e w' => e = .returned (.tuple #[.pointer (some ⟨C, 0, none⟩), .int .i64 0]) ∧ w' = w := by
  have HF := Lib.hid (tabFind_any w h hl hep ((i + 1 : Nat) : Int))
  rw [hk] at HF
  obtain ⟨a1, a2, a3⟩ := box_cells (Below.refl _ _) h.tab
  have hlk := look_hd h.live (hdl (i + 1)) w rfl
  rw [hdl_val (by omega), hC] at hlk
  simp only [Option.map_some, Option.getD_some, blkV] at hlk
  generalize ((wd.cuts.length + 1 : Nat) : Int) = m at a1
  generalize ((i + 1 : Nat) : Int) = k at *
  clear h hk hC
  go_enter Tryz.func95, Tryz.ntmps95
  go_wp2_with (go_at_call 164; refine HF.out.mono ?_; rintro e w' ⟨rfl, rfl⟩)
  go_ret2
  exact ⟨rfl, rfl⟩
end
end

end Go.Proofs.YtmniiodpbebnmaaGreat
