/- flat's Plan; Walks of a store's small methods and of its table's; Walks of a store's table: find, Get, Free, Open; A store's Free, Cut, Shut; a cut is opened: the walks and their frames; A reply that says nothing; Walks of a store's Look and Last; Walk of a store's Last; flat's read; flat's find. -/
import Derived.Test.YtmniiodpbebnmaaGreatC20
import Derived.Test.YtmniiodpbebnmaaGreatC23
import Derived.Test.YtmniiodpbebnmaaGreatC18
import Derived.Test.YtmniiodpbebnmaaGreatC16
import Derived.Test.YtmniiodpbebnmaaGreatC19
import Derived.Test.YtmniiodpbebnmaaGreatC08
import Derived.Test.YtmniiodpbebnmaaGreatC11
import Derived.Test.YtmniiodpbebnmaaGreatC14
namespace Go.Proofs.YtmniiodpbebnmaaGreat

section
set_option linter.unusedSimpArgs false
set_option linter.unusedVariables false
open Go.RowKit Go.Lib

/-- What would be decided of a workload. -/
def planF (o : Option It) : Adv × Int := match o with
  | none => (adv0, 5)
  | some x => if x.nd.ruled = true then decI x.nd.pol x.nd.smp x.nd.past else (adv0, 5)

set_option maxRecDepth 100000 in
set_option maxHeartbeats 4000000 in
theorem flPlan_no (M : Option Addr) (id : ByteArray) (o : Option It) (w : World) (ho : o = none ∨ ∃ x, o = some x ∧ x.nd.ruled = false)
    (CL : Hid (∀ W, Below w.heap.size w W → Calls Tryz.prog 22 #[.pointer M, .string id] W (LoadS W o))) :
    Calls Tryz.prog 23 #[.pointer M, .string id] w fun e w' => e = .returned (.tuple #[.agg (advC adv0).toArray, .int .i64 5]) ∧ Below w.heap.size w w' := by
  obtain ⟨ob, hob⟩ : ∃ b, b = o.isSome := ⟨_, rfl⟩
  have hru : ∀ y : It, y.nd = (o.getD it00).nd → ob = false ∨ y.nd.ruled = false := fun y hy => by
    rcases ho with rfl | ⟨x, rfl, hx⟩
    · exact .inl hob
    · exact .inr (by rw [hy]; exact hx)
  unfold LoadS at CL
  rw [← hob] at CL
  have HRU := Lib.hid hru
  clear ho hru hob
  go_enter Tryz.func23, Tryz.ntmps23
  go_upto_region 2 with (first
    | (go_at_call 22
       refine calls_named ?_
       intro W1 hW1
       have hb1 : Below w.heap.size w W1 := by rw [hW1]; exact balloc (Below.refl _ _) _
       have HR1 := Lib.hid (show W1.heap[w.heap.size]? = some (.cells #[.int .i64 0, .int .i64 0, .int .i64 0, .int .i64 0, .int .i64 0] 44 (0, 0)) by rw [hW1]; exact heap_alloc_new _ _)
       have HB1 := Lib.hid hb1
       clear hW1 hb1
       refine (CL.out W1 HB1.out).mono ?_
       rintro e w2 ⟨y, rfl, hy1, hy3, hb2⟩
       have HR2 := Lib.hid ((hb2.block _ (Array.getElem?_eq_some_iff.1 HR1.out).1).trans HR1.out)
       have HB2 := Lib.hid (bthen HB1.out hb2)
       have HY3 := Lib.hid hy3.load
       unfold ldV ldC
       have HRY := Lib.hid (HRU.out y hy1)
       clear hb2 hy3 hy1))
  refine name_world ?_
  intro W3 hW3
  have hd3 : Below w2.heap.size w2 W3 := by rw [hW3]; exact balloc (Below.refl _ _) _
  have hx3 : W3.heap[w2.heap.size]? = some (.cells #[.slice y.sA y.nd.smp.length y.sc, .slice y.pA y.nd.past.length y.pc, .int .i64 y.nd.pol.mn, .int .i64 y.nd.pol.mx, .int .i64 y.nd.pol.tg, .int .i64 y.nd.pol.tol, .int .i64 y.nd.pol.win, .int .i64 y.nd.pol.hold, .bool y.nd.ruled] 60 (0, 0)) := by rw [hW3]; exact heap_alloc_new _ _
  have HRX := Lib.hid ((hd3.block _ (Array.getElem?_eq_some_iff.1 HR2.out).1).trans HR2.out)
  have HBX := Lib.hid (bthen HB2.out hd3)
  clear hW3 hd3
  obtain ⟨b1, b2, b3⟩ := box_cells (Below.refl _ _) hx3
  obtain ⟨r1, r2, r3⟩ := box_cells (Below.refl _ _) HRX.out
  clear hx3
  rcases HRY.out with h9 | h9
  all_goals (first | subst h9 | rw [h9] at b1)
  all_goals go_wp2_with fail
  all_goals
      refine post_named ?_
      intro W9 hW9
      have hW9' : W9 = stor W3 w.heap.size 0 [.int .i64 0, .int .i64 0, .int .i64 0, .int .i64 0, .int .i64 0] := hW9
      obtain ⟨t1, t2, t3, t4⟩ := stor_at HRX.out [.int .i64 0, .int .i64 0, .int .i64 0, .int .i64 0, .int .i64 0] rfl W9 hW9'
      obtain ⟨a9, a8, a7⟩ := box_cells (Below.refl _ _) t1
      clear hW9 hW9'
      exact bodyPost_ret (v := .tuple #[.agg #[.int .i64 0, .int .i64 0, .int .i64 0, .int .i64 0, .int .i64 0], .int .i64 5]) (by simp [results, Tryz.results23, go_sem, a9]) rfl ⟨rfl, HBX.out.trans (t4 _ (Nat.le_refl _))⟩


set_option maxRecDepth 100000 in
set_option maxHeartbeats 4000000 in
theorem flPlan_yes (M : Option Addr) (id : ByteArray) (x : It) (w : World) (hx : x.nd.ruled = true) (hl1 : x.nd.smp.length ≤ 1000000) (hl2 : x.nd.past.length ≤ 1000000) (hi : smpI x.nd.smp) (hp : x.nd.pol.ok)
    (CL : Hid (∀ W, Below w.heap.size w W → Calls Tryz.prog 22 #[.pointer M, .string id] W (LoadS W (some x)))) :
    Calls Tryz.prog 23 #[.pointer M, .string id] w fun e w' => e = .returned (.tuple #[.agg (advC (decI x.nd.pol x.nd.smp x.nd.past).1).toArray, .int .i64 (decI x.nd.pol x.nd.smp x.nd.past).2]) ∧ Below w.heap.size w w' := by
  obtain ⟨⟨a, er⟩, ha⟩ : ∃ r, decI x.nd.pol x.nd.smp x.nd.past = r := ⟨_, rfl⟩
  have HCO := Lib.hid (show ∀ (y : It) W, y.nd = x.nd → LoadIn (fun _ => True) W y → Calls Tryz.prog 75 #[.agg #[.int .i64 y.nd.pol.mn, .int .i64 y.nd.pol.mx, .int .i64 y.nd.pol.tg, .int .i64 y.nd.pol.tol, .int .i64 y.nd.pol.win, .int .i64 y.nd.pol.hold], .slice y.sA y.nd.smp.length y.sc, .slice y.pA y.nd.past.length y.pc] W fun e w' => e = .returned (.tuple #[.agg #[.int .i64 a.tick, .int .i64 a.load, .int .i64 a.want, .int .i64 a.repl, .int .i64 a.why], .int .i64 er]) ∧ Below W.heap.size W w' from fun y W hy hin => by
    have := decOf_any y.nd.pol y.nd.smp y.nd.past _ _ W hin.1.1 hin.2.1 (by rw [hy]; exact hl1) (by rw [hy]; exact hl2) (by rw [hy]; exact hi) (by rw [hy]; exact hp)
    rw [show decI y.nd.pol y.nd.smp y.nd.past = (a, er) by rw [hy]; exact ha] at this
    exact this)
  rw [ha]
  unfold advC
  dsimp only
  unfold LoadS at CL
  have HRU := Lib.hid (show ∀ y : It, y.nd = x.nd → y.nd.ruled = true from fun y hy => by rw [hy]; exact hx)
  clear hx hl1 hl2 hi hp ha
  go_enter Tryz.func23, Tryz.ntmps23
  go_upto_region 2 with (first
    | (go_at_call 22
       refine calls_named ?_
       intro W1 hW1
       have hb1 : Below w.heap.size w W1 := by rw [hW1]; exact balloc (Below.refl _ _) _
       have HR1 := Lib.hid (show W1.heap[w.heap.size]? = some (.cells #[.int .i64 0, .int .i64 0, .int .i64 0, .int .i64 0, .int .i64 0] 44 (0, 0)) by rw [hW1]; exact heap_alloc_new _ _)
       have HB1 := Lib.hid hb1
       clear hW1 hb1
       refine (CL.out W1 HB1.out).mono ?_
       rintro e w2 ⟨y, rfl, hy1, hy3, hb2⟩
       have HR2 := Lib.hid ((hb2.block _ (Array.getElem?_eq_some_iff.1 HR1.out).1).trans HR1.out)
       have HB2 := Lib.hid (bthen HB1.out hb2)
       have HY3 := Lib.hid hy3.load
       have HRY := Lib.hid (HRU.out y hy1)
       have HC2 := Lib.hid (fun W => HCO.out y W hy1)
       unfold ldV ldC
       clear hb2 hy3 hy1))
  refine name_world ?_
  intro W3 hW3
  have hd3 : Below w2.heap.size w2 W3 := by rw [hW3]; exact balloc (Below.refl _ _) _
  have hx3 : W3.heap[w2.heap.size]? = some (.cells #[.slice y.sA y.nd.smp.length y.sc, .slice y.pA y.nd.past.length y.pc, .int .i64 y.nd.pol.mn, .int .i64 y.nd.pol.mx, .int .i64 y.nd.pol.tg, .int .i64 y.nd.pol.tol, .int .i64 y.nd.pol.win, .int .i64 y.nd.pol.hold, .bool y.nd.ruled] 60 (0, 0)) := by rw [hW3]; exact heap_alloc_new _ _
  have HR3 := Lib.hid ((hd3.block _ (Array.getElem?_eq_some_iff.1 HR2.out).1).trans HR2.out)
  have HB3 := Lib.hid (bthen HB2.out hd3)
  have HY4 := Lib.hid ((HY3.out.below hd3).imp (fun b hb => True.intro))
  clear hW3 hd3
  obtain ⟨b1, b2, b3⟩ := box_cells (Below.refl _ _) hx3
  clear hx3
  rw [HRY.out] at b1
  go_wp2_with (first
    | (go_at_call 75
       refine (HC2.out W3 HY4.out).mono ?_
       rintro e w4 ⟨rfl, hb4⟩
       have HRX := Lib.hid ((hb4.block _ (Array.getElem?_eq_some_iff.1 HR3.out).1).trans HR3.out)
       have HBX := Lib.hid (bthen HB3.out hb4)
       obtain ⟨r1, r2, r3⟩ := box_cells (Below.refl _ _) HRX.out
       clear hb4 b1 b2 b3))
  refine post_named ?_
  intro W9 hW9
  have hW9' : W9 = stor w4 w.heap.size 0 [.int .i64 a.tick, .int .i64 a.load, .int .i64 a.want, .int .i64 a.repl, .int .i64 a.why] := hW9
  obtain ⟨t1, t2, t3, t4⟩ := stor_at HRX.out [.int .i64 a.tick, .int .i64 a.load, .int .i64 a.want, .int .i64 a.repl, .int .i64 a.why] rfl W9 hW9'
  obtain ⟨a9, a8, a7⟩ := box_cells (Below.refl _ _) t1
  clear hW9 hW9'
  exact bodyPost_ret (v := .tuple #[.agg #[.int .i64 a.tick, .int .i64 a.load, .int .i64 a.want, .int .i64 a.repl, .int .i64 a.why], .int .i64 er]) (by simp [results, Tryz.results23, go_sem, a9]) rfl ⟨rfl, HBX.out.trans (t4 _ (Nat.le_refl _))⟩
end

section
set_option linter.unusedSimpArgs false
set_option linter.unusedVariables false
open Go.RowKit Go.Lib Go.Sort

section
variable {B : Nat → Prop} {S : Nat} {c : Cfg} {rs rh n : Nat} {wd : Wd} {d : StoD}
end
end

section
set_option linter.unusedSimpArgs false
set_option linter.unusedVariables false
open Go.RowKit Go.Lib Go.Sort
open Go.ChangeMaps (setBlock)

section
variable {B : Nat → Prop} {S : Nat} {c : Cfg} {rs rh n : Nat} {wd : Wd} {d : StoD}
/-- What the table says of a number. -/
theorem StoreAt.find {w : World} (h : StoreAt B w S c rs rh n wd d) (hl : wd.cuts.length ≤ 900000) (hep : ∀ q ∈ wd.cuts, 0 ≤ q.ep) (i : Nat) (hi : i < wd.cuts.length) :
    (findM d.live (hdl (i + 1)) = none ∧ findT (tabW wd) ((i + 1 : Nat) : Int) = 8) ∨ ∃ C q, findM d.live (hdl (i + 1)) = some C ∧ findT (tabW wd) ((i + 1 : Nat) : Int) = 0 ∧ wd.cuts[i]? = some q ∧ q.freed = false ∧ CutHas (fun b => b ∉ d.fp S ∧ B b) w C rs rh q.ep q.items := by
  have hq := List.getElem?_eq_getElem hi
  have htl : (tabW wd).length = wd.cuts.length := by simp [tabW]
  have ht : (tabW wd)[i]? = some (if wd.cuts[i].freed = true then -1 else wd.cuts[i].ep) := by
    unfold tabW
    rw [List.getElem?_map, hq]
    rfl
  have hf : findT (tabW wd) ((i + 1 : Nat) : Int) = if (if wd.cuts[i].freed = true then -1 else wd.cuts[i].ep) < 0 then 8 else 0 := by
    unfold findT
    rw [if_neg (by omega), show ((i + 1 : Nat) : Int).toNat - 1 = i by omega, ht]
  have he := hep _ (List.getElem_mem hi)
  rcases h.cut i _ hq with ⟨h1, h2⟩ | ⟨h1, C, h2, h3⟩
  · refine .inl ⟨h2, ?_⟩
    rw [hf, if_pos h1]
    rfl
  · refine .inr ⟨C, _, h2, ?_, hq, h1, h3⟩
    have hn : ¬ wd.cuts[i].ep < 0 := by omega
    rw [hf, h1]
    simp [hn]
theorem findT_out {t : List Int} {k : Int} (h : k < 1 ∨ (t.length : Nat) < k) : findT t k = 5 := by
  unfold findT
  rw [if_pos h]

end
end

section
set_option linter.unusedSimpArgs false
set_option linter.unusedVariables false
open Go.RowKit Go.Lib Go.Sort
open Go.ChangeMaps (setBlock)

theorem block_upd {w : World} {b : Nat} {o : Obj} {fp : List Nat} (h : b ∈ fp) : Upd w (setBlock w b o) fp fp :=
  ⟨rfl, rfl, rfl, Nat.le_of_eq setBlock_size.symm, fun r _ hn => setBlock_other (fun e => hn (by rw [e]; exact h)), fun r hr => .inl hr⟩

theorem liveT_set {t : List Int} {i : Nat} (hi : i < t.length) (h : 0 ≤ t[i]) : liveT (t.set i (-1)) + 1 = liveT t := by
  unfold liveT
  rw [List.countP_set hi]
  have h1 : 0 < List.countP (fun n => decide (0 ≤ n)) t := List.countP_pos_iff.2 ⟨t[i], List.getElem_mem hi, by simpa using h⟩
  simp [h]
  omega
theorem delM_len {α β : Type} [DecidableEq α] {es : List (α × β)} (hn : (es.map (·.1)).Nodup) {x : α} {v : β} (h : findM es x = some v) : (delM es x).length + 1 = es.length := by
  have hm := find_mem h
  obtain ⟨j, hj⟩ := List.getElem?_of_mem hm
  rw [filter_erase hn hj, List.length_eraseIdx]
  have := (List.getElem?_eq_some_iff.1 hj).1
  rw [if_pos this]
  omega
theorem findM_delM {α β : Type} [DecidableEq α] (es : List (α × β)) (x y : α) : findM (delM es x) y = if y = x then none else findM es y := by
  unfold findM delM
  rw [List.find?_filter]
  by_cases h : y = x
  · subst h
    rw [if_pos rfl, List.find?_eq_none.2]
    · rfl
    · intro p _
      by_cases e : p.1 = y <;> simp [e]
  · rw [if_neg h]
    congr 1
    congr 1
    funext p
    by_cases e : p.1 = y
    · simp [e, h]
    · simp [e]

section
variable {B : Nat → Prop} {S : Nat} {c : Cfg} {rs rh n : Nat} {wd : Wd} {d : StoD}
/-- What lies outside the table and the store's own block is as it was. -/
theorem StoreAt.own3 {w w' : World} {wd' : Wd} {d' : StoD} (h : StoreAt B w S c rs rh n wd d) (hs : w.heap.size = w'.heap.size) (hk : ∀ r, r ≠ S → r ≠ d.H → r ≠ d.L → w'.heap[r]? = w.heap[r]?)
    (e1 : d'.A = d.A) (e2 : d'.cp = d.cp) (e3 : d'.H = d.H) (e4 : d'.L = d.L) (e5 : d'.sts = d.sts) (e6 : wd'.st = wd.st)
    (hcell : w'.heap[S]? = some (.cells #[.slice (some ⟨d.A, 0, none⟩) d.sts.length d.cp, .pointer (some ⟨d.H, 0, none⟩), .int .i64 wd'.ep, .bool wd'.over] 148 (0, 0)))
    (htab : w'.heap[d.H]? = some (.cells #[.map (some d.L), .int .i64 ((wd'.cuts.length + 1 : Nat) : Int)] 229 (0, 0)))
    (hlive : MapIn hdV blkV w' d.L d'.live) (hkeys : ∀ p ∈ d'.live, 1 ≤ p.1.1 ∧ p.1.1 ≤ wd'.cuts.length) (hcnt : d'.live.length = liveT (tabW wd'))
    (hcut : ∀ (i : Nat) q, wd'.cuts[i]? = some q → (q.freed = true ∧ findM d'.live (hdl (i + 1)) = none) ∨ (q.freed = false ∧ ∃ C, findM d'.live (hdl (i + 1)) = some C ∧ CutHas (fun b => b ∉ d.fp S ∧ B b) w' C rs rh q.ep q.items)) :
    StoreAt B w' S c rs rh n wd' d' ∧ d'.fp S = d.fp S := by
  obtain ⟨A', cp', H', L', sts', live'⟩ := d'
  obtain ⟨A, cp, H, L, sts, live⟩ := d
  simp only at *
  subst e1 e2 e3 e4 e5
  have hfp : StoD.fp S ⟨A', cp', H', L', sts', live'⟩ = StoD.fp S ⟨A', cp', H', L', sts', live⟩ := rfl
  have ha : ∀ s ∈ sts', ∀ r ∈ s.all, w'.heap[r]? = w.heap[r]? := fun s hs' r hr => hk r (fun e => (h.off s hs').1 (by rw [← e]; exact hr)) (fun e => (h.off s hs').2.1 (by rw [← e]; exact hr)) (fun e => (h.off s hs').2.2 (by rw [← e]; exact hr))
  refine ⟨⟨hcell, ?_, by rw [e6]; exact h.len, fun i s R hs' hR => ?_, h.pair, h.off, h.ne, htab, hlive, hkeys, fun i q hq => ?_, hcnt, h.bS, h.bs⟩, hfp⟩
  · exact h.row.keepP (Nat.le_of_eq hs) (fun b hb _ => hk b (fun e => hb.1 (mem_fp.2 (.inl e))) (fun e => hb.1 (mem_fp.2 (.inr (.inl e)))) (fun e => hb.1 (mem_fp.2 (.inr (.inr (.inl e))))))
  · rw [e6] at hR
    exact (h.str i s R hs' hR).kept (ha s (List.mem_of_getElem? hs'))
  · exact hcut i q hq

/-- A cut is freed. -/
theorem StoreAt.free {w : World} {o : Obj} (h : StoreAt B w S c rs rh n wd d) (hl : wd.cuts.length ≤ 900000) (hep : ∀ q ∈ wd.cuts, 0 ≤ q.ep) (i : Nat) (hi : i < wd.cuts.length) (hk : findT (tabW wd) ((i + 1 : Nat) : Int) = 0) (ho : MapIn hdV blkV (setBlock w d.L o) d.L (delM d.live (hdl (i + 1)))) :
    StoreAt B (setBlock w d.L o) S c rs rh n { wd with cuts := wd.cuts.set i ⟨0, [], true⟩ } { d with live := delM d.live (hdl (i + 1)) } ∧ Upd w (setBlock w d.L o) (d.fp S) (d.fp S) := by
  have hother : ∀ r, r ≠ d.L → (setBlock w d.L o).heap[r]? = w.heap[r]? := fun r hr => setBlock_other hr
  obtain ⟨C, q, e1, e2, e3, e4, e5⟩ : ∃ C q, findM d.live (hdl (i + 1)) = some C ∧ findT (tabW wd) ((i + 1 : Nat) : Int) = 0 ∧ wd.cuts[i]? = some q ∧ q.freed = false ∧ CutHas (fun b => b ∉ d.fp S ∧ B b) w C rs rh q.ep q.items := by
    rcases h.find hl hep i hi with ⟨_, e2⟩ | h9
    · rw [hk] at e2; cases e2
    · exact h9
  have hnd : (d.live.map (·.1)).Nodup := by
    obtain ⟨_, _, _, _, _, _, hn⟩ := h.live
    exact hn
  refine ⟨(h.own3 (d' := { d with live := delM d.live (hdl (i + 1)) }) (wd' := { wd with cuts := wd.cuts.set i ⟨0, [], true⟩ }) setBlock_size.symm (fun r _ _ h3 => hother r h3) rfl rfl rfl rfl rfl rfl ?_ ?_ ho (fun p hp => ?_) ?_ (fun j q' hq' => ?_)).1, block_upd (mem_fp.2 (.inr (.inr (.inl rfl))))⟩
  · exact (hother S h.ne.2.1).trans h.cell
  · show _ = some (Obj.cells #[_, .int .i64 (((wd.cuts.set i ⟨0, [], true⟩).length + 1 : Nat) : Int)] _ _)
    rw [List.length_set]
    exact (hother d.H h.ne.2.2).trans h.tab
  · show _ ∧ _ ≤ (wd.cuts.set i _).length
    rw [List.length_set]
    exact h.keys p ((List.mem_filter.1 hp).1)
  · have h1 := delM_len hnd e1
    have h2 := h.cnt
    have h3 : tabW { wd with cuts := wd.cuts.set i ⟨0, [], true⟩ } = (tabW wd).set i (-1) := by
      unfold tabW
      rw [List.map_set]
      rfl
    have hti : i < (tabW wd).length := by simpa [tabW] using hi
    have h4 : (0 : Int) ≤ (tabW wd)[i] := by
      simp only [tabW, List.getElem_map]
      obtain ⟨_, hq⟩ := List.getElem?_eq_some_iff.1 e3
      rw [hq, e4, if_neg (by simp)]
      exact hep q (List.mem_of_getElem? e3)
    have h5 := liveT_set hti h4
    rw [h3]
    show (delM d.live _).length = _
    omega
  · have hq' : (wd.cuts.set i ⟨0, [], true⟩)[j]? = some q' := hq'
    show (_ ∧ findM (delM d.live _) _ = none) ∨ (_ ∧ ∃ C, findM (delM d.live _) _ = some C ∧ _)
    rw [List.getElem?_set] at hq'
    have hj : j < wd.cuts.length := by
      rcases Nat.lt_or_ge j wd.cuts.length with h9 | h9
      · exact h9
      · split at hq'
        · omega
        · rw [List.getElem?_eq_none h9] at hq'; cases hq'
    rw [findM_delM]
    split at hq'
    · rename_i e
      have e9 := Option.some.inj hq'
      rw [← e9, ← e, if_pos rfl]
      exact .inl ⟨rfl, rfl⟩
    · rename_i e
      rw [if_neg (fun e9 => e (by have := hdl_inj (by omega) (by omega) e9; omega))]
      rcases h.cut j q' hq' with h9 | ⟨h9, C', h10, h11⟩
      · exact .inl h9
      · exact .inr ⟨h9, C', h10, h11.keep (Nat.le_of_eq setBlock_size.symm) (fun b hb hlt => ⟨hother b (fun e => hb.1 (mem_fp.2 (.inr (.inr (.inl e))))), hb⟩)⟩

end
end

section
set_option linter.unusedSimpArgs false
set_option linter.unusedVariables false
open Go.RowKit Go.Lib
end

section
set_option linter.unusedSimpArgs false
set_option linter.unusedVariables false
open Go.RowKit Go.Lib Go.Sort

theorem CutHas.below {P : Nat → Prop} {w w' : World} {C rs rh : Nat} {ep : Int} {R : List Itm} (h : CutHas P w C rs rh ep R) (hb : Below w.heap.size w w') : CutHas P w' C rs rh ep R := h.keep hb.size (fun b hp hlt => ⟨hb.block b hlt, hp⟩)

section
variable {B : Nat → Prop} {S : Nat} {c : Cfg} {rs rh n : Nat} {wd : Wd} {d : StoD}
end
end

section
set_option linter.unusedSimpArgs false
set_option linter.unusedVariables false
open Go.RowKit Go.Lib Go.Sort

section
variable {B : Nat → Prop} {S : Nat} {c : Cfg} {rs rh n : Nat} {wd : Wd} {d : StoD}
/-- A key's home. -/
theorem StoreAt.home {w : World} (h : StoreAt B w S c rs rh n wd d) (hl : (d.sts.length : Int) = c.st) (hst : okSt c.st = true) (k : Ky) :
    ∃ (i : Nat) (s : St) (R : List Itm), routeI k.1 k.2 c.st = (i : Int) ∧ d.sts[i]? = some s ∧ wd.st[i]? = some R ∧ StrOk w c rs rh n s R := by
  obtain ⟨h0, h1⟩ := route_lt (hi := k.1) (lo := k.2) hst
  obtain ⟨i, hi⟩ := Int.eq_ofNat_of_zero_le h0
  have hil : i < d.sts.length := by omega
  obtain ⟨R, hR, hk⟩ := h.get (List.getElem?_eq_getElem hil)
  exact ⟨i, _, R, hi, List.getElem?_eq_getElem hil, hR, hk⟩
theorem StrOk.load {w : World} {s : St} {R : List Itm} (h : StrOk w c rs rh n s R) (k : KO) : match findM s.es k with | none => findIt R k.1 = none | some b => ∃ y, findIt R k.1 = some y ∧ sameN b.2.1 y := by
  have := tells_find h.tells k
  rw [ab_find] at this
  cases hf : findM s.es k with
  | none => rw [hf] at this; exact this
  | some b => rw [hf] at this; exact this
theorem getLast_nth {α : Type} {l : List α} (h : 0 < l.length) : l.getLast? = some (l[l.length - 1]'(by omega)) := by
  rw [List.getLast?_eq_getElem?, List.getElem?_eq_getElem (by omega)]

end
end

section
set_option linter.unusedSimpArgs false
set_option linter.unusedVariables false
open Go.RowKit Go.Lib

/-- The last decision that is kept. -/
def readF (o : Option It) : RepD := match o with
  | none => repF 5
  | some x => match x.nd.past.getLast? with
    | none => repF 0
    | some a => ⟨0, 0, 0, st0, a⟩
set_option maxRecDepth 100000 in
set_option maxHeartbeats 4000000 in
theorem flRead_any {P : Nat → Prop} {M : Nat} {c : Cfg} {rs rh n : Nat} {wd : Wd} {d : FlatD} (s : SK) (w : World) (h : FlatAt P w M c rs rh n wd d) (hl : ∀ p ∈ d.es, p.2.nd.past.length ≤ 1000000) :
    Calls Tryz.prog 64 #[.pointer (some ⟨M, 0, none⟩), .string s.1] w fun e w' => e = .returned (repV (readF (findM d.es s))) ∧ Below w.heap.size w w' := by
  obtain ⟨o, ho⟩ : ∃ o, o = findM d.es s := ⟨_, rfl⟩
  rw [← ho]
  have hx : LoadIn (fun b => P b ∨ False) w (o.getD it00) ∧ (o.getD it00).nd.past.length ≤ 1000000 := by
    cases hf : o with
    | none => exact ⟨⟨RowG.nil, RowG.nil⟩, by decide⟩
    | some x =>
      rw [hf] at ho
      have hm := find_mem ho.symm
      exact ⟨(h.rows _ hm).imp (fun b hb => .inl hb), hl _ hm⟩
  have hlk := fun (W : World) (hW : Below w.heap.size w W) => fl_look h.map s true (hW.block d.L h.map.lt)
  rw [← ho, ← isSome_has, ← ho] at hlk
  have HC := Lib.hid h.cell
  obtain ⟨r, hr⟩ : ∃ r, r = readF o := ⟨_, rfl⟩
  rw [← hr]
  obtain ⟨x, hxx⟩ : ∃ x, x = o.getD it00 := ⟨_, rfl⟩
  rw [← hxx] at hx hlk
  unfold ldV ldC at hlk
  simp only [↓reduceIte] at hlk
  obtain ⟨ob, hob⟩ : ∃ b, b = o.isSome := ⟨_, rfl⟩
  rw [← hob] at hlk
  have HRR := Lib.hid (show (ob = false → r = repF 5) ∧ (ob = true → r = match x.nd.past.getLast? with | none => repF 0 | some a => ⟨0, 0, 0, st0, a⟩) by
    rw [hob, hr, hxx]
    cases o with
    | none => exact ⟨fun _ => rfl, (fun h => nomatch h)⟩
    | some z => exact ⟨(fun h => nomatch h), fun _ => rfl⟩)
  have HLK := Lib.hid hlk
  have HP := Lib.hid hx.1.2.1
  have HPL := Lib.hid hx.2
  clear h hl hx ho hlk hxx hob hr
  go_enter Tryz.func64, Tryz.ntmps64
  go_upto_region 1 with fail
  refine name_world ?_
  intro W1 hW1
  have HB1 := Lib.hid (show Below w.heap.size w W1 by rw [hW1]; exact balloc (Below.refl _ _) _)
  have HR1 := Lib.hid (show W1.heap[w.heap.size]? = some (.cells #[.int .i64 0, .int .i64 0, .int .i64 0, .int .i64 0, .int .i64 0, .int .i64 0, .int .i64 0, .int .i64 0, .int .i64 0, .int .i64 0, .int .i64 0, .int .i64 0, .int .i64 0] 46 (0, 0)) by rw [hW1]; exact heap_alloc_new _ _)
  clear hW1
  obtain ⟨a1, a2, a3⟩ := box_cells HB1.out HC.out
  have hq := HLK.out W1 HB1.out
  go_upto_region 2 with fail
  refine name_world ?_
  intro W3 hW3
  have hd3 : Below W1.heap.size W1 W3 := by rw [hW3]; exact balloc (Below.refl _ _) _
  have hx3 : W3.heap[W1.heap.size]? = some (.cells #[.slice x.sA x.nd.smp.length x.sc, .slice x.pA x.nd.past.length x.pc, .int .i64 x.nd.pol.mn, .int .i64 x.nd.pol.mx, .int .i64 x.nd.pol.tg, .int .i64 x.nd.pol.tol, .int .i64 x.nd.pol.win, .int .i64 x.nd.pol.hold, .bool x.nd.ruled] 60 (0, 0)) := by rw [hW3]; exact heap_alloc_new _ _
  have HR3 := Lib.hid ((hd3.block _ (Array.getElem?_eq_some_iff.1 HR1.out).1).trans HR1.out)
  have HB3 := Lib.hid (bthen HB1.out hd3)
  clear hW3 hd3 a1 a2 a3 hq
  obtain ⟨b1, b2, b3⟩ := box_cells (Below.refl _ _) hx3
  obtain ⟨r1, r2, r3⟩ := box_cells (Below.refl _ _) HR3.out
  clear hx3
  have fin : ∀ (rp : RepD) (W9 : World), W9 = stor W3 w.heap.size 0 (repC rp) → W9.heap[w.heap.size]? = some (.cells (repC rp).toArray 46 (0, 0)) ∧ Below w.heap.size w W9 := fun rp W9 hW9 => by
    obtain ⟨t1, t2, t3, t4⟩ := stor_at HR3.out (repC rp) rfl W9 hW9
    exact ⟨t1, HB3.out.trans (t4 _ (Nat.le_refl _))⟩
  have HFIN := Lib.hid fin
  clear fin
  cases ob
  · have HR := Lib.hid (HRR.out.1 rfl)
    go_wp2_with fail
    refine post_named ?_
    intro W9 hW9
    obtain ⟨t1, hb9⟩ := HFIN.out (repF 5) W9 hW9
    obtain ⟨a9, a8, a7⟩ := box_cells (Below.refl _ _) t1
    clear hW9
    exact bodyPost_ret (v := repV (repF 5)) (by simp [results, Tryz.results64, go_sem, a9, repV, repC, repF, st0, adv0]) rfl ⟨by rw [HR.out], hb9⟩
  · have HR := Lib.hid (HRR.out.2 rfl)
    by_cases h0 : x.nd.past.length = 0
    · have hnil : x.nd.past = [] := List.eq_nil_of_length_eq_zero h0
      have HR2 := Lib.hid (show r = repF 0 by rw [HR.out, hnil]; rfl)
      rw [h0] at b1
      clear hnil
      go_wp2_with fail
      refine post_named ?_
      intro W9 hW9
      obtain ⟨t1, hb9⟩ := HFIN.out (repF 0) W9 hW9
      obtain ⟨a9, a8, a7⟩ := box_cells (Below.refl _ _) t1
      clear hW9
      exact bodyPost_ret (v := repV (repF 0)) (by simp [results, Tryz.results64, go_sem, a9, repV, repC, repF, st0, adv0]) rfl ⟨by rw [HR2.out], hb9⟩
    · have hpos : 0 < x.nd.past.length := by omega
      obtain ⟨m, hm⟩ : ∃ m, m = x.nd.past.length - 1 := ⟨_, rfl⟩
      have hlt : m < x.nd.past.length := by omega
      obtain ⟨bb, o2, hA, hbb, hcc⟩ := HP.out.at_ hlt
      have HR2 := Lib.hid (show r = ⟨0, 0, 0, st0, x.nd.past[m]⟩ by
        rw [HR.out, getLast_nth hpos]
        simp only [hm])
      have c0 := (HB3.out.cell (p := ⟨bb, _, none⟩) hbb).trans (hcc 0 _ rfl)
      have c1 := (HB3.out.cell (p := ⟨bb, _, none⟩) hbb).trans (hcc 1 _ rfl)
      have c2 := (HB3.out.cell (p := ⟨bb, _, none⟩) hbb).trans (hcc 2 _ rfl)
      have c3 := (HB3.out.cell (p := ⟨bb, _, none⟩) hbb).trans (hcc 3 _ rfl)
      have c4 := (HB3.out.cell (p := ⟨bb, _, none⟩) hbb).trans (hcc 4 _ rfl)
      rw [Nat.add_zero] at c0
      generalize x.nd.past[m] = a at c0 c1 c2 c3 c4 HR2
      rw [hA] at b1
      have hpl := HPL.out
      have z9 : ¬ ((x.nd.past.length : Nat) : Int) = 0 := by omega
      have z7 : (((x.nd.past.length : Nat) : Int) == 0) = false := beq_eq_false_iff_ne.2 z9
      have hw : wrap64 ((m : Nat) : Int) = (m : Nat) := by unfold wrap64; omega
      have hw2 : ((x.nd.past.length : Nat) - 1 : Int) = (m : Nat) := by omega
      have z1 : (0 : Int) ≤ (m : Int) := by omega
      have z2 : (m : Int) < (x.nd.past.length : Int) := by omega
      generalize x.nd.past.length = pl at b1 z9 z7 hw2 z2
      clear hA hcc hm hlt hpos h0 hpl
      go_wp2_with fail
      refine post_named ?_
      intro W9 hW9
      obtain ⟨t1, hb9⟩ := HFIN.out ⟨0, 0, 0, st0, a⟩ W9 hW9
      obtain ⟨a9, a8, a7⟩ := box_cells (Below.refl _ _) t1
      clear hW9
      exact bodyPost_ret (v := repV ⟨0, 0, 0, st0, a⟩) (by simp [results, Tryz.results64, go_sem, a9, repV, repC, repF, st0, adv0]) rfl ⟨by rw [HR2.out], hb9⟩
end

section
set_option linter.unusedSimpArgs false
set_option linter.unusedVariables false
open Go.RowKit Go.Lib

set_option maxRecDepth 100000 in
set_option maxHeartbeats 4000000 in
theorem flFind_any {P : Nat → Prop} {M : Nat} {c : Cfg} {rs rh n : Nat} {wd : Wd} {d : FlatD} (k : Int) (w : World) (h : FlatAt P w M c rs rh n wd d) (hl : wd.cuts.length ≤ 900000) (hep : ∀ q ∈ wd.cuts, 0 ≤ q.ep) :
    Calls Tryz.prog 133 #[.pointer (some ⟨M, 0, none⟩), .int .i64 k] w fun e w' => e = .returned (.int .i64 (findT (tabW wd) k)) ∧ w' = w := by
  obtain ⟨a1, a2, a3⟩ := box_cells (Below.refl _ _) h.cell
  have htl : (tabW wd).length = d.cuts.length := by rw [h.len]; simp [tabW]
  by_cases hk : k < 1 ∨ ((tabW wd).length : Nat) < k
  · rw [findT_out hk]
    rw [htl] at hk
    clear h hl hep htl
    by_cases h1 : k < 1
    · go_enter Tryz.func133, Tryz.ntmps133
      go_wp2_with fail
      go_ret
      exact ⟨rfl, rfl⟩
    · have h2 : (d.cuts.length : Int) < k := by omega
      clear hk
      go_enter Tryz.func133, Tryz.ntmps133
      go_wp2_with fail
      go_ret
      exact ⟨rfl, rfl⟩
  · obtain ⟨j, hj, rfl⟩ : ∃ j : Nat, j < d.cuts.length ∧ k = ((j + 1 : Nat) : Int) := ⟨k.toNat - 1, by omega, by omega⟩
    have hjw : j < wd.cuts.length := by rw [← h.len]; exact hj
    obtain ⟨b, o, hA, hb, hc⟩ := h.row.1.at_ hj
    have c2 := hc 2 _ rfl
    have hct := (h.cut j _ _ (List.getElem?_eq_getElem hj) (List.getElem?_eq_getElem hjw)).1
    have hr : findT (tabW wd) ((j + 1 : Nat) : Int) = if d.cuts[j].fr = true then 8 else 0 := by
      unfold findT
      rw [if_neg (by rw [htl]; omega), show ((j + 1 : Nat) : Int).toNat - 1 = j by omega]
      have : (tabW wd)[j]? = some (if wd.cuts[j].freed = true then -1 else wd.cuts[j].ep) := by
        unfold tabW
        rw [List.getElem?_map, List.getElem?_eq_getElem hjw]
        rfl
      rw [this, hct]
      have := hep _ (List.getElem_mem hjw)
      cases wd.cuts[j].freed with
      | true => rfl
      | false =>
        show (if wd.cuts[j].ep < 0 then (8 : Int) else 0) = _
        rw [if_neg (by omega)]
        rfl
    rw [hr]
    generalize d.cuts[j].fr = fr at c2
    rw [hA] at a1
    have hjm : j ≤ 900000 := by omega
    obtain ⟨cl, hcl⟩ : ∃ n, n = d.cuts.length := ⟨_, rfl⟩
    rw [← hcl] at a1
    have z1 : ¬ ((j : Int) + 1) < 1 := by omega
    have z2 : ¬ (cl : Int) < ((j : Int) + 1) := by omega
    have z3 : (0 : Int) ≤ (j : Int) := by omega
    have z4 : (j : Int) < (cl : Int) := by omega
    have z5 : ((j : Int) + 1) - 1 = (j : Int) := by omega
    clear h hl hep htl hk hc hct hr hA hcl hj hjw
    cases fr
    all_goals
      go_enter Tryz.func133, Tryz.ntmps133
      go_wp2_with fail
      go_ret
      exact ⟨rfl, rfl⟩
end

end Go.Proofs.YtmniiodpbebnmaaGreat
