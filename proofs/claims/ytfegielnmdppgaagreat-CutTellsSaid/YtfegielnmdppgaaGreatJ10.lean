/- ring.Push where there is no room: the first one goes. History.Add; history.Add. -/
import Derived.Test.YtfegielnmdppgaaGreatJ09
namespace Go.Proofs.YtfegielnmdppgaaGreat

section
set_option linter.unusedSimpArgs false
set_option linter.unusedVariables false
open Go.RowKit Go.Lib Go.Sort

theorem advRow_set (l : List Adv) (x : Adv) : ∀ p, p < l.length → cellsOfRow advC (l.set p x) = (((((cellsOfRow advC l).set (p * 5) (.int .i64 x.tick)).set (p * 5 + 1) (.int .i64 x.load)).set (p * 5 + 2) (.int .i64 x.want)).set (p * 5 + 3) (.int .i64 x.repl)).set (p * 5 + 4) (.int .i64 x.why) := by
  induction l with
  | nil => intro p hp; simp at hp
  | cons a l ih =>
    intro p hp
    cases p with
    | zero => rfl
    | succ p =>
      rw [List.set_cons_succ, cellsOfRow_cons, cellsOfRow_cons, ih p (by simpa using hp), show (p + 1) * 5 = p * 5 + 5 by omega]
      rfl
def set5 (w : World) (g o : Nat) (x : Adv) : World := ((((w.setCell ⟨g, o, none⟩ (.int .i64 x.tick)).setCell ⟨g, o + 1, none⟩ (.int .i64 x.load)).setCell ⟨g, o + 2, none⟩ (.int .i64 x.want)).setCell ⟨g, o + 3, none⟩ (.int .i64 x.repl)).setCell ⟨g, o + 4, none⟩ (.int .i64 x.why)
theorem own_set5 {base : Nat} {w : World} {g c : Nat} {l : List Adv} (h : OwnL advC 46 5 base w (.slice (some ⟨g, 0, none⟩) l.length c) l) (p : Nat) (hp : p < l.length) (x : Adv) :
    OwnL advC 46 5 base (set5 w g (p * 5) x) (.slice (some ⟨g, 0, none⟩) l.length c) (l.set p x) ∧ w.grownBy (set5 w g (p * 5) x) (some g) := by
  obtain ⟨h1, g1⟩ := World.ownsRow.stored h (p * 5) (.int .i64 x.tick)
  obtain ⟨h2, g2⟩ := World.ownsRow.stored h1 (p * 5 + 1) (.int .i64 x.load)
  obtain ⟨h3, g3⟩ := World.ownsRow.stored h2 (p * 5 + 2) (.int .i64 x.want)
  obtain ⟨h4, g4⟩ := World.ownsRow.stored h3 (p * 5 + 3) (.int .i64 x.repl)
  obtain ⟨h5, g5⟩ := World.ownsRow.stored h4 (p * 5 + 4) (.int .i64 x.why)
  refine ⟨?_, grownBy_trans (grownBy_trans (grownBy_trans (grownBy_trans g1 g2) g3) g4) g5⟩
  unfold OwnL
  rw [advRow_set l x p hp, List.length_set]
  exact h5

theorem ownA_open {base : Nat} {w : World} {g c : Nat} {l : List Adv} (h : OwnL advC 46 5 base w (.slice (some ⟨g, 0, none⟩) l.length c) l) :
    ∃ cur, w.heap[g]? = some (.cells cur 46 (0, 0)) ∧ base ≤ g ∧ l.length ≤ c := by
  rcases h.2 with ⟨hv, _⟩ | ⟨g', cap, cur, hv, h1, h2, h3, h4, h5, h6⟩
  · cases hv
  · injection hv with e1 _ e3
    injection e1 with e1
    injection e1 with e1
    subst e1 e3
    exact ⟨cur, h2, h1, h3⟩
theorem turn_list (raw : List Adv) (frm room : Nat) (x : Adv) (h1 : raw.length = room) (h2 : frm < room) : (raw.set frm x).drop ((frm + 1) % room) ++ (raw.set frm x).take ((frm + 1) % room) = (raw.drop frm ++ raw.take frm).drop 1 ++ [x] := by
  have hd : raw.drop frm = raw[frm] :: raw.drop (frm + 1) := List.drop_eq_getElem_cons (by omega)
  have ht : (raw.set frm x).take (frm + 1) = raw.take frm ++ [x] := by
    rw [List.take_succ_eq_append_getElem (by simp; omega), List.getElem_set_self, List.take_set_of_le (Nat.le_refl _)]
  rw [hd, List.cons_append, List.drop_one, List.tail_cons, List.append_assoc]
  by_cases h : frm + 1 = room
  · rw [h, Nat.mod_self, List.drop_zero, List.take_zero, List.append_nil]
    have : (raw.set frm x).take (frm + 1) = raw.set frm x := List.take_of_length_le (by simp; omega)
    rw [← this, ht, List.drop_of_length_le (by omega), List.nil_append]
  · rw [Nat.mod_eq_of_lt (by omega), ht, List.drop_set_of_lt (by omega)]

theorem ring_turn {w w7 w8 : World} {B R g c : Nat} {frm room : Nat} {raw : List Adv} {x : Adv} (hS : w.heap[R]? = some (.cells #[.slice (some ⟨g, 0, none⟩) raw.length c, .int .i64 (frm : Nat), .int .i64 (room : Nat)] 262 (0, 0))) (hne : R ≠ g) (hglt : g < w.heap.size)
    (hb7 : Below w.heap.size w w7) (hown : OwnL advC 46 5 0 w8 (.slice (some ⟨g, 0, none⟩) raw.length c) (raw.set frm x)) (hg : w7.grownBy w8 (some g)) (h1 : raw.length = room) (h2 : frm < room) :
    RAt w (w8.setCell ⟨R, 1, none⟩ (.int .i64 ((frm + 1) % room : Nat))) B R ((raw.drop frm ++ raw.take frm).drop 1 ++ [x]) room (R :: (Value.slice (some ⟨g, 0, none⟩) raw.length c).ownBlock.toList) := by
  have hSlt := (Array.getElem?_eq_some_iff.1 hS).1
  have hS7 := (hb7.block R hSlt).trans hS
  have hS' := (hg.block R (Array.getElem?_eq_some_iff.1 hS7).1 (fun e => hne (by injection e))).trans hS7
  refine ⟨R :: (Value.slice (some ⟨g, 0, none⟩) raw.length c).ownBlock.toList, ⟨.slice (some ⟨g, 0, none⟩) raw.length c, _, raw.set frm x, (frm + 1) % room, setCell_block hS', ⟨hown.kept (fun r hr => Below.heap_setCell _ _ _ _ (fun e => by have e' : r = R := e; rw [e'] at hr; simp [Value.ownBlock] at hr; exact hne hr.symm)), rfl⟩, by simpa [Value.ownBlock] using hne, rfl, (turn_list raw frm room x h1 h2).symm, by simp; omega, Nat.mod_lt _ (by omega), fun h => by simp at h; omega⟩, List.mem_cons_self .., ?_, ?_⟩
  · refine (Upd.of_below hb7 _).trans ⟨hg.os, hg.tape, hg.output, by simp [World.setCell]; exact hg.size, fun k hk hn => ?_, fun k hk => .inl hk⟩
    simp only [List.mem_cons, Option.mem_toList, not_or] at hn
    exact (Below.heap_setCell _ _ _ _ hn.1).trans (hg.block k hk (fun e => hn.2 (by simp [Value.ownBlock]; injection e with e; exact e.symm)))
  · intro k hk
    rcases List.mem_cons.1 hk with rfl | hk
    · exact .inl hSlt
    · simp [Value.ownBlock] at hk
      exact .inl (by omega)

theorem box5 {w : World} {B : Nat} {cs : Array Value} {v0 v1 v2 v3 v4 : Value} {T : TypeId} (h : w.heap[B]? = some (.cells #[.int .i64 0, .int .i64 0, .int .i64 0, .int .i64 0, .int .i64 0] T (0, 0))) :
    (((((w.setCell ⟨B, 0, none⟩ v0).setCell ⟨B, 1, none⟩ v1).setCell ⟨B, 2, none⟩ v2).setCell ⟨B, 3, none⟩ v3).setCell ⟨B, 4, none⟩ v4).heap[B]? = some (.cells #[v0, v1, v2, v3, v4] T (0, 0)) :=
  setCell_block (setCell_block (setCell_block (setCell_block (setCell_block h))))
theorem below5 {w a : World} {B : Nat} (h : Below w.heap.size w a) (hB : w.heap.size ≤ B) (v0 v1 v2 v3 v4 : Value) : Below w.heap.size w (((((a.setCell ⟨B, 0, none⟩ v0).setCell ⟨B, 1, none⟩ v1).setCell ⟨B, 2, none⟩ v2).setCell ⟨B, 3, none⟩ v3).setCell ⟨B, 4, none⟩ v4) :=
  (below4 h hB v0 v1 v2 v3).setCell hB _
set_option maxRecDepth 100000 in
set_option maxHeartbeats 4000000 in
theorem push_full (R : Nat) (l : List Adv) (room : Nat) (fp : List Nat) (x : Adv) (w : World) (h : RingIn w R l room fp) (hroom : room ≤ 4096) (hl : ¬ l.length < room) :
    Calls Tryz.prog 217 #[.pointer (some ⟨R, 0, none⟩), .agg (advC x).toArray] w (PushS w R (l.drop 1 ++ [x]) room fp) := by
  obtain ⟨v, fr, raw, frm, hS, ⟨hown, rfl⟩, h3, rfl, rfl, h4, h5, h6⟩ := h
  have hlr : raw.length = room := by simp at hl; omega
  clear h6 hl
  have hSlt := (Array.getElem?_eq_some_iff.1 hS).1
  rcases Go.Joins.ownsRow_forms hown with ⟨rfl, hz⟩ | ⟨g, c, rfl⟩
  · omega
  have hSg : R ≠ g := by intro e; apply h3; rw [e]; simp [Value.ownBlock]
  have hfr : frm < raw.length := by omega
  obtain ⟨g', o', e', hglt, hc⟩ := (RowIn.own eAdv.len hown : RowIn 5 advC w _ raw).at_ hfr
  injection e' with e'
  injection e' with e1 e2
  subst e1 e2
  have hc0 := hc 0 _ rfl
  have hc1 := hc 1 _ rfl
  have hc2 := hc 2 _ rfl
  have hc3 := hc 3 _ rfl
  have hc4 := hc 4 _ rfl
  simp only [Nat.zero_add, Nat.add_zero] at hc0 hc1 hc2 hc3 hc4
  generalize raw[frm] = y at hc0 hc1 hc2 hc3 hc4
  obtain ⟨cur, hgb, _⟩ := ownA_open hown
  have HO := Lib.hid hown
  have HS := Lib.hid hS
  have HG := Lib.hid hgb
  have z0 : w.cell? ⟨R, 0, none⟩ = some (.slice (some ⟨g, 0, none⟩) raw.length c) := by simp only [World.cell?, hS]; rfl
  have z2 : w.cell? ⟨R, 2, none⟩ = some (.int .i64 (room : Nat)) := by simp only [World.cell?, hS]; rfl
  have q0 : ((room : Int) == 0) = false := by simp; omega
  have q1 : ¬ (raw.length : Int) < (room : Int) := by omega
  have p0 : (0 : Int) ≤ (frm : Int) := by omega
  have p1 : (frm : Int) < (raw.length : Int) := by omega
  have z2' : ∀ o1 o2 o3, (((w.alloc o1).alloc o2).alloc o3).cell? ⟨R, 2, none⟩ = some (.int .i64 (room : Nat)) := fun o1 o2 o3 => ((balloc (balloc (balloc (Below.refl _ _) _) _) _).cell (p := ⟨R, 2, none⟩) hSlt).trans z2
  clear hS hown h3 hc hgb
  unfold advC
  go_enter Tryz.func217, Tryz.ntmps217
  go_wp2_with fail
  refine name_world ?_
  intro W3 hW3
  obtain ⟨hx3, hy3, hu3, hsz3, hb3⟩ := three_boxes w _ _ _ W3 hW3
  have hsz : w.heap.size + 2 < W3.heap.size := by omega
  clear hW3 hsz3
  have hS3 := (hb3.block R hSlt).trans HS.out
  obtain ⟨a1, a2, a3⟩ := box_cells (Below.refl _ _) hx3
  obtain ⟨a4, a5, a6⟩ := box_cells (Below.refl _ _) hS3
  have HB3 := Lib.hid hb3
  have HX := Lib.hid hx3
  have HY := Lib.hid hy3
  have HU := Lib.hid hu3
  have HS3 := Lib.hid hS3
  clear hb3 hx3 hy3 hu3 hS3
  go_quiet (fail)
  go_wp2_with fail
  refine name_world ?_
  intro W5 hW5
  have hb5 : Below W3.heap.size W3 W5 := by rw [hW5]; exact below_drewN (Below.refl _ _) _
  have hb5' := bthen HB3.out hb5
  have hS5 := (hb5.block R a6).trans HS3.out
  have hx5 := (hb5.block _ a3).trans HX.out
  have hy5 := (hb5.block _ (by omega)).trans HY.out
  have hsz5 : w.heap.size + 2 < W5.heap.size := by have := hb5.size; omega
  clear hW5 hb5 a1 a2 a3 a4 a5 a6 hsz HB3 HY HU HS3 HX
  obtain ⟨a4, a5, a6⟩ := box_cells (Below.refl _ _) hS5
  have b0 := (hb5'.cell (p := ⟨g, frm * 5, none⟩) hglt).trans hc0
  have b1 := (hb5'.cell (p := ⟨g, frm * 5 + 1, none⟩) hglt).trans hc1
  have b2 := (hb5'.cell (p := ⟨g, frm * 5 + 2, none⟩) hglt).trans hc2
  have b3 := (hb5'.cell (p := ⟨g, frm * 5 + 3, none⟩) hglt).trans hc3
  have b4 := (hb5'.cell (p := ⟨g, frm * 5 + 4, none⟩) hglt).trans hc4
  have hg5 : g < W5.heap.size := by omega
  have HB5 := Lib.hid hb5'
  have HX := Lib.hid hx5
  have HY := Lib.hid hy5
  have HS5 := Lib.hid hS5
  have HL := Lib.hid hlr
  clear hb5' hx5 hy5 hS5 hc0 hc1 hc2 hc3 hc4 hlr
  go_region
  all_goals
    refine then_named ?_
    intro W6 hW6
    have hW6' : ∃ W, W6 = W ∧ Below (W5.alloc (.cells (advC y).toArray 46)).heap.size (W5.alloc (.cells (advC y).toArray 46)) W := ⟨_, hW6, by repeat (first | exact Below.refl _ _ | refine Below.drew ?_)⟩
    obtain ⟨W7, rfl, hb6⟩ := hW6'
    clear hW6
    have hb56 : Below W5.heap.size W5 W6 := bthen (balloc (Below.refl _ _) _) hb6
    have ho6 := (hb6.block W5.heap.size (by simp)).trans (heap_alloc_new _ _)
    have hS6 := (hb56.block R a6).trans HS5.out
    have hx6 := (hb56.block w.heap.size (by omega)).trans HX.out
    have hy6 := (hb56.block (w.heap.size + 1) (by omega)).trans HY.out
    have hbw6 := bthen HB5.out hb56
    have hg6 : g < W6.heap.size := by have := hb56.size; omega
    have fz : ∀ j, W6.frozen? ⟨g, j, none⟩ = false := fun j => plain_cells ((hbw6.block g hglt).trans HG.out)
    have hsz6 : W5.heap.size < W6.heap.size := by have := hb6.size; simp at this; omega
    have c0 := (hb56.cell (p := ⟨g, frm * 5, none⟩) hg5).trans b0
    have c1 := (hb56.cell (p := ⟨g, frm * 5 + 1, none⟩) hg5).trans b1
    have c2 := (hb56.cell (p := ⟨g, frm * 5 + 2, none⟩) hg5).trans b2
    have c3 := (hb56.cell (p := ⟨g, frm * 5 + 3, none⟩) hg5).trans b3
    have c4 := (hb56.cell (p := ⟨g, frm * 5 + 4, none⟩) hg5).trans b4
    clear b0 b1 b2 b3 b4 a4 a5 a6 hg5 hb6
    obtain ⟨a1, a2, a3⟩ := box_cells (Below.refl _ _) hx6
    obtain ⟨a4, a5, a6⟩ := box_cells (Below.refl _ _) hS6
    have HB6 := Lib.hid hbw6
    have HS6 := Lib.hid hS6
    have HY6 := Lib.hid hy6
    have HO6 := Lib.hid ho6
    clear hb56 ho6 hS6 hx6 hy6 hbw6
    go_wp2_with fail
    go_region
    refine then_named ?_
    intro W8 hW8
    have hW8' : ∃ W, W8 = W ∧ Below (set5 W6 g (frm * 5) x).heap.size (set5 W6 g (frm * 5) x) W := ⟨_, hW8, by unfold set5; repeat (first | exact Below.refl _ _ | refine Below.drew ?_)⟩
    obtain ⟨W9, rfl, hb8⟩ := hW8'
    clear hW8
    obtain ⟨hown8, hg8⟩ := own_set5 (HO.out.below HB6.out) frm hfr x
    have hg8' := grownBy_trans hg8 (grownBy_below hb8)
    have hown8' := hown8.below hb8
    have hS8 := (hg8'.block R a6 (fun e => by simp at e; omega)).trans HS6.out
    have hy8 := (hg8'.block (w.heap.size + 1) (by omega) (fun e => by simp at e; omega)).trans HY6.out
    have ho8 := (hg8'.block W5.heap.size (by omega) (fun e => by simp at e; omega)).trans HO6.out
    have hsz8 : W5.heap.size < W8.heap.size := by have := hg8'.size; omega
    have hrt := ring_turn (B := W5.heap.size) HS.out hSg hglt HB6.out hown8' hg8' HL.out h5
    rw [show (((frm + 1) % room : Nat) : Int) = ((frm : Int) + 1) % (room : Int) by simp] at hrt
    have HRT := Lib.hid hrt
    clear hrt a1 a2 a3 a4 a5 a6 c0 c1 c2 c3 c4 fz hb8 hown8 hown8' hg8 hg8' hg6 hsz6
    obtain ⟨a4, a5, a6⟩ := box_cells (Below.refl _ _) hS8
    have HY8 := Lib.hid hy8
    have HO8 := Lib.hid ho8
    clear hS8 hy8 ho8
    go_wp2_with fail
    go_region
    refine then_named ?_
    intro W10 hW10
    have hW10' : ∃ W, W10 = W ∧ Below (W8.setCell ⟨R, 1, none⟩ (.int .i64 (((frm : Int) + 1) % (room : Int)))).heap.size (W8.setCell ⟨R, 1, none⟩ (.int .i64 (((frm : Int) + 1) % (room : Int)))) W := ⟨_, hW10, by repeat (first | exact Below.refl _ _ | refine Below.drew ?_)⟩
    obtain ⟨W11, rfl, hb10⟩ := hW10'
    clear hW10
    have HRA := Lib.hid (HRT.out.below hb10)
    have hy10 : W10.heap[w.heap.size + 1]? = _ := (hb10.block _ (by simp [World.setCell]; omega)).trans ((Below.heap_setCell _ _ _ _ (fun e => by have e' : w.heap.size + 1 = R := e; omega)).trans HY8.out)
    have ho10 : W10.heap[W5.heap.size]? = _ := (hb10.block _ (by simp [World.setCell]; omega)).trans ((Below.heap_setCell _ _ _ _ (fun e => by have e' : W5.heap.size = R := e; omega)).trans HO8.out)
    clear a4 a5 a6 hb10
    obtain ⟨f1, f2, f3⟩ := box_cells (Below.refl _ _) hy10
    obtain ⟨f4, f5, f6⟩ := box_cells (Below.refl _ _) ho10
    clear hy10 ho10
    unfold advC at f4
    go_wp2
    have hra := HRA.out
    refine bodyPost_ret (v := .tuple #[.agg #[.int .i64 y.tick, .int .i64 y.load, .int .i64 y.want, .int .i64 y.repl, .int .i64 y.why], .bool true]) (by simp [results, Tryz.results217, go_sem, f1, f2, f3]) rfl ?_
    refine RAt.says (B := W5.heap.size) ?_ _
    have c1 : w.heap.size ≤ w.heap.size + 1 := by omega
    have c2 : w.heap.size + 1 < W5.heap.size := by omega
    exact ((((hra.set c1 c2).set c1 c2).set c1 c2).set c1 c2).set c1 c2

theorem push_any (R : Nat) (l : List Adv) (room : Nat) (fp : List Nat) (x : Adv) (w : World) (h : RingIn w R l room fp) (hroom : room ≤ 4096) :
    Calls Tryz.prog 217 #[.pointer (some ⟨R, 0, none⟩), .agg (advC x).toArray] w (PushS w R (pushL l room x) room fp) := by
  unfold pushL
  split
  · exact push_room R l room fp x w h hroom ‹_›
  · exact push_full R l room fp x w h hroom ‹_›
end

section
set_option linter.unusedSimpArgs false
set_option linter.unusedVariables false
open Go.RowKit Go.Lib Go.Sort

def HistSays (w : World) (H : Nat) (l : List Adv) (room : Nat) (fp : List Nat) (e : Ending) (w' : World) : Prop :=
  ∃ u fp', e = .returned u ∧ HistIn w' H l room fp' ∧ Upd w w' fp fp'
theorem hist_push {w w1 w2 : World} {H R : Nat} {l' : List Adv} {room : Nat} {fr fr' : List Nat} (hH : w.heap[H]? = some (.cells #[.pointer (some ⟨R, 0, none⟩)] 224 (0, 0))) (hn : H ∉ fr) (hb : Below w.heap.size w w1) (hr : RingIn w2 R l' room fr') (hR : R ∈ fr') (hu : Upd w1 w2 fr fr') :
    HistIn w2 H l' room (H :: fr') ∧ Upd w w2 (H :: fr) (H :: fr') := by
  have hlt := (Array.getElem?_eq_some_iff.1 hH).1
  have h1 := (hb.block H hlt).trans hH
  have hlt1 := (Array.getElem?_eq_some_iff.1 h1).1
  have h2 := (hu.block H hlt1 hn).trans h1
  refine ⟨⟨R, fr', h2, hr, fun h => ?_, rfl, hR⟩, (Upd.of_below hb _).trans (hu.mono (fun k hk => List.mem_cons_of_mem _ hk) (fun k hk => ?_))⟩
  · rcases hu.fresh H h with h | h
    · exact hn h
    · omega
  · rcases List.mem_cons.1 hk with rfl | hk
    · exact .inl (List.mem_cons_self ..)
    · exact (hu.fresh k hk).imp (List.mem_cons_of_mem _) id

set_option maxRecDepth 100000 in
set_option maxHeartbeats 4000000 in
theorem histAdd_any (H : Nat) (l : List Adv) (room : Nat) (fp : List Nat) (x : Adv) (w : World) (h : HistIn w H l room fp) (hroom : room ≤ 4096) :
    Calls Tryz.prog 174 #[.pointer (some ⟨H, 0, none⟩), .agg (advC x).toArray] w (HistSays w H (pushL l room x) room fp) := by
  obtain ⟨R, fr, hH, hR, hn, rfl, hRm⟩ := h
  have hlt := (Array.getElem?_eq_some_iff.1 hH).1
  have HH := Lib.hid hH
  have HR := Lib.hid hR
  clear hH hR
  unfold advC
  go_enter Tryz.func174, Tryz.ntmps174
  go_wp2_with (first
    | (go_at_call 182
       refine calls_named ?_
       intro W1 hW1
       have hb1 : Below w.heap.size w W1 := by rw [hW1]; exact balloc (Below.refl _ _) _
       have hx1 : W1.heap[w.heap.size]? = some (.cells #[.int .i64 x.tick, .int .i64 x.load, .int .i64 x.want, .int .i64 x.repl, .int .i64 x.why] 46 (0, 0)) := by rw [hW1]; exact heap_alloc_new _ _
       clear hW1
       refine (kept_any H R W1 ((hb1.block H hlt).trans HH.out)).mono ?_
       rintro e w2 ⟨rfl, hb2⟩
       obtain ⟨a1, a2, a3⟩ := box_cells hb2 hx1
       have HB2 := Lib.hid (bthen hb1 hb2)
       clear hb1 hx1 hb2)
    | (go_at_call 217
       refine calls_named ?_
       intro W3 hW3
       have hb3 : Below w.heap.size w W3 := by rw [hW3]; exact HB2.out
       clear hW3
       refine (push_any R l room fr x W3 (HR.out.below hb3) hroom).mono ?_
       rintro e w4 ⟨u, fr4, rfl, hr4, hR4, hu4⟩
       have HP := Lib.hid (hist_push HH.out hn hb3 hr4 hR4 hu4)
       have HR4 := Lib.hid hr4
       clear hr4 hR4 hu4 hb3)
    | (go_at_call 218
       refine (ringLen_any R _ room fr4 w4 HR4.out).mono ?_
       rintro e w5 ⟨rfl, hb5⟩
       have HB5 := Lib.hid hb5
       clear hb5))
  go_ret
  exact ⟨_, _, rfl, HP.out.1.below HB5.out, HP.out.2.trans (Upd.of_below HB5.out _)⟩
end

end Go.Proofs.YtfegielnmdppgaaGreat
