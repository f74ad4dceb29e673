/- series.Put, Trim, List, New, Clone; series.New, List, Clone, Trim; ring.Ring and history.History over decisions, in memory: New, Len, kept, Clone; the ring's steps in plain Lean; A world behind a body is named; ring.Push while there is room; ring.Push where there is no room: the first one goes. History.Add; history.Add. -/
import Derived.Test.YtmniiodpbebnmaaGreatC07
import Derived.Test.YtmniiodpbebnmaaGreatC04
import Derived.Test.YtmniiodpbebnmaaGreatC01
namespace Go.Proofs.YtmniiodpbebnmaaGreat

section
set_option linter.unusedSimpArgs false
set_option linter.unusedVariables false
open Go.RowKit Go.Lib Go.Sort


theorem ser_step {w w' : World} {S : Nat} {v v' : Value} {room : Int} {out : List Smp} (hS : w.heap[S]? = some (.cells #[v, .int .i64 room] 270 (0, 0))) (hne : v.ownBlock ≠ some S) (hown : OwnL smpC 111 2 0 w' v' out)
    (hg : w.grownBy w' v.ownBlock) (hb : v'.ownBlock = v.ownBlock ∨ ∀ r, v'.ownBlock = some r → w.heap.size ≤ r) :
    SerIn (w'.setCell ⟨S, 0, none⟩ v') S out room (S :: v'.ownBlock.toList) ∧ Upd w (w'.setCell ⟨S, 0, none⟩ v') (S :: v.ownBlock.toList) (S :: v'.ownBlock.toList) := by
  have hSlt := (Array.getElem?_eq_some_iff.1 hS).1
  have hS' : w'.heap[S]? = some (.cells #[v, .int .i64 room] 270 (0, 0)) := (hg.block S hSlt (fun e => hne e.symm)).trans hS
  have hne' : v'.ownBlock ≠ some S := fun e => by
    rcases hb with h | h
    · exact hne (h ▸ e)
    · have := h S e; omega
  refine ⟨⟨v', v'.ownBlock.toList, setCell_block hS', ⟨hown.kept (fun r hr => Below.heap_setCell _ _ _ _ (fun e => by have e' : r = S := e; rw [e'] at hr; exact hne' hr)), rfl⟩, by simpa using hne', rfl⟩, ?_⟩
  refine ⟨hg.os, hg.tape, hg.output, by simp [World.setCell]; exact hg.size, fun k hk hn => ?_, fun k hk => ?_⟩
  · simp only [List.mem_cons, Option.mem_toList, not_or] at hn
    exact (Below.heap_setCell _ _ _ _ hn.1).trans (hg.block k hk (fun e => hn.2 e.symm))
  · rcases List.mem_cons.1 hk with rfl | hk
    · exact .inl (List.mem_cons_self ..)
    · have hk' : v'.ownBlock = some k := by simpa using hk
      rcases hb with h | h
      · exact .inl (List.mem_cons_of_mem _ (by rw [← h]; simpa using hk'))
      · exact .inr (h k hk')

def insS (l : List Smp) (x : Smp) : List Smp := l.take (placeS l x.1) ++ x :: l.drop (placeS l x.1)
def hitS (l : List Smp) (x : Smp) : Bool := decide ((l[placeS l x.1]?).map (·.1) = some x.1)
def cutS (room : Int) (m : List Smp) : List Smp := if room < (m.length : Int) then m.drop 1 else m
/-- A series with one more. -/
def putS (l : List Smp) (room : Int) (x : Smp) : List Smp :=
  if hitS l x = true then l.set (placeS l x.1) x else cutS room (insS l x)
theorem insS_len (l : List Smp) (x : Smp) : (insS l x).length = l.length + 1 := by
  have := placeS_le l x.1
  simp [insS]; omega

def SerSays (w : World) (S : Nat) (l : List Smp) (room : Int) (fp : List Nat) (v : Value) (e : Ending) (w' : World) : Prop :=
  ∃ fp', e = .returned v ∧ SerIn w' S l room fp' ∧ Upd w w' fp fp'

theorem smpRow_set (l : List Smp) (x : Smp) : ∀ p, p < l.length → cellsOfRow smpC (l.set p x) = ((cellsOfRow smpC l).set (p * 2) (.int .i64 x.1)).set (p * 2 + 1) (.int .i64 x.2) := by
  induction l with
  | nil => intro p hp; simp at hp
  | cons a l ih =>
    intro p hp
    cases p with
    | zero => rfl
    | succ p =>
      rw [List.set_cons_succ, cellsOfRow_cons, cellsOfRow_cons, ih p (by simpa using hp), show (p + 1) * 2 = p * 2 + 2 by omega]
      rfl
theorem own_set {base : Nat} {w : World} {g c : Nat} {l : List Smp} (h : OwnL smpC 111 2 base w (.slice (some ⟨g, 0, none⟩) l.length c) l) (p : Nat) (hp : p < l.length) (x : Smp) :
    OwnL smpC 111 2 base ((w.setCell ⟨g, p * 2, none⟩ (.int .i64 x.1)).setCell ⟨g, p * 2 + 1, none⟩ (.int .i64 x.2)) (.slice (some ⟨g, 0, none⟩) l.length c) (l.set p x) ∧ w.grownBy ((w.setCell ⟨g, p * 2, none⟩ (.int .i64 x.1)).setCell ⟨g, p * 2 + 1, none⟩ (.int .i64 x.2)) (some g) := by
  obtain ⟨h1, g1⟩ := World.ownsRow.stored h (p * 2) (.int .i64 x.1)
  obtain ⟨h2, g2⟩ := World.ownsRow.stored h1 (p * 2 + 1) (.int .i64 x.2)
  refine ⟨?_, grownBy_trans g1 g2⟩
  unfold OwnL
  rw [smpRow_set l x p hp, List.length_set]
  exact h2

theorem SerSays.later {w W W' : World} {S : Nat} {l : List Smp} {room : Int} {fp : List Nat} {v : Value} {e : Ending} (h : SerSays w S l room fp v e W) (hb : Below W.heap.size W W') : SerSays w S l room fp v e W' := by
  obtain ⟨fp', h1, h2, h3⟩ := h
  exact ⟨fp', h1, h2.below hb, h3.trans (Upd.of_below hb _)⟩
theorem ser_set {w w2 : World} {S g c : Nat} {l : List Smp} {room : Int} {p : Nat} {x : Smp} (hb : Below w.heap.size w w2) (hS : w.heap[S]? = some (.cells #[.slice (some ⟨g, 0, none⟩) l.length c, .int .i64 room] 270 (0, 0))) (hSg : S ≠ g)
    (hown : OwnL smpC 111 2 0 w (.slice (some ⟨g, 0, none⟩) l.length c) l) (hp : p < l.length) :
    SerSays w S (l.set p x) room (S :: (Value.slice (some ⟨g, 0, none⟩) l.length c).ownBlock.toList) (.int .i64 0) (.returned (.int .i64 0)) ((w2.setCell ⟨g, p * 2, none⟩ (.int .i64 x.1)).setCell ⟨g, p * 2 + 1, none⟩ (.int .i64 x.2)) := by
  have hSlt := (Array.getElem?_eq_some_iff.1 hS).1
  obtain ⟨h1, h2⟩ := own_set (hown.below hb) p hp x
  have hS2 := (hb.block S hSlt).trans hS
  have hSlt2 := (Array.getElem?_eq_some_iff.1 hS2).1
  refine ⟨_, rfl, ⟨.slice (some ⟨g, 0, none⟩) l.length c, _, (h2.block S hSlt2 (fun e => hSg (by injection e))).trans hS2, ⟨h1, rfl⟩, by simpa [Value.ownBlock] using hSg, rfl⟩, ?_⟩
  refine (Upd.of_below hb _).trans ⟨h2.os, h2.tape, h2.output, h2.size, fun k hk hn => h2.block k hk (fun e => hn (by injection e with e; rw [e]; simp [Value.ownBlock])), fun _ h => .inl h⟩

set_option maxRecDepth 100000 in
set_option maxHeartbeats 4000000 in
/-- Put in the place of one. -/
theorem serPut_hit (S : Nat) (l : List Smp) (room : Int) (fp : List Nat) (x : Smp) (w : World) (h : SerIn w S l room fp) (hr : risingS l) (hl : l.length ≤ 300) (hroom : 0 < room) (hx1 : 0 ≤ x.1) (hx2 : 0 ≤ x.2) (hhit : hitS l x = true) :
    Calls Tryz.prog 194 #[.pointer (some ⟨S, 0, none⟩), .int .i64 x.1, .int .i64 x.2] w (SerSays w S (l.set (placeS l x.1) x) room fp (.int .i64 0)) := by
  have hp : ∃ h : placeS l x.1 < l.length, (l[placeS l x.1]).1 = x.1 := by
    unfold hitS at hhit
    rw [decide_eq_true_eq] at hhit
    cases hq : l[placeS l x.1]? with
    | none => rw [hq] at hhit; cases hhit
    | some y =>
      obtain ⟨h1, rfl⟩ := List.getElem?_eq_some_iff.1 hq
      rw [hq] at hhit
      exact ⟨h1, by simpa using hhit⟩
  have HPL := Lib.hid (serPlace_any S l room fp x.1 w h hr (by omega))
  generalize placeS l x.1 = p at hp HPL
  obtain ⟨hp1, hp2⟩ := hp
  have hs0 : serE x.1 x.2 = 0 := by unfold serE; rw [if_neg (by omega), if_neg (by omega)]
  have HS0 := Lib.hid hs0
  obtain ⟨v, fr, hS, ⟨hown, rfl⟩, hnS, rfl⟩ := h
  clear hs0 hhit hr
  rcases Go.Joins.ownsRow_forms hown with ⟨rfl, hz⟩ | ⟨g, c, rfl⟩
  · omega
  · have hSlt := (Array.getElem?_eq_some_iff.1 hS).1
    have hSg : S ≠ g := by intro e; apply hnS; rw [e]; simp [Value.ownBlock]
    obtain ⟨g', o', e', hglt, hc⟩ := (RowIn.own eSmp.len hown : RowIn 2 smpC w _ l).at_ hp1
    injection e' with e'
    injection e' with e1 e2
    subst e1 e2
    have hc0 := hc 0 _ rfl
    have hc1 := hc 1 _ rfl
    rw [hp2] at hc0
    simp only [Nat.zero_add, Nat.add_zero] at hc0 hc1
    obtain ⟨cur, hgb, _⟩ := own_open hown
    have HO := Lib.hid hown
    have HS := Lib.hid hS
    have HG := Lib.hid hgb
    have q0 : (0 : Int) ≤ ((p : Nat) : Int) := by omega
    have q1 : ((p : Nat) : Int) < (l.length : Int) := by omega
    have hroom0 : (room == 0) = false := by simp; omega
    have z0 : w.cell? ⟨S, 0, none⟩ = some (.slice (some ⟨g, 0, none⟩) l.length c) := by simp only [World.cell?, hS]; rfl
    have z1 : w.cell? ⟨S, 1, none⟩ = some (.int .i64 room) := by simp only [World.cell?, hS]; rfl
    clear hc hnS hown hS hgb hp2
    go_enter Tryz.func194, Tryz.ntmps194
    go_wp2_with (first
      | (go_at_call 102; refine (seriesRight_any _ _ _).mono ?_; rw [HS0.out]; rintro e w1 ⟨rfl, rfl⟩)
      | (go_at_call 232; refine HPL.out.mono ?_; rintro e w2 ⟨rfl, hb2⟩
         have hc0' := (hb2.cell (p := ⟨g, p * 2, none⟩) hglt).trans hc0
         have hc1' := (hb2.cell (p := ⟨g, p * 2 + 1, none⟩) hglt).trans hc1
         have z0' := (hb2.cell (p := ⟨S, 0, none⟩) hSlt).trans z0
         have fz0 : w2.frozen? ⟨g, p * 2, none⟩ = false := plain_cells ((hb2.block g hglt).trans HG.out)
         have fz1 : w2.frozen? ⟨g, p * 2 + 1, none⟩ = false := plain_cells ((hb2.block g hglt).trans HG.out)
         have hsz2 := hb2.size
         have hg2 : g < w2.heap.size := by omega
         have hS2 : S < w2.heap.size := by omega
         have HB2 := Lib.hid hb2))
    go_region
    all_goals go_wp2
    all_goals go_ret
    all_goals exact SerSays.later (ser_set HB2.out HS.out hSg HO.out hp1) (by repeat (first | exact Below.refl _ _ | refine balloc ?_ _ | refine Below.drew ?_))

set_option maxRecDepth 100000 in
set_option maxHeartbeats 4000000 in
/-- Put of a new one. -/
theorem serPut_new (S : Nat) (l : List Smp) (room : Int) (fp : List Nat) (x : Smp) (w : World) (h : SerIn w S l room fp) (hr : risingS l) (hl : l.length ≤ 300) (hroom : 0 < room) (hx1 : 0 ≤ x.1) (hx2 : 0 ≤ x.2) (hhit : hitS l x = false) :
    Calls Tryz.prog 194 #[.pointer (some ⟨S, 0, none⟩), .int .i64 x.1, .int .i64 x.2] w (SerSays w S (cutS room (insS l x)) room fp (.int .i64 0)) := by
  have hmiss : ∀ h : placeS l x.1 < l.length, (l[placeS l x.1]).1 ≠ x.1 := fun h e => by
    unfold hitS at hhit
    rw [decide_eq_false_iff_not, List.getElem?_eq_getElem h] at hhit
    exact hhit (by simp [e])
  have HPL := Lib.hid (serPlace_any S l room fp x.1 w h hr (by omega))
  have hpl := placeS_le l x.1
  have hil := insS_len l x
  have HIN := Lib.hid (show insS l x = l.take (placeS l x.1) ++ x :: l.drop (placeS l x.1) from rfl)
  generalize insS l x = m at HIN hil
  generalize placeS l x.1 = p at hmiss HPL hpl HIN
  have hs0 : serE x.1 x.2 = 0 := by unfold serE; rw [if_neg (by omega), if_neg (by omega)]
  have HS0 := Lib.hid hs0
  obtain ⟨v, fr, hS, ⟨hown, rfl⟩, hnS, rfl⟩ := h
  clear hs0 hhit hr
  obtain ⟨A, c, rfl⟩ := hown.form
  have hSlt := (Array.getElem?_eq_some_iff.1 hS).1
  have hR := (RowIn.own eSmp.len hown : RowIn 2 smpC w _ l)
  have HO := Lib.hid hown
  have HS := Lib.hid hS
  have hnS' : (Value.slice A l.length c).ownBlock ≠ some S := fun e => hnS (by rw [e]; simp)
  have HN := Lib.hid hnS'
  have q0 : (0 : Int) ≤ ((p : Nat) : Int) := by omega
  have hroom0 : (room == 0) = false := by simp; omega
  have z0 : w.cell? ⟨S, 0, none⟩ = some (.slice A l.length c) := by simp only [World.cell?, hS]; rfl
  have z1 : w.cell? ⟨S, 1, none⟩ = some (.int .i64 room) := by simp only [World.cell?, hS]; rfl
  have hlt0 : ∀ r, (Value.slice A l.length c).ownBlock = some r → r < w.heap.size := fun r hr => (hown.lt hr).2
  have HLT := Lib.hid hlt0
  have HIL := Lib.hid hil
  clear hnS hown hS hnS' hlt0 hil
  by_cases hplt : p < l.length
  · obtain ⟨g, o, rfl, hglt, hc⟩ := hR.at_ hplt
    have hc0 := hc 0 _ rfl
    rw [Nat.add_zero] at hc0
    have hne := hmiss hplt
    have q1 : ((p : Nat) : Int) < (l.length : Int) := by omega
    generalize l[p] = y at hc0 hne
    have hq : (y.1 == x.1) = false := by simpa using hne
    clear hc hne hmiss hR
    go_enter Tryz.func194, Tryz.ntmps194
    go_wp2_with (first
      | (go_at_call 102; refine (seriesRight_any _ _ _).mono ?_; rw [HS0.out]; rintro e w1 ⟨rfl, rfl⟩)
      | (go_at_call 232; refine HPL.out.mono ?_; rintro e w2 ⟨rfl, hb2⟩
         have hc0' := (hb2.cell (p := ⟨g, o + p * 2, none⟩) hglt).trans hc0
         have hg2 : g < w2.heap.size := by have := hb2.size; omega
         have z0' := (hb2.cell (p := ⟨S, 0, none⟩) hSlt).trans z0
         have z1' := (hb2.cell (p := ⟨S, 1, none⟩) hSlt).trans z1
         have hsz2 := hb2.size
         have hS2 : S < w2.heap.size := by omega
         have HB2 := Lib.hid hb2))
    refine name_world ?_
    intro W3 hW3
    have hb3 : Below w2.heap.size w2 W3 := by rw [hW3]; exact balloc (Below.refl _ _) _
    have hx3 : W3.heap[w2.heap.size]? = some (.cells #[.int .i64 x.1, .int .i64 x.2] 111 (0, 0)) := by rw [hW3]; exact heap_alloc_new _ _
    have hbw3 : Below w.heap.size w W3 := bthen HB2.out hb3
    have hS3 := (hbw3.block S hSlt).trans HS.out
    obtain ⟨a1, a2, a3⟩ := box_cells (Below.refl _ _) hx3
    obtain ⟨a4, a5, a6⟩ := box_cells (Below.refl _ _) hS3
    have HS3 := Lib.hid hS3
    have HBW3 := Lib.hid hbw3
    clear hW3 hx3 hS3 hbw3 hb3
    go_region_with ((
      go_at_call 233
      refine calls_named ?_
      intro W4 hW4
      have hb4 : Below W3.heap.size W3 W4 := by rw [hW4]; repeat (first | exact Below.refl _ _ | refine balloc ?_ _ | refine Below.drew ?_)
      have hB4 : W4.heap[W3.heap.size]? = some (.cells #[.int .i64 x.1, .int .i64 x.2] 111 (0, 0)) := by rw [hW4]; first | exact heap_alloc_new W3.drew _ | exact heap_alloc_new W3 _
      clear hW4
      have hS4 := (hb4.block S a6).trans HS3.out
      have hsz3 := HBW3.out.size
      have C := insert_any 0 _ l p x W3.heap.size W4 ((HO.out.below HBW3.out).below hb4) (by omega) (by omega) hB4 (fun e => by have := HLT.out _ e; omega) (Nat.zero_le _)
      rw [← HIN.out] at C
      refine C.mono ?_
      rintro e w5 ⟨A5, c5, rfl, hown5, hg5, hblk5⟩
      clear C
      have hS5 := (hg5.block S (Array.getElem?_eq_some_iff.1 hS4).1 (fun e => HN.out e.symm)).trans hS4
      obtain ⟨e1, e2, e3⟩ := box_cells (Below.refl _ _) hS5
      have HST := Lib.hid (ser_step hS4 HN.out hown5 hg5 hblk5)
      have HB4 := Lib.hid (bthen HBW3.out hb4)
      clear hown5 hg5 hblk5 hS5 hS4 hB4 hb4))
    all_goals
      (try go_wp2_with fail)
      refine name_world ?_
      intro W6 hW6
      have hst := HST.out
      have hW6' : ∃ W, W6 = W ∧ Below (w5.setCell ⟨S, 0, none⟩ (.slice A5 m.length c5)).heap.size (w5.setCell ⟨S, 0, none⟩ (.slice A5 m.length c5)) W := ⟨_, hW6, by repeat (first | exact Below.refl _ _ | refine balloc ?_ _ | refine Below.drew ?_)⟩
      obtain ⟨W7, rfl, hb6⟩ := hW6'
      clear hW6
      have hser6 := hst.1.below hb6
      have hupd6 := ((Upd.of_below HB4.out _).trans hst.2).trans (Upd.of_below hb6 _)
      clear hst
      obtain ⟨v6, fr6, hS6, ⟨hown6, hfr6⟩, hnS6, hfp6⟩ := id hser6
      have hv6 : v6 = .slice A5 m.length c5 := by
        have h1 : W6.cell? ⟨S, 0, none⟩ = some v6 := by simp only [World.cell?, hS6]; rfl
        have h2 : W6.cell? ⟨S, 0, none⟩ = some (.slice A5 m.length c5) := by
          rw [hb6.cell (p := ⟨S, 0, none⟩) (by simp [World.setCell]; exact e3), World.cell?_setCell_same _ _ _ (by rw [e1 0]; rfl)]
        rw [h1] at h2
        injection h2
      subst hv6
      obtain ⟨d1, d2, d3⟩ := box_cells (Below.refl _ _) hS6
      have HSER := Lib.hid hser6
      have HUPD := Lib.hid hupd6
      have HS6 := Lib.hid hS6
      have HO6 := Lib.hid hown6
      have HN6 := Lib.hid (show (Value.slice A5 m.length c5).ownBlock ≠ some S from fun e => hnS6 (by rw [hfr6, e]; simp))
      clear hser6 hupd6 hS6 hown6 hnS6 hfr6 hfp6 hb6
      by_cases hbig : room < (m.length : Int)
      · have EC := Lib.hid (show cutS room m = m.drop 1 from if_pos hbig)
        go_wp2_with fail
        go_quiet (fail)
        go_wp2_with (first
          | (go_at_call 234
             refine calls_named ?_
             intro W8 hW8
             have hb8 : Below W6.heap.size W6 W8 := by rw [hW8]; exact below_drewN (Below.refl _ _) _
             clear hW8
             have hS8 := (hb8.block S d3).trans HS6.out
             refine (delete_any 0 _ m 1 W8 (HO6.out.below hb8) (by have := HIL.out; omega) (by have := HIL.out; omega)).mono ?_
             rintro e w9 ⟨A9, c9, rfl, hown9, hg9, hblk9⟩
             have hS9 := (hg9.block S (Array.getElem?_eq_some_iff.1 hS8).1 (fun e => HN6.out e.symm)).trans hS8
             obtain ⟨g1, g2, g3⟩ := box_cells (Below.refl _ _) hS9
             have HST9 := Lib.hid (ser_step hS8 HN6.out hown9 hg9 hblk9)
             have HB8 := Lib.hid hb8
             clear hown9 hg9 hblk9 hS9 hS8 hb8))
        go_ret
        obtain ⟨h1, h2⟩ := HST9.out
        rw [EC.out]
        rw [List.length_drop] at h1 h2
        refine ⟨_, rfl, h1, HUPD.out.trans ((Upd.of_below HB8.out _).trans ?_)⟩
        exact h2
      · have EC := Lib.hid (show cutS room m = m from if_neg hbig)
        go_wp2_with fail
        go_quiet (fail)
        go_wp2
        go_ret
        rw [EC.out]
        exact ⟨_, rfl, HSER.out.below (below_drewN (Below.refl _ _) _), HUPD.out.trans (Upd.of_below (below_drewN (Below.refl _ _) _) _)⟩
  · have q1 : ¬ ((p : Nat) : Int) < (l.length : Int) := by omega
    clear hmiss hR
    go_enter Tryz.func194, Tryz.ntmps194
    go_wp2_with (first
      | (go_at_call 102; refine (seriesRight_any _ _ _).mono ?_; rw [HS0.out]; rintro e w1 ⟨rfl, rfl⟩)
      | (go_at_call 232; refine HPL.out.mono ?_; rintro e w2 ⟨rfl, hb2⟩
         have z0' := (hb2.cell (p := ⟨S, 0, none⟩) hSlt).trans z0
         have z1' := (hb2.cell (p := ⟨S, 1, none⟩) hSlt).trans z1
         have hsz2 := hb2.size
         have hS2 : S < w2.heap.size := by omega
         have HB2 := Lib.hid hb2))
    refine name_world ?_
    intro W3 hW3
    have hb3 : Below w2.heap.size w2 W3 := by rw [hW3]; exact balloc (Below.refl _ _) _
    have hx3 : W3.heap[w2.heap.size]? = some (.cells #[.int .i64 x.1, .int .i64 x.2] 111 (0, 0)) := by rw [hW3]; exact heap_alloc_new _ _
    have hbw3 : Below w.heap.size w W3 := bthen HB2.out hb3
    have hS3 := (hbw3.block S hSlt).trans HS.out
    obtain ⟨a1, a2, a3⟩ := box_cells (Below.refl _ _) hx3
    obtain ⟨a4, a5, a6⟩ := box_cells (Below.refl _ _) hS3
    have HS3 := Lib.hid hS3
    have HBW3 := Lib.hid hbw3
    clear hW3 hx3 hS3 hbw3 hb3
    go_region_with ((
      go_at_call 233
      refine calls_named ?_
      intro W4 hW4
      have hb4 : Below W3.heap.size W3 W4 := by rw [hW4]; repeat (first | exact Below.refl _ _ | refine balloc ?_ _ | refine Below.drew ?_)
      have hB4 : W4.heap[W3.heap.size]? = some (.cells #[.int .i64 x.1, .int .i64 x.2] 111 (0, 0)) := by rw [hW4]; first | exact heap_alloc_new W3.drew _ | exact heap_alloc_new W3 _
      clear hW4
      have hS4 := (hb4.block S a6).trans HS3.out
      have hsz3 := HBW3.out.size
      have C := insert_any 0 _ l p x W3.heap.size W4 ((HO.out.below HBW3.out).below hb4) (by omega) (by omega) hB4 (fun e => by have := HLT.out _ e; omega) (Nat.zero_le _)
      rw [← HIN.out] at C
      refine C.mono ?_
      rintro e w5 ⟨A5, c5, rfl, hown5, hg5, hblk5⟩
      clear C
      have hS5 := (hg5.block S (Array.getElem?_eq_some_iff.1 hS4).1 (fun e => HN.out e.symm)).trans hS4
      obtain ⟨e1, e2, e3⟩ := box_cells (Below.refl _ _) hS5
      have HST := Lib.hid (ser_step hS4 HN.out hown5 hg5 hblk5)
      have HB4 := Lib.hid (bthen HBW3.out hb4)
      clear hown5 hg5 hblk5 hS5 hS4 hB4 hb4))
    all_goals
      (try go_wp2_with fail)
      refine name_world ?_
      intro W6 hW6
      have hst := HST.out
      have hW6' : ∃ W, W6 = W ∧ Below (w5.setCell ⟨S, 0, none⟩ (.slice A5 m.length c5)).heap.size (w5.setCell ⟨S, 0, none⟩ (.slice A5 m.length c5)) W := ⟨_, hW6, by repeat (first | exact Below.refl _ _ | refine balloc ?_ _ | refine Below.drew ?_)⟩
      obtain ⟨W7, rfl, hb6⟩ := hW6'
      clear hW6
      have hser6 := hst.1.below hb6
      have hupd6 := ((Upd.of_below HB4.out _).trans hst.2).trans (Upd.of_below hb6 _)
      clear hst
      obtain ⟨v6, fr6, hS6, ⟨hown6, hfr6⟩, hnS6, hfp6⟩ := id hser6
      have hv6 : v6 = .slice A5 m.length c5 := by
        have h1 : W6.cell? ⟨S, 0, none⟩ = some v6 := by simp only [World.cell?, hS6]; rfl
        have h2 : W6.cell? ⟨S, 0, none⟩ = some (.slice A5 m.length c5) := by
          rw [hb6.cell (p := ⟨S, 0, none⟩) (by simp [World.setCell]; exact e3), World.cell?_setCell_same _ _ _ (by rw [e1 0]; rfl)]
        rw [h1] at h2
        injection h2
      subst hv6
      obtain ⟨d1, d2, d3⟩ := box_cells (Below.refl _ _) hS6
      have HSER := Lib.hid hser6
      have HUPD := Lib.hid hupd6
      have HS6 := Lib.hid hS6
      have HO6 := Lib.hid hown6
      have HN6 := Lib.hid (show (Value.slice A5 m.length c5).ownBlock ≠ some S from fun e => hnS6 (by rw [hfr6, e]; simp))
      clear hser6 hupd6 hS6 hown6 hnS6 hfr6 hfp6 hb6
      by_cases hbig : room < (m.length : Int)
      · have EC := Lib.hid (show cutS room m = m.drop 1 from if_pos hbig)
        go_wp2_with fail
        go_quiet (fail)
        go_wp2_with (first
          | (go_at_call 234
             refine calls_named ?_
             intro W8 hW8
             have hb8 : Below W6.heap.size W6 W8 := by rw [hW8]; exact below_drewN (Below.refl _ _) _
             clear hW8
             have hS8 := (hb8.block S d3).trans HS6.out
             refine (delete_any 0 _ m 1 W8 (HO6.out.below hb8) (by have := HIL.out; omega) (by have := HIL.out; omega)).mono ?_
             rintro e w9 ⟨A9, c9, rfl, hown9, hg9, hblk9⟩
             have hS9 := (hg9.block S (Array.getElem?_eq_some_iff.1 hS8).1 (fun e => HN6.out e.symm)).trans hS8
             obtain ⟨g1, g2, g3⟩ := box_cells (Below.refl _ _) hS9
             have HST9 := Lib.hid (ser_step hS8 HN6.out hown9 hg9 hblk9)
             have HB8 := Lib.hid hb8
             clear hown9 hg9 hblk9 hS9 hS8 hb8))
        go_ret
        obtain ⟨h1, h2⟩ := HST9.out
        rw [EC.out]
        rw [List.length_drop] at h1 h2
        refine ⟨_, rfl, h1, HUPD.out.trans ((Upd.of_below HB8.out _).trans ?_)⟩
        exact h2
      · have EC := Lib.hid (show cutS room m = m from if_neg hbig)
        go_wp2_with fail
        go_quiet (fail)
        go_wp2
        go_ret
        rw [EC.out]
        exact ⟨_, rfl, HSER.out.below (below_drewN (Below.refl _ _) _), HUPD.out.trans (Upd.of_below (below_drewN (Below.refl _ _) _) _)⟩

theorem serPut_any (S : Nat) (l : List Smp) (room : Int) (fp : List Nat) (x : Smp) (w : World) (h : SerIn w S l room fp) (hr : risingS l) (hl : l.length ≤ 300) (hroom : 0 < room) (hx1 : 0 ≤ x.1) (hx2 : 0 ≤ x.2) :
    Calls Tryz.prog 194 #[.pointer (some ⟨S, 0, none⟩), .int .i64 x.1, .int .i64 x.2] w (SerSays w S (putS l room x) room fp (.int .i64 0)) := by
  unfold putS
  cases hh : hitS l x with
  | true => exact serPut_hit S l room fp x w h hr hl hroom hx1 hx2 hh
  | false => exact serPut_new S l room fp x w h hr hl hroom hx1 hx2 hh
end

section
set_option linter.unusedSimpArgs false
set_option linter.unusedVariables false
open Go.RowKit Go.Lib Go.Sort

/-- A new thing, its footprint all new. -/
def NewSer (w : World) (l : List Smp) (room : Int) (e : Ending) (w' : World) : Prop :=
  ∃ S fp, e = .returned (.pointer (some ⟨S, 0, none⟩)) ∧ SerIn w' S l room fp ∧ (∀ k ∈ fp, w.heap.size ≤ k) ∧ Below w.heap.size w w'

set_option maxRecDepth 100000 in
set_option maxHeartbeats 4000000 in
theorem serNew_any (room : Int) (w : World) (h1 : 1 ≤ room) (h2 : room ≤ 256) :
    Calls Tryz.prog 193 #[.int .i64 room] w (NewSer w [] room) := by
  have q1 : ¬ room < 1 := by omega
  have q2 : ¬ 256 < room := by omega
  go_enter Tryz.func193, Tryz.ntmps193
  go_wp2
  go_ret
  refine ⟨w.heap.size, [w.heap.size], rfl, ⟨.slice none 0 0, [], heap_alloc_new _ _, SRow.nil _, by simp, rfl⟩, fun k hk => by simp at hk; omega, balloc (Below.refl _ _) _⟩

set_option maxRecDepth 100000 in
set_option maxHeartbeats 4000000 in
theorem serList_any (S : Nat) (l : List Smp) (room : Int) (fp : List Nat) (w : World) (h : SerIn w S l room fp) (hl : l.length ≤ 1000000) :
    Calls Tryz.prog 128 #[.pointer (some ⟨S, 0, none⟩)] w (CloneS smpC 111 2 w l) := by
  obtain ⟨v, fr, hS, hrow, _, _⟩ := h
  have C := Lib.hid (cloneS_any v l w (hrow.row eSmp) hl)
  have z0 : w.cell? ⟨S, 0, none⟩ = some v := by simp only [World.cell?, hS]; rfl
  clear hS hrow
  go_enter Tryz.func128, Tryz.ntmps128
  go_wp2_with (go_at_call 127; refine C.out.mono ?_; rintro e w2 ⟨A, c, fp, rfl, h1, h2, h3⟩; have H1 := Lib.hid h1; have H2 := Lib.hid h2; have H3 := Lib.hid h3; clear h1 h2 h3)
  go_ret
  exact ⟨A, c, fp, rfl, H1.out, H2.out, H3.out⟩
end

section
set_option linter.unusedSimpArgs false
set_option linter.unusedVariables false
open Go.RowKit Go.Lib Go.Sort

/-- A ring at block R whose list, its first one first, is l. -/
def RingIn (w : World) (R : Nat) (l : List Adv) (room : Nat) (fp : List Nat) : Prop :=
  ∃ v fr raw frm, w.heap[R]? = some (.cells #[v, .int .i64 (frm : Nat), .int .i64 (room : Nat)] 363 (0, 0)) ∧ SRow advC 44 5 w v raw fr ∧ R ∉ fr ∧ fp = R :: fr ∧
    l = raw.drop frm ++ raw.take frm ∧ raw.length ≤ room ∧ frm < room ∧ (raw.length < room → frm = 0)
theorem RingIn.kept {w w' : World} {S : Nat} {l : List Adv} {room : Nat} {fp : List Nat} (h : RingIn w S l room fp) (hb : ∀ r ∈ fp, w'.heap[r]? = w.heap[r]?) : RingIn w' S l room fp := by
  obtain ⟨v, fr, raw, frm, h1, h2, h3, rfl, h4⟩ := h
  exact ⟨v, fr, raw, frm, (hb S (List.mem_cons_self ..)).trans h1, h2.kept (fun r hr => hb r (List.mem_cons_of_mem _ hr)), h3, rfl, h4⟩
theorem RingIn.lt {w : World} {S : Nat} {l : List Adv} {room : Nat} {fp : List Nat} (h : RingIn w S l room fp) : ∀ r ∈ fp, r < w.heap.size := by
  obtain ⟨v, fr, raw, frm, h1, h2, h3, rfl, h4⟩ := h
  intro r hr
  rcases List.mem_cons.1 hr with rfl | hr
  · exact (Array.getElem?_eq_some_iff.1 h1).1
  · exact h2.lt r hr
theorem RingIn.below {w w' : World} {S : Nat} {l : List Adv} {room : Nat} {fp : List Nat} (h : RingIn w S l room fp) (hb : Below w.heap.size w w') : RingIn w' S l room fp := h.kept (fun r hr => hb.block r (h.lt r hr))
theorem RingIn.len {w : World} {S : Nat} {l : List Adv} {room : Nat} {fp : List Nat} (h : RingIn w S l room fp) : l.length ≤ room := by
  obtain ⟨v, fr, raw, frm, h1, h2, h3, rfl, rfl, h4, h5, h6⟩ := h
  simp; omega
/-- A history at block H. -/
def HistIn (w : World) (H : Nat) (l : List Adv) (room : Nat) (fp : List Nat) : Prop :=
  ∃ R fr, w.heap[H]? = some (.cells #[.pointer (some ⟨R, 0, none⟩)] 324 (0, 0)) ∧ RingIn w R l room fr ∧ H ∉ fr ∧ fp = H :: fr ∧ R ∈ fr
theorem HistIn.kept {w w' : World} {S : Nat} {l : List Adv} {room : Nat} {fp : List Nat} (h : HistIn w S l room fp) (hb : ∀ r ∈ fp, w'.heap[r]? = w.heap[r]?) : HistIn w' S l room fp := by
  obtain ⟨R, fr, h1, h2, h3, rfl, h5⟩ := h
  exact ⟨R, fr, (hb S (List.mem_cons_self ..)).trans h1, h2.kept (fun r hr => hb r (List.mem_cons_of_mem _ hr)), h3, rfl, h5⟩
theorem HistIn.lt {w : World} {S : Nat} {l : List Adv} {room : Nat} {fp : List Nat} (h : HistIn w S l room fp) : ∀ r ∈ fp, r < w.heap.size := by
  obtain ⟨R, fr, h1, h2, h3, rfl, h5⟩ := h
  intro r hr
  rcases List.mem_cons.1 hr with rfl | hr
  · exact (Array.getElem?_eq_some_iff.1 h1).1
  · exact h2.lt r hr
theorem HistIn.below {w w' : World} {S : Nat} {l : List Adv} {room : Nat} {fp : List Nat} (h : HistIn w S l room fp) (hb : Below w.heap.size w w') : HistIn w' S l room fp := h.kept (fun r hr => hb.block r (h.lt r hr))
theorem HistIn.len {w : World} {S : Nat} {l : List Adv} {room : Nat} {fp : List Nat} (h : HistIn w S l room fp) : l.length ≤ room := by
  obtain ⟨R, fr, h1, h2, h3, rfl, h5⟩ := h
  exact h2.len
end

section
set_option linter.unusedSimpArgs false
set_option linter.unusedVariables false
theorem post_named {P : Program} {f : Func} {Q : Ending → World → Prop} {e : Exit} {a : Act} {w : World} (h : ∀ W, W = w → bodyPost P f Q e a W) : bodyPost P f Q e a w := h w rfl
/-- The world behind a region is named. -/
theorem then_named {K : Act → World → Prop} {Q : Exit → Act → World → Prop} {a : Act} {w : World} (h : ∀ W, W = w → Exit.then K Q Exit.normal a W) : Exit.then K Q Exit.normal a w := h w rfl
end

section
set_option linter.unusedSimpArgs false
set_option linter.unusedVariables false
open Go.RowKit Go.Lib Go.Sort

def pushL (l : List Adv) (room : Nat) (x : Adv) : List Adv := (if l.length < room then l else l.drop 1) ++ [x]
def PushS (w : World) (R : Nat) (l : List Adv) (room : Nat) (fp : List Nat) (e : Ending) (w' : World) : Prop :=
  ∃ u fp', e = .returned u ∧ RingIn w' R l room fp' ∧ R ∈ fp' ∧ Upd w w' fp fp'
/-- The same, in one world: what stands in blocks of the call's own may turn yet. -/
def RAt (w w' : World) (B R : Nat) (l : List Adv) (room : Nat) (fp : List Nat) : Prop :=
  ∃ fp', RingIn w' R l room fp' ∧ R ∈ fp' ∧ Upd w w' fp fp' ∧ (∀ k ∈ fp', k < w.heap.size ∨ B ≤ k)
theorem RAt.set {w w' : World} {B R : Nat} {l : List Adv} {room : Nat} {fp : List Nat} (h : RAt w w' B R l room fp) {b i : Nat} {v : Value} (h1 : w.heap.size ≤ b) (h2 : b < B) : RAt w (w'.setCell ⟨b, i, none⟩ v) B R l room fp := by
  obtain ⟨fp', a1, a2, a3, a4⟩ := h
  have hne : ∀ k ∈ fp', k ≠ b := fun k hk => by have := a4 k hk; omega
  refine ⟨fp', a1.kept (fun r hr => Below.heap_setCell _ _ _ _ (hne r hr)), a2, ?_, a4⟩
  exact ⟨a3.os, a3.tape, a3.output, by simp [World.setCell]; exact a3.size, fun k hk hn => (Below.heap_setCell _ _ _ _ (fun e => by have e' : k = b := e; omega)).trans (a3.block k hk hn), a3.fresh⟩
theorem RAt.below {w w' W : World} {B R : Nat} {l : List Adv} {room : Nat} {fp : List Nat} (h : RAt w w' B R l room fp) (hb : Below w'.heap.size w' W) : RAt w W B R l room fp := by
  obtain ⟨fp', a1, a2, a3, a4⟩ := h
  exact ⟨fp', a1.below hb, a2, a3.trans (Upd.of_below hb _), a4⟩
theorem RAt.says {w w' : World} {B R : Nat} {l : List Adv} {room : Nat} {fp : List Nat} (h : RAt w w' B R l room fp) (u : Value) : PushS w R l room fp (.returned u) w' := by
  obtain ⟨fp', a1, a2, a3, _⟩ := h
  exact ⟨u, fp', rfl, a1, a2, a3⟩
end

section
set_option linter.unusedSimpArgs false
set_option linter.unusedVariables false
open Go.RowKit Go.Lib Go.Sort
end

section
set_option linter.unusedSimpArgs false
set_option linter.unusedVariables false
open Go.RowKit Go.Lib Go.Sort
end

end Go.Proofs.YtmniiodpbebnmaaGreat
