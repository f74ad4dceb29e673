/- ring.Push while there is room. -/
import Derived.Test.YtfegielnmdppgaaGreatJ10
namespace Go.Proofs.YtfegielnmdppgaaGreat

section
set_option linter.unusedSimpArgs false
set_option linter.unusedVariables false
open Go.RowKit Go.Lib Go.Sort

def pushL (l : List Adv) (room : Nat) (x : Adv) : List Adv := (if l.length < room then l else l.drop 1) ++ [x]
def PushS (w : World) (R : Nat) (l : List Adv) (room : Nat) (fp : List Nat) (e : Ending) (w' : World) : Prop :=
  ∃ u fp', e = .returned u ∧ RingIn w' R l room fp' ∧ R ∈ fp' ∧ Upd w w' fp fp'
/-- The same, in one world: what stands in blocks of the call's own may turn yet. -/
def RAt (w w' : World) (B R : Nat) (l : List Adv) (room : Nat) (fp : List Nat) : Prop :=
  ∃ fp', RingIn w' R l room fp' ∧ R ∈ fp' ∧ Upd w w' fp fp' ∧ (∀ k ∈ fp', k < w.heap.size ∨ B ≤ k)
theorem RAt.set {w w' : World} {B R : Nat} {l : List Adv} {room : Nat} {fp : List Nat} (h : RAt w w' B R l room fp) {b i : Nat} {v : Value} (h1 : w.heap.size ≤ b) (h2 : b < B) : RAt w (w'.setCell ⟨b, i, none⟩ v) B R l room fp := by
  obtain ⟨fp', a1, a2, a3, a4⟩ := h
  have hne : ∀ k ∈ fp', k ≠ b := fun k hk => by have := a4 k hk; omega
  refine ⟨fp', a1.kept (fun r hr => Below.heap_setCell _ _ _ _ (hne r hr)), a2, ?_, a4⟩
  exact ⟨a3.os, a3.tape, a3.output, by simp [World.setCell]; exact a3.size, fun k hk hn => (Below.heap_setCell _ _ _ _ (fun e => by have e' : k = b := e; omega)).trans (a3.block k hk hn), a3.fresh⟩
theorem RAt.below {w w' W : World} {B R : Nat} {l : List Adv} {room : Nat} {fp : List Nat} (h : RAt w w' B R l room fp) (hb : Below w'.heap.size w' W) : RAt w W B R l room fp := by
  obtain ⟨fp', a1, a2, a3, a4⟩ := h
  exact ⟨fp', a1.below hb, a2, a3.trans (Upd.of_below hb _), a4⟩
theorem RAt.says {w w' : World} {B R : Nat} {l : List Adv} {room : Nat} {fp : List Nat} (h : RAt w w' B R l room fp) (u : Value) : PushS w R l room fp (.returned u) w' := by
  obtain ⟨fp', a1, a2, a3, _⟩ := h
  exact ⟨u, fp', rfl, a1, a2, a3⟩

theorem ring_step {w w5 w3 w' : World} {R : Nat} {v v' : Value} {frm room : Nat} {out : List Adv} (hS : w.heap[R]? = some (.cells #[v, .int .i64 (frm : Nat), .int .i64 (room : Nat)] 262 (0, 0))) (hne : v.ownBlock ≠ some R) (hv : ∀ r, v.ownBlock = some r → r < w.heap.size)
    (hb5 : Below w.heap.size w w5) (hb35 : Below w5.heap.size w5 w3) (hown : OwnL advC 46 5 0 w' v' out) (hg : w3.grownBy w' v.ownBlock) (hb : v'.ownBlock = v.ownBlock ∨ ∀ r, v'.ownBlock = some r → w3.heap.size ≤ r) (h1 : out.length ≤ room) (h2 : frm < room) (h3 : out.length < room → frm = 0) :
    RAt w (w'.setCell ⟨R, 0, none⟩ v') w5.heap.size R (out.drop frm ++ out.take frm) room (R :: v.ownBlock.toList) := by
  have hb3 := bthen hb5 hb35
  have h53 := hb35.size
  have hSlt := (Array.getElem?_eq_some_iff.1 hS).1
  have hS3 := (hb3.block R hSlt).trans hS
  have hSlt3 := (Array.getElem?_eq_some_iff.1 hS3).1
  have hS' := (hg.block R hSlt3 (fun e => hne e.symm)).trans hS3
  have hne' : v'.ownBlock ≠ some R := fun e => by
    rcases hb with h | h
    · exact hne (h ▸ e)
    · have := h R e; omega
  refine ⟨R :: v'.ownBlock.toList, ⟨v', v'.ownBlock.toList, out, frm, setCell_block hS', ⟨hown.kept (fun r hr => Below.heap_setCell _ _ _ _ (fun e => by have e' : r = R := e; rw [e'] at hr; exact hne' hr)), rfl⟩, by simpa using hne', rfl, rfl, h1, h2, h3⟩, List.mem_cons_self .., ?_, ?_⟩
  · refine (Upd.of_below hb3 _).trans ⟨hg.os, hg.tape, hg.output, by simp [World.setCell]; exact hg.size, fun k hk hn => ?_, fun k hk => ?_⟩
    · simp only [List.mem_cons, Option.mem_toList, not_or] at hn
      exact (Below.heap_setCell _ _ _ _ hn.1).trans (hg.block k hk (fun e => hn.2 e.symm))
    · rcases List.mem_cons.1 hk with rfl | hk
      · exact .inl (List.mem_cons_self ..)
      · have hk' : v'.ownBlock = some k := by simpa using hk
        rcases hb with h | h
        · exact .inl (List.mem_cons_of_mem _ (by rw [← h]; simpa using hk'))
        · exact .inr (h k hk')
  · intro k hk
    rcases List.mem_cons.1 hk with rfl | hk
    · exact .inl hSlt
    · have hk' : v'.ownBlock = some k := by simpa using hk
      rcases hb with h | h
      · exact .inl (hv k (by rw [← h]; exact hk'))
      · exact .inr (Nat.le_trans h53 (h k hk'))

theorem then_named {K : Act → World → Prop} {Q : Exit → Act → World → Prop} {a : Act} {w : World} (h : ∀ W, W = w → Exit.then K Q Exit.normal a W) : Exit.then K Q Exit.normal a w := h w rfl

set_option maxRecDepth 100000 in
set_option maxHeartbeats 4000000 in
theorem push_room (R : Nat) (l : List Adv) (room : Nat) (fp : List Nat) (x : Adv) (w : World) (h : RingIn w R l room fp) (hroom : room ≤ 4096) (hl : l.length < room) :
    Calls Tryz.prog 217 #[.pointer (some ⟨R, 0, none⟩), .agg (advC x).toArray] w (PushS w R (l ++ [x]) room fp) := by
  obtain ⟨v, fr, raw, frm, hS, ⟨hown, rfl⟩, h3, rfl, rfl, h4, h5, h6⟩ := h
  have hlr : raw.length < room := by simp at hl; omega
  obtain rfl := h6 hlr
  have hSlt := (Array.getElem?_eq_some_iff.1 hS).1
  obtain ⟨A, c, rfl⟩ := hown.form
  have hnS' : (Value.slice A raw.length c).ownBlock ≠ some R := fun e => h3 (by rw [e]; simp)
  have HN := Lib.hid hnS'
  have HO := Lib.hid hown
  have HS := Lib.hid hS
  have z0 : w.cell? ⟨R, 0, none⟩ = some (.slice A raw.length c) := by simp only [World.cell?, hS]; rfl
  have z2 : w.cell? ⟨R, 2, none⟩ = some (.int .i64 (room : Nat)) := by simp only [World.cell?, hS]; rfl
  have q0 : ((room : Int) == 0) = false := by simp; omega
  have q1 : (raw.length : Int) < (room : Int) := by omega
  have z2' : ∀ o1 o2 o3, (((w.alloc o1).alloc o2).alloc o3).cell? ⟨R, 2, none⟩ = some (.int .i64 (room : Nat)) := fun o1 o2 o3 => ((balloc (balloc (balloc (Below.refl _ _) _) _) _).cell (p := ⟨R, 2, none⟩) hSlt).trans z2
  rw [List.drop_zero, List.take_zero, List.append_nil]
  clear hS hown h3 hnS' hl h6
  unfold advC
  go_enter Tryz.func217, Tryz.ntmps217
  go_wp2_with fail
  refine name_world ?_
  intro W3 hW3
  obtain ⟨hx3, hy3, hu3, hsz3, hb3⟩ := three_boxes w _ _ _ W3 hW3
  have hsz : w.heap.size + 2 < W3.heap.size := by omega
  clear hW3 hsz3
  have hS3 := (hb3.block R hSlt).trans HS.out
  obtain ⟨a1, a2, a3⟩ := box_cells (Below.refl _ _) hx3
  obtain ⟨a4, a5, a6⟩ := box_cells (Below.refl _ _) hS3
  have HB3 := Lib.hid hb3
  have HY := Lib.hid hy3
  have HX := Lib.hid hx3
  have HU := Lib.hid hu3
  have HS3 := Lib.hid hS3
  clear hb3 hx3 hy3 hu3 hS3
  go_quiet (fail)
  go_wp2_with fail
  refine name_world ?_
  intro W5 hW5
  have hb5 : Below W3.heap.size W3 W5 := by rw [hW5]; exact below_drewN (Below.refl _ _) _
  have hb5' := bthen HB3.out hb5
  have hS5 := (hb5.block R a6).trans HS3.out
  have hx5 := (hb5.block _ a3).trans HX.out
  have hy5 := (hb5.block _ (by omega)).trans HY.out
  have hu5 := (hb5.block _ (by omega)).trans HU.out
  have hsz5 : w.heap.size + 2 < W5.heap.size := by have := hb5.size; omega
  clear hW5 hb5 a1 a2 a3 a4 a5 a6 hsz HB3 HY HU HS3 HX
  obtain ⟨a1, a2, a3⟩ := box_cells (Below.refl _ _) hx5
  obtain ⟨a4, a5, a6⟩ := box_cells (Below.refl _ _) hS5
  have HB3 := Lib.hid hb5'
  have HY := Lib.hid hy5
  have HU := Lib.hid hu5
  have HS3 := Lib.hid hS5
  clear hb5' hy5 hu5 hS5 hx5
  go_region_law ((
    refine step_appendL eAdv (by rfl) (.tmp 34) (.tmp 36) (by rfl) 0 raw [x] _ _ (by rfl) (by rfl) ((HO.out.below HB3.out).below (by repeat (first | exact Below.refl _ _ | refine balloc ?_ _ | refine Below.drew ?_ | refine below_drewN ?_ _))) (RowIn.lit _ x _ _ _ (by first | rfl | simp) rfl) (by simp; omega) (by simp) ?_
    intro out4 A4 c4 w4 hout hown4 hg4 hblk4
    have hbz : ∀ W, Below W5.heap.size W5 W → W.heap[R]? = some (.cells #[.slice A raw.length c, .int .i64 (0 : Nat), .int .i64 (room : Nat)] 262 (0, 0)) := fun W h => (h.block R a6).trans HS3.out
    have hS4 := (hg4.block R (by simp; omega) (fun e => HN.out e.symm)).trans (hbz _ (by repeat (first | exact Below.refl _ _ | refine balloc ?_ _ | refine Below.drew ?_ | refine below_drewN ?_ _)))
    obtain ⟨e1, e2, e3⟩ := box_cells (Below.refl _ _) hS4
    have hblt : ∀ r, (Value.slice A raw.length c).ownBlock = some r → r < w.heap.size := fun r hr => (HO.out.lt hr).2
    have hY4 := (hg4.block (w.heap.size + 1) (by simp; omega) (fun e => by have := hblt _ e.symm; omega)).trans ((Below.block (w := W5) (B := W5.heap.size) (by repeat (first | exact Below.refl _ _ | refine balloc ?_ _ | refine Below.drew ?_ | refine below_drewN ?_ _)) _ (by omega)).trans HY.out)
    have hU4 := (hg4.block (w.heap.size + 1 + 1) (by simp; omega) (fun e => by have := hblt _ e.symm; omega)).trans ((Below.block (w := W5) (B := W5.heap.size) (by repeat (first | exact Below.refl _ _ | refine balloc ?_ _ | refine Below.drew ?_ | refine below_drewN ?_ _)) _ (by omega)).trans HU.out)
    have HY4 := Lib.hid hY4
    have HU4 := Lib.hid hU4
    have HOUT := Lib.hid hout
    have HXX := Lib.hid (ring_step (frm := 0) HS.out HN.out (fun r hr => (HO.out.lt hr).2) HB3.out (by repeat (first | exact Below.refl _ _ | refine balloc ?_ _ | refine Below.drew ?_ | refine below_drewN ?_ _)) hown4 hg4 (hblk4.imp id (fun e r hr => by rw [e] at hr; injection hr with hr; omega)) (by rw [hout]; simp; omega) h5 (fun _ => rfl))
    clear hblt hY4 hU4 hbz hS4 hout hown4 hg4 hblk4))
  all_goals
    refine then_named ?_
    intro W6 hW6
    have hW6' : ∃ W, W6 = W ∧ Below (w4.setCell ⟨R, 0, none⟩ (.slice A4 out4.length c4)).heap.size (w4.setCell ⟨R, 0, none⟩ (.slice A4 out4.length c4)) W := ⟨_, hW6, by repeat (first | exact Below.refl _ _ | refine balloc ?_ _ | refine Below.drew ?_)⟩
    obtain ⟨W7, rfl, hb6⟩ := hW6'
    clear hW6
    have HRA := Lib.hid (HXX.out.below hb6)
    have hY6 : W6.heap[w.heap.size + 1]? = _ := (hb6.block _ (by simp [World.setCell]; exact (Array.getElem?_eq_some_iff.1 HY4.out).1)).trans ((Below.heap_setCell _ _ _ _ (fun e => by have e' : w.heap.size + 1 = R := e; omega)).trans HY4.out)
    have hU6 : W6.heap[w.heap.size + 1 + 1]? = _ := (hb6.block _ (by simp [World.setCell]; exact (Array.getElem?_eq_some_iff.1 HU4.out).1)).trans ((Below.heap_setCell _ _ _ _ (fun e => by have e' : w.heap.size + 1 + 1 = R := e; omega)).trans HU4.out)
    obtain ⟨f1, f2, f3⟩ := box_cells (Below.refl _ _) hY6
    obtain ⟨f4, f5, f6⟩ := box_cells (Below.refl _ _) hU6
    clear hb6 hY6 hU6 e1 e2 e3 a1 a2 a3 a4 a5 a6
    go_wp2
    have hra := HRA.out
    rw [List.drop_zero, List.take_zero, List.append_nil, HOUT.out] at hra
    refine bodyPost_ret (v := .tuple #[.agg #[.int .i64 0, .int .i64 0, .int .i64 0, .int .i64 0, .int .i64 0], .bool false]) (by simp [results, Tryz.results217, go_sem, f1, f2, f3]) rfl ?_
    refine RAt.says (B := W5.heap.size) ?_ _
    have c1 : w.heap.size ≤ w.heap.size + 1 := by omega
    have c2 : w.heap.size + 1 < W5.heap.size := by omega
    exact ((((hra.set c1 c2).set c1 c2).set c1 c2).set c1 c2).set c1 c2
end

end Go.Proofs.YtfegielnmdppgaaGreat
