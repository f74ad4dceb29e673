/- ring.Push where there is no room: the first one goes. History.Add; history.Add. -/
import Derived.Test.YtfegielnmdppgaaJ30
namespace Go.Proofs.Ytfegielnmdppgaa

section
set_option linter.unusedSimpArgs false
set_option linter.unusedVariables false
open Go.RowKit Go.Lib Go.Sort

theorem advRow_set (l : List Adv) (x : Adv) : ∀ p, p < l.length → cellsOfRow advC (l.set p x) = (((((cellsOfRow advC l).set (p * 5) (.int .i64 x.tick)).set (p * 5 + 1) (.int .i64 x.load)).set (p * 5 + 2) (.int .i64 x.want)).set (p * 5 + 3) (.int .i64 x.repl)).set (p * 5 + 4) (.int .i64 x.why) := by
  induction l with
  | nil => intro p hp; simp at hp
  | cons a l ih =>
    intro p hp
    cases p with
    | zero => rfl
    | succ p =>
      rw [List.set_cons_succ, cellsOfRow_cons, cellsOfRow_cons, ih p (by simpa using hp), show (p + 1) * 5 = p * 5 + 5 by omega]
      rfl
def set5 (w : World) (g o : Nat) (x : Adv) : World := ((((w.setCell ⟨g, o, none⟩ (.int .i64 x.tick)).setCell ⟨g, o + 1, none⟩ (.int .i64 x.load)).setCell ⟨g, o + 2, none⟩ (.int .i64 x.want)).setCell ⟨g, o + 3, none⟩ (.int .i64 x.repl)).setCell ⟨g, o + 4, none⟩ (.int .i64 x.why)
theorem own_set5 {base : Nat} {w : World} {g c : Nat} {l : List Adv} (h : OwnL advC 80 5 base w (.slice (some ⟨g, 0, none⟩) l.length c) l) (p : Nat) (hp : p < l.length) (x : Adv) :
    OwnL advC 80 5 base (set5 w g (p * 5) x) (.slice (some ⟨g, 0, none⟩) l.length c) (l.set p x) ∧ w.grownBy (set5 w g (p * 5) x) (some g) := by
  obtain ⟨h1, g1⟩ := World.ownsRow.stored h (p * 5) (.int .i64 x.tick)
  obtain ⟨h2, g2⟩ := World.ownsRow.stored h1 (p * 5 + 1) (.int .i64 x.load)
  obtain ⟨h3, g3⟩ := World.ownsRow.stored h2 (p * 5 + 2) (.int .i64 x.want)
  obtain ⟨h4, g4⟩ := World.ownsRow.stored h3 (p * 5 + 3) (.int .i64 x.repl)
  obtain ⟨h5, g5⟩ := World.ownsRow.stored h4 (p * 5 + 4) (.int .i64 x.why)
  refine ⟨?_, grownBy_trans (grownBy_trans (grownBy_trans (grownBy_trans g1 g2) g3) g4) g5⟩
  unfold OwnL
  rw [advRow_set l x p hp, List.length_set]
  exact h5

theorem ownA_open {base : Nat} {w : World} {g c : Nat} {l : List Adv} (h : OwnL advC 80 5 base w (.slice (some ⟨g, 0, none⟩) l.length c) l) :
    ∃ cur, w.heap[g]? = some (.cells cur 80 (0, 0)) ∧ base ≤ g ∧ l.length ≤ c := by
  rcases h.2 with ⟨hv, _⟩ | ⟨g', cap, cur, hv, h1, h2, h3, h4, h5, h6⟩
  · cases hv
  · injection hv with e1 _ e3
    injection e1 with e1
    injection e1 with e1
    subst e1 e3
    exact ⟨cur, h2, h1, h3⟩
theorem turn_list (raw : List Adv) (frm room : Nat) (x : Adv) (h1 : raw.length = room) (h2 : frm < room) : (raw.set frm x).drop ((frm + 1) % room) ++ (raw.set frm x).take ((frm + 1) % room) = (raw.drop frm ++ raw.take frm).drop 1 ++ [x] := by
  have hd : raw.drop frm = raw[frm] :: raw.drop (frm + 1) := List.drop_eq_getElem_cons (by omega)
  have ht : (raw.set frm x).take (frm + 1) = raw.take frm ++ [x] := by
    rw [List.take_succ_eq_append_getElem (by simp; omega), List.getElem_set_self, List.take_set_of_le (Nat.le_refl _)]
  rw [hd, List.cons_append, List.drop_one, List.tail_cons, List.append_assoc]
  by_cases h : frm + 1 = room
  · rw [h, Nat.mod_self, List.drop_zero, List.take_zero, List.append_nil]
    have : (raw.set frm x).take (frm + 1) = raw.set frm x := List.take_of_length_le (by simp; omega)
    rw [← this, ht, List.drop_of_length_le (by omega), List.nil_append]
  · rw [Nat.mod_eq_of_lt (by omega), ht, List.drop_set_of_lt (by omega)]

theorem ring_turn {w w7 w8 : World} {B R g c : Nat} {frm room : Nat} {raw : List Adv} {x : Adv} (hS : w.heap[R]? = some (.cells #[.slice (some ⟨g, 0, none⟩) raw.length c, .int .i64 (frm : Nat), .int .i64 (room : Nat)] 95 (0, 0))) (hne : R ≠ g) (hglt : g < w.heap.size)
    (hb7 : Below w.heap.size w w7) (hown : OwnL advC 80 5 0 w8 (.slice (some ⟨g, 0, none⟩) raw.length c) (raw.set frm x)) (hg : w7.grownBy w8 (some g)) (h1 : raw.length = room) (h2 : frm < room) :
    RAt w (w8.setCell ⟨R, 1, none⟩ (.int .i64 ((frm + 1) % room : Nat))) B R ((raw.drop frm ++ raw.take frm).drop 1 ++ [x]) room (R :: (Value.slice (some ⟨g, 0, none⟩) raw.length c).ownBlock.toList) := by
  have hSlt := (Array.getElem?_eq_some_iff.1 hS).1
  have hS7 := (hb7.block R hSlt).trans hS
  have hS' := (hg.block R (Array.getElem?_eq_some_iff.1 hS7).1 (fun e => hne (by injection e))).trans hS7
  refine ⟨R :: (Value.slice (some ⟨g, 0, none⟩) raw.length c).ownBlock.toList, ⟨.slice (some ⟨g, 0, none⟩) raw.length c, _, raw.set frm x, (frm + 1) % room, setCell_block hS', ⟨hown.kept (fun r hr => Below.heap_setCell _ _ _ _ (fun e => by have e' : r = R := e; rw [e'] at hr; simp [Value.ownBlock] at hr; exact hne hr.symm)), rfl⟩, by simpa [Value.ownBlock] using hne, rfl, (turn_list raw frm room x h1 h2).symm, by simp; omega, Nat.mod_lt _ (by omega), fun h => by simp at h; omega⟩, List.mem_cons_self .., ?_, ?_⟩
  · refine (Upd.of_below hb7 _).trans ⟨hg.os, hg.tape, hg.output, by simp [World.setCell]; exact hg.size, fun k hk hn => ?_, fun k hk => .inl hk⟩
    simp only [List.mem_cons, Option.mem_toList, not_or] at hn
    exact (Below.heap_setCell _ _ _ _ hn.1).trans (hg.block k hk (fun e => hn.2 (by simp [Value.ownBlock]; injection e with e; exact e.symm)))
  · intro k hk
    rcases List.mem_cons.1 hk with rfl | hk
    · exact .inl hSlt
    · simp [Value.ownBlock] at hk
      exact .inl (by omega)

theorem box5 {w : World} {B : Nat} {cs : Array Value} {v0 v1 v2 v3 v4 : Value} {T : TypeId} (h : w.heap[B]? = some (.cells #[.int .i64 0, .int .i64 0, .int .i64 0, .int .i64 0, .int .i64 0] T (0, 0))) :
    (((((w.setCell ⟨B, 0, none⟩ v0).setCell ⟨B, 1, none⟩ v1).setCell ⟨B, 2, none⟩ v2).setCell ⟨B, 3, none⟩ v3).setCell ⟨B, 4, none⟩ v4).heap[B]? = some (.cells #[v0, v1, v2, v3, v4] T (0, 0)) :=
  setCell_block (setCell_block (setCell_block (setCell_block (setCell_block h))))
theorem below5 {w a : World} {B : Nat} (h : Below w.heap.size w a) (hB : w.heap.size ≤ B) (v0 v1 v2 v3 v4 : Value) : Below w.heap.size w (((((a.setCell ⟨B, 0, none⟩ v0).setCell ⟨B, 1, none⟩ v1).setCell ⟨B, 2, none⟩ v2).setCell ⟨B, 3, none⟩ v3).setCell ⟨B, 4, none⟩ v4) :=
  (below4 h hB v0 v1 v2 v3).setCell hB _
end

section
set_option linter.unusedSimpArgs false
set_option linter.unusedVariables false
open Go.RowKit Go.Lib Go.Sort

def HistSays (w : World) (H : Nat) (l : List Adv) (room : Nat) (fp : List Nat) (e : Ending) (w' : World) : Prop :=
  ∃ u fp', e = .returned u ∧ HistIn w' H l room fp' ∧ Upd w w' fp fp'
theorem hist_push {w w1 w2 : World} {H R : Nat} {l' : List Adv} {room : Nat} {fr fr' : List Nat} (hH : w.heap[H]? = some (.cells #[.pointer (some ⟨R, 0, none⟩)] 82 (0, 0))) (hn : H ∉ fr) (hb : Below w.heap.size w w1) (hr : RingIn w2 R l' room fr') (hR : R ∈ fr') (hu : Upd w1 w2 fr fr') :
    HistIn w2 H l' room (H :: fr') ∧ Upd w w2 (H :: fr) (H :: fr') := by
  have hlt := (Array.getElem?_eq_some_iff.1 hH).1
  have h1 := (hb.block H hlt).trans hH
  have hlt1 := (Array.getElem?_eq_some_iff.1 h1).1
  have h2 := (hu.block H hlt1 hn).trans h1
  refine ⟨⟨R, fr', h2, hr, fun h => ?_, rfl, hR⟩, (Upd.of_below hb _).trans (hu.mono (fun k hk => List.mem_cons_of_mem _ hk) (fun k hk => ?_))⟩
  · rcases hu.fresh H h with h | h
    · exact hn h
    · omega
  · rcases List.mem_cons.1 hk with rfl | hk
    · exact .inl (List.mem_cons_self ..)
    · exact (hu.fresh k hk).imp (List.mem_cons_of_mem _) id
end

end Go.Proofs.Ytfegielnmdppgaa
