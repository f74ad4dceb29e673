/- stripe.Sort: entries in order by their keys, those of one key in their order. -/
import Derived.Test.YtfegielnmdppgaaJ13
namespace Go.Proofs.Ytfegielnmdppgaa

section
set_option linter.unusedSimpArgs false
set_option linter.unusedVariables false
open Go.RowKit Go.Lib Go.Sort Go.Shelf

/-- Entries in order. -/
def sortEn (l : List En) : List En := l.mergeSort (leS ltE)
theorem sortEn_len (l : List En) : (sortEn l).length = l.length := by simp [sortEn]
theorem flat_map (d : Array Pl) : flatK plC 3 d = flatK enC 3 (d.map (·.1)) := by
  unfold flatK
  rw [Array.size_map]
  apply Array.ext
  · simp
  · intro i h1 h2
    simp only [Array.getElem_map, Array.getElem_range]
    have hi : i / 3 < d.size := by simp at h1; omega
    have : (d.map (·.1))[i / 3]! = (d[i / 3]!).1 := by
      rw [getElem!_pos (d.map (·.1)) (i / 3) (by simpa using hi), getElem!_pos d (i / 3) hi, Array.getElem_map]
    rw [this]
    rfl
theorem zip_fst (l : List En) : (zipA l).map (·.1) = l.toArray := by
  unfold zipA
  rw [List.map_toArray]
  simp
theorem holds_zip {w : World} {g : Nat} {l : List En} (h : HoldsK enC 3 w g 0 l.toArray) : HoldsK plC 3 w g 0 (zipA l) := by
  unfold HoldsK at *
  rw [flat_map, zip_fst]
  exact h
set_option maxRecDepth 100000 in
set_option maxHeartbeats 4000000 in
theorem stable_none (w : World) : Calls Try.prog 38 #[.slice none 0 0, .int .i64 0, .func (.func 23) #[] #[]] w fun e w' => e = .returned (.tuple #[]) ∧ w = w' := by
  have CI := Lib.hid (fun W => AnyF.insertionSortCmpFunc_none insE none 0 (.func (.func 23) #[] #[]) W)
  go_enter Try.func38, Try.ntmps38
  go_wp2_with fail
  refine wp_loop_rounds 1 ?_
  rw [rounds_succ]
  go_wp2_with (first
    | (go_at_call 48
       refine (CI.out _).mono ?_
       rintro e w1 ⟨rfl, rfl⟩))
  refine wp_loop_rounds 1 ?_
  rw [rounds_succ]
  go_wp2_with fail
  go_end0
  exact ⟨rfl, rfl⟩
set_option maxRecDepth 100000 in
set_option maxHeartbeats 4000000 in
/-- The stable sort at entries, from a row of the call's own. -/
theorem sorts_any {base : Nat} (v : Value) (l : List En) (w : World) (h : OwnL enC 36 3 base w v l) (hl : l.length ≤ 40) :
    Calls Try.prog 22 #[v, .func (.func 23) #[] #[]] w fun e w' =>
      e = .returned (.tuple #[]) ∧ w'.ownsRow base 36 3 v l.length (cellsOfRow enC (sortEn l)) ∧ w.grownBy w' v.ownBlock := by
  rcases Go.Joins.ownsRow_forms h with ⟨rfl, h0⟩ | ⟨g, cap, rfl⟩
  · obtain rfl : l = [] := List.eq_nil_of_length_eq_zero h0
    have CN := Lib.hid (stable_none w)
    have H := Lib.hid h
    clear h
    go_enter Try.func22, Try.ntmps22
    go_wp2_with (first
      | (go_at_call 38
         refine CN.out.mono ?_
         rintro e w1 ⟨rfl, rfl⟩))
    go_end0
    exact ⟨rfl, by rw [show sortEn [] = [] from List.eq_nil_of_length_eq_zero (sortEn_len [])]; exact H.out, ⟨rfl, rfl, rfl, Nat.le_refl _, fun _ _ _ => rfl⟩⟩
  · have hH := holds_zip (holdsK_own (f := enC) (n := 3) eEn.len (by decide) h)
    have hg := (OwnL.lt h (r := g) rfl).2
    have hin : InSort w g (zipA l) (zipA l) w := ⟨hg, hH, rfl, SWK.start hH⟩
    have CS := Lib.hid (stable_any w g cap l.length (zipA l) w hin (zipA_size l) hl (zipA_rise l 0 l.length (Nat.le_refl _)))
    have H := Lib.hid h
    have q0 : (l.length : Int) ≤ 40 := by omega
    clear h hH hg hin
    go_enter Try.func22, Try.ntmps22
    go_wp2_with (first
      | (go_at_call 38
         refine CS.out.mono ?_
         rintro e w1 ⟨rfl, d1, hs, hp, hu, hin⟩
         have HX := Lib.hid (show PermIn 0 l.length (zipA l) d1 ∧ Up (RZ ltE) 0 l.length d1 ∧ InSort w g (zipA l) d1 w1 from ⟨hp, hu, hin⟩)
         clear hs hp hu hin))
    go_end0
    obtain ⟨hp, hu, hin⟩ := HX.out
    have hl2 : d1.toList.map (·.1) = sortEn l := stable_end swoE l d1 hp hu
    obtain ⟨m, os, rfl⟩ := hin.sw
    have e1 : sortWorldK plC 3 w g 0 m d1 os = grow (putRowK enC 3 (Sort.ahead w m) g 0 (sortEn l).toArray) os := by
      unfold sortWorldK putRowK
      rw [flat_map, ← hl2]
      congr 3
      rw [← List.map_toArray]
    rw [e1]
    have k := own_putRowK (f := enC) (n := 3) (m := sortEn l) (k := m) eEn.len (by decide) H.out (sortEn_len l) os
    rw [sortEn_len] at k
    exact ⟨rfl, k.1, k.2⟩

def CloneE (w : World) (l : List En) (e : Ending) (w' : World) : Prop := ∃ A c, e = .returned (.slice A l.length c) ∧ OwnL enC 36 3 w.heap.size w' (.slice A l.length c) l ∧ Below w.heap.size w w'
set_option maxRecDepth 100000 in
set_option maxHeartbeats 2000000 in
theorem cloneE_any (v : Value) (l : List En) (w : World) (hv : RowIn 3 enC w v l) (hl : l.length ≤ 1000000) :
    Calls Try.prog 21 #[v] w (CloneE w l) := by
  obtain ⟨A, c, rfl⟩ := hv.form
  cases A with
  | none =>
    have h0 : l.length = 0 := by
      obtain ⟨A1, c1, e1, _, hr⟩ := hv
      injection e1 with e1 _ _
      rcases Nat.eq_zero_or_pos l.length with h | h
      · exact h
      · obtain ⟨_, _, hA, _⟩ := hr h; rw [hA] at e1; cases e1
    obtain rfl : l = [] := List.eq_nil_of_length_eq_zero h0
    have hq : ∀ W, (binOp .eql 24 (.slice none 0 c) (.slice none 0 0)).run Try.prog W = .ok (.bool true) W := fun W => Lib.run_eql_slice_nil W _ _ none 0 c 0 0 eEn.ht
    clear hv h0
    go_enter Try.func21, Try.ntmps21
    go_wp2
    go_ret
    exact ⟨none, 0, rfl, OwnL.nil _ _, Below.refl _ _⟩
  | some ad =>
    have HV := Lib.hid hv
    have hq : ∀ W, (binOp .eql 24 (.slice (some ad) l.length c) (.slice none 0 0)).run Try.prog W = .ok (.bool false) W := fun W => Lib.run_eql_slice_nil W _ _ (some ad) l.length c 0 0 eEn.ht
    clear hv
    go_enter Try.func21, Try.ntmps21
    go_wp2_with (at_builtin; refine wpList_appendL eEn (by rfl) (s := .tmp 5) (x := .tmp 6) (by rfl) w.heap.size [] l _ _ (by rfl) (by rfl) (OwnL.lit0 _ w _ _ rfl (Nat.le_refl _)) (HV.out.below (balloc (Below.refl _ _) _)) (by simp; omega) (by simp) ?_; intro out A2 c2 w2 hout hown hg _; have HOUT := Lib.hid hout; have HO := Lib.hid hown; have HG := Lib.hid hg; clear hout hown hg)
    go_ret
    have e1 : out = l := by rw [HOUT.out]; rfl
    subst e1
    exact ⟨A2, c2, rfl, HO.out, (balloc (Below.refl _ _) _).trans (grown_below HG.out (by simp) (fun r hr => by have hr' : some w.heap.size = some r := hr; injection hr'; omega))⟩
set_option maxRecDepth 100000 in
set_option maxHeartbeats 4000000 in
/-- stripe.Sort. -/
theorem sortE_any (v : Value) (l : List En) (w : World) (hv : RowIn 3 enC w v l) (hl : l.length ≤ 40) :
    Calls Try.prog 7 #[v] w (CloneE w (sortEn l)) := by
  have CC := Lib.hid (cloneE_any v l w hv (by omega))
  have CS := Lib.hid (fun (v : Value) (W : World) (h : OwnL enC 36 3 w.heap.size W v l) => sorts_any v l W h hl)
  clear hv
  go_enter Try.func7, Try.ntmps7
  go_wp2_with (first
    | (go_at_call 21
       refine CC.out.mono ?_
       rintro e w1 ⟨A, c, rfl, hown, hb⟩
       have HO := Lib.hid hown
       have HB := Lib.hid hb
       clear hown hb)
    | (go_at_call 22
       refine (CS.out _ w1 HO.out).mono ?_
       rintro e w2 ⟨rfl, hown, hg⟩
       have HO2 := Lib.hid hown
       have HG := Lib.hid hg
       clear hown hg))
  go_ret
  have ho := HO2.out
  refine ⟨A, c, by rw [sortEn_len]; rfl, ?_, HB.out.trans (grown_below HG.out HB.out.size (fun r hr => (HO.out.lt hr).1))⟩
  unfold OwnL
  rw [sortEn_len]
  exact ho
end

end Go.Proofs.Ytfegielnmdppgaa
