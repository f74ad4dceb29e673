/- Lists of cuts: a copy, an append to a clipped one; a copy of a map; A region that draws its order and ends in a store: a condition on the world that holds till then; flat's live and snap. -/
import Derived.Test.YtmniiodpbebnmaaGreatC28
import Derived.Test.YtmniiodpbebnmaaGreatC01
import Derived.Deep.RegionHeld
namespace Go.Proofs.YtmniiodpbebnmaaGreat

section
set_option linter.unusedSimpArgs false
set_option linter.unusedVariables false
open Go.RowKit Go.Lib

theorem eFc : EltOf 101 136 3 24 (.agg #[.int .i64 0, .map none, .bool false]) fcC :=
  ⟨by kernel_rfl, by kernel_rfl, rfl, by decide, by decide, fun _ => rfl, fun x u hu => by
    simp only [fcC, List.mem_cons, List.not_mem_nil, or_false] at hu
    rcases hu with rfl | rfl | rfl <;> rfl⟩

set_option maxRecDepth 100000 in
set_option maxHeartbeats 2000000 in
theorem cloneF_any (v : Value) (l : List FCut) (w : World) (hv : RowIn 3 fcC w v l) (hl : l.length ≤ 1000000) :
    Calls Tryz.prog 72 #[v] w (CloneS fcC 136 3 w l) := by
  obtain ⟨A, c, rfl⟩ := hv.form
  cases A with
  | none =>
    have h0 : l.length = 0 := by
      obtain ⟨A1, c1, e1, _, hr⟩ := hv
      injection e1 with e1 _ _
      rcases Nat.eq_zero_or_pos l.length with h | h
      · exact h
      · obtain ⟨_, _, hA, _⟩ := hr h; rw [hA] at e1; cases e1
    obtain rfl : l = [] := List.eq_nil_of_length_eq_zero h0
    have hq : ∀ W, (binOp .eql 101 (.slice none 0 c) (.slice none 0 0)).run Tryz.prog W = .ok (.bool true) W := fun W => Lib.run_eql_slice_nil W _ _ none 0 c 0 0 eFc.ht
    clear hv h0
    go_enter Tryz.func72, Tryz.ntmps72
    go_wp2
    go_ret
    exact ⟨none, 0, [], rfl, SRow.nil _, fun k hk => by simp at hk, Below.refl _ _⟩
  | some ad =>
    have HV := Lib.hid hv
    have hq : ∀ W, (binOp .eql 101 (.slice (some ad) l.length c) (.slice none 0 0)).run Tryz.prog W = .ok (.bool false) W := fun W => Lib.run_eql_slice_nil W _ _ (some ad) l.length c 0 0 eFc.ht
    clear hv
    go_enter Tryz.func72, Tryz.ntmps72
    go_wp2_with (at_builtin; refine wpList_appendL eFc (by rfl) (s := .tmp 5) (x := .tmp 6) (by rfl) w.heap.size [] l _ _ (by rfl) (by rfl) (OwnL.lit0 _ w _ _ rfl (Nat.le_refl _)) (HV.out.below (balloc (Below.refl _ _) _)) (by simp; omega) (by simp) ?_; intro out A2 c2 w2 hout hown hg _; have HOUT := Lib.hid hout; have HO := Lib.hid hown; have HG := Lib.hid hg; clear hout hown hg)
    go_ret
    have e1 : out = l := by rw [HOUT.out]; rfl
    subst e1
    exact ⟨A2, c2, _, rfl, SRow.of _ HO.out, fun k hk => (HO.out.lt (by simpa using hk)).1, (balloc (Below.refl _ _) _).trans (grown_below HG.out (by simp) (fun r hr => by have hr' : some w.heap.size = some r := hr; injection hr'; omega))⟩

section
variable {α : Type} {t e : TypeId} {n bytes : Nat} {z : Value} {f : α → List Value}
set_option maxRecDepth 100000 in
/-- append to a list without room: a new one. -/
theorem run_appendC (E : EltOf t e n bytes z f) (w : World) (ty : TypeId) (l m : List α) (A : Option Addr) (v2 : Value)
    (hl : RowIn n f w (.slice A l.length l.length) l) (hm : RowIn n f w v2 m) (hm0 : 0 < m.length) (hlen : l.length + m.length ≤ 100000000) :
    ∃ c w', (Builtin.append_ #[t, t] ty #[.slice A l.length l.length, v2]).run Tryz.prog w = .ok (.slice (some ⟨w.heap.size, 0, none⟩) (l ++ m).length c) w' ∧ OwnL f e n w.heap.size w' (.slice (some ⟨w.heap.size, 0, none⟩) (l ++ m).length c) (l ++ m) ∧ Below w.heap.size w w' := by
  obtain ⟨i0, hi0, hz0, hz1, hz2⟩ := info_parts E.hi
  have hby := E.hb
  have cells : ∀ (k : List α) (ad : Addr) (c : Nat), RowIn n f w (.slice (some ad) k.length c) k → ∀ j u, (cellsOfRow f k)[j]? = some u → w.cell? (ad.add j) = some u := fun k ad c hr j u hu => by
    obtain ⟨y, hy, hyu⟩ := cellsOfRow_split E.hn E.len k j u hu
    have hml : 0 < k.length := Nat.lt_of_le_of_lt (Nat.zero_le _) (List.getElem?_eq_some_iff.1 hy).1
    obtain ⟨A2, c2, hv, _, hr⟩ := hr
    obtain ⟨b, o', hA, hlt, hat⟩ := hr hml
    injection hv with hA2 _ _
    rw [hA] at hA2
    injection hA2 with hA2
    subst hA2
    have h := hat (j / n) y hy (j % n) u hyu
    rw [add_at, ← h]
    have hd : j / n * n + j % n = j := by rw [Nat.mul_comm]; exact Nat.div_add_mod j n
    rw [Nat.add_assoc, hd]
  obtain ⟨A2, c2, hv2, hc2, hr2⟩ := id hm
  subst hv2
  obtain ⟨b2, o2, hA2, _, _⟩ := hr2 hm0
  subst hA2
  have hlen2 : (l ++ m).length = l.length + m.length := by simp
  have hsm : l.length + m.length ≤ maxLen := by simp only [maxLen]; omega
  have hbig : (l.length + m.length) * bytes ≤ 140737488355328 := Nat.le_trans (Nat.mul_le_mul (by omega : l.length + m.length ≤ 100000000) hby) (by omega)
  have grown : ∀ (xs : List Value) (old : Nat), xs = cellsOfRow f l → old < l.length + m.length →
      OwnL f e n w.heap.size (w.drew.alloc (.cells (xs.toArray ++ (cellsOfRow f m).toArray ++ Builtin.zeroCells z.cells (grownCap w (l.length + m.length) old e - (l.length + m.length))) e)) (.slice (some ⟨w.heap.size, 0, none⟩) (l ++ m).length (grownCap w (l.length + m.length) old e)) (l ++ m) := by
    intro xs old hxs ho
    have hge := grownCap_ge w (l.length + m.length) old e
    have hcm : grownCap w (l.length + m.length) old e ≤ maxLen := grownCap_le_maxLen w (l.length + m.length) old e hsm
    have hl1 := cellsOfRow_len E.len l
    have hl2 := cellsOfRow_len E.len m
    subst hxs
    refine ⟨cellsOfRow_len E.len (l ++ m), .inr ⟨w.heap.size, _, _, rfl, Nat.le_refl _, heap_alloc_new w.drew _, by omega, hcm, ?_, ?_⟩⟩
    · simp only [Array.size_append, List.size_toArray, size_zeroCells, E.hz, hl1, hl2, ← Nat.add_mul]
      congr 1
      omega
    · simp only [Array.toList_append, List.append_assoc]
      rw [← List.append_assoc, ← cellsOfRow_append, ← cellsOfRow_len E.len (l ++ m)]
      exact List.take_left
  rw [hlen2]
  rw [hlen2] at grown
  cases A with
  | none =>
    have h0 : l = [] := by
      obtain ⟨A3, c3, hv3, _, hr3⟩ := hl
      rcases Nat.eq_zero_or_pos l.length with h | h
      · exact List.eq_nil_of_length_eq_zero h
      · obtain ⟨_, _, hA, _⟩ := hr3 h
        injection hv3 with hv3 _ _
        rw [hA] at hv3
        cases hv3
    subst h0
    have hr := Go.run_append_nil (P := Tryz.prog) w t ty e i0 z E.ht hi0 hz0 ⟨b2, o2, none⟩ m.length c2 (cellsOfRow f m) (by rw [hz1]; exact cellsOfRow_len E.len m) (cells m _ _ hm) hm0 (by simp only [List.length_nil, Nat.zero_add, maxLen] at hsm; omega) (by rw [hz2]; simp only [List.length_nil, Nat.zero_add] at hbig; omega)
    have hg := grown [] 0 rfl (by simp; omega)
    simp only [List.length_nil, Nat.zero_add, List.nil_append, Array.empty_append] at hg hr ⊢
    exact ⟨_, _, hr, hg, ⟨rfl, rfl, rfl, by simp, fun k hk => Below.heap_alloc w.drew _ k hk⟩⟩
  | some ad =>
    have hr := run_append_grow (P := Tryz.prog) w t ty e i0 z E.ht hi0 hz0 ad l.length l.length (cellsOfRow f l) (by rw [hz1]; exact cellsOfRow_len E.len l) (cells l _ _ hl) ⟨b2, o2, none⟩ m.length c2 (cellsOfRow f m) (by rw [hz1]; exact cellsOfRow_len E.len m) (cells m _ _ hm) (by omega) (by omega) (by rw [hz2]; exact growslice_fits (by omega) hbig)
    exact ⟨_, _, hr, grown _ _ rfl (by omega), ⟨rfl, rfl, rfl, by simp, fun k hk => Below.heap_alloc w.drew _ k hk⟩⟩

theorem step_appendC (E : EltOf t e n bytes z f) {w : World} {ops : Array Oper} {o : Oper} {a : Act} {K : Act → World → Prop} {Q : Exit → Act → World → Prop} {X : Prop} (hgd : o.guard = none) (s x : Operand)
    (ho : o.op = .call { callee := .builtin .append, args := #[s, x], argTypes := #[t, t] }) (l m : List α) (A : Option Addr) (v2 : Value) (hs : a.eval s = .slice A l.length l.length) (hx : a.eval x = v2)
    (hl : RowIn n f w (.slice A l.length l.length) l) (hm : RowIn n f w v2 m) (hm0 : 0 < m.length) (hlen : l.length + m.length ≤ 100000000)
    (h : ∀ (out : List α) c w', out = l ++ m → OwnL f e n w.heap.size w' (.slice (some ⟨w.heap.size, 0, none⟩) out.length c) out → Below w.heap.size w w' → K (a.put o.dst (.slice (some ⟨w.heap.size, 0, none⟩) out.length c)) w') :
    if Region.wanted o (yielded ops a.tmps) = true then Oper.wp Tryz.prog o a w K Q else X := by
  have hw : Region.wanted o (yielded ops a.tmps) = true := by simp [Region.wanted, hgd]
  rw [if_pos hw]
  obtain ⟨c, w', hrun, h2, h3⟩ := run_appendC E w o.type l m A v2 hl hm hm0 hlen
  unfold Oper.wp
  simp [execOp, ho, resolve, invoke, builtin, hs, hx, hrun, Result.andThen]
  have h6 := h _ c w' rfl h2 h3
  rw [List.length_append] at h6
  exact h6
end

/-- maps.Clone at a flat map's entries. -/
theorem flMapClone (L : Nat) (es : List (SK × It)) (w : World) (h : MapIn skV ldV w L es) :
    Calls Tryz.prog 71 #[.map (some L)] w fun e w' => e = .returned (.map (some w.heap.size)) ∧ MapIn skV ldV w' w.heap.size es ∧ Below w.heap.size w w' := by
  obtain ⟨ents, clock, hb, h2⟩ := h
  refine (AnyW.maps_Clone cloneM L ents clock w hb).mono ?_
  rintro e w' ⟨rfl, rfl⟩
  exact ⟨rfl, ⟨ents, clock, heap_alloc_new _ _, h2⟩, balloc (Below.refl _ _) _⟩
end

section
set_option linter.unusedSimpArgs false
set_option linter.unusedVariables false
open Go

section
variable {P : Program} {ops : Array Oper} {Q : Exit → Act → World → Prop} {md : Region.Mode} {S : World → Prop} {k : Nat}
/-- Whatever order is picked; till number k has come up the condition holds. -/
def wpAnyE (P : Program) (md : Region.Mode) (ops : Array Oper) (Q : Exit → Act → World → Prop) (S : World → Prop) (k : Nat) : Nat → Array Bool → Act → World → Prop
  | 0, listed, a, w => Region.ready md ops listed = [] ∧ Q .normal a w
  | fuel + 1, listed, a, w =>
    (Region.ready md ops listed = [] → Q .normal a w) ∧
    ∀ i ∈ Region.ready md ops listed, wpOp P ops Q i (fun a' w' => ((listed.setIfInBounds i true).getD k true = false → S w') ∧ wpAnyE P md ops Q S k fuel (listed.setIfInBounds i true) a' w') a w
theorem wpAny_of_E : ∀ (fuel : Nat) (listed : Array Bool) (a : Act) (w : World), wpAnyE P md ops Q S k fuel listed a w → wpAny P md ops Q fuel listed a w
  | 0, _, _, _, h => h
  | fuel + 1, _, _, _, h => ⟨h.1, fun i hi => wpOp_mono (fun a' w' h' => wpAny_of_E fuel _ a' w' h'.2) (h.2 i hi)⟩
/-- Those that wait for number i, or for one that does. -/
def waitersE (md : Region.Mode) (ops : Array Oper) (i : Nat) : List Nat :=
  (List.range ops.size).foldl (fun W j => if (match ops[j]? with | some o => o.after.any (fun e => Region.binds md e && (e.on == i || W.contains e.on)) | none => false) = true then j :: W else W) []
def waitsE (md : Region.Mode) (ops : Array Oper) (W : List Nat) (i : Nat) : Bool := W.all fun j => match ops[j]? with | some o => o.after.any (fun e => Region.binds md e && (e.on == i || W.contains e.on)) | none => false
theorem wpAnyE_first {i : Nat} {oi : Oper} {v : Value} {W : List Nat} (hi : ops[i]? = some oi) (hik : i ≠ k) (hsel : ∀ (j : Nat) (o : Oper) cs b, ops[j]? = some o → o.op ≠ .select cs b)
    (hQ : ∀ c a w, Q (.panic c) (a.put oi.dst v) w → Q (.panic c) a w) (hkW : k ∈ W) (hw : waitsE md ops W i = true) :
    ∀ (fuel : Nat) (listed : Array Bool) (a : Act) (w : World),
      (∀ j oj, ops[j]? = some oj → j ≠ i → listed.getD j true = false → (∀ e ∈ oj.after, Region.binds md e = true → e.on ≠ i) → oi.apart ops oj = true) →
      i ∈ Region.ready md ops listed → (∀ j ∈ W, listed.getD j true = false) → YieldsIf P ops S oi v a → S w →
      wpAnyE P md ops Q S k fuel (listed.setIfInBounds i true) (a.put oi.dst v) w → wpAnyE P md ops Q S k (fuel + 1) listed a w := by
  intro fuel
  induction fuel with
  | zero =>
    intro listed a w _ hr _ hy hS H
    refine ⟨fun h => (by rw [h] at hr; cases hr), fun j hj => ?_⟩
    by_cases hji : j = i
    · subst hji; exact hy.wpOp hi hS ⟨fun _ => hS, H⟩
    · have := ready_mono hj hji
      rw [H.1] at this
      cases this
  | succ fuel ih =>
    intro listed a w hfree hr hWl hy hS H
    refine ⟨fun h => (by rw [h] at hr; cases hr), fun j hj => ?_⟩
    by_cases hji : j = i
    · subst hji; exact hy.wpOp hi hS ⟨fun _ => hS, H⟩
    · have h1 := H.2 j (ready_mono hj hji)
      obtain ⟨hjun, oj, hoj, hall⟩ := mem_ready.1 hj
      have hlist : ∀ e ∈ oj.after, Region.binds md e = true → listed.getD e.on true = true := fun e he hb => by
        have h1 := hall e he hb
        rcases Nat.lt_or_ge e.on listed.size with h' | h'
        · simpa [h'] using h1
        · simp [Array.getElem?_eq_none h'] at h1 ⊢
      have hiun : listed.getD i true = false := (mem_ready.1 hr).1
      have hnot : ∀ e ∈ oj.after, Region.binds md e = true → e.on ≠ i := fun e he hb heq => by
        have h1 := hlist e he hb
        rw [heq, hiun] at h1
        cases h1
      have hjW : j ∉ W := fun hm => by
        have h2 := List.all_eq_true.1 hw j hm
        rw [hoj] at h2
        simp only [Array.any_eq_true'] at h2
        obtain ⟨e, he, hb⟩ := h2
        simp only [Bool.and_eq_true, Bool.or_eq_true, beq_iff_eq, List.contains_iff_mem] at hb
        have h3 := hlist e he hb.1
        rcases hb.2 with h4 | h4
        · exact hnot e he hb.1 h4
        · rw [hWl _ h4] at h3; cases h3
      have hjk : j ≠ k := fun e => hjW (e ▸ hkW)
      have h2 := wpOp_putIf hoj (hfree j oj hoj hji hjun hnot) (fun cs b => hsel i oi cs b hi) (fun cs b => hsel j oj cs b hoj) hQ hy h1
      have hfree' : ∀ k ok, ops[k]? = some ok → k ≠ i → (listed.setIfInBounds j true).getD k true = false →
          (∀ e ∈ ok.after, Region.binds md e = true → e.on ≠ i) → oi.apart ops ok = true := fun k ok hk hki hun hno => by
        refine hfree k ok hk hki ?_ hno
        by_cases hjk : j = k
        · subst hjk; exact hjun
        · rw [getD_set_ne true hjk] at hun; exact hun
      have hWl' : ∀ j' ∈ W, (listed.setIfInBounds j true).getD j' true = false := fun j' hj' => by
        have hne : j ≠ j' := fun e => hjW (by rw [e]; exact hj')
        rw [getD_set_ne true hne]
        exact hWl j' hj'
      have hc : ((listed.setIfInBounds i true).setIfInBounds j true).getD k true = false := by
        rw [Array.setIfInBounds_comm _ _ (Ne.symm hji), getD_set_ne true hik]
        exact hWl' k hkW
      refine wpOp_mono (fun a' w' h3 => ⟨fun _ => h3.2.1 hc, ih (listed.setIfInBounds j true) a' w' hfree' (ready_mono hr (Ne.symm hji)) hWl' h3.1 (h3.2.1 hc) ?_⟩) h2
      rw [Array.setIfInBounds_comm _ _ hji]
      exact h3.2.2
def takesE (md : Region.Mode) (ops : Array Oper) (listed : Array Bool) (k i : Nat) : Bool :=
  decide (i ≠ k) && (waitersE md ops i).contains k && waitsE md ops (waitersE md ops i) i && (waitersE md ops i).all fun j => listed.getD j true == false
theorem wpAnyE_take {i : Nat} {oi : Oper} {v : Value} {fuel : Nat} {listed : Array Bool} {a : Act} {w : World} (hi : ops[i]? = some oi)
    (hs : Region.noSelect ops = true) (hf : Region.free md ops listed i = true) (hr : (Region.ready md ops listed).contains i = true) (hw : takesE md ops listed k i = true)
    (hQ : ∀ c a w, Q (.panic c) (a.put oi.dst v) w → Q (.panic c) a w) (hy : YieldsIf P ops S oi v a) (hS : S w)
    (h : wpAnyE P md ops Q S k fuel (listed.setIfInBounds i true) (a.put oi.dst v) w) : wpAnyE P md ops Q S k (fuel + 1) listed a w := by
  simp only [takesE, Bool.and_eq_true, decide_eq_true_eq, List.contains_iff_mem, List.all_eq_true, beq_iff_eq] at hw
  obtain ⟨⟨⟨h1, h2⟩, h3⟩, h4⟩ := hw
  exact wpAnyE_first hi h1 (Region.noSelect_spec hs) hQ h2 h3 fuel listed a w (Region.free_spec hi hf) (by simpa using hr) h4 hy hS h
/-- The one operation that may come up. -/
theorem wpAnyE_one {i : Nat} {o : Oper} {fuel : Nat} {listed : Array Bool} {a : Act} {w : World} (hr : Region.ready md ops listed = [i]) (ho : ops[i]? = some o)
    (h : ∀ K' : Act → World → Prop, Shut (∀ a w, ((listed.setIfInBounds i true).getD k true = false → S w) → (((listed.setIfInBounds i true).getD k true = false → S w) → wpAnyE P md ops Q S k fuel (listed.setIfInBounds i true) a w) → K' a w) → if Region.wanted o (yielded ops a.tmps) = true then Oper.wp P o a w K' Q else K' (a.put o.dst undef) w) :
    wpAnyE P md ops Q S k (fuel + 1) listed a w := by
  refine ⟨fun h0 => (by rw [hr] at h0; cases h0), fun j hj => ?_⟩
  rw [hr] at hj
  obtain rfl := List.mem_singleton.1 hj
  have h2 := h (fun a' w' => ((listed.setIfInBounds j true).getD k true = false → S w') ∧ wpAnyE P md ops Q S k fuel (listed.setIfInBounds j true) a' w') (fun a w h1 h2 => ⟨h1, h2 h1⟩)
  unfold Go.wpOp
  simp only [ho]
  split
  · rename_i hw
    rw [if_pos hw] at h2
    exact Or.inl h2
  · rename_i hw
    rw [if_neg hw] at h2
    exact h2
theorem wpAnyE_done {listed : Array Bool} {a : Act} {w : World} (hr : Region.ready md ops listed = []) (h : Q .normal a w) :
    ∀ fuel, wpAnyE P md ops Q S k fuel listed a w
  | 0 => ⟨hr, h⟩
  | _ + 1 => ⟨fun _ => h, by rw [hr]; simp⟩
theorem wp_region_E {id : Nat} {a : Act} {w : World} (k : Nat) (hm : P.follows .mixedOrders = true) (hS : S w.drew)
    (h : S w.drew → wpAnyE P .any ops Q S k ops.size (Array.replicate ops.size false) a w.drew) : (Code.region id ops true).wp P Q a w :=
  wp_region_any hm (wpAny_of_E _ _ _ _ (h hS))
end
end

section
set_option linter.unusedSimpArgs false
set_option linter.unusedVariables false
open Go.RowKit Go.Lib

section
variable {P : Program} {ops : Array Oper} {Q : Exit → Act → World → Prop} {md : Region.Mode} {S : World → Prop} {k : Nat}
end

/-! ### live -/
def liveF (l : List FCut) : Nat := l.countP fun x => !x.fr
theorem liveF_law {P : Nat → Prop} {w : World} {M : Nat} {c : Cfg} {wd : Wd} {d : FlatD} (h : FlMem P w M c wd d) (hep : ∀ q ∈ wd.cuts, 0 ≤ q.ep) : liveF d.cuts = liveT (tabW wd) := by
  have e : d.cuts.map (·.fr) = wd.cuts.map (·.freed) := by
    apply List.ext_getElem?
    intro i
    rw [List.getElem?_map, List.getElem?_map]
    by_cases hi : i < d.cuts.length
    · have hj : i < wd.cuts.length := by rw [← h.len]; exact hi
      rw [List.getElem?_eq_getElem hi, List.getElem?_eq_getElem hj]
      exact congrArg some (h.cut i _ _ (List.getElem?_eq_getElem hi) (List.getElem?_eq_getElem hj)).1
    · rw [List.getElem?_eq_none (by omega), List.getElem?_eq_none (by have := h.len; omega)]
      rfl
  have e1 : liveF d.cuts = (d.cuts.map (·.fr)).countP fun b => !b := by unfold liveF; rw [List.countP_map]; rfl
  rw [e1, e]
  unfold liveT tabW
  rw [List.countP_map, List.countP_map]
  refine List.countP_congr (fun q hq => ?_)
  have := hep q hq
  simp only [Function.comp]
  by_cases hfq : q.freed = true
  · simp [hfq]
  · simp [hfq]; omega
theorem liveF_take (l : List FCut) (k : Nat) (h : k < l.length) : liveF (l.take (k + 1)) = liveF (l.take k) + (if l[k].fr = true then 0 else 1) := by
  unfold liveF
  rw [List.take_succ_eq_append_getElem h, List.countP_append, List.countP_singleton]
  cases l[k].fr <;> rfl
set_option maxRecDepth 100000 in
set_option maxHeartbeats 4000000 in
theorem flLive_any {P : Nat → Prop} {M : Nat} {c : Cfg} {wd : Wd} {d : FlatD} (w : World) (h : FlMem P w M c wd d) (hl : d.cuts.length ≤ 900000) :
    Calls Tryz.prog 131 #[.pointer (some ⟨M, 0, none⟩)] w fun e w' => e = .returned (.int .i64 (liveF d.cuts : Nat)) ∧ Below w.heap.size w w' := by
  have HV := Lib.hid h.row.1
  obtain ⟨a1, a2, a3⟩ := box_cells (Below.refl _ _) h.cell
  obtain ⟨l, hll⟩ : ∃ l, l = d.cuts := ⟨_, rfl⟩
  rw [← hll] at HV a1 hl ⊢
  obtain ⟨A, hA⟩ : ∃ A, A = d.A := ⟨_, rfl⟩
  obtain ⟨cp, hcp⟩ : ∃ A, A = d.cp := ⟨_, rfl⟩
  rw [← hA, ← hcp] at HV a1
  clear h hll hA hcp
  go_enter Tryz.func131, Tryz.ntmps131
  go_wp2_with fail
  clear a1 a2 a3
  go_loopg [3, 5, 11] l.length (fun g s3 _ s11 wr => ∃ (k m : Nat), k ≤ l.length ∧ l.length - k ≤ g ∧ s11 = .int .i64 k ∧ s3 = .int .i64 (m : Nat) ∧ Hid (m = liveF (l.take k)) ∧ Below w.heap.size w wr)
  case atStart => exact ⟨0, 0, Nat.zero_le _, Nat.le_refl _, rfl, rfl, Lib.hid rfl, Below.refl _ _⟩
  case round =>
    obtain ⟨k, m, hk, hg, rfl, rfl, HM, hbr⟩ := hrel
    have HBR := Lib.hid hbr
    clear hbr
    by_cases hlt : k < l.length
    · obtain ⟨b, o, rfl, hb, hc⟩ := HV.out.at_ hlt
      have c0 : wr.cell? ⟨b, o + k * 3, none⟩ = some (.int .i64 l[k].ep) := (HBR.out.cell (p := ⟨b, _, none⟩) hb).trans (hc 0 _ rfl)
      have c1 : wr.cell? ⟨b, o + k * 3 + 1, none⟩ = some (.map l[k].m) := (HBR.out.cell (p := ⟨b, _, none⟩) hb).trans (hc 1 _ rfl)
      have c2 : wr.cell? ⟨b, o + k * 3 + 2, none⟩ = some (.bool l[k].fr) := (HBR.out.cell (p := ⟨b, _, none⟩) hb).trans (hc 2 _ rfl)
      have HT := Lib.hid (liveF_take l k hlt)
      have hmb : m ≤ 900000 := by
        have h1 := HM.out
        have h2 : liveF (l.take k) ≤ (l.take k).length := List.countP_le_length
        rw [List.length_take] at h2
        omega
      have hw : wrap64 ((m : Int) + 1) = ((m + 1 : Nat) : Int) := by unfold wrap64; omega
      have HW := Lib.hid hw
      clear hc hb hw hmb
      generalize l[k] = x at c0 c1 c2 HT
      obtain ⟨xe, xm, xes, xf⟩ := x
      dsimp only at c0 c1 c2 HT
      cases xf
      · go_wp2_with fail
        go_roundg (l.length - (k + 1))
        case measure => omega
        case rel => exact ⟨k + 1, m + 1, hlt, Nat.le_refl _, by go_num, by rw [HW.out], Lib.hid (by rw [HT.out, ← HM.out]; rfl), balloc HBR.out _⟩
      · go_wp2_with fail
        go_roundg (l.length - (k + 1))
        case measure => omega
        case rel => exact ⟨k + 1, m, hlt, Nat.le_refl _, by go_num, rfl, Lib.hid (by rw [HT.out, ← HM.out]; rfl), balloc HBR.out _⟩
    · obtain rfl : k = l.length := by omega
      have hm := HM.out
      rw [List.take_length] at hm
      have HM2 := Lib.hid hm
      clear hm
      go_wp2_with fail
      go_ret
      exact ⟨by rw [HM2.out]; rfl, HBR.out⟩

set_option maxRecDepth 100000 in
set_option maxHeartbeats 4000000 in
theorem flClip_any (A : Option Addr) (n c : Nat) (w : World) (hc : n ≤ c) :
    Calls Tryz.prog 132 #[.slice A n c] w fun e w' => e = .returned (.slice A n n) ∧ w' = w := by
  go_enter Tryz.func132, Tryz.ntmps132
  go_wp2_with fail
  go_ret
  exact ⟨rfl, rfl⟩
end

end Go.Proofs.YtmniiodpbebnmaaGreat
