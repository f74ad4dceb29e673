/- node.Freeze, and a stripe that is frozen; The plain law of a stripe: what it has, against the reference's items; The plain law of a stripe: has, get, trim, freeze; a stripe's Get and Version. -/
import Derived.Test.YtmniiodpbebnmaaGreatC17
import Derived.Deep.DeepCutAuto
import Derived.Test.YtmniiodpbebnmaaGreatC12
import Derived.Test.YtmniiodpbebnmaaGreatC16
namespace Go.Proofs.YtmniiodpbebnmaaGreat

section
set_option linter.unusedSimpArgs false
set_option linter.unusedVariables false
open Go.RowKit Go.Lib Go.Sort
open Go.ChangeMaps (setBlock)

def frz (x : Nd) : Nd := { x with frz := true }
set_option maxRecDepth 100000 in
set_option maxHeartbeats 4000000 in
theorem nodeFreeze_any (N : Nat) (x : Nd) (rs rh : Nat) (fp : List Nat) (w : World) (h : NodeIn w N x rs rh fp) :
    Calls Tryz.prog 165 #[.pointer (some ⟨N, 0, none⟩)] w fun e w' => e = .returned (.pointer (some ⟨N, 0, none⟩)) ∧ NodeIn w' N (frz x) rs rh fp ∧ Upd w w' (mfp x fp) [] := by
  have HM := Lib.hid (made_any N x rs rh fp w h)
  have HN := Lib.hid h
  obtain ⟨S, fs, H, fh, h1, _⟩ := id h
  have H1 := Lib.hid h1
  clear h h1
  go_enter Tryz.func165, Tryz.ntmps165
  go_wp2_with (first
    | (go_at_call 174
       refine HM.out.mono ?_
       rintro e w2 ⟨rfl, hb2⟩
       obtain ⟨a1, a2, a3⟩ := box_cells hb2 H1.out
       have hx2 := (hb2.block N (Array.getElem?_eq_some_iff.1 H1.out).1).trans H1.out
       have HX2 := Lib.hid hx2
       have HB2 := Lib.hid hb2
       clear hb2 hx2))
  go_ret
  have hn2 := HN.out.below HB2.out
  refine ⟨rfl, node_set (i := 10) (v := .bool true) (y := frz x) hn2 (fun S H => rfl) rfl rfl, HB2.out.os, HB2.out.tape, HB2.out.output, by simp [World.setCell]; exact HB2.out.size, fun k hk hn => ?_, fun r hr => by cases hr⟩
  by_cases e : k = N
  · subst e
    have hf : x.frz = true := by
      cases hx : x.frz with
      | true => rfl
      | false =>
        exfalso
        apply hn
        unfold mfp
        rw [hx]
        exact HN.out.mem
    have hb := setCell_block (i := 10) (v := .bool true) HX2.out
    rw [hb, H1.out]
    have : (ndC x S H).setIfInBounds 10 (.bool true) = ndC x S H := by
      unfold ndC
      rw [hf]
      rfl
    rw [this]
  · exact (Below.heap_setCell _ _ _ _ e).trans (HB2.out.block k hk)

/-- The entries with those keys' nodes frozen. -/
def frzE (es : List (KO × NE)) (ks : List Ky) : List (KO × NE) := es.map fun p => (p.1, (p.2.1, (if p.1.1 ∈ ks then frz p.2.2.1 else p.2.2.1), p.2.2.2))
theorem frzE_nil (es : List (KO × NE)) : frzE es [] = es := by
  unfold frzE
  conv => rhs; rw [← List.map_id es]
  exact List.map_congr_left fun p _ => rfl
theorem frzE_mem {es : List (KO × NE)} {ks : List Ky} {p : KO × NE} (h : p ∈ frzE es ks) : ∃ q ∈ es, p = (q.1, (q.2.1, (if q.1.1 ∈ ks then frz q.2.2.1 else q.2.2.1), q.2.2.2)) := by
  obtain ⟨q, hq, rfl⟩ := List.mem_map.1 h
  exact ⟨q, hq, rfl⟩
theorem frzE_find (es : List (KO × NE)) (ks : List Ky) (k : KO) : findM (frzE es ks) k = (findM es k).map (fun b => (b.1, (if k.1 ∈ ks then frz b.2.1 else b.2.1), b.2.2)) := by
  unfold findM frzE
  rw [List.find?_map]
  simp only [Function.comp_def]
  cases h : es.find? (fun p => decide (p.1 = k)) with
  | none => simp
  | some q =>
    have := List.find?_some h
    simp at this
    simp [this]
theorem ab_frzE (es : List (KO × NE)) (ks : List Ky) : ab (frzE es ks) = (ab es).map (fun p => (p.1, if p.1.1 ∈ ks then frz p.2 else p.2)) := by
  simp [ab, frzE, List.map_map, Function.comp_def]

/-- One more node was frozen. -/
theorem SAt.freeze {w w' : World} {T M : Nat} {c : Cfg} {ver : Nat} {es : List (KO × NE)} {rs rh : Nat} {ks : List Ky} {k : KO} {b : NE} (h : SAt w T M c ver (frzE es ks) rs rh) (hb : findM (frzE es ks) k = some b)
    (hn : NodeIn w' b.1 (frz b.2.1) rs rh b.2.2) (hu : Upd w w' (mfp b.2.1 b.2.2) []) : SAt w' T M c ver (frzE es (ks ++ [k.1])) rs rh ∧ Upd w w' (sfp T M (frzE es ks)) (sfp T M (frzE es (ks ++ [k.1]))) := by
  have hm := find_mem hb
  have hnd := h.nodup
  have ho := h.off _ hm
  have hsub := mfp_sub b.2.1 b.2.2
  have hole := h.hole hm hu
  -- an entry of the one list, seen from the other
  have hent : ∀ p ∈ frzE es (ks ++ [k.1]), ∃ q ∈ frzE es ks, q.1 = p.1 ∧ q.2.1 = p.2.1 ∧ q.2.2.2 = p.2.2.2 ∧ ((p.1 = k ∧ p.2.2.1 = frz q.2.2.1) ∨ (p.1 ≠ k ∧ p.2.2.1 = q.2.2.1)) := by
    intro p hp
    obtain ⟨q, hq, rfl⟩ := frzE_mem hp
    refine ⟨_, List.mem_map.2 ⟨q, hq, rfl⟩, rfl, rfl, rfl, ?_⟩
    by_cases e : q.1 = k
    · refine .inl ⟨e, ?_⟩
      have e1 : q.1.1 = k.1 := by rw [e]
      simp only [e1, List.mem_append, List.mem_singleton, or_true, if_true]
      split
      · rfl
      · rfl
    · refine .inr ⟨e, ?_⟩
      have : ¬ q.1.1 = k.1 := fun h => e (Subtype.ext h)
      simp [this]
  have hat : ∀ q ∈ frzE es ks, q.1 = k → q.2 = b := fun q hq e => by
    have := find_of_mem hnd (show (k, q.2) ∈ frzE es ks by rw [← e]; exact hq)
    rw [hb] at this
    injection this with this
    exact this.symm
  refine ⟨⟨hole.cell, ?_, fun p hp => ?_, fun p hp q hq hpq => ?_, fun p hp => ?_, h.ne⟩, ⟨hu.os, hu.tape, hu.output, hu.size, fun r hr hnr => hu.block r hr (fun hk => hnr ?_), fun r hr => ?_⟩⟩
  · have h1 := hole.map
    unfold frzE at h1 ⊢
    obtain ⟨ents, clock, g1, g2, g3, g4, g5⟩ := h1
    refine ⟨ents, clock, g1, g2.trans ?_, g3, g4, ?_⟩
    · rw [List.map_map, List.map_map]; rfl
    · rw [List.map_map] at g5 ⊢; exact g5
  · obtain ⟨q, hq, e1, e2, e3, e4⟩ := hent p hp
    rw [← e2, ← e3]
    rcases e4 with ⟨ek, e5⟩ | ⟨ek, e5⟩
    · have := hat q hq (e1.trans ek)
      rw [e5, this]
      exact hn
    · rw [e5]
      exact hole.node q hq (by rw [e1]; exact ek)
  · obtain ⟨p', hp', e1, _, e3, _⟩ := hent p hp
    obtain ⟨q', hq', f1, _, f3, _⟩ := hent q hq
    rw [← e3, ← f3]
    exact h.pair p' hp' q' hq' (by rw [e1, f1]; exact hpq)
  · obtain ⟨p', hp', e1, _, e3, _⟩ := hent p hp
    rw [← e3]
    exact h.off p' hp'
  · simp only [sfp, List.mem_cons]
    exact .inr (.inr (mem_mfpE.2 ⟨_, hm, hk⟩))
  · simp only [sfp, List.mem_cons] at hr ⊢
    rcases hr with rfl | rfl | hr
    · exact .inl (.inl rfl)
    · exact .inl (.inr (.inl rfl))
    · obtain ⟨p, hp, hr⟩ := mem_mfpE.1 hr
      obtain ⟨q, hq, e1, _, e3, e4⟩ := hent p hp
      refine .inl (.inr (.inr (mem_mfpE.2 ⟨q, hq, ?_⟩)))
      rcases e4 with ⟨_, e5⟩ | ⟨_, e5⟩
      · rw [e5] at hr
        unfold mfp frz at hr
        simp at hr
      · rw [← e5, e3]
        exact hr
end

section
set_option linter.unusedSimpArgs false
set_option linter.unusedVariables false
open Go.RowKit Go.Lib Go.Sort

/-- Two workloads that tell the same. -/
def sameN (x y : Nd) : Prop := x.smp = y.smp ∧ x.past = y.past ∧ x.pol = y.pol ∧ x.ruled = y.ruled
theorem sameN.refl (x : Nd) : sameN x x := ⟨rfl, rfl, rfl, rfl⟩
def keysI (l : List It) : List Ky := l.map (·.key)
def keysS (S : List (KO × Nd)) : List Ky := S.map (·.1.1)
/-- The stripe's workloads are the items, in order. -/
structure Tells18 (S : List (KO × Nd)) (R : List (Ky × Nd)) : Prop where
  nodup : (S.map (·.1)).Nodup
  sorted : (R.map (·.1)).Pairwise (fun a b => ltK a b = true)
  keys : ∀ q, q ∈ R.map (·.1) ↔ q ∈ keysS S
  vals : ∀ k x, findM S k = some x → ∃ y, (k.1, y) ∈ R ∧ sameN x y

theorem Tells18.nil : Tells18 [] [] := ⟨List.nodup_nil, List.Pairwise.nil, fun q => by simp [keysS], fun k x h => by simp [findM] at h⟩
theorem Tells18.risL {S : List (KO × Nd)} {R : List (Ky × Nd)} (h : Tells18 S R) : risL (keysS S) = R.map (·.1) :=
  pair_unique (risL_pair _) h.sorted (fun q => by rw [mem_risL, h.keys])
theorem keysS_nodup {S : List (KO × Nd)} (h : (S.map (·.1)).Nodup) : (keysS S).Nodup := by
  have := kys_nodup h
  simpa [kys, keysS, List.map_map, Function.comp_def] using this
theorem Tells18.len {S : List (KO × Nd)} {R : List (Ky × Nd)} (h : Tells18 S R) : S.length = R.length := by
  have h1 := congrArg List.length h.risL
  rw [risL_length (keysS_nodup h.nodup)] at h1
  simpa [keysS] using h1
theorem sorted_at_unique {R : List (Ky × Nd)} (hs : (R.map (·.1)).Pairwise (fun a b => ltK a b = true)) {q : Ky} {y z : Nd} (hy : (q, y) ∈ R) (hz : (q, z) ∈ R) : y = z := by
  induction R with
  | nil => cases hy
  | cons a R ih =>
    rw [List.map_cons, List.pairwise_cons] at hs
    rcases List.mem_cons.1 hy with hy | hy
    · rcases List.mem_cons.1 hz with hz | hz
      · rw [← hy] at hz; injection hz with _ hz; exact hz.symm
      · have := hs.1 q (List.mem_map.2 ⟨_, hz, rfl⟩)
        rw [← hy] at this
        exact absurd this (by rw [ltK_irrefl q]; simp)
    · rcases List.mem_cons.1 hz with hz | hz
      · have := hs.1 q (List.mem_map.2 ⟨_, hy, rfl⟩)
        rw [← hz] at this
        exact absurd this (by rw [ltK_irrefl q]; simp)
      · exact ih hs.2 hy hz

theorem key_at {l : List It} {i : Nat} (h : i < l.length) : (keysI l)[i]? = some l[i].key := by simp [keysI, h]
theorem sorted_get {l : List It} (hs : (keysI l).Pairwise (fun a b => ltK a b = true)) {i j : Nat} (hj : j < l.length) (hij : i < j) : ltK (l[i]'(by omega)).key l[j].key = true := by
  have := (List.pairwise_iff_getElem.1 hs) i j (by simp [keysI]; omega) (by simp [keysI]; omega) hij
  simpa [keysI] using this
theorem hasI_iff {l : List It} (hs : (keysI l).Pairwise (fun a b => ltK a b = true)) (k : Ky) : hasI l k = true ↔ k ∈ keysI l := by
  constructor
  · intro h
    unfold hasI at h
    split at h
    · rename_i hl
      rw [← of_decide_eq_true h]
      exact List.mem_map.2 ⟨_, List.getElem_mem hl, rfl⟩
    · cases h
  · intro h
    obtain ⟨x, hx, hk⟩ := List.mem_map.1 h
    obtain ⟨i, hi, rfl⟩ := List.getElem_of_mem hx
    have h1 : atI l k ≤ i := by
      rcases Nat.lt_or_ge i (atI l k) with h' | h'
      · have := atI_lt hi h'
        rw [hk, ltK_irrefl] at this
        cases this
      · exact h'
    have h2 : atI l k = i := by
      rcases Nat.lt_or_ge (atI l k) i with h' | h'
      · have h3 := sorted_get hs hi h'
        rw [hk] at h3
        rw [atI_ge (by omega)] at h3
        cases h3
      · omega
    unfold hasI
    rw [dif_pos (by omega)]
    simp only [h2, hk, decide_true]
/-- What stands behind the place is above the key. -/
theorem above_at {l : List It} (hs : (keysI l).Pairwise (fun a b => ltK a b = true)) {k : Ky} {j : Nat} (hj : j < l.length) (h : (if hasI l k = true then atI l k + 1 else atI l k) ≤ j) : ltK k l[j].key = true := by
  cases hh : hasI l k with
  | true =>
    rw [hh, if_pos rfl] at h
    have h1 : ∃ hl : atI l k < l.length, l[atI l k].key = k := by
      unfold hasI at hh
      split at hh
      · rename_i hl
        exact ⟨hl, of_decide_eq_true hh⟩
      · cases hh
    obtain ⟨hl, hk⟩ := h1
    have := sorted_get hs hj (show atI l k < j by omega)
    rw [hk] at this
    exact this
  | false =>
    rw [hh, if_neg (by simp)] at h
    have hne : l[j].key ≠ k := fun e => by
      have := (hasI_iff hs k).2 (List.mem_map.2 ⟨_, List.getElem_mem hj, e⟩)
      rw [hh] at this
      cases this
    have hn : ltK l[j].key k = false := by
      have h0 := atI_ge (l := l) (k := k) (by omega)
      cases hx : ltK l[j].key k with
      | false => rfl
      | true =>
        rcases Nat.lt_or_ge (atI l k) j with h' | h'
        · rw [ltK_trans (sorted_get hs hj h') hx] at h0
          cases h0
        · have : atI l k = j := by omega
          simp only [this] at h0
          rw [h0] at hx
          cases hx
    cases hx : ltK k l[j].key with
    | true => rfl
    | false => exact absurd (ltK_total hn hx) hne
theorem mem_outI {l : List It} (hs : (keysI l).Pairwise (fun a b => ltK a b = true)) (k : Ky) (y : Nd) (q : Ky) (z : Nd) : (q, z) ∈ outI l k y ↔ (q = k ∧ z = y) ∨ ((q, z) ∈ l.map absI ∧ q ≠ k) := by
  unfold outI
  rw [List.mem_append, List.mem_append, List.mem_singleton]
  constructor
  · rintro ((h | h) | h)
    · obtain ⟨i, hi⟩ := List.getElem?_of_mem h
      rw [List.getElem?_take] at hi
      split at hi
      · rename_i hlt
        obtain ⟨hil, he⟩ := List.getElem?_eq_some_iff.1 hi
        simp only [List.length_map] at hil
        simp only [List.getElem_map, absI, Prod.mk.injEq] at he
        refine .inr ⟨List.mem_of_mem_take h, fun e => ?_⟩
        have := atI_lt hil hlt
        rw [he.1, e, ltK_irrefl] at this
        cases this
      · cases hi
    · injection h with h1 h2
      exact .inl ⟨h1, h2⟩
    · obtain ⟨i, hi⟩ := List.getElem?_of_mem h
      rw [List.getElem?_drop] at hi
      obtain ⟨hil, he⟩ := List.getElem?_eq_some_iff.1 hi
      simp only [List.length_map] at hil
      simp only [List.getElem_map, absI, Prod.mk.injEq] at he
      refine .inr ⟨List.mem_of_mem_drop h, fun e => ?_⟩
      have := above_at hs hil (Nat.le_add_right _ i)
      rw [he.1, e, ltK_irrefl] at this
      cases this
  · rintro (⟨rfl, rfl⟩ | ⟨h, hq⟩)
    · exact .inl (.inr rfl)
    · obtain ⟨x, hx, he⟩ := List.mem_map.1 h
      obtain ⟨i, hi, rfl⟩ := List.getElem_of_mem hx
      simp only [absI, Prod.mk.injEq] at he
      by_cases h1 : i < atI l k
      · refine .inl (.inl ?_)
        refine List.mem_of_getElem? (i := i) ?_
        rw [List.getElem?_take, if_pos h1]
        simp [hi, absI, he]
      · by_cases h2 : (if hasI l k = true then atI l k + 1 else atI l k) ≤ i
        · refine .inr ?_
          refine List.mem_of_getElem? (i := i - (if hasI l k = true then atI l k + 1 else atI l k)) ?_
          rw [List.getElem?_drop, Nat.add_sub_cancel' h2]
          simp [hi, absI, he]
        · exfalso
          split at h2
          · rename_i hh
            have h3 : i = atI l k := by omega
            subst h3
            obtain ⟨hl, hg⟩ := getL_has hh
            unfold hasI at hh
            rw [dif_pos hl] at hh
            exact hq (he.1.symm.trans (of_decide_eq_true hh))
          · omega
theorem outI_sorted {l : List It} (hs : (keysI l).Pairwise (fun a b => ltK a b = true)) (k : Ky) (y : Nd) : ((outI l k y).map (·.1)).Pairwise (fun a b => ltK a b = true) := by
  unfold outI
  simp only [List.map_append, List.map_cons, List.map_nil, List.map_take, List.map_drop, List.map_map]
  have e : (Prod.fst ∘ absI : It → Ky) = (·.key) := rfl
  rw [show List.map ((fun x : Ky × Nd => x.1) ∘ absI) l = keysI l from rfl]
  have hlow : ∀ q ∈ (keysI l).take (atI l k), ltK q k = true := fun q hq => by
    obtain ⟨i, hi⟩ := List.getElem?_of_mem hq
    rw [List.getElem?_take] at hi
    split at hi
    · rename_i hlt
      have hil : i < l.length := by have := (List.getElem?_eq_some_iff.1 hi).1; simpa [keysI] using this
      rw [key_at hil] at hi
      injection hi with hi
      rw [← hi]
      exact atI_lt hil hlt
    · cases hi
  have hhigh : ∀ q ∈ (keysI l).drop (if hasI l k = true then atI l k + 1 else atI l k), ltK k q = true := fun q hq => by
    obtain ⟨i, hi⟩ := List.getElem?_of_mem hq
    rw [List.getElem?_drop] at hi
    have hil : (if hasI l k = true then atI l k + 1 else atI l k) + i < l.length := by have := (List.getElem?_eq_some_iff.1 hi).1; simpa [keysI] using this
    rw [key_at hil] at hi
    injection hi with hi
    rw [← hi]
    exact above_at hs hil (Nat.le_add_right _ i)
  rw [List.pairwise_append, List.pairwise_append]
  refine ⟨⟨hs.sublist (List.take_sublist _ _), List.pairwise_singleton _ _, fun a ha b hb => ?_⟩, hs.sublist (List.drop_sublist _ _), fun a ha b hb => ?_⟩
  · rw [List.mem_singleton.1 hb]; exact hlow a ha
  · rcases List.mem_append.1 ha with ha | ha
    · exact ltK_trans (hlow a ha) (hhigh b hb)
    · rw [List.mem_singleton.1 ha]; exact hhigh b hb
theorem absI_keys (l : List It) : (l.map absI).map (·.1) = keysI l := by simp [keysI, absI, List.map_map, Function.comp_def]

/-- A key's workload is kept on both sides. -/
theorem Tells18.put {S : List (KO × Nd)} {l : List It} (h : Tells18 S (l.map absI)) (k : KO) {x y : Nd} (hxy : sameN x y) : Tells18 (putM S k x) (outI l k.1 y) := by
  have hs : (keysI l).Pairwise (fun a b => ltK a b = true) := by rw [← absI_keys]; exact h.sorted
  refine ⟨nodup_putM h.nodup k x, outI_sorted hs k.1 y, fun q => ?_, fun k' x' hf => ?_⟩
  · have hk : q ∈ keysS (putM S k x) ↔ q = k.1 ∨ q ∈ keysS S := by
      have e : keysS (putM S k x) = ((putM S k x).map (·.1)).map (·.1) := by simp [keysS, List.map_map, Function.comp_def]
      have e2 : keysS S = (S.map (·.1)).map (·.1) := by simp [keysS, List.map_map, Function.comp_def]
      rw [e, e2, keys_putM]
      split
      · rename_i hh
        constructor
        · exact .inr
        · rintro (rfl | h')
          · exact List.mem_map.2 ⟨k, (hasM_iff S k).1 hh, rfl⟩
          · exact h'
      · rw [List.map_append, List.mem_append]
        simp only [List.map_cons, List.map_nil, List.mem_singleton]
        exact or_comm
    rw [hk, ← h.keys]
    constructor
    · intro hq
      obtain ⟨⟨q', z⟩, hm, rfl⟩ := List.mem_map.1 hq
      rcases (mem_outI hs k.1 y q' z).1 hm with ⟨h1, _⟩ | ⟨h1, _⟩
      · exact .inl h1
      · exact .inr (List.mem_map.2 ⟨_, h1, rfl⟩)
    · intro hq
      by_cases e : q = k.1
      · exact List.mem_map.2 ⟨(q, y), (mem_outI hs k.1 y q y).2 (.inl ⟨e, rfl⟩), rfl⟩
      · rcases hq with hq | hq
        · exact absurd hq e
        · obtain ⟨⟨q', z⟩, hm, rfl⟩ := List.mem_map.1 hq
          exact List.mem_map.2 ⟨(q', z), (mem_outI hs k.1 y q' z).2 (.inr ⟨hm, e⟩), rfl⟩
  · rw [find_putM] at hf
    split at hf
    · rename_i e
      injection hf with hf
      subst hf e
      exact ⟨y, (mem_outI hs _ y _ y).2 (.inl ⟨rfl, rfl⟩), hxy⟩
    · rename_i e
      obtain ⟨z, hz, hsame⟩ := h.vals k' x' hf
      exact ⟨z, (mem_outI hs k.1 y k'.1 z).2 (.inr ⟨hz, fun e' => e (Subtype.ext e')⟩), hsame⟩
end

section
set_option linter.unusedSimpArgs false
set_option linter.unusedVariables false
open Go.RowKit Go.Lib Go.Sort

theorem none_has2 {S : List (KO × Nd)} {k : KO} (h : findM S k = none) : hasM S k = false := by
  cases hh : hasM S k with
  | false => rfl
  | true => obtain ⟨v, hv, _⟩ := findM_some hh; rw [hv] at h; cases h
theorem Tells18.sortedI {S : List (KO × Nd)} {l : List It} (h : Tells18 S (l.map absI)) : (keysI l).Pairwise (fun a b => ltK a b = true) := by rw [← absI_keys]; exact h.sorted
theorem Tells18.has {S : List (KO × Nd)} {l : List It} (h : Tells18 S (l.map absI)) (k : KO) : hasM S k = hasI l k.1 := by
  rw [Bool.eq_iff_iff, hasI_iff h.sortedI, hasM_iff, ← absI_keys, h.keys]
  unfold keysS
  constructor
  · intro hk
    obtain ⟨p, hp, rfl⟩ := List.mem_map.1 hk
    exact List.mem_map.2 ⟨p, hp, rfl⟩
  · intro hk
    obtain ⟨p, hp, he⟩ := List.mem_map.1 hk
    exact List.mem_map.2 ⟨p, hp, Subtype.ext he⟩
theorem getL_mem {l : List It} {k : Ky} (h : hasI l k = true) : (k, (getL l k).nd) ∈ l.map absI := by
  obtain ⟨hl, hg⟩ := getL_has h
  unfold hasI at h
  rw [dif_pos hl] at h
  have hk := of_decide_eq_true h
  exact List.mem_map.2 ⟨l[atI l k], List.getElem_mem hl, by rw [hg, absI, hk]⟩
/-- What stands at a key is the same on both sides. -/
theorem Tells18.get {S : List (KO × Nd)} {l : List It} (h : Tells18 S (l.map absI)) (k : KO) : sameN (ndOf S k) (getL l k.1).nd := by
  unfold ndOf
  cases hf : findM S k with
  | none =>
    have hh := none_has2 hf
    rw [h.has k] at hh
    rw [getL_none hh]
    exact sameN.refl _
  | some x =>
    obtain ⟨y, hy, hs⟩ := h.vals k x hf
    have hh : hasI l k.1 = true := by rw [← h.has k]; exact find_has hf
    have := sorted_at_unique h.sorted hy (getL_mem hh)
    rw [← this]
    exact hs
theorem sameN.trim {x y : Nd} (h : sameN x y) (cut : Int) : sameN (trimN cut x) (trimR cut y) := by
  obtain ⟨h1, h2, h3, h4⟩ := h
  unfold trimN trimR
  rw [h1]
  split
  · exact ⟨h1, h2, h3, h4⟩
  · exact ⟨by simp, by simpa [bump] using h2, by simpa [bump] using h3, by simpa [bump] using h4⟩

/-- All is trimmed on both sides. -/
theorem Tells18.trim {S : List (KO × Nd)} {R : List (Ky × Nd)} (h : Tells18 S R) (cut : Int) {K : List Ky} (hK : ∀ q ∈ keysS S, q ∈ K) : Tells18 (trimK S cut K) (R.map fun p => (p.1, trimR cut p.2)) := by
  have hk : keysS (trimK S cut K) = keysS S := by
    unfold keysS trimK
    rw [List.map_map]
    rfl
  have hr : (R.map fun p => (p.1, trimR cut p.2)).map (·.1) = R.map (·.1) := by rw [List.map_map]; rfl
  refine ⟨by rw [trimK_keys]; exact h.nodup, by rw [hr]; exact h.sorted, fun q => by rw [hr, hk]; exact h.keys q, fun k x hf => ?_⟩
  rw [trimK_find] at hf
  obtain ⟨z, hz, rfl⟩ := Option.map_eq_some_iff.1 hf
  obtain ⟨y, hy, hs⟩ := h.vals k z hz
  have : k.1 ∈ K := hK _ (List.mem_map.2 ⟨_, find_mem hz, rfl⟩)
  rw [if_pos this]
  exact ⟨trimR cut y, List.mem_map.2 ⟨_, hy, rfl⟩, hs.trim cut⟩
/-- Freezing tells nothing. -/
theorem tells_frz {S : List (KO × Nd)} {R : List (Ky × Nd)} (h : Tells18 S R) (K : List Ky) : Tells18 (S.map fun p => (p.1, if p.1.1 ∈ K then frz p.2 else p.2)) R := by
  have e1 : (S.map fun p => (p.1, if p.1.1 ∈ K then frz p.2 else p.2)).map (·.1) = S.map (·.1) := by rw [List.map_map]; rfl
  have e2 : keysS (S.map fun p => (p.1, if p.1.1 ∈ K then frz p.2 else p.2)) = keysS S := by unfold keysS; rw [List.map_map]; rfl
  refine ⟨by rw [e1]; exact h.nodup, h.sorted, fun q => by rw [e2]; exact h.keys q, fun k x hf => ?_⟩
  rw [find_mapK (fun (k : KO) (x : Nd) => if k.1 ∈ K then frz x else x) S k] at hf
  obtain ⟨z, hz, rfl⟩ := Option.map_eq_some_iff.1 hf
  obtain ⟨y, hy, hs⟩ := h.vals k z hz
  refine ⟨y, hy, ?_⟩
  split
  · exact hs
  · exact hs
/-- What went, on both sides. -/
theorem tells_gone {S : List (KO × Nd)} {l : List It} (h : Tells18 S (l.map absI)) (cut : Int) : goneS S cut (risL (keysS S)) = goneI l cut ∧ manyS S cut (risL (keysS S)) = manyI l cut := by
  have hg : ∀ x ∈ l, goneK S cut x.key = placeS x.nd.smp cut := by
    intro x hx
    have hm : x.key ∈ keysS S := (h.keys x.key).1 (List.mem_map.2 ⟨absI x, List.mem_map.2 ⟨x, hx, rfl⟩, rfl⟩)
    obtain ⟨p, hp, he⟩ := List.mem_map.1 hm
    have hf := find_of_mem h.nodup (show (p.1, p.2) ∈ S from hp)
    obtain ⟨y, hy, hs⟩ := h.vals p.1 p.2 hf
    have := gone_find cut hf
    rw [he] at this hy
    rw [this, hs.1, sorted_at_unique h.sorted hy (List.mem_map.2 ⟨x, hx, rfl⟩ : (x.key, x.nd) ∈ l.map absI)]
  rw [h.risL, absI_keys]
  unfold goneS manyS goneI manyI keysI
  rw [List.map_map, List.countP_map]
  constructor
  · congr 1
    exact List.map_congr_left fun x hx => hg x hx
  · exact List.countP_congr fun x hx => by simp only [Function.comp, hg x hx]
end

section
set_option linter.unusedSimpArgs false
set_option linter.unusedVariables false
open Go.RowKit Go.Lib Go.Sort
open Go.ChangeMaps (setBlock)

def nptr (o : Option NE) : Option Addr := o.map fun b => ⟨b.1, 0, none⟩
theorem nptr_get (o : Option NE) : (o.map neV).getD (.pointer none) = .pointer (nptr o) := by cases o <;> rfl

set_option maxRecDepth 100000 in
set_option maxHeartbeats 4000000 in
theorem sget_any (T M : Nat) (c : Cfg) (ver : Nat) (es : List (KO × NE)) (rs rh : Nat) (k : KO) (w : World) (h : SAt w T M c ver es rs rh) :
    Calls Tryz.prog 105 #[.pointer (some ⟨T, 0, none⟩), .agg #[.int .u64 k.1.1, .int .u64 k.1.2]] w fun e w' => e = .returned (.pointer (nptr (findM es k))) ∧ Below w.heap.size w w' := by
  have H := Lib.hid h
  clear h
  go_enter Tryz.func105, Tryz.ntmps105
  go_wp2_with (first
    | (go_at_call 149
       refine calls_named ?_
       intro W1 hW1
       have hb1 : Below w.heap.size w W1 := by rw [hW1]; exact balloc (Below.refl _ _) _
       have hx1 : W1.heap[w.heap.size]? = some (.cells #[.int .u64 k.1.1, .int .u64 k.1.2] 74 (0, 0)) := by rw [hW1]; exact heap_alloc_new _ _
       clear hW1
       refine (smade_any T c ver es rs rh _ W1 ((H.out.below hb1).in_)).mono ?_
       rintro e w2 ⟨rfl, hb2⟩
       obtain ⟨a1, a2, a3⟩ := box_cells hb2 hx1
       have hb3 := bthen hb1 hb2
       have h3 := H.out.below hb3
       have s1 : ∀ W, Below w2.heap.size w2 W → W.cell? ⟨T, 0, none⟩ = some (.map (some M)) := h3.cells (j := 0) rfl
       have hlt1 := h3.ltT
       have r4 : ∀ n, (Instr.lookup 230 (.map (some M)) (.agg #[.int .u64 k.1.1, .int .u64 k.1.2]) false).run Tryz.prog (w2.drewN n) = .ok (.pointer (nptr (findM es k))) (w2.drewN n) := fun n => by
         have := look_es (h3.map.below (below_drewN (Below.refl _ _) n)) k false
         rw [nptr_get] at this
         exact this
       have HB3 := Lib.hid hb3
       clear hb1 hb2 hx1 hb3 h3))
  go_quiet (fail)
  go_wp2
  go_ret
  exact ⟨rfl, below_drewN HB3.out _⟩
end

end Go.Proofs.YtmniiodpbebnmaaGreat
