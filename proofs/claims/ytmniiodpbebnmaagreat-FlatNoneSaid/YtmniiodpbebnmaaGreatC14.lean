/- The plain law of a stripe: what it has, against the reference's items; The plain law of a stripe: has, get, trim, freeze; a stripe's Get and Version; a stripe's Set; Entries: a key, and its node's block; a stripe's Freeze, walked; chapter 18's do, on a live stripe; The plain law of a stripe: one act on both sides; A stripe's bounds go on; chapter 18's has: a node has just a load; chapter 18's told: a stripe has just these items; A stripe and the reference's items, side by side; Acts on a stripe as they come in; chapter 18's awake; The walk of StripePlays; Chapter 19's do and made. -/
import Derived.Test.YtmniiodpbebnmaaGreatC09
import Derived.Test.YtmniiodpbebnmaaGreatC13
import Derived.Deep.DeepCutAuto
import Derived.Test.YtmniiodpbebnmaaGreatC02
import Derived.Test.YtmniiodpbebnmaaGreatC11
namespace Go.Proofs.YtmniiodpbebnmaaGreat

section
set_option linter.unusedSimpArgs false
set_option linter.unusedVariables false
open Go.RowKit Go.Lib Go.Sort

/-- Two workloads that tell the same. -/
def sameN (x y : Nd) : Prop := x.smp = y.smp ∧ x.past = y.past ∧ x.pol = y.pol ∧ x.ruled = y.ruled
theorem sameN.refl (x : Nd) : sameN x x := ⟨rfl, rfl, rfl, rfl⟩
def keysI (l : List It) : List Ky := l.map (·.key)
def keysS (S : List (KO × Nd)) : List Ky := S.map (·.1.1)
/-- The stripe's workloads are the items, in order. -/
structure Tells18 (S : List (KO × Nd)) (R : List (Ky × Nd)) : Prop where
  nodup : (S.map (·.1)).Nodup
  sorted : (R.map (·.1)).Pairwise (fun a b => ltK a b = true)
  keys : ∀ q, q ∈ R.map (·.1) ↔ q ∈ keysS S
  vals : ∀ k x, findM S k = some x → ∃ y, (k.1, y) ∈ R ∧ sameN x y

theorem Tells18.nil : Tells18 [] [] := ⟨List.nodup_nil, List.Pairwise.nil, fun q => by simp [keysS], fun k x h => by simp [findM] at h⟩
theorem Tells18.risL {S : List (KO × Nd)} {R : List (Ky × Nd)} (h : Tells18 S R) : risL (keysS S) = R.map (·.1) :=
  pair_unique (risL_pair _) h.sorted (fun q => by rw [mem_risL, h.keys])
theorem keysS_nodup {S : List (KO × Nd)} (h : (S.map (·.1)).Nodup) : (keysS S).Nodup := by
  have := kys_nodup h
  simpa [kys, keysS, List.map_map, Function.comp_def] using this
theorem Tells18.len {S : List (KO × Nd)} {R : List (Ky × Nd)} (h : Tells18 S R) : S.length = R.length := by
  have h1 := congrArg List.length h.risL
  rw [risL_length (keysS_nodup h.nodup)] at h1
  simpa [keysS] using h1
theorem sorted_at_unique {R : List (Ky × Nd)} (hs : (R.map (·.1)).Pairwise (fun a b => ltK a b = true)) {q : Ky} {y z : Nd} (hy : (q, y) ∈ R) (hz : (q, z) ∈ R) : y = z := by
  induction R with
  | nil => cases hy
  | cons a R ih =>
    rw [List.map_cons, List.pairwise_cons] at hs
    rcases List.mem_cons.1 hy with hy | hy
    · rcases List.mem_cons.1 hz with hz | hz
      · rw [← hy] at hz; injection hz with _ hz; exact hz.symm
      · have := hs.1 q (List.mem_map.2 ⟨_, hz, rfl⟩)
        rw [← hy] at this
        exact absurd this (by rw [ltK_irrefl q]; simp)
    · rcases List.mem_cons.1 hz with hz | hz
      · have := hs.1 q (List.mem_map.2 ⟨_, hy, rfl⟩)
        rw [← hz] at this
        exact absurd this (by rw [ltK_irrefl q]; simp)
      · exact ih hs.2 hy hz

theorem key_at {l : List It} {i : Nat} (h : i < l.length) : (keysI l)[i]? = some l[i].key := by simp [keysI, h]
theorem sorted_get {l : List It} (hs : (keysI l).Pairwise (fun a b => ltK a b = true)) {i j : Nat} (hj : j < l.length) (hij : i < j) : ltK (l[i]'(by omega)).key l[j].key = true := by
  have := (List.pairwise_iff_getElem.1 hs) i j (by simp [keysI]; omega) (by simp [keysI]; omega) hij
  simpa [keysI] using this
theorem hasI_iff {l : List It} (hs : (keysI l).Pairwise (fun a b => ltK a b = true)) (k : Ky) : hasI l k = true ↔ k ∈ keysI l := by
  constructor
  · intro h
    unfold hasI at h
    split at h
    · rename_i hl
      rw [← of_decide_eq_true h]
      exact List.mem_map.2 ⟨_, List.getElem_mem hl, rfl⟩
    · cases h
  · intro h
    obtain ⟨x, hx, hk⟩ := List.mem_map.1 h
    obtain ⟨i, hi, rfl⟩ := List.getElem_of_mem hx
    have h1 : atI l k ≤ i := by
      rcases Nat.lt_or_ge i (atI l k) with h' | h'
      · have := atI_lt hi h'
        rw [hk, ltK_irrefl] at this
        cases this
      · exact h'
    have h2 : atI l k = i := by
      rcases Nat.lt_or_ge (atI l k) i with h' | h'
      · have h3 := sorted_get hs hi h'
        rw [hk] at h3
        rw [atI_ge (by omega)] at h3
        cases h3
      · omega
    unfold hasI
    rw [dif_pos (by omega)]
    simp only [h2, hk, decide_true]
/-- What stands behind the place is above the key. -/
theorem above_at {l : List It} (hs : (keysI l).Pairwise (fun a b => ltK a b = true)) {k : Ky} {j : Nat} (hj : j < l.length) (h : (if hasI l k = true then atI l k + 1 else atI l k) ≤ j) : ltK k l[j].key = true := by
  cases hh : hasI l k with
  | true =>
    rw [hh, if_pos rfl] at h
    have h1 : ∃ hl : atI l k < l.length, l[atI l k].key = k := by
      unfold hasI at hh
      split at hh
      · rename_i hl
        exact ⟨hl, of_decide_eq_true hh⟩
      · cases hh
    obtain ⟨hl, hk⟩ := h1
    have := sorted_get hs hj (show atI l k < j by omega)
    rw [hk] at this
    exact this
  | false =>
    rw [hh, if_neg (by simp)] at h
    have hne : l[j].key ≠ k := fun e => by
      have := (hasI_iff hs k).2 (List.mem_map.2 ⟨_, List.getElem_mem hj, e⟩)
      rw [hh] at this
      cases this
    have hn : ltK l[j].key k = false := by
      have h0 := atI_ge (l := l) (k := k) (by omega)
      cases hx : ltK l[j].key k with
      | false => rfl
      | true =>
        rcases Nat.lt_or_ge (atI l k) j with h' | h'
        · rw [ltK_trans (sorted_get hs hj h') hx] at h0
          cases h0
        · have : atI l k = j := by omega
          simp only [this] at h0
          rw [h0] at hx
          cases hx
    cases hx : ltK k l[j].key with
    | true => rfl
    | false => exact absurd (ltK_total hn hx) hne
theorem mem_outI {l : List It} (hs : (keysI l).Pairwise (fun a b => ltK a b = true)) (k : Ky) (y : Nd) (q : Ky) (z : Nd) : (q, z) ∈ outI l k y ↔ (q = k ∧ z = y) ∨ ((q, z) ∈ l.map absI ∧ q ≠ k) := by
  unfold outI
  rw [List.mem_append, List.mem_append, List.mem_singleton]
  constructor
  · rintro ((h | h) | h)
    · obtain ⟨i, hi⟩ := List.getElem?_of_mem h
      rw [List.getElem?_take] at hi
      split at hi
      · rename_i hlt
        obtain ⟨hil, he⟩ := List.getElem?_eq_some_iff.1 hi
        simp only [List.length_map] at hil
        simp only [List.getElem_map, absI, Prod.mk.injEq] at he
        refine .inr ⟨List.mem_of_mem_take h, fun e => ?_⟩
        have := atI_lt hil hlt
        rw [he.1, e, ltK_irrefl] at this
        cases this
      · cases hi
    · injection h with h1 h2
      exact .inl ⟨h1, h2⟩
    · obtain ⟨i, hi⟩ := List.getElem?_of_mem h
      rw [List.getElem?_drop] at hi
      obtain ⟨hil, he⟩ := List.getElem?_eq_some_iff.1 hi
      simp only [List.length_map] at hil
      simp only [List.getElem_map, absI, Prod.mk.injEq] at he
      refine .inr ⟨List.mem_of_mem_drop h, fun e => ?_⟩
      have := above_at hs hil (Nat.le_add_right _ i)
      rw [he.1, e, ltK_irrefl] at this
      cases this
  · rintro (⟨rfl, rfl⟩ | ⟨h, hq⟩)
    · exact .inl (.inr rfl)
    · obtain ⟨x, hx, he⟩ := List.mem_map.1 h
      obtain ⟨i, hi, rfl⟩ := List.getElem_of_mem hx
      simp only [absI, Prod.mk.injEq] at he
      by_cases h1 : i < atI l k
      · refine .inl (.inl ?_)
        refine List.mem_of_getElem? (i := i) ?_
        rw [List.getElem?_take, if_pos h1]
        simp [hi, absI, he]
      · by_cases h2 : (if hasI l k = true then atI l k + 1 else atI l k) ≤ i
        · refine .inr ?_
          refine List.mem_of_getElem? (i := i - (if hasI l k = true then atI l k + 1 else atI l k)) ?_
          rw [List.getElem?_drop, Nat.add_sub_cancel' h2]
          simp [hi, absI, he]
        · exfalso
          split at h2
          · rename_i hh
            have h3 : i = atI l k := by omega
            subst h3
            obtain ⟨hl, hg⟩ := getL_has hh
            unfold hasI at hh
            rw [dif_pos hl] at hh
            exact hq (he.1.symm.trans (of_decide_eq_true hh))
          · omega
theorem outI_sorted {l : List It} (hs : (keysI l).Pairwise (fun a b => ltK a b = true)) (k : Ky) (y : Nd) : ((outI l k y).map (·.1)).Pairwise (fun a b => ltK a b = true) := by
  unfold outI
  simp only [List.map_append, List.map_cons, List.map_nil, List.map_take, List.map_drop, List.map_map]
  have e : (Prod.fst ∘ absI : It → Ky) = (·.key) := rfl
  rw [show List.map ((fun x : Ky × Nd => x.1) ∘ absI) l = keysI l from rfl]
  have hlow : ∀ q ∈ (keysI l).take (atI l k), ltK q k = true := fun q hq => by
    obtain ⟨i, hi⟩ := List.getElem?_of_mem hq
    rw [List.getElem?_take] at hi
    split at hi
    · rename_i hlt
      have hil : i < l.length := by have := (List.getElem?_eq_some_iff.1 hi).1; simpa [keysI] using this
      rw [key_at hil] at hi
      injection hi with hi
      rw [← hi]
      exact atI_lt hil hlt
    · cases hi
  have hhigh : ∀ q ∈ (keysI l).drop (if hasI l k = true then atI l k + 1 else atI l k), ltK k q = true := fun q hq => by
    obtain ⟨i, hi⟩ := List.getElem?_of_mem hq
    rw [List.getElem?_drop] at hi
    have hil : (if hasI l k = true then atI l k + 1 else atI l k) + i < l.length := by have := (List.getElem?_eq_some_iff.1 hi).1; simpa [keysI] using this
    rw [key_at hil] at hi
    injection hi with hi
    rw [← hi]
    exact above_at hs hil (Nat.le_add_right _ i)
  rw [List.pairwise_append, List.pairwise_append]
  refine ⟨⟨hs.sublist (List.take_sublist _ _), List.pairwise_singleton _ _, fun a ha b hb => ?_⟩, hs.sublist (List.drop_sublist _ _), fun a ha b hb => ?_⟩
  · rw [List.mem_singleton.1 hb]; exact hlow a ha
  · rcases List.mem_append.1 ha with ha | ha
    · exact ltK_trans (hlow a ha) (hhigh b hb)
    · rw [List.mem_singleton.1 ha]; exact hhigh b hb
theorem absI_keys (l : List It) : (l.map absI).map (·.1) = keysI l := by simp [keysI, absI, List.map_map, Function.comp_def]

/-- A key's workload is kept on both sides. -/
theorem Tells18.put {S : List (KO × Nd)} {l : List It} (h : Tells18 S (l.map absI)) (k : KO) {x y : Nd} (hxy : sameN x y) : Tells18 (putM S k x) (outI l k.1 y) := by
  have hs : (keysI l).Pairwise (fun a b => ltK a b = true) := by rw [← absI_keys]; exact h.sorted
  refine ⟨nodup_putM h.nodup k x, outI_sorted hs k.1 y, fun q => ?_, fun k' x' hf => ?_⟩
  · have hk : q ∈ keysS (putM S k x) ↔ q = k.1 ∨ q ∈ keysS S := by
      have e : keysS (putM S k x) = ((putM S k x).map (·.1)).map (·.1) := by simp [keysS, List.map_map, Function.comp_def]
      have e2 : keysS S = (S.map (·.1)).map (·.1) := by simp [keysS, List.map_map, Function.comp_def]
      rw [e, e2, keys_putM]
      split
      · rename_i hh
        constructor
        · exact .inr
        · rintro (rfl | h')
          · exact List.mem_map.2 ⟨k, (hasM_iff S k).1 hh, rfl⟩
          · exact h'
      · rw [List.map_append, List.mem_append]
        simp only [List.map_cons, List.map_nil, List.mem_singleton]
        exact or_comm
    rw [hk, ← h.keys]
    constructor
    · intro hq
      obtain ⟨⟨q', z⟩, hm, rfl⟩ := List.mem_map.1 hq
      rcases (mem_outI hs k.1 y q' z).1 hm with ⟨h1, _⟩ | ⟨h1, _⟩
      · exact .inl h1
      · exact .inr (List.mem_map.2 ⟨_, h1, rfl⟩)
    · intro hq
      by_cases e : q = k.1
      · exact List.mem_map.2 ⟨(q, y), (mem_outI hs k.1 y q y).2 (.inl ⟨e, rfl⟩), rfl⟩
      · rcases hq with hq | hq
        · exact absurd hq e
        · obtain ⟨⟨q', z⟩, hm, rfl⟩ := List.mem_map.1 hq
          exact List.mem_map.2 ⟨(q', z), (mem_outI hs k.1 y q' z).2 (.inr ⟨hm, e⟩), rfl⟩
  · rw [find_putM] at hf
    split at hf
    · rename_i e
      injection hf with hf
      subst hf e
      exact ⟨y, (mem_outI hs _ y _ y).2 (.inl ⟨rfl, rfl⟩), hxy⟩
    · rename_i e
      obtain ⟨z, hz, hsame⟩ := h.vals k' x' hf
      exact ⟨z, (mem_outI hs k.1 y k'.1 z).2 (.inr ⟨hz, fun e' => e (Subtype.ext e')⟩), hsame⟩
end

section
set_option linter.unusedSimpArgs false
set_option linter.unusedVariables false
open Go.RowKit Go.Lib Go.Sort

theorem none_has2 {S : List (KO × Nd)} {k : KO} (h : findM S k = none) : hasM S k = false := by
  cases hh : hasM S k with
  | false => rfl
  | true => obtain ⟨v, hv, _⟩ := findM_some hh; rw [hv] at h; cases h
theorem Tells18.sortedI {S : List (KO × Nd)} {l : List It} (h : Tells18 S (l.map absI)) : (keysI l).Pairwise (fun a b => ltK a b = true) := by rw [← absI_keys]; exact h.sorted
theorem Tells18.has {S : List (KO × Nd)} {l : List It} (h : Tells18 S (l.map absI)) (k : KO) : hasM S k = hasI l k.1 := by
  rw [Bool.eq_iff_iff, hasI_iff h.sortedI, hasM_iff, ← absI_keys, h.keys]
  unfold keysS
  constructor
  · intro hk
    obtain ⟨p, hp, rfl⟩ := List.mem_map.1 hk
    exact List.mem_map.2 ⟨p, hp, rfl⟩
  · intro hk
    obtain ⟨p, hp, he⟩ := List.mem_map.1 hk
    exact List.mem_map.2 ⟨p, hp, Subtype.ext he⟩
theorem getL_mem {l : List It} {k : Ky} (h : hasI l k = true) : (k, (getL l k).nd) ∈ l.map absI := by
  obtain ⟨hl, hg⟩ := getL_has h
  unfold hasI at h
  rw [dif_pos hl] at h
  have hk := of_decide_eq_true h
  exact List.mem_map.2 ⟨l[atI l k], List.getElem_mem hl, by rw [hg, absI, hk]⟩
/-- What stands at a key is the same on both sides. -/
theorem Tells18.get {S : List (KO × Nd)} {l : List It} (h : Tells18 S (l.map absI)) (k : KO) : sameN (ndOf S k) (getL l k.1).nd := by
  unfold ndOf
  cases hf : findM S k with
  | none =>
    have hh := none_has2 hf
    rw [h.has k] at hh
    rw [getL_none hh]
    exact sameN.refl _
  | some x =>
    obtain ⟨y, hy, hs⟩ := h.vals k x hf
    have hh : hasI l k.1 = true := by rw [← h.has k]; exact find_has hf
    have := sorted_at_unique h.sorted hy (getL_mem hh)
    rw [← this]
    exact hs
theorem sameN.trim {x y : Nd} (h : sameN x y) (cut : Int) : sameN (trimN cut x) (trimR cut y) := by
  obtain ⟨h1, h2, h3, h4⟩ := h
  unfold trimN trimR
  rw [h1]
  split
  · exact ⟨h1, h2, h3, h4⟩
  · exact ⟨by simp, by simpa [bump] using h2, by simpa [bump] using h3, by simpa [bump] using h4⟩

/-- All is trimmed on both sides. -/
theorem Tells18.trim {S : List (KO × Nd)} {R : List (Ky × Nd)} (h : Tells18 S R) (cut : Int) {K : List Ky} (hK : ∀ q ∈ keysS S, q ∈ K) : Tells18 (trimK S cut K) (R.map fun p => (p.1, trimR cut p.2)) := by
  have hk : keysS (trimK S cut K) = keysS S := by
    unfold keysS trimK
    rw [List.map_map]
    rfl
  have hr : (R.map fun p => (p.1, trimR cut p.2)).map (·.1) = R.map (·.1) := by rw [List.map_map]; rfl
  refine ⟨by rw [trimK_keys]; exact h.nodup, by rw [hr]; exact h.sorted, fun q => by rw [hr, hk]; exact h.keys q, fun k x hf => ?_⟩
  rw [trimK_find] at hf
  obtain ⟨z, hz, rfl⟩ := Option.map_eq_some_iff.1 hf
  obtain ⟨y, hy, hs⟩ := h.vals k z hz
  have : k.1 ∈ K := hK _ (List.mem_map.2 ⟨_, find_mem hz, rfl⟩)
  rw [if_pos this]
  exact ⟨trimR cut y, List.mem_map.2 ⟨_, hy, rfl⟩, hs.trim cut⟩
end

section
set_option linter.unusedSimpArgs false
set_option linter.unusedVariables false
open Go.RowKit Go.Lib Go.Sort
open Go.ChangeMaps (setBlock)
end

section
set_option linter.unusedSimpArgs false
set_option linter.unusedVariables false
open Go.RowKit Go.Lib Go.Sort
open Go.ChangeMaps (setBlock)
end

section
set_option linter.unusedSimpArgs false
set_option linter.unusedVariables false
open Go.RowKit Go.Lib

/-- An entry: a key, a node's block. -/
abbrev En := Ky × Nat
def enC (x : En) : List Value := [.int .u64 x.1.1, .int .u64 x.1.2, .pointer (some ⟨x.2, 0, none⟩)]
end

section
set_option linter.unusedSimpArgs false
set_option linter.unusedVariables false
open Go.RowKit Go.Lib Go.Sort
open Go.ChangeMaps (setBlock)

/-- The block of a key's node. -/
def blkOf (es : List (KO × NE)) (q : Ky) : Nat := ((es.find? (fun p => p.1.1 = q)).map (fun p => p.2.1)).getD 0
end

section
set_option linter.unusedSimpArgs false
set_option linter.unusedVariables false
open Go.RowKit Go.Lib Go.Sort

structure DoR where
  err : Int
  gone : Nat
  ver : Nat
  has : List (KO × Nd)
theorem Old.frz (n : Nat) (es : List (KO × NE)) (K : List Ky) : Old n es (frzE es K) := fun p hp r hr => by
  obtain ⟨q, hq, rfl⟩ := frzE_mem hp
  exact .inr ⟨q, hq, hr⟩
/-- What a stripe must be that acts are done to it. -/
structure SOk (c : Cfg) (rs rh ver : Nat) (S : List (KO × Nd)) : Prop where
  cfg : cfgB c = true
  sa : c.sa = (rs : Nat)
  hi : c.hi = (rh : Nat)
  ok : c.ok
  len : S.length ≤ 1000
  ver_ : ver ≤ 900000
  vers : ∀ p ∈ S, p.2.ver ≤ 1000000
theorem SOk.room {c : Cfg} {rs rh ver : Nat} {S : List (KO × Nd)} (h : SOk c rs rh ver S) : rs ≤ 256 ∧ rh ≤ 64 := by
  have hc := h.cfg
  have h1 := h.sa
  have h2 := h.hi
  unfold cfgB at hc
  simp only [Bool.and_eq_true, decide_eq_true_eq] at hc
  omega
end

section
set_option linter.unusedSimpArgs false
set_option linter.unusedVariables false
open Go.RowKit Go.Lib Go.Sort

/-- What the reference's Do comes to: the items, an error, a number, the version's rise. -/
def do18 (c : Cfg) (rs rh : Nat) (l : List It) (k : Ky) (a : Act17) : List (Ky × Nd) × Int × Int × Int :=
  if a.kind = 1 then (l.map fun x => (x.key, trimR a.smp.1 x.nd), 0, (goneI l a.smp.1 : Nat), (manyI l a.smp.1 : Nat))
  else if a.kind < 0 ∨ 3 < a.kind then (l.map absI, 0, 0, 0)
  else ((one18 c rs rh l k a).1, (one18 c rs rh l k a).2.1, 0, (one18 c rs rh l k a).2.2)

/-- What the two sides' answers to an act are. -/
def Same18 (ver : Nat) (r : DoR) (t : List (Ky × Nd) × Int × Int × Int) : Prop :=
  Tells18 r.has t.1 ∧ r.err = t.2.1 ∧ ((r.gone : Nat) : Int) = t.2.2.1 ∧ ((r.ver : Nat) : Int) = (ver : Int) + t.2.2.2
end

section
set_option linter.unusedSimpArgs false
set_option linter.unusedVariables false
open Go.RowKit Go.Lib Go.Sort

/-- Behind so many acts: few workloads, few changes of each. -/
structure Grown (n : Nat) (ver : Nat) (S : List (KO × Nd)) : Prop where
  len : S.length ≤ n
  vers : ∀ p ∈ S, p.2.ver ≤ n
theorem Grown.more {n ver ver' : Nat} {S : List (KO × Nd)} (h : Grown n ver S) : Grown (n + 1) ver' S := ⟨Nat.le_succ_of_le h.len, fun p hp => Nat.le_succ_of_le (h.vers p hp)⟩
theorem sameN.ok {rs rh : Nat} {x y : Nd} (h : sameN x y) (hx : NdOk rs rh x) : NdOk rs rh y := ⟨by rw [← h.1]; exact hx.ris, by rw [← h.1]; exact hx.len, by rw [← h.2.1]; exact hx.past⟩
end

section
set_option linter.unusedSimpArgs false
set_option linter.unusedVariables false
open Go.RowKit Go.Lib Go.Sort
end

section
set_option linter.unusedSimpArgs false
set_option linter.unusedVariables false
open Go.RowKit Go.Lib Go.Sort
end

section
set_option linter.unusedSimpArgs false
set_option linter.unusedVariables false
open Go.RowKit Go.Lib Go.Sort

theorem NodeIn.ok {w : World} {N : Nat} {x : Nd} {rs rh : Nat} {fp : List Nat} (h : NodeIn w N x rs rh fp) : NdOk rs rh x := by
  obtain ⟨S, fs, H, fh, h1, h2, h3, h4, h5, h6, rfl, h7, h8⟩ := h
  exact ⟨h7, h8, h3.len⟩
structure CfgOk (c : Cfg) (rs rh : Nat) : Prop where
  cfg : cfgB c = true
  sa : c.sa = (rs : Nat)
  hi : c.hi = (rh : Nat)
  ok : c.ok
theorem CfgOk.room {c : Cfg} {rs rh : Nat} (h : CfgOk c rs rh) : RoomOk c rs rh := by
  have hc := h.cfg
  have h1 := h.sa
  have h2 := h.hi
  unfold cfgB at hc
  simp only [Bool.and_eq_true, decide_eq_true_eq] at hc
  exact ⟨h1, h2, by omega, by omega, by omega, by omega⟩

/-- Behind n acts: the stripe, and the reference's items, whose blocks the stripe does not turn. -/
structure Play (w0 W : World) (T M : Nat) (c : Cfg) (rs rh n ver : Nat) (es : List (KO × NE)) (v : Value) (l : List It) : Prop where
  at_ : SAt W T M c ver es rs rh
  items : ItemsIn (fun b => b ∉ sfp T M es ∧ w0.heap.size ≤ b) W v l
  tells : Tells18 (ab es) (l.map absI)
  base : Below w0.heap.size w0 W
  above : ∀ r ∈ sfp T M es, w0.heap.size ≤ r
  fresh : ∀ p ∈ es, ∀ r ∈ p.2.2.2, w0.heap.size ≤ r
  grown : Grown n ver (ab es)
  vers : ∀ x ∈ l, x.nd.ver ≤ n
  ver_ : ver ≤ 1000 * n
  room : (l.length : Nat) ≤ c.lo
theorem Play.below {w0 W W' : World} {T M : Nat} {c : Cfg} {rs rh n ver : Nat} {es : List (KO × NE)} {v : Value} {l : List It} (h : Play w0 W T M c rs rh n ver es v l) (hb : Below W.heap.size W W') : Play w0 W' T M c rs rh n ver es v l :=
  ⟨h.at_.below hb, h.items.below hb, h.tells, bthen h.base hb, h.above, h.fresh, h.grown, h.vers, h.ver_, h.room⟩
theorem Play.len {w0 W : World} {T M : Nat} {c : Cfg} {rs rh n ver : Nat} {es : List (KO × NE)} {v : Value} {l : List It} (h : Play w0 W T M c rs rh n ver es v l) : es.length = l.length ∧ l.length ≤ n := by
  have h1 := h.tells.len
  have h2 := h.grown.len
  rw [ab_len] at h1 h2
  have h3 : es.length = l.length := by simpa using h1
  exact ⟨h3, by omega⟩
/-- A row that the stripe's turn leaves. -/
theorem RowG.turn {α : Type} {n : Nat} {f : α → List Value} {W w1 : World} {v : Value} {l : List α} {fp fp' : List Nat} (h : RowG (fun b => b ∉ fp) n f W v l) (hu : Upd W w1 fp fp') : RowG (fun b => b ∉ fp') n f w1 v l :=
  (h.old.imp (Q := fun b => b ∉ fp' ∧ b ∉ fp) (fun b hb => ⟨fun hq => (hu.fresh b hq).elim hb.1 (fun h' => by omega), hb.1⟩)).keepP hu.size (fun b hb hlt => hu.block b hlt hb.2) |>.imp (fun b hb => hb.1)
theorem ItemsIn.turn {W w1 : World} {v : Value} {l : List It} {fp fp' : List Nat} (h : ItemsIn (fun b => b ∉ fp) W v l) (hu : Upd W w1 fp fp') : ItemsIn (fun b => b ∉ fp') w1 v l :=
  ⟨h.1.turn hu, fun x hx => ⟨(h.2 x hx).1.turn hu, (h.2 x hx).2.turn hu⟩⟩

/-- Between the act on the stripe and the reference's. -/
structure Half (w0 W : World) (T M : Nat) (c : Cfg) (rs rh n ver : Nat) (k : KO) (a : Act17) (R : DoR) (es : List (KO × NE)) (v : Value) (l : List It) : Prop where
  at_ : SAt W T M c R.ver es rs rh
  has : ab es = R.has
  items : ItemsIn (fun b => b ∉ sfp T M es ∧ w0.heap.size ≤ b) W v l
  same : Same18 ver R (do18 c rs rh l k.1 a)
  base : Below w0.heap.size w0 W
  above : ∀ r ∈ sfp T M es, w0.heap.size ≤ r
  fresh : ∀ p ∈ es, ∀ r ∈ p.2.2.2, w0.heap.size ≤ r
  grown : Grown (n + 1) R.ver (ab es)
  vers : ∀ x ∈ l, x.nd.ver ≤ n
  ver_ : R.ver ≤ 1000 * (n + 1)
  oks : ∀ x ∈ l, NdOk rs rh x.nd ∧ x.key.ok
  len : l.length ≤ n
  room : (l.length : Nat) ≤ c.lo
theorem Half.below {w0 W W' : World} {T M : Nat} {c : Cfg} {rs rh n ver : Nat} {k : KO} {a : Act17} {R : DoR} {es : List (KO × NE)} {v : Value} {l : List It} (h : Half w0 W T M c rs rh n ver k a R es v l) (hb : Below W.heap.size W W') : Half w0 W' T M c rs rh n ver k a R es v l :=
  ⟨h.at_.below hb, h.has, h.items.below hb, h.same, bthen h.base hb, h.above, h.fresh, h.grown, h.vers, h.ver_, h.oks, h.len, h.room⟩
end

section
set_option linter.unusedSimpArgs false
set_option linter.unusedVariables false
open Go.RowKit Go.Lib Go.ChangeShapes Go.WideShapes Go.Joins

section
variable {H : Type} {enc : TypeId × Value → H} {w : World} {base : Nat} {spare : Nat → Bool} {held : Bool}

end
end

section
set_option linter.unusedSimpArgs false
set_option linter.unusedVariables false
open Go.RowKit Go.Lib Go.Sort
open Go.ChangeMaps (setBlock)
end

section
set_option linter.unusedSimpArgs false
set_option linter.unusedVariables false
open Go.RowKit Go.Lib Go.Sort
end

section
set_option linter.unusedSimpArgs false
set_option linter.unusedVariables false
open Go.RowKit Go.Lib Go.Sort
end

end Go.Proofs.YtmniiodpbebnmaaGreat
