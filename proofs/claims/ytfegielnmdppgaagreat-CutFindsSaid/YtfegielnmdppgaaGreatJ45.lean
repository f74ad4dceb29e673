/- Two stripes in one memory: what one's Freeze leaves of the other; what Freeze gives; flywheelref19.Keys: the keys of parts, rising; The plain law of CutDiffers; What was frozen, and the reference's items, while the stripe goes on; Frozen nodes, the items that they are, and cuts of them, where nothing turns; Chapter 19's awake: a cut of nothing. -/
import Derived.Test.YtfegielnmdppgaaGreatJ36
import Derived.Test.YtfegielnmdppgaaGreatJ44
import Derived.Test.YtfegielnmdppgaaGreatJ31
import Derived.Test.YtfegielnmdppgaaGreatJ18
import Derived.Test.YtfegielnmdppgaaGreatJ35
import Derived.Test.YtfegielnmdppgaaGreatJ33
namespace Go.Proofs.YtfegielnmdppgaaGreat

section
set_option linter.unusedSimpArgs false
set_option linter.unusedVariables false
open Go.RowKit Go.Lib Go.Sort

/-- A world of which only the old blocks are left. -/
def cutW (w : World) (n : Nat) : World := { w with heap := w.heap.extract 0 n }
theorem cutW_below {w : World} {n : Nat} (hn : n ≤ w.heap.size) : (cutW w n).heap.size = n ∧ Below (cutW w n).heap.size (cutW w n) w := by
  have e : (cutW w n).heap.size = n := by simp [cutW]; omega
  refine ⟨e, ⟨rfl, rfl, rfl, by rw [e]; exact hn, fun k hk => ?_⟩⟩
  rw [e] at hk
  simp only [cutW]
  rw [Array.getElem?_extract]
  simp
  omega
/-- What lies above a bound is left by a turn of what lies below it. -/
theorem Play.turn {w0 W w1 : World} {T M : Nat} {c : Cfg} {rs rh n ver : Nat} {es : List (KO × NE)} {v : Value} {l : List It} (h : Play w0 W T M c rs rh n ver es v l) {fp fp' : List Nat} (hu : Upd W w1 fp fp') (hfp : ∀ r ∈ fp, r < w0.heap.size) :
    ∃ w2, w2.heap.size = w0.heap.size ∧ Play w2 w1 T M c rs rh n ver es v l := by
  have hk : ∀ r, w0.heap.size ≤ r → r < W.heap.size → w1.heap[r]? = W.heap[r]? := fun r h1 h2 => hu.block r h2 (fun hm => by have := hfp r hm; omega)
  obtain ⟨e, hb⟩ := cutW_below (w := w1) (n := w0.heap.size) (Nat.le_trans h.base.size hu.size)
  have hT : w0.heap.size ≤ T := h.above T (by simp [sfp])
  have hM : w0.heap.size ≤ M := h.above M (by simp [sfp])
  refine ⟨cutW w1 w0.heap.size, e, ⟨⟨(hk T hT h.at_.ltT).trans h.at_.cell, h.at_.map.block (hk M hM h.at_.map.lt), fun p hp => (h.at_.node p hp).kept (fun r hr => hk r (h.fresh p hp r hr) ((h.at_.node p hp).lt r hr)), h.at_.pair, h.at_.off, h.at_.ne⟩, ?_, h.tells, hb, ?_, ?_, h.grown, h.vers, h.ver_, h.room⟩⟩
  · rw [e]
    exact ⟨h.items.1.keepP hu.size (fun b hb hlt => hk b hb.2 hlt), fun x hx => ⟨(h.items.2 x hx).1.keepP hu.size (fun b hb hlt => hk b hb.2 hlt), (h.items.2 x hx).2.keepP hu.size (fun b hb hlt => hk b hb.2 hlt)⟩⟩
  · rw [e]; exact h.above
  · rw [e]; exact h.fresh

/-- What Freeze gives: an entry for each key, the node frozen. -/
def frL (es : List (KO × NE)) (l : List It) : List En := (keysI l).map fun q => (q, blkOf es q)
def ndF (es : List (KO × NE)) (x : En) : Nd := ((es.find? (fun p => p.1.1 = x.1)).map (fun p => frz p.2.2.1)).getD nd0
theorem frL_len (es : List (KO × NE)) (l : List It) : (frL es l).length = l.length := by simp [frL, keysI]
theorem blk_at {es : List (KO × NE)} {q : Ky} (h : q ∈ kyN es) : ∃ p ∈ es, p.1.1 = q ∧ es.find? (fun p => p.1.1 = q) = some p := by
  obtain ⟨p, hp, rfl⟩ := List.mem_map.1 h
  cases hf : es.find? (fun x => x.1.1 = p.1.1) with
  | none => exact absurd (List.find?_eq_none.1 hf p hp) (by simp)
  | some r => exact ⟨r, List.mem_of_find?_eq_some hf, by simpa using List.find?_some hf, rfl⟩
theorem frL_find {es : List (KO × NE)} {l : List It} (ht : Tells18 (ab es) (l.map absI)) (k : Ky) : findE (frL es l) k = if hasI l k = true then some (blkOf es k) else none := by
  have hs := ht.sortedI
  unfold findE frL
  by_cases h : hasI l k = true
  · rw [if_pos h]
    have hm := (hasI_iff hs k).1 h
    cases hf : ((keysI l).map fun q => (q, blkOf es q)).find? (fun x => decide (x.1 = k)) with
    | none =>
      have := List.find?_eq_none.1 hf (k, blkOf es k) (List.mem_map.2 ⟨k, hm, rfl⟩)
      simp at this
    | some r =>
      have h1 := List.mem_of_find?_eq_some hf
      have h2 := List.find?_some hf
      obtain ⟨q, _, rfl⟩ := List.mem_map.1 h1
      simp at h2
      subst h2
      rfl
  · rw [if_neg h]
    have hm : k ∉ keysI l := fun hm => h ((hasI_iff hs k).2 hm)
    rw [List.find?_eq_none.2]
    · rfl
    · intro x hx
      obtain ⟨q, hq, rfl⟩ := List.mem_map.1 hx
      simp
      rintro rfl
      exact hm hq
end

section
set_option linter.unusedSimpArgs false
set_option linter.unusedVariables false
open Go.RowKit Go.Lib Go.Sort
end

section
set_option linter.unusedSimpArgs false
set_option linter.unusedVariables false
open Go.RowKit Go.Lib Go.Sort

theorem ndF_same {es : List (KO × NE)} {l : List It} (ht : Tells18 (ab es) (l.map absI)) {k : Ky} (hk : hasI l k = true) (n : Nat) : sameN (ndF es (k, n)) (getL l k).nd := by
  have hm : k ∈ kyN es := by
    have h1 := (hasI_iff ht.sortedI k).1 hk
    rw [← absI_keys] at h1
    rw [kyN_keysS]
    exact (ht.keys k).1 h1
  obtain ⟨p, hp, rfl, hf⟩ := blk_at hm
  have hfm : findM es p.1 = some p.2 := by
    unfold findM
    have e : (fun q : KO × NE => decide (q.1 = p.1)) = (fun q : KO × NE => decide (q.1.1 = p.1.1)) := by
      funext q
      rw [decide_eq_decide]
      exact ⟨fun h => by rw [h], fun h => Subtype.ext h⟩
    rw [e, hf]
    rfl
  have hg := ht.get p.1
  have h1 : ndOf (ab es) p.1 = p.2.2.1 := by unfold ndOf; rw [ab_find, hfm]; rfl
  have h2 : ndF es (p.1.1, n) = frz p.2.2.1 := by unfold ndF; simp only; rw [hf]; rfl
  rw [h1] at hg
  rw [h2]
  exact hg
end

section
set_option linter.unusedSimpArgs false
set_option linter.unusedVariables false
open Go.RowKit Go.Lib Go.Sort

structure Cold (w0 W : World) (T M : Nat) (c : Cfg) (rs rh n ver : Nat) (es : List (KO × NE)) (ve : Value) (fl : List En) (v : Value) (l : List It) : Prop where
  at_ : SAt W T M c ver es rs rh
  items : ItemsIn (fun b => b ∉ sfp T M es) W v l
  rows : RowG (fun b => b ∉ sfp T M es) 3 enC W ve fl
  told : ∀ i (h : i < l.length) (h2 : i < fl.length), fl[i].1 = l[i].key ∧ ∃ y fp, NodeIn W fl[i].2 y rs rh fp ∧ y.frz = true ∧ sameN y l[i].nd ∧ ∀ r ∈ fp, r ∉ sfp T M es
  len : fl.length = l.length
  base : Below w0.heap.size w0 W
  above : ∀ r ∈ sfp T M es, w0.heap.size ≤ r
  grown : Grown n ver (ab es)
  ver_ : ver ≤ 1000 * n
theorem Cold.below {w0 W W' : World} {T M : Nat} {c : Cfg} {rs rh n ver : Nat} {es : List (KO × NE)} {ve : Value} {fl : List En} {v : Value} {l : List It} (h : Cold w0 W T M c rs rh n ver es ve fl v l) (hb : Below W.heap.size W W') : Cold w0 W' T M c rs rh n ver es ve fl v l :=
  ⟨h.at_.below hb, h.items.below hb, h.rows.below hb, fun i h1 h2 => by
    obtain ⟨a1, y, fp, a2, a3⟩ := h.told i h1 h2
    exact ⟨a1, y, fp, a2.below hb, a3⟩, h.len, bthen h.base hb, h.above, h.grown, h.ver_⟩
theorem grown_frz {n ver : Nat} {es : List (KO × NE)} (h : Grown n ver (ab es)) (K : List Ky) : Grown n ver (ab (frzE es K)) := by
  rw [ab_frzE]
  refine ⟨by simp only [List.length_map]; exact h.len, fun p hp => ?_⟩
  obtain ⟨q, hq, rfl⟩ := List.mem_map.1 hp
  have := h.vers q hq
  dsimp only
  split
  · simp only [frz]; omega
  · omega
theorem frz_all {es : List (KO × NE)} : ∀ p ∈ frzE es (risL (kyN es)), p.2.2.1.frz = true := by
  intro p hp
  obtain ⟨q, hq, rfl⟩ := List.mem_map.1 hp
  have hm : q.1.1 ∈ risL (kyN es) := (mem_risL _ _).2 (List.mem_map.2 ⟨q, hq, rfl⟩)
  dsimp only
  rw [if_pos hm]
  rfl
theorem mfp_frz {x : Nd} (h : x.frz = true) (fp : List Nat) : mfp x fp = [] := by
  unfold mfp
  rw [if_pos h]
theorem sfp_all {T M : Nat} {es : List (KO × NE)} (h : ∀ p ∈ es, p.2.2.1.frz = true) : ∀ r ∈ sfp T M es, r = T ∨ r = M := by
  intro r hr
  simp only [sfp, List.mem_cons] at hr
  rcases hr with rfl | rfl | hr
  · exact .inl rfl
  · exact .inr rfl
  · obtain ⟨p, hp, hr⟩ := mem_mfpE.1 hr
    rw [mfp_frz (h p hp)] at hr
    cases hr
end

section
set_option linter.unusedSimpArgs false
set_option linter.unusedVariables false
open Go.RowKit Go.Lib Go.Sort

theorem RowG.lt {α : Type} {P : Nat → Prop} {n : Nat} {f : α → List Value} {w : World} {v : Value} {l : List α} (h : RowG P n f w v l) : RowG (fun b => P b ∧ b < w.heap.size) n f w v l := by
  refine ⟨h.1, fun b o m c e hn => ⟨h.2 b o m c e hn, ?_⟩⟩
  obtain ⟨A, c2, rfl, hl, hx⟩ := h.1
  obtain ⟨b2, o2, rfl, hb, -⟩ := hx hn
  simp only [Value.slice.injEq, Option.some.injEq, Addr.mk.injEq, and_true] at e
  rw [← e.1.1]
  exact hb
theorem ItemsIn.lt {P : Nat → Prop} {w : World} {v : Value} {l : List It} (h : ItemsIn P w v l) : ItemsIn (fun b => P b ∧ b < w.heap.size) w v l :=
  ⟨h.1.lt, fun x hx => ⟨(h.2 x hx).1.lt, (h.2 x hx).2.lt⟩⟩
theorem ItemsIn.and {P Q : Nat → Prop} {w : World} {v : Value} {l : List It} (h : ItemsIn P w v l) (k : ItemsIn Q w v l) : ItemsIn (fun b => P b ∧ Q b) w v l :=
  ⟨⟨h.1.1, fun b o m c e hn => ⟨h.1.2 b o m c e hn, k.1.2 b o m c e hn⟩⟩, fun x hx => ⟨⟨(h.2 x hx).1.1, fun b o m c e hn => ⟨(h.2 x hx).1.2 b o m c e hn, (k.2 x hx).1.2 b o m c e hn⟩⟩, ⟨(h.2 x hx).2.1, fun b o m c e hn => ⟨(h.2 x hx).2.2 b o m c e hn, (k.2 x hx).2.2 b o m c e hn⟩⟩⟩⟩
theorem ItemsIn.keepS {P : Nat → Prop} {w w' : World} {v : Value} {l : List It} (h : ItemsIn P w v l) (hs : w.heap.size ≤ w'.heap.size) (hk : ∀ b, P b → b < w.heap.size → w'.heap[b]? = w.heap[b]?) : ItemsIn P w' v l :=
  ⟨h.1.keepP hs hk, fun x hx => ⟨(h.2 x hx).1.keepP hs hk, (h.2 x hx).2.keepP hs hk⟩⟩

/-- Frozen nodes and items, all in blocks of one kind. -/
def FzAt (S : Nat → Prop) (w : World) (es : List (KO × NE)) (rs rh : Nat) (v : Value) (l : List It) : Prop :=
  (∀ x ∈ frL es l, ∃ fp, NodeIn w x.2 (ndF es x) rs rh fp ∧ (ndF es x).frz = true ∧ ∀ r ∈ fp, S r) ∧ ItemsIn S w v l
theorem FzAt.kept {S : Nat → Prop} {w w' : World} {es : List (KO × NE)} {rs rh : Nat} {v : Value} {l : List It} (h : FzAt S w es rs rh v l) (hs : w.heap.size ≤ w'.heap.size) (hk : ∀ b, S b → b < w.heap.size → w'.heap[b]? = w.heap[b]?) : FzAt S w' es rs rh v l := by
  refine ⟨fun x hx => ?_, h.2.keepS hs hk⟩
  obtain ⟨fp, a, b, c⟩ := h.1 x hx
  exact ⟨fp, a.kept (fun r hr => hk r (c r hr) (a.lt r hr)), b, c⟩
theorem FzAt.below {S : Nat → Prop} {w w' : World} {es : List (KO × NE)} {rs rh : Nat} {v : Value} {l : List It} (h : FzAt S w es rs rh v l) (hb : Below w.heap.size w w') : FzAt S w' es rs rh v l := h.kept hb.size (fun b _ hlt => hb.block b hlt)
theorem FzAt.imp {S S' : Nat → Prop} {w : World} {es : List (KO × NE)} {rs rh : Nat} {v : Value} {l : List It} (h : FzAt S w es rs rh v l) (hi : ∀ b, S b → S' b) : FzAt S' w es rs rh v l :=
  ⟨fun x hx => by obtain ⟨fp, a, b, c⟩ := h.1 x hx; exact ⟨fp, a, b, fun r hr => hi r (c r hr)⟩, h.2.imp hi⟩
theorem FzAt.nodes {S : Nat → Prop} {w : World} {es : List (KO × NE)} {rs rh : Nat} {v : Value} {l : List It} (h : FzAt S w es rs rh v l) : NodesOf w (frL es l) (ndF es) rs rh := fun x hx => by
  obtain ⟨fp, a, _, _⟩ := h.1 x hx
  exact ⟨fp, a⟩
theorem FzAt.fz {S : Nat → Prop} {w : World} {es : List (KO × NE)} {rs rh : Nat} {v : Value} {l : List It} (h : FzAt S w es rs rh v l) : ∀ x ∈ frL es l, FzN w x.2 true := fun x hx => by
  obtain ⟨fp, a, b, _⟩ := h.1 x hx
  exact ⟨_, _, _, _, a, b⟩

/-- What Freeze gives, and where it lies. -/
theorem play_freezeF {w0 W : World} {T M : Nat} {c : Cfg} {rs rh n ver : Nat} {es : List (KO × NE)} {v : Value} {l : List It} (h : Play w0 W T M c rs rh n ver es v l) (hn : n ≤ 100) (N : Nat) (hes : ∀ p ∈ es, ∀ r ∈ p.2.2.2, r < N) (hit : ItemsIn (fun b => b < N) W v l) :
    Calls Tryz.prog 14 #[.pointer (some ⟨T, 0, none⟩)] W fun e w1 => ∃ A cc, e = .returned (.slice A (frL es l).length cc) ∧ OwnL enC 56 3 W.heap.size w1 (.slice A (frL es l).length cc) (frL es l) ∧
      FzAt (fun b => b < N ∧ w0.heap.size ≤ b ∧ b ∉ sfp T M (frzE es (risL (kyN es)))) w1 es rs rh v l ∧ SAt w1 T M c ver (frzE es (risL (kyN es))) rs rh ∧ Grown n ver (ab (frzE es (risL (kyN es)))) ∧
      Upd W w1 (sfp T M es) (sfp T M (frzE es (risL (kyN es)))) := by
  have hl := h.len
  refine (sfreeze_any T M c ver es rs rh W h.at_ (by omega)).mono ?_
  rintro e w1 ⟨A, cc, rfl, h1, h2, hu⟩
  have hK : risL (kyN es) = keysI l := by rw [kyN_keysS, h.tells.risL, absI_keys]
  have e1 : (risL (kyN es)).length = (frL es l).length := by rw [hK]; simp [frL]
  have e2 : ((risL (kyN es)).map fun q => (q, blkOf es q)) = frL es l := by rw [hK]; rfl
  rw [e1, e2] at h1
  have hsf := sfp_all (T := T) (M := M) (frz_all (es := es))
  refine ⟨A, cc, by rw [e1], h1, ⟨fun x hx => ?_, ?_⟩, h2, grown_frz h.grown _, hu⟩
  · obtain ⟨q, hq, rfl⟩ := List.mem_map.1 hx
    have hqk : q ∈ kyN es := (mem_risL _ _).1 (by rw [hK]; exact hq)
    obtain ⟨p, hp, hpq, hf⟩ := blk_at hqk
    have hb : blkOf es q = p.2.1 := by unfold blkOf; rw [hf]; rfl
    have hd : ndF es (q, blkOf es q) = frz p.2.2.1 := by unfold ndF; simp only; rw [hf]; rfl
    have hm : (p.1, (p.2.1, frz p.2.2.1, p.2.2.2)) ∈ frzE es (risL (kyN es)) := List.mem_map.2 ⟨p, hp, by rw [if_pos (by rw [hK, hpq]; exact hq)]⟩
    have hnode := h2.node _ hm
    have hoff := h2.off _ hm
    simp only at hnode hoff
    refine ⟨p.2.2.2, by rw [hd]; simp only; rw [hb]; exact hnode, by rw [hd]; rfl, fun r hr => ⟨hes p hp r hr, h.fresh p hp r hr, fun hq => ?_⟩⟩
    rcases hsf r hq with rfl | rfl
    · exact hoff.1 hr
    · exact hoff.2 hr
  · refine (ItemsIn.and (ItemsIn.keepS (hit.and h.items) hu.size (fun b hb hlt => hu.block b hlt hb.2.1)) (h.items.turnB hu)).imp (fun b hb => ⟨hb.1.1, hb.2.2, hb.2.1⟩)

/-! ### Cuts of frozen entries -/
def soE (l : List En) : List Eo := l.map fun x => (x.1, some x.2)
theorem soE_len (l : List En) : (soE l).length = l.length := by simp [soE]
theorem row_so {w : World} {v : Value} {l : List En} (h : RowIn 3 enC w v l) : RowIn 3 eoC w v (soE l) := by
  obtain ⟨A, c, rfl, hl, hc⟩ := h
  refine ⟨A, c, by simp [soE], by simpa [soE] using hl, fun hp => ?_⟩
  obtain ⟨b, o, rfl, hb, hx⟩ := hc (by simpa [soE] using hp)
  refine ⟨b, o, rfl, hb, fun k x hk j u hu => ?_⟩
  simp only [soE, List.getElem?_map, Option.map_eq_some_iff] at hk
  obtain ⟨y, hy, rfl⟩ := hk
  exact hx k y hy j u hu
theorem filter_sort (l : List En) (k : Ky) : (sortEn l).filter (fun x => decide (x.1 = k)) = l.filter (fun x => decide (x.1 = k)) := by
  have hperm : (sortEn l).Perm l := List.mergeSort_perm l _
  have hsub : (l.filter (fun x => decide (x.1 = k))).Sublist (sortEn l) := by
    unfold sortEn
    refine List.sublist_mergeSort ?_ ?_ ?_ List.filter_sublist
    · intro a b c h1 h2
      simp only [leS, ltE, Bool.not_eq_true'] at h1 h2 ⊢
      cases h3 : ltK c.1 a.1 with
      | false => rfl
      | true =>
        exfalso
        cases h4 : ltK a.1 b.1 with
        | true => rw [ltK_trans h3 h4] at h2; cases h2
        | false => rw [ltK_total h4 h1] at h3; rw [h3] at h2; cases h2
    · intro a b
      simp only [leS, ltE, Bool.or_eq_true, Bool.not_eq_true']
      cases h3 : ltK b.1 a.1 with
      | false => exact Or.inl rfl
      | true => exact Or.inr (ltK_asymm h3)
    · rw [List.pairwise_filter]
      refine List.pairwise_of_forall (fun a b ha hb => ?_)
      simp only [decide_eq_true_eq] at ha hb
      simp only [leS, ltE, ha, hb, ltK_irrefl]
      rfl
  have h2 := hsub.filter (fun x => decide (x.1 = k))
  rw [List.filter_filter] at h2
  simp only [Bool.and_self] at h2
  exact (h2.eq_of_length (by rw [(hperm.filter _).length_eq])).symm
theorem findE_filter (l : List En) (k : Ky) : findE l k = ((l.filter (fun x => decide (x.1 = k))).head?).map (·.2) := by
  unfold findE
  rw [List.head?_filter]
theorem findE_sort (l : List En) (k : Ky) : findE (sortEn l) k = findE l k := by
  rw [findE_filter, findE_filter, filter_sort]
theorem mem_sortE (l : List En) (x : En) : x ∈ sortEn l ↔ x ∈ l := (List.mergeSort_perm l _).mem_iff
end

section
set_option linter.unusedSimpArgs false
set_option linter.unusedVariables false
open Go.RowKit Go.Lib Go.Sort

set_option maxRecDepth 100000 in
set_option maxHeartbeats 4000000 in
theorem cutEpoch_any (C : Nat) (ep : Int) (l : List En) (w : World) (h : CutIn w C ep l) :
    Calls Tryz.prog 15 #[.pointer (some ⟨C, 0, none⟩)] w fun e w' => e = .returned (.int .i64 ep) ∧ Below w.heap.size w w' := by
  obtain ⟨A, c, h1, h2⟩ := h
  obtain ⟨a1, a2, a3⟩ := box_cells (Below.refl _ _) h1
  clear h1 h2
  go_enter Tryz.func15, Tryz.ntmps15
  go_wp2_with fail
  go_ret
  exact ⟨rfl, Below.refl _ _⟩
theorem cut_none (w : World) (C : Nat) (ep : Int) (h : CutIn w C ep []) : Calls Tryz.prog 24 #[.pointer (some ⟨C, 0, none⟩)] w fun e w' => ∃ A c, e = .returned (.slice A 0 c) ∧ Below w.heap.size w w' :=
  (cutKeys_any C ep [] w h (by simp)).mono fun e w' hr => by
    obtain ⟨A, c, rfl, _, hb⟩ := hr.own
    exact ⟨A, c, rfl, hb⟩
set_option maxRecDepth 100000 in
set_option maxHeartbeats 4000000 in
theorem cutTotal_none (C : Nat) (ep a b : Int) (w : World) (h : CutIn w C ep []) :
    Calls Tryz.prog 25 #[.pointer (some ⟨C, 0, none⟩), .int .i64 a, .int .i64 b] w fun e w' => e = .returned (.agg #[.int .i64 0, .int .i64 0, .int .i64 0, .int .i64 0, .int .i64 0]) ∧ Below w.heap.size w w' := by
  have K := Lib.hid (fun W (hW : Below w.heap.size w W) => cut_none W C ep (h.below hW))
  clear h
  go_enter Tryz.func25, Tryz.ntmps25
  go_wp2_with (first
    | (go_at_call 24
       refine calls_named ?_
       intro W1 hW1
       have hb1 : Below w.heap.size w W1 := by rw [hW1]; exact balloc (balloc (Below.refl _ _) _) _
       have hx1 : W1.heap[w.heap.size]? = some (.cells #[.int .i64 0, .int .i64 0, .int .i64 0, .int .i64 0, .int .i64 0] 60 (0, 0)) := by rw [hW1]; exact (Below.heap_alloc _ _ _ (by simp)).trans (heap_alloc_new _ _)
       have hx2 : W1.heap[w.heap.size + 1]? = some (.cells #[.int .i64 0, .int .i64 0, .int .i64 0, .int .i64 0, .int .i64 0] 60 (0, 0)) := by rw [hW1]; exact heap_alloc_new2 _ _ _
       clear hW1
       refine (K.out W1 hb1).mono ?_
       rintro e w2 ⟨A, c, rfl, hb2⟩
       have HX1 := Lib.hid ((hb2.block _ (Array.getElem?_eq_some_iff.1 hx1).1).trans hx1)
       have HX2 := Lib.hid ((hb2.block _ (Array.getElem?_eq_some_iff.1 hx2).1).trans hx2)
       have HB2 := Lib.hid (bthen hb1 hb2)
       clear hb1 hx1 hx2 hb2))
  obtain ⟨a1, a2, a3⟩ := box_cells (Below.refl _ _) HX1.out
  obtain ⟨a4, a5, a6⟩ := box_cells (Below.refl _ _) HX2.out
  go_loopg [15] 0 (fun g s15 wr => s15 = .int .i64 0 ∧ wr = w2)
  case atStart => exact ⟨rfl, rfl⟩
  case round =>
    obtain ⟨rfl, rfl⟩ := hrel
    go_wp2_with fail
    have hB := box5 (v0 := .int .i64 0) (v1 := .int .i64 0) (v2 := .int .i64 0) (v3 := .int .i64 0) (v4 := .int .i64 0) (cs := #[]) HX1.out
    have hb5 := below5 HB2.out (Nat.le_refl w.heap.size) (.int .i64 0) (.int .i64 0) (.int .i64 0) (.int .i64 0) (.int .i64 0)
    obtain ⟨b1, b2, b3⟩ := box_cells (Below.refl _ _) hB
    exact bodyPost_ret (v := .agg #[.int .i64 0, .int .i64 0, .int .i64 0, .int .i64 0, .int .i64 0]) (by simp [results, Tryz.results25, go_sem, b1]) rfl ⟨rfl, hb5⟩
set_option maxRecDepth 100000 in
set_option maxHeartbeats 4000000 in
theorem awake19_any (w : World) : Calls Tryz.prog 10 #[] w fun e w' => e = .returned (.bool true) ∧ Below w.heap.size w w' := by
  have HNW := Lib.hid (show Calls Tryz.prog 13 #[.int .i64 3, .slice none 0 0] w fun e w' => ∃ C, e = .returned (.pointer (some ⟨C, 0, none⟩)) ∧ CutIn w' C 3 [] ∧ Below w.heap.size w w' from
    (cutNew_any 3 (.slice none 0 0) [] (fun _ => false) w ⟨RowIn.nil, fun p hp => by cases hp⟩ (fun p hp => by cases hp) (by simp) (by simp) (fun p hp => by cases hp)).mono fun e w' ⟨C, h1, h2, h3⟩ => ⟨C, h1, by
      have h4 := h2.in_
      have e0 : sortEn (([] : List PartE).flatMap fun p => keptE (fun _ => false) p.2.2) = [] := by simp [sortEn]
      rw [e0] at h4
      exact h4, h3⟩)
  go_enter Tryz.func10, Tryz.ntmps10
  go_wp2_with (first
    | (go_at_call 13
       refine HNW.out.mono ?_
       rintro e w1 ⟨C, rfl, hc, hb⟩
       have HC := Lib.hid hc
       have HB1 := Lib.hid hb
       clear hc hb)
    | (go_at_call 15
       refine (cutEpoch_any C 3 [] w1 HC.out).mono ?_
       rintro e w2 ⟨rfl, hb⟩
       have HC2 := Lib.hid (HC.out.below hb)
       have HB2 := Lib.hid (bthen HB1.out hb)
       clear hb)
    | (go_at_call 24
       refine (cut_none w2 C 3 HC2.out).mono ?_
       rintro e w3 ⟨A, c, rfl, hb⟩
       have HC3 := Lib.hid (HC2.out.below hb)
       have HB3 := Lib.hid (bthen HB2.out hb)
       clear hb)
    | (go_at_call 25
       refine (cutTotal_none C 3 5 5 w3 HC3.out).mono ?_
       rintro e w4 ⟨rfl, hb⟩
       have HB4 := Lib.hid (bthen HB3.out hb)
       clear hb))
  go_ret
  exact ⟨rfl, HB4.out⟩
end

end Go.Proofs.YtfegielnmdppgaaGreat
