/- A store and the world of the reference: what stays so, and where an id's load stands (plain); What a cut of all frozen stripes tells (plain), and a cut that is opened; Walks of a table's Open, a store's Publish. -/
import Derived.Test.YtmniiodpbebnmaaGreatC28
import Derived.Test.YtmniiodpbebnmaaGreatC29
import Derived.Test.YtmniiodpbebnmaaGreatC25
namespace Go.Proofs.YtmniiodpbebnmaaGreat

section
set_option linter.unusedSimpArgs false
set_option linter.unusedVariables false
open Go.RowKit Go.Lib Go.Sort

/-! ### Finding -/
theorem findIt_mem {l : List Itm} {k : Ky} {y : Nd} (h : findIt l k = some y) : (k, y) ∈ l := by
  unfold findIt at h
  obtain ⟨q, hq, rfl⟩ := Option.map_eq_some_iff.1 h
  have h1 := List.find?_some hq
  simp at h1
  rw [← h1]
  exact List.mem_of_find?_eq_some hq
theorem findIt_none {l : List Itm} {k : Ky} (h : ∀ p ∈ l, p.1 ≠ k) : findIt l k = none := by
  unfold findIt
  rw [List.find?_eq_none.2 (fun p hp => by simpa using h p hp)]
  rfl
theorem findIt_append (a b : List Itm) (k : Ky) : findIt (a ++ b) k = (findIt a k).or (findIt b k) := by
  unfold findIt
  rw [List.find?_append]
  cases List.find? (fun p => decide (p.1 = k)) a <;> rfl
theorem findIt_sorted {R : List Itm} (hs : (R.map (·.1)).Pairwise (fun a b => ltK a b = true)) {k : Ky} {y : Nd} (h : (k, y) ∈ R) : findIt R k = some y := by
  unfold findIt
  cases hf : R.find? (fun p => decide (p.1 = k)) with
  | none => exact absurd (List.find?_eq_none.1 hf (k, y) h) (by simp)
  | some q =>
    have h1 := List.find?_some hf
    simp at h1
    have h2 := List.mem_of_find?_eq_some hf
    obtain ⟨a, b⟩ := q
    obtain rfl : a = k := h1
    rw [sorted_at_unique hs h2 h]
    rfl
theorem tells_find {S : List (KO × Nd)} {R : List Itm} (h : Tells18 S R) (k : KO) : match findM S k with | none => findIt R k.1 = none | some x => ∃ y, findIt R k.1 = some y ∧ sameN x y := by
  cases hf : findM S k with
  | some x =>
    obtain ⟨y, hy, hs⟩ := h.vals k x hf
    exact ⟨y, findIt_sorted h.sorted hy, hs⟩
  | none =>
    refine findIt_none (fun p hp e => ?_)
    have hk : p.1 ∈ keysS S := (h.keys p.1).1 (List.mem_map.2 ⟨p, hp, rfl⟩)
    obtain ⟨q, hq, e2⟩ := List.mem_map.1 hk
    have : q.1 = k := Subtype.ext (e2.trans e)
    have hh : hasM S k = true := (hasM_iff S k).2 (List.mem_map.2 ⟨q, hq, this⟩)
    obtain ⟨v, hv, _⟩ := findM_some hh
    rw [hf] at hv
    cases hv
theorem flat_none {ll : List (List Itm)} {k : Ky} (h : ∀ l ∈ ll, findIt l k = none) : findIt ll.flatten k = none := by
  induction ll with
  | nil => rfl
  | cons l ll ih =>
    rw [List.flatten_cons, findIt_append, h l (by simp), Option.none_or]
    exact ih (fun m hm => h m (by simp [hm]))
theorem flat_at {ll : List (List Itm)} {k : Ky} {i : Nat} {R : List Itm} (hi : ll[i]? = some R) (h : ∀ j l, ll[j]? = some l → j ≠ i → findIt l k = none) : findIt ll.flatten k = findIt R k := by
  induction ll generalizing i with
  | nil => simp at hi
  | cons l ll ih =>
    rw [List.flatten_cons, findIt_append]
    cases i with
    | zero =>
      simp at hi
      subst hi
      rw [flat_none (fun m hm => by
        obtain ⟨j, hj⟩ := List.getElem?_of_mem hm
        exact h (j + 1) m (by simpa using hj) (by omega))]
      exact Option.or_none
    | succ i =>
      rw [h 0 l (by simp) (by omega), Option.none_or]
      exact ih (by simpa using hi) (fun j m hm hj => h (j + 1) m (by simpa using hm) (by omega))
/-- A load stands in its home. -/
theorem load_home {c : Cfg} {wd : Wd} (h : HomeOk c wd) {k : Ky} {i : Nat} {R : List Itm} (hi : wd.st[i]? = some R) (hk : routeI k.1 k.2 c.st = (i : Int)) : findIt (allW wd) k = findIt R k :=
  flat_at hi (fun j l hl hj => findIt_none (fun p hp e => hj (by
    have := h j l hl p hp
    rw [e, hk] at this
    omega)))

/-! ### Homes -/
theorem HomeOk.set {c : Cfg} {wd : Wd} (h : HomeOk c wd) {i : Nat} {R : List Itm} (hR : ∀ p ∈ R, routeI p.1.1 p.1.2 c.st = (i : Int)) : HomeOk c { wd with st := wd.st.set i R } := by
  intro j Q hQ p hp
  have hQ : (wd.st.set i R)[j]? = some Q := hQ
  rw [List.getElem?_set] at hQ
  split at hQ
  · rename_i e
    split at hQ
    · injection hQ with hQ
      subst hQ
      rw [← e]
      exact hR p hp
    · cases hQ
  · exact h j Q hQ p hp
theorem oneP_keys {c : Cfg} {rs rh : Nat} {R : List Itm} {k : Ky} {a : Act17} : ∀ p ∈ (oneP c rs rh R k a).1, p ∈ R ∨ p.1 = k := by
  intro p hp
  unfold oneP at hp
  dsimp only at hp
  split at hp
  · exact .inl hp
  · split at hp
    · exact .inl hp
    · split at hp
      · exact .inl hp
      · rcases outP_mem hp with h | h
        · exact .inl h
        · exact .inr (by rw [h])
theorem atW_lt {c : Cfg} {wd : Wd} {id : ByteArray} (hst : okSt c.st = true) (hl : (wd.st.length : Int) = c.st) : atW c id < wd.st.length ∧ routeI (keyK id).1 (keyK id).2 c.st = (atW c id : Int) := by
  obtain ⟨h0, h1⟩ := route_lt (hi := (keyK id).1) (lo := (keyK id).2) hst
  unfold atW
  omega
theorem homeOk_one {c : Cfg} {rs rh : Nat} {wd : Wd} {id : ByteArray} {a : Act17} (h : HomeOk c wd) (hst : okSt c.st = true) (hl : (wd.st.length : Int) = c.st) : HomeOk c (oneW c rs rh wd id a).1 := by
  obtain ⟨h1, h2⟩ := atW_lt (id := id) hst hl
  refine h.set (fun p hp => ?_)
  rcases oneP_keys p hp with h9 | h9
  · rw [List.getD_eq_getElem?_getD, List.getElem?_eq_getElem h1] at h9
    exact h _ _ (List.getElem?_eq_getElem h1) p h9
  · rw [h9]; exact h2
theorem homeOk_trim {c : Cfg} {wd : Wd} {cut : Int} (h : HomeOk c wd) : HomeOk c (trimW wd cut) := by
  intro i R hR p hp
  have hR : (wd.st.map fun l => l.map fun p => (p.1, trimR cut p.2))[i]? = some R := hR
  rw [List.getElem?_map] at hR
  obtain ⟨Q, hQ, rfl⟩ := Option.map_eq_some_iff.1 hR
  obtain ⟨q, hq, rfl⟩ := List.mem_map.1 hp
  exact h i Q hQ q hq
theorem homeOk_do {c : Cfg} {rs rh : Nat} {wd : Wd} {x : CallD} (h : HomeOk c wd) (hst : okSt c.st = true) (hl : (wd.st.length : Int) = c.st) : HomeOk c (doW c rs rh wd x).1 := by
  unfold doW
  split
  · exact h
  · split
    · exact homeOk_one h hst hl
    · split
      · exact homeOk_trim h
      · split
        · unfold snapW
          split
          · exact h
          · exact h
        · split
          · unfold freeW
            split
            · exact h
            · exact h
          · split
            · exact h
            · split
              · exact homeOk_one h hst hl
              · split
                · exact h
                · split
                  · exact h
                  · exact h
theorem homeOk_new (c : Cfg) (n : Nat) : HomeOk c (newW n) := by
  intro i R hR p hp
  have := List.mem_of_getElem? hR
  rw [List.eq_of_mem_replicate this] at hp
  cases hp

/-! ### How many there are -/
theorem oneP_len1 {c : Cfg} {rs rh : Nat} {R : List Itm} {k : Ky} {a : Act17} : (oneP c rs rh R k a).1.length ≤ R.length + 1 := by
  unfold oneP
  dsimp only
  split
  · exact Nat.le_succ _
  · split
    · exact Nat.le_succ _
    · split
      · exact Nat.le_succ _
      · unfold outP
        have hat : atP R k ≤ R.length := by
          unfold atP
          exact (List.takeWhile_sublist _).length_le
        cases hh : hasP R k
        · simp; omega
        · simp; omega
theorem flat_set_len (ll : List (List Itm)) (i : Nat) (R : List Itm) (h : R.length ≤ (ll.getD i []).length + 1) : (ll.set i R).flatten.length ≤ ll.flatten.length + 1 := by
  induction ll generalizing i with
  | nil => simp
  | cons l ll ih =>
    cases i with
    | zero => simp at h ⊢; omega
    | succ i =>
      have := ih i (by simpa using h)
      simp at this ⊢
      omega
theorem tot_one {c : Cfg} {rs rh : Nat} {wd : Wd} {id : ByteArray} {a : Act17} : (allW (oneW c rs rh wd id a).1).length ≤ (allW wd).length + 1 := flat_set_len _ _ _ oneP_len1
theorem tot_trim {wd : Wd} {cut : Int} : (allW (trimW wd cut)).length = (allW wd).length := by
  unfold allW trimW
  simp [List.length_flatten, List.map_map, Function.comp_def]
theorem tot_do {c : Cfg} {rs rh : Nat} {wd : Wd} {x : CallD} : (allW (doW c rs rh wd x).1).length ≤ (allW wd).length + 1 := by
  unfold doW
  split
  · exact Nat.le_succ _
  · split
    · exact tot_one
    · split
      · rw [show (trimW wd x.tick, repF 0).1 = trimW wd x.tick from rfl, tot_trim]; exact Nat.le_succ _
      · split
        · unfold snapW
          split
          · exact Nat.le_succ _
          · exact Nat.le_succ _
        · split
          · unfold freeW
            split
            · exact Nat.le_succ _
            · exact Nat.le_succ _
          · split
            · exact Nat.le_succ _
            · split
              · exact tot_one
              · split
                · exact Nat.le_succ _
                · split
                  · exact Nat.le_succ _
                  · exact Nat.le_succ _
theorem tot_new (n : Nat) : (allW (newW n)).length = 0 := by simp [allW, newW]
end

section
set_option linter.unusedSimpArgs false
set_option linter.unusedVariables false
open Go.RowKit Go.Lib Go.Sort
open Go.ChangeMaps (setBlock)

/-- The entries of a stripe. -/
def entE (es : List (KO × NE)) : List En := (risL (kyN es)).map fun q => (q, blkOf es q)
theorem entE_mem {es : List (KO × NE)} {x : En} (h : x ∈ entE es) : ∃ p ∈ es, p.1.1 = x.1 ∧ p.2.1 = x.2 := by
  obtain ⟨q, hq, rfl⟩ := List.mem_map.1 h
  obtain ⟨p, hp, e, hf⟩ := blk_at ((mem_risL _ _).1 hq)
  refine ⟨p, hp, e, ?_⟩
  unfold blkOf
  rw [hf]
  rfl
theorem entE_find {es : List (KO × NE)} {R : List Itm} (ht : Tells18 (ab es) R) {k : Ky} (h : findE (entE es) k = none) : findIt R k = none := by
  refine findIt_none (fun p hp e => ?_)
  have hk : p.1 ∈ keysS (ab es) := (ht.keys p.1).1 (List.mem_map.2 ⟨p, hp, rfl⟩)
  rw [← kyN_keysS, e] at hk
  unfold findE at h
  rw [Option.map_eq_none_iff] at h
  have := List.find?_eq_none.1 h (k, blkOf es k) (List.mem_map.2 ⟨k, (mem_risL _ _).2 hk, rfl⟩)
  simp at this
theorem entE_frz (es : List (KO × NE)) (K : List Ky) : entE (frzE es K) = entE es := by
  have e : kyN (frzE es K) = kyN es := by simp [kyN, frzE, Function.comp_def]
  unfold entE
  rw [e]
  exact List.map_congr_left (fun q _ => by rw [blk_frzE])
theorem kyN_nodup2 {es : List (KO × NE)} (h : (es.map (·.1)).Nodup) : (kyN es).Nodup := by
  have e : kyN es = kys (es.map (·.1)) := by simp [kyN, kys, Function.comp_def]
  rw [e]
  exact kys_nodup h
theorem entE_len {es : List (KO × NE)} (h : (es.map (·.1)).Nodup) : (entE es).length = es.length := by
  unfold entE
  rw [List.length_map, risL_length (kyN_nodup2 h)]
  simp [kyN]
def allFz (es : List (KO × NE)) : Prop := ∀ p ∈ es, p.2.2.1.frz = true
theorem flat_find_none {ll : List (List En)} {k : Ky} (h : findE ll.flatten k = none) : ∀ l ∈ ll, findE l k = none := by
  induction ll with
  | nil => intro l hl; cases hl
  | cons a ll ih =>
    rw [List.flatten_cons, findE_append] at h
    intro l hl
    rcases List.mem_cons.1 hl with rfl | hl
    · cases h9 : findE l k with
      | none => rfl
      | some v => rw [h9] at h; cases h
    · refine ih ?_ l hl
      cases h9 : findE a k with
      | none => rw [h9, Option.none_or] at h; exact h
      | some v => rw [h9] at h; cases h
/-- All entries. -/
def entS (sts : List St) : List En := (sts.map fun s => entE s.es).flatten

section
variable {B : Nat → Prop} {S : Nat} {c : Cfg} {rs rh n : Nat} {wd : Wd} {d : StoD}
theorem sum_len : ∀ (sts : List St) (st : List (List Itm)), sts.length = st.length → (∀ (i : Nat) (s : St) (R : List Itm), sts[i]? = some s → st[i]? = some R → (entE s.es).length = R.length) → ((sts.map fun s => entE s.es).flatten).length = st.flatten.length
  | [], [], _, _ => rfl
  | [], _ :: _, h, _ => by simp at h
  | _ :: _, [], h, _ => by simp at h
  | s :: sts, R :: st, h, hi => by
    have h0 := hi 0 s R rfl rfl
    have h1 := sum_len sts st (by simpa using h) (fun i s' R' hs hR => hi (i + 1) s' R' (by simpa using hs) (by simpa using hR))
    simp only [List.map_cons, List.flatten_cons, List.length_append, h0, h1]
theorem StoreAt.ent_len {w : World} (h : StoreAt B w S c rs rh n wd d) : (entS d.sts).length = (allW wd).length :=
  sum_len d.sts wd.st h.len (fun i s R hs hR => by
    have hk := h.str i s R hs hR
    rw [entE_len hk.at_.nodup, ← ab_len, hk.tells.len])
/-- A cut that is made of all stripes, frozen, tells what they have. -/
theorem StoreAt.cut_has {w w' : World} {C : Nat} {ep : Int} (h : StoreAt B w S c rs rh n wd d) (hB : ∀ b, w.heap.size ≤ b → B b) (hfz : ∀ s ∈ d.sts, allFz s.es) (hh : HomeOk c wd) (hl : (allW wd).length ≤ 400) (hC : CutAt w.heap.size w' C ep (sortEn (entS d.sts))) (hb : Below w.heap.size w w') :
    CutHas (fun b => b ∉ d.fp S ∧ B b) w' C rs rh ep (allW wd) := by
  obtain ⟨hC0, A, cc, hc1, hc2⟩ := hC
  have hnew : ∀ b, w.heap.size ≤ b → b ∉ d.fp S ∧ B b := fun b hb' => ⟨fun hq => by have := (h.fpLt b hq).1; omega, hB b hb'⟩
  have h' := h.below hb
  refine ⟨A, cc, sortEn (entS d.sts), hnew C hC0, hc1, (RowG.own eEn hc2).imp (fun b hb' => hnew b (by omega)), ris_sort _, ?_, fun x hx => ?_, fun k hk => ?_⟩
  · rw [show (sortEn (entS d.sts)).length = (entS d.sts).length from (List.mergeSort_perm _ _).length_eq, h.ent_len]; exact hl
  · have hx : x ∈ entS d.sts := (mem_sortE _ x).1 hx
    obtain ⟨l, hl', hxl⟩ := List.mem_flatten.1 hx
    obtain ⟨s, hs, rfl⟩ := List.mem_map.1 hl'
    obtain ⟨p, hp, e1, e2⟩ := entE_mem hxl
    obtain ⟨i, hi⟩ := List.getElem?_of_mem hs
    obtain ⟨R, hR, hk⟩ := h'.get hi
    have hfind : findM (ab s.es) p.1 = some p.2.2.1 := by
      have hm : hasM (ab s.es) p.1 = true := (hasM_iff _ _).2 (List.mem_map.2 ⟨(p.1, p.2.2.1), List.mem_map.2 ⟨p, hp, rfl⟩, rfl⟩)
      obtain ⟨v, hv, hvm⟩ := findM_some hm
      obtain ⟨q, hq, e⟩ := List.mem_map.1 hvm
      injection e with e3 e4
      have : q = p := by
        obtain ⟨a, ha⟩ := List.getElem?_of_mem hq
        obtain ⟨b, hb'⟩ := List.getElem?_of_mem hp
        have hn := hk.at_.nodup
        have : a = b := nodup_inj hn (x := p.1) (by rw [List.getElem?_map, ha]; simp [e3]) (by rw [List.getElem?_map, hb']; rfl)
        rw [this, hb'] at ha
        injection ha with ha
        exact ha.symm
      rw [hv, ← e4, this]
    have ht := tells_find hk.tells p.1
    rw [hfind] at ht
    obtain ⟨z, hz, hsame⟩ := ht
    have hroute : routeI p.1.1.1 p.1.1.2 c.st = (i : Int) := hh i R hR (p.1.1, z) (findIt_mem hz)
    refine ⟨p.2.2.1, p.2.2.2, z, by rw [← e2]; exact hk.at_.node p hp, fun r hr => ?_, by rw [← e1, load_home hh hR hroute]; exact hz, hsame⟩
    have hra : r ∈ s.all := by
      simp only [St.all, List.mem_cons, List.mem_flatMap]
      exact .inr (.inr ⟨p, hp, hr⟩)
    refine ⟨fun hq => ?_, h.bs s hs r hra⟩
    have hoff := h.off s hs
    rcases mem_fp.1 hq with rfl | rfl | rfl | ⟨t, ht', hr'⟩
    · exact hoff.1 hra
    · exact hoff.2.1 hra
    · exact hoff.2.2 hra
    · obtain ⟨j, hj⟩ := List.getElem?_of_mem ht'
      by_cases hij : i = j
      · subst hij
        rw [hi] at hj
        injection hj with hj
        subst hj
        rcases sfp_all (hfz s hs) r hr' with rfl | rfl
        · exact (hk.at_.off p hp).1 hr
        · exact (hk.at_.off p hp).2 hr
      · exact h.pair i j s t hi hj hij r hra (t.sub r hr')
  · rw [findE_sort] at hk
    refine flat_none (fun R hR => ?_)
    obtain ⟨i, hi⟩ := List.getElem?_of_mem hR
    have hil := (List.getElem?_eq_some_iff.1 hi).1
    rw [← h.len] at hil
    have hs := List.getElem?_eq_getElem hil
    exact entE_find (h.str i _ R hs hi).tells (flat_find_none hk _ (List.mem_map.2 ⟨_, List.mem_of_getElem? hs, rfl⟩))

theorem liveT_snocW (t : List Int) (e : Int) (h : 0 ≤ e) : liveT (t ++ [e]) = liveT t + 1 := by
  unfold liveT
  rw [List.countP_append]
  simp [h]
/-- A cut is opened. -/
theorem StoreAt.opened {w w' : World} {C : Nat} (h : StoreAt B w S c rs rh n wd d) (hl : wd.cuts.length ≤ 900000) (hep : 0 ≤ wd.ep) (hC : CutHas (fun b => b ∉ d.fp S ∧ B b) w C rs rh (wd.ep + 1) (allW wd))
    (hos : w'.os = w.os) (hta : w'.tape = w.tape) (hou : w'.output = w.output) (hsz : w.heap.size = w'.heap.size) (hother : ∀ r, r ≠ S → r ≠ d.H → r ≠ d.L → w'.heap[r]? = w.heap[r]?)
    (hS : w'.heap[S]? = some (.cells #[.slice (some ⟨d.A, 0, none⟩) d.sts.length d.cp, .pointer (some ⟨d.H, 0, none⟩), .int .i64 (wd.ep + 1), .bool wd.over] 148 (0, 0)))
    (hH : w'.heap[d.H]? = some (.cells #[.map (some d.L), .int .i64 ((wd.cuts.length + 1 + 1 : Nat) : Int)] 229 (0, 0)))
    (ho : MapIn hdV blkV w' d.L (putM d.live (hdl (wd.cuts.length + 1)) C)) :
    StoreAt B w' S c rs rh n { wd with ep := wd.ep + 1, cuts := wd.cuts ++ [⟨wd.ep + 1, allW wd, false⟩] } { d with live := putM d.live (hdl (wd.cuts.length + 1)) C } ∧ Upd w w' (d.fp S) (d.fp S) := by
  have hno : hasM d.live (hdl (wd.cuts.length + 1)) = false := by
    cases hq : hasM d.live (hdl (wd.cuts.length + 1)) with
    | false => rfl
    | true =>
      obtain ⟨v, _, hm⟩ := findM_some hq
      have := (h.keys _ hm).2
      dsimp only at this
      rw [hdl_val (by omega)] at this
      omega
  have hput : putM d.live (hdl (wd.cuts.length + 1)) C = d.live ++ [(hdl (wd.cuts.length + 1), C)] := by unfold putM; rw [hno]; rfl
  have hkP : ∀ b, (b ∉ d.fp S ∧ B b) → b < w.heap.size → w'.heap[b]? = w.heap[b]? ∧ (b ∉ d.fp S ∧ B b) := fun b hb _ =>
    ⟨hother b (fun e => hb.1 (mem_fp.2 (.inl e))) (fun e => hb.1 (mem_fp.2 (.inr (.inl e)))) (fun e => hb.1 (mem_fp.2 (.inr (.inr (.inl e))))), hb⟩
  refine ⟨(h.own3 (d' := { d with live := putM d.live (hdl (wd.cuts.length + 1)) C }) (wd' := { wd with ep := wd.ep + 1, cuts := wd.cuts ++ [⟨wd.ep + 1, allW wd, false⟩] }) hsz hother rfl rfl rfl rfl rfl rfl hS ?_ ho (fun p hp => ?_) ?_ (fun i q hq => ?_)).1, ?_⟩
  · rw [hH]
    simp
  · show _ ∧ _ ≤ (wd.cuts ++ [_]).length
    have hp : p ∈ putM d.live (hdl (wd.cuts.length + 1)) C := hp
    rw [hput] at hp
    rw [List.length_append]
    rcases List.mem_append.1 hp with hp | hp
    · have := h.keys p hp; exact ⟨this.1, by simp; omega⟩
    · rw [List.mem_singleton.1 hp]
      dsimp only
      rw [hdl_val (by omega)]
      simp
  · show (putM d.live _ C).length = _
    have e : tabW { wd with ep := wd.ep + 1, cuts := wd.cuts ++ [⟨wd.ep + 1, allW wd, false⟩] } = tabW wd ++ [wd.ep + 1] := by simp [tabW]
    rw [e, liveT_snocW _ _ (by omega), ← h.cnt, hput]
    simp
  · have hq : (wd.cuts ++ [⟨wd.ep + 1, allW wd, false⟩])[i]? = some q := hq
    show (_ ∧ findM (putM d.live _ C) _ = none) ∨ (_ ∧ ∃ C', findM (putM d.live _ C) _ = some C' ∧ _)
    rw [find_putM]
    rcases Nat.lt_or_ge i wd.cuts.length with hi | hi
    · rw [List.getElem?_append_left hi] at hq
      rw [if_neg (fun e => by have := hdl_inj (by omega) (by omega) e; omega)]
      rcases h.cut i q hq with h9 | ⟨h9, C', h10, h11⟩
      · exact .inl h9
      · exact .inr ⟨h9, C', h10, h11.keep (Nat.le_of_eq hsz) hkP⟩
    · rw [List.getElem?_append_right hi] at hq
      have hi2 : i = wd.cuts.length := by
        have := (List.getElem?_eq_some_iff.1 hq).1
        simp at this
        omega
      subst hi2
      simp at hq
      subst hq
      rw [if_pos rfl]
      exact .inr ⟨rfl, C, rfl, hC.keep (Nat.le_of_eq hsz) hkP⟩
  · refine ⟨hos, hta, hou, Nat.le_of_eq hsz, fun r _ hn => hother r (fun e => hn (mem_fp.2 (.inl e))) (fun e => hn (mem_fp.2 (.inr (.inl e)))) (fun e => hn (mem_fp.2 (.inr (.inr (.inl e))))), fun r hr => .inl hr⟩
end
end

section
set_option linter.unusedSimpArgs false
set_option linter.unusedVariables false
open Go.RowKit Go.Lib Go.Sort
open Go.ChangeMaps (setBlock)

section
variable {B : Nat → Prop} {S : Nat} {c : Cfg} {rs rh n : Nat} {wd : Wd} {d : StoD}
set_option maxRecDepth 100000 in
set_option maxHeartbeats 1000000 in
theorem tabOpen_full (w : World) (h : StoreAt B w S c rs rh n wd d) (hl : wd.cuts.length ≤ 900000) (C : Nat) (hf : 64 ≤ d.live.length) :
    Calls Tryz.prog 93 #[.pointer (some ⟨d.H, 0, none⟩), .pointer (some ⟨C, 0, none⟩)] w fun e w' => e = .returned (.tuple #[.int .i64 0, .int .i64 6]) ∧ w' = w := by
  obtain ⟨a1, a2, a3⟩ := box_cells (Below.refl _ _) h.tab
  have hlen := fun ty => len_hd h.live ty
  have z1 : ¬ ((wd.cuts.length + 1 : Nat) : Int) < 1 := by omega
  have z2 : (64 : Int) ≤ (d.live.length : Int) := by omega
  generalize ((wd.cuts.length + 1 : Nat) : Int) = m at a1 z1
  clear h hf
  go_enter Tryz.func93, Tryz.ntmps93
  go_wp2
  go_ret2
  exact ⟨rfl, rfl⟩
set_option maxRecDepth 100000 in
set_option maxHeartbeats 1000000 in
theorem tabOpen_ok (w : World) (h : StoreAt B w S c rs rh n wd d) (hl : wd.cuts.length ≤ 900000) (C : Nat) (hf : ¬ 64 ≤ d.live.length) :
    Calls Tryz.prog 93 #[.pointer (some ⟨d.H, 0, none⟩), .pointer (some ⟨C, 0, none⟩)] w fun e w' => e = .returned (.tuple #[.int .i64 ((wd.cuts.length + 1 : Nat) : Int), .int .i64 0]) ∧ ∃ o, w' = (setBlock w d.L o).setCell ⟨d.H, 1, none⟩ (.int .i64 ((wd.cuts.length + 1 + 1 : Nat) : Int)) ∧ MapIn hdV blkV (setBlock w d.L o) d.L (putM d.live (hdl (wd.cuts.length + 1)) C) := by
  obtain ⟨a1, a2, a3⟩ := box_cells (Below.refl _ _) h.tab
  have hlen := fun ty => len_hd h.live ty
  obtain ⟨o, ho1, ho2⟩ := store_hd h.live (hdl (wd.cuts.length + 1)) C
  rw [hdl_val (by omega)] at ho1
  have HO2 := Lib.hid ho2
  have htab2 : (setBlock w d.L o).heap[d.H]? = _ := (setBlock_other h.ne.2.2).trans h.tab
  obtain ⟨b1, b2, b3⟩ := box_cells (Below.refl _ _) htab2
  have hm : ((wd.cuts.length + 1 + 1 : Nat) : Int) = ((wd.cuts.length + 1 : Nat) : Int) + 1 := by omega
  have z1 : ¬ ((wd.cuts.length + 1 : Nat) : Int) < 1 := by omega
  have z2 : ¬ (64 : Int) ≤ (d.live.length : Int) := by omega
  have z3 : ((wd.cuts.length + 1 : Nat) : Int) ≤ 1000000 := by omega
  rw [hm]
  have hB : ∃ q : Nat, q = wd.cuts.length + 1 := ⟨_, rfl⟩
  generalize ((wd.cuts.length + 1 : Nat) : Int) = m at a1 b1 z1 z3 ho1 ⊢
  have hw : IntKind.i64.wrap (m + 1) = m + 1 := by rw [IntKind.wrap_i64]; omega
  have hw2 : wrap64 (m + 1) = m + 1 := by unfold wrap64; omega
  obtain ⟨m1, hm1⟩ : ∃ m1, m1 = m + 1 := ⟨_, rfl⟩
  rw [← hm1] at hw hw2 ⊢
  clear h hf hm htab2 ho2 hB
  go_enter Tryz.func93, Tryz.ntmps93
  go_wp2
  go_ret2
  exact ⟨rfl, o, rfl, HO2.out⟩

/-- What Publish makes of the stripes' entries, frozen. -/
structure PubIn (w : World) (v : Value) (d : StoD) : Prop where
  fz : ∀ s ∈ d.sts, allFz s.es
  parts : ∃ ps : List PartE, PartsIn w v ps ∧ (ps.flatMap fun p => keptE (fun _ => true) p.2.2) = entS d.sts ∧ (∀ p ∈ ps, ∀ x ∈ p.2.2, ∀ N, x.2 = some N → FzN w N true) ∧ ps.length ≤ 1000 ∧ ∀ p ∈ ps, p.2.2.length ≤ 1000000
theorem PubIn.below {w w' : World} {v : Value} (h : PubIn w v d) (hb : Below w.heap.size w w') : PubIn w' v d := by
  obtain ⟨ps, h1, h2, h3, h4, h5⟩ := h.parts
  exact ⟨h.fz, ps, h1.below hb, h2, fun p hp x hx N hN => (h3 p hp x hx N hN).below hb, h4, h5⟩
theorem pub_new (w : World) (v : Value) (h : StoreAt B w S c rs rh n wd d) (hB : ∀ b, w.heap.size ≤ b → B b) (hp : PubIn w v d) (hh : HomeOk c wd) (hl : (allW wd).length ≤ 400) (ep : Int) :
    Calls Tryz.prog 94 #[.int .i64 ep, v] w fun e w' => ∃ C, e = .returned (.pointer (some ⟨C, 0, none⟩)) ∧ CutHas (fun b => b ∉ d.fp S ∧ B b) w' C rs rh ep (allW wd) ∧ w.heap.size ≤ C ∧ Below w.heap.size w w' := by
  obtain ⟨ps, h1, h2, h3, h4, h5⟩ := hp.parts
  refine (cutNew_any ep v ps (fun _ => true) w h1 h3 (by rw [h2, h.ent_len]; exact hl) h4 h5).mono ?_
  rintro e w' ⟨C, rfl, hC, hb⟩
  rw [h2] at hC
  exact ⟨C, rfl, h.cut_has hB hp.fz hh (by omega) hC hb, hC.1, hb⟩

set_option maxRecDepth 100000 in
set_option maxHeartbeats 2000000 in
theorem stoPublish_full (w : World) (v : Value) (h : StoreAt B w S c rs rh n wd d) (hB : ∀ b, w.heap.size ≤ b → B b) (hp0 : 0 < d.sts.length) (hp : PubIn w v d) (hh : HomeOk c wd) (hl : (allW wd).length ≤ 400) (hc : wd.cuts.length ≤ 900000) (hep : 0 ≤ wd.ep ∧ wd.ep ≤ 1000000) (hf : 64 ≤ d.live.length) :
    Calls Tryz.prog 34 #[.pointer (some ⟨S, 0, none⟩), v] w fun e w' => e = .returned (.tuple #[.int .i64 0, .int .i64 0, .int .i64 6]) ∧ Below w.heap.size w w' := by
  obtain ⟨a1, a2, a3⟩ := box_cells (Below.refl _ _) h.cell
  have HM := Lib.hid (stoMade_any w h hp0)
  obtain ⟨e1, he1⟩ : ∃ e1, e1 = wd.ep + 1 := ⟨_, rfl⟩
  have hw : IntKind.i64.wrap (wd.ep + 1) = e1 := by rw [IntKind.wrap_i64]; omega
  have hw2 : wrap64 (wd.ep + 1) = e1 := by unfold wrap64; omega
  have CN := Lib.hid (fun W (hW : Below w.heap.size w W) => pub_new W v (h.below hW) (fun b hb => hB b (Nat.le_trans hW.size hb)) (hp.below hW) hh hl (wd.ep + 1))
  have CO := Lib.hid (fun W (hW : Below w.heap.size w W) C => tabOpen_full W (h.below hW) hc C hf)
  rw [← he1] at CN
  have rs1 : ∀ U, Below w.heap.size w U → U.cell? ⟨S, 1, none⟩ = some (.pointer (some ⟨d.H, 0, none⟩)) := fun U hU => (hU.cell (p := ⟨S, _, none⟩) a3).trans (a1 1)
  have rs2 : ∀ U, Below w.heap.size w U → U.cell? ⟨S, 2, none⟩ = some (.int .i64 wd.ep) := fun U hU => (hU.cell (p := ⟨S, _, none⟩) a3).trans (a1 2)
  clear h hp hh hB he1 a1 a2 hp0 hep
  generalize wd.ep = ep at *
  go_enter Tryz.func34, Tryz.ntmps34
  go_wp2_with (go_at_call 80; refine HM.out.mono ?_; rintro e w' ⟨rfl, rfl⟩)
  have hS00 : Below w'.heap.size w' w' := Below.refl _ _
  have hS0 : Below w'.heap.size w' w'.drew := hS00.drew
  go_region_held3 (fun U => Below w'.heap.size w' U)
    (first
      | with_reducible exact hS0
      | with_reducible exact HB5.out
      | with_reducible exact hS00)
    (first
    | (go_at_call 94
       refine (CN.out _ ‹Below w'.heap.size w' _›).mono ?_
       rintro e w5 ⟨C, rfl, _, _, hb5⟩
       have HB5 := Lib.hid (bthen ‹Below w'.heap.size w' _› hb5)
       clear hb5)
    | (go_at_call 93
       refine (CO.out _ ‹Below w'.heap.size w' _› _).mono ?_
       rintro e w6 ⟨rfl, rfl⟩))
  all_goals
    refine then_named ?_
    intro W6 hW6
    have hb6 : Below w'.heap.size w' W6 := by rw [hW6]; first | exact HB5.out | exact HB5.out.drew | exact below_drewN HB5.out _
    clear hW6
    go_wp2
    go_ret3
    exact ⟨rfl, hb6⟩

set_option maxRecDepth 100000 in
set_option maxHeartbeats 4000000 in
theorem stoPublish_ok (w : World) (v : Value) (h : StoreAt B w S c rs rh n wd d) (hB : ∀ b, w.heap.size ≤ b → B b) (hp0 : 0 < d.sts.length) (hp : PubIn w v d) (hh : HomeOk c wd) (hl : (allW wd).length ≤ 400) (hc : wd.cuts.length ≤ 900000) (hep : 0 ≤ wd.ep ∧ wd.ep ≤ 1000000) (hf : ¬ 64 ≤ d.live.length) :
    Calls Tryz.prog 34 #[.pointer (some ⟨S, 0, none⟩), v] w fun e w' => e = .returned (.tuple #[.int .i64 (wd.ep + 1), .int .i64 ((wd.cuts.length + 1 : Nat) : Int), .int .i64 0]) ∧
      ∃ C, w.heap.size ≤ C ∧ StoreAt B w' S c rs rh n { wd with ep := wd.ep + 1, cuts := wd.cuts ++ [⟨wd.ep + 1, allW wd, false⟩] } { d with live := putM d.live (hdl (wd.cuts.length + 1)) C } ∧ Upd w w' (d.fp S) (d.fp S) := by
  obtain ⟨a1, a2, a3⟩ := box_cells (Below.refl _ _) h.cell
  have HM := Lib.hid (stoMade_any w h hp0)
  obtain ⟨e1, he1⟩ : ∃ e1, e1 = wd.ep + 1 := ⟨_, rfl⟩
  have hw : IntKind.i64.wrap (wd.ep + 1) = e1 := by rw [IntKind.wrap_i64]; omega
  have hw2 : wrap64 (wd.ep + 1) = e1 := by unfold wrap64; omega
  have H := Lib.hid h
  have HEP := Lib.hid hep
  have HCL := Lib.hid hc
  have CN := Lib.hid (fun W (hW : Below w.heap.size w W) => pub_new W v (h.below hW) (fun b hb => hB b (Nat.le_trans hW.size hb)) (hp.below hW) hh hl (wd.ep + 1))
  have CO := Lib.hid (fun W (hW : Below w.heap.size w W) C => tabOpen_ok W (h.below hW) hc C hf)
  have rs1 : ∀ U, Below w.heap.size w U → U.cell? ⟨S, 1, none⟩ = some (.pointer (some ⟨d.H, 0, none⟩)) := fun U hU => (hU.cell (p := ⟨S, _, none⟩) a3).trans (a1 1)
  have rs2 : ∀ U, Below w.heap.size w U → U.cell? ⟨S, 2, none⟩ = some (.int .i64 wd.ep) := fun U hU => (hU.cell (p := ⟨S, _, none⟩) a3).trans (a1 2)
  have HE1 := Lib.hid he1
  rw [← he1] at CN ⊢
  obtain ⟨m1, hm1⟩ : ∃ m1, m1 = ((wd.cuts.length + 1 : Nat) : Int) := ⟨_, rfl⟩
  obtain ⟨m2, hm2⟩ : ∃ m2, m2 = ((wd.cuts.length + 1 + 1 : Nat) : Int) := ⟨_, rfl⟩
  have HM2 := Lib.hid hm2
  rw [← hm1, ← hm2] at CO
  rw [← hm1]
  clear h hp hh hB he1 a1 a2 hp0 hep hm1 hm2 hc hl hf
  go_enter Tryz.func34, Tryz.ntmps34
  go_wp2_with (go_at_call 80; refine HM.out.mono ?_; rintro e w' ⟨rfl, rfl⟩)
  go_region_with (first
    | (go_at_call 94
       refine calls_named ?_
       intro W2 hW2
       have hb2 : Below w'.heap.size w' W2 := by rw [hW2]; repeat (first | exact Below.refl _ _ | refine balloc ?_ _ | refine Below.drew ?_)
       clear hW2
       refine (CN.out W2 hb2).mono ?_
       rintro e w5 ⟨C, rfl, hC5, hge, hb5⟩
       have HB5 := Lib.hid (bthen hb2 hb5)
       have HC5 := Lib.hid hC5
       have HGE := Lib.hid (Nat.le_trans hb2.size hge)
       have h5 := bthen hb2 hb5
       clear hb2 hb5 hC5 hge)
    | (go_at_call 93
       refine calls_named ?_
       intro W4 hW4
       have hb4 : Below w5.heap.size w5 W4 := by rw [hW4]; repeat (first | exact Below.refl _ _ | refine balloc ?_ _ | refine Below.drew ?_)
       clear hW4
       have HB4 := Lib.hid hb4
       refine (CO.out W4 (bthen HB5.out hb4) C).mono ?_
       rintro e w6 ⟨rfl, o, hw6, ho⟩
       have HW6 := Lib.hid hw6
       have HO := Lib.hid ho
       have hS6 := (show w6.heap[S]? = W4.heap[S]? by rw [hw6]; exact (setCell_keep H.out.ne.1).trans (setBlock_other H.out.ne.2.1)).trans (H.out.below (bthen HB5.out hb4)).cell
       have HS6 := Lib.hid hS6
       clear hb4 hw6 ho hS6))
  all_goals
    refine then_named ?_
    intro W7 hW7
    have hh7 : W7.heap = w6.heap := by rw [hW7]
    have h70 : W7.os = w6.os ∧ W7.tape = w6.tape ∧ W7.output = w6.output := by rw [hW7]; refine ⟨?_, ?_, ?_⟩ <;> rfl
    have hS7 : W7.heap[S]? = _ := (show W7.heap[S]? = w6.heap[S]? by rw [hh7]).trans HS6.out
    obtain ⟨b1, b2, b3⟩ := box_cells (Below.refl _ _) hS7
    have HH7 := Lib.hid hh7
    have H70 := Lib.hid h70
    have HS7 := Lib.hid hS7
    clear hW7 hh7 h70 hS7 h5 rs1 rs2 a3
    go_wp2
    go_ret3
    refine ⟨rfl, C, HGE.out, ?_⟩
    have hb45 := bthen HB5.out HB4.out
    have hat := H.out.below hb45
    have hC4 := HC5.out.keep HB4.out.size (fun b hb hlt => ⟨HB4.out.block b hlt, hb⟩)
    have hw6 := HW6.out
    have hw7 := HH7.out
    have hL7 : W7.heap.size = W4.heap.size := by rw [hw7, hw6]; simp [setBlock_size]
    have hk7 : ∀ r, r ≠ d.H → r ≠ d.L → W7.heap[r]? = W4.heap[r]? := fun r h1 h2 => by rw [hw7, hw6]; exact (setCell_keep h1).trans (setBlock_other h2)
    have hop := hat.opened (w' := W7.setCell ⟨S, 2, none⟩ (.int .i64 e1)) (C := C) HCL.out HEP.out.1 (by rw [← HE1.out]; exact hC4) (by show W7.os = _; rw [H70.out.1, hw6]; rfl) (by show W7.tape = _; rw [H70.out.2.1, hw6]; rfl) (by show W7.output = _; rw [H70.out.2.2, hw6]; rfl) (by simp [hL7]) (fun r h1 h2 h3 => (setCell_keep h1).trans (hk7 r h2 h3))
      (by rw [setCell_block HS7.out, ← HE1.out]; rfl)
      (by
        rw [setCell_keep (Ne.symm H.out.ne.1), hw7, hw6, setCell_block ((setBlock_other H.out.ne.2.2).trans hat.tab), HM2.out]
        rfl)
      (HO.out.block ((setCell_keep (Ne.symm H.out.ne.2.1)).trans (by rw [hw7, hw6]; exact setCell_keep (Ne.symm H.out.ne.2.2))))
    rw [← HE1.out] at hop
    exact ⟨hop.1, (Upd.of_below hb45 _).trans hop.2⟩
end
end

end Go.Proofs.YtmniiodpbebnmaaGreat
