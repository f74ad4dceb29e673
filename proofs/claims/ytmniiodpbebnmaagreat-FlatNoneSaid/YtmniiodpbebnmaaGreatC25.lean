/- A flat map's entries and the world of the reference: the plain law; Samples, plainly: a rising list put one by one, and what is struck below a tick. Then series.Of. -/
import Derived.Test.YtmniiodpbebnmaaGreatC24
import Derived.Test.YtmniiodpbebnmaaGreatC08
import Derived.Test.YtmniiodpbebnmaaGreatC09
namespace Go.Proofs.YtmniiodpbebnmaaGreat

section
set_option linter.unusedSimpArgs false
set_option linter.unusedVariables false
open Go.RowKit Go.Lib Go.Sort

/-! ### Ids and keys -/
theorem keyK_inj {s t : ByteArray} (hs : idS s = true) (ht : idS t = true) (h : keyK s = keyK t) : s = t := by
  unfold keyK at h
  rw [if_pos hs, if_pos ht] at h
  injection h with h1 h2
  have a : IsKey (hiN s.data.toList) (loN s.data.toList) s.data.toList := ⟨hs, rfl, rfl⟩
  have b : IsKey (hiN s.data.toList) (loN s.data.toList) t.data.toList := ⟨ht, h1.symm, h2.symm⟩
  exact ByteArray.ext (Array.toList_inj.1 (a.one b))
/-! ### One stripe -/
theorem findIt_none_iff {l : List Itm} {k : Ky} (h : findIt l k = none) : ∀ p ∈ l, p.1 ≠ k := by
  intro p hp e
  unfold findIt at h
  rw [Option.map_eq_none_iff, List.find?_eq_none] at h
  exact h p hp (by simpa using e)
theorem keys_mk (R : List Itm) : keysI (R.map mkIt) = R.map (·.1) := by
  unfold keysI
  rw [List.map_map]
  rfl
theorem hasP_iff {R : List Itm} (hs : SrtR R) (k : Ky) : hasP R k = true ↔ k ∈ R.map (·.1) := by
  have h1 := hasP_abs (R.map mkIt) k
  rw [mkIt_abs] at h1
  have h2 := hasI_iff (l := R.map mkIt) (by rw [keys_mk]; exact hs) k
  rw [← h1, keys_mk] at h2
  exact h2
theorem hasP_find {R : List Itm} (hs : SrtR R) (k : Ky) : hasP R k = (findIt R k).isSome := by
  rw [Bool.eq_iff_iff, hasP_iff hs]
  constructor
  · intro h
    obtain ⟨p, hp, rfl⟩ := List.mem_map.1 h
    rw [findIt_sorted hs (k := p.1) (y := p.2) hp]
    rfl
  · intro h
    obtain ⟨y, hy⟩ := Option.isSome_iff_exists.1 h
    exact List.mem_map.2 ⟨_, findIt_mem hy, rfl⟩
theorem getP_find {R : List Itm} (hs : SrtR R) (k : Ky) : getP R k = (findIt R k).getD nd0 := by
  cases hh : hasP R k with
  | true =>
    have h1 := hasP_abs (R.map mkIt) k
    have h2 := getP_abs (R.map mkIt) k
    rw [mkIt_abs] at h1 h2
    have h3 := getL_mem (h1.symm.trans hh)
    rw [mkIt_abs, ← h2] at h3
    rw [findIt_sorted hs h3]
    rfl
  | false =>
    have h1 := hasP_find hs k
    rw [hh] at h1
    have h2 : findIt R k = none := by cases hf : findIt R k with | none => rfl | some y => rw [hf] at h1; cases h1
    rw [h2]
    unfold hasP at hh
    unfold getP
    cases hx : R[atP R k]? with
    | none => rfl
    | some x =>
      rw [hx] at hh
      exact if_neg (of_decide_eq_false hh)
theorem mem_outP {R : List Itm} (hs : SrtR R) (k : Ky) (y : Nd) (q : Ky) (z : Nd) : (q, z) ∈ outP R k y ↔ (q = k ∧ z = y) ∨ ((q, z) ∈ R ∧ q ≠ k) := by
  have h1 := mem_outI (l := R.map mkIt) (by rw [keys_mk]; exact hs) k y q z
  rw [← outP_abs, mkIt_abs] at h1
  exact h1
theorem outP_sorted {R : List Itm} (hs : SrtR R) (k : Ky) (y : Nd) : SrtR (outP R k y) := by
  have h1 := outI_sorted (l := R.map mkIt) (by rw [keys_mk]; exact hs) k y
  rw [← outP_abs, mkIt_abs] at h1
  exact h1
theorem find_outP {R : List Itm} (hs : SrtR R) (k : Ky) (y : Nd) (q : Ky) : findIt (outP R k y) q = if q = k then some y else findIt R q := by
  split
  · rename_i e
    rw [e]
    exact findIt_sorted (outP_sorted hs k y) ((mem_outP hs k y k y).2 (.inl ⟨rfl, rfl⟩))
  · rename_i e
    cases hf : findIt R q with
    | some z => exact findIt_sorted (outP_sorted hs k y) ((mem_outP hs k y q z).2 (.inr ⟨findIt_mem hf, e⟩))
    | none =>
      refine findIt_none (fun p hp e2 => ?_)
      obtain ⟨a, b⟩ := p
      simp only at e2
      subst e2
      rcases (mem_outP hs k y a b).1 hp with ⟨h9, _⟩ | ⟨h9, _⟩
      · exact e h9
      · exact findIt_none_iff hf _ h9 rfl
theorem len_outP (R : List Itm) (k : Ky) (y : Nd) : (outP R k y).length = if hasP R k = true then R.length else R.length + 1 := by
  unfold outP
  have hat : atP R k ≤ R.length := by
    unfold atP
    exact (List.takeWhile_sublist _).length_le
  cases hh : hasP R k with
  | true =>
    have : atP R k < R.length := by
      unfold hasP at hh
      split at hh
      · cases hh
      · rename_i x hx
        exact (List.getElem?_eq_some_iff.1 hx).1
    simp
    omega
  | false =>
    simp
    omega

/-! ### All stripes -/
theorem find_all {c : Cfg} {wd : Wd} (h : HomeOk c wd) (hst : okSt c.st = true) (hl : (wd.st.length : Int) = c.st) (id : ByteArray) : findIt (allW wd) (keyK id) = findIt (wd.st.getD (atW c id) []) (keyK id) := by
  obtain ⟨h1, h2⟩ := atW_lt (id := id) hst hl
  rw [List.getD_eq_getElem?_getD, List.getElem?_eq_getElem h1]
  exact load_home h (List.getElem?_eq_getElem h1) h2
theorem srt_at {c : Cfg} {es : List (SK × It)} {wd : Wd} (h : FlTells c es wd) (i : Nat) : SrtR (wd.st.getD i []) := by
  rw [List.getD_eq_getElem?_getD]
  cases hx : wd.st[i]? with
  | none => exact List.Pairwise.nil
  | some R => exact h.srt R (List.mem_of_getElem? hx)
/-- A workload, both ways. -/
theorem FlTells.load {c : Cfg} {es : List (SK × It)} {wd : Wd} (h : FlTells c es wd) (s : SK) (hs : idS s.1 = true) : match findM es s with | none => loadW wd s.1 = none | some x => ∃ y, loadW wd s.1 = some y ∧ sameN x.nd y := h.has.2 s hs
theorem FlTells.is {c : Cfg} {es : List (SK × It)} {wd : Wd} (h : FlTells c es wd) (s : SK) (hs : idS s.1 = true) : hasM es s = (loadW wd s.1).isSome := by
  have h1 := h.load s hs
  cases hh : hasM es s with
  | false =>
    rw [findM_none hh] at h1
    rw [h1]
    rfl
  | true =>
    obtain ⟨v, hv, _⟩ := findM_some hh
    rw [hv] at h1
    obtain ⟨y, hy, _⟩ := h1
    rw [hy]
    rfl
theorem FlTells.here {c : Cfg} {es : List (SK × It)} {wd : Wd} (h : FlTells c es wd) (hst : okSt c.st = true) (s : SK) (hs : idS s.1 = true) :
    hasP (wd.st.getD (atW c s.1) []) (keyK s.1) = hasM es s ∧ sameN (((findM es s).map (·.nd)).getD nd0) (getP (wd.st.getD (atW c s.1) []) (keyK s.1)) := by
  have hr := srt_at h (atW c s.1)
  have hf := find_all h.home hst h.lst s.1
  have h1 := h.load s hs
  have h2 := h.is s hs
  unfold loadW at h1 h2
  rw [hf] at h1 h2
  refine ⟨(hasP_find hr _).trans h2.symm, ?_⟩
  rw [getP_find hr]
  cases hh : findM es s with
  | none =>
    rw [hh] at h1
    simp only at h1
    rw [h1]
    exact sameN.refl _
  | some x =>
    rw [hh] at h1
    obtain ⟨y, hy, hxy⟩ := h1
    rw [hy]
    exact hxy
/-- How many the stripe of an id has. -/
theorem FlTells.many {c : Cfg} {es : List (SK × It)} {wd : Wd} (h : FlTells c es wd) (hst : okSt c.st = true) (id : ByteArray) :
    (wd.st.getD (atW c id) []).length = (es.map (·.1)).countP fun s => decide (routeI (keyK s.1).1 (keyK s.1).2 c.st = routeI (keyK id).1 (keyK id).2 c.st) := by
  obtain ⟨h1, h2⟩ := atW_lt (id := id) hst h.lst
  rw [List.getD_eq_getElem?_getD, List.getElem?_eq_getElem h1, h2]
  exact h.cnt _ _ (List.getElem?_eq_getElem h1)

/-! ### One workload turns -/
theorem FlTells.put {c : Cfg} {es : List (SK × It)} {wd : Wd} (h : FlTells c es wd) (hst : okSt c.st = true) (s : SK) (hs : idS s.1 = true) (x : It) (y : Nd) (hxy : sameN x.nd y) :
    FlTells c (putM es s x) { wd with st := wd.st.set (atW c s.1) (outP (wd.st.getD (atW c s.1) []) (keyK s.1) y) } := by
  obtain ⟨h1, h2⟩ := atW_lt (id := s.1) hst h.lst
  have hr := srt_at h (atW c s.1)
  have hRm : wd.st.getD (atW c s.1) [] ∈ wd.st := by
    rw [List.getD_eq_getElem?_getD, List.getElem?_eq_getElem h1]
    exact List.getElem_mem h1
  have hRa : wd.st[atW c s.1]? = some (wd.st.getD (atW c s.1) []) := by rw [List.getD_eq_getElem?_getD, List.getElem?_eq_getElem h1]; rfl
  have hhas := (h.here hst s hs).1
  generalize hR : wd.st.getD (atW c s.1) [] = R at *
  have hmem : ∀ p ∈ outP R (keyK s.1) y, p ∈ R ∨ p.1 = keyK s.1 := fun p hp => (outP_mem hp).imp id (fun e => by rw [e])
  have hhome : HomeOk c { wd with st := wd.st.set (atW c s.1) (outP R (keyK s.1) y) } := h.home.set (fun p hp => by
    rcases hmem p hp with h9 | h9
    · exact h.home _ _ hRa p h9
    · rw [h9]; exact h2)
  have hlst : ((({ wd with st := wd.st.set (atW c s.1) (outP R (keyK s.1) y) } : Wd).st.length : Nat) : Int) = c.st := by
    show (((wd.st.set (atW c s.1) (outP R (keyK s.1) y)).length : Nat) : Int) = c.st
    rw [List.length_set]
    exact h.lst
  refine ⟨⟨fun p hp => ?_, fun t ht => ?_⟩, fun p hp => ?_, fun i Q hQ => ?_, fun Q hQ => ?_, hhome, hlst, nodup_putM h.nod s x⟩
  · have : p.1 ∈ (putM es s x).map (·.1) := List.mem_map.2 ⟨p, hp, rfl⟩
    rw [keys_putM] at this
    have h9 : p.1 ∈ es.map (·.1) ∨ p.1 = s := by
      split at this
      · exact .inl this
      · rcases List.mem_append.1 this with h | h
        · exact .inl h
        · exact .inr (List.mem_singleton.1 h)
    rcases h9 with h9 | h9
    · obtain ⟨q, hq, e⟩ := List.mem_map.1 h9
      rw [← e]
      exact h.has.1 q hq
    · rw [h9]; exact hs
  · have hq := find_all hhome hst hlst t.1
    have hq0 := find_all h.home hst h.lst t.1
    have hset : ({ wd with st := wd.st.set (atW c s.1) (outP R (keyK s.1) y) } : Wd).st.getD (atW c t.1) [] = if atW c s.1 = atW c t.1 then outP R (keyK s.1) y else wd.st.getD (atW c t.1) [] := by
      show (wd.st.set (atW c s.1) (outP R (keyK s.1) y)).getD (atW c t.1) [] = _
      rw [List.getD_eq_getElem?_getD, List.getElem?_set]
      split
      · rfl
      · rw [List.getD_eq_getElem?_getD]
    rw [hset] at hq
    have hkey : findIt (allW { wd with st := wd.st.set (atW c s.1) (outP R (keyK s.1) y) }) (keyK t.1) = if t = s then some y else findIt (allW wd) (keyK t.1) := by
      rw [hq]
      by_cases e : t = s
      · subst e
        rw [if_pos rfl, if_pos rfl, find_outP hr, if_pos rfl]
      · have hk : keyK t.1 ≠ keyK s.1 := fun e2 => e (Subtype.ext (keyK_inj ht hs e2))
        rw [if_neg e, hq0]
        split
        · rename_i e3
          rw [find_outP hr, if_neg hk, ← e3, hR]
        · rfl
    rw [hkey, find_putM]
    by_cases e : t = s
    · rw [if_pos e, if_pos e]
      exact ⟨y, rfl, hxy⟩
    · rw [if_neg e, if_neg e]
      exact h.has.2 t ht
  · obtain ⟨Q, hQ, hp⟩ := List.mem_flatten.1 hp
    rcases List.mem_or_eq_of_mem_set hQ with hQ | rfl
    · exact h.keys p (List.mem_flatten.2 ⟨Q, hQ, hp⟩)
    · rcases hmem p hp with h9 | h9
      · exact h.keys p (List.mem_flatten.2 ⟨R, hRm, h9⟩)
      · exact ⟨s, hs, h9.symm⟩
  · have hQ : (wd.st.set (atW c s.1) (outP R (keyK s.1) y))[i]? = some Q := hQ
    rw [List.getElem?_set] at hQ
    rw [keys_putM]
    split at hQ
    · rename_i e
      injection hQ with hQ
      subst hQ
      rw [len_outP, hhas]
      have hc := h.cnt _ _ hRa
      rw [e] at hc h2
      cases hasM es s with
      | true =>
        simp only [if_true]
        exact hc
      | false =>
        simp only [Bool.false_eq_true, if_false]
        rw [List.countP_append, List.countP_singleton, if_pos (by simpa using h2), hc]
    · rename_i e
      have hc := h.cnt i Q hQ
      cases hasM es s with
      | true =>
        simp only [if_true]
        exact hc
      | false =>
        simp only [Bool.false_eq_true, if_false]
        rw [List.countP_append, List.countP_singleton, if_neg (by simp only [decide_eq_true_eq]; omega), hc, Nat.add_zero]
  · rcases List.mem_or_eq_of_mem_set hQ with hQ | rfl
    · exact h.srt Q hQ
    · exact outP_sorted hr _ _

/-! ### The acts -/
def setF (x : Nd) (p : Pol) : Nd := { x with pol := p, ruled := true }
def noteF (rh : Nat) (x : Nd) (a : Adv) : Nd := { x with past := pushL x.past rh a }
def trimF (cut : Int) (x : Nd) : Nd := { x with smp := x.smp.drop (placeS x.smp cut) }
def fullF (c : Cfg) (es : List (SK × It)) (s : SK) : Bool := !hasM es s && decide (c.lo ≤ (((es.map (·.1)).countP fun t => decide (routeI (keyK t.1).1 (keyK t.1).2 c.st = routeI (keyK s.1).1 (keyK s.1).2 c.st) : Nat) : Int))
theorem oneW_eq (c : Cfg) (rs rh : Nat) (wd : Wd) (id : ByteArray) (a : Act17) : oneW c rs rh wd id a = ({ wd with st := wd.st.set (atW c id) (oneP c rs rh (wd.st.getD (atW c id) []) (keyK id) a).1 }, (oneP c rs rh (wd.st.getD (atW c id) []) (keyK id) a).2) := rfl
theorem wd_same {wd : Wd} {i : Nat} : ({ wd with st := wd.st.set i (wd.st.getD i []) } : Wd) = wd := by
  have : wd.st.set i (wd.st.getD i []) = wd.st := by
    rw [List.getD_eq_getElem?_getD]
    apply List.ext_getElem?
    intro j
    rw [List.getElem?_set]
    split
    · rename_i e
      subst e
      split
      · rename_i hl
        rw [List.getElem?_eq_getElem hl]; rfl
      · rename_i hl
        rw [List.getElem?_eq_none (by omega)]
    · rfl
  cases wd
  simp only at this ⊢
  rw [this]
/-- What one act comes to where it is done, and where it is not. -/
theorem FlTells.one {c : Cfg} {rs rh : Nat} {es : List (SK × It)} {wd : Wd} (h : FlTells c es wd) (hst : okSt c.st = true) (s : SK) (hs : idS s.1 = true) (a : Act17) (h3 : a.kind ≠ 3)
    (he : (do17 rs rh (getP (wd.st.getD (atW c s.1) []) (keyK s.1)) a).2.1 = 0) :
    (fullF c es s = true → oneW c rs rh wd s.1 a = (wd, 6)) ∧
    (fullF c es s = false → (oneW c rs rh wd s.1 a).2 = 0 ∧ ∀ x : It, sameN x.nd (do17 rs rh (getP (wd.st.getD (atW c s.1) []) (keyK s.1)) a).1 → FlTells c (putM es s x) (oneW c rs rh wd s.1 a).1) := by
  have hm := h.many hst s.1
  have hh := (h.here hst s hs).1
  rw [oneW_eq]
  unfold oneP fullF
  rw [← hm, hh]
  dsimp only
  rw [if_neg (not_not_intro he), if_neg (fun e => h3 e.2)]
  constructor
  · intro hf
    rw [Bool.and_eq_true, Bool.not_eq_true', decide_eq_true_eq] at hf
    rw [if_pos hf, wd_same]
  · intro hf
    have hn : ¬ (hasM es s = false ∧ c.lo ≤ (((wd.st.getD (atW c s.1) []).length : Nat) : Int)) := fun e => by
      rw [e.1, decide_eq_true e.2] at hf
      cases hf
    rw [if_neg hn]
    exact ⟨rfl, fun x hx => h.put hst s hs x _ hx⟩
theorem FlTells.note {c : Cfg} {rs rh : Nat} {es : List (SK × It)} {wd : Wd} (h : FlTells c es wd) (hst : okSt c.st = true) (s : SK) (hs : idS s.1 = true) (a : Adv) (x0 : It) (hx0 : findM es s = some x0) (x : It) (hx : x.nd = noteF rh x0.nd a) :
    (noteW c rs rh wd s.1 a).2 = true ∧ FlTells c (putM es s x) (noteW c rs rh wd s.1 a).1 := by
  have h1 := h.load s hs
  rw [hx0] at h1
  obtain ⟨y, hy, _⟩ := h1
  obtain ⟨hh, hsame⟩ := h.here hst s hs
  have hhas : hasM es s = true := by
    rw [h.is s hs, hy]
    rfl
  unfold noteW
  rw [hy]
  refine ⟨rfl, ?_⟩
  show FlTells c (putM es s x) (oneW c rs rh wd s.1 ⟨3, (0, 0), pol0, a⟩).1
  rw [oneW_eq]
  unfold oneP
  rw [hh, hhas]
  have hd : do17 rs rh (getP (wd.st.getD (atW c s.1) []) (keyK s.1)) ⟨3, (0, 0), pol0, a⟩ = ({ getP (wd.st.getD (atW c s.1) []) (keyK s.1) with past := pushL (getP (wd.st.getD (atW c s.1) []) (keyK s.1)).past rh a, ver := (getP (wd.st.getD (atW c s.1) []) (keyK s.1)).ver + 1 }, 0, 0) := rfl
  rw [hd]
  dsimp only
  rw [if_neg (by simp), if_neg (by simp), if_neg (by simp)]
  refine h.put hst s hs x _ ?_
  rw [hx0] at hsame
  rw [hx]
  obtain ⟨a1, a2, a3, a4⟩ := hsame
  exact ⟨a1, by show pushL x0.nd.past rh a = pushL _ rh a; rw [show x0.nd.past = _ from a2], a3, a4⟩
theorem FlTells.note_no {c : Cfg} {rs rh : Nat} {es : List (SK × It)} {wd : Wd} (h : FlTells c es wd) (s : SK) (hs : idS s.1 = true) (a : Adv) (hx0 : findM es s = none) : noteW c rs rh wd s.1 a = (wd, false) := by
  have h1 := h.load s hs
  rw [hx0] at h1
  unfold noteW
  rw [show loadW wd s.1 = none from h1]

theorem sameN_trim {x y : Nd} (h : sameN x y) (cut : Int) : sameN (trimF cut x) (trimR cut y) := by
  obtain ⟨a1, a2, a3, a4⟩ := h
  unfold trimF trimR
  rw [a1]
  split
  · rename_i e
    rw [e]
    exact ⟨by simp, a2, a3, a4⟩
  · exact ⟨rfl, a2, a3, a4⟩
theorem findIt_mapV (f : Nd → Nd) (l : List Itm) (k : Ky) : findIt (l.map fun p => (p.1, f p.2)) k = (findIt l k).map f := by
  induction l with
  | nil => rfl
  | cons p l ih =>
    unfold findIt at ih ⊢
    rw [List.map_cons, List.find?_cons, List.find?_cons]
    by_cases e : p.1 = k
    · simp [e]
    · simp only [e, decide_false]
      exact ih
theorem all_trim (wd : Wd) (cut : Int) : allW (trimW wd cut) = (allW wd).map fun p => (p.1, trimR cut p.2) := by
  unfold allW trimW
  rw [List.map_flatten]
/-- Entries of the same ids, each one trimmed. -/
theorem FlTells.trim {c : Cfg} {es es' : List (SK × It)} {wd : Wd} (h : FlTells c es wd) (cut : Int) (hk : es'.map (·.1) = es.map (·.1)) (hv : ∀ s x, findM es s = some x → ∃ x', findM es' s = some x' ∧ x'.nd = trimF cut x.nd) : FlTells c es' (trimW wd cut) := by
  have hn : ∀ s, findM es s = none → findM es' s = none := fun s hs => by
    refine findM_none ?_
    cases hh : hasM es' s with
    | false => rfl
    | true =>
      rw [hasM_iff, hk, ← hasM_iff] at hh
      obtain ⟨v, hv, _⟩ := findM_some hh
      rw [hs] at hv
      cases hv
  refine ⟨⟨fun p hp => ?_, fun s hs => ?_⟩, fun p hp => ?_, fun i R hR => ?_, fun R hR => ?_, homeOk_trim h.home, ?_, by rw [hk]; exact h.nod⟩
  · have : p.1 ∈ es.map (·.1) := by rw [← hk]; exact List.mem_map.2 ⟨p, hp, rfl⟩
    obtain ⟨q, hq, e⟩ := List.mem_map.1 this
    rw [← e]
    exact h.has.1 q hq
  · rw [all_trim, findIt_mapV]
    have h1 := h.has.2 s hs
    cases hf : findM es s with
    | none =>
      rw [hf] at h1
      rw [hn s hf]
      simp only at h1 ⊢
      rw [h1]
      rfl
    | some x =>
      rw [hf] at h1
      obtain ⟨x', hx', hnd⟩ := hv s x hf
      rw [hx']
      obtain ⟨y, hy, hxy⟩ := h1
      refine ⟨trimR cut y, by rw [hy]; rfl, ?_⟩
      rw [hnd]
      exact sameN_trim hxy cut
  · rw [all_trim] at hp
    obtain ⟨q, hq, rfl⟩ := List.mem_map.1 hp
    exact h.keys q hq
  · have hR : (wd.st.map fun l => l.map fun p => (p.1, trimR cut p.2))[i]? = some R := hR
    rw [List.getElem?_map] at hR
    obtain ⟨Q, hQ, rfl⟩ := Option.map_eq_some_iff.1 hR
    rw [List.length_map, hk]
    exact h.cnt i Q hQ
  · have hR : R ∈ wd.st.map fun l => l.map fun p => (p.1, trimR cut p.2) := hR
    obtain ⟨Q, hQ, rfl⟩ := List.mem_map.1 hR
    show (List.map _ _).Pairwise _
    rw [List.map_map]
    exact h.srt Q hQ
  · show (((wd.st.map fun l => l.map fun p => (p.1, trimR cut p.2)).length : Nat) : Int) = c.st
    rw [List.length_map]
    exact h.lst
/-- What stays where the stripes do. -/
theorem FlTells.same {c : Cfg} {es : List (SK × It)} {wd wd' : Wd} (h : FlTells c es wd) (hs : wd'.st = wd.st) : FlTells c es wd' := by
  have ha : allW wd' = allW wd := by unfold allW; rw [hs]
  refine ⟨by rw [ha]; exact h.has, by rw [ha]; exact h.keys, by rw [hs]; exact h.cnt, by rw [hs]; exact h.srt, ?_, by rw [hs]; exact h.lst, h.nod⟩
  intro i R hR
  rw [hs] at hR
  exact h.home i R hR

/-! ### What is told -/
theorem planF_law {c : Cfg} {es : List (SK × It)} {wd : Wd} (h : FlTells c es wd) (s : SK) (hs : idS s.1 = true) : planF (findM es s) = planW wd s.1 := by
  have h1 := h.load s hs
  unfold planW planF
  cases hf : findM es s with
  | none =>
    rw [hf] at h1
    rw [show loadW wd s.1 = none from h1]
  | some x =>
    rw [hf] at h1
    obtain ⟨y, hy, a1, a2, a3, a4⟩ := h1
    rw [hy]
    simp only [a1, a2, a3, a4]
theorem readF_law {c : Cfg} {es : List (SK × It)} {wd : Wd} (h : FlTells c es wd) (s : SK) (hs : idS s.1 = true) : readF (findM es s) = readW wd s.1 := by
  have h1 := h.load s hs
  unfold readW readF
  cases hf : findM es s with
  | none =>
    rw [hf] at h1
    rw [show loadW wd s.1 = none from h1]
  | some x =>
    rw [hf] at h1
    obtain ⟨y, hy, a1, a2, a3, a4⟩ := h1
    rw [hy]
    simp only [a2]
    cases y.past.getLast? <;> rfl
/-- What is so of each entry. -/
theorem FlTells.it {c : Cfg} {rs rh n : Nat} {es : List (SK × It)} {wd : Wd} (h : FlTells c es wd) (hk : WdOk c rs rh n wd) : ∀ p ∈ es, NdOk rs rh p.2.nd ∧ smpI p.2.nd.smp ∧ (∀ s ∈ p.2.nd.smp, 0 ≤ s.1 ∧ 0 ≤ s.2) ∧ p.2.nd.pol.ok := by
  intro p hp
  have hf : findM es p.1 = some p.2 := by
    have hh : hasM es p.1 = true := (hasM_iff _ _).2 (List.mem_map.2 ⟨p, hp, rfl⟩)
    obtain ⟨v, hv, hm⟩ := findM_some hh
    obtain ⟨i, hi⟩ := List.getElem?_of_mem hp
    obtain ⟨j, hj⟩ := List.getElem?_of_mem hm
    have e : i = j := nodup_inj h.nod (x := p.1) (by simp [hi]) (by simp [hj])
    subst e
    rw [hi] at hj
    injection hj with hj
    rw [hv, hj]
  have h1 := h.has.2 p.1 (h.has.1 p hp)
  rw [hf] at h1
  obtain ⟨y, hy, a1, a2, a3, a4⟩ := h1
  have ho := allW_it hk _ (findIt_mem hy)
  refine ⟨⟨by rw [a1]; exact ho.nd.ris, by rw [a1]; exact ho.nd.len, by rw [a2]; exact ho.nd.past⟩, by rw [a1]; exact ho.smp, by rw [a1]; exact ho.val, by rw [a3]; exact ho.pol⟩
end

section
set_option linter.unusedSimpArgs false
set_option linter.unusedVariables false
open Go.RowKit Go.Lib Go.Sort

theorem putS_snoc {l : List Smp} {x : Smp} {room : Int} (hr : risingS (l ++ [x])) (h : ((l.length + 1 : Nat) : Int) ≤ room) : putS l room x = l ++ [x] := by
  have hp : placeS l x.1 = l.length := by
    unfold placeS
    rw [List.countP_eq_length]
    intro y hy
    have := (List.pairwise_append.1 hr).2.2 y hy x (by simp)
    simp
    omega
  unfold putS hitS insS cutS
  rw [hp, List.getElem?_eq_none (Nat.le_refl _), List.take_length, List.drop_length]
  rw [if_neg (by simp)]
  simp only [List.length_append, List.length_singleton]
  rw [if_neg (by omega)]
def foldS (room : Int) (l : List Smp) : List Smp := l.foldl (fun a x => putS a room x) []
theorem foldS_snoc (room : Int) (l : List Smp) (x : Smp) : foldS room (l ++ [x]) = putS (foldS room l) room x := by
  unfold foldS
  rw [List.foldl_append]
  rfl
theorem foldS_take (room : Int) (l : List Smp) (k : Nat) (h : k < l.length) : foldS room (l.take (k + 1)) = putS (foldS room (l.take k)) room l[k] := by
  rw [List.take_succ_eq_append_getElem h, foldS_snoc]
theorem foldS_self (room : Int) (l : List Smp) (hr : risingS l) (hl : (l.length : Int) ≤ room) : ∀ k, k ≤ l.length → foldS room (l.take k) = l.take k
  | 0, _ => rfl
  | k + 1, h => by
    rw [foldS_take room l k (by omega), foldS_self room l hr hl k (by omega), List.take_succ_eq_append_getElem (by omega)]
    refine putS_snoc ?_ ?_
    · rw [← List.take_succ_eq_append_getElem (by omega)]
      exact hr.sublist (List.take_sublist _ _)
    · rw [List.length_take]
      omega
/-- A list that rises and has room, and one more. -/
theorem foldS_one (room : Int) (l : List Smp) (x : Smp) (hr : risingS l) (hl : (l.length : Int) ≤ room) : foldS room (l ++ [x]) = putS l room x := by
  rw [foldS_snoc]
  have := foldS_self room l hr hl l.length (Nat.le_refl _)
  rw [List.take_length] at this
  rw [this]
theorem foldS_ok (room : Nat) : ∀ l : List Smp, risingS (foldS (room : Nat) l) ∧ (foldS (room : Nat) l).length ≤ room := by
  intro l
  induction hn : l.length generalizing l with
  | zero =>
    rw [List.eq_nil_of_length_eq_zero hn]
    exact ⟨List.Pairwise.nil, Nat.zero_le _⟩
  | succ n ih =>
    rcases List.eq_nil_or_concat l with rfl | ⟨m, x, rfl⟩
    · cases hn
    · rw [List.concat_eq_append] at hn ⊢
      obtain ⟨a, b⟩ := ih m (by simpa using hn)
      rw [foldS_snoc]
      exact ⟨rising_put a _ x, putS_len b x⟩
end

end Go.Proofs.YtmniiodpbebnmaaGreat
