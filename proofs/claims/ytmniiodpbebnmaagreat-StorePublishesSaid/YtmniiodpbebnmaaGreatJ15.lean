/- The world of the reference's store (chapter 21): the plain law; The world of the reference's store: what stays so of it, whatever is done (plain); node.Samples. -/
import Derived.Test.YtmniiodpbebnmaaGreatJ07
import Derived.Test.YtmniiodpbebnmaaGreatJ14
import Derived.Test.YtmniiodpbebnmaaGreatJ12
namespace Go.Proofs.YtmniiodpbebnmaaGreat

section
set_option linter.unusedSimpArgs false
set_option linter.unusedVariables false
open Go.RowKit Go.Lib

abbrev Itm := Ky × Nd
def atP (l : List Itm) (k : Ky) : Nat := (l.takeWhile (fun x => ltK x.1 k)).length
def hasP (l : List Itm) (k : Ky) : Bool := match l[atP l k]? with
  | none => false
  | some x => decide (x.1 = k)
def getP (l : List Itm) (k : Ky) : Nd := match l[atP l k]? with
  | none => nd0
  | some x => if x.1 = k then x.2 else nd0
def outP (l : List Itm) (k : Ky) (y : Nd) : List Itm := l.take (atP l k) ++ [(k, y)] ++ l.drop (if hasP l k = true then atP l k + 1 else atP l k)
theorem takeWhile_map_len {α β : Type} (f : α → β) (p : β → Bool) : ∀ l : List α, ((l.map f).takeWhile p).length = (l.takeWhile (fun x => p (f x))).length
  | [] => rfl
  | a :: l => by
    rw [List.map_cons, List.takeWhile_cons, List.takeWhile_cons]
    cases p (f a)
    · rfl
    · simp [takeWhile_map_len f p l]
theorem atP_abs (l : List It) (k : Ky) : atP (l.map absI) k = atI l k := takeWhile_map_len absI _ l
theorem hasP_abs (l : List It) (k : Ky) : hasP (l.map absI) k = hasI l k := by
  unfold hasP hasI
  rw [atP_abs]
  by_cases h : atI l k < l.length
  · rw [dif_pos h, List.getElem?_map, List.getElem?_eq_getElem h]
    rfl
  · rw [dif_neg h, List.getElem?_map, List.getElem?_eq_none (by omega)]
    rfl
theorem getP_abs (l : List It) (k : Ky) : getP (l.map absI) k = (getL l k).nd := by
  unfold getP getL
  rw [atP_abs]
  by_cases h : atI l k < l.length
  · rw [dif_pos h, List.getElem?_map, List.getElem?_eq_getElem h]
    by_cases h2 : l[atI l k].key = k
    · rw [if_pos h2]
      exact if_pos h2
    · rw [if_neg h2]
      exact if_neg h2
  · rw [dif_neg h, List.getElem?_map, List.getElem?_eq_none (by omega)]
    rfl
theorem outP_abs (l : List It) (k : Ky) (y : Nd) : outP (l.map absI) k y = outI l k y := by
  unfold outP outI
  rw [atP_abs, hasP_abs]
/-- One workload of a stripe. -/
def oneP (c : Cfg) (rs rh : Nat) (l : List Itm) (k : Ky) (a : Act17) : List Itm × Int :=
  let r := do17 rs rh (getP l k) a
  if r.2.1 ≠ 0 then (l, r.2.1)
  else if hasP l k = false ∧ a.kind = 3 then (l, 5)
  else if hasP l k = false ∧ c.lo ≤ (l.length : Nat) then (l, 6)
  else (outP l k r.1, 0)
theorem oneP_abs (c : Cfg) (rs rh : Nat) (l : List It) (k : Ky) (a : Act17) : oneP c rs rh (l.map absI) k a = ((one18 c rs rh l k a).1, (one18 c rs rh l k a).2.1) := by
  unfold oneP one18
  rw [getP_abs, hasP_abs]
  simp only [outP_abs, List.length_map]
  split
  · rfl
  · split
    · rfl
    · split
      · rfl
      · rfl

/-- A reply. -/
structure RepD where
  err : Int
  ep : Int
  hd : Int
  st : StD
  adv : Adv
def repC (r : RepD) : List Value := [.int .i64 r.err, .int .i64 r.ep, .int .i64 r.hd, .int .i64 r.st.cnt, .int .i64 r.st.sum, .int .i64 r.st.least, .int .i64 r.st.most, .int .i64 r.st.mean, .int .i64 r.adv.tick, .int .i64 r.adv.load, .int .i64 r.adv.want, .int .i64 r.adv.repl, .int .i64 r.adv.why]
def repV (r : RepD) : Value := .agg (repC r).toArray
def repF (e : Int) : RepD := ⟨e, 0, 0, st0, adv0⟩
structure CutD where
  ep : Int
  items : List Itm
  freed : Bool
structure Wd where
  st : List (List Itm)
  cuts : List CutD
  ep : Int
  over : Bool
def newW (n : Nat) : Wd := ⟨List.replicate n [], [], 0, false⟩
/-- An id's key; that of what is none. -/
def keyK (s : ByteArray) : Ky := if idS s = true then (hiN s.data.toList, loN s.data.toList) else (0, 0)
theorem keyK_ok (s : ByteArray) : (keyK s).ok := by
  unfold keyK
  split
  · have h1 := hiN_lt s.data.toList
    have h2 := loN_lt s.data.toList
    exact ⟨by show hiN _ < _; omega, by show loN _ < _; omega⟩
  · exact ⟨by decide, by decide⟩
def findIt (l : List Itm) (k : Ky) : Option Nd := (l.find? fun p => decide (p.1 = k)).map (·.2)
def allW (w : Wd) : List Itm := w.st.flatten
def loadW (w : Wd) (id : ByteArray) : Option Nd := findIt (allW w) (keyK id)
def atW (c : Cfg) (id : ByteArray) : Nat := (routeI (keyK id).1 (keyK id).2 c.st).toNat
def oneW (c : Cfg) (rs rh : Nat) (w : Wd) (id : ByteArray) (a : Act17) : Wd × Int :=
  ({ w with st := w.st.set (atW c id) (oneP c rs rh (w.st.getD (atW c id) []) (keyK id) a).1 }, (oneP c rs rh (w.st.getD (atW c id) []) (keyK id) a).2)
def trimW (w : Wd) (cut : Int) : Wd := { w with st := w.st.map fun l => l.map fun p => (p.1, trimR cut p.2) }
def tabW (w : Wd) : List Int := w.cuts.map fun c => if c.freed = true then -1 else c.ep
def liveT (t : List Int) : Nat := t.countP fun n => decide (0 ≤ n)
def findT (t : List Int) (n : Int) : Int := if n < 1 ∨ (t.length : Nat) < n then 5 else match t[n.toNat - 1]? with
  | none => 5
  | some e => if e < 0 then 8 else 0
def snapW (w : Wd) : Wd × RepD :=
  if 64 ≤ liveT (tabW w) then (w, repF 6)
  else ({ w with ep := w.ep + 1, cuts := w.cuts ++ [⟨w.ep + 1, allW w, false⟩] }, ⟨0, w.ep + 1, ((w.cuts.length + 1 : Nat) : Int), st0, adv0⟩)
def freeW (w : Wd) (n : Int) : Wd × RepD :=
  if findT (tabW w) n ≠ 0 then (w, repF (findT (tabW w) n))
  else ({ w with cuts := w.cuts.set (n.toNat - 1) ⟨0, [], true⟩ }, repF 0)
def lookW (w : Wd) (x : CallD) : RepD :=
  if findT (tabW w) x.handle ≠ 0 then repF (findT (tabW w) x.handle)
  else match w.cuts[x.handle.toNat - 1]? with
    | none => repF 5
    | some c => match findIt c.items (keyK x.id) with
      | none => repF 5
      | some y => ⟨0, c.ep, 0, statW y.smp x.tick x.val, adv0⟩
def readW (w : Wd) (id : ByteArray) : RepD := match loadW w id with
  | none => repF 5
  | some y => match y.past.getLast? with
    | none => repF 0
    | some a => ⟨0, 0, 0, st0, a⟩
/-- What a call does, and is answered. -/
def doW (c : Cfg) (rs rh : Nat) (w : Wd) (x : CallD) : Wd × RepD :=
  if chkC x ≠ 0 then (w, repF (chkC x))
  else if x.kind = 1 then ((oneW c rs rh w x.id ⟨0, (x.tick, x.val), pol0, adv0⟩).1, repF (oneW c rs rh w x.id ⟨0, (x.tick, x.val), pol0, adv0⟩).2)
  else if x.kind = 2 then (trimW w x.tick, repF 0)
  else if x.kind = 3 then snapW w
  else if x.kind = 4 then freeW w x.handle
  else if x.kind = 5 then (w, lookW w x)
  else if x.kind = 6 then ((oneW c rs rh w x.id ⟨2, (0, 0), x.pol, adv0⟩).1, repF (oneW c rs rh w x.id ⟨2, (0, 0), x.pol, adv0⟩).2)
  else if x.kind = 7 then (w, readW w x.id)
  else if w.over = true then (w, repF 9)
  else ({ w with over := true }, repF 0)
end

section
set_option linter.unusedSimpArgs false
set_option linter.unusedVariables false
open Go.RowKit Go.Lib

structure ItOk (rs rh n : Nat) (p : Itm) : Prop where
  nd : NdOk rs rh p.2
  ver : p.2.ver ≤ n
  key : p.1.ok
  smp : smpI p.2.smp
  val : ∀ s ∈ p.2.smp, 0 ≤ s.1 ∧ 0 ≤ s.2
  pol : p.2.pol.ok
theorem ItOk.mono {rs rh n m : Nat} {p : Itm} (h : ItOk rs rh n p) (hm : n ≤ m) : ItOk rs rh m p := ⟨h.nd, Nat.le_trans h.ver hm, h.key, h.smp, h.val, h.pol⟩
theorem pol0_ok : pol0.ok := by unfold Pol.ok I64 pol0; dsimp only; omega
theorem nd0_ok (rs rh n : Nat) (k : Ky) (hk : k.ok) : ItOk rs rh n (k, nd0) :=
  ⟨⟨List.Pairwise.nil, Nat.zero_le _, Nat.zero_le _⟩, Nat.zero_le _, hk, (fun s hs => by cases hs), (fun s hs => by cases hs), pol0_ok⟩
theorem getP_ok {rs rh n : Nat} {l : List Itm} (h : ∀ p ∈ l, ItOk rs rh n p) (k : Ky) (hk : k.ok) : ItOk rs rh n (k, getP l k) := by
  unfold getP
  split
  · exact nd0_ok rs rh n k hk
  · rename_i x hx
    split
    · have hm := List.mem_of_getElem? hx
      exact ⟨(h x hm).nd, (h x hm).ver, hk, (h x hm).smp, (h x hm).val, (h x hm).pol⟩
    · exact nd0_ok rs rh n k hk
theorem putS_mem {l : List Smp} {room : Int} {x s : Smp} (h : s ∈ putS l room x) : s ∈ l ∨ s = x := by
  unfold putS at h
  split at h
  · rcases List.mem_or_eq_of_mem_set h with h | h
    · exact .inl h
    · exact .inr h
  · have h2 : s ∈ insS l x := by
      unfold cutS at h
      split at h
      · exact List.mem_of_mem_drop h
      · exact h
    unfold insS at h2
    simp only [List.mem_append, List.mem_cons, List.mem_singleton, List.not_mem_nil, or_false] at h2
    rcases h2 with h2 | h2 | h2
    · exact .inl (List.mem_of_mem_take h2)
    · exact .inr h2
    · exact .inl (List.mem_of_mem_drop h2)
/-- An act's numbers are such. -/
structure ActOk (a : Act17) : Prop where
  smp : I64 a.smp.1 ∧ I64 a.smp.2
  pol : a.pol.ok
theorem do17_ok {rs rh n : Nat} {k : Ky} {x : Nd} {a : Act17} (h : ItOk rs rh n (k, x)) (ha : ActOk a) (h1 : 1 ≤ rh) : ItOk rs rh (n + 1) (k, (do17 rs rh x a).1) := by
  have hver := h.ver
  have hnd := h.nd
  dsimp only at hver hnd
  unfold do17
  split
  · split
    · rename_i _ hs
      refine ⟨⟨rising_put hnd.ris _ _, putS_len hnd.len _, hnd.past⟩, Nat.succ_le_succ hver, h.key, fun s hs' => ?_, fun s hs' => ?_, h.pol⟩
      · rcases putS_mem hs' with h9 | h9
        · exact h.smp s h9
        · rw [h9]; exact ha.smp
      · rcases putS_mem hs' with h9 | h9
        · exact h.val s h9
        · rw [h9]
          unfold serE at hs
          split at hs
          · cases hs
          · split at hs
            · cases hs
            · exact ⟨by omega, by omega⟩
    · exact h.mono (Nat.le_succ n)
  · split
    · split
      · exact h.mono (Nat.le_succ n)
      · exact ⟨⟨rising_drop hnd.ris _, Nat.le_trans (by simp) hnd.len, hnd.past⟩, Nat.succ_le_succ hver, h.key, fun s hs => h.smp s (List.mem_of_mem_drop hs), fun s hs => h.val s (List.mem_of_mem_drop hs), h.pol⟩
    · split
      · split
        · exact ⟨⟨hnd.ris, hnd.len, hnd.past⟩, Nat.succ_le_succ hver, h.key, h.smp, h.val, ha.pol⟩
        · exact h.mono (Nat.le_succ n)
      · split
        · refine ⟨⟨hnd.ris, hnd.len, ?_⟩, Nat.succ_le_succ hver, h.key, h.smp, h.val, h.pol⟩
          show (pushL x.past rh a.adv).length ≤ rh
          unfold pushL
          have := hnd.past
          split
          · simp; omega
          · simp; omega
        · exact h.mono (Nat.le_succ n)
theorem outP_mem {l : List Itm} {k : Ky} {y : Nd} {p : Itm} (h : p ∈ outP l k y) : p ∈ l ∨ p = (k, y) := by
  unfold outP at h
  rcases List.mem_append.1 h with h | h
  · rcases List.mem_append.1 h with h | h
    · exact .inl (List.mem_of_mem_take h)
    · exact .inr (List.mem_singleton.1 h)
  · exact .inl (List.mem_of_mem_drop h)
theorem oneP_ok {c : Cfg} {rs rh n : Nat} {l : List Itm} {k : Ky} {a : Act17} (h : ∀ p ∈ l, ItOk rs rh n p) (hk : k.ok) (ha : ActOk a) (h1 : 1 ≤ rh) : ∀ p ∈ (oneP c rs rh l k a).1, ItOk rs rh (n + 1) p := by
  intro p hp
  unfold oneP at hp
  dsimp only at hp
  split at hp
  · exact (h p hp).mono (Nat.le_succ n)
  · split at hp
    · exact (h p hp).mono (Nat.le_succ n)
    · split at hp
      · exact (h p hp).mono (Nat.le_succ n)
      · rcases outP_mem hp with h9 | h9
        · exact (h p h9).mono (Nat.le_succ n)
        · rw [h9]; exact do17_ok (getP_ok h k hk) ha h1
theorem oneP_len {c : Cfg} {rs rh : Nat} {l : List Itm} {k : Ky} {a : Act17} (hc : c.lo ≤ 256) (h : l.length ≤ 256) : (oneP c rs rh l k a).1.length ≤ 256 := by
  unfold oneP
  dsimp only
  split
  · exact h
  · split
    · exact h
    · split
      · exact h
      · rename_i _ _ h3
        unfold outP
        have hat : atP l k ≤ l.length := by
          unfold atP
          exact (List.takeWhile_sublist _).length_le
        cases hh : hasP l k
        · rw [hh] at h3
          have : ¬ c.lo ≤ (l.length : Nat) := fun h9 => h3 ⟨rfl, h9⟩
          simp
          omega
        · have hlt : atP l k < l.length := by
            unfold hasP at hh
            cases h9 : l[atP l k]? with
            | none => rw [h9] at hh; cases hh
            | some z => exact (List.getElem?_eq_some_iff.1 h9).1
          simp
          omega
/-- What stays so of a world. -/
structure WdOk (c : Cfg) (rs rh n : Nat) (w : Wd) : Prop where
  len : (w.st.length : Int) = c.st
  room : ∀ l ∈ w.st, l.length ≤ 256
  it : ∀ l ∈ w.st, ∀ p ∈ l, ItOk rs rh n p
  cuts : w.cuts.length ≤ n
  cit : ∀ q ∈ w.cuts, q.items.length ≤ 20000 ∧ ∀ p ∈ q.items, ItOk rs rh n p
  cep : ∀ q ∈ w.cuts, 0 ≤ q.ep ∧ q.ep ≤ n
  ep : 0 ≤ w.ep ∧ w.ep ≤ n
theorem WdOk.mono {c : Cfg} {rs rh n m : Nat} {w : Wd} (h : WdOk c rs rh n w) (hm : n ≤ m) : WdOk c rs rh m w :=
  ⟨h.len, h.room, fun l hl p hp => (h.it l hl p hp).mono hm, Nat.le_trans h.cuts hm, fun q hq => ⟨(h.cit q hq).1, fun p hp => ((h.cit q hq).2 p hp).mono hm⟩, fun q hq => ⟨(h.cep q hq).1, by have := (h.cep q hq).2; omega⟩, ⟨h.ep.1, by have := h.ep.2; omega⟩⟩
theorem newW_ok (c : Cfg) (rs rh : Nat) (k : Nat) (hk : (k : Int) = c.st) : WdOk c rs rh 0 (newW k) :=
  ⟨by simpa [newW] using hk, (fun l hl => by rw [List.eq_of_mem_replicate hl]; exact Nat.zero_le _), (fun l hl p hp => by rw [List.eq_of_mem_replicate hl] at hp; cases hp), Nat.le_refl _, (fun q hq => by cases hq), (fun q hq => by cases hq), ⟨Int.le_refl _, Int.le_refl _⟩⟩
theorem oneW_ok {c : Cfg} {rs rh n : Nat} {w : Wd} {id : ByteArray} {a : Act17} (h : WdOk c rs rh n w) (hc : c.lo ≤ 256) (ha : ActOk a) (h1 : 1 ≤ rh) : WdOk c rs rh (n + 1) (oneW c rs rh w id a).1 := by
  have hl : ∀ p ∈ w.st.getD (atW c id) [], ItOk rs rh n p := by
    intro p hp
    by_cases hlt : atW c id < w.st.length
    · rw [List.getD_eq_getElem?_getD, List.getElem?_eq_getElem hlt] at hp
      exact h.it _ (List.getElem_mem hlt) p hp
    · rw [List.getD_eq_getElem?_getD, List.getElem?_eq_none (by omega)] at hp
      cases hp
  have hl2 : (w.st.getD (atW c id) []).length ≤ 256 := by
    by_cases hlt : atW c id < w.st.length
    · rw [List.getD_eq_getElem?_getD, List.getElem?_eq_getElem hlt]
      exact h.room _ (List.getElem_mem hlt)
    · rw [List.getD_eq_getElem?_getD, List.getElem?_eq_none (by omega)]
      exact Nat.zero_le _
  have hm := h.mono (Nat.le_succ n)
  refine ⟨by show (((w.st.set _ _).length : Nat) : Int) = c.st; simpa using h.len, fun l hlm => ?_, fun l hlm => ?_, hm.cuts, hm.cit, hm.cep, hm.ep⟩
  · rcases List.mem_or_eq_of_mem_set hlm with h9 | h9
    · exact h.room l h9
    · rw [h9]; exact oneP_len hc hl2
  · rcases List.mem_or_eq_of_mem_set hlm with h9 | h9
    · exact hm.it l h9
    · rw [h9]; exact oneP_ok hl (keyK_ok id) ha h1
theorem trimR_ok {rs rh n : Nat} {p : Itm} (h : ItOk rs rh n p) (cut : Int) : ItOk rs rh (n + 1) (p.1, trimR cut p.2) := by
  have hver := h.ver
  unfold trimR
  split
  · exact (show ItOk rs rh n (p.1, p.2) from h).mono (Nat.le_succ n)
  · exact ⟨⟨rising_drop h.nd.ris _, Nat.le_trans (by simp) h.nd.len, h.nd.past⟩, Nat.succ_le_succ hver, h.key, fun s hs => h.smp s (List.mem_of_mem_drop hs), fun s hs => h.val s (List.mem_of_mem_drop hs), h.pol⟩
theorem trimW_ok {c : Cfg} {rs rh n : Nat} {w : Wd} {cut : Int} (h : WdOk c rs rh n w) : WdOk c rs rh (n + 1) (trimW w cut) := by
  have hm := h.mono (Nat.le_succ n)
  refine ⟨by show (((w.st.map _).length : Nat) : Int) = c.st; simpa using h.len, fun l hlm => ?_, fun l hlm p hp => ?_, hm.cuts, hm.cit, hm.cep, hm.ep⟩
  · obtain ⟨l2, h2, rfl⟩ := List.mem_map.1 hlm
    simpa using h.room l2 h2
  · obtain ⟨l2, h2, rfl⟩ := List.mem_map.1 hlm
    obtain ⟨q, hq, rfl⟩ := List.mem_map.1 hp
    exact trimR_ok (h.it l2 h2 q hq) cut
theorem flat_len : ∀ (l : List (List Itm)), (∀ x ∈ l, x.length ≤ 256) → l.flatten.length ≤ 256 * l.length
  | [], _ => Nat.le_refl _
  | a :: l, h => by
    have h1 := h a (List.mem_cons_self ..)
    have h2 := flat_len l (fun x hx => h x (List.mem_cons_of_mem _ hx))
    simp only [List.flatten_cons, List.length_append, List.length_cons]
    omega
theorem allW_len {c : Cfg} {rs rh n : Nat} {w : Wd} (h : WdOk c rs rh n w) (hst : c.st ≤ 64) : (allW w).length ≤ 16384 := by
  have h1 := flat_len w.st h.room
  have h2 := h.len
  unfold allW
  omega
theorem allW_it {c : Cfg} {rs rh n : Nat} {w : Wd} (h : WdOk c rs rh n w) : ∀ p ∈ allW w, ItOk rs rh n p := fun p hp => by
  obtain ⟨l, hl, hp2⟩ := List.mem_flatten.1 hp
  exact h.it l hl p hp2
theorem snapW_ok {c : Cfg} {rs rh n : Nat} {w : Wd} (h : WdOk c rs rh n w) (hst : c.st ≤ 64) : WdOk c rs rh (n + 1) (snapW w).1 := by
  have hm := h.mono (Nat.le_succ n)
  have hep := h.ep
  unfold snapW
  split
  · exact hm
  · refine ⟨hm.len, hm.room, hm.it, ?_, fun q hq => ?_, fun q hq => ?_, ?_⟩
    · show (w.cuts ++ [_]).length ≤ n + 1
      have := h.cuts
      simp; omega
    · rcases List.mem_append.1 hq with h9 | h9
      · exact hm.cit q h9
      · rw [List.mem_singleton.1 h9]
        exact ⟨by have := allW_len h hst; show (allW w).length ≤ 20000; omega, fun p hp => (allW_it h p hp).mono (Nat.le_succ n)⟩
    · rcases List.mem_append.1 hq with h9 | h9
      · exact hm.cep q h9
      · rw [List.mem_singleton.1 h9]
        show 0 ≤ w.ep + 1 ∧ w.ep + 1 ≤ ((n + 1 : Nat) : Int)
        omega
    · show 0 ≤ w.ep + 1 ∧ w.ep + 1 ≤ ((n + 1 : Nat) : Int)
      omega
theorem freeW_ok {c : Cfg} {rs rh n : Nat} {w : Wd} {k : Int} (h : WdOk c rs rh n w) : WdOk c rs rh (n + 1) (freeW w k).1 := by
  have hm := h.mono (Nat.le_succ n)
  unfold freeW
  split
  · exact hm
  · refine ⟨hm.len, hm.room, hm.it, ?_, fun q hq => ?_, fun q hq => ?_, hm.ep⟩
    · show (w.cuts.set _ _).length ≤ n + 1
      have := h.cuts
      simp; omega
    · rcases List.mem_or_eq_of_mem_set hq with h9 | h9
      · exact hm.cit q h9
      · rw [h9]; exact ⟨Nat.zero_le _, (fun p hp => by cases hp)⟩
    · rcases List.mem_or_eq_of_mem_set hq with h9 | h9
      · exact hm.cep q h9
      · rw [h9]; show (0 : Int) ≤ 0 ∧ (0 : Int) ≤ ((n + 1 : Nat) : Int); omega
theorem doW_ok {c : Cfg} {rs rh n : Nat} {w : Wd} {x : CallD} (h : WdOk c rs rh n w) (hst : c.st ≤ 64) (hlo : c.lo ≤ 256) (h1 : 1 ≤ rh) (hx : x.ok) : WdOk c rs rh (n + 1) (doW c rs rh w x).1 := by
  have hm := h.mono (Nat.le_succ n)
  obtain ⟨x1, x2, x3, x4, x5, x6⟩ := hx
  unfold doW
  split
  · exact hm
  · split
    · exact oneW_ok h hlo ⟨⟨x3, x4⟩, pol0_ok⟩ h1
    · split
      · exact trimW_ok h
      · split
        · exact snapW_ok h hst
        · split
          · exact freeW_ok h
          · split
            · exact hm
            · split
              · exact oneW_ok h hlo ⟨⟨i64_0, i64_0⟩, x6⟩ h1
              · split
                · exact hm
                · split
                  · exact hm
                  · exact ⟨hm.len, hm.room, hm.it, hm.cuts, hm.cit, hm.cep, hm.ep⟩
end

section
set_option linter.unusedSimpArgs false
set_option linter.unusedVariables false
open Go.RowKit Go.Lib Go.Sort

set_option maxRecDepth 100000 in
set_option maxHeartbeats 4000000 in
theorem nodeSamples_any (N : Nat) (x : Nd) (rs rh : Nat) (fp : List Nat) (w : World) (h : NodeIn w N x rs rh fp) (hrs : rs ≤ 256) :
    Calls Tryz.prog 107 #[.pointer (some ⟨N, 0, none⟩)] w (CloneS smpC 111 2 w x.smp) := by
  have HM := Lib.hid (made_any N x rs rh fp w h)
  obtain ⟨S, fs, H, fh, h1, h2, h3, h4, h5, h6, hfp, h7, h8⟩ := h
  unfold ndC at h1
  have HS := Lib.hid h2
  have H1 := Lib.hid h1
  clear h1 h2 h3 h4 h5 h6 hfp h7
  go_enter Tryz.func107, Tryz.ntmps107
  go_wp2_with (first
    | (go_at_call 174
       refine HM.out.mono ?_
       rintro e w2 ⟨rfl, hb2⟩
       obtain ⟨a1, a2, a3⟩ := box_cells hb2 H1.out
       have HB2 := Lib.hid hb2
       clear hb2)
    | (go_at_call 128
       refine (serList_any S _ _ fs w2 (HS.out.below HB2.out) (by omega)).mono ?_
       rintro e w3 ⟨A, c, fq, rfl, hq, hf, hb3⟩
       have HQ := Lib.hid hq
       have HF := Lib.hid hf
       have HB3 := Lib.hid hb3
       clear hq hf hb3))
  go_ret
  have hs := HB2.out.size
  exact ⟨A, c, fq, rfl, HQ.out, fun k hk => Nat.le_trans hs (HF.out k hk), bthen HB2.out HB3.out⟩
end

end Go.Proofs.YtmniiodpbebnmaaGreat
