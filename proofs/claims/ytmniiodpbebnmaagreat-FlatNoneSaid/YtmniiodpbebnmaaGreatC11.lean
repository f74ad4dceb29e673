/- The world of the reference's store: what stays so of it, whatever is done (plain); node.Samples; slices.AppendSeq, slices.Collect at keys, against whatever iterator that keeps its word; fifo's All and List at keys; ring.At, All, List; history.List; node.Past, Policy, Frozen; The reference's Same at samples and at decisions, where both lists are the same; stripe.Stripe in memory: New, made; a nil stripe: Ingest, Trim, Note, Get, Keys, Len, Version, Freeze; stripe.Set of a nil stripe; Contracts of the shelf, laid at this program (by lay-plain.mjs; numbers by name). -/
import Derived.Test.YtmniiodpbebnmaaGreatC10
import Derived.Test.YtmniiodpbebnmaaGreatC09
import Derived.Test.YtmniiodpbebnmaaGreatC03
import Derived.RangeFuncNested
import Derived.RangeFuncBound
import Derived.RangeFuncCalls
import Derived.RangeFuncLeaves
import Derived.Shelf.Abstract
import Derived.Shelf.RegionOpen
import Derived.WalkKit
import Derived.OwnWalkIn
import Derived.TacticsInMore
import Derived.LoopNIn
import Derived.LoopIn
import Derived.Maps.AppendAt
import Derived.BigRegion
import Derived.Test.YtmniiodpbebnmaaGreatC06
import Derived.Test.YtmniiodpbebnmaaGreatC05
import Derived.Test.YtmniiodpbebnmaaGreatC04
import Derived.Laws.Cover3
import Derived.Test.YtmniiodpbebnmaaGreatC01
import Derived.Shelf.SlSortCmp.NoneTotal
namespace Go.Proofs.YtmniiodpbebnmaaGreat

section
set_option linter.unusedSimpArgs false
set_option linter.unusedVariables false
open Go.RowKit Go.Lib

structure ItOk (rs rh n : Nat) (p : Itm) : Prop where
  nd : NdOk rs rh p.2
  ver : p.2.ver ≤ n
  key : p.1.ok
  smp : smpI p.2.smp
  val : ∀ s ∈ p.2.smp, 0 ≤ s.1 ∧ 0 ≤ s.2
  pol : p.2.pol.ok
theorem ItOk.mono {rs rh n m : Nat} {p : Itm} (h : ItOk rs rh n p) (hm : n ≤ m) : ItOk rs rh m p := ⟨h.nd, Nat.le_trans h.ver hm, h.key, h.smp, h.val, h.pol⟩
theorem pol0_ok : pol0.ok := by unfold Pol.ok I64 pol0; dsimp only; omega
theorem nd0_ok (rs rh n : Nat) (k : Ky) (hk : k.ok) : ItOk rs rh n (k, nd0) :=
  ⟨⟨List.Pairwise.nil, Nat.zero_le _, Nat.zero_le _⟩, Nat.zero_le _, hk, (fun s hs => by cases hs), (fun s hs => by cases hs), pol0_ok⟩
theorem getP_ok {rs rh n : Nat} {l : List Itm} (h : ∀ p ∈ l, ItOk rs rh n p) (k : Ky) (hk : k.ok) : ItOk rs rh n (k, getP l k) := by
  unfold getP
  split
  · exact nd0_ok rs rh n k hk
  · rename_i x hx
    split
    · have hm := List.mem_of_getElem? hx
      exact ⟨(h x hm).nd, (h x hm).ver, hk, (h x hm).smp, (h x hm).val, (h x hm).pol⟩
    · exact nd0_ok rs rh n k hk
theorem putS_mem {l : List Smp} {room : Int} {x s : Smp} (h : s ∈ putS l room x) : s ∈ l ∨ s = x := by
  unfold putS at h
  split at h
  · rcases List.mem_or_eq_of_mem_set h with h | h
    · exact .inl h
    · exact .inr h
  · have h2 : s ∈ insS l x := by
      unfold cutS at h
      split at h
      · exact List.mem_of_mem_drop h
      · exact h
    unfold insS at h2
    simp only [List.mem_append, List.mem_cons, List.mem_singleton, List.not_mem_nil, or_false] at h2
    rcases h2 with h2 | h2 | h2
    · exact .inl (List.mem_of_mem_take h2)
    · exact .inr h2
    · exact .inl (List.mem_of_mem_drop h2)
/-- An act's numbers are such. -/
structure ActOk (a : Act17) : Prop where
  smp : I64 a.smp.1 ∧ I64 a.smp.2
  pol : a.pol.ok
theorem do17_ok {rs rh n : Nat} {k : Ky} {x : Nd} {a : Act17} (h : ItOk rs rh n (k, x)) (ha : ActOk a) (h1 : 1 ≤ rh) : ItOk rs rh (n + 1) (k, (do17 rs rh x a).1) := by
  have hver := h.ver
  have hnd := h.nd
  dsimp only at hver hnd
  unfold do17
  split
  · split
    · rename_i _ hs
      refine ⟨⟨rising_put hnd.ris _ _, putS_len hnd.len _, hnd.past⟩, Nat.succ_le_succ hver, h.key, fun s hs' => ?_, fun s hs' => ?_, h.pol⟩
      · rcases putS_mem hs' with h9 | h9
        · exact h.smp s h9
        · rw [h9]; exact ha.smp
      · rcases putS_mem hs' with h9 | h9
        · exact h.val s h9
        · rw [h9]
          unfold serE at hs
          split at hs
          · cases hs
          · split at hs
            · cases hs
            · exact ⟨by omega, by omega⟩
    · exact h.mono (Nat.le_succ n)
  · split
    · split
      · exact h.mono (Nat.le_succ n)
      · exact ⟨⟨rising_drop hnd.ris _, Nat.le_trans (by simp) hnd.len, hnd.past⟩, Nat.succ_le_succ hver, h.key, fun s hs => h.smp s (List.mem_of_mem_drop hs), fun s hs => h.val s (List.mem_of_mem_drop hs), h.pol⟩
    · split
      · split
        · exact ⟨⟨hnd.ris, hnd.len, hnd.past⟩, Nat.succ_le_succ hver, h.key, h.smp, h.val, ha.pol⟩
        · exact h.mono (Nat.le_succ n)
      · split
        · refine ⟨⟨hnd.ris, hnd.len, ?_⟩, Nat.succ_le_succ hver, h.key, h.smp, h.val, h.pol⟩
          show (pushL x.past rh a.adv).length ≤ rh
          unfold pushL
          have := hnd.past
          split
          · simp; omega
          · simp; omega
        · exact h.mono (Nat.le_succ n)
theorem outP_mem {l : List Itm} {k : Ky} {y : Nd} {p : Itm} (h : p ∈ outP l k y) : p ∈ l ∨ p = (k, y) := by
  unfold outP at h
  rcases List.mem_append.1 h with h | h
  · rcases List.mem_append.1 h with h | h
    · exact .inl (List.mem_of_mem_take h)
    · exact .inr (List.mem_singleton.1 h)
  · exact .inl (List.mem_of_mem_drop h)
theorem oneP_ok {c : Cfg} {rs rh n : Nat} {l : List Itm} {k : Ky} {a : Act17} (h : ∀ p ∈ l, ItOk rs rh n p) (hk : k.ok) (ha : ActOk a) (h1 : 1 ≤ rh) : ∀ p ∈ (oneP c rs rh l k a).1, ItOk rs rh (n + 1) p := by
  intro p hp
  unfold oneP at hp
  dsimp only at hp
  split at hp
  · exact (h p hp).mono (Nat.le_succ n)
  · split at hp
    · exact (h p hp).mono (Nat.le_succ n)
    · split at hp
      · exact (h p hp).mono (Nat.le_succ n)
      · rcases outP_mem hp with h9 | h9
        · exact (h p h9).mono (Nat.le_succ n)
        · rw [h9]; exact do17_ok (getP_ok h k hk) ha h1
theorem oneP_len {c : Cfg} {rs rh : Nat} {l : List Itm} {k : Ky} {a : Act17} (hc : c.lo ≤ 256) (h : l.length ≤ 256) : (oneP c rs rh l k a).1.length ≤ 256 := by
  unfold oneP
  dsimp only
  split
  · exact h
  · split
    · exact h
    · split
      · exact h
      · rename_i _ _ h3
        unfold outP
        have hat : atP l k ≤ l.length := by
          unfold atP
          exact (List.takeWhile_sublist _).length_le
        cases hh : hasP l k
        · rw [hh] at h3
          have : ¬ c.lo ≤ (l.length : Nat) := fun h9 => h3 ⟨rfl, h9⟩
          simp
          omega
        · have hlt : atP l k < l.length := by
            unfold hasP at hh
            cases h9 : l[atP l k]? with
            | none => rw [h9] at hh; cases hh
            | some z => exact (List.getElem?_eq_some_iff.1 h9).1
          simp
          omega
/-- What stays so of a world. -/
structure WdOk (c : Cfg) (rs rh n : Nat) (w : Wd) : Prop where
  len : (w.st.length : Int) = c.st
  room : ∀ l ∈ w.st, l.length ≤ 256
  it : ∀ l ∈ w.st, ∀ p ∈ l, ItOk rs rh n p
  cuts : w.cuts.length ≤ n
  cit : ∀ q ∈ w.cuts, q.items.length ≤ 20000 ∧ ∀ p ∈ q.items, ItOk rs rh n p
  cep : ∀ q ∈ w.cuts, 0 ≤ q.ep ∧ q.ep ≤ n
  ep : 0 ≤ w.ep ∧ w.ep ≤ n
theorem WdOk.mono {c : Cfg} {rs rh n m : Nat} {w : Wd} (h : WdOk c rs rh n w) (hm : n ≤ m) : WdOk c rs rh m w :=
  ⟨h.len, h.room, fun l hl p hp => (h.it l hl p hp).mono hm, Nat.le_trans h.cuts hm, fun q hq => ⟨(h.cit q hq).1, fun p hp => ((h.cit q hq).2 p hp).mono hm⟩, fun q hq => ⟨(h.cep q hq).1, by have := (h.cep q hq).2; omega⟩, ⟨h.ep.1, by have := h.ep.2; omega⟩⟩
theorem newW_ok (c : Cfg) (rs rh : Nat) (k : Nat) (hk : (k : Int) = c.st) : WdOk c rs rh 0 (newW k) :=
  ⟨by simpa [newW] using hk, (fun l hl => by rw [List.eq_of_mem_replicate hl]; exact Nat.zero_le _), (fun l hl p hp => by rw [List.eq_of_mem_replicate hl] at hp; cases hp), Nat.le_refl _, (fun q hq => by cases hq), (fun q hq => by cases hq), ⟨Int.le_refl _, Int.le_refl _⟩⟩
theorem oneW_ok {c : Cfg} {rs rh n : Nat} {w : Wd} {id : ByteArray} {a : Act17} (h : WdOk c rs rh n w) (hc : c.lo ≤ 256) (ha : ActOk a) (h1 : 1 ≤ rh) : WdOk c rs rh (n + 1) (oneW c rs rh w id a).1 := by
  have hl : ∀ p ∈ w.st.getD (atW c id) [], ItOk rs rh n p := by
    intro p hp
    by_cases hlt : atW c id < w.st.length
    · rw [List.getD_eq_getElem?_getD, List.getElem?_eq_getElem hlt] at hp
      exact h.it _ (List.getElem_mem hlt) p hp
    · rw [List.getD_eq_getElem?_getD, List.getElem?_eq_none (by omega)] at hp
      cases hp
  have hl2 : (w.st.getD (atW c id) []).length ≤ 256 := by
    by_cases hlt : atW c id < w.st.length
    · rw [List.getD_eq_getElem?_getD, List.getElem?_eq_getElem hlt]
      exact h.room _ (List.getElem_mem hlt)
    · rw [List.getD_eq_getElem?_getD, List.getElem?_eq_none (by omega)]
      exact Nat.zero_le _
  have hm := h.mono (Nat.le_succ n)
  refine ⟨by show (((w.st.set _ _).length : Nat) : Int) = c.st; simpa using h.len, fun l hlm => ?_, fun l hlm => ?_, hm.cuts, hm.cit, hm.cep, hm.ep⟩
  · rcases List.mem_or_eq_of_mem_set hlm with h9 | h9
    · exact h.room l h9
    · rw [h9]; exact oneP_len hc hl2
  · rcases List.mem_or_eq_of_mem_set hlm with h9 | h9
    · exact hm.it l h9
    · rw [h9]; exact oneP_ok hl (keyK_ok id) ha h1
theorem trimR_ok {rs rh n : Nat} {p : Itm} (h : ItOk rs rh n p) (cut : Int) : ItOk rs rh (n + 1) (p.1, trimR cut p.2) := by
  have hver := h.ver
  unfold trimR
  split
  · exact (show ItOk rs rh n (p.1, p.2) from h).mono (Nat.le_succ n)
  · exact ⟨⟨rising_drop h.nd.ris _, Nat.le_trans (by simp) h.nd.len, h.nd.past⟩, Nat.succ_le_succ hver, h.key, fun s hs => h.smp s (List.mem_of_mem_drop hs), fun s hs => h.val s (List.mem_of_mem_drop hs), h.pol⟩
theorem trimW_ok {c : Cfg} {rs rh n : Nat} {w : Wd} {cut : Int} (h : WdOk c rs rh n w) : WdOk c rs rh (n + 1) (trimW w cut) := by
  have hm := h.mono (Nat.le_succ n)
  refine ⟨by show (((w.st.map _).length : Nat) : Int) = c.st; simpa using h.len, fun l hlm => ?_, fun l hlm p hp => ?_, hm.cuts, hm.cit, hm.cep, hm.ep⟩
  · obtain ⟨l2, h2, rfl⟩ := List.mem_map.1 hlm
    simpa using h.room l2 h2
  · obtain ⟨l2, h2, rfl⟩ := List.mem_map.1 hlm
    obtain ⟨q, hq, rfl⟩ := List.mem_map.1 hp
    exact trimR_ok (h.it l2 h2 q hq) cut
theorem flat_len : ∀ (l : List (List Itm)), (∀ x ∈ l, x.length ≤ 256) → l.flatten.length ≤ 256 * l.length
  | [], _ => Nat.le_refl _
  | a :: l, h => by
    have h1 := h a (List.mem_cons_self ..)
    have h2 := flat_len l (fun x hx => h x (List.mem_cons_of_mem _ hx))
    simp only [List.flatten_cons, List.length_append, List.length_cons]
    omega
theorem allW_len {c : Cfg} {rs rh n : Nat} {w : Wd} (h : WdOk c rs rh n w) (hst : c.st ≤ 64) : (allW w).length ≤ 16384 := by
  have h1 := flat_len w.st h.room
  have h2 := h.len
  unfold allW
  omega
theorem allW_it {c : Cfg} {rs rh n : Nat} {w : Wd} (h : WdOk c rs rh n w) : ∀ p ∈ allW w, ItOk rs rh n p := fun p hp => by
  obtain ⟨l, hl, hp2⟩ := List.mem_flatten.1 hp
  exact h.it l hl p hp2
theorem snapW_ok {c : Cfg} {rs rh n : Nat} {w : Wd} (h : WdOk c rs rh n w) (hst : c.st ≤ 64) : WdOk c rs rh (n + 1) (snapW w).1 := by
  have hm := h.mono (Nat.le_succ n)
  have hep := h.ep
  unfold snapW
  split
  · exact hm
  · refine ⟨hm.len, hm.room, hm.it, ?_, fun q hq => ?_, fun q hq => ?_, ?_⟩
    · show (w.cuts ++ [_]).length ≤ n + 1
      have := h.cuts
      simp; omega
    · rcases List.mem_append.1 hq with h9 | h9
      · exact hm.cit q h9
      · rw [List.mem_singleton.1 h9]
        exact ⟨by have := allW_len h hst; show (allW w).length ≤ 20000; omega, fun p hp => (allW_it h p hp).mono (Nat.le_succ n)⟩
    · rcases List.mem_append.1 hq with h9 | h9
      · exact hm.cep q h9
      · rw [List.mem_singleton.1 h9]
        show 0 ≤ w.ep + 1 ∧ w.ep + 1 ≤ ((n + 1 : Nat) : Int)
        omega
    · show 0 ≤ w.ep + 1 ∧ w.ep + 1 ≤ ((n + 1 : Nat) : Int)
      omega
theorem freeW_ok {c : Cfg} {rs rh n : Nat} {w : Wd} {k : Int} (h : WdOk c rs rh n w) : WdOk c rs rh (n + 1) (freeW w k).1 := by
  have hm := h.mono (Nat.le_succ n)
  unfold freeW
  split
  · exact hm
  · refine ⟨hm.len, hm.room, hm.it, ?_, fun q hq => ?_, fun q hq => ?_, hm.ep⟩
    · show (w.cuts.set _ _).length ≤ n + 1
      have := h.cuts
      simp; omega
    · rcases List.mem_or_eq_of_mem_set hq with h9 | h9
      · exact hm.cit q h9
      · rw [h9]; exact ⟨Nat.zero_le _, (fun p hp => by cases hp)⟩
    · rcases List.mem_or_eq_of_mem_set hq with h9 | h9
      · exact hm.cep q h9
      · rw [h9]; show (0 : Int) ≤ 0 ∧ (0 : Int) ≤ ((n + 1 : Nat) : Int); omega
theorem doW_ok {c : Cfg} {rs rh n : Nat} {w : Wd} {x : CallD} (h : WdOk c rs rh n w) (hst : c.st ≤ 64) (hlo : c.lo ≤ 256) (h1 : 1 ≤ rh) (hx : x.ok) : WdOk c rs rh (n + 1) (doW c rs rh w x).1 := by
  have hm := h.mono (Nat.le_succ n)
  obtain ⟨x1, x2, x3, x4, x5, x6⟩ := hx
  unfold doW
  split
  · exact hm
  · split
    · exact oneW_ok h hlo ⟨⟨x3, x4⟩, pol0_ok⟩ h1
    · split
      · exact trimW_ok h
      · split
        · exact snapW_ok h hst
        · split
          · exact freeW_ok h
          · split
            · exact hm
            · split
              · exact oneW_ok h hlo ⟨⟨i64_0, i64_0⟩, x6⟩ h1
              · split
                · exact hm
                · split
                  · exact hm
                  · exact ⟨hm.len, hm.room, hm.it, hm.cuts, hm.cit, hm.cep, hm.ep⟩
theorem noteW_ok {c : Cfg} {rs rh n : Nat} {w : Wd} {id : ByteArray} {a : Adv} (h : WdOk c rs rh n w) (hlo : c.lo ≤ 256) (h1 : 1 ≤ rh) : WdOk c rs rh (n + 1) (noteW c rs rh w id a).1 := by
  unfold noteW
  split
  · exact h.mono (Nat.le_succ n)
  · exact oneW_ok h hlo ⟨⟨i64_0, i64_0⟩, pol0_ok⟩ h1
end

section
set_option linter.unusedSimpArgs false
set_option linter.unusedVariables false
open Go.RowKit Go.Lib Go.Sort
end

section
set_option linter.unusedSimpArgs false
set_option linter.unusedVariables false
open Go.RowKit Go.Lib Go.Shelf
attribute [local go_sem] Oper.semAt_some

/-- What a round keeps. -/
def Kp (n₀ : Nat) (W W' : World) : Prop := Below n₀ W W' ∧ KeepsWalks W W'
theorem kp_t {n₀ : Nat} {A B C : World} (h : Kp n₀ A B) (k : Kp n₀ B C) : Kp n₀ A C := ⟨h.1.trans k.1, h.2.trans k.2⟩
theorem kp_b {n₀ : Nat} {w : World} (hn : n₀ ≤ w.heap.size) (W : World) (l : Nat) (o o' : Obj) (hl : w.heap.size ≤ l) (h : W.heap[l]? = some o) (hc : o.isCells = false) (hw : o.isWalk = false) : Kp n₀ W (W.putObj l o') :=
  ⟨belowK_b hn W l o o' hl h hc hw, walksK_b (w := w) W l o o' hl h hc hw⟩

/-- A key in a block of its own. -/
def KBox (W : World) (B : Nat) (x : Ky) : Prop := W.heap[B]? = some (.cells #[.int .u64 x.1, .int .u64 x.2] 74 (0, 0))
theorem KBox.lt {W : World} {B : Nat} {x : Ky} (h : KBox W B x) : B < W.heap.size := (Array.getElem?_eq_some_iff.1 h).1
theorem KBox.c0 {W : World} {B : Nat} {x : Ky} (h : KBox W B x) : W.cell? ⟨B, 0, none⟩ = some (.int .u64 x.1) := by simp [World.cell?, show W.heap[B]? = _ from h]
theorem KBox.c1 {W : World} {B : Nat} {x : Ky} (h : KBox W B x) : W.cell? ⟨B, 1, none⟩ = some (.int .u64 x.2) := by simp [World.cell?, show W.heap[B]? = _ from h]
theorem KBox.kept {W W' : World} {B : Nat} {x : Ky} {row : Option Nat} (h : KBox W B x) (hg : W.grownBy W' row) (hne : some B ≠ row) : KBox W' B x := (hg.block B h.lt hne).trans h
theorem kbox_own (B : Nat) (x : Ky) : Own (fun (_ : Unit) W => KBox W B x) := fun s X Y row hs hg hrow =>
  hs.kept hg (fun e' => by obtain ⟨o, ho, hc⟩ := hrow B e'.symm; rw [show X.heap[B]? = _ from hs] at ho; cases ho; cases hc)

abbrev encA (x : Ky) : Array Value := #[.agg #[.int .u64 x.1, .int .u64 x.2]]

set_option maxRecDepth 100000 in
set_option maxHeartbeats 2000000 in
theorem appendSeq_in (n : Nat) (hn : 2 ≤ n) (gf : Nat) (lb : Array Value) (eg : ∀ args w, (callFunc gf args).run Tryz.prog w = .ok (.enter gf args) w)
    (S Sp : List Ky → Prop) (N : Nat) (hN : N ≤ 1000000) (w : World) (hseq : ∀ w', Below w.heap.size w w' → SeqStopsK Fence.wide (n - 1) Tryz.prog gf lb encA (Kp w.heap.size) S Sp N w') :
    CallsIn Fence.wide n Tryz.prog 295 #[.slice none 0 0, .func (.func gf) #[] lb] w fun e w' => ∃ (v : Value) (ss : List Ky), e = .returned v ∧ S ss ∧ w'.ownsRow w.heap.size 74 2 v ss.length (cellsOfRow keyC ss) ∧ Below w.heap.size w w' := by
  have h1 : 1 ≤ n := by omega
  obtain ⟨i0, hi, hz0, hz1, hz2⟩ := info_parts key_info
  refine callsIn_of_wp_marks Tryz.func295 rfl trivial ?_ rfl
  simp only [Tryz.ntmps295, List.size_toArray, List.length_cons, List.length_nil, Nat.reduceAdd, Nat.reduceSub, Array.replicate_succ, Array.replicate_zero, List.push_toArray, List.append_toArray, List.nil_append, List.cons_append]
  gi_wp2
  have bS := Boxed.new w 92 (.slice none 0 0)
  have hB0 : Below w.heap.size w (w.alloc (.cells #[.slice none 0 0] 92)) := (Below.refl _ w).alloc (Nat.le_refl _) _
  have hsz : (w.alloc (.cells #[.slice none 0 0] 92)).heap.size = w.heap.size + 1 := by simp
  obtain ⟨W0, hW0⟩ : ∃ W0, w.alloc (.cells #[.slice none 0 0] 92) = W0 := ⟨_, rfl⟩
  rw [hW0] at bS hB0 hsz ⊢
  clear hW0
  refine wpIn_rangeFunc_ownH rfl h1 (gf := gf) (lb := lb) rfl trivial eg (hseq W0 hB0) kp_t (kp_b (by omega)) (Below.refl _ _) (fun _ => rfl)
    (fun pre W => (∃ v, Boxed W w.heap.size 92 v ∧ W.ownsRow w.heap.size 74 2 v pre.length (cellsOfRow keyC pre) ∧ True) ∧ Below w.heap.size w W)
    (fun _ _ _ => False)
    (OwnFrom.and (Own.from (holdsRow_own w.heap.size w.heap.size 92 74 2 (fun pre => pre.length) (fun pre => cellsOfRow keyC pre) (fun _ _ => True)) _) (ownFrom_below (Nat.le_refl _) (by omega)))
    (fun _ _ _ _ _ hs _ _ => hs)
    ⟨⟨_, bS, World.ownsRow_nil _ _ _ _, trivial⟩, hB0⟩
    (fun x a' W => ∃ Bx, w.heap.size < Bx ∧ KBox W Bx x ∧ a' = { tmps := #[.slice none 0 0, .func (.func gf) #[] lb, .pointer (some ⟨w.heap.size, 0, none⟩), undef, .slice none 0 0, .pointer (some ⟨Bx, 0, none⟩), .func (.func gf) #[] lb, .agg #[.int .u64 x.1, .int .u64 x.2], undef, undef, undef, undef, undef], defers := [] })
    (fun x a' _ X Y row hs hg hr => by obtain ⟨Bx, h1, h2, h3⟩ := hs; exact ⟨Bx, h1, kbox_own Bx x () X Y row h2 hg (fun r e => (hr r e).2), h3⟩)
    ?assign ?body ?done ?stop
  case assign =>
    rintro l pre x W K ⟨⟨v, hv, hrow, _⟩, hB⟩ hK
    have hs := hB.size
    gi_wp2
    have hW : Below W.heap.size W (W.alloc (.cells #[.int .u64 x.1, .int .u64 x.2] 74)) := (Below.refl _ W).alloc (Nat.le_refl _) _
    exact hK _ _ ((KeepsOthers.alloc _ _).from _) ⟨hW.mono hs, KeepsWalks.alloc _ _⟩
      ⟨⟨v, (hW.block _ hv.lt).trans hv, own_below hrow hW, trivial⟩, hB.trans (hW.mono hs)⟩ ⟨W.heap.size, hv.lt, World.alloc_heap_new W _, rfl⟩
  case body =>
    rintro l pre x a' W hl ⟨r, hr⟩ ⟨⟨v, hv, hrow, _⟩, hB⟩ ⟨Bx, hBx, bX, rfl⟩ hlt
    have hc := hv.cell
    have k0 := bX.c0
    have k1 := bX.c1
    have hs := hB.size
    have hpl : pre.length < 1000000 := by omega
    gi_wp2_with (gi_at_builtin; refine wpListIn_append_own _ rfl _ _ 92 rfl w.heap.size 74 i0 (.agg #[.int .u64 0, .int .u64 0]) 2 16 Tryz.underlying92 hi hz0 hz1 hz2 rfl (by decide) _ _ _ rfl (hrow.alloc _) ⟨W.heap.size, 0, none⟩ 1 1 (keyC x) rfl rfl (news_new _ _ _ _ rfl) (keyC_one x) (by simp only [maxLen]; omega) (by omega) (by simp; omega) ?_; intro v' w1 hown' hgrow _; obtain ⟨g', cap', rfl⟩ := ownsRow_succ hown'; obtain ⟨hv1, hv2, hr2, hk2, hb2⟩ := hv.appended (by decide) hrow hB.size (Nat.le_refl _) hown' hgrow; have hc1 := hv1.cell; have hf1 := hv1.frozen)
    have e1 : (pre ++ [x]).length = pre.length + 1 := by simp
    have e2 : cellsOfRow keyC (pre ++ [x]) = cellsOfRow keyC pre ++ keyC x := by rw [cellsOfRow_append]; simp [cellsOfRow]
    exact ⟨hk2.from _, ⟨hb2, hk2.walks⟩, ⟨_, hv2, by rw [e1, e2]; exact hr2, trivial⟩, hB.trans hb2⟩
  case done =>
    rintro D ys W hD hS ⟨⟨v, hv, hrow, _⟩, hB⟩ hK
    have hc := hv.cell
    gi_wp2
    refine ⟨by simp, .inl ⟨_, _, rfl, run_takeDeferred hK, ?_⟩⟩
    exact ⟨_, results_tmp rfl _ _ _, v, ys, rfl, hS, ownsRow_putObj hrow _ hK rfl, hB.trans (belowK_b (w := w) (Nat.le_refl _) W D _ _ (by omega) hK rfl rfl)⟩
  case stop =>
    rintro D c pre W _ _ h _
    exact h.elim

theorem stops_later {n gf : Nat} {lb : Array Value} {Kq : World → World → Prop} {S Sp : List Ky → Prop} {N : Nat} {w w' : World} (hb : Below w.heap.size w w') (h : SeqStopsK Fence.wide n Tryz.prog gf lb encA Kq S Sp N w) : SeqStopsK Fence.wide n Tryz.prog gf lb encA Kq S Sp N w' :=
  fun l J Jx W hW h1 h2 h3 h4 => h l J Jx W (hb.trans (hW.mono hb.size)) h1 h2 h3 h4

set_option maxRecDepth 100000 in
set_option maxHeartbeats 2000000 in
theorem collect_in (n : Nat) (hn : 3 ≤ n) (gf : Nat) (lb : Array Value) (eg : ∀ args w, (callFunc gf args).run Tryz.prog w = .ok (.enter gf args) w)
    (S Sp : List Ky → Prop) (N : Nat) (hN : N ≤ 1000000) (w : World) (hseq : SeqStopsK Fence.wide (n - 1 - 1) Tryz.prog gf lb encA (Kp w.heap.size) S Sp N w) :
    CallsIn Fence.wide n Tryz.prog 257 #[.func (.func gf) #[] lb] w fun e w' => ∃ (v : Value) (ss : List Ky), e = .returned v ∧ S ss ∧ w'.ownsRow w.heap.size 74 2 v ss.length (cellsOfRow keyC ss) ∧ Below w.heap.size w w' := by
  have h1 : 1 ≤ n := by omega
  have e11 : ∀ args w, (callFunc 295 args).run Tryz.prog w = .ok (.enter 295 args) w := enters_of Tryz.func295 (by kernel_rfl) rfl
  refine callsIn_of_wp Tryz.func257 rfl trivial ?_ rfl
  simp only [Tryz.ntmps257, List.size_toArray, List.length_cons, List.length_nil, Nat.reduceAdd, Nat.reduceSub, Array.replicate_succ, Array.replicate_zero, List.push_toArray, List.append_toArray, List.nil_append, List.cons_append]
  gi_wp2_with (refine ⟨trivial, ?_⟩; gi_at_call 295; refine (appendSeq_in (n - 1) (by omega) gf lb eg S Sp N hN _ (fun w' hb => stops_later hb hseq)).mono ?_; rintro e w' ⟨v, ss, rfl, hS, hrow, hb⟩)

  go_ret
  exact ⟨v, ss, rfl, hS, hrow, hb⟩
end

section
set_option linter.unusedSimpArgs false
set_option linter.unusedVariables false
open Go.RowKit Go.Lib Go.Shelf
attribute [local go_sem] Oper.semAt_some

def intOf : Value → Int
  | .int _ i => i
  | _ => 0

/-- A queue that lies there, to be read. -/
def FR (w : World) (g o : Nat) (vf vb : Value) (f b : List Ky) : Prop :=
  w.cell? ⟨g, o, none⟩ = some vf ∧ w.cell? ⟨g, o + 1, none⟩ = some vb ∧ RowIn 2 keyC w vf f ∧ RowIn 2 keyC w vb b
theorem FR.below {w w' : World} {g o : Nat} {vf vb : Value} {f b : List Ky} (h : FR w g o vf vb f b) (hb : Below w.heap.size w w') : FR w' g o vf vb f b := by
  have hlt : g < w.heap.size := World.block_lt_of_cell? w ⟨g, o, none⟩ h.1
  obtain ⟨h1, h2, h3, h4⟩ := h
  exact ⟨(hb.cell (p := ⟨g, o, none⟩) hlt).trans h1, (hb.cell (p := ⟨g, o + 1, none⟩) hlt).trans h2, h3.below hb, h4.below hb⟩

/-- What a list that a call lays is. -/
def Lists (w : World) (ss : List Ky) (e : Ending) (w' : World) : Prop :=
  ∃ v, e = .returned v ∧ w'.ownsRow w.heap.size 74 2 v ss.length (cellsOfRow keyC ss) ∧ Below w.heap.size w w'
end

section
set_option linter.unusedSimpArgs false
set_option linter.unusedVariables false
open Go.RowKit Go.Lib Go.Shelf
attribute [local go_sem] Oper.semAt_some

/-- What a round keeps: what lay, one block, and the walks. -/
def Kq (n₀ B : Nat) (W W' : World) : Prop := Below n₀ W W' ∧ (B < W.heap.size → W'.heap[B]? = W.heap[B]?) ∧ KeepsWalks W W'
/-- An advice in a block of its own. -/
def VBox (W : World) (B : Nat) (x : Adv) : Prop := W.heap[B]? = some (.cells #[.int .i64 x.tick, .int .i64 x.load, .int .i64 x.want, .int .i64 x.repl, .int .i64 x.why] 44 (0, 0))
theorem VBox.lt {W : World} {B : Nat} {x : Adv} (h : VBox W B x) : B < W.heap.size := (Array.getElem?_eq_some_iff.1 h).1
end

section
set_option linter.unusedSimpArgs false
set_option linter.unusedVariables false
open Go.RowKit Go.Lib
end

section
set_option linter.unusedSimpArgs false
set_option linter.unusedVariables false
open Go.RowKit Go.Lib Go.Sort

/-- What a stripe keeps at a key: a node's block, what it has, its footprint. -/
abbrev NE := Nat × Nd × List Nat
def neV (b : NE) : Value := .pointer (some ⟨b.1, 0, none⟩)
def apart (a b : List Nat) : Prop := ∀ k ∈ a, k ∉ b
def StripeIn (w : World) (T : Nat) (c : Cfg) (ver : Nat) (es : List (KO × NE)) (rs rh : Nat) (fp : List Nat) : Prop :=
  ∃ M, w.heap[T]? = some (.cells #[.map (some M), .int .i64 c.st, .int .i64 c.sa, .int .i64 c.lo, .int .i64 c.hi, .int .i64 (ver : Nat)] 232 (0, 0)) ∧ MapIn koV neV w M es ∧ (∀ p ∈ es, NodeIn w p.2.1 p.2.2.1 rs rh p.2.2.2) ∧
    (∀ p ∈ es, ∀ q ∈ es, p.1 ≠ q.1 → apart p.2.2.2 q.2.2.2) ∧ (∀ p ∈ es, T ∉ p.2.2.2 ∧ M ∉ p.2.2.2) ∧ T ≠ M ∧ fp = T :: M :: es.flatMap (fun p => p.2.2.2)
theorem StripeIn.kept {w w' : World} {T : Nat} {c : Cfg} {ver : Nat} {es : List (KO × NE)} {rs rh : Nat} {fp : List Nat} (h : StripeIn w T c ver es rs rh fp) (hb : ∀ r ∈ fp, w'.heap[r]? = w.heap[r]?) : StripeIn w' T c ver es rs rh fp := by
  obtain ⟨M, h1, h2, h3, h4, h5, h6, rfl⟩ := h
  exact ⟨M, (hb T (List.mem_cons_self ..)).trans h1, h2.block (hb M (List.mem_cons_of_mem _ (List.mem_cons_self ..))), fun p hp => (h3 p hp).kept (fun r hr => hb r (List.mem_cons_of_mem _ (List.mem_cons_of_mem _ (List.mem_flatMap.2 ⟨p, hp, hr⟩)))), h4, h5, h6, rfl⟩
theorem StripeIn.lt {w : World} {T : Nat} {c : Cfg} {ver : Nat} {es : List (KO × NE)} {rs rh : Nat} {fp : List Nat} (h : StripeIn w T c ver es rs rh fp) : ∀ r ∈ fp, r < w.heap.size := by
  obtain ⟨M, h1, h2, h3, h4, h5, h6, rfl⟩ := h
  intro r hr
  rcases List.mem_cons.1 hr with rfl | hr
  · exact (Array.getElem?_eq_some_iff.1 h1).1
  rcases List.mem_cons.1 hr with rfl | hr
  · exact h2.lt
  · obtain ⟨p, hp, hr⟩ := List.mem_flatMap.1 hr
    exact (h3 p hp).lt r hr
theorem StripeIn.below {w w' : World} {T : Nat} {c : Cfg} {ver : Nat} {es : List (KO × NE)} {rs rh : Nat} {fp : List Nat} (h : StripeIn w T c ver es rs rh fp) (hb : Below w.heap.size w w') : StripeIn w' T c ver es rs rh fp := h.kept (fun r hr => hb.block r (h.lt r hr))
end

section
set_option linter.unusedSimpArgs false
set_option linter.unusedVariables false
open Go.RowKit Go.Lib Go.Sort
end

section
set_option linter.unusedSimpArgs false
set_option linter.unusedVariables false
open Go.RowKit Go.Lib Go.Sort
end

section
set_option linter.unusedSimpArgs false
set_option linter.unusedVariables false
open Go.Shelf
def sortK_ren : Go.Shelf.Ren := ⟨fun | 6 => 167 | 15 => 206 | 14 => 218 | 28 => 253 | 29 => 254 | 20 => 261 | 21 => 262 | 22 => 263 | 23 => 264 | 24 => 265 | 25 => 266 | 26 => 267 | 27 => 268 | 46 => 298 | 47 => 289 | 48 => 290 | 49 => 299 | 50 => 300 | 57 => 308 | n => n, fun | 22 => 92 | 24 => 74 | 25 => 250 | 3 => 3 | 39 => 233 | 0 => 0 | 53 => 316 | 55 => 72 | 4 => 4 | 46 => 310 | 45 => 309 | 50 => 251 | 5 => 5 | 9 => 9 | 66 => 355 | 70 => 359 | 76 => 370 | 77 => 371 | n => n, fun | n => n⟩
theorem sortK : Go.Proofs.SlLaysF0.n6 Tryz.prog sortK_ren := {
  mixed := by kernel_rfl
  f6 := ⟨Tryz.f167.name, by decide, Tryz.func167.trans (congrArg some (by kernel_rfl))⟩
  f14 := ⟨Tryz.f218.name, by decide, Tryz.func218.trans (congrArg some (by kernel_rfl))⟩
  f15 := Tryz.func206.trans (congrArg some (by kernel_rfl))
  f20 := ⟨Tryz.f261.name, by decide, Tryz.func261.trans (congrArg some (by kernel_rfl))⟩
  f21 := ⟨Tryz.f262.name, by decide, Tryz.func262.trans (congrArg some (by kernel_rfl))⟩
  f22 := ⟨Tryz.f263.name, by decide, Tryz.func263.trans (congrArg some (by kernel_rfl))⟩
  f23 := ⟨Tryz.f264.name, by decide, Tryz.func264.trans (congrArg some (by kernel_rfl))⟩
  f24 := ⟨Tryz.f265.name, by decide, Tryz.func265.trans (congrArg some (by kernel_rfl))⟩
  f25 := ⟨Tryz.f266.name, by decide, Tryz.func266.trans (congrArg some (by kernel_rfl))⟩
  f26 := ⟨Tryz.f267.name, by decide, Tryz.func267.trans (congrArg some (by kernel_rfl))⟩
  f27 := ⟨Tryz.f268.name, by decide, Tryz.func268.trans (congrArg some (by kernel_rfl))⟩
  f28 := Tryz.func253.trans (congrArg some (by kernel_rfl))
  f29 := Tryz.func254.trans (congrArg some (by kernel_rfl))
  f46 := ⟨Tryz.f298.name, by decide, Tryz.func298.trans (congrArg some (by kernel_rfl))⟩
  f47 := Tryz.func289.trans (congrArg some (by kernel_rfl))
  f48 := Tryz.func290.trans (congrArg some (by kernel_rfl))
  f49 := ⟨Tryz.f299.name, by decide, Tryz.func299.trans (congrArg some (by kernel_rfl))⟩
  f50 := ⟨Tryz.f300.name, by decide, Tryz.func300.trans (congrArg some (by kernel_rfl))⟩
  f57 := ⟨Tryz.f308.name, by decide, Tryz.func308.trans (congrArg some (by kernel_rfl))⟩
  t0 := Tryz.underlying0
  a0 := Tryz.isAgg0
  z0 := Tryz.sizeOf0
  v0 := Tryz.zeroValue0
  t3 := Tryz.underlying3
  a3 := Tryz.isAgg3
  z3 := Tryz.sizeOf3
  v3 := Tryz.zeroValue3
  t4 := Tryz.underlying4
  a4 := Tryz.isAgg4
  z4 := Tryz.sizeOf4
  v4 := Tryz.zeroValue4
  t5 := Tryz.underlying5
  a5 := Tryz.isAgg5
  z5 := Tryz.sizeOf5
  v5 := Tryz.zeroValue5
  t9 := Tryz.underlying9
  a9 := Tryz.isAgg9
  z9 := Tryz.sizeOf9
  v9 := Tryz.zeroValue9
  t22 := Tryz.underlying92
  a22 := Tryz.isAgg92
  z22 := Tryz.sizeOf92
  v22 := Tryz.zeroValue92
  t25 := Tryz.underlying250
  a25 := Tryz.isAgg250
  z25 := Tryz.sizeOf250
  v25 := Tryz.zeroValue250
  t39 := Tryz.underlying233
  a39 := Tryz.isAgg233
  z39 := Tryz.sizeOf233
  v39 := Tryz.zeroValue233
  t45 := Tryz.underlying309
  a45 := Tryz.isAgg309
  z45 := Tryz.sizeOf309
  v45 := Tryz.zeroValue309
  t46 := Tryz.underlying310
  a46 := Tryz.isAgg310
  z46 := Tryz.sizeOf310
  v46 := Tryz.zeroValue310
  t50 := Tryz.underlying251
  a50 := Tryz.isAgg251
  z50 := Tryz.sizeOf251
  v50 := Tryz.zeroValue251
  t53 := Tryz.underlying316
  a53 := Tryz.isAgg316
  z53 := Tryz.sizeOf316
  v53 := Tryz.zeroValue316
  t55 := Tryz.underlying72
  a55 := Tryz.isAgg72
  z55 := Tryz.sizeOf72
  v55 := Tryz.zeroValue72
  t66 := Tryz.underlying355
  a66 := Tryz.isAgg355
  z66 := Tryz.sizeOf355
  v66 := Tryz.zeroValue355
  t70 := Tryz.underlying359
  a70 := Tryz.isAgg359
  z70 := Tryz.sizeOf359
  v70 := Tryz.zeroValue359
  t76 := Tryz.underlying370
  a76 := Tryz.isAgg370
  z76 := Tryz.sizeOf370
  v76 := Tryz.zeroValue370
  t77 := Tryz.underlying371
  a77 := Tryz.isAgg371
  z77 := Tryz.sizeOf371
  v77 := Tryz.zeroValue371 }
end

end Go.Proofs.YtmniiodpbebnmaaGreat
