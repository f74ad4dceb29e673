/- node.Node in memory: made, New, own; node.Put, Trim, Set, Note; the laws of a node's parts; node.Set, Note; node.Set; node.Trim; The reference's chapters 8, 12, 14: Right; Put and Trim of samples; Put of decisions; The reference's chapter 8: Put of a sample; The reference's Rising, walked; The reference's items of a stripe: At, Has; The reference's items of a stripe: Has, Get, With; The reference's items of a stripe: Get, With; The reference's items of a stripe: With; The reference's Right of a policy; The reference's Do of a workload; The reference's Do of a workload, its other kinds; The reference's Do of a workload: all kinds in one; The reference's Do of a stripe's items; The reference's Do of a stripe's items: what is done to one item; The reference's Trim of a stripe's items; Walk of fnv.bytes; Walks of fnv's Sum64, Key, Fold and route's Bits, Of. -/
import Derived.Test.YtmniiodpbebnmaaGreatC08
import Derived.Test.YtmniiodpbebnmaaGreatC02
import Derived.Laws.AppendOwnNone
import Derived.Test.YtmniiodpbebnmaaGreatC01
import Derived.Deep.DeepCutAuto
import Derived.Test.YtmniiodpbebnmaaGreatC07
namespace Go.Proofs.YtmniiodpbebnmaaGreat

section
set_option linter.unusedSimpArgs false
set_option linter.unusedVariables false
open Go.RowKit Go.Lib Go.Sort

/-- A workload. -/
structure Nd where
  pol : Pol
  ruled : Bool
  ver : Nat
  smp : List Smp
  past : List Adv
  frz : Bool
def pol0 : Pol := ⟨0, 0, 0, 0, 0, 0⟩
def nd0 : Nd := ⟨pol0, false, 0, [], [], false⟩
def ndC (x : Nd) (S H : Nat) : Array Value := #[.int .i64 x.pol.mn, .int .i64 x.pol.mx, .int .i64 x.pol.tg, .int .i64 x.pol.tol, .int .i64 x.pol.win, .int .i64 x.pol.hold, .bool x.ruled, .int .i64 (x.ver : Nat), .pointer (some ⟨S, 0, none⟩), .pointer (some ⟨H, 0, none⟩), .bool x.frz]
def NodeIn (w : World) (N : Nat) (x : Nd) (rs rh : Nat) (fp : List Nat) : Prop :=
  ∃ S fs H fh, w.heap[N]? = some (.cells (ndC x S H) 258 (0, 0)) ∧ SerIn w S x.smp (rs : Nat) fs ∧ HistIn w H x.past rh fh ∧ N ∉ fs ∧ N ∉ fh ∧ (∀ k ∈ fs, k ∉ fh) ∧ fp = N :: (fs ++ fh) ∧ risingS x.smp ∧ x.smp.length ≤ rs
theorem NodeIn.kept {w w' : World} {N : Nat} {x : Nd} {rs rh : Nat} {fp : List Nat} (h : NodeIn w N x rs rh fp) (hb : ∀ r ∈ fp, w'.heap[r]? = w.heap[r]?) : NodeIn w' N x rs rh fp := by
  obtain ⟨S, fs, H, fh, h1, h2, h3, h4, h5, h6, rfl, h7⟩ := h
  exact ⟨S, fs, H, fh, (hb N (List.mem_cons_self ..)).trans h1, h2.kept (fun r hr => hb r (List.mem_cons_of_mem _ (List.mem_append_left _ hr))), h3.kept (fun r hr => hb r (List.mem_cons_of_mem _ (List.mem_append_right _ hr))), h4, h5, h6, rfl, h7⟩
theorem NodeIn.lt {w : World} {N : Nat} {x : Nd} {rs rh : Nat} {fp : List Nat} (h : NodeIn w N x rs rh fp) : ∀ r ∈ fp, r < w.heap.size := by
  obtain ⟨S, fs, H, fh, h1, h2, h3, h4, h5, h6, rfl, h7⟩ := h
  intro r hr
  rcases List.mem_cons.1 hr with rfl | hr
  · exact (Array.getElem?_eq_some_iff.1 h1).1
  · exact (List.mem_append.1 hr).elim (h2.lt r) (h3.lt r)
theorem NodeIn.below {w w' : World} {N : Nat} {x : Nd} {rs rh : Nat} {fp : List Nat} (h : NodeIn w N x rs rh fp) (hb : Below w.heap.size w w') : NodeIn w' N x rs rh fp := h.kept (fun r hr => hb.block r (h.lt r hr))
theorem NodeIn.mem {w : World} {N : Nat} {x : Nd} {rs rh : Nat} {fp : List Nat} (h : NodeIn w N x rs rh fp) : N ∈ fp := by
  obtain ⟨S, fs, H, fh, h1, h2, h3, h4, h5, h6, rfl, h7⟩ := h
  exact List.mem_cons_self ..
/-- What of a node may turn. -/
def mfp (x : Nd) (fp : List Nat) : List Nat := if x.frz = true then [] else fp

def bump (x : Nd) : Nd := { x with ver := x.ver + 1, frz := false }
end

section
set_option linter.unusedSimpArgs false
set_option linter.unusedVariables false
open Go.RowKit Go.Lib Go.Sort

theorem placeS_lt {l : List Smp} (hr : risingS l) (t : Int) : ∀ i (h : i < l.length), (i < placeS l t ↔ l[i].1 < t) := by
  induction l with
  | nil => intro i h; simp at h
  | cons a l ih =>
    have hr' : risingS l := (List.pairwise_cons.1 hr).2
    have ha := (List.pairwise_cons.1 hr).1
    intro i h
    by_cases hta : t ≤ a.1
    · have h0 : placeS (a :: l) t = 0 := by
        unfold placeS
        rw [List.countP_eq_zero]
        intro y hy
        rcases List.mem_cons.1 hy with rfl | hy
        · simp [hta]
        · have := ha y hy; simp; omega
      rw [h0]
      refine iff_of_false (by omega) ?_
      cases i with
      | zero => simp; omega
      | succ i => have := ha _ (List.getElem_mem (by simpa using h : i < l.length)); simp; omega
    · have h1 : placeS (a :: l) t = placeS l t + 1 := by unfold placeS; rw [List.countP_cons]; simp; omega
      rw [h1]
      cases i with
      | zero => simp; omega
      | succ i => have := ih hr' i (by simpa using h); simp; omega
theorem rising_drop {l : List Smp} (hr : risingS l) (n : Nat) : risingS (l.drop n) := hr.sublist (List.drop_sublist n l)
theorem rising_cut {l : List Smp} (hr : risingS l) (room : Int) : risingS (cutS room l) := by
  unfold cutS
  split
  · exact rising_drop hr 1
  · exact hr
theorem mem_take_lt {l : List Smp} (hr : risingS l) (t : Int) {a : Smp} (h : a ∈ l.take (placeS l t)) : a.1 < t := by
  obtain ⟨i, hi, rfl⟩ := List.getElem_of_mem h
  simp only [List.length_take] at hi
  rw [List.getElem_take]
  exact (placeS_lt hr t i (by omega)).1 (by omega)
theorem mem_drop_ge {l : List Smp} (hr : risingS l) (t : Int) {a : Smp} (h : a ∈ l.drop (placeS l t)) : t ≤ a.1 := by
  obtain ⟨i, hi, rfl⟩ := List.getElem_of_mem h
  simp only [List.length_drop] at hi
  rw [List.getElem_drop]
  have hi' : placeS l t + i < l.length := by omega
  have h2 := placeS_lt hr t (placeS l t + i) hi'
  by_cases h3 : l[placeS l t + i].1 < t
  · have := h2.2 h3; omega
  · omega
theorem rising_ins {l : List Smp} (hr : risingS l) (x : Smp) (h : hitS l x = false) : risingS (insS l x) := by
  unfold insS risingS
  have hge : ∀ a ∈ l.drop (placeS l x.1), x.1 < a.1 := fun a ha => by
    have h1 := mem_drop_ge hr x.1 ha
    obtain ⟨i, hi, rfl⟩ := List.getElem_of_mem ha
    rcases Nat.eq_zero_or_pos i with rfl | hp
    · have hlt : placeS l x.1 < l.length := by simp only [List.length_drop] at hi; omega
      unfold hitS at h
      rw [decide_eq_false_iff_not, List.getElem?_eq_getElem hlt] at h
      rw [List.getElem_drop] at h1 ⊢
      simp only [Nat.add_zero] at h1 ⊢
      have hn : (l[placeS l x.1]).1 ≠ x.1 := fun e => h (by simp [e])
      omega
    · have h0 := List.pairwise_iff_getElem.1 (rising_drop hr (placeS l x.1)) 0 i (by omega) hi hp
      have h2 := mem_drop_ge hr x.1 (List.getElem_mem (by omega : 0 < (l.drop (placeS l x.1)).length))
      omega
  rw [List.pairwise_append]
  refine ⟨hr.sublist (List.take_sublist _ l), List.pairwise_cons.2 ⟨hge, rising_drop hr _⟩, fun a ha b hb => ?_⟩
  have h1 := mem_take_lt hr x.1 ha
  rcases List.mem_cons.1 hb with rfl | hb
  · exact h1
  · have := hge b hb; omega
theorem rising_set {l : List Smp} (hr : risingS l) (x : Smp) (h : hitS l x = true) : risingS (l.set (placeS l x.1) x) := by
  have e : (l.set (placeS l x.1) x).map (·.1) = l.map (·.1) := by
    rw [List.map_set]
    unfold hitS at h
    rw [decide_eq_true_eq] at h
    refine List.ext_getElem? fun i => ?_
    rw [List.getElem?_set]
    split
    · rename_i hi
      rw [← hi, List.getElem?_map, h]
      split
      · rfl
      · rename_i hn
        rw [List.getElem?_eq_none (by simpa using hn)] at h
        simp at h
    · rfl
  have h1 : (l.map (·.1)).Pairwise (· < ·) := List.pairwise_map.2 hr
  rw [← e] at h1
  exact List.pairwise_map.1 h1
theorem rising_put {l : List Smp} (hr : risingS l) (room : Int) (x : Smp) : risingS (putS l room x) := by
  unfold putS
  cases h : hitS l x with
  | true => exact rising_set hr x h
  | false => exact rising_cut (rising_ins hr x h) room
theorem putS_len {l : List Smp} {room : Nat} (hl : l.length ≤ room) (x : Smp) : (putS l (room : Nat) x).length ≤ room := by
  unfold putS
  split
  · simpa using hl
  · unfold cutS
    have := insS_len l x
    split
    · simp; omega
    · omega
end

section
set_option linter.unusedSimpArgs false
set_option linter.unusedVariables false
open Go.RowKit Go.Lib Go.Sort
end

section
set_option linter.unusedSimpArgs false
set_option linter.unusedVariables false
open Go.RowKit Go.Lib Go.Sort
end

section
set_option linter.unusedSimpArgs false
set_option linter.unusedVariables false
open Go.RowKit Go.Lib Go.Sort
end

section
set_option linter.unusedSimpArgs false
set_option linter.unusedVariables false
open Go.RowKit Go.Lib Go.Sort

/-- A row whose block may be. -/
def RowG {α : Type} (P : Nat → Prop) (n : Nat) (f : α → List Value) (w : World) (v : Value) (l : List α) : Prop :=
  RowIn n f w v l ∧ ∀ b o m c, v = .slice (some ⟨b, o, none⟩) m c → 0 < l.length → P b
theorem RowG.below {α : Type} {P : Nat → Prop} {n : Nat} {f : α → List Value} {w w' : World} {v : Value} {l : List α} (h : RowG P n f w v l) (hb : Below w.heap.size w w') : RowG P n f w' v l := ⟨h.1.below hb, h.2⟩
theorem RowG.imp {α : Type} {P Q : Nat → Prop} {n : Nat} {f : α → List Value} {w : World} {v : Value} {l : List α} (h : RowG P n f w v l) (hi : ∀ b, P b → Q b) : RowG Q n f w v l := ⟨h.1, fun b o m c e hn => hi b (h.2 b o m c e hn)⟩
theorem RowG.nil {α : Type} {P : Nat → Prop} {n : Nat} {f : α → List Value} {w : World} {A : Option Addr} {c : Nat} : RowG P n f w (.slice A 0 c) ([] : List α) := ⟨RowIn.nil, fun _ _ _ _ _ h => absurd h (Nat.lt_irrefl _)⟩
theorem RowG.own {α : Type} {t e : TypeId} {n bytes : Nat} {z : Value} {f : α → List Value} (E : EltOf t e n bytes z f) {base : Nat} {w : World} {v : Value} {l : List α} (h : OwnL f e n base w v l) : RowG (fun b => base ≤ b) n f w v l := by
  refine ⟨h.row E, fun b o m c e hn => ?_⟩
  rcases h.2 with ⟨_, h0⟩ | ⟨g, cap, cur, hv', hg, _⟩
  · omega
  · rw [e] at hv'
    injection hv' with e1 _ _
    injection e1 with e1
    injection e1 with e1
    omega
theorem RowG.part {α : Type} {P : Nat → Prop} {n : Nat} {f : α → List Value} {w : World} {A A2 : Option Addr} {m c c2 : Nat} {l l2 : List α} (h : RowG P n f w (.slice A m c) l) (hA : 0 < l.length → ∀ b o, A2 = some ⟨b, o, none⟩ → ∃ o', A = some ⟨b, o', none⟩) (hl : l2.length ≤ l.length) (h2 : RowIn n f w (.slice A2 l2.length c2) l2) : RowG P n f w (.slice A2 l2.length c2) l2 := by
  refine ⟨h2, fun b o m' c' e hn => ?_⟩
  injection e with e1 _ _
  obtain ⟨o', ho⟩ := hA (by omega) b o e1
  exact h.2 b o' m c (by rw [ho]) (by omega)

theorem row_from2 {α : Type} {t e : TypeId} {n bytes : Nat} {z : Value} {f : α → List Value} (E : EltOf t e n bytes z f) {w : World} {A : Option Addr} {c : Nat} {l : List α} (h : RowIn n f w (.slice A l.length c) l) (a : Nat) (ha : a ≤ l.length) :
    ∃ (m : List α) (A2 : Option Addr) (c2 : Nat), m = l.drop a ∧ (0 < l.length → ∀ b o, A2 = some ⟨b, o, none⟩ → ∃ o', A = some ⟨b, o', none⟩) ∧ (∀ w' : World, (Instr.sliceAt t (.slice A l.length c) (some (.int .i64 a)) none none).run Tryz.prog w' = .ok (.slice A2 m.length c2) w') ∧ RowIn n f w (.slice A2 m.length c2) m := by
  obtain ⟨i0, hi0, hz0, hz1, hz2⟩ := info_parts E.hi
  have hp := RowIn.part h (i := a) (j := l.length) ha (Nat.le_refl _)
  rw [List.take_length] at hp
  have hlen : (l.drop a).length = l.length - a := by simp
  have hel : Tryz.prog.elem t = e := by simp [Program.elem, E.ht]
  refine ⟨l.drop a, _, _, rfl, ?_, fun w' => ?_, by rw [hlen]; exact hp⟩
  · intro hn b o hb
    obtain ⟨A1, c1, hv, _, hr⟩ := h
    injection hv with e1 _ _
    subst e1
    obtain ⟨b1, o1, rfl, _⟩ := hr hn
    split at hb
    · exact ⟨o, hb⟩
    · rw [Option.map_some, add_at] at hb
      injection hb with hb
      injection hb with hb
      exact ⟨o1, by rw [hb]⟩
  rw [run_sliceAt_slice _ t _ _ _ _ (by rw [hel]; exact E.ht), run_slice_l _ t A l.length c (by rw [hel]; exact E.ht) _ _ (by omega) (by omega), hel]
  simp [sizeOf, typeInfo, hi0, hz1, Result.andThen, sliced, hlen]
end

section
set_option linter.unusedSimpArgs false
set_option linter.unusedVariables false
open Go.RowKit Go.Lib Go.Sort
end

section
set_option linter.unusedSimpArgs false
set_option linter.unusedVariables false
open Go.RowKit Go.Lib

theorem keepS {wo a b : World} {n : Nat} {S : World → Prop} {p q r t : Prop} (H : ∀ W, Below wo.heap.size wo W → S W) (h : p ∧ q ∧ r ∧ t ∧ Below wo.heap.size wo a) (k : Below n a b) (e : n = a.heap.size) : S b := by
  subst e
  exact H b (bthen h.2.2.2.2 k)
end

section
set_option linter.unusedSimpArgs false
set_option linter.unusedVariables false
open Go.RowKit Go.Lib Go.Sort

/-- An item: its key, where its lists lie, its load. -/
structure It where
  key : Ky
  sA : Option Addr
  sc : Nat
  pA : Option Addr
  pc : Nat
  nd : Nd
def It.vs (x : It) : Value := .slice x.sA x.nd.smp.length x.sc
def It.vp (x : It) : Value := .slice x.pA x.nd.past.length x.pc
def itC (x : It) : List Value := [.int .u64 x.key.1, .int .u64 x.key.2, .slice x.sA x.nd.smp.length x.sc, .slice x.pA x.nd.past.length x.pc, .int .i64 x.nd.pol.mn, .int .i64 x.nd.pol.mx, .int .i64 x.nd.pol.tg, .int .i64 x.nd.pol.tol, .int .i64 x.nd.pol.win, .int .i64 x.nd.pol.hold, .bool x.nd.ruled, .int .i64 (x.nd.ver : Nat)]
def LoadIn (P : Nat → Prop) (w : World) (x : It) : Prop := RowG P 2 smpC w (.slice x.sA x.nd.smp.length x.sc) x.nd.smp ∧ RowG P 5 advC w (.slice x.pA x.nd.past.length x.pc) x.nd.past
theorem LoadIn.below {P : Nat → Prop} {w w' : World} {x : It} (h : LoadIn P w x) (hb : Below w.heap.size w w') : LoadIn P w' x := ⟨h.1.below hb, h.2.below hb⟩
theorem LoadIn.imp {P Q : Nat → Prop} {w : World} {x : It} (h : LoadIn P w x) (hi : ∀ b, P b → Q b) : LoadIn Q w x := ⟨h.1.imp hi, h.2.imp hi⟩
def ItemsIn (P : Nat → Prop) (w : World) (v : Value) (l : List It) : Prop := RowG P 12 itC w v l ∧ ∀ x ∈ l, LoadIn P w x
theorem ItemsIn.imp {P Q : Nat → Prop} {w : World} {v : Value} {l : List It} (h : ItemsIn P w v l) (hi : ∀ b, P b → Q b) : ItemsIn Q w v l := ⟨h.1.imp hi, fun x hx => (h.2 x hx).imp hi⟩
theorem ItemsIn.below {P : Nat → Prop} {w w' : World} {v : Value} {l : List It} (h : ItemsIn P w v l) (hb : Below w.heap.size w w') : ItemsIn P w' v l := ⟨h.1.below hb, fun x hx => (h.2 x hx).below hb⟩

/-- Where a key stands, or would. -/
def atI (l : List It) (k : Ky) : Nat := (l.takeWhile (fun x => ltK x.key k)).length
theorem atI_lt {l : List It} {k : Ky} : ∀ {i : Nat} (h : i < l.length), i < atI l k → ltK l[i].key k = true := by
  induction l with
  | nil => intro i h; simp at h
  | cons a l ih =>
    intro i h hi
    by_cases ha : ltK a.key k = true
    · have e : atI (a :: l) k = atI l k + 1 := by simp [atI, ha]
      rw [e] at hi
      cases i with
      | zero => exact ha
      | succ i => simpa using ih (by simpa using h) (by omega)
    · have e : atI (a :: l) k = 0 := by simp [atI, ha]
      omega
theorem atI_ge {l : List It} {k : Ky} (h : atI l k < l.length) : ltK l[atI l k].key k = false := by
  induction l with
  | nil => simp at h
  | cons a l ih =>
    by_cases ha : ltK a.key k = true
    · have e : atI (a :: l) k = atI l k + 1 := by simp [atI, ha]
      simp only [e] at h ⊢
      simp only [List.getElem_cons_succ]
      exact ih (by simpa using h)
    · have e : atI (a :: l) k = 0 := by simp [atI, ha]
      simp only [e, List.getElem_cons_zero]
      simpa using ha
end

section
set_option linter.unusedSimpArgs false
set_option linter.unusedVariables false
open Go.RowKit Go.Lib Go.Sort

def hasI (l : List It) (k : Ky) : Bool := if h : atI l k < l.length then decide (l[atI l k].key = k) else false
end

section
set_option linter.unusedSimpArgs false
set_option linter.unusedVariables false
open Go.RowKit Go.Lib Go.Sort

/-- A key's load, or an empty one. -/
def it0 : It := ⟨(0, 0), none, 0, none, 0, nd0⟩
def getL (l : List It) (k : Ky) : It := if h : atI l k < l.length then (if l[atI l k].key = k then l[atI l k] else it0) else it0
theorem getL_has {l : List It} {k : Ky} (h : hasI l k = true) : ∃ hl : atI l k < l.length, getL l k = l[atI l k] := by
  unfold hasI at h
  split at h
  · rename_i hl
    refine ⟨hl, ?_⟩
    unfold getL
    rw [dif_pos hl, if_pos (by simpa using h)]
  · cases h
theorem getL_none {l : List It} {k : Ky} (h : hasI l k = false) : getL l k = it0 := by
  unfold hasI at h
  unfold getL
  split at h
  · rename_i hl
    rw [dif_pos hl, if_neg (by simpa using h)]
  · rename_i hl
    rw [dif_neg hl]
end

section
set_option linter.unusedSimpArgs false
set_option linter.unusedVariables false
open Go.RowKit Go.Lib Go.Sort
end

section
set_option linter.unusedSimpArgs false
set_option linter.unusedVariables false
open Go.RowKit Go.Lib
end

section
set_option linter.unusedSimpArgs false
set_option linter.unusedVariables false
open Go.RowKit Go.Lib Go.Sort

structure Act17 where
  kind : Int
  smp : Smp
  pol : Pol
  adv : Adv
/-- What is done to a workload: what comes of it, an error, a number. -/
def do17 (rs rh : Nat) (x : Nd) (a : Act17) : Nd × Int × Int :=
  if a.kind = 0 then (if serE a.smp.1 a.smp.2 = 0 then ({ x with smp := putS x.smp (rs : Nat) a.smp, ver := x.ver + 1 }, 0, (x.smp.length : Int) - ((putS x.smp (rs : Nat) a.smp).length : Int)) else (x, serE a.smp.1 a.smp.2, 0))
  else if a.kind = 1 then (if placeS x.smp a.smp.1 = 0 then (x, 0, 0) else ({ x with smp := x.smp.drop (placeS x.smp a.smp.1), ver := x.ver + 1 }, 0, (placeS x.smp a.smp.1 : Nat)))
  else if a.kind = 2 then (if polB a.pol = true then ({ x with pol := a.pol, ruled := true, ver := x.ver + 1 }, 0, 0) else (x, 7, 0))
  else if a.kind = 3 then ({ x with past := pushL x.past rh a.adv, ver := x.ver + 1 }, 0, 0)
  else (x, 0, 0)
/-- A row stands where its block does. -/
theorem RowG.keepP {α : Type} {P : Nat → Prop} {n : Nat} {f : α → List Value} {w w' : World} {v : Value} {l : List α} (h : RowG P n f w v l) (hs : w.heap.size ≤ w'.heap.size) (hk : ∀ b, P b → b < w.heap.size → w'.heap[b]? = w.heap[b]?) : RowG P n f w' v l := by
  obtain ⟨⟨A, c, hv, hc, hr⟩, hp⟩ := h
  refine ⟨⟨A, c, hv, hc, fun hn => ?_⟩, hp⟩
  obtain ⟨b, o, hA, hlt, hat⟩ := hr hn
  have hb := hk b (hp b o _ _ (by rw [hv, hA]) hn) hlt
  exact ⟨b, o, hA, Nat.lt_of_lt_of_le hlt hs, fun k x hx j u hu => by
    have := hat k x hx j u hu
    simp only [World.cell?] at this ⊢
    rw [hb]
    exact this⟩
theorem RowG.and {α : Type} {P Q : Nat → Prop} {n : Nat} {f : α → List Value} {w : World} {v : Value} {l : List α} (h : RowG P n f w v l) (k : RowG Q n f w v l) : RowG (fun b => P b ∧ Q b) n f w v l :=
  ⟨h.1, fun b o m c e hn => ⟨h.2 b o m c e hn, k.2 b o m c e hn⟩⟩
/-- A row that stood ahead of a call lies below what the call makes. -/
theorem RowG.old {α : Type} {P : Nat → Prop} {n : Nat} {f : α → List Value} {w : World} {v : Value} {l : List α} (h : RowG P n f w v l) : RowG (fun b => P b ∧ b < w.heap.size) n f w v l := by
  refine ⟨h.1, fun b o m c e hn => ⟨h.2 b o m c e hn, ?_⟩⟩
  obtain ⟨⟨A, c', hv, hc, hr⟩, _⟩ := h
  obtain ⟨b', o', hA, hlt, _⟩ := hr hn
  rw [e] at hv
  injection hv with e1 _ _
  rw [hA] at e1
  injection e1 with e1
  injection e1 with e1
  omega

theorem LoadIn.old {P : Nat → Prop} {w W : World} {x : It} (h : LoadIn P w x) (hb : Below w.heap.size w W) : LoadIn (fun b => P b ∧ (b < w.heap.size ∨ w.heap.size + 5 ≤ b)) W x :=
  ⟨(h.1.old.below hb).imp (fun _ h => ⟨h.1, .inl h.2⟩), (h.2.old.below hb).imp (fun _ h => ⟨h.1, .inl h.2⟩)⟩
end

section
set_option linter.unusedSimpArgs false
set_option linter.unusedVariables false
open Go.RowKit Go.Lib Go.Sort
end

section
set_option linter.unusedSimpArgs false
set_option linter.unusedVariables false
open Go.RowKit Go.Lib Go.Sort

/-- What a load must be. -/
structure NdOk (rs rh : Nat) (x : Nd) : Prop where
  ris : risingS x.smp
  len : x.smp.length ≤ rs
  past : x.past.length ≤ rh
structure RoomOk (c : Cfg) (rs rh : Nat) : Prop where
  sa : c.sa = (rs : Nat)
  hi : c.hi = (rh : Nat)
  r1 : 1 ≤ rs
  r2 : rs ≤ 256
  h1 : 1 ≤ rh
  h2 : rh ≤ 64
end

section
set_option linter.unusedSimpArgs false
set_option linter.unusedVariables false
open Go.RowKit Go.Lib Go.Sort

def absI (x : It) : Ky × Nd := (x.key, x.nd)
def Do18Says (P : Nat → Prop) (w : World) (l' : List (Ky × Nd)) (e1 n more : Int) (e : Ending) (w' : World) : Prop :=
  ∃ out A c, e = .returned (.tuple #[.slice A out.length c, .int .i64 e1, .int .i64 n, .int .i64 more]) ∧ ItemsIn P w' (.slice A out.length c) out ∧ out.map absI = l' ∧ Below w.heap.size w w'
theorem Do18Says.same {P : Nat → Prop} {w w' : World} {l : List It} {A : Option Addr} {c : Nat} (h : ItemsIn P w (.slice A l.length c) l) (hb : Below w.heap.size w w') (e1 n more : Int) : Do18Says P w (l.map absI) e1 n more (.returned (.tuple #[.slice A l.length c, .int .i64 e1, .int .i64 n, .int .i64 more])) w' :=
  ⟨l, A, c, rfl, h.below hb, rfl, hb⟩
end

section
set_option linter.unusedSimpArgs false
set_option linter.unusedVariables false
open Go.RowKit Go.Lib Go.Sort

def outI (l : List It) (k : Ky) (y : Nd) : List (Ky × Nd) := (l.map absI).take (atI l k) ++ [(k, y)] ++ (l.map absI).drop (if hasI l k = true then atI l k + 1 else atI l k)
/-- What comes of an act on one item: the items, an error, the version's rise. -/
def one18 (c : Cfg) (rs rh : Nat) (l : List It) (k : Ky) (a : Act17) : List (Ky × Nd) × Int × Int :=
  let r := do17 rs rh (getL l k).nd a
  if r.2.1 ≠ 0 then (l.map absI, r.2.1, 0)
  else if hasI l k = false ∧ a.kind = 3 then (l.map absI, 5, 0)
  else if hasI l k = false ∧ c.lo ≤ (l.length : Nat) then (l.map absI, 6, 0)
  else (outI l k r.1, 0, 1)
end

section
set_option linter.unusedSimpArgs false
set_option linter.unusedVariables false
open Go.RowKit Go.Lib Go.Sort

def trimR (cut : Int) (x : Nd) : Nd := if placeS x.smp cut = 0 then x else { x with smp := x.smp.drop (placeS x.smp cut), ver := x.ver + 1 }
def goneI (l : List It) (cut : Int) : Nat := (l.map (fun x => placeS x.nd.smp cut)).sum
def manyI (l : List It) (cut : Int) : Nat := l.countP (fun x => 0 < placeS x.nd.smp cut)
end

section
set_option linter.unusedSimpArgs false
set_option linter.unusedVariables false
open Go.RowKit Go.Lib

/-- A byte of a word. -/
def byteI (x k : Nat) : Int := ((x / k % 256 : Nat) : Int)
def bytesA (hi lo : Nat) : Array Value := #[
  .int .u8 (byteI hi 72057594037927936),
  .int .u8 (byteI hi 281474976710656),
  .int .u8 (byteI hi 1099511627776),
  .int .u8 (byteI hi 4294967296),
  .int .u8 (byteI hi 16777216),
  .int .u8 (byteI hi 65536),
  .int .u8 (byteI hi 256),
  .int .u8 (byteI hi 1),
  .int .u8 (byteI lo 72057594037927936),
  .int .u8 (byteI lo 281474976710656),
  .int .u8 (byteI lo 1099511627776),
  .int .u8 (byteI lo 4294967296),
  .int .u8 (byteI lo 16777216),
  .int .u8 (byteI lo 65536),
  .int .u8 (byteI lo 256),
  .int .u8 (byteI lo 1)]

theorem byteI_mid (x k : Nat) : byteI x k = (x : Int) / (k : Int) % 256 := by unfold byteI; simp
theorem byteI_low (x : Nat) : byteI x 1 = (x : Int) % 256 := by unfold byteI; simp
theorem byteI_top (x : Nat) (h : x < 18446744073709551616) : byteI x 72057594037927936 = (x : Int) / 72057594037927936 := by unfold byteI; omega

theorem bytesA_walk (hi lo : Nat) (h1 : hi < 18446744073709551616) (h2 : lo < 18446744073709551616) : bytesA hi lo = #[.int .u8 ((hi : Int) / 72057594037927936), .int .u8 ((hi : Int) / 281474976710656 % 256), .int .u8 ((hi : Int) / 1099511627776 % 256), .int .u8 ((hi : Int) / 4294967296 % 256), .int .u8 ((hi : Int) / 16777216 % 256), .int .u8 ((hi : Int) / 65536 % 256), .int .u8 ((hi : Int) / 256 % 256), .int .u8 ((hi : Int) % 256), .int .u8 ((lo : Int) / 72057594037927936), .int .u8 ((lo : Int) / 281474976710656 % 256), .int .u8 ((lo : Int) / 1099511627776 % 256), .int .u8 ((lo : Int) / 4294967296 % 256), .int .u8 ((lo : Int) / 16777216 % 256), .int .u8 ((lo : Int) / 65536 % 256), .int .u8 ((lo : Int) / 256 % 256), .int .u8 ((lo : Int) % 256)] := by
  unfold bytesA
  rw [byteI_top hi h1, byteI_top lo h2]
  simp only [byteI_low]
  simp only [byteI_mid]
  simp

set_option maxRecDepth 100000 in
set_option maxHeartbeats 4000000 in
theorem fnvBytes_any (hi lo : Nat) (w : World) (h1 : hi < 18446744073709551616) (h2 : lo < 18446744073709551616) :
    Calls Tryz.prog 212 #[keyV hi lo] w fun e w' => e = .returned (.agg (bytesA hi lo)) ∧ Below w.heap.size w w' := by
  unfold keyV
  go_enter Tryz.func212, Tryz.ntmps212
  go_wp2
  refine wp_loop_rounds 9 ?_
  rw [rounds_succ]
  go_wp2
  rw [rounds_succ]
  go_wp2
  rw [rounds_succ]
  go_wp2
  rw [rounds_succ]
  go_wp2
  rw [rounds_succ]
  go_wp2
  rw [rounds_succ]
  go_wp2
  rw [rounds_succ]
  go_wp2
  rw [rounds_succ]
  go_wp2
  rw [rounds_succ]
  go_wp2
  rw [bytesA_walk hi lo h1 h2]
  exact bodyPost_ret (v := .agg #[.int .u8 ((hi : Int) / 72057594037927936), .int .u8 ((hi : Int) / 281474976710656 % 256), .int .u8 ((hi : Int) / 1099511627776 % 256), .int .u8 ((hi : Int) / 4294967296 % 256), .int .u8 ((hi : Int) / 16777216 % 256), .int .u8 ((hi : Int) / 65536 % 256), .int .u8 ((hi : Int) / 256 % 256), .int .u8 ((hi : Int) % 256), .int .u8 ((lo : Int) / 72057594037927936), .int .u8 ((lo : Int) / 281474976710656 % 256), .int .u8 ((lo : Int) / 1099511627776 % 256), .int .u8 ((lo : Int) / 4294967296 % 256), .int .u8 ((lo : Int) / 16777216 % 256), .int .u8 ((lo : Int) / 65536 % 256), .int .u8 ((lo : Int) / 256 % 256), .int .u8 ((lo : Int) % 256)]) (by simp [results, Tryz.results212, go_sem]) rfl ⟨rfl, balloc (balloc (balloc (Below.refl _ _) _) _) _⟩
end

section
set_option linter.unusedSimpArgs false
set_option linter.unusedVariables false
open Go.RowKit Go.Lib

/-! ### Sum64 -/
def prime64 : Nat := 1099511628211
def basis64 : Nat := 14695981039346656037
def stepH (h b : Nat) : Nat := (h ^^^ b) * prime64 % 18446744073709551616
def sumL (l : List UInt8) : Nat := l.foldl (fun h b => stepH h b.toNat) basis64

theorem stepH_lt (h b : Nat) : stepH h b < 18446744073709551616 := Nat.mod_lt _ (by decide)
theorem foldl_lt (l : List UInt8) (h : Nat) (hh : h < 18446744073709551616) : l.foldl (fun h b => stepH h b.toNat) h < 18446744073709551616 := by
  induction l generalizing h with
  | nil => exact hh
  | cons a l ih => exact ih _ (stepH_lt _ _)
theorem basis_lt : basis64 < 18446744073709551616 := by unfold basis64; omega
theorem sumL_lt (l : List UInt8) : sumL l < 18446744073709551616 := by
  unfold sumL
  exact foldl_lt l basis64 basis_lt
theorem sumL_snoc (l : List UInt8) (b : UInt8) : sumL (l ++ [b]) = stepH (sumL l) b.toNat := by
  unfold sumL
  rw [List.foldl_append, List.foldl_cons, List.foldl_nil]

theorem u64_wrap_mod (n : Nat) : IntKind.u64.wrap (n : Int) = ((n % 18446744073709551616 : Nat) : Int) := by
  have h : IntKind.u64.wrap (n : Int) = (n : Int) % 18446744073709551616 := by
    simp only [IntKind.wrap, IntKind.signed, IntKind.bits]
    simp
  rw [h]
  omega

theorem step_walk (h c : Nat) (hh : h < 18446744073709551616) (hc : c < 256) :
    IntKind.u64.wrap (bits BinOp.xor IntKind.u64 (h : Int) (c : Int) * 1099511628211) = (stepH h c : Nat) := by
  rw [u64_xor_nat h c hh (by omega)]
  have e : ((h ^^^ c : Nat) : Int) * 1099511628211 = (((h ^^^ c) * prime64 : Nat) : Int) := by
    rw [Int.natCast_mul]; rfl
  rw [e, u64_wrap_mod]
  rfl

set_option maxRecDepth 100000 in
set_option maxHeartbeats 1000000 in
theorem sum64_any (s : ByteArray) (w : World) (hm : s.size ≤ maxLen) :
    Calls Tryz.prog 213 #[.string s] w fun e w' => e = .returned (.int .u64 (sumL s.data.toList : Nat)) ∧ w = w' := by
  have hmm : s.size ≤ 9223372036854775807 := hm
  go_enter Tryz.func213, Tryz.ntmps213
  go_wp2
  go_loop [3, 4, 7] (fun h _ i => ∃ k : Nat, k ≤ s.size ∧ i = .int .i64 k ∧ h = .int .u64 (sumL (s.data.toList.take k) : Nat)) (fun _ _ i => s.size - (intOf i).toNat)
  case atStart => exact ⟨0, Nat.zero_le _, rfl, rfl⟩
  case round =>
    obtain ⟨k, hk, rfl, rfl⟩ := hrel
    by_cases hlt : k < s.size
    · have hsn : sumL (s.data.toList.take (k + 1)) = stepH (sumL (s.data.toList.take k)) (s[k]).toNat := by
        rw [List.take_succ_eq_append_getElem (by simpa using hlt), sumL_snoc]; rfl
      have hb := sumL_lt (s.data.toList.take k)
      generalize sumL (s.data.toList.take k) = h at hsn hb
      have hc : (s[k]).toNat < 256 := (s[k]).toNat_lt
      have hst := step_walk h _ hb hc
      have Hsn := Lib.hid hsn
      have Hst := Lib.hid hst
      clear hsn hst
      go_wp2
      go_round
      case rel => exact ⟨k + 1, hlt, by go_num, by rw [Hsn.out, Hst.out]⟩
      case measure => simp [intOf]; omega
    · obtain rfl : k = s.size := by omega
      go_wp2
      go_ret
      refine ⟨ret_int ?_, rfl⟩
      rw [List.take_of_length_le (by simp)]
end

end Go.Proofs.YtmniiodpbebnmaaGreat
