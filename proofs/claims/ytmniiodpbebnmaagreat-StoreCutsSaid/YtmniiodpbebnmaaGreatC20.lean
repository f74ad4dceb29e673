/- The plain law of a stripe: one act on both sides; A stripe's bounds go on; chapter 18's has: a node has just a load; chapter 18's told: a stripe has just these items; A stripe and the reference's items, side by side; Acts on a stripe as they come in; chapter 18's awake; The walk of StripePlays; Chapter 19's do and made; A stable merge in place, by rotations: the plain law. -/
import Derived.Test.YtmniiodpbebnmaaGreatC19
import Derived.Test.YtmniiodpbebnmaaGreatC14
import Derived.Test.YtmniiodpbebnmaaGreatC18
import Derived.Test.YtmniiodpbebnmaaGreatC03
import Derived.Test.YtmniiodpbebnmaaGreatC12
import Derived.Test.YtmniiodpbebnmaaGreatC17
import Derived.Sort.LotA
import Derived.Sort.Lot0
namespace Go.Proofs.YtmniiodpbebnmaaGreat

section
set_option linter.unusedSimpArgs false
set_option linter.unusedVariables false
open Go.RowKit Go.Lib Go.Sort

/-- What the reference's Do comes to: the items, an error, a number, the version's rise. -/
def do18 (c : Cfg) (rs rh : Nat) (l : List It) (k : Ky) (a : Act17) : List (Ky × Nd) × Int × Int × Int :=
  if a.kind = 1 then (l.map fun x => (x.key, trimR a.smp.1 x.nd), 0, (goneI l a.smp.1 : Nat), (manyI l a.smp.1 : Nat))
  else if a.kind < 0 ∨ 3 < a.kind then (l.map absI, 0, 0, 0)
  else ((one18 c rs rh l k a).1, (one18 c rs rh l k a).2.1, 0, (one18 c rs rh l k a).2.2)

theorem do18_one {c : Cfg} {rs rh : Nat} {l : List It} {k : Ky} {a : Act17} (h1 : a.kind ≠ 1) (h0 : ¬ (a.kind < 0 ∨ 3 < a.kind)) : do18 c rs rh l k a = ((one18 c rs rh l k a).1, (one18 c rs rh l k a).2.1, 0, (one18 c rs rh l k a).2.2) := by
  unfold do18
  rw [if_neg h1, if_neg h0]
theorem one18_bad {c : Cfg} {rs rh : Nat} {l : List It} {k : Ky} {a : Act17} {y : Nd} {e n : Int} (h : do17 rs rh (getL l k).nd a = (y, e, n)) (he : e ≠ 0) : one18 c rs rh l k a = (l.map absI, e, 0) := by
  unfold one18
  simp only [h]
  rw [if_pos he]
theorem one18_ok {c : Cfg} {rs rh : Nat} {l : List It} {k : Ky} {a : Act17} {y : Nd} {n : Int} (h : do17 rs rh (getL l k).nd a = (y, 0, n)) (h3 : a.kind ≠ 3) : one18 c rs rh l k a = if hasI l k = false ∧ c.lo ≤ (l.length : Nat) then (l.map absI, 6, 0) else (outI l k y, 0, 1) := by
  unfold one18
  simp only [h]
  rw [if_neg (by simp), if_neg (fun hh => h3 hh.2)]
theorem one18_note {c : Cfg} {rs rh : Nat} {l : List It} {k : Ky} {a : Act17} {y : Nd} {n : Int} (h : do17 rs rh (getL l k).nd a = (y, 0, n)) (h3 : a.kind = 3) : one18 c rs rh l k a = if hasI l k = true then (outI l k y, 0, 1) else (l.map absI, 5, 0) := by
  unfold one18
  simp only [h]
  rw [if_neg (by simp)]
  cases hh : hasI l k with
  | true => simp
  | false => simp [h3]

/-- What the two sides' answers to an act are. -/
def Same18 (ver : Nat) (r : DoR) (t : List (Ky × Nd) × Int × Int × Int) : Prop :=
  Tells18 r.has t.1 ∧ r.err = t.2.1 ∧ ((r.gone : Nat) : Int) = t.2.2.1 ∧ ((r.ver : Nat) : Int) = (ver : Int) + t.2.2.2
/-- One act on both sides: what they have tells the same, and so do their answers. -/
theorem tells_act {S : List (KO × Nd)} {l : List It} (h : Tells18 S (l.map absI)) (c : Cfg) (rs rh ver : Nat) (k : KO) (a : Act17) :
    Same18 ver (doS c rs rh ver S k a) (do18 c rs rh l k.1 a) := by
  have hhas := h.has k
  have hlen : S.length = l.length := by have := h.len; simpa using this
  obtain ⟨g1, g2, g3, g4⟩ := h.get k
  by_cases h1 : a.kind = 1
  · have e1 : doS c rs rh ver S k a = ⟨0, goneS S a.smp.1 (risL (keysS S)), ver + manyS S a.smp.1 (risL (keysS S)), trimK S a.smp.1 (risL (keysS S))⟩ := by unfold doS; rw [if_neg (by omega), if_pos h1]
    have e2 : do18 c rs rh l k.1 a = (l.map fun x => (x.key, trimR a.smp.1 x.nd), 0, ((goneI l a.smp.1 : Nat) : Int), ((manyI l a.smp.1 : Nat) : Int)) := by unfold do18; rw [if_pos h1]
    rw [e1, e2]
    have ht := h.trim a.smp.1 (K := risL (keysS S)) (fun q hq => (mem_risL _ q).2 hq)
    have hg := tells_gone h a.smp.1
    have e : (l.map absI).map (fun p => (p.1, trimR a.smp.1 p.2)) = l.map fun x => (x.key, trimR a.smp.1 x.nd) := by rw [List.map_map]; rfl
    rw [e] at ht
    exact ⟨ht, rfl, by simp only [hg.1], by simp only [hg.2]; omega⟩
  by_cases hx : a.kind < 0 ∨ 3 < a.kind
  · have e1 : doS c rs rh ver S k a = ⟨0, 0, ver, S.map fun p => (p.1, if p.1.1 ∈ risL (keysS S) then frz p.2 else p.2)⟩ := by unfold doS; rw [if_neg (by omega), if_neg h1, if_neg (by omega), if_neg (by omega)]
    have e2 : do18 c rs rh l k.1 a = (l.map absI, 0, 0, 0) := by unfold do18; rw [if_neg h1, if_pos hx]
    rw [e1, e2]
    exact ⟨tells_frz h _, rfl, rfl, by simp⟩
  rw [do18_one h1 hx]
  by_cases h0 : a.kind = 0
  · by_cases hs : serE a.smp.1 a.smp.2 = 0
    · have e17 : do17 rs rh (getL l k.1).nd a = ({ (getL l k.1).nd with smp := putS (getL l k.1).nd.smp (rs : Nat) a.smp, ver := (getL l k.1).nd.ver + 1 }, 0, ((getL l k.1).nd.smp.length : Int) - ((putS (getL l k.1).nd.smp (rs : Nat) a.smp).length : Int)) := by unfold do17; rw [if_pos h0, if_pos hs]
      have e1 : doS c rs rh ver S k a = if hasM S k = false ∧ c.lo ≤ (S.length : Nat) then ⟨6, 0, ver, S⟩ else ⟨0, 0, ver + 1, putM S k { bump (ndOf S k) with smp := putS (ndOf S k).smp (rs : Nat) a.smp }⟩ := by unfold doS; rw [if_pos h0, if_pos hs]
      rw [e1, one18_ok e17 (by omega), hhas, hlen]
      by_cases hf : hasI l k.1 = false ∧ c.lo ≤ (l.length : Nat)
      · rw [if_pos hf, if_pos hf]
        exact ⟨h, rfl, rfl, by simp⟩
      · rw [if_neg hf, if_neg hf]
        exact ⟨h.put k ⟨by simp only [g1], by simp only [bump, g2], by simp only [bump, g3], by simp only [bump, g4]⟩, rfl, rfl, by simp⟩
    · have e17 : do17 rs rh (getL l k.1).nd a = ((getL l k.1).nd, serE a.smp.1 a.smp.2, 0) := by unfold do17; rw [if_pos h0, if_neg hs]
      have e1 : doS c rs rh ver S k a = ⟨serE a.smp.1 a.smp.2, 0, ver, S⟩ := by unfold doS; rw [if_pos h0, if_neg hs]
      rw [e1, one18_bad e17 hs]
      exact ⟨h, rfl, rfl, by simp⟩
  by_cases h2 : a.kind = 2
  · cases hp : polB a.pol with
    | true =>
      have e17 : do17 rs rh (getL l k.1).nd a = ({ (getL l k.1).nd with pol := a.pol, ruled := true, ver := (getL l k.1).nd.ver + 1 }, 0, 0) := by unfold do17; rw [if_neg h0, if_neg h1, if_pos h2, if_pos hp]
      have e1 : doS c rs rh ver S k a = if hasM S k = false ∧ c.lo ≤ (S.length : Nat) then ⟨6, 0, ver, S⟩ else ⟨0, 0, ver + 1, putM S k { bump (ndOf S k) with pol := a.pol, ruled := true }⟩ := by unfold doS; rw [if_neg h0, if_neg h1, if_pos h2, if_pos hp]
      rw [e1, one18_ok e17 (by omega), hhas, hlen]
      by_cases hf : hasI l k.1 = false ∧ c.lo ≤ (l.length : Nat)
      · rw [if_pos hf, if_pos hf]
        exact ⟨h, rfl, rfl, by simp⟩
      · rw [if_neg hf, if_neg hf]
        exact ⟨h.put k ⟨by simp only [bump, g1], by simp only [bump, g2], rfl, rfl⟩, rfl, rfl, by simp⟩
    | false =>
      have e17 : do17 rs rh (getL l k.1).nd a = ((getL l k.1).nd, 7, 0) := by unfold do17; rw [if_neg h0, if_neg h1, if_pos h2, if_neg (by rw [hp]; simp)]
      have e1 : doS c rs rh ver S k a = ⟨7, 0, ver, S⟩ := by unfold doS; rw [if_neg h0, if_neg h1, if_pos h2, if_neg (by rw [hp]; simp)]
      rw [e1, one18_bad e17 (by decide)]
      exact ⟨h, rfl, rfl, by simp⟩
  have h3 : a.kind = 3 := by omega
  have e17 : do17 rs rh (getL l k.1).nd a = ({ (getL l k.1).nd with past := pushL (getL l k.1).nd.past rh a.adv, ver := (getL l k.1).nd.ver + 1 }, 0, 0) := by unfold do17; rw [if_neg h0, if_neg h1, if_neg h2, if_pos h3]
  have e1 : doS c rs rh ver S k a = if hasM S k = true then ⟨0, 0, ver + 1, putM S k { bump (ndOf S k) with past := pushL (ndOf S k).past rh a.adv }⟩ else ⟨5, 0, ver, S⟩ := by unfold doS; rw [if_neg h0, if_neg h1, if_neg h2, if_pos h3]
  rw [e1, one18_note e17 h3, hhas]
  cases hh : hasI l k.1 with
  | true =>
    rw [if_pos rfl, if_pos rfl]
    exact ⟨h.put k ⟨by simp only [bump, g1], by simp only [g2], by simp only [bump, g3], by simp only [bump, g4]⟩, rfl, rfl, by simp⟩
  | false =>
    rw [if_neg (by simp), if_neg (by simp)]
    exact ⟨h, rfl, rfl, by simp⟩
end

section
set_option linter.unusedSimpArgs false
set_option linter.unusedVariables false
open Go.RowKit Go.Lib Go.Sort

/-- Behind so many acts: few workloads, few changes of each. -/
structure Grown (n : Nat) (ver : Nat) (S : List (KO × Nd)) : Prop where
  len : S.length ≤ n
  vers : ∀ p ∈ S, p.2.ver ≤ n
theorem ndOf_ver {n ver : Nat} {S : List (KO × Nd)} (h : Grown n ver S) (k : KO) : (ndOf S k).ver ≤ n := by
  unfold ndOf
  cases hf : findM S k with
  | none => simp [nd0]
  | some x => exact h.vers _ (find_mem hf)
theorem grown_put {n ver ver' : Nat} {S : List (KO × Nd)} (h : Grown n ver S) (k : KO) {x : Nd} (hx : x.ver ≤ n + 1) : Grown (n + 1) ver' (putM S k x) := by
  refine ⟨?_, fun p hp => ?_⟩
  · rw [len_putM]
    have := h.len
    split <;> omega
  · rcases mem_putM hp with rfl | ⟨hp, _⟩
    · exact hx
    · exact Nat.le_succ_of_le (h.vers p hp)
theorem Grown.more {n ver ver' : Nat} {S : List (KO × Nd)} (h : Grown n ver S) : Grown (n + 1) ver' S := ⟨Nat.le_succ_of_le h.len, fun p hp => Nat.le_succ_of_le (h.vers p hp)⟩
theorem grown_act {n ver : Nat} {S : List (KO × Nd)} (h : Grown n ver S) (c : Cfg) (rs rh : Nat) (k : KO) (a : Act17) : Grown (n + 1) (doS c rs rh ver S k a).ver (doS c rs rh ver S k a).has := by
  have hv := ndOf_ver h k
  unfold doS
  split
  · split
    · split
      · exact h.more
      · exact grown_put h k (by simp only [bump]; omega)
    · exact h.more
  · split
    · refine ⟨by simp [trimK]; exact Nat.le_succ_of_le h.len, fun p hp => ?_⟩
      obtain ⟨q, hq, rfl⟩ := List.mem_map.1 hp
      have := h.vers q hq
      dsimp only
      split
      · unfold trimN
        split
        · omega
        · simp only [bump]; omega
      · omega
    · split
      · split
        · split
          · exact h.more
          · exact grown_put h k (by simp only [bump]; omega)
        · exact h.more
      · split
        · split
          · exact grown_put h k (by simp only [bump]; omega)
          · exact h.more
        · refine ⟨by simp; exact Nat.le_succ_of_le h.len, fun p hp => ?_⟩
          obtain ⟨q, hq, rfl⟩ := List.mem_map.1 hp
          have := h.vers q hq
          dsimp only
          split
          · simp only [frz]; omega
          · omega
/-- The version rises by no more than there are workloads, or one. -/
theorem ver_act {n ver : Nat} {S : List (KO × Nd)} (h : Grown n ver S) (c : Cfg) (rs rh : Nat) (k : KO) (a : Act17) (hn : (risL (keysS S)).length ≤ n) : (doS c rs rh ver S k a).ver ≤ ver + n + 1 := by
  have hm : manyS S a.smp.1 (risL (keysS S)) ≤ n := Nat.le_trans List.countP_le_length hn
  unfold doS
  split
  · split
    · split
      · dsimp only; omega
      · dsimp only; omega
    · dsimp only; omega
  · split
    · dsimp only; omega
    · split
      · split
        · split
          · dsimp only; omega
          · dsimp only; omega
        · dsimp only; omega
      · split
        · split
          · dsimp only; omega
          · dsimp only; omega
        · dsimp only; omega
theorem sameN.ok {rs rh : Nat} {x y : Nd} (h : sameN x y) (hx : NdOk rs rh x) : NdOk rs rh y := ⟨by rw [← h.1]; exact hx.ris, by rw [← h.1]; exact hx.len, by rw [← h.2.1]; exact hx.past⟩
end

section
set_option linter.unusedSimpArgs false
set_option linter.unusedVariables false
open Go.RowKit Go.Lib Go.Sort
end

section
set_option linter.unusedSimpArgs false
set_option linter.unusedVariables false
open Go.RowKit Go.Lib Go.Sort
end

section
set_option linter.unusedSimpArgs false
set_option linter.unusedVariables false
open Go.RowKit Go.Lib Go.Sort

theorem NodeIn.ok {w : World} {N : Nat} {x : Nd} {rs rh : Nat} {fp : List Nat} (h : NodeIn w N x rs rh fp) : NdOk rs rh x := by
  obtain ⟨S, fs, H, fh, h1, h2, h3, h4, h5, h6, rfl, h7, h8⟩ := h
  exact ⟨h7, h8, h3.len⟩
structure CfgOk (c : Cfg) (rs rh : Nat) : Prop where
  cfg : cfgB c = true
  sa : c.sa = (rs : Nat)
  hi : c.hi = (rh : Nat)
  ok : c.ok
theorem CfgOk.room {c : Cfg} {rs rh : Nat} (h : CfgOk c rs rh) : RoomOk c rs rh := by
  have hc := h.cfg
  have h1 := h.sa
  have h2 := h.hi
  unfold cfgB at hc
  simp only [Bool.and_eq_true, decide_eq_true_eq] at hc
  exact ⟨h1, h2, by omega, by omega, by omega, by omega⟩

/-- Behind n acts: the stripe, and the reference's items, whose blocks the stripe does not turn. -/
structure Play (w0 W : World) (T M : Nat) (c : Cfg) (rs rh n ver : Nat) (es : List (KO × NE)) (v : Value) (l : List It) : Prop where
  at_ : SAt W T M c ver es rs rh
  items : ItemsIn (fun b => b ∉ sfp T M es ∧ w0.heap.size ≤ b) W v l
  tells : Tells18 (ab es) (l.map absI)
  base : Below w0.heap.size w0 W
  above : ∀ r ∈ sfp T M es, w0.heap.size ≤ r
  fresh : ∀ p ∈ es, ∀ r ∈ p.2.2.2, w0.heap.size ≤ r
  grown : Grown n ver (ab es)
  vers : ∀ x ∈ l, x.nd.ver ≤ n
  ver_ : ver ≤ 1000 * n
  room : (l.length : Nat) ≤ c.lo
theorem Play.below {w0 W W' : World} {T M : Nat} {c : Cfg} {rs rh n ver : Nat} {es : List (KO × NE)} {v : Value} {l : List It} (h : Play w0 W T M c rs rh n ver es v l) (hb : Below W.heap.size W W') : Play w0 W' T M c rs rh n ver es v l :=
  ⟨h.at_.below hb, h.items.below hb, h.tells, bthen h.base hb, h.above, h.fresh, h.grown, h.vers, h.ver_, h.room⟩
theorem Play.len {w0 W : World} {T M : Nat} {c : Cfg} {rs rh n ver : Nat} {es : List (KO × NE)} {v : Value} {l : List It} (h : Play w0 W T M c rs rh n ver es v l) : es.length = l.length ∧ l.length ≤ n := by
  have h1 := h.tells.len
  have h2 := h.grown.len
  rw [ab_len] at h1 h2
  have h3 : es.length = l.length := by simpa using h1
  exact ⟨h3, by omega⟩
theorem sok_of {W : World} {T M : Nat} {c : Cfg} {rs rh n ver : Nat} {es : List (KO × NE)} (hg : Grown n ver (ab es)) (hv : ver ≤ 1000 * n) (hc : CfgOk c rs rh) (hn : n ≤ 100) : SOk c rs rh ver (ab es) :=
  ⟨hc.cfg, hc.sa, hc.hi, hc.ok, by have := hg.len; omega, by omega, fun p hp => by have := hg.vers p hp; omega⟩
theorem smp_small {W : World} {T M : Nat} {c : Cfg} {rs rh ver : Nat} {es : List (KO × NE)} (h : SAt W T M c ver es rs rh) (hr : rs ≤ 256) : ∀ p ∈ ab es, p.2.smp.length ≤ 256 := by
  intro p hp
  obtain ⟨q, hq, rfl⟩ := List.mem_map.1 hp
  exact Nat.le_trans (h.node q hq).ok.len hr
/-- A row that the stripe's turn leaves. -/
theorem RowG.turn {α : Type} {n : Nat} {f : α → List Value} {W w1 : World} {v : Value} {l : List α} {fp fp' : List Nat} (h : RowG (fun b => b ∉ fp) n f W v l) (hu : Upd W w1 fp fp') : RowG (fun b => b ∉ fp') n f w1 v l :=
  (h.old.imp (Q := fun b => b ∉ fp' ∧ b ∉ fp) (fun b hb => ⟨fun hq => (hu.fresh b hq).elim hb.1 (fun h' => by omega), hb.1⟩)).keepP hu.size (fun b hb hlt => hu.block b hlt hb.2) |>.imp (fun b hb => hb.1)
theorem ItemsIn.turn {W w1 : World} {v : Value} {l : List It} {fp fp' : List Nat} (h : ItemsIn (fun b => b ∉ fp) W v l) (hu : Upd W w1 fp fp') : ItemsIn (fun b => b ∉ fp') w1 v l :=
  ⟨h.1.turn hu, fun x hx => ⟨(h.2 x hx).1.turn hu, (h.2 x hx).2.turn hu⟩⟩

/-- Between the act on the stripe and the reference's. -/
structure Half (w0 W : World) (T M : Nat) (c : Cfg) (rs rh n ver : Nat) (k : KO) (a : Act17) (R : DoR) (es : List (KO × NE)) (v : Value) (l : List It) : Prop where
  at_ : SAt W T M c R.ver es rs rh
  has : ab es = R.has
  items : ItemsIn (fun b => b ∉ sfp T M es ∧ w0.heap.size ≤ b) W v l
  same : Same18 ver R (do18 c rs rh l k.1 a)
  base : Below w0.heap.size w0 W
  above : ∀ r ∈ sfp T M es, w0.heap.size ≤ r
  fresh : ∀ p ∈ es, ∀ r ∈ p.2.2.2, w0.heap.size ≤ r
  grown : Grown (n + 1) R.ver (ab es)
  vers : ∀ x ∈ l, x.nd.ver ≤ n
  ver_ : R.ver ≤ 1000 * (n + 1)
  oks : ∀ x ∈ l, NdOk rs rh x.nd ∧ x.key.ok
  len : l.length ≤ n
  room : (l.length : Nat) ≤ c.lo
theorem Half.below {w0 W W' : World} {T M : Nat} {c : Cfg} {rs rh n ver : Nat} {k : KO} {a : Act17} {R : DoR} {es : List (KO × NE)} {v : Value} {l : List It} (h : Half w0 W T M c rs rh n ver k a R es v l) (hb : Below W.heap.size W W') : Half w0 W' T M c rs rh n ver k a R es v l :=
  ⟨h.at_.below hb, h.has, h.items.below hb, h.same, bthen h.base hb, h.above, h.fresh, h.grown, h.vers, h.ver_, h.oks, h.len, h.room⟩
end

section
set_option linter.unusedSimpArgs false
set_option linter.unusedVariables false
open Go.RowKit Go.Lib Go.ChangeShapes Go.WideShapes Go.Joins

section
variable {H : Type} {enc : TypeId × Value → H} {w : World} {base : Nat} {spare : Nat → Bool} {held : Bool}

end
end

section
set_option linter.unusedSimpArgs false
set_option linter.unusedVariables false
open Go.RowKit Go.Lib Go.Sort
open Go.ChangeMaps (setBlock)
end

section
set_option linter.unusedSimpArgs false
set_option linter.unusedVariables false
open Go.RowKit Go.Lib Go.Sort
end

section
set_option linter.unusedSimpArgs false
set_option linter.unusedVariables false
open Go.RowKit Go.Lib Go.Sort
end

section
set_option linter.unusedSimpArgs false
set_option linter.unusedVariables false
open Go.Sort

section
variable {β : Type} [Inhabited β]

/-- Two neighbouring parts, [a, m) and [m, b), changed their places. -/
def Rot (d d' : Array β) (a m b : Nat) : Prop := ∀ t, d'[t]! = if t < a ∨ b ≤ t then d[t]! else if t < a + (b - m) then d[t + m - a]! else d[t - (b - m)]!
/-- Two parts of one length changed their places. -/
def Swr (d d' : Array β) (a b n : Nat) : Prop := ∀ t, d'[t]! = if a ≤ t ∧ t < a + n then d[b + (t - a)]! else if b ≤ t ∧ t < b + n then d[a + (t - b)]! else d[t]!
theorem at_eq (d : Array β) {i j : Nat} (h : i = j) : d[i]! = d[j]! := by rw [h]
theorem Swr.zero (d : Array β) (a b : Nat) : Swr d d a b 0 := by
  intro t
  rw [if_neg (by omega), if_neg (by omega)]
theorem Swr.step {d d1 : Array β} {a b n : Nat} (h : Swr d d1 a b n) (hab : a + n < b) (hb : b + n < d1.size) : Swr d (swp d1 (a + n) (b + n)) a b (n + 1) := by
  intro t
  by_cases h1 : t = a + n
  · subst h1
    rw [swp_left d1 _ _ (by omega) (by omega), h]
    repeat' split
    all_goals first | exact at_eq d (by omega) | (exfalso; omega)
  · by_cases h2 : t = b + n
    · subst h2
      rw [swp_right d1 _ _ (by omega), h]
      repeat' split
      all_goals first | exact at_eq d (by omega) | (exfalso; omega)
    · rw [swp_other d1 _ _ _ h1 h2, h]
      repeat' split
      all_goals first | exact at_eq d (by omega) | (exfalso; omega)
/-- Halves of one length: to rotate is to exchange them. -/
theorem Rot.half {d d' : Array β} {a m b : Nat} (h : Swr d d' a m (m - a)) (ham : a ≤ m) (hb : b - m = m - a) (hmb : m ≤ b) : Rot d d' a m b := by
  intro t
  rw [h]
  repeat' split
  all_goals first | exact at_eq d (by omega) | (exfalso; omega)
/-- The left part is longer: its head is exchanged with the right part. -/
theorem Rot.left {d d1 d2 : Array β} {m i j : Nat} (h : Swr d d1 (m - i) m j) (hi : i ≤ m) (hij : j < i) (h2 : Rot d1 d2 (m - (i - j)) m (m + j)) : Rot d d2 (m - i) m (m + j) := by
  intro t
  rw [h2]
  by_cases h1 : t < m - (i - j) ∨ m + j ≤ t
  · rw [if_pos h1, h]
    repeat' split
    all_goals first | exact at_eq d (by omega) | (exfalso; omega)
  · rw [if_neg h1]
    by_cases h4 : t < m - (i - j) + (m + j - m)
    · rw [if_pos h4, h]
      repeat' split
      all_goals first | exact at_eq d (by omega) | (exfalso; omega)
    · rw [if_neg h4, h]
      repeat' split
      all_goals first | exact at_eq d (by omega) | (exfalso; omega)
/-- The right part is longer: its tail is exchanged with the left part. -/
theorem Rot.right {d d1 d2 : Array β} {m i j : Nat} (h : Swr d d1 (m - i) (m + j - i) i) (hi : i ≤ m) (hij : i < j) (h2 : Rot d1 d2 (m - i) m (m + (j - i))) : Rot d d2 (m - i) m (m + j) := by
  intro t
  rw [h2]
  by_cases h1 : t < m - i ∨ m + (j - i) ≤ t
  · rw [if_pos h1, h]
    repeat' split
    all_goals first | exact at_eq d (by omega) | (exfalso; omega)
  · rw [if_neg h1]
    by_cases h4 : t < m - i + (m + (j - i) - m)
    · rw [if_pos h4, h]
      repeat' split
      all_goals first | exact at_eq d (by omega) | (exfalso; omega)
    · rw [if_neg h4, h]
      repeat' split
      all_goals first | exact at_eq d (by omega) | (exfalso; omega)
theorem Rot.none {d : Array β} {a m b : Nat} (h : m ≤ a ∨ b ≤ m) (h2 : a ≤ m ∧ m ≤ b) : Rot d d a m b := by
  intro t
  repeat' split
  all_goals first | exact at_eq d (by omega) | (exfalso; omega)
/-- One element goes up by one place more. -/
theorem Rot.up {d d1 : Array β} {a k : Nat} (h : Rot d d1 a (a + 1) (k + 1)) (hak : a ≤ k) (hk : k + 1 < d1.size) : Rot d (swp d1 k (k + 1)) a (a + 1) (k + 2) := by
  intro t
  by_cases h1 : t = k
  · subst h1
    rw [swp_left d1 _ _ (by omega) (by omega), h]
    repeat' split
    all_goals first | exact at_eq d (by omega) | (exfalso; omega)
  · by_cases h2 : t = k + 1
    · subst h2
      rw [swp_right d1 _ _ (by omega), h]
      repeat' split
      all_goals first | exact at_eq d (by omega) | (exfalso; omega)
    · rw [swp_other d1 _ _ _ h1 h2, h]
      repeat' split
      all_goals first | exact at_eq d (by omega) | (exfalso; omega)
/-- One element goes down by one place more. -/
theorem Rot.down {d d1 : Array β} {m k : Nat} (h : Rot d d1 (k + 1) m (m + 1)) (hkm : k < m) (hk : m < d1.size) : Rot d (swp d1 (k + 1) k) k m (m + 1) := by
  intro t
  by_cases h1 : t = k + 1
  · subst h1
    rw [swp_left d1 _ _ (by omega) (by omega), h]
    repeat' split
    all_goals first | exact at_eq d (by omega) | (exfalso; omega)
  · by_cases h2 : t = k
    · subst h2
      rw [swp_right d1 _ _ (by omega), h]
      repeat' split
      all_goals first | exact at_eq d (by omega) | (exfalso; omega)
    · rw [swp_other d1 _ _ _ h1 h2, h]
      repeat' split
      all_goals first | exact at_eq d (by omega) | (exfalso; omega)

variable (lt : β → β → Bool) (R : β → β → Prop)
/-- Rising, in order. -/
def Up (a b : Nat) (d : Array β) : Prop := ∀ i j, a ≤ i → i < j → j < b → R d[i]! d[j]!
/-- Of two parts: what is not less stands behind. -/
def Crs (a m b : Nat) (d : Array β) : Prop := ∀ i j, a ≤ i → i < m → m ≤ j → j < b → lt d[j]! d[i]! = false → R d[i]! d[j]!
structure Ord : Prop where
  tr : ∀ x y z, R x y → R y z → R x z
  lt : ∀ x y, lt x y = true → R x y

variable {lt R}
theorem Up.one {a b : Nat} {d : Array β} (h : b ≤ a + 1) : Up R a b d := fun i j h1 h2 h3 => absurd h3 (by omega)
theorem Up.join {a m b : Nat} {d : Array β} (h1 : Up R a m d) (h2 : Up R m b d) (h : ∀ i j, a ≤ i → i < m → m ≤ j → j < b → R d[i]! d[j]!) : Up R a b d := by
  intro i j hi hij hj
  by_cases h3 : j < m
  · exact h1 i j hi hij h3
  · by_cases h4 : m ≤ i
    · exact h2 i j h4 hij hj
    · exact h i j hi (by omega) (by omega) hj
theorem Up.le {a b : Nat} {d : Array β} (h : Up R a b d) {i j : Nat} (hi : a ≤ i) (hij : i ≤ j) (hj : j < b) {x : β} (O : Ord lt R) (hx : R d[j]! x) : R d[i]! x := by
  by_cases e : i = j
  · rw [e]; exact hx
  · exact O.tr _ _ _ (h i j hi (by omega) hj) hx
theorem Up.ge {a b : Nat} {d : Array β} (h : Up R a b d) {i j : Nat} (hi : a ≤ i) (hij : i ≤ j) (hj : j < b) {x : β} (O : Ord lt R) (hx : R x d[i]!) : R x d[j]! := by
  by_cases e : i = j
  · rw [← e]; exact hx
  · exact O.tr _ _ _ hx (h i j hi (by omega) hj)

/-- The least element of the left part alone is put into the right one. -/
theorem up_first (O : Ord lt R) {d d' : Array β} {a b i : Nat} (hi : a + 1 ≤ i) (hib : i ≤ b) (hu : Up R (a + 1) b d) (hc : Crs lt R a (a + 1) b d)
    (h1 : a + 1 < i → lt d[i - 1]! d[a]! = true) (h2 : i < b → lt d[i]! d[a]! = false) (hr : Rot d d' a (a + 1) i) : Up R a b d' := by
  intro s t hs hst ht
  rw [hr s, hr t]
  have lo : ∀ s, a + 1 ≤ s → s < i → R d[s]! d[a]! := fun s p q => hu.le (i := s) (j := i - 1) p (by omega) (by omega) O (O.lt _ _ (h1 (by omega)))
  have hi' : ∀ s, i ≤ s → s < b → R d[a]! d[s]! := fun s p q => hu.ge (i := i) (j := s) (by omega) p q O (hc a i (Nat.le_refl _) (by omega) (by omega) (by omega) (h2 (by omega)))
  by_cases p1 : s < a ∨ i ≤ s
  · rw [if_pos p1, if_pos (by omega)]
    exact hu s t (by omega) hst ht
  · rw [if_neg p1]
    by_cases p2 : s < a + (i - (a + 1))
    · rw [if_pos p2]
      by_cases p3 : t < a ∨ i ≤ t
      · rw [if_pos p3]
        exact hu _ _ (by omega) (by omega) ht
      · rw [if_neg p3]
        by_cases p4 : t < a + (i - (a + 1))
        · rw [if_pos p4]
          exact hu _ _ (by omega) (by omega) (by omega)
        · rw [if_neg p4, at_eq d (show t - (i - (a + 1)) = a by omega)]
          exact lo _ (by omega) (by omega)
    · rw [if_neg p2, at_eq d (show s - (i - (a + 1)) = a by omega)]
      rw [if_pos (show t < a ∨ i ≤ t by omega)]
      exact hi' t (by omega) ht
/-- The one element of the right part is put into the left one. -/
theorem up_last (O : Ord lt R) {d d' : Array β} {a m i : Nat} (hi : a ≤ i) (him : i ≤ m) (hu : Up R a m d) (hc : Crs lt R a m (m + 1) d)
    (h1 : a < i → lt d[m]! d[i - 1]! = false) (h2 : i < m → lt d[m]! d[i]! = true) (hr : Rot d d' i m (m + 1)) : Up R a (m + 1) d' := by
  intro s t hs hst ht
  rw [hr s, hr t]
  have lo : ∀ s, a ≤ s → s < i → R d[s]! d[m]! := fun s p q => hu.le (i := s) (j := i - 1) p (by omega) (by omega) O (hc (i - 1) m (by omega) (by omega) (Nat.le_refl _) (by omega) (h1 (by omega)))
  have hi' : ∀ s, i ≤ s → s < m → R d[m]! d[s]! := fun s p q => hu.ge (i := i) (j := s) (by omega) p q O (O.lt _ _ (h2 (by omega)))
  by_cases p1 : s < i ∨ m + 1 ≤ s
  · rw [if_pos p1]
    by_cases p2 : t < i ∨ m + 1 ≤ t
    · rw [if_pos p2]
      exact hu _ _ hs hst (by omega)
    · rw [if_neg p2]
      by_cases p3 : t < i + (m + 1 - m)
      · rw [if_pos p3, at_eq d (show t + m - i = m by omega)]
        exact lo _ hs (by omega)
      · rw [if_neg p3]
        exact hu _ _ hs (by omega) (by omega)
  · rw [if_neg p1, if_neg (show ¬ (t < i ∨ m + 1 ≤ t) by omega), if_neg (show ¬ t < i + (m + 1 - m) by omega)]
    by_cases p3 : s < i + (m + 1 - m)
    · rw [if_pos p3, at_eq d (show s + m - i = m by omega)]
      exact hi' _ (by omega) (by omega)
    · rw [if_neg p3]
      exact hu _ _ (by omega) (by omega) (by omega)

/-- What is behind the rotation: two merges that are apart. -/
structure Split (lt : β → β → Bool) (R : β → β → Prop) (d1 : Array β) (a start mid en b : Nat) : Prop where
  u1 : Up R a start d1
  u2 : Up R start mid d1
  u3 : Up R mid en d1
  u4 : Up R en b d1
  c1 : Crs lt R a start mid d1
  c2 : Crs lt R mid en b d1
  all : ∀ i j, a ≤ i → i < mid → mid ≤ j → j < b → R d1[i]! d1[j]!
theorem split_of (O : Ord lt R) {d d1 : Array β} {a m b mid start s0 r0 : Nat} (ham : a < m) (hmb : m < b) (hmid : mid = (a + b) / 2)
    (h0 : (mid < m ∧ s0 = mid + m - b ∧ r0 = mid) ∨ (m ≤ mid ∧ s0 = a ∧ r0 = m)) (hs : s0 ≤ start) (hr : start ≤ r0)
    (hu1 : Up R a m d) (hu2 : Up R m b d) (hc : Crs lt R a m b d)
    (h1 : s0 < start → lt d[mid + m - start]! d[start - 1]! = false) (h2 : start < r0 → lt d[mid + m - 1 - start]! d[start]! = true)
    (hrot : Rot d d1 start m (mid + m - start)) : Split lt R d1 a start mid (mid + m - start) b := by
  have g1 : start ≤ m := by omega
  have g2 : start ≤ mid := by omega
  have g3 : a ≤ start := by omega
  have g4 : mid + m - start ≤ b := by omega
  -- where each piece lies
  have q1 : ∀ t, t < start → d1[t]! = d[t]! := fun t ht => by rw [hrot, if_pos (by omega)]
  have q2 : ∀ t, start ≤ t → t < mid → d1[t]! = d[t + m - start]! := fun t p q => by rw [hrot, if_neg (by omega), if_pos (by omega)]
  have q3 : ∀ t, mid ≤ t → t < mid + m - start → d1[t]! = d[t + start - mid]! := fun t p q => by rw [hrot, if_neg (by omega), if_neg (by omega)]; exact at_eq d (by omega)
  have q4 : ∀ t, mid + m - start ≤ t → d1[t]! = d[t]! := fun t ht => by rw [hrot, if_pos (by omega)]
  refine ⟨?_, ?_, ?_, ?_, ?_, ?_, ?_⟩
  · intro i j p q r
    rw [q1 i (by omega), q1 j r]; exact hu1 i j p q (by omega)
  · intro i j p q r
    rw [q2 i p (by omega), q2 j (by omega) r]; exact hu2 _ _ (by omega) (by omega) (by omega)
  · intro i j p q r
    rw [q3 i p (by omega), q3 j (by omega) r]; exact hu1 _ _ (by omega) (by omega) (by omega)
  · intro i j p q r
    rw [q4 i p, q4 j (by omega)]; exact hu2 i j (by omega) q r
  · intro i j p q r s
    rw [q1 i q, q2 j r s]; exact hc i _ p (by omega) (by omega) (by omega)
  · intro i j p q r s
    rw [q3 i p q, q4 j r]; exact hc _ j (by omega) (by omega) (by omega) s
  · intro i j p q r s
    by_cases e1 : i < start
    · rw [q1 i e1]
      by_cases e2 : j < mid + m - start
      · rw [q3 j r e2]; exact hu1 _ _ p (by omega) (by omega)
      · rw [q4 j (by omega)]
        have hx : R d[start - 1]! d[mid + m - start]! := hc _ _ (by omega) (by omega) (by omega) (by omega) (h1 (by omega))
        exact hu1.le (i := i) (j := start - 1) p (by omega) (by omega) O (hu2.ge (i := mid + m - start) (j := j) (by omega) (by omega) s O hx)
    · rw [q2 i (by omega) q]
      by_cases e2 : j < mid + m - start
      · rw [q3 j r e2]
        have hx : R d[mid + m - 1 - start]! d[start]! := O.lt _ _ (h2 (by omega))
        exact hu2.le (i := i + m - start) (j := mid + m - 1 - start) (by omega) (by omega) (by omega) O (hu1.ge (i := start) (j := j + start - mid) (by omega) (by omega) (by omega) O hx)
      · rw [q4 j (by omega)]; exact hu2 _ _ (by omega) (by omega) s
theorem at_size {d d' : Array β} {a b : Nat} (h : PermIn a b d d') : d'.size = d.size := h.1
theorem at_out {d d' : Array β} {a b : Nat} (h : PermIn a b d d') {i : Nat} (hi : i < a ∨ b ≤ i) : d'[i]! = d[i]! := h.2.1 i hi
theorem Up.out {d d' : Array β} {a b x y : Nat} (h : PermIn x y d d') (hu : Up R a b d) (ho : b ≤ x ∨ y ≤ a) : Up R a b d' := fun i j p q r => by
  rw [at_out h (show i < x ∨ y ≤ i by omega), at_out h (show j < x ∨ y ≤ j by omega)]; exact hu i j p q r
theorem Crs.out {d d' : Array β} {a m b x y : Nat} (h : PermIn x y d d') (hu : Crs lt R a m b d) (ho : b ≤ x ∨ y ≤ a) (hamb : a ≤ m ∧ m ≤ b) : Crs lt R a m b d' := fun i j p q r s => by
  rw [at_out h (show i < x ∨ y ≤ i by omega), at_out h (show j < x ∨ y ≤ j by omega)]; exact hu i j p q r s
/-- Both merges done: all is in order. -/
theorem up_both {d1 d2 d3 : Array β} {a start mid en b : Nat} (S : Split lt R d1 a start mid en b) (hb : b ≤ d1.size) (ham : a ≤ mid) (hmb : mid ≤ b) (h2 : PermIn a mid d1 d2) (hu2 : Up R a mid d2) (h3 : PermIn mid b d2 d3) (hu3 : Up R mid b d3) : Up R a b d3 := by
  refine Up.join (hu2.out h3 (Or.inl (Nat.le_refl _))) hu3 ?_
  intro i j p q r s
  rw [at_out h3 (Or.inl q)]
  have k1 : ∀ j, mid ≤ j → j < b → R d2[i]! d2[j]! := fun j r s => by
    rw [at_out h2 (i := j) (Or.inr r)]
    exact permIn_all d1 d2 a mid (fun x => R x d1[j]!) (by omega) h2 (fun i p q => S.all i j p q r s) i p q
  exact permIn_all d2 d3 mid b (fun x => R d2[i]! x) (by rw [at_size h2]; exact hb) h3 (fun j r s => k1 j r s) j r s
end
end

end Go.Proofs.YtmniiodpbebnmaaGreat
