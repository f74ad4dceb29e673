/- The plain law of a stripe: one act on both sides; A stripe's bounds go on; chapter 18's has: a node has just a load; chapter 18's told: a stripe has just these items. -/
import Derived.Test.YtfegielnmdppgaaGreatJ33
import Derived.Test.YtfegielnmdppgaaGreatJ15
import Derived.Test.YtfegielnmdppgaaGreatJ16
import Derived.Test.YtfegielnmdppgaaGreatJ32
namespace Go.Proofs.YtfegielnmdppgaaGreat

section
set_option linter.unusedSimpArgs false
set_option linter.unusedVariables false
open Go.RowKit Go.Lib Go.Sort

/-- What the reference's Do comes to: the items, an error, a number, the version's rise. -/
def do18 (c : Cfg) (rs rh : Nat) (l : List It) (k : Ky) (a : Act17) : List (Ky × Nd) × Int × Int × Int :=
  if a.kind = 1 then (l.map fun x => (x.key, trimR a.smp.1 x.nd), 0, (goneI l a.smp.1 : Nat), (manyI l a.smp.1 : Nat))
  else if a.kind < 0 ∨ 3 < a.kind then (l.map absI, 0, 0, 0)
  else ((one18 c rs rh l k a).1, (one18 c rs rh l k a).2.1, 0, (one18 c rs rh l k a).2.2)

theorem do18_any (P : Nat → Prop) (c : Cfg) (rs rh : Nat) (v : Value) (l : List It) (k : Ky) (a : Act17) (w : World) (hP : ∀ b, w.heap.size ≤ b → P b) (hx : ItemsIn P w v l) (hc : RoomOk c rs rh) (hn : ∀ x ∈ l, NdOk rs rh x.nd) (hv : ∀ x ∈ l, x.nd.ver ≤ 1000000) (hl : l.length ≤ 1000) (hok : ∀ x ∈ l, x.key.ok) (hk : k.ok) :
    Calls Tryz.prog 50 #[cfgV c, v, .agg (act18C k a).toArray] w (Do18Says P w (do18 c rs rh l k a).1 (do18 c rs rh l k a).2.1 (do18 c rs rh l k a).2.2.1 (do18 c rs rh l k a).2.2.2) := by
  unfold do18
  by_cases h1 : a.kind = 1
  · rw [if_pos h1]
    refine r18_trim P c v l _ _ _ k a w h1 (fun W hb => ?_)
    refine (rtrim_any P c rs rh v l a.smp.1 W (fun b hb' => hP b (Nat.le_trans hb.size hb')) (hx.below hb) hc hn hv hl).mono ?_
    rintro e w' ⟨out, A, cc, h2, h3, h4, h5⟩
    exact ⟨out, A, cc, h2, h3, h4, h5⟩
  · rw [if_neg h1]
    by_cases h0 : a.kind < 0 ∨ 3 < a.kind
    · rw [if_pos h0]
      exact r18_other P c v l k a w hx h0
    · rw [if_neg h0]
      have hg : NdOk rs rh (getL l k).nd ∧ (getL l k).nd.ver ≤ 1000000 := by
        unfold getL
        split
        · rename_i hh
          split
          · exact ⟨hn _ (List.getElem_mem hh), hv _ (List.getElem_mem hh)⟩
          · exact ⟨⟨List.Pairwise.nil, Nat.zero_le _, Nat.zero_le _⟩, Nat.zero_le _⟩
        · exact ⟨⟨List.Pairwise.nil, Nat.zero_le _, Nat.zero_le _⟩, Nat.zero_le _⟩
      exact r18_one P c rs rh v l k a w hP hx hc hg.1 hg.2 hl hok hk (by omega) h1 (by omega)

theorem do18_one {c : Cfg} {rs rh : Nat} {l : List It} {k : Ky} {a : Act17} (h1 : a.kind ≠ 1) (h0 : ¬ (a.kind < 0 ∨ 3 < a.kind)) : do18 c rs rh l k a = ((one18 c rs rh l k a).1, (one18 c rs rh l k a).2.1, 0, (one18 c rs rh l k a).2.2) := by
  unfold do18
  rw [if_neg h1, if_neg h0]
theorem one18_bad {c : Cfg} {rs rh : Nat} {l : List It} {k : Ky} {a : Act17} {y : Nd} {e n : Int} (h : do17 rs rh (getL l k).nd a = (y, e, n)) (he : e ≠ 0) : one18 c rs rh l k a = (l.map absI, e, 0) := by
  unfold one18
  simp only [h]
  rw [if_pos he]
theorem one18_ok {c : Cfg} {rs rh : Nat} {l : List It} {k : Ky} {a : Act17} {y : Nd} {n : Int} (h : do17 rs rh (getL l k).nd a = (y, 0, n)) (h3 : a.kind ≠ 3) : one18 c rs rh l k a = if hasI l k = false ∧ c.lo ≤ (l.length : Nat) then (l.map absI, 6, 0) else (outI l k y, 0, 1) := by
  unfold one18
  simp only [h]
  rw [if_neg (by simp), if_neg (fun hh => h3 hh.2)]
theorem one18_note {c : Cfg} {rs rh : Nat} {l : List It} {k : Ky} {a : Act17} {y : Nd} {n : Int} (h : do17 rs rh (getL l k).nd a = (y, 0, n)) (h3 : a.kind = 3) : one18 c rs rh l k a = if hasI l k = true then (outI l k y, 0, 1) else (l.map absI, 5, 0) := by
  unfold one18
  simp only [h]
  rw [if_neg (by simp)]
  cases hh : hasI l k with
  | true => simp
  | false => simp [h3]

/-- What the two sides' answers to an act are. -/
def Same18 (ver : Nat) (r : DoR) (t : List (Ky × Nd) × Int × Int × Int) : Prop :=
  Tells18 r.has t.1 ∧ r.err = t.2.1 ∧ ((r.gone : Nat) : Int) = t.2.2.1 ∧ ((r.ver : Nat) : Int) = (ver : Int) + t.2.2.2
/-- One act on both sides: what they have tells the same, and so do their answers. -/
theorem tells_act {S : List (KO × Nd)} {l : List It} (h : Tells18 S (l.map absI)) (c : Cfg) (rs rh ver : Nat) (k : KO) (a : Act17) :
    Same18 ver (doS c rs rh ver S k a) (do18 c rs rh l k.1 a) := by
  have hhas := h.has k
  have hlen : S.length = l.length := by have := h.len; simpa using this
  obtain ⟨g1, g2, g3, g4⟩ := h.get k
  by_cases h1 : a.kind = 1
  · have e1 : doS c rs rh ver S k a = ⟨0, goneS S a.smp.1 (risL (keysS S)), ver + manyS S a.smp.1 (risL (keysS S)), trimK S a.smp.1 (risL (keysS S))⟩ := by unfold doS; rw [if_neg (by omega), if_pos h1]
    have e2 : do18 c rs rh l k.1 a = (l.map fun x => (x.key, trimR a.smp.1 x.nd), 0, ((goneI l a.smp.1 : Nat) : Int), ((manyI l a.smp.1 : Nat) : Int)) := by unfold do18; rw [if_pos h1]
    rw [e1, e2]
    have ht := h.trim a.smp.1 (K := risL (keysS S)) (fun q hq => (mem_risL _ q).2 hq)
    have hg := tells_gone h a.smp.1
    have e : (l.map absI).map (fun p => (p.1, trimR a.smp.1 p.2)) = l.map fun x => (x.key, trimR a.smp.1 x.nd) := by rw [List.map_map]; rfl
    rw [e] at ht
    exact ⟨ht, rfl, by simp only [hg.1], by simp only [hg.2]; omega⟩
  by_cases hx : a.kind < 0 ∨ 3 < a.kind
  · have e1 : doS c rs rh ver S k a = ⟨0, 0, ver, S.map fun p => (p.1, if p.1.1 ∈ risL (keysS S) then frz p.2 else p.2)⟩ := by unfold doS; rw [if_neg (by omega), if_neg h1, if_neg (by omega), if_neg (by omega)]
    have e2 : do18 c rs rh l k.1 a = (l.map absI, 0, 0, 0) := by unfold do18; rw [if_neg h1, if_pos hx]
    rw [e1, e2]
    exact ⟨tells_frz h _, rfl, rfl, by simp⟩
  rw [do18_one h1 hx]
  by_cases h0 : a.kind = 0
  · by_cases hs : serE a.smp.1 a.smp.2 = 0
    · have e17 : do17 rs rh (getL l k.1).nd a = ({ (getL l k.1).nd with smp := putS (getL l k.1).nd.smp (rs : Nat) a.smp, ver := (getL l k.1).nd.ver + 1 }, 0, ((getL l k.1).nd.smp.length : Int) - ((putS (getL l k.1).nd.smp (rs : Nat) a.smp).length : Int)) := by unfold do17; rw [if_pos h0, if_pos hs]
      have e1 : doS c rs rh ver S k a = if hasM S k = false ∧ c.lo ≤ (S.length : Nat) then ⟨6, 0, ver, S⟩ else ⟨0, 0, ver + 1, putM S k { bump (ndOf S k) with smp := putS (ndOf S k).smp (rs : Nat) a.smp }⟩ := by unfold doS; rw [if_pos h0, if_pos hs]
      rw [e1, one18_ok e17 (by omega), hhas, hlen]
      by_cases hf : hasI l k.1 = false ∧ c.lo ≤ (l.length : Nat)
      · rw [if_pos hf, if_pos hf]
        exact ⟨h, rfl, rfl, by simp⟩
      · rw [if_neg hf, if_neg hf]
        exact ⟨h.put k ⟨by simp only [g1], by simp only [bump, g2], by simp only [bump, g3], by simp only [bump, g4]⟩, rfl, rfl, by simp⟩
    · have e17 : do17 rs rh (getL l k.1).nd a = ((getL l k.1).nd, serE a.smp.1 a.smp.2, 0) := by unfold do17; rw [if_pos h0, if_neg hs]
      have e1 : doS c rs rh ver S k a = ⟨serE a.smp.1 a.smp.2, 0, ver, S⟩ := by unfold doS; rw [if_pos h0, if_neg hs]
      rw [e1, one18_bad e17 hs]
      exact ⟨h, rfl, rfl, by simp⟩
  by_cases h2 : a.kind = 2
  · cases hp : polB a.pol with
    | true =>
      have e17 : do17 rs rh (getL l k.1).nd a = ({ (getL l k.1).nd with pol := a.pol, ruled := true, ver := (getL l k.1).nd.ver + 1 }, 0, 0) := by unfold do17; rw [if_neg h0, if_neg h1, if_pos h2, if_pos hp]
      have e1 : doS c rs rh ver S k a = if hasM S k = false ∧ c.lo ≤ (S.length : Nat) then ⟨6, 0, ver, S⟩ else ⟨0, 0, ver + 1, putM S k { bump (ndOf S k) with pol := a.pol, ruled := true }⟩ := by unfold doS; rw [if_neg h0, if_neg h1, if_pos h2, if_pos hp]
      rw [e1, one18_ok e17 (by omega), hhas, hlen]
      by_cases hf : hasI l k.1 = false ∧ c.lo ≤ (l.length : Nat)
      · rw [if_pos hf, if_pos hf]
        exact ⟨h, rfl, rfl, by simp⟩
      · rw [if_neg hf, if_neg hf]
        exact ⟨h.put k ⟨by simp only [bump, g1], by simp only [bump, g2], rfl, rfl⟩, rfl, rfl, by simp⟩
    | false =>
      have e17 : do17 rs rh (getL l k.1).nd a = ((getL l k.1).nd, 7, 0) := by unfold do17; rw [if_neg h0, if_neg h1, if_pos h2, if_neg (by rw [hp]; simp)]
      have e1 : doS c rs rh ver S k a = ⟨7, 0, ver, S⟩ := by unfold doS; rw [if_neg h0, if_neg h1, if_pos h2, if_neg (by rw [hp]; simp)]
      rw [e1, one18_bad e17 (by decide)]
      exact ⟨h, rfl, rfl, by simp⟩
  have h3 : a.kind = 3 := by omega
  have e17 : do17 rs rh (getL l k.1).nd a = ({ (getL l k.1).nd with past := pushL (getL l k.1).nd.past rh a.adv, ver := (getL l k.1).nd.ver + 1 }, 0, 0) := by unfold do17; rw [if_neg h0, if_neg h1, if_neg h2, if_pos h3]
  have e1 : doS c rs rh ver S k a = if hasM S k = true then ⟨0, 0, ver + 1, putM S k { bump (ndOf S k) with past := pushL (ndOf S k).past rh a.adv }⟩ else ⟨5, 0, ver, S⟩ := by unfold doS; rw [if_neg h0, if_neg h1, if_neg h2, if_pos h3]
  rw [e1, one18_note e17 h3, hhas]
  cases hh : hasI l k.1 with
  | true =>
    rw [if_pos rfl, if_pos rfl]
    exact ⟨h.put k ⟨by simp only [bump, g1], by simp only [g2], by simp only [bump, g3], by simp only [bump, g4]⟩, rfl, rfl, by simp⟩
  | false =>
    rw [if_neg (by simp), if_neg (by simp)]
    exact ⟨h, rfl, rfl, by simp⟩
end

section
set_option linter.unusedSimpArgs false
set_option linter.unusedVariables false
open Go.RowKit Go.Lib Go.Sort

/-- Behind so many acts: few workloads, few changes of each. -/
structure Grown (n : Nat) (ver : Nat) (S : List (KO × Nd)) : Prop where
  len : S.length ≤ n
  vers : ∀ p ∈ S, p.2.ver ≤ n
theorem ndOf_ver {n ver : Nat} {S : List (KO × Nd)} (h : Grown n ver S) (k : KO) : (ndOf S k).ver ≤ n := by
  unfold ndOf
  cases hf : findM S k with
  | none => simp [nd0]
  | some x => exact h.vers _ (find_mem hf)
theorem grown_put {n ver ver' : Nat} {S : List (KO × Nd)} (h : Grown n ver S) (k : KO) {x : Nd} (hx : x.ver ≤ n + 1) : Grown (n + 1) ver' (putM S k x) := by
  refine ⟨?_, fun p hp => ?_⟩
  · rw [len_putM]
    have := h.len
    split <;> omega
  · rcases mem_putM hp with rfl | ⟨hp, _⟩
    · exact hx
    · exact Nat.le_succ_of_le (h.vers p hp)
theorem Grown.more {n ver ver' : Nat} {S : List (KO × Nd)} (h : Grown n ver S) : Grown (n + 1) ver' S := ⟨Nat.le_succ_of_le h.len, fun p hp => Nat.le_succ_of_le (h.vers p hp)⟩
theorem grown_act {n ver : Nat} {S : List (KO × Nd)} (h : Grown n ver S) (c : Cfg) (rs rh : Nat) (k : KO) (a : Act17) : Grown (n + 1) (doS c rs rh ver S k a).ver (doS c rs rh ver S k a).has := by
  have hv := ndOf_ver h k
  unfold doS
  split
  · split
    · split
      · exact h.more
      · exact grown_put h k (by simp only [bump]; omega)
    · exact h.more
  · split
    · refine ⟨by simp [trimK]; exact Nat.le_succ_of_le h.len, fun p hp => ?_⟩
      obtain ⟨q, hq, rfl⟩ := List.mem_map.1 hp
      have := h.vers q hq
      dsimp only
      split
      · unfold trimN
        split
        · omega
        · simp only [bump]; omega
      · omega
    · split
      · split
        · split
          · exact h.more
          · exact grown_put h k (by simp only [bump]; omega)
        · exact h.more
      · split
        · split
          · exact grown_put h k (by simp only [bump]; omega)
          · exact h.more
        · refine ⟨by simp; exact Nat.le_succ_of_le h.len, fun p hp => ?_⟩
          obtain ⟨q, hq, rfl⟩ := List.mem_map.1 hp
          have := h.vers q hq
          dsimp only
          split
          · simp only [frz]; omega
          · omega
/-- The version rises by no more than there are workloads, or one. -/
theorem ver_act {n ver : Nat} {S : List (KO × Nd)} (h : Grown n ver S) (c : Cfg) (rs rh : Nat) (k : KO) (a : Act17) (hn : (risL (keysS S)).length ≤ n) : (doS c rs rh ver S k a).ver ≤ ver + n + 1 := by
  have hm : manyS S a.smp.1 (risL (keysS S)) ≤ n := Nat.le_trans List.countP_le_length hn
  unfold doS
  split
  · split
    · split
      · dsimp only; omega
      · dsimp only; omega
    · dsimp only; omega
  · split
    · dsimp only; omega
    · split
      · split
        · split
          · dsimp only; omega
          · dsimp only; omega
        · dsimp only; omega
      · split
        · split
          · dsimp only; omega
          · dsimp only; omega
        · dsimp only; omega
theorem sameN.ok {rs rh : Nat} {x y : Nd} (h : sameN x y) (hx : NdOk rs rh x) : NdOk rs rh y := ⟨by rw [← h.1]; exact hx.ris, by rw [← h.1]; exact hx.len, by rw [← h.2.1]; exact hx.past⟩
end

section
set_option linter.unusedSimpArgs false
set_option linter.unusedVariables false
open Go.RowKit Go.Lib Go.Sort
end

section
set_option linter.unusedSimpArgs false
set_option linter.unusedVariables false
open Go.RowKit Go.Lib Go.Sort

/-- The node of an item. -/
theorem tells_node {w : World} {T M : Nat} {c : Cfg} {ver : Nat} {es : List (KO × NE)} {rs rh : Nat} {l : List It} (h : SAt w T M c ver es rs rh) (ht : Tells18 (ab es) (l.map absI)) {x : It} (hx : x ∈ l) :
    ∃ (k : KO) (b : NE), x.key = k.1 ∧ findM es k = some b ∧ NodeIn w b.1 b.2.1 rs rh b.2.2 ∧ sameN b.2.1 x.nd := by
  have hm : x.key ∈ keysS (ab es) := (ht.keys x.key).1 (List.mem_map.2 ⟨absI x, List.mem_map.2 ⟨x, hx, rfl⟩, rfl⟩)
  obtain ⟨p, hp, he⟩ := List.mem_map.1 hm
  obtain ⟨q, hq, rfl⟩ := List.mem_map.1 hp
  have hf := find_of_mem h.nodup (show (q.1, q.2) ∈ es from hq)
  have hf2 : findM (ab es) q.1 = some q.2.2.1 := by rw [ab_find, hf]; rfl
  obtain ⟨y, hy, hs⟩ := ht.vals q.1 q.2.2.1 hf2
  have he' : q.1.1 = x.key := he
  rw [he'] at hy
  rw [sorted_at_unique ht.sorted hy (List.mem_map.2 ⟨x, hx, rfl⟩ : (x.key, x.nd) ∈ l.map absI)] at hs
  exact ⟨q.1, q.2, he'.symm, hf, h.node q hq, hs⟩
end

end Go.Proofs.YtfegielnmdppgaaGreat
