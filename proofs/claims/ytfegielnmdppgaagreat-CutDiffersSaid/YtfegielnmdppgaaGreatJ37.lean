/- The plain law of a stripe: one act on both sides; A stripe's bounds go on; chapter 18's has: a node has just a load; chapter 18's told: a stripe has just these items; A stripe and the reference's items, side by side. -/
import Derived.Test.YtfegielnmdppgaaGreatJ36
import Derived.Test.YtfegielnmdppgaaGreatJ17
import Derived.Test.YtfegielnmdppgaaGreatJ18
import Derived.Test.YtfegielnmdppgaaGreatJ34
namespace Go.Proofs.YtfegielnmdppgaaGreat

section
set_option linter.unusedSimpArgs false
set_option linter.unusedVariables false
open Go.RowKit Go.Lib Go.Sort

/-- What the reference's Do comes to: the items, an error, a number, the version's rise. -/
def do18 (c : Cfg) (rs rh : Nat) (l : List It) (k : Ky) (a : Act17) : List (Ky × Nd) × Int × Int × Int :=
  if a.kind = 1 then (l.map fun x => (x.key, trimR a.smp.1 x.nd), 0, (goneI l a.smp.1 : Nat), (manyI l a.smp.1 : Nat))
  else if a.kind < 0 ∨ 3 < a.kind then (l.map absI, 0, 0, 0)
  else ((one18 c rs rh l k a).1, (one18 c rs rh l k a).2.1, 0, (one18 c rs rh l k a).2.2)

theorem do18_any (P : Nat → Prop) (c : Cfg) (rs rh : Nat) (v : Value) (l : List It) (k : Ky) (a : Act17) (w : World) (hP : ∀ b, w.heap.size ≤ b → P b) (hx : ItemsIn P w v l) (hc : RoomOk c rs rh) (hn : ∀ x ∈ l, NdOk rs rh x.nd) (hv : ∀ x ∈ l, x.nd.ver ≤ 1000000) (hl : l.length ≤ 1000) (hok : ∀ x ∈ l, x.key.ok) (hk : k.ok) :
    Calls Tryz.prog 50 #[cfgV c, v, .agg (act18C k a).toArray] w (Do18Says P w (do18 c rs rh l k a).1 (do18 c rs rh l k a).2.1 (do18 c rs rh l k a).2.2.1 (do18 c rs rh l k a).2.2.2) := by
  unfold do18
  by_cases h1 : a.kind = 1
  · rw [if_pos h1]
    refine r18_trim P c v l _ _ _ k a w h1 (fun W hb => ?_)
    refine (rtrim_any P c rs rh v l a.smp.1 W (fun b hb' => hP b (Nat.le_trans hb.size hb')) (hx.below hb) hc hn hv hl).mono ?_
    rintro e w' ⟨out, A, cc, h2, h3, h4, h5⟩
    exact ⟨out, A, cc, h2, h3, h4, h5⟩
  · rw [if_neg h1]
    by_cases h0 : a.kind < 0 ∨ 3 < a.kind
    · rw [if_pos h0]
      exact r18_other P c v l k a w hx h0
    · rw [if_neg h0]
      have hg : NdOk rs rh (getL l k).nd ∧ (getL l k).nd.ver ≤ 1000000 := by
        unfold getL
        split
        · rename_i hh
          split
          · exact ⟨hn _ (List.getElem_mem hh), hv _ (List.getElem_mem hh)⟩
          · exact ⟨⟨List.Pairwise.nil, Nat.zero_le _, Nat.zero_le _⟩, Nat.zero_le _⟩
        · exact ⟨⟨List.Pairwise.nil, Nat.zero_le _, Nat.zero_le _⟩, Nat.zero_le _⟩
      exact r18_one P c rs rh v l k a w hP hx hc hg.1 hg.2 hl hok hk (by omega) h1 (by omega)

theorem do18_one {c : Cfg} {rs rh : Nat} {l : List It} {k : Ky} {a : Act17} (h1 : a.kind ≠ 1) (h0 : ¬ (a.kind < 0 ∨ 3 < a.kind)) : do18 c rs rh l k a = ((one18 c rs rh l k a).1, (one18 c rs rh l k a).2.1, 0, (one18 c rs rh l k a).2.2) := by
  unfold do18
  rw [if_neg h1, if_neg h0]
theorem one18_bad {c : Cfg} {rs rh : Nat} {l : List It} {k : Ky} {a : Act17} {y : Nd} {e n : Int} (h : do17 rs rh (getL l k).nd a = (y, e, n)) (he : e ≠ 0) : one18 c rs rh l k a = (l.map absI, e, 0) := by
  unfold one18
  simp only [h]
  rw [if_pos he]
theorem one18_ok {c : Cfg} {rs rh : Nat} {l : List It} {k : Ky} {a : Act17} {y : Nd} {n : Int} (h : do17 rs rh (getL l k).nd a = (y, 0, n)) (h3 : a.kind ≠ 3) : one18 c rs rh l k a = if hasI l k = false ∧ c.lo ≤ (l.length : Nat) then (l.map absI, 6, 0) else (outI l k y, 0, 1) := by
  unfold one18
  simp only [h]
  rw [if_neg (by simp), if_neg (fun hh => h3 hh.2)]
theorem one18_note {c : Cfg} {rs rh : Nat} {l : List It} {k : Ky} {a : Act17} {y : Nd} {n : Int} (h : do17 rs rh (getL l k).nd a = (y, 0, n)) (h3 : a.kind = 3) : one18 c rs rh l k a = if hasI l k = true then (outI l k y, 0, 1) else (l.map absI, 5, 0) := by
  unfold one18
  simp only [h]
  rw [if_neg (by simp)]
  cases hh : hasI l k with
  | true => simp
  | false => simp [h3]

/-- What the two sides' answers to an act are. -/
def Same18 (ver : Nat) (r : DoR) (t : List (Ky × Nd) × Int × Int × Int) : Prop :=
  Tells18 r.has t.1 ∧ r.err = t.2.1 ∧ ((r.gone : Nat) : Int) = t.2.2.1 ∧ ((r.ver : Nat) : Int) = (ver : Int) + t.2.2.2
/-- One act on both sides: what they have tells the same, and so do their answers. -/
theorem tells_act {S : List (KO × Nd)} {l : List It} (h : Tells18 S (l.map absI)) (c : Cfg) (rs rh ver : Nat) (k : KO) (a : Act17) :
    Same18 ver (doS c rs rh ver S k a) (do18 c rs rh l k.1 a) := by
  have hhas := h.has k
  have hlen : S.length = l.length := by have := h.len; simpa using this
  obtain ⟨g1, g2, g3, g4⟩ := h.get k
  by_cases h1 : a.kind = 1
  · have e1 : doS c rs rh ver S k a = ⟨0, goneS S a.smp.1 (risL (keysS S)), ver + manyS S a.smp.1 (risL (keysS S)), trimK S a.smp.1 (risL (keysS S))⟩ := by unfold doS; rw [if_neg (by omega), if_pos h1]
    have e2 : do18 c rs rh l k.1 a = (l.map fun x => (x.key, trimR a.smp.1 x.nd), 0, ((goneI l a.smp.1 : Nat) : Int), ((manyI l a.smp.1 : Nat) : Int)) := by unfold do18; rw [if_pos h1]
    rw [e1, e2]
    have ht := h.trim a.smp.1 (K := risL (keysS S)) (fun q hq => (mem_risL _ q).2 hq)
    have hg := tells_gone h a.smp.1
    have e : (l.map absI).map (fun p => (p.1, trimR a.smp.1 p.2)) = l.map fun x => (x.key, trimR a.smp.1 x.nd) := by rw [List.map_map]; rfl
    rw [e] at ht
    exact ⟨ht, rfl, by simp only [hg.1], by simp only [hg.2]; omega⟩
  by_cases hx : a.kind < 0 ∨ 3 < a.kind
  · have e1 : doS c rs rh ver S k a = ⟨0, 0, ver, S.map fun p => (p.1, if p.1.1 ∈ risL (keysS S) then frz p.2 else p.2)⟩ := by unfold doS; rw [if_neg (by omega), if_neg h1, if_neg (by omega), if_neg (by omega)]
    have e2 : do18 c rs rh l k.1 a = (l.map absI, 0, 0, 0) := by unfold do18; rw [if_neg h1, if_pos hx]
    rw [e1, e2]
    exact ⟨tells_frz h _, rfl, rfl, by simp⟩
  rw [do18_one h1 hx]
  by_cases h0 : a.kind = 0
  · by_cases hs : serE a.smp.1 a.smp.2 = 0
    · have e17 : do17 rs rh (getL l k.1).nd a = ({ (getL l k.1).nd with smp := putS (getL l k.1).nd.smp (rs : Nat) a.smp, ver := (getL l k.1).nd.ver + 1 }, 0, ((getL l k.1).nd.smp.length : Int) - ((putS (getL l k.1).nd.smp (rs : Nat) a.smp).length : Int)) := by unfold do17; rw [if_pos h0, if_pos hs]
      have e1 : doS c rs rh ver S k a = if hasM S k = false ∧ c.lo ≤ (S.length : Nat) then ⟨6, 0, ver, S⟩ else ⟨0, 0, ver + 1, putM S k { bump (ndOf S k) with smp := putS (ndOf S k).smp (rs : Nat) a.smp }⟩ := by unfold doS; rw [if_pos h0, if_pos hs]
      rw [e1, one18_ok e17 (by omega), hhas, hlen]
      by_cases hf : hasI l k.1 = false ∧ c.lo ≤ (l.length : Nat)
      · rw [if_pos hf, if_pos hf]
        exact ⟨h, rfl, rfl, by simp⟩
      · rw [if_neg hf, if_neg hf]
        exact ⟨h.put k ⟨by simp only [g1], by simp only [bump, g2], by simp only [bump, g3], by simp only [bump, g4]⟩, rfl, rfl, by simp⟩
    · have e17 : do17 rs rh (getL l k.1).nd a = ((getL l k.1).nd, serE a.smp.1 a.smp.2, 0) := by unfold do17; rw [if_pos h0, if_neg hs]
      have e1 : doS c rs rh ver S k a = ⟨serE a.smp.1 a.smp.2, 0, ver, S⟩ := by unfold doS; rw [if_pos h0, if_neg hs]
      rw [e1, one18_bad e17 hs]
      exact ⟨h, rfl, rfl, by simp⟩
  by_cases h2 : a.kind = 2
  · cases hp : polB a.pol with
    | true =>
      have e17 : do17 rs rh (getL l k.1).nd a = ({ (getL l k.1).nd with pol := a.pol, ruled := true, ver := (getL l k.1).nd.ver + 1 }, 0, 0) := by unfold do17; rw [if_neg h0, if_neg h1, if_pos h2, if_pos hp]
      have e1 : doS c rs rh ver S k a = if hasM S k = false ∧ c.lo ≤ (S.length : Nat) then ⟨6, 0, ver, S⟩ else ⟨0, 0, ver + 1, putM S k { bump (ndOf S k) with pol := a.pol, ruled := true }⟩ := by unfold doS; rw [if_neg h0, if_neg h1, if_pos h2, if_pos hp]
      rw [e1, one18_ok e17 (by omega), hhas, hlen]
      by_cases hf : hasI l k.1 = false ∧ c.lo ≤ (l.length : Nat)
      · rw [if_pos hf, if_pos hf]
        exact ⟨h, rfl, rfl, by simp⟩
      · rw [if_neg hf, if_neg hf]
        exact ⟨h.put k ⟨by simp only [bump, g1], by simp only [bump, g2], rfl, rfl⟩, rfl, rfl, by simp⟩
    | false =>
      have e17 : do17 rs rh (getL l k.1).nd a = ((getL l k.1).nd, 7, 0) := by unfold do17; rw [if_neg h0, if_neg h1, if_pos h2, if_neg (by rw [hp]; simp)]
      have e1 : doS c rs rh ver S k a = ⟨7, 0, ver, S⟩ := by unfold doS; rw [if_neg h0, if_neg h1, if_pos h2, if_neg (by rw [hp]; simp)]
      rw [e1, one18_bad e17 (by decide)]
      exact ⟨h, rfl, rfl, by simp⟩
  have h3 : a.kind = 3 := by omega
  have e17 : do17 rs rh (getL l k.1).nd a = ({ (getL l k.1).nd with past := pushL (getL l k.1).nd.past rh a.adv, ver := (getL l k.1).nd.ver + 1 }, 0, 0) := by unfold do17; rw [if_neg h0, if_neg h1, if_neg h2, if_pos h3]
  have e1 : doS c rs rh ver S k a = if hasM S k = true then ⟨0, 0, ver + 1, putM S k { bump (ndOf S k) with past := pushL (ndOf S k).past rh a.adv }⟩ else ⟨5, 0, ver, S⟩ := by unfold doS; rw [if_neg h0, if_neg h1, if_neg h2, if_pos h3]
  rw [e1, one18_note e17 h3, hhas]
  cases hh : hasI l k.1 with
  | true =>
    rw [if_pos rfl, if_pos rfl]
    exact ⟨h.put k ⟨by simp only [bump, g1], by simp only [g2], by simp only [bump, g3], by simp only [bump, g4]⟩, rfl, rfl, by simp⟩
  | false =>
    rw [if_neg (by simp), if_neg (by simp)]
    exact ⟨h, rfl, rfl, by simp⟩
end

section
set_option linter.unusedSimpArgs false
set_option linter.unusedVariables false
open Go.RowKit Go.Lib Go.Sort

/-- Behind so many acts: few workloads, few changes of each. -/
structure Grown (n : Nat) (ver : Nat) (S : List (KO × Nd)) : Prop where
  len : S.length ≤ n
  vers : ∀ p ∈ S, p.2.ver ≤ n
theorem ndOf_ver {n ver : Nat} {S : List (KO × Nd)} (h : Grown n ver S) (k : KO) : (ndOf S k).ver ≤ n := by
  unfold ndOf
  cases hf : findM S k with
  | none => simp [nd0]
  | some x => exact h.vers _ (find_mem hf)
theorem grown_put {n ver ver' : Nat} {S : List (KO × Nd)} (h : Grown n ver S) (k : KO) {x : Nd} (hx : x.ver ≤ n + 1) : Grown (n + 1) ver' (putM S k x) := by
  refine ⟨?_, fun p hp => ?_⟩
  · rw [len_putM]
    have := h.len
    split <;> omega
  · rcases mem_putM hp with rfl | ⟨hp, _⟩
    · exact hx
    · exact Nat.le_succ_of_le (h.vers p hp)
theorem Grown.more {n ver ver' : Nat} {S : List (KO × Nd)} (h : Grown n ver S) : Grown (n + 1) ver' S := ⟨Nat.le_succ_of_le h.len, fun p hp => Nat.le_succ_of_le (h.vers p hp)⟩
theorem grown_act {n ver : Nat} {S : List (KO × Nd)} (h : Grown n ver S) (c : Cfg) (rs rh : Nat) (k : KO) (a : Act17) : Grown (n + 1) (doS c rs rh ver S k a).ver (doS c rs rh ver S k a).has := by
  have hv := ndOf_ver h k
  unfold doS
  split
  · split
    · split
      · exact h.more
      · exact grown_put h k (by simp only [bump]; omega)
    · exact h.more
  · split
    · refine ⟨by simp [trimK]; exact Nat.le_succ_of_le h.len, fun p hp => ?_⟩
      obtain ⟨q, hq, rfl⟩ := List.mem_map.1 hp
      have := h.vers q hq
      dsimp only
      split
      · unfold trimN
        split
        · omega
        · simp only [bump]; omega
      · omega
    · split
      · split
        · split
          · exact h.more
          · exact grown_put h k (by simp only [bump]; omega)
        · exact h.more
      · split
        · split
          · exact grown_put h k (by simp only [bump]; omega)
          · exact h.more
        · refine ⟨by simp; exact Nat.le_succ_of_le h.len, fun p hp => ?_⟩
          obtain ⟨q, hq, rfl⟩ := List.mem_map.1 hp
          have := h.vers q hq
          dsimp only
          split
          · simp only [frz]; omega
          · omega
/-- The version rises by no more than there are workloads, or one. -/
theorem ver_act {n ver : Nat} {S : List (KO × Nd)} (h : Grown n ver S) (c : Cfg) (rs rh : Nat) (k : KO) (a : Act17) (hn : (risL (keysS S)).length ≤ n) : (doS c rs rh ver S k a).ver ≤ ver + n + 1 := by
  have hm : manyS S a.smp.1 (risL (keysS S)) ≤ n := Nat.le_trans List.countP_le_length hn
  unfold doS
  split
  · split
    · split
      · dsimp only; omega
      · dsimp only; omega
    · dsimp only; omega
  · split
    · dsimp only; omega
    · split
      · split
        · split
          · dsimp only; omega
          · dsimp only; omega
        · dsimp only; omega
      · split
        · split
          · dsimp only; omega
          · dsimp only; omega
        · dsimp only; omega
theorem sameN.ok {rs rh : Nat} {x y : Nd} (h : sameN x y) (hx : NdOk rs rh x) : NdOk rs rh y := ⟨by rw [← h.1]; exact hx.ris, by rw [← h.1]; exact hx.len, by rw [← h.2.1]; exact hx.past⟩
end

section
set_option linter.unusedSimpArgs false
set_option linter.unusedVariables false
open Go.RowKit Go.Lib Go.Sort
end

section
set_option linter.unusedSimpArgs false
set_option linter.unusedVariables false
open Go.RowKit Go.Lib Go.Sort

theorem eKey : EltOf 70 40 2 16 (.agg #[.int .u64 0, .int .u64 0]) keyC :=
  ⟨by kernel_rfl, by kernel_rfl, rfl, by decide, by decide, fun _ => rfl, fun x u hu => by
    simp only [keyC, List.mem_cons, List.not_mem_nil, or_false] at hu
    rcases hu with rfl | rfl <;> rfl⟩
theorem sget_some (T M : Nat) (c : Cfg) (ver : Nat) (es : List (KO × NE)) (rs rh : Nat) (k : KO) (b : NE) (w : World) (h : SAt w T M c ver es rs rh) (hb : findM es k = some b) :
    Calls Tryz.prog 108 #[.pointer (some ⟨T, 0, none⟩), .agg #[.int .u64 k.1.1, .int .u64 k.1.2]] w fun e w' => e = .returned (.pointer (some ⟨b.1, 0, none⟩)) ∧ Below w.heap.size w w' := by
  have := sget_any T M c ver es rs rh k w h
  rw [hb] at this
  exact this
/-- The node of an item. -/
theorem tells_node {w : World} {T M : Nat} {c : Cfg} {ver : Nat} {es : List (KO × NE)} {rs rh : Nat} {l : List It} (h : SAt w T M c ver es rs rh) (ht : Tells18 (ab es) (l.map absI)) {x : It} (hx : x ∈ l) :
    ∃ (k : KO) (b : NE), x.key = k.1 ∧ findM es k = some b ∧ NodeIn w b.1 b.2.1 rs rh b.2.2 ∧ sameN b.2.1 x.nd := by
  have hm : x.key ∈ keysS (ab es) := (ht.keys x.key).1 (List.mem_map.2 ⟨absI x, List.mem_map.2 ⟨x, hx, rfl⟩, rfl⟩)
  obtain ⟨p, hp, he⟩ := List.mem_map.1 hm
  obtain ⟨q, hq, rfl⟩ := List.mem_map.1 hp
  have hf := find_of_mem h.nodup (show (q.1, q.2) ∈ es from hq)
  have hf2 : findM (ab es) q.1 = some q.2.2.1 := by rw [ab_find, hf]; rfl
  obtain ⟨y, hy, hs⟩ := ht.vals q.1 q.2.2.1 hf2
  have he' : q.1.1 = x.key := he
  rw [he'] at hy
  rw [sorted_at_unique ht.sorted hy (List.mem_map.2 ⟨x, hx, rfl⟩ : (x.key, x.nd) ∈ l.map absI)] at hs
  exact ⟨q.1, q.2, he'.symm, hf, h.node q hq, hs⟩
end

section
set_option linter.unusedSimpArgs false
set_option linter.unusedVariables false
open Go.RowKit Go.Lib Go.Sort

theorem SAt.sfpLt {w : World} {T M : Nat} {c : Cfg} {ver : Nat} {es : List (KO × NE)} {rs rh : Nat} (h : SAt w T M c ver es rs rh) : ∀ r ∈ sfp T M es, r < w.heap.size := by
  intro r hr
  simp only [sfp, List.mem_cons] at hr
  rcases hr with rfl | rfl | hr
  · exact h.ltT
  · exact h.map.lt
  · obtain ⟨p, hp, hr⟩ := mem_mfpE.1 hr
    exact (h.node p hp).lt r (mfp_sub _ _ r hr)
theorem NodeIn.ok {w : World} {N : Nat} {x : Nd} {rs rh : Nat} {fp : List Nat} (h : NodeIn w N x rs rh fp) : NdOk rs rh x := by
  obtain ⟨S, fs, H, fh, h1, h2, h3, h4, h5, h6, rfl, h7, h8⟩ := h
  exact ⟨h7, h8, h3.len⟩
theorem tells_ok {w : World} {T M : Nat} {c : Cfg} {ver : Nat} {es : List (KO × NE)} {rs rh : Nat} {l : List It} (h : SAt w T M c ver es rs rh) (ht : Tells18 (ab es) (l.map absI)) : ∀ x ∈ l, NdOk rs rh x.nd ∧ x.key.ok := by
  intro x hx
  obtain ⟨k, b, h1, _, h3, h4⟩ := tells_node h ht hx
  exact ⟨h4.ok h3.ok, by rw [h1]; exact k.2⟩

theorem do17_ver (rs rh : Nat) (x : Nd) (a : Act17) : (do17 rs rh x a).1.ver ≤ x.ver + 1 := by
  unfold do17
  repeat (first | (split) | (dsimp only; omega))
theorem getL_ver {n : Nat} {l : List It} (hv : ∀ x ∈ l, x.nd.ver ≤ n) (k : Ky) : (getL l k).nd.ver ≤ n := by
  have h0 : it0.nd.ver = 0 := rfl
  unfold getL
  split
  · split
    · exact hv _ (List.getElem_mem _)
    · omega
  · omega
theorem do18_ver {n : Nat} {l : List It} (hv : ∀ x ∈ l, x.nd.ver ≤ n) (c : Cfg) (rs rh : Nat) (k : Ky) (a : Act17) : ∀ p ∈ (do18 c rs rh l k a).1, p.2.ver ≤ n + 1 := by
  have hv' : ∀ p ∈ l.map absI, p.2.ver ≤ n + 1 := by
    intro p hp
    obtain ⟨x, hx, rfl⟩ := List.mem_map.1 hp
    exact Nat.le_succ_of_le (hv x hx)
  have hg := getL_ver hv k
  have h17 := do17_ver rs rh (getL l k).nd a
  unfold do18
  split
  · intro p hp
    obtain ⟨x, hx, rfl⟩ := List.mem_map.1 hp
    have := hv x hx
    dsimp only
    unfold trimR
    split
    · omega
    · dsimp only; omega
  · split
    · exact hv'
    · unfold one18
      dsimp only
      split
      · exact hv'
      · split
        · exact hv'
        · split
          · exact hv'
          · intro p hp
            dsimp only at hp
            unfold outI at hp
            rcases List.mem_append.1 hp with hp | hp
            · rcases List.mem_append.1 hp with hp | hp
              · exact hv' p (List.mem_of_mem_take hp)
              · rw [List.mem_singleton.1 hp]
                dsimp only
                omega
            · exact hv' p (List.mem_of_mem_drop hp)

theorem outI_len {l : List It} (k : Ky) (y : Nd) : (outI l k y).length = if hasI l k = true then l.length else l.length + 1 := by
  have h0 := atI_le l k
  unfold outI
  by_cases hh : hasI l k = true
  · obtain ⟨hl, _⟩ := getL_has hh
    rw [if_pos hh, if_pos hh]
    simp
    omega
  · rw [if_neg hh, if_neg hh]
    simp
    omega
theorem do18_len {l : List It} {c : Cfg} (h : (l.length : Nat) ≤ c.lo) (rs rh : Nat) (k : Ky) (a : Act17) : (((do18 c rs rh l k a).1.length : Nat) : Int) ≤ c.lo := by
  have hm : ((l.map absI).length : Int) ≤ c.lo := by rw [List.length_map]; exact h
  unfold do18
  split
  · simpa using h
  · split
    · exact hm
    · unfold one18
      dsimp only
      split
      · exact hm
      · split
        · exact hm
        · split
          · exact hm
          · rename_i h3 h4
            dsimp only
            rw [outI_len]
            split
            · exact h
            · rename_i h5
              have h6 : hasI l k = false := by simpa using h5
              have : ¬ c.lo ≤ (l.length : Nat) := fun h7 => h4 ⟨h6, h7⟩
              omega

structure CfgOk (c : Cfg) (rs rh : Nat) : Prop where
  cfg : cfgB c = true
  sa : c.sa = (rs : Nat)
  hi : c.hi = (rh : Nat)
  ok : c.ok
theorem CfgOk.room {c : Cfg} {rs rh : Nat} (h : CfgOk c rs rh) : RoomOk c rs rh := by
  have hc := h.cfg
  have h1 := h.sa
  have h2 := h.hi
  unfold cfgB at hc
  simp only [Bool.and_eq_true, decide_eq_true_eq] at hc
  exact ⟨h1, h2, by omega, by omega, by omega, by omega⟩

/-- Behind n acts: the stripe, and the reference's items, whose blocks the stripe does not turn. -/
structure Play (w0 W : World) (T M : Nat) (c : Cfg) (rs rh n ver : Nat) (es : List (KO × NE)) (v : Value) (l : List It) : Prop where
  at_ : SAt W T M c ver es rs rh
  items : ItemsIn (fun b => b ∉ sfp T M es ∧ w0.heap.size ≤ b) W v l
  tells : Tells18 (ab es) (l.map absI)
  base : Below w0.heap.size w0 W
  above : ∀ r ∈ sfp T M es, w0.heap.size ≤ r
  fresh : ∀ p ∈ es, ∀ r ∈ p.2.2.2, w0.heap.size ≤ r
  grown : Grown n ver (ab es)
  vers : ∀ x ∈ l, x.nd.ver ≤ n
  ver_ : ver ≤ 1000 * n
  room : (l.length : Nat) ≤ c.lo
theorem Play.below {w0 W W' : World} {T M : Nat} {c : Cfg} {rs rh n ver : Nat} {es : List (KO × NE)} {v : Value} {l : List It} (h : Play w0 W T M c rs rh n ver es v l) (hb : Below W.heap.size W W') : Play w0 W' T M c rs rh n ver es v l :=
  ⟨h.at_.below hb, h.items.below hb, h.tells, bthen h.base hb, h.above, h.fresh, h.grown, h.vers, h.ver_, h.room⟩
theorem Play.len {w0 W : World} {T M : Nat} {c : Cfg} {rs rh n ver : Nat} {es : List (KO × NE)} {v : Value} {l : List It} (h : Play w0 W T M c rs rh n ver es v l) : es.length = l.length ∧ l.length ≤ n := by
  have h1 := h.tells.len
  have h2 := h.grown.len
  rw [ab_len] at h1 h2
  have h3 : es.length = l.length := by simpa using h1
  exact ⟨h3, by omega⟩
theorem sok_of {W : World} {T M : Nat} {c : Cfg} {rs rh n ver : Nat} {es : List (KO × NE)} (hg : Grown n ver (ab es)) (hv : ver ≤ 1000 * n) (hc : CfgOk c rs rh) (hn : n ≤ 100) : SOk c rs rh ver (ab es) :=
  ⟨hc.cfg, hc.sa, hc.hi, hc.ok, by have := hg.len; omega, by omega, fun p hp => by have := hg.vers p hp; omega⟩
theorem smp_small {W : World} {T M : Nat} {c : Cfg} {rs rh ver : Nat} {es : List (KO × NE)} (h : SAt W T M c ver es rs rh) (hr : rs ≤ 256) : ∀ p ∈ ab es, p.2.smp.length ≤ 256 := by
  intro p hp
  obtain ⟨q, hq, rfl⟩ := List.mem_map.1 hp
  exact Nat.le_trans (h.node q hq).ok.len hr
/-- A row that the stripe's turn leaves. -/
theorem RowG.turn {α : Type} {n : Nat} {f : α → List Value} {W w1 : World} {v : Value} {l : List α} {fp fp' : List Nat} (h : RowG (fun b => b ∉ fp) n f W v l) (hu : Upd W w1 fp fp') : RowG (fun b => b ∉ fp') n f w1 v l :=
  (h.old.imp (Q := fun b => b ∉ fp' ∧ b ∉ fp) (fun b hb => ⟨fun hq => (hu.fresh b hq).elim hb.1 (fun h' => by omega), hb.1⟩)).keepP hu.size (fun b hb hlt => hu.block b hlt hb.2) |>.imp (fun b hb => hb.1)
theorem RowG.turnB {α : Type} {n B : Nat} {f : α → List Value} {W w1 : World} {v : Value} {l : List α} {fp fp' : List Nat} (h : RowG (fun b => b ∉ fp ∧ B ≤ b) n f W v l) (hu : Upd W w1 fp fp') : RowG (fun b => b ∉ fp' ∧ B ≤ b) n f w1 v l :=
  (h.old.imp (Q := fun b => (b ∉ fp' ∧ B ≤ b) ∧ b ∉ fp) (fun b hb => ⟨⟨fun hq => (hu.fresh b hq).elim hb.1.1 (fun h' => by omega), hb.1.2⟩, hb.1.1⟩)).keepP hu.size (fun b hb hlt => hu.block b hlt hb.2) |>.imp (fun b hb => hb.1)
theorem ItemsIn.imp {P Q : Nat → Prop} {w : World} {v : Value} {l : List It} (h : ItemsIn P w v l) (hi : ∀ b, P b → Q b) : ItemsIn Q w v l := ⟨h.1.imp hi, fun x hx => (h.2 x hx).imp hi⟩
theorem ItemsIn.turnB {W w1 : World} {B : Nat} {v : Value} {l : List It} {fp fp' : List Nat} (h : ItemsIn (fun b => b ∉ fp ∧ B ≤ b) W v l) (hu : Upd W w1 fp fp') : ItemsIn (fun b => b ∉ fp' ∧ B ≤ b) w1 v l :=
  ⟨h.1.turnB hu, fun x hx => ⟨(h.2 x hx).1.turnB hu, (h.2 x hx).2.turnB hu⟩⟩
theorem ItemsIn.turn {W w1 : World} {v : Value} {l : List It} {fp fp' : List Nat} (h : ItemsIn (fun b => b ∉ fp) W v l) (hu : Upd W w1 fp fp') : ItemsIn (fun b => b ∉ fp') w1 v l :=
  ⟨h.1.turn hu, fun x hx => ⟨(h.2 x hx).1.turn hu, (h.2 x hx).2.turn hu⟩⟩

/-- Between the act on the stripe and the reference's. -/
structure Half (w0 W : World) (T M : Nat) (c : Cfg) (rs rh n ver : Nat) (k : KO) (a : Act17) (R : DoR) (es : List (KO × NE)) (v : Value) (l : List It) : Prop where
  at_ : SAt W T M c R.ver es rs rh
  has : ab es = R.has
  items : ItemsIn (fun b => b ∉ sfp T M es ∧ w0.heap.size ≤ b) W v l
  same : Same18 ver R (do18 c rs rh l k.1 a)
  base : Below w0.heap.size w0 W
  above : ∀ r ∈ sfp T M es, w0.heap.size ≤ r
  fresh : ∀ p ∈ es, ∀ r ∈ p.2.2.2, w0.heap.size ≤ r
  grown : Grown (n + 1) R.ver (ab es)
  vers : ∀ x ∈ l, x.nd.ver ≤ n
  ver_ : R.ver ≤ 1000 * (n + 1)
  oks : ∀ x ∈ l, NdOk rs rh x.nd ∧ x.key.ok
  len : l.length ≤ n
  room : (l.length : Nat) ≤ c.lo
theorem Half.below {w0 W W' : World} {T M : Nat} {c : Cfg} {rs rh n ver : Nat} {k : KO} {a : Act17} {R : DoR} {es : List (KO × NE)} {v : Value} {l : List It} (h : Half w0 W T M c rs rh n ver k a R es v l) (hb : Below W.heap.size W W') : Half w0 W' T M c rs rh n ver k a R es v l :=
  ⟨h.at_.below hb, h.has, h.items.below hb, h.same, bthen h.base hb, h.above, h.fresh, h.grown, h.vers, h.ver_, h.oks, h.len, h.room⟩
theorem Play.from_ {w w0 W : World} {T M : Nat} {c : Cfg} {rs rh n ver : Nat} {es : List (KO × NE)} {v : Value} {l : List It} (h : Play w0 W T M c rs rh n ver es v l) (hb : Below w.heap.size w w0) : Play w W T M c rs rh n ver es v l :=
  ⟨h.at_, h.items.imp (fun b hb' => ⟨hb'.1, Nat.le_trans hb.size hb'.2⟩), h.tells, hb.trans (h.base.mono hb.size), fun r hr => Nat.le_trans hb.size (h.above r hr), fun p hp r hr => Nat.le_trans hb.size (h.fresh p hp r hr), h.grown, h.vers, h.ver_, h.room⟩
theorem half_of {w0 W w1 : World} {T M : Nat} {c : Cfg} {rs rh n ver : Nat} {es es2 : List (KO × NE)} {v : Value} {l : List It} {k : KO} {a : Act17} (h : Play w0 W T M c rs rh n ver es v l) (hn : n ≤ 100) (hu : Upd W w1 (sfp T M es) (sfp T M es2)) (ho : Old W.heap.size es es2)
    (h1 : SAt w1 T M c (doS c rs rh ver (ab es) k a).ver es2 rs rh) (h2 : ab es2 = (doS c rs rh ver (ab es) k a).has) : Half w0 w1 T M c rs rh n ver k a (doS c rs rh ver (ab es) k a) es2 v l := by
  refine ⟨h1, h2, h.items.turnB hu, tells_act h.tells c rs rh ver k a, h.base.trans (hu.below h.base.size h.above), fun r hr => ?_, fun p hp r hr => ?_, ?_, h.vers, ?_, tells_ok h.at_ h.tells, h.len.2, h.room⟩
  · rcases hu.fresh r hr with hr | hr
    · exact h.above r hr
    · exact Nat.le_trans h.base.size hr
  · rcases ho p hp r hr with hr | ⟨q, hq, hr⟩
    · exact Nat.le_trans h.base.size hr
    · exact h.fresh q hq r hr
  · rw [h2]; exact grown_act h.grown c rs rh k a
  · have hk : (risL (keysS (ab es))).length ≤ n := by rw [risL_length (keysS_nodup h.tells.nodup)]; unfold keysS; rw [List.length_map]; exact h.grown.len
    have := ver_act h.grown c rs rh k a hk
    have := h.ver_
    omega

theorem half_do18 {w0 W : World} {T M : Nat} {c : Cfg} {rs rh n ver : Nat} {k : KO} {a : Act17} {R : DoR} {es : List (KO × NE)} {v : Value} {l : List It} (h : Half w0 W T M c rs rh n ver k a R es v l) (hc : CfgOk c rs rh) (hn : n ≤ 100) :
    Calls Tryz.prog 50 #[cfgV c, v, .agg (act18C k.1 a).toArray] W fun e w2 => ∃ out A cc, e = .returned (.tuple #[.slice A out.length cc, .int .i64 R.err, .int .i64 (R.gone : Nat), .int .i64 ((R.ver : Int) - (ver : Int))]) ∧ Play w0 w2 T M c rs rh (n + 1) R.ver es (.slice A out.length cc) out ∧ Below W.heap.size W w2 := by
  have hlt := h.at_.sfpLt
  obtain ⟨s1, s2, s3, s4⟩ := h.same
  refine (do18_any (fun b => b ∉ sfp T M es ∧ w0.heap.size ≤ b) c rs rh v l k.1 a W (fun b hb => ⟨fun hq => by have := hlt b hq; omega, Nat.le_trans h.base.size hb⟩) h.items hc.room (fun x hx => (h.oks x hx).1) (fun x hx => by have := h.vers x hx; omega) (by have := h.len; omega) (fun x hx => (h.oks x hx).2) k.2).mono ?_
  rintro e w2 ⟨out, A, cc, rfl, h1, h2, hb⟩
  refine ⟨out, A, cc, by
    have e4 : (do18 c rs rh l k.1 a).2.2.2 = (R.ver : Int) - (ver : Int) := by omega
    rw [← s2, ← s3, e4], ⟨h.at_.below hb, h1, by rw [h2, h.has]; exact s1, bthen h.base hb, h.above, h.fresh, h.grown, fun x hx => ?_, h.ver_, by have := do18_len h.room rs rh k.1 a; rw [← h2, List.length_map] at this; exact this⟩, hb⟩
  have := do18_ver h.vers c rs rh k.1 a (absI x) (by rw [← h2]; exact List.mem_map.2 ⟨x, hx, rfl⟩)
  exact this
end

end Go.Proofs.YtfegielnmdppgaaGreat
