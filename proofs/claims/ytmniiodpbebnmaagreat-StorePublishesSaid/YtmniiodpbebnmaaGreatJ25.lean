/- chapter 18's do, on a live stripe; The plain law of a stripe: one act on both sides; A stripe's bounds go on; chapter 18's has: a node has just a load; chapter 18's told: a stripe has just these items; A stripe and the reference's items, side by side; Acts on a stripe as they come in; chapter 18's awake; The walk of StripePlays; Chapter 19's do and made. -/
import Derived.Test.YtmniiodpbebnmaaGreatJ23
import Derived.Test.YtmniiodpbebnmaaGreatJ24
import Derived.Test.YtmniiodpbebnmaaGreatJ17
import Derived.Test.YtmniiodpbebnmaaGreatJ03
import Derived.Test.YtmniiodpbebnmaaGreatJ13
import Derived.Test.YtmniiodpbebnmaaGreatJ22
namespace Go.Proofs.YtmniiodpbebnmaaGreat

section
set_option linter.unusedSimpArgs false
set_option linter.unusedVariables false
open Go.RowKit Go.Lib Go.Sort

structure DoR where
  err : Int
  gone : Nat
  ver : Nat
  has : List (KO × Nd)
/-- What an act comes to. -/
def doS (c : Cfg) (rs rh ver : Nat) (S : List (KO × Nd)) (k : KO) (a : Act17) : DoR :=
  if a.kind = 0 then (if serE a.smp.1 a.smp.2 = 0 then (if hasM S k = false ∧ c.lo ≤ (S.length : Nat) then ⟨6, 0, ver, S⟩ else ⟨0, 0, ver + 1, putM S k { bump (ndOf S k) with smp := putS (ndOf S k).smp (rs : Nat) a.smp }⟩) else ⟨serE a.smp.1 a.smp.2, 0, ver, S⟩)
  else if a.kind = 1 then ⟨0, goneS S a.smp.1 (risL (keysS S)), ver + manyS S a.smp.1 (risL (keysS S)), trimK S a.smp.1 (risL (keysS S))⟩
  else if a.kind = 2 then (if polB a.pol = true then (if hasM S k = false ∧ c.lo ≤ (S.length : Nat) then ⟨6, 0, ver, S⟩ else ⟨0, 0, ver + 1, putM S k { bump (ndOf S k) with pol := a.pol, ruled := true }⟩) else ⟨7, 0, ver, S⟩)
  else if a.kind = 3 then (if hasM S k = true then ⟨0, 0, ver + 1, putM S k { bump (ndOf S k) with past := pushL (ndOf S k).past rh a.adv }⟩ else ⟨5, 0, ver, S⟩)
  else ⟨0, 0, ver, S.map fun p => (p.1, if p.1.1 ∈ risL (keysS S) then frz p.2 else p.2)⟩
theorem kyN_keysS (es : List (KO × NE)) : kyN es = keysS (ab es) := by simp [kyN, keysS, ab, List.map_map, Function.comp_def]
theorem Old.frz (n : Nat) (es : List (KO × NE)) (K : List Ky) : Old n es (frzE es K) := fun p hp r hr => by
  obtain ⟨q, hq, rfl⟩ := frzE_mem hp
  exact .inr ⟨q, hq, hr⟩
/-- What a stripe must be that acts are done to it. -/
structure SOk (c : Cfg) (rs rh ver : Nat) (S : List (KO × Nd)) : Prop where
  cfg : cfgB c = true
  sa : c.sa = (rs : Nat)
  hi : c.hi = (rh : Nat)
  ok : c.ok
  len : S.length ≤ 1000
  ver_ : ver ≤ 900000
  vers : ∀ p ∈ S, p.2.ver ≤ 1000000
theorem SOk.room {c : Cfg} {rs rh ver : Nat} {S : List (KO × Nd)} (h : SOk c rs rh ver S) : rs ≤ 256 ∧ rh ≤ 64 := by
  have hc := h.cfg
  have h1 := h.sa
  have h2 := h.hi
  unfold cfgB at hc
  simp only [Bool.and_eq_true, decide_eq_true_eq] at hc
  omega

theorem none_of_has {es : List (KO × NE)} {k : KO} (h : hasM es k = false) : findM es k = none := findM_none h
theorem ingest_all (T M : Nat) (c : Cfg) (ver : Nat) (es : List (KO × NE)) (rs rh : Nat) (k : KO) (a : Act17) (w : World) (h : SAt w T M c ver es rs rh) (ho : SOk c rs rh ver (ab es)) (h0 : a.kind = 0) :
    Calls Tryz.prog 82 #[.pointer (some ⟨T, 0, none⟩), .agg #[.int .u64 k.1.1, .int .u64 k.1.2], .int .i64 a.smp.1, .int .i64 a.smp.2] w (SSays w T M c es rs rh (.int .i64 (doS c rs rh ver (ab es) k a).err) (doS c rs rh ver (ab es) k a).ver (doS c rs rh ver (ab es) k a).has) := by
  unfold doS
  rw [if_pos h0]
  by_cases hs : serE a.smp.1 a.smp.2 = 0
  · rw [if_pos hs]
    by_cases hf : hasM (ab es) k = false ∧ c.lo ≤ ((ab es).length : Nat)
    · rw [if_pos hf]
      refine singest_full T M c ver es rs rh k a.smp w h hs ?_ (by rw [← ab_len]; exact hf.2)
      have := none_of_has (by rw [← ab_has]; exact hf.1 : hasM es k = false)
      exact this
    · rw [if_neg hf]
      exact singest_ok T M c ver es rs rh k a.smp w h hs (fun hh => hf ⟨by rw [ab_has]; exact hh.1, by rw [ab_len]; exact hh.2⟩) ho.cfg ho.sa ho.hi ho.ok (by have := ho.ver_; omega) ho.vers
  · rw [if_neg hs]
    exact singest_bad T M c ver es rs rh k a.smp w h hs
theorem set_all (T M : Nat) (c : Cfg) (ver : Nat) (es : List (KO × NE)) (rs rh : Nat) (k : KO) (a : Act17) (w : World) (h : SAt w T M c ver es rs rh) (ho : SOk c rs rh ver (ab es)) (h0 : a.kind = 2) :
    Calls Tryz.prog 86 #[.pointer (some ⟨T, 0, none⟩), .agg #[.int .u64 k.1.1, .int .u64 k.1.2], polV a.pol] w (SSays w T M c es rs rh (.int .i64 (doS c rs rh ver (ab es) k a).err) (doS c rs rh ver (ab es) k a).ver (doS c rs rh ver (ab es) k a).has) := by
  unfold doS
  rw [if_neg (by omega), if_neg (by omega), if_pos h0]
  cases hs : polB a.pol with
  | true =>
    rw [if_pos rfl]
    by_cases hf : hasM (ab es) k = false ∧ c.lo ≤ ((ab es).length : Nat)
    · rw [if_pos hf]
      exact sset_full T M c ver es rs rh k a.pol w h hs (none_of_has (by rw [← ab_has]; exact hf.1)) (by rw [← ab_len]; exact hf.2)
    · rw [if_neg hf]
      exact sset_ok T M c ver es rs rh k a.pol w h hs (fun hh => hf ⟨by rw [ab_has]; exact hh.1, by rw [ab_len]; exact hh.2⟩) ho.cfg ho.sa ho.hi ho.ok (by have := ho.ver_; omega) ho.vers
  | false =>
    rw [if_neg (by simp)]
    exact sset_bad T M c ver es rs rh k a.pol w h hs
end

section
set_option linter.unusedSimpArgs false
set_option linter.unusedVariables false
open Go.RowKit Go.Lib Go.Sort

/-- What the reference's Do comes to: the items, an error, a number, the version's rise. -/
def do18 (c : Cfg) (rs rh : Nat) (l : List It) (k : Ky) (a : Act17) : List (Ky × Nd) × Int × Int × Int :=
  if a.kind = 1 then (l.map fun x => (x.key, trimR a.smp.1 x.nd), 0, (goneI l a.smp.1 : Nat), (manyI l a.smp.1 : Nat))
  else if a.kind < 0 ∨ 3 < a.kind then (l.map absI, 0, 0, 0)
  else ((one18 c rs rh l k a).1, (one18 c rs rh l k a).2.1, 0, (one18 c rs rh l k a).2.2)

theorem do18_one {c : Cfg} {rs rh : Nat} {l : List It} {k : Ky} {a : Act17} (h1 : a.kind ≠ 1) (h0 : ¬ (a.kind < 0 ∨ 3 < a.kind)) : do18 c rs rh l k a = ((one18 c rs rh l k a).1, (one18 c rs rh l k a).2.1, 0, (one18 c rs rh l k a).2.2) := by
  unfold do18
  rw [if_neg h1, if_neg h0]
theorem one18_bad {c : Cfg} {rs rh : Nat} {l : List It} {k : Ky} {a : Act17} {y : Nd} {e n : Int} (h : do17 rs rh (getL l k).nd a = (y, e, n)) (he : e ≠ 0) : one18 c rs rh l k a = (l.map absI, e, 0) := by
  unfold one18
  simp only [h]
  rw [if_pos he]
theorem one18_ok {c : Cfg} {rs rh : Nat} {l : List It} {k : Ky} {a : Act17} {y : Nd} {n : Int} (h : do17 rs rh (getL l k).nd a = (y, 0, n)) (h3 : a.kind ≠ 3) : one18 c rs rh l k a = if hasI l k = false ∧ c.lo ≤ (l.length : Nat) then (l.map absI, 6, 0) else (outI l k y, 0, 1) := by
  unfold one18
  simp only [h]
  rw [if_neg (by simp), if_neg (fun hh => h3 hh.2)]
theorem one18_note {c : Cfg} {rs rh : Nat} {l : List It} {k : Ky} {a : Act17} {y : Nd} {n : Int} (h : do17 rs rh (getL l k).nd a = (y, 0, n)) (h3 : a.kind = 3) : one18 c rs rh l k a = if hasI l k = true then (outI l k y, 0, 1) else (l.map absI, 5, 0) := by
  unfold one18
  simp only [h]
  rw [if_neg (by simp)]
  cases hh : hasI l k with
  | true => simp
  | false => simp [h3]

/-- What the two sides' answers to an act are. -/
def Same18 (ver : Nat) (r : DoR) (t : List (Ky × Nd) × Int × Int × Int) : Prop :=
  Tells18 r.has t.1 ∧ r.err = t.2.1 ∧ ((r.gone : Nat) : Int) = t.2.2.1 ∧ ((r.ver : Nat) : Int) = (ver : Int) + t.2.2.2
/-- One act on both sides: what they have tells the same, and so do their answers. -/
theorem tells_act {S : List (KO × Nd)} {l : List It} (h : Tells18 S (l.map absI)) (c : Cfg) (rs rh ver : Nat) (k : KO) (a : Act17) :
    Same18 ver (doS c rs rh ver S k a) (do18 c rs rh l k.1 a) := by
  have hhas := h.has k
  have hlen : S.length = l.length := by have := h.len; simpa using this
  obtain ⟨g1, g2, g3, g4⟩ := h.get k
  by_cases h1 : a.kind = 1
  · have e1 : doS c rs rh ver S k a = ⟨0, goneS S a.smp.1 (risL (keysS S)), ver + manyS S a.smp.1 (risL (keysS S)), trimK S a.smp.1 (risL (keysS S))⟩ := by unfold doS; rw [if_neg (by omega), if_pos h1]
    have e2 : do18 c rs rh l k.1 a = (l.map fun x => (x.key, trimR a.smp.1 x.nd), 0, ((goneI l a.smp.1 : Nat) : Int), ((manyI l a.smp.1 : Nat) : Int)) := by unfold do18; rw [if_pos h1]
    rw [e1, e2]
    have ht := h.trim a.smp.1 (K := risL (keysS S)) (fun q hq => (mem_risL _ q).2 hq)
    have hg := tells_gone h a.smp.1
    have e : (l.map absI).map (fun p => (p.1, trimR a.smp.1 p.2)) = l.map fun x => (x.key, trimR a.smp.1 x.nd) := by rw [List.map_map]; rfl
    rw [e] at ht
    exact ⟨ht, rfl, by simp only [hg.1], by simp only [hg.2]; omega⟩
  by_cases hx : a.kind < 0 ∨ 3 < a.kind
  · have e1 : doS c rs rh ver S k a = ⟨0, 0, ver, S.map fun p => (p.1, if p.1.1 ∈ risL (keysS S) then frz p.2 else p.2)⟩ := by unfold doS; rw [if_neg (by omega), if_neg h1, if_neg (by omega), if_neg (by omega)]
    have e2 : do18 c rs rh l k.1 a = (l.map absI, 0, 0, 0) := by unfold do18; rw [if_neg h1, if_pos hx]
    rw [e1, e2]
    exact ⟨tells_frz h _, rfl, rfl, by simp⟩
  rw [do18_one h1 hx]
  by_cases h0 : a.kind = 0
  · by_cases hs : serE a.smp.1 a.smp.2 = 0
    · have e17 : do17 rs rh (getL l k.1).nd a = ({ (getL l k.1).nd with smp := putS (getL l k.1).nd.smp (rs : Nat) a.smp, ver := (getL l k.1).nd.ver + 1 }, 0, ((getL l k.1).nd.smp.length : Int) - ((putS (getL l k.1).nd.smp (rs : Nat) a.smp).length : Int)) := by unfold do17; rw [if_pos h0, if_pos hs]
      have e1 : doS c rs rh ver S k a = if hasM S k = false ∧ c.lo ≤ (S.length : Nat) then ⟨6, 0, ver, S⟩ else ⟨0, 0, ver + 1, putM S k { bump (ndOf S k) with smp := putS (ndOf S k).smp (rs : Nat) a.smp }⟩ := by unfold doS; rw [if_pos h0, if_pos hs]
      rw [e1, one18_ok e17 (by omega), hhas, hlen]
      by_cases hf : hasI l k.1 = false ∧ c.lo ≤ (l.length : Nat)
      · rw [if_pos hf, if_pos hf]
        exact ⟨h, rfl, rfl, by simp⟩
      · rw [if_neg hf, if_neg hf]
        exact ⟨h.put k ⟨by simp only [g1], by simp only [bump, g2], by simp only [bump, g3], by simp only [bump, g4]⟩, rfl, rfl, by simp⟩
    · have e17 : do17 rs rh (getL l k.1).nd a = ((getL l k.1).nd, serE a.smp.1 a.smp.2, 0) := by unfold do17; rw [if_pos h0, if_neg hs]
      have e1 : doS c rs rh ver S k a = ⟨serE a.smp.1 a.smp.2, 0, ver, S⟩ := by unfold doS; rw [if_pos h0, if_neg hs]
      rw [e1, one18_bad e17 hs]
      exact ⟨h, rfl, rfl, by simp⟩
  by_cases h2 : a.kind = 2
  · cases hp : polB a.pol with
    | true =>
      have e17 : do17 rs rh (getL l k.1).nd a = ({ (getL l k.1).nd with pol := a.pol, ruled := true, ver := (getL l k.1).nd.ver + 1 }, 0, 0) := by unfold do17; rw [if_neg h0, if_neg h1, if_pos h2, if_pos hp]
      have e1 : doS c rs rh ver S k a = if hasM S k = false ∧ c.lo ≤ (S.length : Nat) then ⟨6, 0, ver, S⟩ else ⟨0, 0, ver + 1, putM S k { bump (ndOf S k) with pol := a.pol, ruled := true }⟩ := by unfold doS; rw [if_neg h0, if_neg h1, if_pos h2, if_pos hp]
      rw [e1, one18_ok e17 (by omega), hhas, hlen]
      by_cases hf : hasI l k.1 = false ∧ c.lo ≤ (l.length : Nat)
      · rw [if_pos hf, if_pos hf]
        exact ⟨h, rfl, rfl, by simp⟩
      · rw [if_neg hf, if_neg hf]
        exact ⟨h.put k ⟨by simp only [bump, g1], by simp only [bump, g2], rfl, rfl⟩, rfl, rfl, by simp⟩
    | false =>
      have e17 : do17 rs rh (getL l k.1).nd a = ((getL l k.1).nd, 7, 0) := by unfold do17; rw [if_neg h0, if_neg h1, if_pos h2, if_neg (by rw [hp]; simp)]
      have e1 : doS c rs rh ver S k a = ⟨7, 0, ver, S⟩ := by unfold doS; rw [if_neg h0, if_neg h1, if_pos h2, if_neg (by rw [hp]; simp)]
      rw [e1, one18_bad e17 (by decide)]
      exact ⟨h, rfl, rfl, by simp⟩
  have h3 : a.kind = 3 := by omega
  have e17 : do17 rs rh (getL l k.1).nd a = ({ (getL l k.1).nd with past := pushL (getL l k.1).nd.past rh a.adv, ver := (getL l k.1).nd.ver + 1 }, 0, 0) := by unfold do17; rw [if_neg h0, if_neg h1, if_neg h2, if_pos h3]
  have e1 : doS c rs rh ver S k a = if hasM S k = true then ⟨0, 0, ver + 1, putM S k { bump (ndOf S k) with past := pushL (ndOf S k).past rh a.adv }⟩ else ⟨5, 0, ver, S⟩ := by unfold doS; rw [if_neg h0, if_neg h1, if_neg h2, if_pos h3]
  rw [e1, one18_note e17 h3, hhas]
  cases hh : hasI l k.1 with
  | true =>
    rw [if_pos rfl, if_pos rfl]
    exact ⟨h.put k ⟨by simp only [bump, g1], by simp only [g2], by simp only [bump, g3], by simp only [bump, g4]⟩, rfl, rfl, by simp⟩
  | false =>
    rw [if_neg (by simp), if_neg (by simp)]
    exact ⟨h, rfl, rfl, by simp⟩
end

section
set_option linter.unusedSimpArgs false
set_option linter.unusedVariables false
open Go.RowKit Go.Lib Go.Sort

/-- Behind so many acts: few workloads, few changes of each. -/
structure Grown (n : Nat) (ver : Nat) (S : List (KO × Nd)) : Prop where
  len : S.length ≤ n
  vers : ∀ p ∈ S, p.2.ver ≤ n
theorem ndOf_ver {n ver : Nat} {S : List (KO × Nd)} (h : Grown n ver S) (k : KO) : (ndOf S k).ver ≤ n := by
  unfold ndOf
  cases hf : findM S k with
  | none => simp [nd0]
  | some x => exact h.vers _ (find_mem hf)
theorem grown_put {n ver ver' : Nat} {S : List (KO × Nd)} (h : Grown n ver S) (k : KO) {x : Nd} (hx : x.ver ≤ n + 1) : Grown (n + 1) ver' (putM S k x) := by
  refine ⟨?_, fun p hp => ?_⟩
  · rw [len_putM]
    have := h.len
    split <;> omega
  · rcases mem_putM hp with rfl | ⟨hp, _⟩
    · exact hx
    · exact Nat.le_succ_of_le (h.vers p hp)
theorem Grown.more {n ver ver' : Nat} {S : List (KO × Nd)} (h : Grown n ver S) : Grown (n + 1) ver' S := ⟨Nat.le_succ_of_le h.len, fun p hp => Nat.le_succ_of_le (h.vers p hp)⟩
theorem grown_act {n ver : Nat} {S : List (KO × Nd)} (h : Grown n ver S) (c : Cfg) (rs rh : Nat) (k : KO) (a : Act17) : Grown (n + 1) (doS c rs rh ver S k a).ver (doS c rs rh ver S k a).has := by
  have hv := ndOf_ver h k
  unfold doS
  split
  · split
    · split
      · exact h.more
      · exact grown_put h k (by simp only [bump]; omega)
    · exact h.more
  · split
    · refine ⟨by simp [trimK]; exact Nat.le_succ_of_le h.len, fun p hp => ?_⟩
      obtain ⟨q, hq, rfl⟩ := List.mem_map.1 hp
      have := h.vers q hq
      dsimp only
      split
      · unfold trimN
        split
        · omega
        · simp only [bump]; omega
      · omega
    · split
      · split
        · split
          · exact h.more
          · exact grown_put h k (by simp only [bump]; omega)
        · exact h.more
      · split
        · split
          · exact grown_put h k (by simp only [bump]; omega)
          · exact h.more
        · refine ⟨by simp; exact Nat.le_succ_of_le h.len, fun p hp => ?_⟩
          obtain ⟨q, hq, rfl⟩ := List.mem_map.1 hp
          have := h.vers q hq
          dsimp only
          split
          · simp only [frz]; omega
          · omega
/-- The version rises by no more than there are workloads, or one. -/
theorem ver_act {n ver : Nat} {S : List (KO × Nd)} (h : Grown n ver S) (c : Cfg) (rs rh : Nat) (k : KO) (a : Act17) (hn : (risL (keysS S)).length ≤ n) : (doS c rs rh ver S k a).ver ≤ ver + n + 1 := by
  have hm : manyS S a.smp.1 (risL (keysS S)) ≤ n := Nat.le_trans List.countP_le_length hn
  unfold doS
  split
  · split
    · split
      · dsimp only; omega
      · dsimp only; omega
    · dsimp only; omega
  · split
    · dsimp only; omega
    · split
      · split
        · split
          · dsimp only; omega
          · dsimp only; omega
        · dsimp only; omega
      · split
        · split
          · dsimp only; omega
          · dsimp only; omega
        · dsimp only; omega
theorem sameN.ok {rs rh : Nat} {x y : Nd} (h : sameN x y) (hx : NdOk rs rh x) : NdOk rs rh y := ⟨by rw [← h.1]; exact hx.ris, by rw [← h.1]; exact hx.len, by rw [← h.2.1]; exact hx.past⟩
end

section
set_option linter.unusedSimpArgs false
set_option linter.unusedVariables false
open Go.RowKit Go.Lib Go.Sort
end

section
set_option linter.unusedSimpArgs false
set_option linter.unusedVariables false
open Go.RowKit Go.Lib Go.Sort
end

section
set_option linter.unusedSimpArgs false
set_option linter.unusedVariables false
open Go.RowKit Go.Lib Go.Sort

theorem NodeIn.ok {w : World} {N : Nat} {x : Nd} {rs rh : Nat} {fp : List Nat} (h : NodeIn w N x rs rh fp) : NdOk rs rh x := by
  obtain ⟨S, fs, H, fh, h1, h2, h3, h4, h5, h6, rfl, h7, h8⟩ := h
  exact ⟨h7, h8, h3.len⟩
structure CfgOk (c : Cfg) (rs rh : Nat) : Prop where
  cfg : cfgB c = true
  sa : c.sa = (rs : Nat)
  hi : c.hi = (rh : Nat)
  ok : c.ok
theorem CfgOk.room {c : Cfg} {rs rh : Nat} (h : CfgOk c rs rh) : RoomOk c rs rh := by
  have hc := h.cfg
  have h1 := h.sa
  have h2 := h.hi
  unfold cfgB at hc
  simp only [Bool.and_eq_true, decide_eq_true_eq] at hc
  exact ⟨h1, h2, by omega, by omega, by omega, by omega⟩

/-- Behind n acts: the stripe, and the reference's items, whose blocks the stripe does not turn. -/
structure Play (w0 W : World) (T M : Nat) (c : Cfg) (rs rh n ver : Nat) (es : List (KO × NE)) (v : Value) (l : List It) : Prop where
  at_ : SAt W T M c ver es rs rh
  items : ItemsIn (fun b => b ∉ sfp T M es ∧ w0.heap.size ≤ b) W v l
  tells : Tells18 (ab es) (l.map absI)
  base : Below w0.heap.size w0 W
  above : ∀ r ∈ sfp T M es, w0.heap.size ≤ r
  fresh : ∀ p ∈ es, ∀ r ∈ p.2.2.2, w0.heap.size ≤ r
  grown : Grown n ver (ab es)
  vers : ∀ x ∈ l, x.nd.ver ≤ n
  ver_ : ver ≤ 1000 * n
  room : (l.length : Nat) ≤ c.lo
theorem Play.below {w0 W W' : World} {T M : Nat} {c : Cfg} {rs rh n ver : Nat} {es : List (KO × NE)} {v : Value} {l : List It} (h : Play w0 W T M c rs rh n ver es v l) (hb : Below W.heap.size W W') : Play w0 W' T M c rs rh n ver es v l :=
  ⟨h.at_.below hb, h.items.below hb, h.tells, bthen h.base hb, h.above, h.fresh, h.grown, h.vers, h.ver_, h.room⟩
theorem Play.len {w0 W : World} {T M : Nat} {c : Cfg} {rs rh n ver : Nat} {es : List (KO × NE)} {v : Value} {l : List It} (h : Play w0 W T M c rs rh n ver es v l) : es.length = l.length ∧ l.length ≤ n := by
  have h1 := h.tells.len
  have h2 := h.grown.len
  rw [ab_len] at h1 h2
  have h3 : es.length = l.length := by simpa using h1
  exact ⟨h3, by omega⟩
theorem sok_of {W : World} {T M : Nat} {c : Cfg} {rs rh n ver : Nat} {es : List (KO × NE)} (hg : Grown n ver (ab es)) (hv : ver ≤ 1000 * n) (hc : CfgOk c rs rh) (hn : n ≤ 100) : SOk c rs rh ver (ab es) :=
  ⟨hc.cfg, hc.sa, hc.hi, hc.ok, by have := hg.len; omega, by omega, fun p hp => by have := hg.vers p hp; omega⟩
theorem smp_small {W : World} {T M : Nat} {c : Cfg} {rs rh ver : Nat} {es : List (KO × NE)} (h : SAt W T M c ver es rs rh) (hr : rs ≤ 256) : ∀ p ∈ ab es, p.2.smp.length ≤ 256 := by
  intro p hp
  obtain ⟨q, hq, rfl⟩ := List.mem_map.1 hp
  exact Nat.le_trans (h.node q hq).ok.len hr
/-- A row that the stripe's turn leaves. -/
theorem RowG.turn {α : Type} {n : Nat} {f : α → List Value} {W w1 : World} {v : Value} {l : List α} {fp fp' : List Nat} (h : RowG (fun b => b ∉ fp) n f W v l) (hu : Upd W w1 fp fp') : RowG (fun b => b ∉ fp') n f w1 v l :=
  (h.old.imp (Q := fun b => b ∉ fp' ∧ b ∉ fp) (fun b hb => ⟨fun hq => (hu.fresh b hq).elim hb.1 (fun h' => by omega), hb.1⟩)).keepP hu.size (fun b hb hlt => hu.block b hlt hb.2) |>.imp (fun b hb => hb.1)
theorem ItemsIn.turn {W w1 : World} {v : Value} {l : List It} {fp fp' : List Nat} (h : ItemsIn (fun b => b ∉ fp) W v l) (hu : Upd W w1 fp fp') : ItemsIn (fun b => b ∉ fp') w1 v l :=
  ⟨h.1.turn hu, fun x hx => ⟨(h.2 x hx).1.turn hu, (h.2 x hx).2.turn hu⟩⟩

/-- Between the act on the stripe and the reference's. -/
structure Half (w0 W : World) (T M : Nat) (c : Cfg) (rs rh n ver : Nat) (k : KO) (a : Act17) (R : DoR) (es : List (KO × NE)) (v : Value) (l : List It) : Prop where
  at_ : SAt W T M c R.ver es rs rh
  has : ab es = R.has
  items : ItemsIn (fun b => b ∉ sfp T M es ∧ w0.heap.size ≤ b) W v l
  same : Same18 ver R (do18 c rs rh l k.1 a)
  base : Below w0.heap.size w0 W
  above : ∀ r ∈ sfp T M es, w0.heap.size ≤ r
  fresh : ∀ p ∈ es, ∀ r ∈ p.2.2.2, w0.heap.size ≤ r
  grown : Grown (n + 1) R.ver (ab es)
  vers : ∀ x ∈ l, x.nd.ver ≤ n
  ver_ : R.ver ≤ 1000 * (n + 1)
  oks : ∀ x ∈ l, NdOk rs rh x.nd ∧ x.key.ok
  len : l.length ≤ n
  room : (l.length : Nat) ≤ c.lo
theorem Half.below {w0 W W' : World} {T M : Nat} {c : Cfg} {rs rh n ver : Nat} {k : KO} {a : Act17} {R : DoR} {es : List (KO × NE)} {v : Value} {l : List It} (h : Half w0 W T M c rs rh n ver k a R es v l) (hb : Below W.heap.size W W') : Half w0 W' T M c rs rh n ver k a R es v l :=
  ⟨h.at_.below hb, h.has, h.items.below hb, h.same, bthen h.base hb, h.above, h.fresh, h.grown, h.vers, h.ver_, h.oks, h.len, h.room⟩
end

section
set_option linter.unusedSimpArgs false
set_option linter.unusedVariables false
open Go.RowKit Go.Lib Go.ChangeShapes Go.WideShapes Go.Joins

section
variable {H : Type} {enc : TypeId × Value → H} {w : World} {base : Nat} {spare : Nat → Bool} {held : Bool}

end
end

section
set_option linter.unusedSimpArgs false
set_option linter.unusedVariables false
open Go.RowKit Go.Lib Go.Sort
open Go.ChangeMaps (setBlock)
end

section
set_option linter.unusedSimpArgs false
set_option linter.unusedVariables false
open Go.RowKit Go.Lib Go.Sort
end

section
set_option linter.unusedSimpArgs false
set_option linter.unusedVariables false
open Go.RowKit Go.Lib Go.Sort
end

end Go.Proofs.YtmniiodpbebnmaaGreat
