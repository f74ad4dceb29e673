/- A stripe's bounds go on; chapter 18's has: a node has just a load; chapter 18's told: a stripe has just these items; A stripe and the reference's items, side by side; Acts on a stripe as they come in; chapter 18's awake; The walk of StripePlays. -/
import Derived.Test.YtfegielnmdppgaaGreatJ30
import Derived.Test.YtfegielnmdppgaaGreatJ12
import Derived.Test.YtfegielnmdppgaaGreatJ28
import Derived.Test.YtfegielnmdppgaaGreatJ02
import Derived.Test.YtfegielnmdppgaaGreatJ21
import Derived.Test.YtfegielnmdppgaaGreatJ27
namespace Go.Proofs.YtfegielnmdppgaaGreat

section
set_option linter.unusedSimpArgs false
set_option linter.unusedVariables false
open Go.RowKit Go.Lib Go.Sort

/-- Behind so many acts: few workloads, few changes of each. -/
structure Grown (n : Nat) (ver : Nat) (S : List (KO × Nd)) : Prop where
  len : S.length ≤ n
  vers : ∀ p ∈ S, p.2.ver ≤ n
theorem ndOf_ver {n ver : Nat} {S : List (KO × Nd)} (h : Grown n ver S) (k : KO) : (ndOf S k).ver ≤ n := by
  unfold ndOf
  cases hf : findM S k with
  | none => simp [nd0]
  | some x => exact h.vers _ (find_mem hf)
theorem grown_put {n ver ver' : Nat} {S : List (KO × Nd)} (h : Grown n ver S) (k : KO) {x : Nd} (hx : x.ver ≤ n + 1) : Grown (n + 1) ver' (putM S k x) := by
  refine ⟨?_, fun p hp => ?_⟩
  · rw [len_putM]
    have := h.len
    split <;> omega
  · rcases mem_putM hp with rfl | ⟨hp, _⟩
    · exact hx
    · exact Nat.le_succ_of_le (h.vers p hp)
theorem Grown.more {n ver ver' : Nat} {S : List (KO × Nd)} (h : Grown n ver S) : Grown (n + 1) ver' S := ⟨Nat.le_succ_of_le h.len, fun p hp => Nat.le_succ_of_le (h.vers p hp)⟩
theorem grown_act {n ver : Nat} {S : List (KO × Nd)} (h : Grown n ver S) (c : Cfg) (rs rh : Nat) (k : KO) (a : Act17) : Grown (n + 1) (doS c rs rh ver S k a).ver (doS c rs rh ver S k a).has := by
  have hv := ndOf_ver h k
  unfold doS
  split
  · split
    · split
      · exact h.more
      · exact grown_put h k (by simp only [bump]; omega)
    · exact h.more
  · split
    · refine ⟨by simp [trimK]; exact Nat.le_succ_of_le h.len, fun p hp => ?_⟩
      obtain ⟨q, hq, rfl⟩ := List.mem_map.1 hp
      have := h.vers q hq
      dsimp only
      split
      · unfold trimN
        split
        · omega
        · simp only [bump]; omega
      · omega
    · split
      · split
        · split
          · exact h.more
          · exact grown_put h k (by simp only [bump]; omega)
        · exact h.more
      · split
        · split
          · exact grown_put h k (by simp only [bump]; omega)
          · exact h.more
        · refine ⟨by simp; exact Nat.le_succ_of_le h.len, fun p hp => ?_⟩
          obtain ⟨q, hq, rfl⟩ := List.mem_map.1 hp
          have := h.vers q hq
          dsimp only
          split
          · simp only [frz]; omega
          · omega
/-- The version rises by no more than there are workloads, or one. -/
theorem ver_act {n ver : Nat} {S : List (KO × Nd)} (h : Grown n ver S) (c : Cfg) (rs rh : Nat) (k : KO) (a : Act17) (hn : (risL (keysS S)).length ≤ n) : (doS c rs rh ver S k a).ver ≤ ver + n + 1 := by
  have hm : manyS S a.smp.1 (risL (keysS S)) ≤ n := Nat.le_trans List.countP_le_length hn
  unfold doS
  split
  · split
    · split
      · dsimp only; omega
      · dsimp only; omega
    · dsimp only; omega
  · split
    · dsimp only; omega
    · split
      · split
        · split
          · dsimp only; omega
          · dsimp only; omega
        · dsimp only; omega
      · split
        · split
          · dsimp only; omega
          · dsimp only; omega
        · dsimp only; omega
theorem sameN.ok {rs rh : Nat} {x y : Nd} (h : sameN x y) (hx : NdOk rs rh x) : NdOk rs rh y := ⟨by rw [← h.1]; exact hx.ris, by rw [← h.1]; exact hx.len, by rw [← h.2.1]; exact hx.past⟩
end

section
set_option linter.unusedSimpArgs false
set_option linter.unusedVariables false
open Go.RowKit Go.Lib Go.Sort
end

section
set_option linter.unusedSimpArgs false
set_option linter.unusedVariables false
open Go.RowKit Go.Lib Go.Sort

/-- The node of an item. -/
theorem tells_node {w : World} {T M : Nat} {c : Cfg} {ver : Nat} {es : List (KO × NE)} {rs rh : Nat} {l : List It} (h : SAt w T M c ver es rs rh) (ht : Tells18 (ab es) (l.map absI)) {x : It} (hx : x ∈ l) :
    ∃ (k : KO) (b : NE), x.key = k.1 ∧ findM es k = some b ∧ NodeIn w b.1 b.2.1 rs rh b.2.2 ∧ sameN b.2.1 x.nd := by
  have hm : x.key ∈ keysS (ab es) := (ht.keys x.key).1 (List.mem_map.2 ⟨absI x, List.mem_map.2 ⟨x, hx, rfl⟩, rfl⟩)
  obtain ⟨p, hp, he⟩ := List.mem_map.1 hm
  obtain ⟨q, hq, rfl⟩ := List.mem_map.1 hp
  have hf := find_of_mem h.nodup (show (q.1, q.2) ∈ es from hq)
  have hf2 : findM (ab es) q.1 = some q.2.2.1 := by rw [ab_find, hf]; rfl
  obtain ⟨y, hy, hs⟩ := ht.vals q.1 q.2.2.1 hf2
  have he' : q.1.1 = x.key := he
  rw [he'] at hy
  rw [sorted_at_unique ht.sorted hy (List.mem_map.2 ⟨x, hx, rfl⟩ : (x.key, x.nd) ∈ l.map absI)] at hs
  exact ⟨q.1, q.2, he'.symm, hf, h.node q hq, hs⟩
end

section
set_option linter.unusedSimpArgs false
set_option linter.unusedVariables false
open Go.RowKit Go.Lib Go.Sort

theorem SAt.sfpLt {w : World} {T M : Nat} {c : Cfg} {ver : Nat} {es : List (KO × NE)} {rs rh : Nat} (h : SAt w T M c ver es rs rh) : ∀ r ∈ sfp T M es, r < w.heap.size := by
  intro r hr
  simp only [sfp, List.mem_cons] at hr
  rcases hr with rfl | rfl | hr
  · exact h.ltT
  · exact h.map.lt
  · obtain ⟨p, hp, hr⟩ := mem_mfpE.1 hr
    exact (h.node p hp).lt r (mfp_sub _ _ r hr)
theorem NodeIn.ok {w : World} {N : Nat} {x : Nd} {rs rh : Nat} {fp : List Nat} (h : NodeIn w N x rs rh fp) : NdOk rs rh x := by
  obtain ⟨S, fs, H, fh, h1, h2, h3, h4, h5, h6, rfl, h7, h8⟩ := h
  exact ⟨h7, h8, h3.len⟩
theorem tells_ok {w : World} {T M : Nat} {c : Cfg} {ver : Nat} {es : List (KO × NE)} {rs rh : Nat} {l : List It} (h : SAt w T M c ver es rs rh) (ht : Tells18 (ab es) (l.map absI)) : ∀ x ∈ l, NdOk rs rh x.nd ∧ x.key.ok := by
  intro x hx
  obtain ⟨k, b, h1, _, h3, h4⟩ := tells_node h ht hx
  exact ⟨h4.ok h3.ok, by rw [h1]; exact k.2⟩

theorem do17_ver (rs rh : Nat) (x : Nd) (a : Act17) : (do17 rs rh x a).1.ver ≤ x.ver + 1 := by
  unfold do17
  repeat (first | (split) | (dsimp only; omega))
theorem getL_ver {n : Nat} {l : List It} (hv : ∀ x ∈ l, x.nd.ver ≤ n) (k : Ky) : (getL l k).nd.ver ≤ n := by
  have h0 : it0.nd.ver = 0 := rfl
  unfold getL
  split
  · split
    · exact hv _ (List.getElem_mem _)
    · omega
  · omega
theorem do18_ver {n : Nat} {l : List It} (hv : ∀ x ∈ l, x.nd.ver ≤ n) (c : Cfg) (rs rh : Nat) (k : Ky) (a : Act17) : ∀ p ∈ (do18 c rs rh l k a).1, p.2.ver ≤ n + 1 := by
  have hv' : ∀ p ∈ l.map absI, p.2.ver ≤ n + 1 := by
    intro p hp
    obtain ⟨x, hx, rfl⟩ := List.mem_map.1 hp
    exact Nat.le_succ_of_le (hv x hx)
  have hg := getL_ver hv k
  have h17 := do17_ver rs rh (getL l k).nd a
  unfold do18
  split
  · intro p hp
    obtain ⟨x, hx, rfl⟩ := List.mem_map.1 hp
    have := hv x hx
    dsimp only
    unfold trimR
    split
    · omega
    · dsimp only; omega
  · split
    · exact hv'
    · unfold one18
      dsimp only
      split
      · exact hv'
      · split
        · exact hv'
        · split
          · exact hv'
          · intro p hp
            dsimp only at hp
            unfold outI at hp
            rcases List.mem_append.1 hp with hp | hp
            · rcases List.mem_append.1 hp with hp | hp
              · exact hv' p (List.mem_of_mem_take hp)
              · rw [List.mem_singleton.1 hp]
                dsimp only
                omega
            · exact hv' p (List.mem_of_mem_drop hp)

theorem outI_len {l : List It} (k : Ky) (y : Nd) : (outI l k y).length = if hasI l k = true then l.length else l.length + 1 := by
  have h0 := atI_le l k
  unfold outI
  by_cases hh : hasI l k = true
  · obtain ⟨hl, _⟩ := getL_has hh
    rw [if_pos hh, if_pos hh]
    simp
    omega
  · rw [if_neg hh, if_neg hh]
    simp
    omega
theorem do18_len {l : List It} {c : Cfg} (h : (l.length : Nat) ≤ c.lo) (rs rh : Nat) (k : Ky) (a : Act17) : (((do18 c rs rh l k a).1.length : Nat) : Int) ≤ c.lo := by
  have hm : ((l.map absI).length : Int) ≤ c.lo := by rw [List.length_map]; exact h
  unfold do18
  split
  · simpa using h
  · split
    · exact hm
    · unfold one18
      dsimp only
      split
      · exact hm
      · split
        · exact hm
        · split
          · exact hm
          · rename_i h3 h4
            dsimp only
            rw [outI_len]
            split
            · exact h
            · rename_i h5
              have h6 : hasI l k = false := by simpa using h5
              have : ¬ c.lo ≤ (l.length : Nat) := fun h7 => h4 ⟨h6, h7⟩
              omega

structure CfgOk (c : Cfg) (rs rh : Nat) : Prop where
  cfg : cfgB c = true
  sa : c.sa = (rs : Nat)
  hi : c.hi = (rh : Nat)
  ok : c.ok
theorem CfgOk.room {c : Cfg} {rs rh : Nat} (h : CfgOk c rs rh) : RoomOk c rs rh := by
  have hc := h.cfg
  have h1 := h.sa
  have h2 := h.hi
  unfold cfgB at hc
  simp only [Bool.and_eq_true, decide_eq_true_eq] at hc
  exact ⟨h1, h2, by omega, by omega, by omega, by omega⟩

/-- Behind n acts: the stripe, and the reference's items, whose blocks the stripe does not turn. -/
structure Play (w0 W : World) (T M : Nat) (c : Cfg) (rs rh n ver : Nat) (es : List (KO × NE)) (v : Value) (l : List It) : Prop where
  at_ : SAt W T M c ver es rs rh
  items : ItemsIn (fun b => b ∉ sfp T M es ∧ w0.heap.size ≤ b) W v l
  tells : Tells18 (ab es) (l.map absI)
  base : Below w0.heap.size w0 W
  above : ∀ r ∈ sfp T M es, w0.heap.size ≤ r
  fresh : ∀ p ∈ es, ∀ r ∈ p.2.2.2, w0.heap.size ≤ r
  grown : Grown n ver (ab es)
  vers : ∀ x ∈ l, x.nd.ver ≤ n
  ver_ : ver ≤ 1000 * n
  room : (l.length : Nat) ≤ c.lo
theorem Play.below {w0 W W' : World} {T M : Nat} {c : Cfg} {rs rh n ver : Nat} {es : List (KO × NE)} {v : Value} {l : List It} (h : Play w0 W T M c rs rh n ver es v l) (hb : Below W.heap.size W W') : Play w0 W' T M c rs rh n ver es v l :=
  ⟨h.at_.below hb, h.items.below hb, h.tells, bthen h.base hb, h.above, h.fresh, h.grown, h.vers, h.ver_, h.room⟩
theorem Play.len {w0 W : World} {T M : Nat} {c : Cfg} {rs rh n ver : Nat} {es : List (KO × NE)} {v : Value} {l : List It} (h : Play w0 W T M c rs rh n ver es v l) : es.length = l.length ∧ l.length ≤ n := by
  have h1 := h.tells.len
  have h2 := h.grown.len
  rw [ab_len] at h1 h2
  have h3 : es.length = l.length := by simpa using h1
  exact ⟨h3, by omega⟩
theorem sok_of {W : World} {T M : Nat} {c : Cfg} {rs rh n ver : Nat} {es : List (KO × NE)} (hg : Grown n ver (ab es)) (hv : ver ≤ 1000 * n) (hc : CfgOk c rs rh) (hn : n ≤ 100) : SOk c rs rh ver (ab es) :=
  ⟨hc.cfg, hc.sa, hc.hi, hc.ok, by have := hg.len; omega, by omega, fun p hp => by have := hg.vers p hp; omega⟩
theorem smp_small {W : World} {T M : Nat} {c : Cfg} {rs rh ver : Nat} {es : List (KO × NE)} (h : SAt W T M c ver es rs rh) (hr : rs ≤ 256) : ∀ p ∈ ab es, p.2.smp.length ≤ 256 := by
  intro p hp
  obtain ⟨q, hq, rfl⟩ := List.mem_map.1 hp
  exact Nat.le_trans (h.node q hq).ok.len hr
/-- A row that the stripe's turn leaves. -/
theorem RowG.turn {α : Type} {n : Nat} {f : α → List Value} {W w1 : World} {v : Value} {l : List α} {fp fp' : List Nat} (h : RowG (fun b => b ∉ fp) n f W v l) (hu : Upd W w1 fp fp') : RowG (fun b => b ∉ fp') n f w1 v l :=
  (h.old.imp (Q := fun b => b ∉ fp' ∧ b ∉ fp) (fun b hb => ⟨fun hq => (hu.fresh b hq).elim hb.1 (fun h' => by omega), hb.1⟩)).keepP hu.size (fun b hb hlt => hu.block b hlt hb.2) |>.imp (fun b hb => hb.1)
theorem RowG.turnB {α : Type} {n B : Nat} {f : α → List Value} {W w1 : World} {v : Value} {l : List α} {fp fp' : List Nat} (h : RowG (fun b => b ∉ fp ∧ B ≤ b) n f W v l) (hu : Upd W w1 fp fp') : RowG (fun b => b ∉ fp' ∧ B ≤ b) n f w1 v l :=
  (h.old.imp (Q := fun b => (b ∉ fp' ∧ B ≤ b) ∧ b ∉ fp) (fun b hb => ⟨⟨fun hq => (hu.fresh b hq).elim hb.1.1 (fun h' => by omega), hb.1.2⟩, hb.1.1⟩)).keepP hu.size (fun b hb hlt => hu.block b hlt hb.2) |>.imp (fun b hb => hb.1)
theorem ItemsIn.imp {P Q : Nat → Prop} {w : World} {v : Value} {l : List It} (h : ItemsIn P w v l) (hi : ∀ b, P b → Q b) : ItemsIn Q w v l := ⟨h.1.imp hi, fun x hx => (h.2 x hx).imp hi⟩
theorem ItemsIn.turnB {W w1 : World} {B : Nat} {v : Value} {l : List It} {fp fp' : List Nat} (h : ItemsIn (fun b => b ∉ fp ∧ B ≤ b) W v l) (hu : Upd W w1 fp fp') : ItemsIn (fun b => b ∉ fp' ∧ B ≤ b) w1 v l :=
  ⟨h.1.turnB hu, fun x hx => ⟨(h.2 x hx).1.turnB hu, (h.2 x hx).2.turnB hu⟩⟩
theorem ItemsIn.turn {W w1 : World} {v : Value} {l : List It} {fp fp' : List Nat} (h : ItemsIn (fun b => b ∉ fp) W v l) (hu : Upd W w1 fp fp') : ItemsIn (fun b => b ∉ fp') w1 v l :=
  ⟨h.1.turn hu, fun x hx => ⟨(h.2 x hx).1.turn hu, (h.2 x hx).2.turn hu⟩⟩

/-- Between the act on the stripe and the reference's. -/
structure Half (w0 W : World) (T M : Nat) (c : Cfg) (rs rh n ver : Nat) (k : KO) (a : Act17) (R : DoR) (es : List (KO × NE)) (v : Value) (l : List It) : Prop where
  at_ : SAt W T M c R.ver es rs rh
  has : ab es = R.has
  items : ItemsIn (fun b => b ∉ sfp T M es ∧ w0.heap.size ≤ b) W v l
  same : Same18 ver R (do18 c rs rh l k.1 a)
  base : Below w0.heap.size w0 W
  above : ∀ r ∈ sfp T M es, w0.heap.size ≤ r
  fresh : ∀ p ∈ es, ∀ r ∈ p.2.2.2, w0.heap.size ≤ r
  grown : Grown (n + 1) R.ver (ab es)
  vers : ∀ x ∈ l, x.nd.ver ≤ n
  ver_ : R.ver ≤ 1000 * (n + 1)
  oks : ∀ x ∈ l, NdOk rs rh x.nd ∧ x.key.ok
  len : l.length ≤ n
  room : (l.length : Nat) ≤ c.lo
theorem Half.below {w0 W W' : World} {T M : Nat} {c : Cfg} {rs rh n ver : Nat} {k : KO} {a : Act17} {R : DoR} {es : List (KO × NE)} {v : Value} {l : List It} (h : Half w0 W T M c rs rh n ver k a R es v l) (hb : Below W.heap.size W W') : Half w0 W' T M c rs rh n ver k a R es v l :=
  ⟨h.at_.below hb, h.has, h.items.below hb, h.same, bthen h.base hb, h.above, h.fresh, h.grown, h.vers, h.ver_, h.oks, h.len, h.room⟩
theorem Play.from_ {w w0 W : World} {T M : Nat} {c : Cfg} {rs rh n ver : Nat} {es : List (KO × NE)} {v : Value} {l : List It} (h : Play w0 W T M c rs rh n ver es v l) (hb : Below w.heap.size w w0) : Play w W T M c rs rh n ver es v l :=
  ⟨h.at_, h.items.imp (fun b hb' => ⟨hb'.1, Nat.le_trans hb.size hb'.2⟩), h.tells, hb.trans (h.base.mono hb.size), fun r hr => Nat.le_trans hb.size (h.above r hr), fun p hp r hr => Nat.le_trans hb.size (h.fresh p hp r hr), h.grown, h.vers, h.ver_, h.room⟩
theorem half_of {w0 W w1 : World} {T M : Nat} {c : Cfg} {rs rh n ver : Nat} {es es2 : List (KO × NE)} {v : Value} {l : List It} {k : KO} {a : Act17} (h : Play w0 W T M c rs rh n ver es v l) (hn : n ≤ 100) (hu : Upd W w1 (sfp T M es) (sfp T M es2)) (ho : Old W.heap.size es es2)
    (h1 : SAt w1 T M c (doS c rs rh ver (ab es) k a).ver es2 rs rh) (h2 : ab es2 = (doS c rs rh ver (ab es) k a).has) : Half w0 w1 T M c rs rh n ver k a (doS c rs rh ver (ab es) k a) es2 v l := by
  refine ⟨h1, h2, h.items.turnB hu, tells_act h.tells c rs rh ver k a, h.base.trans (hu.below h.base.size h.above), fun r hr => ?_, fun p hp r hr => ?_, ?_, h.vers, ?_, tells_ok h.at_ h.tells, h.len.2, h.room⟩
  · rcases hu.fresh r hr with hr | hr
    · exact h.above r hr
    · exact Nat.le_trans h.base.size hr
  · rcases ho p hp r hr with hr | ⟨q, hq, hr⟩
    · exact Nat.le_trans h.base.size hr
    · exact h.fresh q hq r hr
  · rw [h2]; exact grown_act h.grown c rs rh k a
  · have hk : (risL (keysS (ab es))).length ≤ n := by rw [risL_length (keysS_nodup h.tells.nodup)]; unfold keysS; rw [List.length_map]; exact h.grown.len
    have := ver_act h.grown c rs rh k a hk
    have := h.ver_
    omega

theorem half_do18 {w0 W : World} {T M : Nat} {c : Cfg} {rs rh n ver : Nat} {k : KO} {a : Act17} {R : DoR} {es : List (KO × NE)} {v : Value} {l : List It} (h : Half w0 W T M c rs rh n ver k a R es v l) (hc : CfgOk c rs rh) (hn : n ≤ 100) :
    Calls Tryz.prog 50 #[cfgV c, v, .agg (act18C k.1 a).toArray] W fun e w2 => ∃ out A cc, e = .returned (.tuple #[.slice A out.length cc, .int .i64 R.err, .int .i64 (R.gone : Nat), .int .i64 ((R.ver : Int) - (ver : Int))]) ∧ Play w0 w2 T M c rs rh (n + 1) R.ver es (.slice A out.length cc) out ∧ Below W.heap.size W w2 := by
  have hlt := h.at_.sfpLt
  obtain ⟨s1, s2, s3, s4⟩ := h.same
  refine (do18_any (fun b => b ∉ sfp T M es ∧ w0.heap.size ≤ b) c rs rh v l k.1 a W (fun b hb => ⟨fun hq => by have := hlt b hq; omega, Nat.le_trans h.base.size hb⟩) h.items hc.room (fun x hx => (h.oks x hx).1) (fun x hx => by have := h.vers x hx; omega) (by have := h.len; omega) (fun x hx => (h.oks x hx).2) k.2).mono ?_
  rintro e w2 ⟨out, A, cc, rfl, h1, h2, hb⟩
  refine ⟨out, A, cc, by
    have e4 : (do18 c rs rh l k.1 a).2.2.2 = (R.ver : Int) - (ver : Int) := by omega
    rw [← s2, ← s3, e4], ⟨h.at_.below hb, h1, by rw [h2, h.has]; exact s1, bthen h.base hb, h.above, h.fresh, h.grown, fun x hx => ?_, h.ver_, by have := do18_len h.room rs rh k.1 a; rw [← h2, List.length_map] at this; exact this⟩, hb⟩
  have := do18_ver h.vers c rs rh k.1 a (absI x) (by rw [← h2]; exact List.mem_map.2 ⟨x, hx, rfl⟩)
  exact this
end

section
set_option linter.unusedSimpArgs false
set_option linter.unusedVariables false
open Go.RowKit Go.Lib Go.ChangeShapes Go.WideShapes Go.Joins

theorem cl_sint : Tryz.prog.cellsOf 3 = 1 := by kernel_rfl
theorem cl_si64 : Tryz.prog.cellsOf 2 = 1 := by kernel_rfl
theorem cl_ssmp : Tryz.prog.cellsOf 42 = 2 := by kernel_rfl
theorem cl_spol : Tryz.prog.cellsOf 44 = 6 := by kernel_rfl
theorem cl_sadv : Tryz.prog.cellsOf 46 = 5 := by kernel_rfl
theorem cl_sa17 : Tryz.prog.cellsOf 48 = 14 := by kernel_rfl
theorem cl_sa18 : Tryz.prog.cellsOf 50 = 16 := by kernel_rfl

section
variable {H : Type} {enc : TypeId × Value → H} {w : World} {base : Nat} {spare : Nat → Bool} {held : Bool}

theorem sfield {fuel : Nat} {t : TypeId} (ht : Tryz.prog.underlying t = some (.int .i64)) (hc : Tryz.prog.cellsOf t = 1) {cs : List Value} {xs : List (DataW H × List MemPlace)} {i o : Nat} (hi : i < xs.length) {v : Value} (hv : cs.drop o = v :: cs.drop (o + 1))
    (h : DataW.trod enc Tryz.prog w base spare held fuel t ((cs.drop o).take (Tryz.prog.cellsOf t)) = xs[i]?) : ∃ n, v = .int .i64 n := by
  rw [hc, hv, List.take_succ_cons, List.take_zero, List.getElem?_eq_getElem hi] at h
  obtain ⟨n, hn, _, hw⟩ := DataW.trod_int ht h
  simp only [List.cons.injEq, and_true] at hn
  exact ⟨n, hn⟩

set_option maxRecDepth 100000 in
theorem spol_reads {fuel : Nat} {cs : List Value} {x : DataW H × List MemPlace} (h : DataW.trod enc Tryz.prog w base spare held fuel 44 cs = some x) :
    ∃ p : Pol, cs = [.int .i64 p.mn, .int .i64 p.mx, .int .i64 p.tg, .int .i64 p.tol, .int .i64 p.win, .int .i64 p.hold] := by
  obtain ⟨xs, n, _, _, hl, hx, hf⟩ := DataW.trod_struct Tryz.underlying44 h
  rw [cl_spol] at hl
  replace hx : xs.length = 6 := hx
  match cs, hl with
  | [a0, a1, a2, a3, a4, a5], _ =>
    obtain ⟨n0, rfl⟩ := sfield Tryz.underlying2 cl_si64 (i := 0) (by omega) (o := 0) rfl (hf 0 _ rfl)
    obtain ⟨n1, rfl⟩ := sfield Tryz.underlying2 cl_si64 (i := 1) (by omega) (o := 1) rfl (hf 1 _ rfl)
    obtain ⟨n2, rfl⟩ := sfield Tryz.underlying2 cl_si64 (i := 2) (by omega) (o := 2) rfl (hf 2 _ rfl)
    obtain ⟨n3, rfl⟩ := sfield Tryz.underlying2 cl_si64 (i := 3) (by omega) (o := 3) rfl (hf 3 _ rfl)
    obtain ⟨n4, rfl⟩ := sfield Tryz.underlying2 cl_si64 (i := 4) (by omega) (o := 4) rfl (hf 4 _ rfl)
    obtain ⟨n5, rfl⟩ := sfield Tryz.underlying2 cl_si64 (i := 5) (by omega) (o := 5) rfl (hf 5 _ rfl)
    exact ⟨⟨n0, n1, n2, n3, n4, n5⟩, rfl⟩
set_option maxRecDepth 100000 in
theorem sadv_reads {fuel : Nat} {cs : List Value} {x : DataW H × List MemPlace} (h : DataW.trod enc Tryz.prog w base spare held fuel 46 cs = some x) :
    ∃ p : Adv, cs = advC p := by
  obtain ⟨xs, n, _, _, hl, hx, hf⟩ := DataW.trod_struct Tryz.underlying46 h
  rw [cl_sadv] at hl
  replace hx : xs.length = 5 := hx
  match cs, hl with
  | [a0, a1, a2, a3, a4], _ =>
    obtain ⟨n0, rfl⟩ := sfield Tryz.underlying2 cl_si64 (i := 0) (by omega) (o := 0) rfl (hf 0 _ rfl)
    obtain ⟨n1, rfl⟩ := sfield Tryz.underlying2 cl_si64 (i := 1) (by omega) (o := 1) rfl (hf 1 _ rfl)
    obtain ⟨n2, rfl⟩ := sfield Tryz.underlying2 cl_si64 (i := 2) (by omega) (o := 2) rfl (hf 2 _ rfl)
    obtain ⟨n3, rfl⟩ := sfield Tryz.underlying2 cl_si64 (i := 3) (by omega) (o := 3) rfl (hf 3 _ rfl)
    obtain ⟨n4, rfl⟩ := sfield Tryz.underlying3 cl_sint (i := 4) (by omega) (o := 4) rfl (hf 4 _ rfl)
    exact ⟨⟨n0, n1, n2, n3, n4⟩, rfl⟩
end
end

section
set_option linter.unusedSimpArgs false
set_option linter.unusedVariables false
open Go.RowKit Go.Lib Go.Sort
open Go.ChangeMaps (setBlock)

theorem sfp_sub {w : World} {T M : Nat} {c : Cfg} {ver : Nat} {es : List (KO × NE)} {rs rh : Nat} (h : SAt w T M c ver es rs rh) : ∀ r ∈ sfp T M es, r ∈ T :: M :: es.flatMap (fun p => p.2.2.2) := fun r hr => by
  simp only [sfp, List.mem_cons] at hr ⊢
  rcases hr with rfl | rfl | hr
  · exact .inl rfl
  · exact .inr (.inl rfl)
  · obtain ⟨p, hp, hr⟩ := mem_mfpE.1 hr
    exact .inr (.inr (List.mem_flatMap.2 ⟨p, hp, mfp_sub _ _ r hr⟩))
end

section
set_option linter.unusedSimpArgs false
set_option linter.unusedVariables false
open Go.RowKit Go.Lib Go.Sort

abbrev ActK := Ky × Act17
def actKC (a : ActK) : List Value := act18C a.1 a.2

/-- A new stripe, ahead of all acts. -/
theorem play_new {w0 W1 W : World} {c : Cfg} {rs rh : Nat} {e : Ending} (hb : Below w0.heap.size w0 W1) (h : NewStripe W1 c rs rh e W) (h0 : 0 ≤ c.lo) : ∃ T M, e = .returned (.pointer (some ⟨T, 0, none⟩)) ∧ Play w0 W T M c rs rh 0 0 [] (.slice none 0 0) [] := by
  obtain ⟨T, fp, rfl, h1, h2, h3⟩ := h
  obtain ⟨M, hs, hfp⟩ := h1.at_
  have hf1 : ∀ r ∈ sfp T M [], W1.heap.size ≤ r := fun r hr => h2 r (by rw [hfp]; exact sfp_sub hs r hr)
  refine ⟨T, M, rfl, hs, ⟨⟨RowIn.nil, fun _ _ _ _ _ h => absurd h (by simp)⟩, fun x hx => (by cases hx)⟩, Tells18.nil, bthen hb h3, fun r hr => Nat.le_trans hb.size (hf1 r hr), fun p hp => (by cases hp), ⟨Nat.zero_le _, fun p hp => (by cases hp)⟩, fun x hx => (by cases hx), Nat.zero_le _, h0⟩
end

end Go.Proofs.YtfegielnmdppgaaGreat
