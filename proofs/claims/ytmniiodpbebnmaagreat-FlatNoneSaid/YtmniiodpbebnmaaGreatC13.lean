/- A stripe that is worked at: what stands, and what may turn; a stripe's room and keep; a stripe's Ingest, Get, Version; a stripe's Trim; a stripe's Trim, walked; node.Freeze, and a stripe that is frozen. -/
import Derived.Test.YtmniiodpbebnmaaGreatC12
import Derived.Deep.DeepCutAuto
namespace Go.Proofs.YtmniiodpbebnmaaGreat

section
set_option linter.unusedSimpArgs false
set_option linter.unusedVariables false
open Go.RowKit Go.Lib Go.Sort
open Go.ChangeMaps (setBlock)

section
variable {α β : Type} [DecidableEq α]
theorem mem_putM {es : List (α × β)} {x : α} {v : β} {p : α × β} (h : p ∈ putM es x v) : p = (x, v) ∨ (p ∈ es ∧ p.1 ≠ x) := by
  unfold putM at h
  split at h
  · obtain ⟨q, hq, e⟩ := List.mem_map.1 h
    split at e
    · exact .inl e.symm
    · rename_i hn
      subst e
      exact .inr ⟨hq, hn⟩
  · rename_i hn
    rcases List.mem_append.1 h with h | h
    · refine .inr ⟨h, fun e => hn ?_⟩
      rw [hasM_iff]
      exact List.mem_map.2 ⟨p, h, e⟩
    · exact .inl (List.mem_singleton.1 h)
theorem find_mem {es : List (α × β)} {x : α} {v : β} (h : findM es x = some v) : (x, v) ∈ es := by
  unfold findM at h
  obtain ⟨q, hq, rfl⟩ := Option.map_eq_some_iff.1 h
  have h1 := List.find?_some hq
  simp at h1
  rw [← h1]
  exact List.mem_of_find?_eq_some hq
theorem find_has {es : List (α × β)} {x : α} {v : β} (h : findM es x = some v) : hasM es x = true :=
  (hasM_iff es x).2 (List.mem_map.2 ⟨_, find_mem h, rfl⟩)
theorem map_putM {γ : Type} (f : β → γ) (es : List (α × β)) (x : α) (v : β) : (putM es x v).map (fun p => (p.1, f p.2)) = putM (es.map fun p => (p.1, f p.2)) x (f v) := by
  have hh : hasM (es.map fun p => (p.1, f p.2)) x = hasM es x := by simp [hasM, List.any_map, Function.comp_def]
  unfold putM
  rw [hh]
  split
  · simp only [List.map_map]
    refine List.map_congr_left fun p _ => ?_
    simp only [Function.comp]
    split <;> rfl
  · simp
theorem find_map {γ : Type} (f : β → γ) (es : List (α × β)) (x : α) : findM (es.map fun p => (p.1, f p.2)) x = (findM es x).map f := by
  unfold findM
  rw [List.find?_map]
  simp [Function.comp_def]
theorem find_putM (es : List (α × β)) (x y : α) (v : β) : findM (putM es x v) y = if y = x then some v else findM es y := by
  unfold putM
  split
  · rename_i hh
    induction es with
    | nil => simp [hasM] at hh
    | cons p es ih =>
      unfold findM
      simp only [List.map_cons, List.find?_cons]
      by_cases hp : p.1 = x
      · rw [if_pos hp]
        by_cases hy : y = x
        · subst hy
          simp
        · rw [if_neg hy]
          have e1 : decide (x = y) = false := by simpa using fun e => hy e.symm
          have e2 : decide (p.1 = y) = false := by rw [hp]; exact e1
          simp only [e1, e2]
          by_cases hq : hasM es x = true
          · have := ih hq
            unfold findM at this
            rw [if_neg hy] at this
            exact this
          · have : es.map (fun p => if p.1 = x then (x, v) else p) = es := by
              conv => rhs; rw [← List.map_id es]
              refine List.map_congr_left fun q hq' => ?_
              rw [if_neg]
              · rfl
              · intro e
                exact hq ((hasM_iff es x).2 (List.mem_map.2 ⟨q, hq', e⟩))
            rw [this]
      · rw [if_neg hp]
        have hq : hasM es x = true := by simpa [hasM, hp] using hh
        have := ih hq
        unfold findM at this
        by_cases hpy : p.1 = y
        · have hy : ¬ y = x := fun e => hp (hpy.trans e)
          rw [if_neg hy]
          simp [hpy]
        · have e2 : decide (p.1 = y) = false := by simpa using hpy
          simp only [e2]
          exact this
  · rename_i hh
    unfold findM
    rw [List.find?_append]
    by_cases hy : y = x
    · subst hy
      rw [if_pos rfl]
      have : List.find? (fun p => decide (p.1 = y)) es = none := by
        rw [List.find?_eq_none]
        intro p hp hpy
        exact hh ((hasM_iff es y).2 (List.mem_map.2 ⟨p, hp, by simpa using hpy⟩))
      rw [this]
      simp
    · rw [if_neg hy]
      have e1 : decide (x = y) = false := by simpa using fun e => hy e.symm
      simp [e1]
end

def ab (es : List (KO × NE)) : List (KO × Nd) := es.map fun p => (p.1, p.2.2.1)
theorem ab_putM (es : List (KO × NE)) (k : KO) (N : Nat) (y : Nd) (fq : List Nat) : ab (putM es k (N, y, fq)) = putM (ab es) k y := map_putM (fun b : NE => b.2.1) es k (N, y, fq)
theorem ab_find (es : List (KO × NE)) (k : KO) : findM (ab es) k = (findM es k).map (fun b => b.2.1) := find_map (fun b : NE => b.2.1) es k
theorem ab_len (es : List (KO × NE)) : (ab es).length = es.length := by simp [ab]
theorem mfp_sub (x : Nd) (fp : List Nat) : ∀ k ∈ mfp x fp, k ∈ fp := by
  intro k hk
  unfold mfp at hk
  split at hk
  · cases hk
  · exact hk

/-- What of the nodes may turn. -/
def mfpE (es : List (KO × NE)) : List Nat := es.flatMap fun p => mfp p.2.2.1 p.2.2.2
def sfp (T M : Nat) (es : List (KO × NE)) : List Nat := T :: M :: mfpE es
structure SAt (w : World) (T M : Nat) (c : Cfg) (ver : Nat) (es : List (KO × NE)) (rs rh : Nat) : Prop where
  cell : w.heap[T]? = some (.cells #[.map (some M), .int .i64 c.st, .int .i64 c.sa, .int .i64 c.lo, .int .i64 c.hi, .int .i64 (ver : Nat)] 232 (0, 0))
  map : MapIn koV neV w M es
  node : ∀ p ∈ es, NodeIn w p.2.1 p.2.2.1 rs rh p.2.2.2
  pair : ∀ p ∈ es, ∀ q ∈ es, p.1 ≠ q.1 → apart p.2.2.2 q.2.2.2
  off : ∀ p ∈ es, T ∉ p.2.2.2 ∧ M ∉ p.2.2.2
  ne : T ≠ M
/-- The same, but for what stands at a key. -/
structure SHole (w : World) (T M : Nat) (c : Cfg) (ver : Nat) (es : List (KO × NE)) (rs rh : Nat) (k : KO) (fq : List Nat) : Prop where
  cell : w.heap[T]? = some (.cells #[.map (some M), .int .i64 c.st, .int .i64 c.sa, .int .i64 c.lo, .int .i64 c.hi, .int .i64 (ver : Nat)] 232 (0, 0))
  map : MapIn koV neV w M es
  node : ∀ p ∈ es, p.1 ≠ k → NodeIn w p.2.1 p.2.2.1 rs rh p.2.2.2
  pair : ∀ p ∈ es, ∀ q ∈ es, p.1 ≠ k → q.1 ≠ k → p.1 ≠ q.1 → apart p.2.2.2 q.2.2.2
  off : ∀ p ∈ es, p.1 ≠ k → T ∉ p.2.2.2 ∧ M ∉ p.2.2.2
  ne : T ≠ M
  new : ∀ p ∈ es, p.1 ≠ k → apart fq p.2.2.2
  offn : T ∉ fq ∧ M ∉ fq

theorem SAt.nodup {w : World} {T M : Nat} {c : Cfg} {ver : Nat} {es : List (KO × NE)} {rs rh : Nat} (h : SAt w T M c ver es rs rh) : (es.map (·.1)).Nodup := by
  obtain ⟨_, _, _, _, _, _, hn⟩ := h.map
  exact hn
theorem StripeIn.at_ {w : World} {T : Nat} {c : Cfg} {ver : Nat} {es : List (KO × NE)} {rs rh : Nat} {fp : List Nat} (h : StripeIn w T c ver es rs rh fp) : ∃ M, SAt w T M c ver es rs rh ∧ fp = T :: M :: es.flatMap (fun p => p.2.2.2) := by
  obtain ⟨M, h1, h2, h3, h4, h5, h6, h7⟩ := h
  exact ⟨M, ⟨h1, h2, h3, h4, h5, h6⟩, h7⟩
theorem SAt.below {w w' : World} {T M : Nat} {c : Cfg} {ver : Nat} {es : List (KO × NE)} {rs rh : Nat} (h : SAt w T M c ver es rs rh) (hb : Below w.heap.size w w') : SAt w' T M c ver es rs rh :=
  ⟨(hb.block T (Array.getElem?_eq_some_iff.1 h.cell).1).trans h.cell, h.map.below hb, fun p hp => (h.node p hp).below hb, h.pair, h.off, h.ne⟩
theorem SAt.ltT {w : World} {T M : Nat} {c : Cfg} {ver : Nat} {es : List (KO × NE)} {rs rh : Nat} (h : SAt w T M c ver es rs rh) : T < w.heap.size := (Array.getElem?_eq_some_iff.1 h.cell).1

/-- A node's key's node turned. -/
theorem SAt.hole {w w' : World} {T M : Nat} {c : Cfg} {ver : Nat} {es : List (KO × NE)} {rs rh : Nat} {k : KO} {b : NE} {fq : List Nat} (h : SAt w T M c ver es rs rh) (hm : (k, b) ∈ es) (hu : Upd w w' (mfp b.2.1 b.2.2) fq) : SHole w' T M c ver es rs rh k fq := by
  have ho := h.off _ hm
  have hsub := mfp_sub b.2.1 b.2.2
  refine ⟨(hu.block T h.ltT (fun hk => ho.1 (hsub T hk))).trans h.cell, h.map.block (hu.block M h.map.lt (fun hk => ho.2 (hsub M hk))),
    fun p hp hn => (h.node p hp).kept (fun r hr => hu.block r ((h.node p hp).lt r hr) (fun hk => h.pair _ hm p hp (Ne.symm hn) r (hsub r hk) hr)), fun p hp q hq _ _ hn => h.pair p hp q hq hn, fun p hp _ => h.off p hp, h.ne,
    fun p hp hn r hr hr' => ?_, ?_, ?_⟩
  · rcases hu.fresh r hr with hk | hk
    · exact h.pair _ hm p hp (Ne.symm hn) r (hsub r hk) hr'
    · have := (h.node p hp).lt r hr'; omega
  · intro hr
    rcases hu.fresh T hr with hk | hk
    · exact ho.1 (hsub T hk)
    · have := h.ltT; omega
  · intro hr
    rcases hu.fresh M hr with hk | hk
    · exact ho.2 (hsub M hk)
    · have := h.map.lt; omega
theorem SHole.below {w w' : World} {T M : Nat} {c : Cfg} {ver : Nat} {es : List (KO × NE)} {rs rh : Nat} {k : KO} {fq : List Nat} (h : SHole w T M c ver es rs rh k fq) (hb : Below w.heap.size w w') : SHole w' T M c ver es rs rh k fq :=
  ⟨(hb.block T (Array.getElem?_eq_some_iff.1 h.cell).1).trans h.cell, h.map.below hb, fun p hp hn => (h.node p hp hn).below hb, h.pair, h.off, h.ne, h.new, h.offn⟩

/-- A key's node is kept: the map is written, and the version rises. -/
theorem SHole.keep {w : World} {T M : Nat} {c : Cfg} {ver : Nat} {es : List (KO × NE)} {rs rh : Nat} {k : KO} {N : Nat} {y : Nd} {fq : List Nat} {o : Obj} (h : SHole w T M c ver es rs rh k fq) (hn : NodeIn w N y rs rh fq)
    (hm : MapIn koV neV (setBlock w M o) M (putM es k (N, y, fq))) :
    SAt ((setBlock w M o).setCell ⟨T, 5, none⟩ (.int .i64 ((ver + 1 : Nat) : Int))) T M c (ver + 1) (putM es k (N, y, fq)) rs rh ∧ Upd w ((setBlock w M o).setCell ⟨T, 5, none⟩ (.int .i64 ((ver + 1 : Nat) : Int))) [T, M] [T, M] := by
  have hT : T < w.heap.size := (Array.getElem?_eq_some_iff.1 h.cell).1
  have hc : (setBlock w M o).heap[T]? = _ := (setBlock_other (o := o) h.ne).trans h.cell
  have hblk : ∀ r, r ≠ T → r ≠ M → ((setBlock w M o).setCell ⟨T, 5, none⟩ (.int .i64 ((ver + 1 : Nat) : Int))).heap[r]? = w.heap[r]? := fun r h1 h2 =>
    (Below.heap_setCell _ _ _ _ h1).trans (setBlock_other h2)
  have hsz : ((setBlock w M o).setCell ⟨T, 5, none⟩ (.int .i64 ((ver + 1 : Nat) : Int))).heap.size = w.heap.size := by simp [World.setCell, setBlock]
  refine ⟨⟨(setCell_block hc).trans (by rfl), hm.block (Below.heap_setCell _ _ _ _ (Ne.symm h.ne)), fun p hp => ?_, fun p hp q hq hpq => ?_, fun p hp => ?_, h.ne⟩, ⟨rfl, rfl, rfl, Nat.le_of_eq hsz.symm, fun r hr hn => hblk r (fun e => hn (by rw [e]; simp)) (fun e => hn (by rw [e]; simp)), fun r hr => .inl hr⟩⟩
  · rcases mem_putM hp with rfl | ⟨hp, hk⟩
    · exact hn.kept (fun r hr => hblk r (fun e => h.offn.1 (by rw [← e]; exact hr)) (fun e => h.offn.2 (by rw [← e]; exact hr)))
    · exact (h.node p hp hk).kept (fun r hr => hblk r (fun e => (h.off p hp hk).1 (by rw [← e]; exact hr)) (fun e => (h.off p hp hk).2 (by rw [← e]; exact hr)))
  · rcases mem_putM hp with rfl | ⟨hp, hk⟩
    · rcases mem_putM hq with rfl | ⟨hq, hk'⟩
      · exact absurd rfl hpq
      · exact h.new q hq hk'
    · rcases mem_putM hq with rfl | ⟨hq, hk'⟩
      · exact fun r hr hr' => h.new p hp hk r hr' hr
      · exact h.pair p hp q hq hk hk' hpq
  · rcases mem_putM hp with rfl | ⟨hp, hk⟩
    · exact h.offn
    · exact h.off p hp hk

/-- Each node's blocks are new, or were a node's. -/
def Old (n : Nat) (es es' : List (KO × NE)) : Prop := ∀ p ∈ es', ∀ r ∈ p.2.2.2, n ≤ r ∨ ∃ q ∈ es, r ∈ q.2.2.2
theorem Old.refl (n : Nat) (es : List (KO × NE)) : Old n es es := fun p hp r hr => .inr ⟨p, hp, hr⟩
theorem Old.mono {n m : Nat} {a b : List (KO × NE)} (h : Old m a b) (hn : n ≤ m) : Old n a b := fun p hp r hr => (h p hp r hr).imp (Nat.le_trans hn) id
theorem Old.trans {n m : Nat} {a b c : List (KO × NE)} (h1 : Old n a b) (h2 : Old m b c) (hn : n ≤ m) : Old n a c := fun p hp r hr =>
  (h2 p hp r hr).elim (fun h => .inl (Nat.le_trans hn h)) (fun ⟨q, hq, hr⟩ => h1 q hq r hr)
/-- What a stripe's method says: what stands, and that no other thing turned. -/
def SSays (w : World) (T M : Nat) (c : Cfg) (es : List (KO × NE)) (rs rh : Nat) (v : Value) (ver' : Nat) (l' : List (KO × Nd)) (e : Ending) (w' : World) : Prop :=
  ∃ es', e = .returned v ∧ SAt w' T M c ver' es' rs rh ∧ ab es' = l' ∧ Upd w w' (sfp T M es) (sfp T M es') ∧ Old w.heap.size es es'
theorem mem_mfpE {es : List (KO × NE)} {r : Nat} : r ∈ mfpE es ↔ ∃ p ∈ es, r ∈ mfp p.2.2.1 p.2.2.2 := by
  simp [mfpE, List.mem_flatMap]
theorem Old.put {w w3 : World} {es : List (KO × NE)} {k : KO} {N : Nat} {y : Nd} {mf fq : List Nat} (hu : Upd w w3 mf fq) (hm : ∀ r ∈ mf, r ∈ mfpE es) : Old w.heap.size es (putM es k (N, y, fq)) := fun p hp r hr => by
  rcases mem_putM hp with rfl | ⟨hp, _⟩
  · rcases hu.fresh r hr with h | h
    · obtain ⟨q, hq, hr⟩ := mem_mfpE.1 (hm r h)
      exact .inr ⟨q, hq, mfp_sub _ _ r hr⟩
    · exact .inl h
  · exact .inr ⟨p, hp, hr⟩
/-- Both steps: a node turned, and was kept. -/
theorem upd_keep {w w3 w' : World} {T M : Nat} {es : List (KO × NE)} {k : KO} {N : Nat} {y : Nd} {mf fq : List Nat} (h1 : Upd w w3 mf fq) (h2 : Upd w3 w' [T, M] [T, M]) (hm : ∀ r ∈ mf, r ∈ mfpE es) : Upd w w' (sfp T M es) (sfp T M (putM es k (N, y, fq))) := by
  refine ⟨h2.os.trans h1.os, h2.tape.trans h1.tape, h2.output.trans h1.output, Nat.le_trans h1.size h2.size, fun r hr hn => ?_, fun r hr => ?_⟩
  · refine (h2.block r (Nat.lt_of_lt_of_le hr h1.size) (fun hk => hn ?_)).trans (h1.block r hr (fun hk => hn ?_))
    · simp only [List.mem_cons, List.not_mem_nil, or_false] at hk
      simp only [sfp, List.mem_cons]
      rcases hk with rfl | rfl
      · exact .inl rfl
      · exact .inr (.inl rfl)
    · simp only [sfp, List.mem_cons]
      exact .inr (.inr (hm r hk))
  · simp only [sfp, List.mem_cons] at hr ⊢
    rcases hr with rfl | rfl | hr
    · exact .inl (.inl rfl)
    · exact .inl (.inr (.inl rfl))
    · obtain ⟨p, hp, hr⟩ := mem_mfpE.1 hr
      rcases mem_putM hp with rfl | ⟨hp, hk⟩
      · rcases h1.fresh r (mfp_sub _ _ r hr) with h | h
        · exact .inl (.inr (.inr (hm r h)))
        · exact .inr h
      · exact .inl (.inr (.inr (mem_mfpE.2 ⟨p, hp, hr⟩)))
theorem SSays.of_below {w w' : World} {T M : Nat} {c : Cfg} {ver : Nat} {es : List (KO × NE)} {rs rh : Nat} (v : Value) (h : SAt w T M c ver es rs rh) (hb : Below w.heap.size w w') : SSays w T M c es rs rh v ver (ab es) (.returned v) w' :=
  ⟨es, rfl, h.below hb, rfl, Upd.of_below hb _, Old.refl _ _⟩
theorem SSays.pre {w w1 w' : World} {T M : Nat} {c : Cfg} {es : List (KO × NE)} {rs rh : Nat} {v : Value} {ver' : Nat} {l' : List (KO × Nd)} {e : Ending} (hb : Below w.heap.size w w1) (h : SSays w1 T M c es rs rh v ver' l' e w') : SSays w T M c es rs rh v ver' l' e w' := by
  obtain ⟨es', h1, h2, h3, h4, h5⟩ := h
  exact ⟨es', h1, h2, h3, (Upd.of_below hb _).trans h4, h5.mono hb.size⟩
end

section
set_option linter.unusedSimpArgs false
set_option linter.unusedVariables false
open Go.RowKit Go.Lib Go.Sort
open Go.ChangeMaps (setBlock)

theorem SAt.cells {w : World} {T M : Nat} {c : Cfg} {ver : Nat} {es : List (KO × NE)} {rs rh : Nat} (h : SAt w T M c ver es rs rh) {j : Nat} {v : Value}
    (e : (#[.map (some M), .int .i64 c.st, .int .i64 c.sa, .int .i64 c.lo, .int .i64 c.hi, .int .i64 (ver : Nat)] : Array Value)[j]? = some v) : ∀ W, Below w.heap.size w W → W.cell? ⟨T, j, none⟩ = some v := fun W hW =>
  (hW.cell (p := ⟨T, j, none⟩) h.ltT).trans (by simp only [World.cell?, h.cell]; exact e)
end

section
set_option linter.unusedSimpArgs false
set_option linter.unusedVariables false
open Go.RowKit Go.Lib Go.Sort
open Go.ChangeMaps (setBlock)

def ndOf (l : List (KO × Nd)) (k : KO) : Nd := (findM l k).getD nd0
end

section
set_option linter.unusedSimpArgs false
set_option linter.unusedVariables false
open Go.RowKit Go.Lib Go.Sort
open Go.ChangeMaps (setBlock)

section
variable {α β : Type} [DecidableEq α]
theorem find_mapK (f : α → β → β) (l : List (α × β)) (x : α) : findM (l.map fun p => (p.1, f p.1 p.2)) x = (findM l x).map (f x) := by
  unfold findM
  rw [List.find?_map]
  simp only [Function.comp_def]
  cases h : l.find? (fun p => decide (p.1 = x)) with
  | none => simp
  | some q =>
    have := List.find?_some h
    simp at this
    simp [this]
theorem find_of_mem {l : List (α × β)} (hn : (l.map (·.1)).Nodup) {x : α} {v : β} (h : (x, v) ∈ l) : findM l x = some v := by
  obtain ⟨u, hu, hm⟩ := findM_some (es := l) (x := x) ((hasM_iff l x).2 (List.mem_map.2 ⟨_, h, rfl⟩))
  obtain ⟨i, hi⟩ := List.getElem?_of_mem h
  obtain ⟨j, hj⟩ := List.getElem?_of_mem hm
  have h1 : (l.map (·.1))[i]? = some x := by simp [hi]
  have h2 : (l.map (·.1))[j]? = some x := by simp [hj]
  obtain rfl := nodup_inj hn h1 h2
  rw [hi] at hj
  injection hj with hj
  injection hj with _ hj
  rw [hu, hj]
end

def trimN (cut : Int) (x : Nd) : Nd := if placeS x.smp cut = 0 then x else { bump x with smp := x.smp.drop (placeS x.smp cut) }
def goneK (l : List (KO × Nd)) (cut : Int) (q : Ky) : Nat := ((l.find? (fun p => p.1.1 = q)).map (fun p => placeS p.2.smp cut)).getD 0
def trimK (l : List (KO × Nd)) (cut : Int) (ks : List Ky) : List (KO × Nd) := l.map fun p => (p.1, if p.1.1 ∈ ks then trimN cut p.2 else p.2)
def manyS (l : List (KO × Nd)) (cut : Int) (ks : List Ky) : Nat := ks.countP (fun q => 0 < goneK l cut q)

theorem gone_find {l : List (KO × Nd)} {k : KO} {x : Nd} (cut : Int) (h : findM l k = some x) : goneK l cut k.1 = placeS x.smp cut := by
  unfold goneK
  have e : (fun p : KO × Nd => decide (p.1.1 = k.1)) = (fun p : KO × Nd => decide (p.1 = k)) := by
    funext p
    rw [decide_eq_decide]
    exact ⟨fun h => Subtype.ext h, fun h => by rw [h]⟩
  rw [e]
  unfold findM at h
  obtain ⟨q, hq, rfl⟩ := Option.map_eq_some_iff.1 h
  rw [hq]
  rfl
theorem trimK_find (l : List (KO × Nd)) (cut : Int) (ks : List Ky) (k : KO) : findM (trimK l cut ks) k = (findM l k).map (fun x => if k.1 ∈ ks then trimN cut x else x) :=
  find_mapK (fun (k : KO) (x : Nd) => if k.1 ∈ ks then trimN cut x else x) l k
theorem trimK_keys (l : List (KO × Nd)) (cut : Int) (ks : List Ky) : (trimK l cut ks).map (·.1) = l.map (·.1) := by
  unfold trimK
  rw [List.map_map]
  rfl
theorem trimK_snoc {l : List (KO × Nd)} (hn : (l.map (·.1)).Nodup) (cut : Int) (ks : List Ky) {k : KO} {x : Nd} (hx : findM l k = some x) (hk : k.1 ∉ ks) :
    putM (trimK l cut ks) k (trimN cut x) = trimK l cut (ks ++ [k.1]) := by
  have hh : hasM (trimK l cut ks) k = true := by
    rw [hasM_iff, trimK_keys]
    exact List.mem_map.2 ⟨_, find_mem hx, rfl⟩
  unfold putM
  rw [if_pos hh]
  unfold trimK
  rw [List.map_map]
  refine List.map_congr_left fun p hp => ?_
  simp only [Function.comp, List.mem_append, List.mem_singleton]
  by_cases e : p.1 = k
  · have h2 := find_of_mem hn (show (k, p.2) ∈ l by rw [← e]; exact hp)
    rw [hx] at h2
    injection h2 with h2
    rw [if_pos e, e, h2]
    simp
  · rw [if_neg e]
    have : ¬ p.1.1 = k.1 := fun h => e (Subtype.ext h)
    simp [this]
theorem trimK_same {l : List (KO × Nd)} (hn : (l.map (·.1)).Nodup) (cut : Int) (ks : List Ky) {k : KO} {x : Nd} (hx : findM l k = some x) (h0 : placeS x.smp cut = 0) : trimK l cut (ks ++ [k.1]) = trimK l cut ks := by
  unfold trimK
  refine List.map_congr_left fun p hp => ?_
  simp only [List.mem_append, List.mem_singleton]
  by_cases e : p.1 = k
  · have h2 := find_of_mem hn (show (k, p.2) ∈ l by rw [← e]; exact hp)
    rw [hx] at h2
    injection h2 with h2
    have : trimN cut p.2 = p.2 := by rw [← h2]; unfold trimN; rw [if_pos h0]
    rw [this]
    split <;> split <;> rfl
  · have : ¬ p.1.1 = k.1 := fun h => e (Subtype.ext h)
    simp [this]
theorem manyS_snoc (l : List (KO × Nd)) (cut : Int) (ks : List Ky) (q : Ky) : manyS l cut (ks ++ [q]) = manyS l cut ks + if 0 < goneK l cut q then 1 else 0 := by
  simp [manyS, List.countP_append, List.countP_cons]

theorem mem_risL' (l : List Ky) (q : Ky) : q ∈ risL l → q ∈ l := (mem_risL l q).1
theorem risL_nodup {l : List Ky} (hn : l.Nodup) : (risL l).Nodup := by
  have h := sortL_ris (List.Perm.refl l) hn
  rw [← h]
  exact ((List.mergeSort_perm l _).nodup_iff).2 hn

/-- What stands at a round's beginning: the keys of K that have been done. -/
structure TrimAt (w wr : World) (T M : Nat) (c : Cfg) (ver : Nat) (es : List (KO × NE)) (rs rh : Nat) (cut : Int) (K : List Ky) (v : Value) (k : Nat) (es' : List (KO × NE)) : Prop where
  at_ : SAt wr T M c (ver + manyS (ab es) cut (K.take k)) es' rs rh
  is : ab es' = trimK (ab es) cut (K.take k)
  upd : Upd w wr (sfp T M es) (sfp T M es')
  row : RowIn 2 keyC wr v K
  blk : ∀ b o m cc, v = .slice (some ⟨b, o, none⟩) m cc → 0 < K.length → b ∉ sfp T M es' ∧ b < wr.heap.size
  old : Old w.heap.size es es'

theorem RowIn.keepB {α : Type} {n : Nat} {f : α → List Value} {w w' : World} {v : Value} {l : List α} (h : RowIn n f w v l) (hs : w.heap.size ≤ w'.heap.size) (hk : ∀ b o m c, v = .slice (some ⟨b, o, none⟩) m c → 0 < l.length → w'.heap[b]? = w.heap[b]?) : RowIn n f w' v l := by
  obtain ⟨A, c, hv, hc, hr⟩ := h
  refine ⟨A, c, hv, hc, fun hn => ?_⟩
  obtain ⟨b, o, hA, hlt, hat⟩ := hr hn
  have hb := hk b o _ _ (by rw [hv, hA]) hn
  exact ⟨b, o, hA, Nat.lt_of_lt_of_le hlt hs, fun k x hx j u hu => by
    have := hat k x hx j u hu
    simp only [World.cell?] at this ⊢
    rw [hb]
    exact this⟩
section
variable {w wr w3 w5 : World} {T M : Nat} {c : Cfg} {ver : Nat} {es : List (KO × NE)} {rs rh : Nat} {cut : Int} {K : List Ky} {v : Value} {k : Nat} {es' : List (KO × NE)} {ko : KO} {x : Nd} {b : NE}
theorem TrimAt.same (h : TrimAt w wr T M c ver es rs rh cut K v k es') (hnd : ((ab es).map (·.1)).Nodup) (hk : k < K.length) (hko : K[k] = ko.1) (hx : findM (ab es) ko = some x) (h0 : placeS x.smp cut = 0) (hb : Below wr.heap.size wr w3) : TrimAt w w3 T M c ver es rs rh cut K v (k + 1) es' := by
  have e : K.take (k + 1) = K.take k ++ [ko.1] := by rw [List.take_succ_eq_append_getElem hk, hko]
  have hg := gone_find cut hx
  refine ⟨?_, ?_, h.upd.trans (Upd.of_below hb _), h.row.below hb, fun b o m c' e hn => ?_, h.old⟩
  · rw [e, manyS_snoc, hg, h0]
    exact h.at_.below hb
  · rw [e, trimK_same hnd cut _ hx h0]
    exact h.is
  · have := h.blk b o m c' e hn
    exact ⟨this.1, Nat.lt_of_lt_of_le this.2 hb.size⟩
theorem TrimAt.step {N : Nat} {fr : List Nat} (h : TrimAt w wr T M c ver es rs rh cut K v k es') (hnd : ((ab es).map (·.1)).Nodup) (hk : k < K.length) (hko : K[k] = ko.1) (hx : findM (ab es) ko = some x) (hnk : ko.1 ∉ K.take k) (hb : findM es' ko = some b) (hbx : b.2.1 = x) (h0 : 0 < placeS x.smp cut)
    (hu : Upd wr w3 (mfp b.2.1 b.2.2) fr) (hs : SAt w5 T M c (ver + manyS (ab es) cut (K.take k) + 1) (putM es' ko (N, { bump x with smp := x.smp.drop (placeS x.smp cut) }, fr)) rs rh) (hk5 : Upd w3 w5 [T, M] [T, M]) :
    TrimAt w w5 T M c ver es rs rh cut K v (k + 1) (putM es' ko (N, { bump x with smp := x.smp.drop (placeS x.smp cut) }, fr)) := by
  have e : K.take (k + 1) = K.take k ++ [ko.1] := by rw [List.take_succ_eq_append_getElem hk, hko]
  have hg := gone_find cut hx
  have hmf : ∀ r ∈ mfp b.2.1 b.2.2, r ∈ mfpE es' := fun r hr => mem_mfpE.2 ⟨_, find_mem hb, hr⟩
  have hu2 := upd_keep (k := ko) (N := N) (y := { bump x with smp := x.smp.drop (placeS x.smp cut) }) hu hk5 hmf
  refine ⟨?_, ?_, h.upd.trans hu2, h.row.keepB hu2.size (fun b o m c' e hn => ?_), fun b o m c' e hn => ?_, h.old.trans (Old.put hu hmf) h.upd.size⟩
  · rw [e, manyS_snoc, hg, if_pos h0]
    exact hs
  · rw [e, ← trimK_snoc hnd cut _ hx hnk, ab_putM, h.is]
    unfold trimN
    rw [if_neg (by omega)]
  · obtain ⟨h1, h2⟩ := h.blk b o m c' e hn
    exact hu2.block b h2 h1
  · obtain ⟨h1, h2⟩ := h.blk b o m c' e hn
    exact ⟨fun hm => (hu2.fresh b hm).elim h1 (fun h' => by omega), Nat.lt_of_lt_of_le h2 hu2.size⟩
end
end

section
set_option linter.unusedSimpArgs false
set_option linter.unusedVariables false
open Go.RowKit Go.Lib Go.Sort
open Go.ChangeMaps (setBlock)

/-- A key that is there, and what stands at it. -/
theorem TrimAt.entry {w wr : World} {T M : Nat} {c : Cfg} {ver : Nat} {es : List (KO × NE)} {rs rh : Nat} {cut : Int} {v : Value} {k : Nat} {es' : List (KO × NE)} {K : List Ky} (h : TrimAt w wr T M c ver es rs rh cut K v k es') (hK : K = risL (kyN es)) (hnd : (kyN es).Nodup) (hk : k < K.length) :
    ∃ ko x b, K[k] = ko.1 ∧ findM (ab es) ko = some x ∧ findM es' ko = some b ∧ b.2.1 = x ∧ ko.1 ∉ K.take k := by
  have hm : K[k] ∈ kyN es := by subst hK; exact mem_risL' _ _ (List.getElem_mem hk)
  obtain ⟨p, hp, he⟩ := List.mem_map.1 hm
  have hn : K.Nodup := by subst hK; exact risL_nodup hnd
  have hnk : K[k] ∉ K.take k := fun hmem => by
    obtain ⟨i, hi⟩ := List.getElem?_of_mem hmem
    have hil : i < k := by
      have := (List.getElem?_eq_some_iff.1 hi).1
      simp at this; omega
    rw [List.getElem?_take_of_lt hil] at hi
    have := nodup_inj hn hi (List.getElem?_eq_getElem hk)
    omega
  have hhas : hasM (ab es) p.1 = true := (hasM_iff _ _).2 (List.mem_map.2 ⟨(p.1, p.2.2.1), List.mem_map.2 ⟨p, hp, rfl⟩, rfl⟩)
  obtain ⟨x, hx, _⟩ := findM_some hhas
  have h2 : findM (ab es') p.1 = some x := by
    rw [h.is, trimK_find, hx]
    have : p.1.1 ∉ K.take k := by rw [he]; exact hnk
    simp [this]
  rw [ab_find] at h2
  obtain ⟨b, hb, hbx⟩ := Option.map_eq_some_iff.1 h2
  exact ⟨p.1, x, b, he.symm, hx, hb, hbx, by rw [he]; exact hnk⟩
end

section
set_option linter.unusedSimpArgs false
set_option linter.unusedVariables false
open Go.RowKit Go.Lib Go.Sort
open Go.ChangeMaps (setBlock)

def frz (x : Nd) : Nd := { x with frz := true }
/-- The entries with those keys' nodes frozen. -/
def frzE (es : List (KO × NE)) (ks : List Ky) : List (KO × NE) := es.map fun p => (p.1, (p.2.1, (if p.1.1 ∈ ks then frz p.2.2.1 else p.2.2.1), p.2.2.2))
theorem frzE_mem {es : List (KO × NE)} {ks : List Ky} {p : KO × NE} (h : p ∈ frzE es ks) : ∃ q ∈ es, p = (q.1, (q.2.1, (if q.1.1 ∈ ks then frz q.2.2.1 else q.2.2.1), q.2.2.2)) := by
  obtain ⟨q, hq, rfl⟩ := List.mem_map.1 h
  exact ⟨q, hq, rfl⟩
/-- One more node was frozen. -/
theorem SAt.freeze {w w' : World} {T M : Nat} {c : Cfg} {ver : Nat} {es : List (KO × NE)} {rs rh : Nat} {ks : List Ky} {k : KO} {b : NE} (h : SAt w T M c ver (frzE es ks) rs rh) (hb : findM (frzE es ks) k = some b)
    (hn : NodeIn w' b.1 (frz b.2.1) rs rh b.2.2) (hu : Upd w w' (mfp b.2.1 b.2.2) []) : SAt w' T M c ver (frzE es (ks ++ [k.1])) rs rh ∧ Upd w w' (sfp T M (frzE es ks)) (sfp T M (frzE es (ks ++ [k.1]))) := by
  have hm := find_mem hb
  have hnd := h.nodup
  have ho := h.off _ hm
  have hsub := mfp_sub b.2.1 b.2.2
  have hole := h.hole hm hu
  -- an entry of the one list, seen from the other
  have hent : ∀ p ∈ frzE es (ks ++ [k.1]), ∃ q ∈ frzE es ks, q.1 = p.1 ∧ q.2.1 = p.2.1 ∧ q.2.2.2 = p.2.2.2 ∧ ((p.1 = k ∧ p.2.2.1 = frz q.2.2.1) ∨ (p.1 ≠ k ∧ p.2.2.1 = q.2.2.1)) := by
    intro p hp
    obtain ⟨q, hq, rfl⟩ := frzE_mem hp
    refine ⟨_, List.mem_map.2 ⟨q, hq, rfl⟩, rfl, rfl, rfl, ?_⟩
    by_cases e : q.1 = k
    · refine .inl ⟨e, ?_⟩
      have e1 : q.1.1 = k.1 := by rw [e]
      simp only [e1, List.mem_append, List.mem_singleton, or_true, if_true]
      split
      · rfl
      · rfl
    · refine .inr ⟨e, ?_⟩
      have : ¬ q.1.1 = k.1 := fun h => e (Subtype.ext h)
      simp [this]
  have hat : ∀ q ∈ frzE es ks, q.1 = k → q.2 = b := fun q hq e => by
    have := find_of_mem hnd (show (k, q.2) ∈ frzE es ks by rw [← e]; exact hq)
    rw [hb] at this
    injection this with this
    exact this.symm
  refine ⟨⟨hole.cell, ?_, fun p hp => ?_, fun p hp q hq hpq => ?_, fun p hp => ?_, h.ne⟩, ⟨hu.os, hu.tape, hu.output, hu.size, fun r hr hnr => hu.block r hr (fun hk => hnr ?_), fun r hr => ?_⟩⟩
  · have h1 := hole.map
    unfold frzE at h1 ⊢
    obtain ⟨ents, clock, g1, g2, g3, g4, g5⟩ := h1
    refine ⟨ents, clock, g1, g2.trans ?_, g3, g4, ?_⟩
    · rw [List.map_map, List.map_map]; rfl
    · rw [List.map_map] at g5 ⊢; exact g5
  · obtain ⟨q, hq, e1, e2, e3, e4⟩ := hent p hp
    rw [← e2, ← e3]
    rcases e4 with ⟨ek, e5⟩ | ⟨ek, e5⟩
    · have := hat q hq (e1.trans ek)
      rw [e5, this]
      exact hn
    · rw [e5]
      exact hole.node q hq (by rw [e1]; exact ek)
  · obtain ⟨p', hp', e1, _, e3, _⟩ := hent p hp
    obtain ⟨q', hq', f1, _, f3, _⟩ := hent q hq
    rw [← e3, ← f3]
    exact h.pair p' hp' q' hq' (by rw [e1, f1]; exact hpq)
  · obtain ⟨p', hp', e1, _, e3, _⟩ := hent p hp
    rw [← e3]
    exact h.off p' hp'
  · simp only [sfp, List.mem_cons]
    exact .inr (.inr (mem_mfpE.2 ⟨_, hm, hk⟩))
  · simp only [sfp, List.mem_cons] at hr ⊢
    rcases hr with rfl | rfl | hr
    · exact .inl (.inl rfl)
    · exact .inl (.inr (.inl rfl))
    · obtain ⟨p, hp, hr⟩ := mem_mfpE.1 hr
      obtain ⟨q, hq, e1, _, e3, e4⟩ := hent p hp
      refine .inl (.inr (.inr (mem_mfpE.2 ⟨q, hq, ?_⟩)))
      rcases e4 with ⟨_, e5⟩ | ⟨_, e5⟩
      · rw [e5] at hr
        unfold mfp frz at hr
        simp at hr
      · rw [← e5, e3]
        exact hr
end

end Go.Proofs.YtmniiodpbebnmaaGreat
