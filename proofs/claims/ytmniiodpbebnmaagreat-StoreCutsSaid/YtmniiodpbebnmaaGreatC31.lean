/- A whole row is stored into a block; A reply that says nothing; A nil store's methods; Walk of a store's snap. -/
import Derived.Test.YtmniiodpbebnmaaGreatC04
import Derived.Test.YtmniiodpbebnmaaGreatC10
import Derived.Test.YtmniiodpbebnmaaGreatC30
namespace Go.Proofs.YtmniiodpbebnmaaGreat

section
set_option linter.unusedSimpArgs false
set_option linter.unusedVariables false
open Go.RowKit Go.Lib

def stor (w : World) (B i : Nat) : List Value → World
  | [] => w
  | v :: vs => stor (w.setCell ⟨B, i, none⟩ v) B (i + 1) vs
theorem stor_one {w : World} {B i : Nat} {cs : Array Value} {T : TypeId} {fr : Nat × Nat} {v : Value} (h : w.heap[B]? = some (.cells cs T fr)) : (w.setCell ⟨B, i, none⟩ v).heap[B]? = some (.cells (cs.setIfInBounds i v) T fr) := by
  obtain ⟨hlt, hk⟩ := Array.getElem?_eq_some_iff.1 h
  show (w.heap.modify B _)[B]? = _
  rw [Array.getElem?_eq_getElem (by rw [Array.size_modify]; exact hlt), Array.getElem_modify_self, hk]
  simp
theorem stor_other {w : World} {B i k : Nat} {v : Value} (h : k ≠ B) : (w.setCell ⟨B, i, none⟩ v).heap[k]? = w.heap[k]? := by
  show (w.heap.modify B _)[k]? = _
  by_cases hk : k < w.heap.size
  · rw [Array.getElem?_eq_getElem (by rw [Array.size_modify]; exact hk), Array.getElem_modify_of_ne (Ne.symm h), Array.getElem?_eq_getElem hk]
  · rw [Array.getElem?_eq_none (by rw [Array.size_modify]; omega), Array.getElem?_eq_none (by omega)]
theorem stor_all : ∀ (vs : List Value) (w : World) (B i : Nat) (cs : Array Value) (T : TypeId), w.heap[B]? = some (.cells cs T (0, 0)) → cs.size = i + vs.length →
    (stor w B i vs).heap[B]? = some (.cells ((cs.toList.take i ++ vs).toArray) T (0, 0)) ∧ (∀ k, k ≠ B → (stor w B i vs).heap[k]? = w.heap[k]?) ∧ (stor w B i vs).heap.size = w.heap.size ∧ ∀ n, n ≤ B → Below n w (stor w B i vs) := by
  intro vs
  induction vs with
  | nil =>
    intro w B i cs T h hn
    refine ⟨?_, fun _ _ => rfl, rfl, fun n _ => Below.refl _ _⟩
    simp only [List.length_nil, Nat.add_zero] at hn
    rw [stor, h, List.append_nil, List.take_of_length_le (by simp; omega)]
  | cons v vs ih =>
    intro w B i cs T h hn
    simp only [List.length_cons] at hn
    have h1 := stor_one (i := i) (v := v) h
    obtain ⟨a1, a2, a3, a4⟩ := ih (w.setCell ⟨B, i, none⟩ v) B (i + 1) _ T h1 (by simp; omega)
    refine ⟨?_, fun k hk => (a2 k hk).trans (stor_other hk), a3.trans (by simp [World.setCell]), fun n hn => ((Below.refl _ _).setCell hn _).trans (a4 n hn)⟩
    rw [stor, a1]
    congr 3
    rw [Array.toList_setIfInBounds, List.take_add_one, List.take_set_of_le (Nat.le_refl _)]
    rw [List.getElem?_set_self (by simp; omega)]
    simp
theorem stor_at {w : World} {B : Nat} {cs : Array Value} {T : TypeId} (h : w.heap[B]? = some (.cells cs T (0, 0))) (vs : List Value) (hn : cs.size = vs.length) : ∀ W, W = stor w B 0 vs →
    W.heap[B]? = some (.cells vs.toArray T (0, 0)) ∧ (∀ k, k ≠ B → W.heap[k]? = w.heap[k]?) ∧ W.heap.size = w.heap.size ∧ ∀ n, n ≤ B → Below n w W := by
  rintro W rfl
  have := stor_all vs w B 0 cs T h (by omega)
  simpa using this
end

section
set_option linter.unusedSimpArgs false
set_option linter.unusedVariables false
open Go.RowKit Go.Lib

/-- The cells of a reply that was not written yet. -/
def zR : List Value := [.int .i64 0, .int .i64 0, .int .i64 0, .int .i64 0, .int .i64 0, .int .i64 0, .int .i64 0, .int .i64 0, .int .i64 0, .int .i64 0, .int .i64 0, .int .i64 0, .int .i64 0]
end

section
set_option linter.unusedSimpArgs false
set_option linter.unusedVariables false
open Go.RowKit Go.Lib Go.Sort
end

section
set_option linter.unusedSimpArgs false
set_option linter.unusedVariables false
open Go.RowKit Go.Lib Go.Sort

theorem ePart : EltOf 89 164 1 24 (.slice none 0 0) partC :=
  ⟨by kernel_rfl, by kernel_rfl, rfl, by decide, by decide, fun _ => rfl, fun x u hu => by
    simp only [partC, List.mem_cons, List.not_mem_nil, or_false] at hu
    subst hu
    rfl⟩
theorem set_same {α : Type} {l : List α} {i : Nat} {x : α} (h : l[i]? = some x) : l.set i x = l := by
  obtain ⟨hi, rfl⟩ := List.getElem?_eq_some_iff.1 h
  exact List.set_getElem_self hi

section
variable {B : Nat → Prop} {S : Nat} {c : Cfg} {rs rh n : Nat} {wd : Wd} {d : StoD}
/-- One stripe is frozen. -/
theorem StoreAt.freeze {w w' : World} (h : StoreAt B w S c rs rh n wd d) {i : Nat} {s : St} (hi : d.sts[i]? = some s) (hat : SAt w' s.T s.M c s.ver (frzE s.es (risL (kyN s.es))) rs rh) (hu : Upd w w' s.fp (sfp s.T s.M (frzE s.es (risL (kyN s.es))))) :
    StoreAt B w' S c rs rh n wd { d with sts := d.sts.set i ⟨s.T, s.M, s.ver, frzE s.es (risL (kyN s.es))⟩ } ∧ Upd w w' (d.fp S) (StoD.fp S { d with sts := d.sts.set i ⟨s.T, s.M, s.ver, frzE s.es (risL (kyN s.es))⟩ }) ∧
      ∀ r ∈ StoD.fp S { d with sts := d.sts.set i ⟨s.T, s.M, s.ver, frzE s.es (risL (kyN s.es))⟩ }, r ∈ d.fp S := by
  obtain ⟨R, hR, hk⟩ := h.get hi
  obtain ⟨h1, h2⟩ := h.turn hi hR (R' := R) (fun r hr => h.bs s (List.mem_of_getElem? hi) r (by
    simp only [St.all, List.mem_cons, List.mem_flatMap] at hr ⊢
    rcases hr with rfl | rfl | ⟨p, hp, hr⟩
    · exact .inl rfl
    · exact .inr (.inl rfl)
    · obtain ⟨q, hq, rfl⟩ := frzE_mem hp
      exact .inr (.inr ⟨q, hq, hr⟩))) (Nat.le_refl n) hu (Old.frz _ _ _) ⟨hat, by rw [ab_frzE]; exact tells_frz hk.tells _, grown_frz hk.grown _, hk.ver_⟩
  rw [set_same hR] at h1
  refine ⟨h1, h2, fun r hr => ?_⟩
  rcases mem_fp.1 hr with rfl | rfl | rfl | ⟨t, ht, hr⟩
  · exact mem_fp.2 (.inl rfl)
  · exact mem_fp.2 (.inr (.inl rfl))
  · exact mem_fp.2 (.inr (.inr (.inl rfl)))
  · rcases List.mem_or_eq_of_mem_set ht with ht | rfl
    · exact mem_fp.2 (.inr (.inr (.inr ⟨t, ht, hr⟩)))
    · refine mem_fp.2 (.inr (.inr (.inr ⟨s, List.mem_of_getElem? hi, ?_⟩)))
      rcases sfp_all (frz_all (es := s.es)) r hr with rfl | rfl
      · simp [St.fp, sfp]
      · simp [St.fp, sfp]
theorem fz_frz (es : List (KO × NE)) : allFz (frzE es (risL (kyN es))) := frz_all

/-- The first k stripes are frozen, and their entries lie in parts. -/
structure SnapAt (B : Nat → Prop) (w wr : World) (S : Nat) (c : Cfg) (rs rh n : Nat) (wd : Wd) (d dk : StoD) (k : Nat) (v : Value) (ps : List PartE) : Prop where
  at_ : StoreAt (fun b => B b ∧ b < w.heap.size) wr S c rs rh n wd dk
  up : Upd w wr (d.fp S) (dk.fp S)
  low : ∀ r ∈ dk.fp S, r < w.heap.size
  eA : dk.A = d.A ∧ dk.cp = d.cp ∧ dk.sts.length = d.sts.length
  own : OwnL partC 164 1 w.heap.size wr v ps
  len : ps.length = k
  done : ∀ (j : Nat) (p : PartE), ps[j]? = some p → ∃ s : St, dk.sts[j]? = some s ∧ allFz s.es ∧ p.2.2 = soE (entE s.es) ∧ RowG (fun b => w.heap.size ≤ b ∧ v.ownBlock ≠ some b) 3 eoC wr (.slice p.1 p.2.2.length p.2.1) p.2.2
theorem SnapAt.below {w wr w' : World} {dk : StoD} {k : Nat} {v : Value} {ps : List PartE} (h : SnapAt B w wr S c rs rh n wd d dk k v ps) (hb : Below wr.heap.size wr w') : SnapAt B w w' S c rs rh n wd d dk k v ps :=
  ⟨h.at_.below hb, ⟨hb.os.trans h.up.os, hb.tape.trans h.up.tape, hb.output.trans h.up.output, Nat.le_trans h.up.size hb.size, fun r hr hn => (hb.block r (Nat.lt_of_lt_of_le hr h.up.size)).trans (h.up.block r hr hn), h.up.fresh⟩, h.low, h.eA, h.own.below hb, h.len, fun j p hp => by
    obtain ⟨s, h1, h2, h3, h4⟩ := h.done j p hp
    exact ⟨s, h1, h2, h3, h4.below hb⟩⟩
theorem SnapAt.start {w : World} (h : StoreAt B w S c rs rh n wd d) : SnapAt B w w S c rs rh n wd d d 0 (.slice none 0 0) [] :=
  ⟨h.keep (Nat.le_refl _) (fun r hr hlt => ⟨rfl, hr, hlt⟩), Upd.of_below (Below.refl _ _) _, fun r hr => (h.fpLt r hr).1, ⟨rfl, rfl, rfl⟩, OwnL.nil _ _, rfl, fun j p hp => by simp at hp⟩
/-- A stripe more. -/
theorem SnapAt.step {w wr w1 w2 : World} {dk : StoD} {k : Nat} {v v2 : Value} {ps : List PartE} {s : St} {A : Option Addr} {cc : Nat} (h : SnapAt B w wr S c rs rh n wd d dk k v ps) (hs : dk.sts[k]? = some s)
    (hat : SAt w1 s.T s.M c s.ver (frzE s.es (risL (kyN s.es))) rs rh) (hu : Upd wr w1 s.fp (sfp s.T s.M (frzE s.es (risL (kyN s.es))))) (ho : OwnL enC 246 3 wr.heap.size w1 (.slice A (entE s.es).length cc) (entE s.es))
    {u : World} (hub : Below w1.heap.size w1 u) (hg : u.grownBy w2 v.ownBlock) (hblk : v2.ownBlock = v.ownBlock ∨ v2.ownBlock = some u.heap.size) (ho2 : OwnL partC 164 1 w.heap.size w2 v2 (ps ++ [(A, cc, soE (entE s.es))])) :
    SnapAt B w w2 S c rs rh n wd d { dk with sts := dk.sts.set k ⟨s.T, s.M, s.ver, frzE s.es (risL (kyN s.es))⟩ } (k + 1) v2 (ps ++ [(A, cc, soE (entE s.es))]) := by
  obtain ⟨h1, h2, h3⟩ := h.at_.freeze hs hat hu
  have hkl := (List.getElem?_eq_some_iff.1 hs).1
  have hrs := h.up.size
  have hus := hu.size
  have hub' := hub.size
  have hb12 : Below w.heap.size w1 w2 := (hub.mono (by omega)).trans (grown_below hg (by omega) (fun r hr => (h.own.lt hr).1))
  have hsz := hb12.size
  have hrow : ∀ {α : Type} {n' : Nat} {f : α → List Value} {vr : Value} {l : List α}, RowG (fun b => w.heap.size ≤ b ∧ v.ownBlock ≠ some b) n' f w1 vr l → RowG (fun b => w.heap.size ≤ b ∧ v2.ownBlock ≠ some b) n' f w2 vr l := fun hr => rowG_grown hr hub hg hblk
  have hold : ∀ r, w.heap.size ≤ r → r < wr.heap.size → w1.heap[r]? = wr.heap[r]? := fun r h0 hr => hu.block r hr (fun hq => by have := h.low r (mem_fp.2 (.inr (.inr (.inr ⟨s, List.mem_of_getElem? hs, hq⟩)))); omega)
  refine ⟨h1.keep hsz (fun r hr hlt => ⟨hb12.block r hr.2, hr⟩), ?_, fun r hr => h.low r (h3 r hr), ⟨h.eA.1, h.eA.2.1, by show (dk.sts.set k _).length = _; rw [List.length_set]; exact h.eA.2.2⟩, ho2, by simp [h.len], fun j p hp => ?_⟩
  · have h5 := h.up.trans h2
    refine ⟨hb12.os.trans h5.os, hb12.tape.trans h5.tape, hb12.output.trans h5.output, Nat.le_trans h5.size hsz, fun r hr hn => (hb12.block r hr).trans (h5.block r hr hn), h5.fresh⟩
  · show ∃ t : St, (dk.sts.set k _)[j]? = some t ∧ _
    rcases Nat.lt_or_ge j ps.length with hj | hj
    · rw [List.getElem?_append_left hj] at hp
      obtain ⟨t, t1, t2, t3, t4⟩ := h.done j p hp
      refine ⟨t, ?_, t2, t3, hrow ?_⟩
      · rw [List.getElem?_set, if_neg (by have := h.len; omega)]
        exact t1
      · exact t4.keepP hus (fun b hb hlt => hold b hb.1 hlt)
    · rw [List.getElem?_append_right hj] at hp
      have hj2 : j = ps.length := by
        have := (List.getElem?_eq_some_iff.1 hp).1
        simp at this
        omega
      subst hj2
      simp at hp
      subst hp
      refine ⟨⟨s.T, s.M, s.ver, frzE s.es (risL (kyN s.es))⟩, ?_, fz_frz _, by simp only [entE_frz], hrow ?_⟩
      · rw [List.getElem?_set, if_pos h.len.symm, if_pos (by have := h.len; omega)]
      · have hr := RowG.own eEn ho
        refine ⟨by have := row_so hr.1; rw [← soE_len] at this; exact this, fun b o m c' e hn => ?_⟩
        have h9 := hr.2 b o m c' (by rw [soE_len] at e; exact e) (by rw [soE_len] at hn; exact hn)
        exact ⟨by omega, fun e9 => by have := h.own.lt e9; omega⟩
/-- All stripes are frozen. -/
theorem SnapAt.pub {w wr : World} {dk : StoD} {v : Value} {ps : List PartE} (h : SnapAt B w wr S c rs rh n wd d dk d.sts.length v ps) (hl : d.sts.length ≤ 64) (hl2 : (allW wd).length ≤ 1000000) : PubIn wr v dk := by
  have hlen : ps.length = dk.sts.length := by rw [h.len, h.eA.2.2]
  have hget : ∀ (j : Nat) s, dk.sts[j]? = some s → ∃ p, ps[j]? = some p := fun j s hs => by
    have := (List.getElem?_eq_some_iff.1 hs).1
    exact ⟨ps[j]'(by omega), List.getElem?_eq_getElem _⟩
  refine ⟨fun s hs => ?_, ps, ⟨h.own.row ePart, fun p hp => ?_⟩, ?_, fun p hp x hx N hN => ?_, by rw [h.len]; omega, fun p hp => ?_⟩
  · obtain ⟨j, hj⟩ := List.getElem?_of_mem hs
    obtain ⟨p, hp⟩ := hget j s hj
    obtain ⟨t, t1, t2, _, _⟩ := h.done j p hp
    rw [hj] at t1
    injection t1 with t1
    rw [t1]
    exact t2
  · obtain ⟨j, hj⟩ := List.getElem?_of_mem hp
    obtain ⟨t, _, _, _, t4⟩ := h.done j p hj
    exact t4.1
  · have : ∀ (qs : List PartE) (ts : List St), qs.length = ts.length → (∀ (j : Nat) (p : PartE) (t : St), qs[j]? = some p → ts[j]? = some t → p.2.2 = soE (entE t.es)) → (qs.flatMap fun p => keptE (fun _ => true) p.2.2) = entS ts := by
      intro qs
      induction qs with
      | nil => intro ts hts _; cases ts with
        | nil => rfl
        | cons _ _ => simp at hts
      | cons q qs ih => intro ts hts hh; cases ts with
        | nil => simp at hts
        | cons t ts =>
          have h0 := hh 0 q t rfl rfl
          have h1 := ih ts (by simpa using hts) (fun j p t' hp ht => hh (j + 1) p t' (by simpa using hp) (by simpa using ht))
          unfold entS at h1 ⊢
          rw [List.flatMap_cons, List.map_cons, List.flatten_cons, h1, h0, kept_so]
    refine this ps dk.sts hlen (fun j p t hp ht => ?_)
    obtain ⟨t', t1, _, t3, _⟩ := h.done j p hp
    rw [ht] at t1
    injection t1 with t1
    rw [t1]
    exact t3
  · obtain ⟨j, hj⟩ := List.getElem?_of_mem hp
    obtain ⟨t, t1, t2, t3, _⟩ := h.done j p hj
    rw [t3] at hx
    obtain ⟨y, hy, rfl⟩ := List.mem_map.1 hx
    simp at hN
    obtain ⟨q, hq, e1, e2⟩ := entE_mem hy
    obtain ⟨R, _, hk⟩ := h.at_.get t1
    exact ⟨q.2.2.1, rs, rh, q.2.2.2, by rw [← hN, ← e2]; exact hk.at_.node q hq, t2 q hq⟩
  · obtain ⟨j, hj⟩ := List.getElem?_of_mem hp
    obtain ⟨t, t1, t2, t3, _⟩ := h.done j p hj
    obtain ⟨R, hR, hk⟩ := h.at_.get t1
    rw [t3, soE_len, entE_len hk.at_.nodup, ← ab_len, hk.tells.len]
    refine Nat.le_trans ?_ hl2
    exact (List.sublist_flatten_of_mem (List.mem_of_getElem? hR)).length_le
theorem SnapAt.all {w wr : World} {dk : StoD} {k : Nat} {v : Value} {ps : List PartE} (h : SnapAt B w wr S c rs rh n wd d dk k v ps) : StoreAt B wr S c rs rh n wd dk := h.at_.keep (Nat.le_refl _) (fun r hr hlt => ⟨rfl, hr.1⟩)

/-- A new block is not the store's. -/
theorem StoreAt.avoid {w W : World} (h : StoreAt B w S c rs rh n wd d) (hb : Below w.heap.size w W) : StoreAt (fun b => B b ∧ b ≠ w.heap.size) W S c rs rh n wd d :=
  h.keep hb.size (fun r hr hlt => ⟨hb.block r hlt, hr, by omega⟩)
theorem StoreAt.stored {w W : World} {X : Nat} (h : StoreAt (fun b => B b ∧ b ≠ X) w S c rs rh n wd d) (hs : W.heap.size = w.heap.size) (hk : ∀ r, r ≠ X → W.heap[r]? = w.heap[r]?) : StoreAt B W S c rs rh n wd d :=
  h.keep (Nat.le_of_eq hs.symm) (fun r hr _ => ⟨hk r hr.2, hr.1⟩)
theorem sto_end {w w5 W9 : World} {m : Nat} {wd' : Wd} {d' : StoD} {v : Value} {fp : List Nat} (h : StoreAt (fun b => B b ∧ b ≠ w.heap.size) w5 S c rs rh m wd' d') (hu : Upd w w5 fp (d'.fp S)) (h2 : ∀ k, k ≠ w.heap.size → W9.heap[k]? = w5.heap[k]?) (h3 : W9.heap.size = w5.heap.size) (h4 : ∀ n, n ≤ w.heap.size → Below n w5 W9) :
    StoSays B w S c rs rh m fp v wd' (.returned v) W9 :=
  ⟨d'.fp S, rfl, ⟨d', h.stored h3 h2, rfl⟩, hu.thenB (h4 _ (Nat.le_refl _))⟩
set_option maxRecDepth 100000 in
set_option maxHeartbeats 4000000 in
theorem stoSnap_any (w : World) (h : StoreAt B w S c rs rh n wd d) (hB : ∀ b, w.heap.size ≤ b → B b) (hp0 : 0 < d.sts.length) (hl : d.sts.length ≤ 64) (hh : HomeOk c wd) (ht : (allW wd).length ≤ 400) (hn : n ≤ 1000) (hc : wd.cuts.length ≤ 900000) (hep : 0 ≤ wd.ep ∧ wd.ep ≤ 1000000) :
    Calls Tryz.prog 84 #[.pointer (some ⟨S, 0, none⟩)] w (StoSays B w S c rs rh n (d.fp S) (repV (snapW wd).2) (snapW wd).1) := by
  have H := Lib.hid h
  have HB := Lib.hid hB
  have HP := Lib.hid hp0
  have HH := Lib.hid hh
  have HT := Lib.hid ht
  have HEP := Lib.hid hep
  have HCC := Lib.hid hc
  obtain ⟨r, hr⟩ : ∃ r, r = snapW wd := ⟨_, rfl⟩
  rw [← hr]
  have HR := Lib.hid hr
  clear hr
  obtain ⟨v0, hv0⟩ : ∃ v0, v0 = (.slice (some ⟨d.A, 0, none⟩) d.sts.length d.cp : Value) := ⟨_, rfl⟩
  obtain ⟨a1, a2, a3⟩ := box_cells (Below.refl _ _) h.cell
  clear h hB hp0 hh ht hep hc
  go_enter Tryz.func84, Tryz.ntmps84
  go_wp2_with fail
  refine name_world ?_
  intro W hW
  have HB0 := Lib.hid (show Below w.heap.size w W by rw [hW]; exact balloc (Below.refl _ _) _)
  have HX0 := Lib.hid (show W.heap[w.heap.size]? = some (.cells zR.toArray 46 (0, 0)) by rw [hW]; exact heap_alloc_new _ _)
  have H1 := Lib.hid (H.out.avoid HB0.out)
  have HSN := Lib.hid (SnapAt.start H1.out)
  have HSZ := Lib.hid (show w.heap.size < W.heap.size from (Array.getElem?_eq_some_iff.1 HX0.out).1)
  clear hW
  obtain ⟨b1, b2, b3⟩ := box_cells (Below.refl _ _) H1.out.cell
  clear a1 a2 a3 hv0
  go_wp2
  clear b1 b2
  go_loopg [3, 14] d.sts.length (fun g s3 s14 wr => ∃ (k : Nat) (dk : StoD) (ps : List PartE), k ≤ d.sts.length ∧ d.sts.length - k ≤ g ∧ s14 = .int .i64 k ∧ SnapAt (fun b => B b ∧ b ≠ w.heap.size) W wr S c rs rh n wd d dk k s3 ps)
  case atStart => exact ⟨0, d, [], Nat.zero_le _, Nat.le_refl _, rfl, HSN.out⟩
  case round =>
    obtain ⟨k, dk, ps, hk, hg, rfl, hat⟩ := hrel
    rename World => wr
    obtain ⟨A3, c3, rfl⟩ := hat.own.form
    have HA := Lib.hid hat
    have hle := hat.eA
    clear hat
    by_cases hlt : k < d.sts.length
    · have hkl : k < dk.sts.length := by omega
      have hs := List.getElem?_eq_getElem hkl
      have z1 : (k : Int) < (d.sts.length : Int) := by omega
      have z2 : (0 : Int) ≤ (k : Int) := by omega
      obtain ⟨bb, o, hA, hbw, hcc⟩ := HA.out.at_.row.1.at_ hkl
      injection hA with hA
      injection hA with e1 e2
      subst e1 e2
      have c1 : wr.cell? ⟨d.A, k, none⟩ = some (.pointer (some ⟨(dk.sts[k]).T, 0, none⟩)) := by
        have := hcc 0 _ rfl
        rw [hle.1] at this
        simpa using this
      have HS := Lib.hid hs
      clear hcc hbw hs
      generalize dk.sts[k] = s at c1 HS
      obtain ⟨R, hR, hsk⟩ := HA.out.at_.get HS.out
      have hes : s.es.length ≤ 1000 := by
        have := hsk.grown.len
        rw [ab_len] at this
        omega
      have HF := Lib.hid (show Calls Tryz.prog 97 #[.pointer (some ⟨s.T, 0, none⟩)] wr fun e w' => ∃ A cc, e = .returned (.slice A (entE s.es).length cc) ∧ OwnL enC 246 3 wr.heap.size w' (.slice A (entE s.es).length cc) (entE s.es) ∧
          SAt w' s.T s.M c s.ver (frzE s.es (risL (kyN s.es))) rs rh ∧ Upd wr w' s.fp (sfp s.T s.M (frzE s.es (risL (kyN s.es)))) from (sfreeze_any s.T s.M c s.ver s.es rs rh wr hsk.at_ hes).mono (by
        rintro e w' ⟨A, cc, rfl, h1, h2, h3⟩
        have e9 : (entE s.es).length = (risL (kyN s.es)).length := by simp [entE]
        refine ⟨A, cc, by rw [e9], ?_, h2, h3⟩
        rw [e9]
        exact h1))
      clear hsk hR hes
      have HPL := Lib.hid HA.out.len
      have hup := HA.out.up.size
      go_wp2_with (first
        | (go_at_call 97
           refine HF.out.mono ?_
           rintro e w5 ⟨A5, c5, rfl, ho5, hs5, hu5⟩
           have HO5 := Lib.hid ho5
           have HS5 := Lib.hid hs5
           have HU5 := Lib.hid hu5
           have h5s := hu5.size
           have HW5 := Lib.hid (HA.out.own.kept (w' := w5) (fun r hr => hu5.block r (HA.out.own.lt hr).2 (fun hq => by have := HA.out.low r (mem_fp.2 (.inr (.inr (.inr ⟨s, List.mem_of_getElem? HS.out, hq⟩)))); have := (HA.out.own.lt hr).1; omega)))
           clear ho5 hs5 hu5)
        | (at_builtin
           refine wpList_appendL ePart (by rfl) (by rfl) W.heap.size ps [(A5, c5, soE (entE s.es))] _ _ (by rfl) (by rfl) (HW5.out.below (balloc (Below.refl _ _) _)) (RowIn.lit w5 _ _ _ _ rfl (by simp [partC, soE_len])) (by have := HPL.out; simp; omega) (by simp; omega) ?_
           intro out2 A2 c2' w2 hout2 hown2 hg2 hblk2
           have HOWN := Lib.hid hown2
           have HOUT := Lib.hid hout2
           have HG := Lib.hid hg2
           have HBK := Lib.hid hblk2
           clear hown2 hout2 hg2 hblk2))
      go_roundg (d.sts.length - (k + 1))
      case measure => omega
      case rel =>
        have hout := HOUT.out
        subst hout
        exact ⟨k + 1, _, _, hlt, Nat.le_refl _, by go_num, HA.out.step HS.out HS5.out HU5.out HO5.out (balloc (Below.refl _ _) _) HG.out HBK.out HOWN.out⟩
    · obtain rfl : k = d.sts.length := by omega
      have z1 : ¬ (d.sts.length : Int) < (d.sts.length : Int) := by omega
      have hpub := HA.out.pub hl (by have := HT.out; omega)
      have hB1 : ∀ b, wr.heap.size ≤ b → (fun b => B b ∧ b ≠ w.heap.size) b := fun b hb => ⟨HB.out b (by have := HB0.out.size; have := HA.out.up.size; omega), by have := HSZ.out; have := HA.out.up.size; omega⟩
      have HUP := Lib.hid ((Upd.of_below HB0.out (d.fp S)).trans HA.out.up)
      obtain ⟨x1, x2, x3⟩ : (∀ j, wr.cell? ⟨w.heap.size, j, none⟩ = (zR.toArray)[j]?) ∧ (∀ j, wr.frozen? ⟨w.heap.size, j, none⟩ = false) ∧ w.heap.size < wr.heap.size := by
        have h9 := (HA.out.up.block w.heap.size HSZ.out (fun hq => by have := (H1.out.fpLt _ hq).2.2; exact this rfl)).trans HX0.out
        exact box_cells (Below.refl _ _) h9
      have HX1 := Lib.hid ((HA.out.up.block w.heap.size HSZ.out (fun hq => by have := (H1.out.fpLt _ hq).2.2; exact this rfl)).trans HX0.out)
      clear x1 x2 x3
      by_cases hf : 64 ≤ dk.live.length
      · have hsn : snapW wd = (wd, repF 6) := by unfold snapW; rw [if_pos (by rw [← HA.out.at_.cnt]; exact hf)]
        have CP := Lib.hid (stoPublish_full wr (.slice A3 ps.length c3) HA.out.all hB1 (by have := HP.out; omega) hpub HH.out HT.out HCC.out HEP.out hf)
        have HRR := Lib.hid (HR.out.trans hsn)
        clear hsn hf hpub hB1
        go_wp2_with (first
          | (go_at_call 34
             refine CP.out.mono ?_
             rintro e w5 ⟨rfl, hb5⟩
             have HX5 := Lib.hid ((hb5.block _ (Array.getElem?_eq_some_iff.1 HX1.out).1).trans HX1.out)
             have HB5 := Lib.hid hb5
             obtain ⟨y1, y2, y3⟩ := box_cells (Below.refl _ _) HX5.out
             unfold zR at y1
             clear hb5))
        refine post_named ?_
        intro W9 hW9
        have hW9' : W9 = stor w5 w.heap.size 0 [.int .i64 6, .int .i64 0, .int .i64 0, .int .i64 0, .int .i64 0, .int .i64 0, .int .i64 0, .int .i64 0, .int .i64 0, .int .i64 0, .int .i64 0, .int .i64 0, .int .i64 0] := hW9
        obtain ⟨s1, s2, s3, s4⟩ := stor_at HX5.out [.int .i64 6, .int .i64 0, .int .i64 0, .int .i64 0, .int .i64 0, .int .i64 0, .int .i64 0, .int .i64 0, .int .i64 0, .int .i64 0, .int .i64 0, .int .i64 0, .int .i64 0] rfl W9 hW9'
        obtain ⟨a9, a8, a7⟩ := box_cells (Below.refl _ _) s1
        clear hW9 hW9'
        exact bodyPost_ret (v := repV (repF 6)) (by simp [results, Tryz.results84, go_sem, a9, repV, repC, repF, st0, adv0]) rfl (by rw [HRR.out]; exact sto_end (HA.out.all.below HB5.out) (HUP.out.trans (Upd.of_below HB5.out _)) s2 s3 s4)
      · have hsn : snapW wd = ({ wd with ep := wd.ep + 1, cuts := wd.cuts ++ [⟨wd.ep + 1, allW wd, false⟩] }, ⟨0, wd.ep + 1, ((wd.cuts.length + 1 : Nat) : Int), st0, adv0⟩) := by unfold snapW; rw [if_neg (by rw [← HA.out.at_.cnt]; exact hf)]
        have CP := Lib.hid (stoPublish_ok wr (.slice A3 ps.length c3) HA.out.all hB1 (by have := HP.out; omega) hpub HH.out HT.out HCC.out HEP.out hf)
        rw [← HR.out] at hsn
        have HFL := Lib.hid HA.out.all.fpLt
        have HNW := Lib.hid (show w.heap.size ∉ dk.fp S from fun hq => (HFL.out _ hq).2.2 rfl)
        generalize wd.ep + 1 = e1 at CP hsn
        generalize ((wd.cuts.length + 1 : Nat) : Int) = m1 at CP hsn
        have HRR := Lib.hid hsn
        clear hsn hf hpub hB1
        go_wp2_with (first
          | (go_at_call 34
             refine CP.out.mono ?_
             rintro e w5 ⟨rfl, C5, hC5, h5, hu5⟩
             have HX5 := Lib.hid ((hu5.block _ (Array.getElem?_eq_some_iff.1 HX1.out).1 HNW.out).trans HX1.out)
             have H5 := Lib.hid h5
             have HU5 := Lib.hid hu5
             obtain ⟨y1, y2, y3⟩ := box_cells (Below.refl _ _) HX5.out
             unfold zR at y1
             clear h5 hu5))
        refine post_named ?_
        intro W9 hW9
        have hW9' : W9 = stor w5 w.heap.size 0 [.int .i64 0, .int .i64 e1, .int .i64 m1, .int .i64 0, .int .i64 0, .int .i64 0, .int .i64 0, .int .i64 0, .int .i64 0, .int .i64 0, .int .i64 0, .int .i64 0, .int .i64 0] := hW9
        obtain ⟨s1, s2, s3, s4⟩ := stor_at HX5.out [.int .i64 0, .int .i64 e1, .int .i64 m1, .int .i64 0, .int .i64 0, .int .i64 0, .int .i64 0, .int .i64 0, .int .i64 0, .int .i64 0, .int .i64 0, .int .i64 0, .int .i64 0] rfl W9 hW9'
        obtain ⟨a9, a8, a7⟩ := box_cells (Below.refl _ _) s1
        clear hW9 hW9'
        exact bodyPost_ret (v := repV ⟨0, e1, m1, st0, adv0⟩) (by simp [results, Tryz.results84, go_sem, a9, repV, repC, st0, adv0]) rfl (by rw [HRR.out]; exact sto_end H5.out (HUP.out.trans HU5.out) s2 s3 s4)
end
end

end Go.Proofs.YtmniiodpbebnmaaGreat
