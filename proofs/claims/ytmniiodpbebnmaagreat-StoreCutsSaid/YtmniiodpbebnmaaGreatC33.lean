/- Acts on a store's stripes: the frames; Walks of handle.New and store.New. -/
import Derived.Test.YtmniiodpbebnmaaGreatC31
import Derived.Test.YtmniiodpbebnmaaGreatC32
namespace Go.Proofs.YtmniiodpbebnmaaGreat

section
set_option linter.unusedSimpArgs false
set_option linter.unusedVariables false
open Go.RowKit Go.Lib Go.Sort

section
variable {B : Nat → Prop} {S : Nat} {c : Cfg} {rs rh n : Nat} {wd : Wd} {d : StoD}
theorem StoreAt.avoidX {w W : World} {X : Nat} (h : StoreAt B w S c rs rh n wd d) (hX : w.heap.size ≤ X) (hb : Below w.heap.size w W) : StoreAt (fun b => B b ∧ b ≠ X) W S c rs rh n wd d :=
  h.keep hb.size (fun r hr hlt => ⟨hb.block r hlt, hr, by omega⟩)
theorem sto_endX {w w5 W9 : World} {X m : Nat} {wd' : Wd} {d' : StoD} {v : Value} {fp : List Nat} (hX : w.heap.size ≤ X) (h : StoreAt (fun b => B b ∧ b ≠ X) w5 S c rs rh m wd' d') (hu : Upd w w5 fp (d'.fp S)) (h2 : ∀ k, k ≠ X → W9.heap[k]? = w5.heap[k]?) (h3 : W9.heap.size = w5.heap.size) (h4 : ∀ n, n ≤ X → Below n w5 W9) :
    StoSays B w S c rs rh m fp v wd' (.returned v) W9 :=
  ⟨d'.fp S, rfl, ⟨d', h.stored h3 h2, rfl⟩, hu.thenB (h4 _ hX)⟩
theorem StrOk.sok {w : World} {s : St} {R : List Itm} (h : StrOk w c rs rh n s R) (hc : CfgOk c rs rh) (hn : n ≤ 100) : SOk c rs rh s.ver (ab s.es) := sok_of (W := w) (T := s.T) (M := s.M) h.grown h.ver_ hc hn
/-- One act is done to one stripe. -/
theorem StoreAt.act {w w' : World} (h : StoreAt B w S c rs rh n wd d) (hB : ∀ b, w.heap.size ≤ b → B b) (hc : CfgOk c rs rh) (hn : n ≤ 100) {i : Nat} {s : St} {R : List Itm} (hi : d.sts[i]? = some s) (hR : wd.st[i]? = some R) (k : KO) (a : Act17) (h0 : ¬ a.kind < 0) (h1 : a.kind ≠ 1) (h3 : ¬ 3 < a.kind) {es' : List (KO × NE)}
    (hat : SAt w' s.T s.M c (doS c rs rh s.ver (ab s.es) k a).ver es' rs rh) (hab : ab es' = (doS c rs rh s.ver (ab s.es) k a).has) (hu : Upd w w' s.fp (sfp s.T s.M es')) (ho : Old w.heap.size s.es es') :
    ∃ d', StoreAt B w' S c rs rh (n + 1) { wd with st := wd.st.set i (oneP c rs rh R k.1 a).1 } d' ∧ Upd w w' (d.fp S) (d'.fp S) ∧ d'.sts.length = d.sts.length := by
  have hk := h.str i s R hi hR
  have ht := tells_one hk.tells c rs rh s.ver k a h0 h1 h3
  have hg := grown_act hk.grown c rs rh k a
  have hlen : (risL (keysS (ab s.es))).length ≤ n := by
    rw [risL_length (keysS_nodup hk.tells.nodup)]
    have := hk.grown.len
    simpa [keysS] using this
  have hv := ver_act hk.grown c rs rh k a hlen
  have hvv := hk.ver_
  obtain ⟨r1, r2⟩ := h.turn hi hR (R' := (oneP c rs rh R k.1 a).1) (m := n + 1) (fun r hr => ((ho.all (s := s) _) r hr).elim (h.bs s (List.mem_of_getElem? hi) r) (hB r)) (Nat.le_succ n) hu ho ⟨hat, by rw [hab]; exact ht.1, by rw [hab]; exact hg, Nat.le_trans hv (by omega)⟩
  exact ⟨_, r1, r2, by simp⟩
/-- What the other stripes are left as. -/
theorem StoreAt.other {w w' : World} (h : StoreAt B w S c rs rh n wd d) {i j : Nat} {s t : St} (hi : d.sts[i]? = some s) (hj : d.sts[j]? = some t) (hij : j ≠ i) {fp' : List Nat} (hu : Upd w w' s.fp fp') : ∀ r ∈ t.all, w'.heap[r]? = w.heap[r]? :=
  fun r hr => hu.block r (h.ltA t (List.mem_of_getElem? hj) r hr) (fun hq => h.pair i j s t hi hj (fun e => hij e.symm) r (s.sub r hq) hr)

/-! ### All stripes are trimmed -/
def trimI (cut : Int) (R : List Itm) : List Itm := R.map fun p => (p.1, trimR cut p.2)
def trimTo (cut : Int) (st : List (List Itm)) (k : Nat) : List (List Itm) := (st.take k).map (trimI cut) ++ st.drop k
theorem trimTo_zero (cut : Int) (st : List (List Itm)) : trimTo cut st 0 = st := by simp [trimTo]
theorem trimTo_all (cut : Int) (st : List (List Itm)) : trimTo cut st st.length = st.map (trimI cut) := by simp [trimTo]
theorem trimTo_len (cut : Int) (st : List (List Itm)) (k : Nat) : (trimTo cut st k).length = st.length := by simp [trimTo]; omega
theorem trimTo_set (cut : Int) (st : List (List Itm)) (k : Nat) {R : List Itm} (hR : st[k]? = some R) : (trimTo cut st k).set k (trimI cut R) = trimTo cut st (k + 1) := by
  obtain ⟨hk, rfl⟩ := List.getElem?_eq_some_iff.1 hR
  unfold trimTo
  rw [List.set_append_right _ _ (by simp; omega), List.take_succ_eq_append_getElem hk, List.map_append, List.append_assoc]
  congr 1
  have e : k - ((st.take k).map (trimI cut)).length = 0 := by simp; omega
  rw [e, List.drop_eq_getElem_cons hk]
  rfl
theorem trimTo_get (cut : Int) (st : List (List Itm)) (k j : Nat) (h : k ≤ j) (hk : k ≤ st.length) : (trimTo cut st k)[j]? = st[j]? := by
  unfold trimTo
  rw [List.getElem?_append_right (by simp; omega), List.getElem?_drop]
  congr 1
  simp
  omega
structure TrimSt (B : Nat → Prop) (w wr : World) (S : Nat) (c : Cfg) (rs rh n : Nat) (wd : Wd) (d dk : StoD) (cut : Int) (k : Nat) : Prop where
  at_ : StoreAt B wr S c rs rh (n + 1) { wd with st := trimTo cut wd.st k } dk
  up : Upd w wr (d.fp S) (dk.fp S)
  eA : dk.A = d.A ∧ dk.cp = d.cp ∧ dk.sts.length = d.sts.length
  rest : ∀ (j : Nat) (s : St) (R : List Itm), k ≤ j → dk.sts[j]? = some s → wd.st[j]? = some R → StrOk wr c rs rh n s R
theorem TrimSt.start {w : World} (h : StoreAt B w S c rs rh n wd d) (cut : Int) : TrimSt B w w S c rs rh n wd d d cut 0 :=
  ⟨by rw [trimTo_zero]; exact h.mono (Nat.le_succ n), Upd.of_below (Below.refl _ _) _, ⟨rfl, rfl, rfl⟩, fun j s R _ hs hR => h.str j s R hs hR⟩
theorem TrimSt.below {w wr w' : World} {dk : StoD} {cut : Int} {k : Nat} (h : TrimSt B w wr S c rs rh n wd d dk cut k) (hb : Below wr.heap.size wr w') : TrimSt B w w' S c rs rh n wd d dk cut k :=
  ⟨h.at_.below hb, h.up.trans (Upd.of_below hb _), h.eA, fun j s R hj hs hR => (h.rest j s R hj hs hR).kept (fun r hr => hb.block r ((h.rest j s R hj hs hR).lt r hr))⟩
theorem TrimSt.step {w wr w' : World} {dk : StoD} {cut : Int} {k : Nat} (h : TrimSt B w wr S c rs rh n wd d dk cut k) (hB : ∀ b, w.heap.size ≤ b → B b) (hn : n ≤ 100) {s : St} (hs : dk.sts[k]? = some s) {es' : List (KO × NE)}
    (hat : SAt w' s.T s.M c (s.ver + manyS (ab s.es) cut (risL (kyN s.es))) es' rs rh) (hab : ab es' = trimK (ab s.es) cut (risL (kyN s.es))) (hu : Upd wr w' s.fp (sfp s.T s.M es')) (ho : Old wr.heap.size s.es es') :
    ∃ dk', TrimSt B w w' S c rs rh n wd d dk' cut (k + 1) := by
  have hkl := (List.getElem?_eq_some_iff.1 hs).1
  have hln := h.at_.len
  rw [trimTo_len] at hln
  have hkw : k < wd.st.length := by omega
  have hR := List.getElem?_eq_getElem hkw
  generalize wd.st[k] = R at hR
  have hk := h.rest k s R (Nat.le_refl k) hs hR
  have hd : doS c rs rh s.ver (ab s.es) ⟨(0, 0), ⟨by decide, by decide⟩⟩ ⟨1, (cut, 0), pol0, adv0⟩ = ⟨0, goneS (ab s.es) cut (risL (kyN s.es)), s.ver + manyS (ab s.es) cut (risL (kyN s.es)), trimK (ab s.es) cut (risL (kyN s.es))⟩ := by
    unfold doS
    rw [if_neg (show ¬ (1 : Int) = 0 by decide), if_pos rfl, kyN_keysS]
  have ht := tells_trimR hk.tells c rs rh s.ver ⟨(0, 0), ⟨by decide, by decide⟩⟩ cut
  have hg := grown_act hk.grown c rs rh ⟨(0, 0), ⟨by decide, by decide⟩⟩ ⟨1, (cut, 0), pol0, adv0⟩
  have hlen : (risL (keysS (ab s.es))).length ≤ n := by
    rw [risL_length (keysS_nodup hk.tells.nodup)]
    have := hk.grown.len
    simpa [keysS] using this
  have hv := ver_act hk.grown c rs rh ⟨(0, 0), ⟨by decide, by decide⟩⟩ ⟨1, (cut, 0), pol0, adv0⟩ hlen
  rw [hd] at ht hg hv
  dsimp only at ht hg hv
  have hvv := hk.ver_
  have hRk : (trimTo cut wd.st k)[k]? = some R := by
    have hkk : k ≤ wd.st.length := by omega
    rw [trimTo_get cut wd.st k k (Nat.le_refl k) hkk]
    exact hR
  obtain ⟨r1, r2⟩ := h.at_.turn hs hRk (R' := trimI cut R) (m := n + 1) (fun r hr => ((ho.all (s := s) _) r hr).elim (h.at_.bs s (List.mem_of_getElem? hs) r) (fun h9 => hB r (Nat.le_trans h.up.size h9))) (Nat.le_refl _) hu ho ⟨hat, by rw [hab]; exact ht, by rw [hab]; exact hg, by dsimp only; omega⟩
  refine ⟨{ dk with sts := dk.sts.set k ⟨s.T, s.M, s.ver + manyS (ab s.es) cut (risL (kyN s.es)), es'⟩ }, ⟨?_, h.up.trans r2, ⟨h.eA.1, h.eA.2.1, by show (dk.sts.set k _).length = _; rw [List.length_set]; exact h.eA.2.2⟩, fun j t Rj hj ht hRj => ?_⟩⟩
  · have e : (trimTo cut wd.st k).set k (trimI cut R) = trimTo cut wd.st (k + 1) := trimTo_set cut wd.st k hR
    rw [← e]
    exact r1
  · have ht : (dk.sts.set k _)[j]? = some t := ht
    rw [List.getElem?_set, if_neg (by omega)] at ht
    exact (h.rest j t Rj (by omega) ht hRj).kept (h.at_.other hs ht (by omega) hu)
end
end

section
set_option linter.unusedSimpArgs false
set_option linter.unusedVariables false
open Go.RowKit Go.Lib Go.Sort

theorem eStp : EltOf 146 78 1 8 (.pointer none) stpC :=
  ⟨by kernel_rfl, by kernel_rfl, rfl, by decide, by decide, fun _ => rfl, fun x u hu => by
    simp only [stpC, List.mem_cons, List.not_mem_nil, or_false] at hu
    subst hu
    rfl⟩
set_option maxRecDepth 100000 in
set_option maxHeartbeats 1000000 in
theorem tabNew_any (w : World) :
    Calls Tryz.prog 78 #[] w fun e w' => e = .returned (.pointer (some ⟨w.heap.size + 1, 0, none⟩)) ∧ w' = (w.alloc (.map #[] 0)).alloc (.cells #[.map (some w.heap.size), .int .i64 1] 229) := by
  have hmm := @run_makeMap Tryz.prog
  go_enter Tryz.func78, Tryz.ntmps78
  go_wp2
  go_ret
  exact ⟨by simp, rfl⟩

/-- A store that is made: k stripes are there. -/
structure MkAt (w wr : World) (S H L base : Nat) (c : Cfg) (rs rh : Nat) (v : Value) (sts : List St) : Prop where
  x0 : wr.heap[w.heap.size]? = some (.cells #[.int .i64 c.st, .int .i64 c.sa, .int .i64 c.lo, .int .i64 c.hi] 23 (0, 0))
  b : Below w.heap.size w wr
  cell : wr.heap[S]? = some (.cells #[v, .pointer (some ⟨H, 0, none⟩), .int .i64 0, .bool false] 148 (0, 0))
  tab : wr.heap[H]? = some (.cells #[.map (some L), .int .i64 1] 229 (0, 0))
  live : MapIn hdV blkV wr L ([] : List (HN × Nat))
  low : w.heap.size < S ∧ w.heap.size ≤ H ∧ w.heap.size ≤ L ∧ S < base ∧ H < base ∧ L < base ∧ base ≤ wr.heap.size
  ne : S ≠ H ∧ S ≠ L ∧ H ≠ L
  own : OwnL stpC 78 1 base wr v sts
  str : ∀ s ∈ sts, StrOk wr c rs rh 0 s []
  pair : ∀ (i j : Nat) s t, sts[i]? = some s → sts[j]? = some t → i ≠ j → apart s.all t.all
  off : ∀ s ∈ sts, ∀ r ∈ s.all, base ≤ r ∧ v.ownBlock ≠ some r
theorem MkAt.below {w wr w' : World} {S H L base : Nat} {c : Cfg} {rs rh : Nat} {v : Value} {sts : List St} (h : MkAt w wr S H L base c rs rh v sts) (hb : Below wr.heap.size wr w') : MkAt w w' S H L base c rs rh v sts :=
  ⟨(hb.block _ (Array.getElem?_eq_some_iff.1 h.x0).1).trans h.x0, bthen h.b hb, (hb.block _ (Array.getElem?_eq_some_iff.1 h.cell).1).trans h.cell, (hb.block _ (Array.getElem?_eq_some_iff.1 h.tab).1).trans h.tab, h.live.below hb, by have := h.low; have := hb.size; omega, h.ne, h.own.below hb, fun s hs => (h.str s hs).kept (fun r hr => hb.block r ((h.str s hs).lt r hr)), h.pair, h.off⟩
theorem MkAt.step {w wr w1 u w2 w3 : World} {S H L base : Nat} {c : Cfg} {rs rh : Nat} {v v2 : Value} {sts : List St} {T M : Nat} (h : MkAt w wr S H L base c rs rh v sts) (hb : Below wr.heap.size wr w1) (hs : SAt w1 T M c 0 [] rs rh) (hT : wr.heap.size ≤ T ∧ wr.heap.size ≤ M)
    (hu : Below w1.heap.size w1 u) (hg : u.grownBy w2 v.ownBlock) (hblk : v2.ownBlock = v.ownBlock ∨ v2.ownBlock = some u.heap.size) (ho : OwnL stpC 78 1 base w2 v2 (sts ++ [⟨T, M, 0, []⟩])) (h3 : w3 = w2.setCell ⟨S, 0, none⟩ v2) :
    MkAt w w3 S H L base c rs rh v2 (sts ++ [⟨T, M, 0, []⟩]) := by
  have hlow := h.low
  have h1 := h.below (hb.trans (hu.mono hb.size))
  have hus : wr.heap.size ≤ u.heap.size := Nat.le_trans hb.size hu.size
  have hb12 : Below base u w2 := grown_below hg (by omega) (fun r hr => (h.own.lt hr).1)
  have hsz := hb12.size
  have hk : ∀ r, r ≠ S → w3.heap[r]? = w2.heap[r]? := fun r hr => by rw [h3]; exact heap_set_ne rfl hr
  have hs3 : w3.heap.size = w2.heap.size := by rw [h3]; simp
  have hblk2 : ∀ r, r < u.heap.size → v.ownBlock ≠ some r → w2.heap[r]? = u.heap[r]? := fun r hr hn => hg.block r hr (Ne.symm hn)
  have hTM : T < w1.heap.size ∧ M < w1.heap.size := ⟨hs.ltT, hs.map.lt⟩
  have huw := hu.size
  have hw1 := hb.size
  have hown : ∀ r, v.ownBlock = some r → base ≤ r ∧ r < wr.heap.size := fun r hr => h.own.lt hr
  have hnew : StrOk w1 c rs rh 0 ⟨T, M, 0, []⟩ [] := ⟨hs, Tells18.nil, ⟨Nat.le_refl _, fun p hp => by cases hp⟩, Nat.le_refl _⟩
  have hnall : St.all ⟨T, M, 0, []⟩ = [T, M] := rfl
  refine ⟨(hk w.heap.size (by omega)).trans ((hb12.block w.heap.size (by omega)).trans h1.x0), ?_, ?_, ?_, ?_, by omega, h.ne, ho.kept (fun r hr => hk r (by have := (ho.lt hr).1; omega)), fun s hs' => ?_, fun i j s t hi hj hij => ?_, fun s hs' r hr => ?_⟩
  · rw [h3]
    exact (h1.b.trans (hb12.mono (by omega))).setCell (by simp; omega) _
  · rw [h3, setCell_block ((hb12.block S (by omega)).trans h1.cell)]
    rfl
  · exact (hk H (Ne.symm h.ne.1)).trans ((hb12.block H (by omega)).trans h1.tab)
  · exact h1.live.block ((hk L (Ne.symm h.ne.2.1)).trans (hb12.block L (by omega)))
  · rcases List.mem_append.1 hs' with hs' | hs'
    · refine (h1.str s hs').kept (fun r hr => ?_)
      have h9 := h.off s hs' r hr
      exact (hk r (by omega)).trans (hblk2 r (by have := (h.str s hs').lt r hr; omega) h9.2)
    · rw [List.mem_singleton.1 hs']
      refine hnew.kept (fun r hr => ?_)
      have hr2 : r = T ∨ r = M := by rw [hnall] at hr; simpa using hr
      have hr3 : wr.heap.size ≤ r ∧ r < w1.heap.size := by rcases hr2 with rfl | rfl <;> omega
      refine (hk r (by omega)).trans ((hblk2 r (by omega) (fun e => by have := hown r e; omega)).trans (hu.block r hr3.2))
  · have hsplit : ∀ (i : Nat) s, (sts ++ [⟨T, M, 0, []⟩])[i]? = some s → (i < sts.length ∧ sts[i]? = some s) ∨ (i = sts.length ∧ s = ⟨T, M, 0, []⟩) := fun i s hi => by
      rcases Nat.lt_or_ge i sts.length with h9 | h9
      · rw [List.getElem?_append_left h9] at hi
        exact .inl ⟨h9, hi⟩
      · rw [List.getElem?_append_right h9] at hi
        have := (List.getElem?_eq_some_iff.1 hi).1
        simp at this
        have e : i = sts.length := by omega
        subst e
        simp at hi
        exact .inr ⟨rfl, hi.symm⟩
    have hlt : ∀ s ∈ sts, ∀ r ∈ s.all, r < wr.heap.size := fun s hs r hr => (h.str s hs).lt r hr
    rcases hsplit i s hi with ⟨h4, h5⟩ | ⟨h4, h5⟩
    · rcases hsplit j t hj with ⟨h6, h7⟩ | ⟨h6, h7⟩
      · exact h.pair i j s t h5 h7 hij
      · intro r hr hr'
        rw [h7, hnall] at hr'
        have := hlt s (List.mem_of_getElem? h5) r hr
        have hr2 : r = T ∨ r = M := by simpa using hr'
        rcases hr2 with rfl | rfl <;> omega
    · rcases hsplit j t hj with ⟨h6, h7⟩ | ⟨h6, h7⟩
      · intro r hr hr'
        rw [h5, hnall] at hr
        have := hlt t (List.mem_of_getElem? h7) r hr'
        have hr2 : r = T ∨ r = M := by simpa using hr
        rcases hr2 with rfl | rfl <;> omega
      · omega
  · rcases List.mem_append.1 hs' with hs' | hs'
    · have h9 := h.off s hs' r hr
      refine ⟨h9.1, fun e => ?_⟩
      rcases hblk with h8 | h8
      · rw [h8] at e; exact h9.2 e
      · rw [h8] at e
        injection e with e
        have := (h.str s hs').lt r hr
        omega
    · rw [List.mem_singleton.1 hs', hnall] at hr
      have hr2 : r = T ∨ r = M := by simpa using hr
      have hr3 : wr.heap.size ≤ r ∧ r < w1.heap.size := by rcases hr2 with rfl | rfl <;> omega
      refine ⟨by omega, fun e => ?_⟩
      rcases hblk with h8 | h8
      · rw [h8] at e; have := hown r e; omega
      · rw [h8] at e
        injection e with e
        omega
/-- All are there. -/
theorem MkAt.done {w wr : World} {S H L base : Nat} {c : Cfg} {rs rh : Nat} {v : Value} {sts : List St} (h : MkAt w wr S H L base c rs rh v sts) (hp : 0 < sts.length) : ∃ d, StoreAt (fun b => w.heap.size ≤ b) wr S c rs rh 0 (newW sts.length) d ∧ d.sts.length = sts.length := by
  obtain ⟨A, cp, rfl⟩ := h.own.form
  have hform := h.own.2
  obtain ⟨g, rfl⟩ : ∃ g, A = some ⟨g, 0, none⟩ := by
    rcases h.own.2 with ⟨e, e2⟩ | ⟨g, cap, cur, e, _⟩
    · omega
    · injection e with e1 _ _
      exact ⟨g, e1⟩
  have hlow := h.low
  refine ⟨⟨g, cp, H, L, sts, []⟩, ⟨h.cell, ?_, by simp [newW], fun i s R hs hR => ?_, h.pair, fun s hs => ?_, h.ne, h.tab, h.live, (fun p hp => by cases hp), fun i q hq => ?_, rfl, by dsimp only; omega, fun s hs r hr => by have := (h.off s hs r hr).1; omega⟩, rfl⟩
  · refine ⟨h.own.row eStp, fun b o m c' e hn => ?_⟩
    injection e with e1 _ _
    injection e1 with e1
    injection e1 with e1 _ _
    have e1 : g = b := e1
    subst e1
    have hg := h.own.lt (r := g) rfl
    refine ⟨fun hq => ?_, by omega⟩
    rcases mem_fp.1 hq with e | e | e | ⟨s, hs, hr⟩
    · omega
    · dsimp only at e; omega
    · dsimp only at e; omega
    · exact (h.off s hs g (s.sub g hr)).2 rfl
  · have : R = [] := by
      have h9 := List.mem_of_getElem? hR
      exact List.eq_of_mem_replicate h9
    rw [this]
    exact h.str s (List.mem_of_getElem? hs)
  · refine ⟨fun hq => ?_, fun hq => ?_, fun hq => ?_⟩
    · have := (h.off s hs _ hq).1; omega
    · have := (h.off s hs _ hq).1; dsimp only at this; omega
    · have := (h.off s hs _ hq).1; dsimp only at this; omega
  · simp [newW] at hq

/-- What New says. -/
def NewSto (w : World) (c : Cfg) (rs rh : Nat) (e : Ending) (w' : World) : Prop :=
  ∃ S d, e = .returned (.tuple #[.pointer (some ⟨S, 0, none⟩), .int .i64 0]) ∧ StoreAt (fun b => w.heap.size ≤ b) w' S c rs rh 0 (newW d.sts.length) d ∧ (d.sts.length : Int) = c.st ∧ Below w.heap.size w w'
set_option maxRecDepth 100000 in
set_option maxHeartbeats 4000000 in
theorem stoNew_any (c : Cfg) (rs rh : Nat) (w : World) (hc : CfgOk c rs rh) :
    Calls Tryz.prog 27 #[cfgV c] w (NewSto w c rs rh) := by
  have HNR := Lib.hid (fun W => nodeRight_any c W hc.ok)
  have HE := Lib.hid (show cfgE c = 0 by unfold cfgE; rw [if_pos hc.cfg])
  have hst : okSt c.st = true := by have := hc.cfg; unfold cfgB at this; simp only [Bool.and_eq_true] at this; exact this.1
  have hbd := okSt_bd _ hst
  obtain ⟨N, hN⟩ := Int.eq_ofNat_of_zero_le (show 0 ≤ c.st by omega)
  have CN := Lib.hid (fun W => stripeNew_any c rs rh W hc.cfg hc.ok)
  have HNC := Lib.hid hN
  rw [HE.out] at HNR
  have hN1 : 0 < N := by omega
  have hN64 : N ≤ 64 := by omega
  unfold cfgV at HNR CN ⊢
  have hstn : c.st = (N : Int) := hN
  clear hc hst hbd hN
  rw [hstn] at HNR CN ⊢
  go_enter Tryz.func27, Tryz.ntmps27
  go_wp2_with (first
    | (go_at_call 46
       refine calls_named ?_
       intro W1 hW1
       have hb1 : Below w.heap.size w W1 := by rw [hW1]; exact balloc (Below.refl _ _) _
       have hx1 : W1.heap[w.heap.size]? = some (.cells #[.int .i64 (N : Nat), .int .i64 c.sa, .int .i64 c.lo, .int .i64 c.hi] 23 (0, 0)) := by rw [hW1]; exact heap_alloc_new _ _
       clear hW1
       refine (HNR.out W1).mono ?_
       rintro e w2 ⟨rfl, hb2⟩
       have HX2 := Lib.hid ((hb2.block _ (Array.getElem?_eq_some_iff.1 hx1).1).trans hx1)
       have HB2 := Lib.hid (bthen hb1 hb2)
       clear hb1 hb2 hx1)
    | (go_at_call 78
       refine (tabNew_any _).mono ?_
       rintro e w3 ⟨rfl, hw3⟩
       have hb3 : Below w2.heap.size w2 w3 := by rw [hw3]; exact balloc (balloc (Below.refl _ _) _) _
       have HX3 := Lib.hid ((hb3.block _ (Array.getElem?_eq_some_iff.1 HX2.out).1).trans HX2.out)
       have HB3 := Lib.hid (bthen HB2.out hb3)
       have HH3 := Lib.hid (show w3.heap[w2.heap.size + 1]? = some (.cells #[.map (some w2.heap.size), .int .i64 1] 229 (0, 0)) by rw [hw3]; exact box_new _ _ _)
       have HL3 := Lib.hid (show MapIn hdV blkV w3 w2.heap.size ([] : List (HN × Nat)) by rw [hw3]; exact (MapIn.made w2).below (balloc (Below.refl _ _) _))
       have HZ3 := Lib.hid (show w3.heap.size = w2.heap.size + 2 by rw [hw3]; simp)
       obtain ⟨c1, c2, c3⟩ := box_cells (Below.refl _ _) HX3.out
       clear hw3 hb3))
  have HM := Lib.hid (show MkAt w (w3.alloc (.cells #[.slice none 0 0, .pointer (some ⟨w2.heap.size + 1, 0, none⟩), .int .i64 0, .bool false] 148)) w3.heap.size (w2.heap.size + 1) w2.heap.size (w3.heap.size + 1) c rs rh (.slice none 0 0) [] from by
    have hba := balloc (Below.refl w3.heap.size w3) (.cells #[.slice none 0 0, .pointer (some ⟨w2.heap.size + 1, 0, none⟩), .int .i64 0, .bool false] 148)
    have hz := HZ3.out
    have hlt : w.heap.size < w2.heap.size := (Array.getElem?_eq_some_iff.1 HX2.out).1
    refine ⟨?_, bthen HB3.out hba, heap_alloc_new _ _, (hba.block _ (by omega)).trans HH3.out, HL3.out.below hba, ⟨by omega, by omega, by omega, by omega, by omega, by omega, by simp⟩, by omega, OwnL.nil _ _, (fun s hs => by cases hs), (fun i j s t hi => by simp at hi), (fun s hs => by cases hs)⟩
    rw [HNC.out]
    exact (hba.block _ (by omega)).trans HX3.out)
  clear c1 c2 c3
  go_loopg [16] N (fun g s16 wr => ∃ (v : Value) (sts : List St), sts.length ≤ N ∧ N - sts.length ≤ g ∧ s16 = .int .i64 (sts.length : Nat) ∧ MkAt w wr w3.heap.size (w2.heap.size + 1) w2.heap.size (w3.heap.size + 1) c rs rh v sts)
  case atStart => exact ⟨_, [], Nat.zero_le _, Nat.le_refl _, rfl, HM.out⟩
  case round =>
    obtain ⟨v, sts, hk, hg, rfl, hat⟩ := hrel
    rename World => wr
    obtain ⟨A3, c3, rfl⟩ := hat.own.form
    have HA := Lib.hid hat
    obtain ⟨a1, a2, a3⟩ := box_cells (Below.refl _ _) hat.cell
    obtain ⟨d1, d2, d3⟩ := box_cells (Below.refl _ _) hat.x0
    rw [HNC.out] at d1
    have hlow := hat.low
    clear hat
    by_cases hlt : sts.length < N
    · have z1 : (sts.length : Int) < (N : Int) := by omega
      go_wp2_with fail
      go_region_law (first
        | (refine step_appendL eStp (by rfl) (.tmp 22) (.tmp 25) (by rfl) (w3.heap.size + 1) sts [⟨T, M, 0, []⟩] (.slice A3 sts.length c3) _ (by rfl) (by rfl) (HO4.out.below (by repeat (first | exact Below.refl _ _ | refine balloc ?_ _ | refine Below.drew ?_ | refine below_drewN ?_ _))) (RowIn.lit (n := 1) (f := stpC) _ ⟨T, M, 0, []⟩ _ _ _ (by first | rfl | simp) rfl) (by simp; omega) (by have := HZ4.out; simp; omega) ?_
           intro out6 A6 c6 w6 hout6 hown6 hg6 hblk6
           have HG6 := Lib.hid hg6
           have HBK6 := Lib.hid hblk6
           have HO6 := Lib.hid hown6
           have HE6 := Lib.hid hout6
           have hS6 := (hg6.block w3.heap.size (by simp; have := HZ4.out; omega) (fun e => by have := HO4.out.lt e.symm; omega)).trans (((by repeat (first | exact Below.refl _ _ | refine balloc ?_ _ | refine Below.drew ?_ | refine below_drewN ?_ _) : Below w4.heap.size w4 _).block _ (by have := HZ4.out; omega)).trans HC4.out)
           obtain ⟨e1, e2, e3⟩ := box_cells (Below.refl _ _) hS6
           clear hS6 hout6 hown6 hg6 hblk6)
        | (go_simp
           go_at_call 79
           refine calls_named ?_
           intro W2 hW2
           have hb2 : Below wr.heap.size wr W2 := by rw [hW2]; repeat (first | exact Below.refl _ _ | refine balloc ?_ _ | refine Below.drew ?_)
           clear hW2
           refine (CN.out W2).mono ?_
           rintro e w4 ⟨T, fp, rfl, hs4, hf4, hb4⟩
           obtain ⟨M, hs5, hfp⟩ := hs4.at_
           have hTM : wr.heap.size ≤ T ∧ wr.heap.size ≤ M := by
             have h1 := hf4 T (by rw [hfp]; simp)
             have h2 := hf4 M (by rw [hfp]; simp)
             have := hb2.size
             omega
           have HTM := Lib.hid hTM
           have HS5 := Lib.hid hs5
           have HB4 := Lib.hid (bthen hb2 hb4)
           have HO4 := Lib.hid (HA.out.own.below (bthen hb2 hb4))
           have HZ4 := Lib.hid (show w3.heap.size + 1 ≤ w4.heap.size from Nat.le_trans (by omega) (bthen hb2 hb4).size)
           have HC4 := Lib.hid (((bthen hb2 hb4).block _ (Array.getElem?_eq_some_iff.1 HA.out.cell).1).trans HA.out.cell)
           obtain ⟨q1, q2, q3⟩ := box_cells (bthen hb2 hb4) HA.out.cell
           obtain ⟨p1, p2, p3⟩ := box_cells (bthen hb2 hb4) HA.out.x0
           clear hs4 hf4 hb4 hb2 hs5 hfp hTM))
      all_goals
        have hw : IntKind.i64.wrap ((sts.length : Nat) + 1 : Int) = ((sts.length + 1 : Nat) : Int) := by rw [IntKind.wrap_i64]; omega
        go_wp2
        go_roundg (N - (sts.length + 1))
        case measure => omega
        case rel =>
          have hout := HE6.out
          subst hout
          exact ⟨_, _, by simp; omega, by simp, by simp, HA.out.step HB4.out HS5.out HTM.out (by repeat (first | exact Below.refl _ _ | refine balloc ?_ _ | refine Below.drew ?_ | refine below_drewN ?_ _)) HG6.out HBK6.out HO6.out rfl⟩
    · obtain rfl : N = sts.length := by omega
      have z1 : ¬ (sts.length : Int) < (sts.length : Int) := by omega
      go_wp2
      go_ret2
      obtain ⟨d, hd, hds⟩ := HA.out.done hN1
      exact ⟨_, d, rfl, by rw [hds]; exact hd, by rw [hds]; exact HNC.out.symm, HA.out.b⟩
end

end Go.Proofs.YtmniiodpbebnmaaGreat
