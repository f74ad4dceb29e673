/- Walks of handle.New and store.New. -/
import Derived.Test.YtmniiodpbebnmaaGreatJ46
namespace Go.Proofs.YtmniiodpbebnmaaGreat

section
set_option linter.unusedSimpArgs false
set_option linter.unusedVariables false
open Go.RowKit Go.Lib Go.Sort

theorem eStp : EltOf 146 78 1 8 (.pointer none) stpC :=
  ⟨by kernel_rfl, by kernel_rfl, rfl, by decide, by decide, fun _ => rfl, fun x u hu => by
    simp only [stpC, List.mem_cons, List.not_mem_nil, or_false] at hu
    subst hu
    rfl⟩
set_option maxRecDepth 100000 in
set_option maxHeartbeats 1000000 in
theorem tabNew_any (w : World) :
    Calls Tryz.prog 78 #[] w fun e w' => e = .returned (.pointer (some ⟨w.heap.size + 1, 0, none⟩)) ∧ w' = (w.alloc (.map #[] 0)).alloc (.cells #[.map (some w.heap.size), .int .i64 1] 229) := by
  have hmm := @run_makeMap Tryz.prog
  go_enter Tryz.func78, Tryz.ntmps78
  go_wp2
  go_ret
  exact ⟨by simp, rfl⟩

/-- A store that is made: k stripes are there. -/
structure MkAt (w wr : World) (S H L base : Nat) (c : Cfg) (rs rh : Nat) (v : Value) (sts : List St) : Prop where
  x0 : wr.heap[w.heap.size]? = some (.cells #[.int .i64 c.st, .int .i64 c.sa, .int .i64 c.lo, .int .i64 c.hi] 23 (0, 0))
  b : Below w.heap.size w wr
  cell : wr.heap[S]? = some (.cells #[v, .pointer (some ⟨H, 0, none⟩), .int .i64 0, .bool false] 148 (0, 0))
  tab : wr.heap[H]? = some (.cells #[.map (some L), .int .i64 1] 229 (0, 0))
  live : MapIn hdV blkV wr L ([] : List (HN × Nat))
  low : w.heap.size < S ∧ w.heap.size ≤ H ∧ w.heap.size ≤ L ∧ S < base ∧ H < base ∧ L < base ∧ base ≤ wr.heap.size
  ne : S ≠ H ∧ S ≠ L ∧ H ≠ L
  own : OwnL stpC 78 1 base wr v sts
  str : ∀ s ∈ sts, StrOk wr c rs rh 0 s []
  pair : ∀ (i j : Nat) s t, sts[i]? = some s → sts[j]? = some t → i ≠ j → apart s.all t.all
  off : ∀ s ∈ sts, ∀ r ∈ s.all, base ≤ r ∧ v.ownBlock ≠ some r
theorem MkAt.below {w wr w' : World} {S H L base : Nat} {c : Cfg} {rs rh : Nat} {v : Value} {sts : List St} (h : MkAt w wr S H L base c rs rh v sts) (hb : Below wr.heap.size wr w') : MkAt w w' S H L base c rs rh v sts :=
  ⟨(hb.block _ (Array.getElem?_eq_some_iff.1 h.x0).1).trans h.x0, bthen h.b hb, (hb.block _ (Array.getElem?_eq_some_iff.1 h.cell).1).trans h.cell, (hb.block _ (Array.getElem?_eq_some_iff.1 h.tab).1).trans h.tab, h.live.below hb, by have := h.low; have := hb.size; omega, h.ne, h.own.below hb, fun s hs => (h.str s hs).kept (fun r hr => hb.block r ((h.str s hs).lt r hr)), h.pair, h.off⟩
theorem MkAt.step {w wr w1 u w2 w3 : World} {S H L base : Nat} {c : Cfg} {rs rh : Nat} {v v2 : Value} {sts : List St} {T M : Nat} (h : MkAt w wr S H L base c rs rh v sts) (hb : Below wr.heap.size wr w1) (hs : SAt w1 T M c 0 [] rs rh) (hT : wr.heap.size ≤ T ∧ wr.heap.size ≤ M)
    (hu : Below w1.heap.size w1 u) (hg : u.grownBy w2 v.ownBlock) (hblk : v2.ownBlock = v.ownBlock ∨ v2.ownBlock = some u.heap.size) (ho : OwnL stpC 78 1 base w2 v2 (sts ++ [⟨T, M, 0, []⟩])) (h3 : w3 = w2.setCell ⟨S, 0, none⟩ v2) :
    MkAt w w3 S H L base c rs rh v2 (sts ++ [⟨T, M, 0, []⟩]) := by
  have hlow := h.low
  have h1 := h.below (hb.trans (hu.mono hb.size))
  have hus : wr.heap.size ≤ u.heap.size := Nat.le_trans hb.size hu.size
  have hb12 : Below base u w2 := grown_below hg (by omega) (fun r hr => (h.own.lt hr).1)
  have hsz := hb12.size
  have hk : ∀ r, r ≠ S → w3.heap[r]? = w2.heap[r]? := fun r hr => by rw [h3]; exact heap_set_ne rfl hr
  have hs3 : w3.heap.size = w2.heap.size := by rw [h3]; simp
  have hblk2 : ∀ r, r < u.heap.size → v.ownBlock ≠ some r → w2.heap[r]? = u.heap[r]? := fun r hr hn => hg.block r hr (Ne.symm hn)
  have hTM : T < w1.heap.size ∧ M < w1.heap.size := ⟨hs.ltT, hs.map.lt⟩
  have huw := hu.size
  have hw1 := hb.size
  have hown : ∀ r, v.ownBlock = some r → base ≤ r ∧ r < wr.heap.size := fun r hr => h.own.lt hr
  have hnew : StrOk w1 c rs rh 0 ⟨T, M, 0, []⟩ [] := ⟨hs, Tells18.nil, ⟨Nat.le_refl _, fun p hp => by cases hp⟩, Nat.le_refl _⟩
  have hnall : St.all ⟨T, M, 0, []⟩ = [T, M] := rfl
  refine ⟨(hk w.heap.size (by omega)).trans ((hb12.block w.heap.size (by omega)).trans h1.x0), ?_, ?_, ?_, ?_, by omega, h.ne, ho.kept (fun r hr => hk r (by have := (ho.lt hr).1; omega)), fun s hs' => ?_, fun i j s t hi hj hij => ?_, fun s hs' r hr => ?_⟩
  · rw [h3]
    exact (h1.b.trans (hb12.mono (by omega))).setCell (by simp; omega) _
  · rw [h3, setCell_block ((hb12.block S (by omega)).trans h1.cell)]
    rfl
  · exact (hk H (Ne.symm h.ne.1)).trans ((hb12.block H (by omega)).trans h1.tab)
  · exact h1.live.block ((hk L (Ne.symm h.ne.2.1)).trans (hb12.block L (by omega)))
  · rcases List.mem_append.1 hs' with hs' | hs'
    · refine (h1.str s hs').kept (fun r hr => ?_)
      have h9 := h.off s hs' r hr
      exact (hk r (by omega)).trans (hblk2 r (by have := (h.str s hs').lt r hr; omega) h9.2)
    · rw [List.mem_singleton.1 hs']
      refine hnew.kept (fun r hr => ?_)
      have hr2 : r = T ∨ r = M := by rw [hnall] at hr; simpa using hr
      have hr3 : wr.heap.size ≤ r ∧ r < w1.heap.size := by rcases hr2 with rfl | rfl <;> omega
      refine (hk r (by omega)).trans ((hblk2 r (by omega) (fun e => by have := hown r e; omega)).trans (hu.block r hr3.2))
  · have hsplit : ∀ (i : Nat) s, (sts ++ [⟨T, M, 0, []⟩])[i]? = some s → (i < sts.length ∧ sts[i]? = some s) ∨ (i = sts.length ∧ s = ⟨T, M, 0, []⟩) := fun i s hi => by
      rcases Nat.lt_or_ge i sts.length with h9 | h9
      · rw [List.getElem?_append_left h9] at hi
        exact .inl ⟨h9, hi⟩
      · rw [List.getElem?_append_right h9] at hi
        have := (List.getElem?_eq_some_iff.1 hi).1
        simp at this
        have e : i = sts.length := by omega
        subst e
        simp at hi
        exact .inr ⟨rfl, hi.symm⟩
    have hlt : ∀ s ∈ sts, ∀ r ∈ s.all, r < wr.heap.size := fun s hs r hr => (h.str s hs).lt r hr
    rcases hsplit i s hi with ⟨h4, h5⟩ | ⟨h4, h5⟩
    · rcases hsplit j t hj with ⟨h6, h7⟩ | ⟨h6, h7⟩
      · exact h.pair i j s t h5 h7 hij
      · intro r hr hr'
        rw [h7, hnall] at hr'
        have := hlt s (List.mem_of_getElem? h5) r hr
        have hr2 : r = T ∨ r = M := by simpa using hr'
        rcases hr2 with rfl | rfl <;> omega
    · rcases hsplit j t hj with ⟨h6, h7⟩ | ⟨h6, h7⟩
      · intro r hr hr'
        rw [h5, hnall] at hr
        have := hlt t (List.mem_of_getElem? h7) r hr'
        have hr2 : r = T ∨ r = M := by simpa using hr
        rcases hr2 with rfl | rfl <;> omega
      · omega
  · rcases List.mem_append.1 hs' with hs' | hs'
    · have h9 := h.off s hs' r hr
      refine ⟨h9.1, fun e => ?_⟩
      rcases hblk with h8 | h8
      · rw [h8] at e; exact h9.2 e
      · rw [h8] at e
        injection e with e
        have := (h.str s hs').lt r hr
        omega
    · rw [List.mem_singleton.1 hs', hnall] at hr
      have hr2 : r = T ∨ r = M := by simpa using hr
      have hr3 : wr.heap.size ≤ r ∧ r < w1.heap.size := by rcases hr2 with rfl | rfl <;> omega
      refine ⟨by omega, fun e => ?_⟩
      rcases hblk with h8 | h8
      · rw [h8] at e; have := hown r e; omega
      · rw [h8] at e
        injection e with e
        omega
/-- All are there. -/
theorem MkAt.done {w wr : World} {S H L base : Nat} {c : Cfg} {rs rh : Nat} {v : Value} {sts : List St} (h : MkAt w wr S H L base c rs rh v sts) (hp : 0 < sts.length) : ∃ d, StoreAt (fun b => w.heap.size ≤ b) wr S c rs rh 0 (newW sts.length) d ∧ d.sts.length = sts.length := by
  obtain ⟨A, cp, rfl⟩ := h.own.form
  have hform := h.own.2
  obtain ⟨g, rfl⟩ : ∃ g, A = some ⟨g, 0, none⟩ := by
    rcases h.own.2 with ⟨e, e2⟩ | ⟨g, cap, cur, e, _⟩
    · omega
    · injection e with e1 _ _
      exact ⟨g, e1⟩
  have hlow := h.low
  refine ⟨⟨g, cp, H, L, sts, []⟩, ⟨h.cell, ?_, by simp [newW], fun i s R hs hR => ?_, h.pair, fun s hs => ?_, h.ne, h.tab, h.live, (fun p hp => by cases hp), fun i q hq => ?_, rfl, by dsimp only; omega, fun s hs r hr => by have := (h.off s hs r hr).1; omega⟩, rfl⟩
  · refine ⟨h.own.row eStp, fun b o m c' e hn => ?_⟩
    injection e with e1 _ _
    injection e1 with e1
    injection e1 with e1 _ _
    have e1 : g = b := e1
    subst e1
    have hg := h.own.lt (r := g) rfl
    refine ⟨fun hq => ?_, by omega⟩
    rcases mem_fp.1 hq with e | e | e | ⟨s, hs, hr⟩
    · omega
    · dsimp only at e; omega
    · dsimp only at e; omega
    · exact (h.off s hs g (s.sub g hr)).2 rfl
  · have : R = [] := by
      have h9 := List.mem_of_getElem? hR
      exact List.eq_of_mem_replicate h9
    rw [this]
    exact h.str s (List.mem_of_getElem? hs)
  · refine ⟨fun hq => ?_, fun hq => ?_, fun hq => ?_⟩
    · have := (h.off s hs _ hq).1; omega
    · have := (h.off s hs _ hq).1; dsimp only at this; omega
    · have := (h.off s hs _ hq).1; dsimp only at this; omega
  · simp [newW] at hq

/-- What New says. -/
def NewSto (w : World) (c : Cfg) (rs rh : Nat) (e : Ending) (w' : World) : Prop :=
  ∃ S d, e = .returned (.tuple #[.pointer (some ⟨S, 0, none⟩), .int .i64 0]) ∧ StoreAt (fun b => w.heap.size ≤ b) w' S c rs rh 0 (newW d.sts.length) d ∧ (d.sts.length : Int) = c.st ∧ Below w.heap.size w w'
set_option maxRecDepth 100000 in
set_option maxHeartbeats 4000000 in
theorem stoNew_any (c : Cfg) (rs rh : Nat) (w : World) (hc : CfgOk c rs rh) :
    Calls Tryz.prog 27 #[cfgV c] w (NewSto w c rs rh) := by
  have HNR := Lib.hid (fun W => nodeRight_any c W hc.ok)
  have HE := Lib.hid (show cfgE c = 0 by unfold cfgE; rw [if_pos hc.cfg])
  have hst : okSt c.st = true := by have := hc.cfg; unfold cfgB at this; simp only [Bool.and_eq_true] at this; exact this.1
  have hbd := okSt_bd _ hst
  obtain ⟨N, hN⟩ := Int.eq_ofNat_of_zero_le (show 0 ≤ c.st by omega)
  have CN := Lib.hid (fun W => stripeNew_any c rs rh W hc.cfg hc.ok)
  have HNC := Lib.hid hN
  rw [HE.out] at HNR
  have hN1 : 0 < N := by omega
  have hN64 : N ≤ 64 := by omega
  unfold cfgV at HNR CN ⊢
  have hstn : c.st = (N : Int) := hN
  clear hc hst hbd hN
  rw [hstn] at HNR CN ⊢
  go_enter Tryz.func27, Tryz.ntmps27
  go_wp2_with (first
    | (go_at_call 46
       refine calls_named ?_
       intro W1 hW1
       have hb1 : Below w.heap.size w W1 := by rw [hW1]; exact balloc (Below.refl _ _) _
       have hx1 : W1.heap[w.heap.size]? = some (.cells #[.int .i64 (N : Nat), .int .i64 c.sa, .int .i64 c.lo, .int .i64 c.hi] 23 (0, 0)) := by rw [hW1]; exact heap_alloc_new _ _
       clear hW1
       refine (HNR.out W1).mono ?_
       rintro e w2 ⟨rfl, hb2⟩
       have HX2 := Lib.hid ((hb2.block _ (Array.getElem?_eq_some_iff.1 hx1).1).trans hx1)
       have HB2 := Lib.hid (bthen hb1 hb2)
       clear hb1 hb2 hx1)
    | (go_at_call 78
       refine (tabNew_any _).mono ?_
       rintro e w3 ⟨rfl, hw3⟩
       have hb3 : Below w2.heap.size w2 w3 := by rw [hw3]; exact balloc (balloc (Below.refl _ _) _) _
       have HX3 := Lib.hid ((hb3.block _ (Array.getElem?_eq_some_iff.1 HX2.out).1).trans HX2.out)
       have HB3 := Lib.hid (bthen HB2.out hb3)
       have HH3 := Lib.hid (show w3.heap[w2.heap.size + 1]? = some (.cells #[.map (some w2.heap.size), .int .i64 1] 229 (0, 0)) by rw [hw3]; exact box_new _ _ _)
       have HL3 := Lib.hid (show MapIn hdV blkV w3 w2.heap.size ([] : List (HN × Nat)) by rw [hw3]; exact (MapIn.made w2).below (balloc (Below.refl _ _) _))
       have HZ3 := Lib.hid (show w3.heap.size = w2.heap.size + 2 by rw [hw3]; simp)
       obtain ⟨c1, c2, c3⟩ := box_cells (Below.refl _ _) HX3.out
       clear hw3 hb3))
  have HM := Lib.hid (show MkAt w (w3.alloc (.cells #[.slice none 0 0, .pointer (some ⟨w2.heap.size + 1, 0, none⟩), .int .i64 0, .bool false] 148)) w3.heap.size (w2.heap.size + 1) w2.heap.size (w3.heap.size + 1) c rs rh (.slice none 0 0) [] from by
    have hba := balloc (Below.refl w3.heap.size w3) (.cells #[.slice none 0 0, .pointer (some ⟨w2.heap.size + 1, 0, none⟩), .int .i64 0, .bool false] 148)
    have hz := HZ3.out
    have hlt : w.heap.size < w2.heap.size := (Array.getElem?_eq_some_iff.1 HX2.out).1
    refine ⟨?_, bthen HB3.out hba, heap_alloc_new _ _, (hba.block _ (by omega)).trans HH3.out, HL3.out.below hba, ⟨by omega, by omega, by omega, by omega, by omega, by omega, by simp⟩, by omega, OwnL.nil _ _, (fun s hs => by cases hs), (fun i j s t hi => by simp at hi), (fun s hs => by cases hs)⟩
    rw [HNC.out]
    exact (hba.block _ (by omega)).trans HX3.out)
  clear c1 c2 c3
  go_loopg [16] N (fun g s16 wr => ∃ (v : Value) (sts : List St), sts.length ≤ N ∧ N - sts.length ≤ g ∧ s16 = .int .i64 (sts.length : Nat) ∧ MkAt w wr w3.heap.size (w2.heap.size + 1) w2.heap.size (w3.heap.size + 1) c rs rh v sts)
  case atStart => exact ⟨_, [], Nat.zero_le _, Nat.le_refl _, rfl, HM.out⟩
  case round =>
    obtain ⟨v, sts, hk, hg, rfl, hat⟩ := hrel
    rename World => wr
    obtain ⟨A3, c3, rfl⟩ := hat.own.form
    have HA := Lib.hid hat
    obtain ⟨a1, a2, a3⟩ := box_cells (Below.refl _ _) hat.cell
    obtain ⟨d1, d2, d3⟩ := box_cells (Below.refl _ _) hat.x0
    rw [HNC.out] at d1
    have hlow := hat.low
    clear hat
    by_cases hlt : sts.length < N
    · have z1 : (sts.length : Int) < (N : Int) := by omega
      go_wp2_with fail
      go_region_law (first
        | (refine step_appendL eStp (by rfl) (.tmp 22) (.tmp 25) (by rfl) (w3.heap.size + 1) sts [⟨T, M, 0, []⟩] (.slice A3 sts.length c3) _ (by rfl) (by rfl) (HO4.out.below (by repeat (first | exact Below.refl _ _ | refine balloc ?_ _ | refine Below.drew ?_ | refine below_drewN ?_ _))) (RowIn.lit (n := 1) (f := stpC) _ ⟨T, M, 0, []⟩ _ _ _ (by first | rfl | simp) rfl) (by simp; omega) (by have := HZ4.out; simp; omega) ?_
           intro out6 A6 c6 w6 hout6 hown6 hg6 hblk6
           have HG6 := Lib.hid hg6
           have HBK6 := Lib.hid hblk6
           have HO6 := Lib.hid hown6
           have HE6 := Lib.hid hout6
           have hS6 := (hg6.block w3.heap.size (by simp; have := HZ4.out; omega) (fun e => by have := HO4.out.lt e.symm; omega)).trans (((by repeat (first | exact Below.refl _ _ | refine balloc ?_ _ | refine Below.drew ?_ | refine below_drewN ?_ _) : Below w4.heap.size w4 _).block _ (by have := HZ4.out; omega)).trans HC4.out)
           obtain ⟨e1, e2, e3⟩ := box_cells (Below.refl _ _) hS6
           clear hS6 hout6 hown6 hg6 hblk6)
        | (go_simp
           go_at_call 79
           refine calls_named ?_
           intro W2 hW2
           have hb2 : Below wr.heap.size wr W2 := by rw [hW2]; repeat (first | exact Below.refl _ _ | refine balloc ?_ _ | refine Below.drew ?_)
           clear hW2
           refine (CN.out W2).mono ?_
           rintro e w4 ⟨T, fp, rfl, hs4, hf4, hb4⟩
           obtain ⟨M, hs5, hfp⟩ := hs4.at_
           have hTM : wr.heap.size ≤ T ∧ wr.heap.size ≤ M := by
             have h1 := hf4 T (by rw [hfp]; simp)
             have h2 := hf4 M (by rw [hfp]; simp)
             have := hb2.size
             omega
           have HTM := Lib.hid hTM
           have HS5 := Lib.hid hs5
           have HB4 := Lib.hid (bthen hb2 hb4)
           have HO4 := Lib.hid (HA.out.own.below (bthen hb2 hb4))
           have HZ4 := Lib.hid (show w3.heap.size + 1 ≤ w4.heap.size from Nat.le_trans (by omega) (bthen hb2 hb4).size)
           have HC4 := Lib.hid (((bthen hb2 hb4).block _ (Array.getElem?_eq_some_iff.1 HA.out.cell).1).trans HA.out.cell)
           obtain ⟨q1, q2, q3⟩ := box_cells (bthen hb2 hb4) HA.out.cell
           obtain ⟨p1, p2, p3⟩ := box_cells (bthen hb2 hb4) HA.out.x0
           clear hs4 hf4 hb4 hb2 hs5 hfp hTM))
      all_goals
        have hw : IntKind.i64.wrap ((sts.length : Nat) + 1 : Int) = ((sts.length + 1 : Nat) : Int) := by rw [IntKind.wrap_i64]; omega
        go_wp2
        go_roundg (N - (sts.length + 1))
        case measure => omega
        case rel =>
          have hout := HE6.out
          subst hout
          exact ⟨_, _, by simp; omega, by simp, by simp, HA.out.step HB4.out HS5.out HTM.out (by repeat (first | exact Below.refl _ _ | refine balloc ?_ _ | refine Below.drew ?_ | refine below_drewN ?_ _)) HG6.out HBK6.out HO6.out rfl⟩
    · obtain rfl : N = sts.length := by omega
      have z1 : ¬ (sts.length : Int) < (sts.length : Int) := by omega
      go_wp2
      go_ret2
      obtain ⟨d, hd, hds⟩ := HA.out.done hN1
      exact ⟨_, d, rfl, by rw [hds]; exact hd, by rw [hds]; exact HNC.out.symm, HA.out.b⟩
end

end Go.Proofs.YtmniiodpbebnmaaGreat
