/- a stripe's Keys and Len. -/
import Derived.Test.YtfnabpmdjfejbaaMStr
import Derived.Test.YtfnabpmdjfejbaaIKeys
namespace Go.Proofs.Ytfnabpmdjfejbaa

section
set_option linter.unusedSimpArgs false
set_option linter.unusedVariables false
open Go.RowKit Go.Lib Go.Shelf
attribute [local go_sem] Oper.semAt_some

def kyN (pre : List (KO × NE)) : List Ky := pre.map fun p => p.1.1

set_option maxRecDepth 100000 in
set_option maxHeartbeats 2000000 in
theorem skeys1_in (n : Nat) (hn : 1 ≤ n) (l Bm d : Nat) (ks : List (KO × NE)) (n₀ B0 : Nat) (J Jx : List Ky → World → Prop) (hJ : AbidesFrom B0 J)
    (hY : ∀ pre x W, J pre W → pre.length < ks.length → YieldAt Fence.wide (n - 1) Try.prog l #[.agg #[.int .u64 x.1, .int .u64 x.2]] W fun e W' =>
      (e = .returned (.bool true) ∧ J (pre ++ [x]) W' ∧ Kp n₀ W W') ∨ (e = .returned (.bool false) ∧ Jx (pre ++ [x]) W'))
    (W : World) (hB0 : B0 ≤ W.heap.size) (hBm : W.cell? ⟨Bm, 0, none⟩ = some (.map (some d))) (hown : MapIn koV neV W d ks) (h0 : J [] W) :
    CallsIn Fence.wide n Try.prog 138 #[.func (.yield l) #[] #[], .pointer (some ⟨Bm, 0, none⟩)] W fun e W' => (∃ v, e = .returned v) ∧
      ((∃ ys, ys.Perm (kyN ks) ∧ J ys W') ∨ (∃ pre, True ∧ Jx pre W')) := by
  refine callsIn_of_wp Try.func138 rfl trivial ?_ rfl
  simp only [Try.ntmps138, List.size_toArray, List.length_cons, List.length_nil, Nat.reduceAdd, Nat.reduceSub, Array.replicate_succ, Array.replicate_zero, List.push_toArray, List.append_toArray, List.nil_append, List.cons_append]
  gi_wp2_with (first
    | (gi_at_range; refine wpListIn_rangeM rfl _ 118 rfl 32 81 Try.underlying118 rfl hown ?_; intro w0 hrg0 hg0 hs0)
    | gi_in)
  go_frame
  gi_loopw [3] (fun _ wr => ∃ (cnt : Nat) (pre : List (KO × NE)), RangeIn koV neV wr d W.heap.size (ks) pre cnt ∧ pre.length + cnt ≤ ks.length ∧ J (kyN pre) wr)
    (fun _ wr => wr.rangeLeft d W.heap.size)
  case atStart =>
    exact ⟨_, [], hrg0, by simp, hJ [] W w0 none h0 hg0 (fun r e => by cases e)⟩
  case round =>
    obtain ⟨cnt, pre, hrg, hcs, hJs⟩ := hrel
    gi_wp2_with (first
      | (gi_at_next; refine wpListIn_nextM rfl _ rfl keysBy.inj rfl hrg ?_ (fun p w2 cnt2 hx hnew hrg2 hlt hg2 hs2 hen => ?_)
         rotate_left
         obtain ⟨x, u⟩ := p
         have hJ2 : J (kyN pre) w2 := hJ _ wr w2 (some W.heap.size) hJs hg2 (fun r e => by cases e; exact ⟨hB0, hrg.iter_walk⟩)
         have hJ3 := hJ _ w2 (w2.alloc (.cells #[.int .u64 x.1.1, .int .u64 x.1.2] 32)) none hJ2 (World.grownBy_alloc _ _ none) (fun r e => by cases e)
         obtain ⟨fn, tmps, assign, body, hy, hR⟩ := hY (kyN pre) x.1 _ hJ3 (by simp [kyN]; omega)
         have hrg3 : RangeIn koV neV (w2.alloc (.cells #[.int .u64 x.1.1, .int .u64 x.1.2] 32)) d W.heap.size (ks) (pre ++ [(x, u)]) cnt2 :=
           hrg2.kept (Below.heap_alloc _ _ _ (MapIn.lt hrg2.map_)) (Below.heap_alloc _ _ _ hrg2.lt)
         have HR := Lib.hid hrg3
         clear hs2 hg2 hJ2 hJ3 hrg2 hrg3
         simp only [koV, neV] at hen ⊢
         rotate_left)
      | gi_in)
    · intro hc0 hp
      gi_wp2
      go_end0
      refine ⟨⟨_, rfl⟩, .inl ⟨kyN pre, ?_, hJs⟩⟩
      have := hp.map (·.1)
      simpa [kyN, List.map_map, Function.comp_def] using this
    · gi_wp2
      refine hR.mono ?_
      rintro e W3 (⟨rfl, hJ4, hk4⟩ | ⟨rfl, hJx4⟩)
      · gi_wp2
        have hrg4 := HR.out.of_walks hk4.2
        go_roundw
        case rel => exact ⟨cnt2, pre ++ [(x, u)], hrg4, by simp; omega, by simpa [kyN] using hJ4⟩
        case measure => rw [hrg4.left_eq, hrg.left_eq]; exact hlt
      · gi_wp2
        refine bodyPost_ret (results_none rfl _ _ _) rfl ?_
        exact ⟨⟨_, rfl⟩, .inr ⟨_, trivial, hJx4⟩⟩

set_option maxHeartbeats 1000000 in
theorem skeysFn_in (n : Nat) (m : Option Nat) (w : World) :
    CallsIn Fence.wide n Try.prog 111 #[.map m] w fun e w' => e = .returned (.func (.func 138) #[] #[.pointer (some ⟨w.heap.size, 0, none⟩)]) ∧ ∃ t, w' = w.alloc (.cells #[.map m] t) := by
  refine callsIn_of_wp Try.func111 rfl trivial ?_ rfl
  simp only [Try.ntmps111, List.size_toArray, List.length_cons, List.length_nil, Nat.reduceAdd, Nat.reduceSub, Array.replicate_succ, Array.replicate_zero, List.push_toArray, List.append_toArray, List.nil_append, List.cons_append]
  gi_wp2
  go_ret
  exact ⟨rfl, _, rfl⟩

theorem skeys_stops (n : Nat) (hn : 1 ≤ n) (d : Nat) (ks : List (KO × NE)) (w : World) (t : TypeId) (h : MapIn koV neV w d ks) :
    SeqStopsK Fence.wide n Try.prog 138 #[.pointer (some ⟨w.heap.size, 0, none⟩)] encA (Kp (w.alloc (.cells #[.map (some d)] t)).heap.size) (fun ss => ss.Perm (kyN ks)) (fun _ => True) ks.length (w.alloc (.cells #[.map (some d)] t)) :=
  fun l J Jx W hW hJ hJx hY h0 => by
    have hc := (hW.cell (p := ⟨w.heap.size, 0, none⟩) (by simp)).trans (Boxed.new w t (.map (some d))).cell
    refine skeys1_in n hn l w.heap.size d ks _ _ J Jx hJ hY W (Nat.le_refl _) hc ?_ h0
    exact MapIn.block h ((hW.block d (by have := h.lt; simp; omega)).trans (Below.heap_alloc _ _ _ h.lt))

theorem kyN_nodup {w : World} {d : Nat} {es : List (KO × NE)} (h : MapIn koV neV w d es) : (kyN es).Nodup := by
  obtain ⟨_, _, _, _, _, _, hn⟩ := h
  have : kyN es = kys (es.map (·.1)) := by simp [kyN, kys, List.map_map, Function.comp_def]
  rw [this]
  exact kys_nodup hn

set_option maxRecDepth 100000 in
set_option maxHeartbeats 2000000 in
theorem skeys_any (T : Nat) (c : Cfg) (ver : Nat) (es : List (KO × NE)) (rs rh : Nat) (fp : List Nat) (w : World) (h : StripeIn w T c ver es rs rh fp) (hl : es.length < 1000000) :
    Calls Try.prog 75 #[.pointer (some ⟨T, 0, none⟩)] w (Lists w (risL (kyN es))) := by
  refine (callsIn_wide (n := 9)).1 ?_
  have HM := Lib.hid (smade_any T c ver es rs rh fp w h)
  obtain ⟨M, h1, h2, h3, h4, h5, h6, rfl⟩ := h
  have hnd := kyN_nodup h2
  have hlt := (Array.getElem?_eq_some_iff.1 h1).1
  have HT := Lib.hid h1
  have HE := Lib.hid h2
  clear h1 h2 h3 h4 h5 h6
  refine callsIn_of_wp Try.func75 rfl trivial ?_ rfl
  simp only [Try.ntmps75, List.size_toArray, List.length_cons, List.length_nil, Nat.reduceAdd, Nat.reduceSub, Array.replicate_succ, Array.replicate_zero, List.push_toArray, List.append_toArray, List.nil_append, List.cons_append]
  gi_wp2_with (first
    | (refine ⟨trivial, ?_⟩; gi_at_call 74; refine CallsIn.mono (callsIn_wide.2 HM.out) ?_
       rintro e w2 ⟨rfl, hb2⟩
       have hx2 : w2.heap[T]? = _ := (hb2.block T hlt).trans HT.out
       have z0 : w2.cell? ⟨T, 0, none⟩ = some (.map (some M)) := by simp only [World.cell?, hx2]; rfl
       have hE2 : MapIn koV neV w2 M es := HE.out.below hb2
       have HE2 := Lib.hid hE2
       have HB2 := Lib.hid hb2
       clear hx2 hE2 hb2)
    | (refine ⟨trivial, ?_⟩; gi_at_call 111; refine (skeysFn_in 8 _ _).mono ?_; rintro e w' ⟨rfl, t, rfl⟩)
    | (refine ⟨trivial, ?_⟩; gi_at_call 91; refine (sorted_in 8 (by omega) 138 _ (enters_of Try.func138 (by kernel_rfl) rfl) (fun ss => ss.Perm (kyN es)) (fun _ => True) es.length (by omega) (fun ss hss => by rw [hss.length_eq]; simp [kyN]) _ (skeys_stops (8 - 1 - 1 - 1) (by omega) M es w2 t HE2.out)).mono ?_; rintro e w' ⟨v, ss, rfl, hp, hrow, hb⟩))
  go_ret
  have e1 := sortL_ris hp hnd
  have e2 : (sortL ss).length = ss.length := by simp [sortL]
  rw [e1] at hrow e2
  rw [← e2] at hrow
  have hsz := HB2.out.size
  exact ⟨v, rfl, own_lower hrow (by simp; omega), bthen HB2.out (((Below.refl _ w2).alloc (Nat.le_refl _) _).trans (hb.mono (by simp)))⟩

theorem risL_length {l : List Ky} (hn : l.Nodup) : (risL l).length = l.length := by
  have h := sortL_ris (List.Perm.refl l) hn
  rw [← h]
  simp [sortL]

set_option maxRecDepth 100000 in
set_option maxHeartbeats 4000000 in
theorem slen_any (T : Nat) (c : Cfg) (ver : Nat) (es : List (KO × NE)) (rs rh : Nat) (fp : List Nat) (w : World) (h : StripeIn w T c ver es rs rh fp) (hl : es.length < 1000000) :
    Calls Try.prog 38 #[.pointer (some ⟨T, 0, none⟩)] w fun e w' => e = .returned (.int .i64 es.length) ∧ Below w.heap.size w w' := by
  have HK := Lib.hid (skeys_any T c ver es rs rh fp w h hl)
  have hlen : (risL (kyN es)).length = es.length := by
    obtain ⟨M, h1, h2, _⟩ := h
    rw [risL_length (kyN_nodup h2)]
    simp [kyN]
  have HL := Lib.hid hlen
  clear h hlen
  go_enter Try.func38, Try.ntmps38
  go_wp2_with (go_at_call 75; refine HK.out.mono ?_; rintro e w2 ⟨v, rfl, hrow, hb⟩; obtain ⟨A, cc, rfl⟩ := own_form hrow; have HB := Lib.hid hb; clear hb hrow)
  go_ret
  exact ⟨by rw [← HL.out]; rfl, HB.out⟩
end

section
set_option linter.unusedSimpArgs false
set_option linter.unusedVariables false
open Go.RowKit Go.Lib Go.Sort
open Go.ChangeMaps (setBlock)

section
variable {α β : Type} [DecidableEq α]
theorem mem_putM {es : List (α × β)} {x : α} {v : β} {p : α × β} (h : p ∈ putM es x v) : p = (x, v) ∨ (p ∈ es ∧ p.1 ≠ x) := by
  unfold putM at h
  split at h
  · obtain ⟨q, hq, e⟩ := List.mem_map.1 h
    split at e
    · exact .inl e.symm
    · rename_i hn
      subst e
      exact .inr ⟨hq, hn⟩
  · rename_i hn
    rcases List.mem_append.1 h with h | h
    · refine .inr ⟨h, fun e => hn ?_⟩
      rw [hasM_iff]
      exact List.mem_map.2 ⟨p, h, e⟩
    · exact .inl (List.mem_singleton.1 h)
theorem find_mem {es : List (α × β)} {x : α} {v : β} (h : findM es x = some v) : (x, v) ∈ es := by
  unfold findM at h
  obtain ⟨q, hq, rfl⟩ := Option.map_eq_some_iff.1 h
  have h1 := List.find?_some hq
  simp at h1
  rw [← h1]
  exact List.mem_of_find?_eq_some hq
theorem find_has {es : List (α × β)} {x : α} {v : β} (h : findM es x = some v) : hasM es x = true :=
  (hasM_iff es x).2 (List.mem_map.2 ⟨_, find_mem h, rfl⟩)
theorem map_putM {γ : Type} (f : β → γ) (es : List (α × β)) (x : α) (v : β) : (putM es x v).map (fun p => (p.1, f p.2)) = putM (es.map fun p => (p.1, f p.2)) x (f v) := by
  have hh : hasM (es.map fun p => (p.1, f p.2)) x = hasM es x := by simp [hasM, List.any_map, Function.comp_def]
  unfold putM
  rw [hh]
  split
  · simp only [List.map_map]
    refine List.map_congr_left fun p _ => ?_
    simp only [Function.comp]
    split <;> rfl
  · simp
theorem find_map {γ : Type} (f : β → γ) (es : List (α × β)) (x : α) : findM (es.map fun p => (p.1, f p.2)) x = (findM es x).map f := by
  unfold findM
  rw [List.find?_map]
  simp [Function.comp_def]
theorem has_map {γ : Type} (f : β → γ) (es : List (α × β)) (x : α) : hasM (es.map fun p => (p.1, f p.2)) x = hasM es x := by simp [hasM, List.any_map, Function.comp_def]
theorem find_putM (es : List (α × β)) (x y : α) (v : β) : findM (putM es x v) y = if y = x then some v else findM es y := by
  unfold putM
  split
  · rename_i hh
    induction es with
    | nil => simp [hasM] at hh
    | cons p es ih =>
      unfold findM
      simp only [List.map_cons, List.find?_cons]
      by_cases hp : p.1 = x
      · rw [if_pos hp]
        by_cases hy : y = x
        · subst hy
          simp
        · rw [if_neg hy]
          have e1 : decide (x = y) = false := by simpa using fun e => hy e.symm
          have e2 : decide (p.1 = y) = false := by rw [hp]; exact e1
          simp only [e1, e2]
          by_cases hq : hasM es x = true
          · have := ih hq
            unfold findM at this
            rw [if_neg hy] at this
            exact this
          · have : es.map (fun p => if p.1 = x then (x, v) else p) = es := by
              conv => rhs; rw [← List.map_id es]
              refine List.map_congr_left fun q hq' => ?_
              rw [if_neg]
              · rfl
              · intro e
                exact hq ((hasM_iff es x).2 (List.mem_map.2 ⟨q, hq', e⟩))
            rw [this]
      · rw [if_neg hp]
        have hq : hasM es x = true := by simpa [hasM, hp] using hh
        have := ih hq
        unfold findM at this
        by_cases hpy : p.1 = y
        · have hy : ¬ y = x := fun e => hp (hpy.trans e)
          rw [if_neg hy]
          simp [hpy]
        · have e2 : decide (p.1 = y) = false := by simpa using hpy
          simp only [e2]
          exact this
  · rename_i hh
    unfold findM
    rw [List.find?_append]
    by_cases hy : y = x
    · subst hy
      rw [if_pos rfl]
      have : List.find? (fun p => decide (p.1 = y)) es = none := by
        rw [List.find?_eq_none]
        intro p hp hpy
        exact hh ((hasM_iff es y).2 (List.mem_map.2 ⟨p, hp, by simpa using hpy⟩))
      rw [this]
      simp
    · rw [if_neg hy]
      have e1 : decide (x = y) = false := by simpa using fun e => hy e.symm
      simp [e1]
theorem len_putM (es : List (α × β)) (x : α) (v : β) : (putM es x v).length = if hasM es x = true then es.length else es.length + 1 := by
  unfold putM
  split
  · rename_i h; simp
  · rename_i h; simp
end

def ab (es : List (KO × NE)) : List (KO × Nd) := es.map fun p => (p.1, p.2.2.1)
theorem ab_putM (es : List (KO × NE)) (k : KO) (N : Nat) (y : Nd) (fq : List Nat) : ab (putM es k (N, y, fq)) = putM (ab es) k y := map_putM (fun b : NE => b.2.1) es k (N, y, fq)
theorem ab_find (es : List (KO × NE)) (k : KO) : findM (ab es) k = (findM es k).map (fun b => b.2.1) := find_map (fun b : NE => b.2.1) es k
theorem ab_has (es : List (KO × NE)) (k : KO) : hasM (ab es) k = hasM es k := has_map (fun b : NE => b.2.1) es k
theorem ab_len (es : List (KO × NE)) : (ab es).length = es.length := by simp [ab]
theorem mfp_sub (x : Nd) (fp : List Nat) : ∀ k ∈ mfp x fp, k ∈ fp := by
  intro k hk
  unfold mfp at hk
  split at hk
  · cases hk
  · exact hk

/-- What of the nodes may turn. -/
def mfpE (es : List (KO × NE)) : List Nat := es.flatMap fun p => mfp p.2.2.1 p.2.2.2
def sfp (T M : Nat) (es : List (KO × NE)) : List Nat := T :: M :: mfpE es
structure SAt (w : World) (T M : Nat) (c : Cfg) (ver : Nat) (es : List (KO × NE)) (rs rh : Nat) : Prop where
  cell : w.heap[T]? = some (.cells #[.map (some M), .int .i64 c.st, .int .i64 c.sa, .int .i64 c.lo, .int .i64 c.hi, .int .i64 (ver : Nat)] 120 (0, 0))
  map : MapIn koV neV w M es
  node : ∀ p ∈ es, NodeIn w p.2.1 p.2.2.1 rs rh p.2.2.2
  pair : ∀ p ∈ es, ∀ q ∈ es, p.1 ≠ q.1 → apart p.2.2.2 q.2.2.2
  off : ∀ p ∈ es, T ∉ p.2.2.2 ∧ M ∉ p.2.2.2
  ne : T ≠ M
/-- The same, but for what stands at a key. -/
structure SHole (w : World) (T M : Nat) (c : Cfg) (ver : Nat) (es : List (KO × NE)) (rs rh : Nat) (k : KO) (fq : List Nat) : Prop where
  cell : w.heap[T]? = some (.cells #[.map (some M), .int .i64 c.st, .int .i64 c.sa, .int .i64 c.lo, .int .i64 c.hi, .int .i64 (ver : Nat)] 120 (0, 0))
  map : MapIn koV neV w M es
  node : ∀ p ∈ es, p.1 ≠ k → NodeIn w p.2.1 p.2.2.1 rs rh p.2.2.2
  pair : ∀ p ∈ es, ∀ q ∈ es, p.1 ≠ k → q.1 ≠ k → p.1 ≠ q.1 → apart p.2.2.2 q.2.2.2
  off : ∀ p ∈ es, p.1 ≠ k → T ∉ p.2.2.2 ∧ M ∉ p.2.2.2
  ne : T ≠ M
  new : ∀ p ∈ es, p.1 ≠ k → apart fq p.2.2.2
  offn : T ∉ fq ∧ M ∉ fq

theorem SAt.nodup {w : World} {T M : Nat} {c : Cfg} {ver : Nat} {es : List (KO × NE)} {rs rh : Nat} (h : SAt w T M c ver es rs rh) : (es.map (·.1)).Nodup := by
  obtain ⟨_, _, _, _, _, _, hn⟩ := h.map
  exact hn
theorem SAt.in_ {w : World} {T M : Nat} {c : Cfg} {ver : Nat} {es : List (KO × NE)} {rs rh : Nat} (h : SAt w T M c ver es rs rh) : StripeIn w T c ver es rs rh (T :: M :: es.flatMap (fun p => p.2.2.2)) :=
  ⟨M, h.cell, h.map, h.node, h.pair, h.off, h.ne, rfl⟩
theorem StripeIn.at_ {w : World} {T : Nat} {c : Cfg} {ver : Nat} {es : List (KO × NE)} {rs rh : Nat} {fp : List Nat} (h : StripeIn w T c ver es rs rh fp) : ∃ M, SAt w T M c ver es rs rh ∧ fp = T :: M :: es.flatMap (fun p => p.2.2.2) := by
  obtain ⟨M, h1, h2, h3, h4, h5, h6, h7⟩ := h
  exact ⟨M, ⟨h1, h2, h3, h4, h5, h6⟩, h7⟩
theorem SAt.below {w w' : World} {T M : Nat} {c : Cfg} {ver : Nat} {es : List (KO × NE)} {rs rh : Nat} (h : SAt w T M c ver es rs rh) (hb : Below w.heap.size w w') : SAt w' T M c ver es rs rh :=
  ⟨(hb.block T (Array.getElem?_eq_some_iff.1 h.cell).1).trans h.cell, h.map.below hb, fun p hp => (h.node p hp).below hb, h.pair, h.off, h.ne⟩
theorem SAt.ltT {w : World} {T M : Nat} {c : Cfg} {ver : Nat} {es : List (KO × NE)} {rs rh : Nat} (h : SAt w T M c ver es rs rh) : T < w.heap.size := (Array.getElem?_eq_some_iff.1 h.cell).1

/-- A node's key's node turned. -/
theorem SAt.hole {w w' : World} {T M : Nat} {c : Cfg} {ver : Nat} {es : List (KO × NE)} {rs rh : Nat} {k : KO} {b : NE} {fq : List Nat} (h : SAt w T M c ver es rs rh) (hm : (k, b) ∈ es) (hu : Upd w w' (mfp b.2.1 b.2.2) fq) : SHole w' T M c ver es rs rh k fq := by
  have ho := h.off _ hm
  have hsub := mfp_sub b.2.1 b.2.2
  refine ⟨(hu.block T h.ltT (fun hk => ho.1 (hsub T hk))).trans h.cell, h.map.block (hu.block M h.map.lt (fun hk => ho.2 (hsub M hk))),
    fun p hp hn => (h.node p hp).kept (fun r hr => hu.block r ((h.node p hp).lt r hr) (fun hk => h.pair _ hm p hp (Ne.symm hn) r (hsub r hk) hr)), fun p hp q hq _ _ hn => h.pair p hp q hq hn, fun p hp _ => h.off p hp, h.ne,
    fun p hp hn r hr hr' => ?_, ?_, ?_⟩
  · rcases hu.fresh r hr with hk | hk
    · exact h.pair _ hm p hp (Ne.symm hn) r (hsub r hk) hr'
    · have := (h.node p hp).lt r hr'; omega
  · intro hr
    rcases hu.fresh T hr with hk | hk
    · exact ho.1 (hsub T hk)
    · have := h.ltT; omega
  · intro hr
    rcases hu.fresh M hr with hk | hk
    · exact ho.2 (hsub M hk)
    · have := h.map.lt; omega
/-- No node stood there. -/
theorem SAt.hole_new {w w' : World} {T M : Nat} {c : Cfg} {ver : Nat} {es : List (KO × NE)} {rs rh : Nat} {k : KO} {fq : List Nat} (h : SAt w T M c ver es rs rh) (hb : Below w.heap.size w w') (hf : ∀ r ∈ fq, w.heap.size ≤ r) : SHole w' T M c ver es rs rh k fq := by
  have h' := h.below hb
  exact ⟨h'.cell, h'.map, fun p hp _ => h'.node p hp, fun p hp q hq _ _ hn => h.pair p hp q hq hn, fun p hp _ => h.off p hp, h.ne,
    fun p hp hn r hr hr' => by have := hf r hr; have := (h.node p hp).lt r hr'; omega, fun hr => by have := hf T hr; have := h.ltT; omega, fun hr => by have := hf M hr; have := h.map.lt; omega⟩
theorem SHole.below {w w' : World} {T M : Nat} {c : Cfg} {ver : Nat} {es : List (KO × NE)} {rs rh : Nat} {k : KO} {fq : List Nat} (h : SHole w T M c ver es rs rh k fq) (hb : Below w.heap.size w w') : SHole w' T M c ver es rs rh k fq :=
  ⟨(hb.block T (Array.getElem?_eq_some_iff.1 h.cell).1).trans h.cell, h.map.below hb, fun p hp hn => (h.node p hp hn).below hb, h.pair, h.off, h.ne, h.new, h.offn⟩

/-- A key's node is kept: the map is written, and the version rises. -/
theorem SHole.keep {w : World} {T M : Nat} {c : Cfg} {ver : Nat} {es : List (KO × NE)} {rs rh : Nat} {k : KO} {N : Nat} {y : Nd} {fq : List Nat} {o : Obj} (h : SHole w T M c ver es rs rh k fq) (hn : NodeIn w N y rs rh fq)
    (hm : MapIn koV neV (setBlock w M o) M (putM es k (N, y, fq))) :
    SAt ((setBlock w M o).setCell ⟨T, 5, none⟩ (.int .i64 ((ver + 1 : Nat) : Int))) T M c (ver + 1) (putM es k (N, y, fq)) rs rh ∧ Upd w ((setBlock w M o).setCell ⟨T, 5, none⟩ (.int .i64 ((ver + 1 : Nat) : Int))) [T, M] [T, M] := by
  have hT : T < w.heap.size := (Array.getElem?_eq_some_iff.1 h.cell).1
  have hc : (setBlock w M o).heap[T]? = _ := (setBlock_other (o := o) h.ne).trans h.cell
  have hblk : ∀ r, r ≠ T → r ≠ M → ((setBlock w M o).setCell ⟨T, 5, none⟩ (.int .i64 ((ver + 1 : Nat) : Int))).heap[r]? = w.heap[r]? := fun r h1 h2 =>
    (Below.heap_setCell _ _ _ _ h1).trans (setBlock_other h2)
  have hsz : ((setBlock w M o).setCell ⟨T, 5, none⟩ (.int .i64 ((ver + 1 : Nat) : Int))).heap.size = w.heap.size := by simp [World.setCell, setBlock]
  refine ⟨⟨(setCell_block hc).trans (by rfl), hm.block (Below.heap_setCell _ _ _ _ (Ne.symm h.ne)), fun p hp => ?_, fun p hp q hq hpq => ?_, fun p hp => ?_, h.ne⟩, ⟨rfl, rfl, rfl, Nat.le_of_eq hsz.symm, fun r hr hn => hblk r (fun e => hn (by rw [e]; simp)) (fun e => hn (by rw [e]; simp)), fun r hr => .inl hr⟩⟩
  · rcases mem_putM hp with rfl | ⟨hp, hk⟩
    · exact hn.kept (fun r hr => hblk r (fun e => h.offn.1 (by rw [← e]; exact hr)) (fun e => h.offn.2 (by rw [← e]; exact hr)))
    · exact (h.node p hp hk).kept (fun r hr => hblk r (fun e => (h.off p hp hk).1 (by rw [← e]; exact hr)) (fun e => (h.off p hp hk).2 (by rw [← e]; exact hr)))
  · rcases mem_putM hp with rfl | ⟨hp, hk⟩
    · rcases mem_putM hq with rfl | ⟨hq, hk'⟩
      · exact absurd rfl hpq
      · exact h.new q hq hk'
    · rcases mem_putM hq with rfl | ⟨hq, hk'⟩
      · exact fun r hr hr' => h.new p hp hk r hr' hr
      · exact h.pair p hp q hq hk hk' hpq
  · rcases mem_putM hp with rfl | ⟨hp, hk⟩
    · exact h.offn
    · exact h.off p hp hk

/-- What a stripe's method says: what stands, and that no other thing turned. -/
def SSays (w : World) (T M : Nat) (c : Cfg) (es : List (KO × NE)) (rs rh : Nat) (v : Value) (ver' : Nat) (l' : List (KO × Nd)) (e : Ending) (w' : World) : Prop :=
  ∃ es', e = .returned v ∧ SAt w' T M c ver' es' rs rh ∧ ab es' = l' ∧ Upd w w' (sfp T M es) (sfp T M es')
theorem mem_mfpE {es : List (KO × NE)} {r : Nat} : r ∈ mfpE es ↔ ∃ p ∈ es, r ∈ mfp p.2.2.1 p.2.2.2 := by
  simp [mfpE, List.mem_flatMap]
/-- Both steps: a node turned, and was kept. -/
theorem upd_keep {w w3 w' : World} {T M : Nat} {es : List (KO × NE)} {k : KO} {N : Nat} {y : Nd} {mf fq : List Nat} (h1 : Upd w w3 mf fq) (h2 : Upd w3 w' [T, M] [T, M]) (hm : ∀ r ∈ mf, r ∈ mfpE es) : Upd w w' (sfp T M es) (sfp T M (putM es k (N, y, fq))) := by
  refine ⟨h2.os.trans h1.os, h2.tape.trans h1.tape, h2.output.trans h1.output, Nat.le_trans h1.size h2.size, fun r hr hn => ?_, fun r hr => ?_⟩
  · refine (h2.block r (Nat.lt_of_lt_of_le hr h1.size) (fun hk => hn ?_)).trans (h1.block r hr (fun hk => hn ?_))
    · simp only [List.mem_cons, List.not_mem_nil, or_false] at hk
      simp only [sfp, List.mem_cons]
      rcases hk with rfl | rfl
      · exact .inl rfl
      · exact .inr (.inl rfl)
    · simp only [sfp, List.mem_cons]
      exact .inr (.inr (hm r hk))
  · simp only [sfp, List.mem_cons] at hr ⊢
    rcases hr with rfl | rfl | hr
    · exact .inl (.inl rfl)
    · exact .inl (.inr (.inl rfl))
    · obtain ⟨p, hp, hr⟩ := mem_mfpE.1 hr
      rcases mem_putM hp with rfl | ⟨hp, hk⟩
      · rcases h1.fresh r (mfp_sub _ _ r hr) with h | h
        · exact .inl (.inr (.inr (hm r h)))
        · exact .inr h
      · exact .inl (.inr (.inr (mem_mfpE.2 ⟨p, hp, hr⟩)))
theorem SSays.of_below {w w' : World} {T M : Nat} {c : Cfg} {ver : Nat} {es : List (KO × NE)} {rs rh : Nat} (v : Value) (h : SAt w T M c ver es rs rh) (hb : Below w.heap.size w w') : SSays w T M c es rs rh v ver (ab es) (.returned v) w' :=
  ⟨es, rfl, h.below hb, rfl, Upd.of_below hb _⟩
theorem SSays.pre {w w1 w' : World} {T M : Nat} {c : Cfg} {es : List (KO × NE)} {rs rh : Nat} {v : Value} {ver' : Nat} {l' : List (KO × Nd)} {e : Ending} (hb : Below w.heap.size w w1) (h : SSays w1 T M c es rs rh v ver' l' e w') : SSays w T M c es rs rh v ver' l' e w' := by
  obtain ⟨es', h1, h2, h3, h4⟩ := h
  exact ⟨es', h1, h2, h3, (Upd.of_below hb _).trans h4⟩
end

section
set_option linter.unusedSimpArgs false
set_option linter.unusedVariables false
open Go.RowKit Go.Lib Go.Sort
open Go.ChangeMaps (setBlock)

theorem look_es {w : World} {M : Nat} {es : List (KO × NE)} (h : MapIn koV neV w M es) (x : KO) (c : Bool) :
    (Instr.lookup 118 (.map (some M)) (.agg #[.int .u64 x.1.1, .int .u64 x.1.2]) c).run Try.prog w = .ok (if c then .tuple #[((findM es x).map neV).getD (.pointer none), .bool (hasM es x)] else ((findM es x).map neV).getD (.pointer none)) w :=
  MapIn.look (V := neV) h keysBy Try.underlying118 (Try.zeroValue81 w) c x
theorem store_es {w : World} {M : Nat} {es : List (KO × NE)} (h : MapIn koV neV w M es) (x : KO) (b : NE) :
    ∃ o, (Instr.mapUpdate 118 (.map (some M)) (.agg #[.int .u64 x.1.1, .int .u64 x.1.2]) (.pointer (some ⟨b.1, 0, none⟩))).run Try.prog w = .ok () (setBlock w M o) ∧ MapIn koV neV (setBlock w M o) M (putM es x b) :=
  MapIn.store (V := neV) h keysBy Try.underlying118 x b
theorem none_has {es : List (KO × NE)} {k : KO} (h : findM es k = none) : hasM es k = false := by
  cases hh : hasM es k with
  | false => rfl
  | true => obtain ⟨v, hv, _⟩ := findM_some hh; rw [hv] at h; cases h
theorem SAt.cells {w : World} {T M : Nat} {c : Cfg} {ver : Nat} {es : List (KO × NE)} {rs rh : Nat} (h : SAt w T M c ver es rs rh) {j : Nat} {v : Value}
    (e : (#[.map (some M), .int .i64 c.st, .int .i64 c.sa, .int .i64 c.lo, .int .i64 c.hi, .int .i64 (ver : Nat)] : Array Value)[j]? = some v) : ∀ W, Below w.heap.size w W → W.cell? ⟨T, j, none⟩ = some v := fun W hW =>
  (hW.cell (p := ⟨T, j, none⟩) h.ltT).trans (by simp only [World.cell?, h.cell]; exact e)

set_option maxRecDepth 100000 in
set_option maxHeartbeats 4000000 in
theorem room_some (T M : Nat) (c : Cfg) (ver : Nat) (es : List (KO × NE)) (rs rh : Nat) (k : KO) (b : NE) (w : World) (h : SAt w T M c ver es rs rh) (hb : findM es k = some b) :
    Calls Try.prog 101 #[.pointer (some ⟨T, 0, none⟩), .agg #[.int .u64 k.1.1, .int .u64 k.1.2]] w fun e w' => e = .returned (.tuple #[.pointer (some ⟨b.1, 0, none⟩), .int .i64 0]) ∧ Below w.heap.size w w' := by
  have r1 := h.cells (j := 0) rfl
  have r4 : ∀ n, (Instr.lookup 118 (.map (some M)) (.agg #[.int .u64 k.1.1, .int .u64 k.1.2]) true).run Try.prog ((w.alloc (.cells #[.int .u64 k.1.1, .int .u64 k.1.2] 32)).drewN n) = .ok (.tuple #[.pointer (some ⟨b.1, 0, none⟩), .bool true]) ((w.alloc (.cells #[.int .u64 k.1.1, .int .u64 k.1.2] 32)).drewN n) := fun n => by
    have := look_es ((h.below (below_drewN (balloc (Below.refl _ _) (.cells #[.int .u64 k.1.1, .int .u64 k.1.2] 32)) n)).map) k true
    simpa [hb, find_has hb, neV] using this
  have hlt := h.ltT
  clear h hb
  go_enter Try.func101, Try.ntmps101
  go_wp2_with fail
  go_quiet (fail)
  go_wp2
  exact bodyPost_ret (v := .tuple #[.pointer (some ⟨b.1, 0, none⟩), .int .i64 0]) (by simp [results, Try.results101, go_sem]) rfl ⟨rfl, below_drewN (balloc (Below.refl _ _) _) _⟩

set_option maxRecDepth 100000 in
set_option maxHeartbeats 4000000 in
theorem room_full (T M : Nat) (c : Cfg) (ver : Nat) (es : List (KO × NE)) (rs rh : Nat) (k : KO) (w : World) (h : SAt w T M c ver es rs rh) (hb : findM es k = none) (hl : c.lo ≤ (es.length : Nat)) :
    Calls Try.prog 101 #[.pointer (some ⟨T, 0, none⟩), .agg #[.int .u64 k.1.1, .int .u64 k.1.2]] w fun e w' => e = .returned (.tuple #[.pointer none, .int .i64 6]) ∧ Below w.heap.size w w' := by
  have r1 := h.cells (j := 0) rfl
  have r2 := h.cells (j := 3) rfl
  have r4 : ∀ n, (Instr.lookup 118 (.map (some M)) (.agg #[.int .u64 k.1.1, .int .u64 k.1.2]) true).run Try.prog ((w.alloc (.cells #[.int .u64 k.1.1, .int .u64 k.1.2] 32)).drewN n) = .ok (.tuple #[.pointer none, .bool false]) ((w.alloc (.cells #[.int .u64 k.1.1, .int .u64 k.1.2] 32)).drewN n) := fun n => by
    have := look_es ((h.below (below_drewN (balloc (Below.refl _ _) (.cells #[.int .u64 k.1.1, .int .u64 k.1.2] 32)) n)).map) k true
    simpa [hb, none_has hb] using this
  have H := Lib.hid h
  have hlt := h.ltT
  clear h hb
  go_enter Try.func101, Try.ntmps101
  go_wp2_with fail
  go_quiet (fail)
  obtain ⟨W1, hW1⟩ : ∃ W1 : World, W1 = (w.alloc (.cells #[.int .u64 k.1.1, .int .u64 k.1.2] 32)).drewN nq := ⟨_, rfl⟩
  rw [← hW1]
  have hb1 : Below w.heap.size w W1 := by rw [hW1]; exact below_drewN (balloc (Below.refl _ _) _) _
  have h1 := H.out.below hb1
  have s1 := h1.cells (j := 0) rfl
  have s2 := h1.cells (j := 3) rfl
  have r5 : ∀ n ty, (Builtin.len_ #[118] ty #[.map (some M)]).run Try.prog (W1.drewN n) = .ok (.int .i64 es.length) (W1.drewN n) := fun n ty => MapIn.len (h1.map.below (below_drewN (Below.refl _ _) n)) Try.underlying118 ty
  have hlt1 := h1.ltT
  have HB1 := Lib.hid hb1
  clear hW1 h1 r1 r2 r4 hb1
  go_wp2_with fail
  go_quiet (fail)
  go_wp2
  exact bodyPost_ret (v := .tuple #[.pointer none, .int .i64 6]) (by simp [results, Try.results101, go_sem]) rfl ⟨rfl, below_drewN HB1.out _⟩

set_option maxRecDepth 100000 in
set_option maxHeartbeats 4000000 in
theorem room_new (T M : Nat) (c : Cfg) (ver : Nat) (es : List (KO × NE)) (rs rh : Nat) (k : KO) (w : World) (h : SAt w T M c ver es rs rh) (hb : findM es k = none) (hl : ¬ c.lo ≤ (es.length : Nat)) (hc : cfgB c = true) (hrs : c.sa = (rs : Nat)) (hrh : c.hi = (rh : Nat)) (hok : c.ok) :
    Calls Try.prog 101 #[.pointer (some ⟨T, 0, none⟩), .agg #[.int .u64 k.1.1, .int .u64 k.1.2]] w (NdSays w nd0 rs rh [] (fun q => .tuple #[q, .int .i64 0])) := by
  have r1 := h.cells (j := 0) rfl
  have r2 := h.cells (j := 3) rfl
  have r4 : ∀ n, (Instr.lookup 118 (.map (some M)) (.agg #[.int .u64 k.1.1, .int .u64 k.1.2]) true).run Try.prog ((w.alloc (.cells #[.int .u64 k.1.1, .int .u64 k.1.2] 32)).drewN n) = .ok (.tuple #[.pointer none, .bool false]) ((w.alloc (.cells #[.int .u64 k.1.1, .int .u64 k.1.2] 32)).drewN n) := fun n => by
    have := look_es ((h.below (below_drewN (balloc (Below.refl _ _) (.cells #[.int .u64 k.1.1, .int .u64 k.1.2] 32)) n)).map) k true
    simpa [hb, none_has hb] using this
  have H := Lib.hid h
  have HNN := Lib.hid (fun W => nodeNew_any c rs rh W hc hrs hrh hok)
  obtain ⟨st, sa, lo, hi⟩ := c
  unfold cfgV at HNN
  dsimp only at HNN hl r2
  have hlt := h.ltT
  clear h hb hc hrs hrh hok
  go_enter Try.func101, Try.ntmps101
  go_wp2_with fail
  go_quiet (fail)
  obtain ⟨W1, hW1⟩ : ∃ W1 : World, W1 = (w.alloc (.cells #[.int .u64 k.1.1, .int .u64 k.1.2] 32)).drewN nq := ⟨_, rfl⟩
  rw [← hW1]
  have hb1 : Below w.heap.size w W1 := by rw [hW1]; exact below_drewN (balloc (Below.refl _ _) _) _
  have h1 := H.out.below hb1
  have s1 := h1.cells (j := 0) rfl
  have s2 := h1.cells (j := 3) rfl
  have r5 : ∀ n ty, (Builtin.len_ #[118] ty #[.map (some M)]).run Try.prog (W1.drewN n) = .ok (.int .i64 es.length) (W1.drewN n) := fun n ty => MapIn.len (h1.map.below (below_drewN (Below.refl _ _) n)) Try.underlying118 ty
  have hlt1 := h1.ltT
  have HB1 := Lib.hid hb1
  have H1 := Lib.hid h1
  clear hW1 h1 r1 r2 r4 hb1
  go_wp2_with fail
  go_quiet (fail)
  obtain ⟨W2, hW2⟩ : ∃ W2 : World, W2 = W1.drewN nq := ⟨_, rfl⟩
  rw [← hW2]
  have hb2 : Below W1.heap.size W1 W2 := by rw [hW2]; exact below_drewN (Below.refl _ _) _
  have h2 := H1.out.below hb2
  have t1 := h2.cells (j := 1) rfl W2 (Below.refl _ _)
  have t2 := h2.cells (j := 2) rfl W2 (Below.refl _ _)
  have t3 := h2.cells (j := 3) rfl W2 (Below.refl _ _)
  have t4 := h2.cells (j := 4) rfl W2 (Below.refl _ _)
  have hlt2 := h2.ltT
  have HB2 := Lib.hid (bthen HB1.out hb2)
  clear hW2 h2 s1 s2 r5 hb2
  go_wp2_with (go_at_call 41; refine (HNN.out W2).mono ?_; rintro e w3 ⟨N, fq, rfl, h1, h2, h3⟩)
  refine bodyPost_ret (v := .tuple #[.pointer (some ⟨N, 0, none⟩), .int .i64 0]) (by simp [results, Try.results101, go_sem]) rfl ?_
  have hb3 : Below w.heap.size w w3 := bthen HB2.out h3
  exact ⟨N, fq, rfl, h1, hb3.os, hb3.tape, hb3.output, hb3.size, fun r hr _ => hb3.block r hr, fun r hr => .inr (by have := h2 r hr; have := HB2.out.size; omega)⟩

set_option maxRecDepth 100000 in
set_option maxHeartbeats 4000000 in
theorem keep_any (T M : Nat) (c : Cfg) (ver : Nat) (es : List (KO × NE)) (rs rh : Nat) (k : KO) (N : Nat) (y : Nd) (fq : List Nat) (w : World) (h : SHole w T M c ver es rs rh k fq) (hn : NodeIn w N y rs rh fq) (hv : ver ≤ 1000000) :
    Calls Try.prog 102 #[.pointer (some ⟨T, 0, none⟩), .agg #[.int .u64 k.1.1, .int .u64 k.1.2], .pointer (some ⟨N, 0, none⟩)] w fun e w' => e = .returned (.tuple #[]) ∧ SAt w' T M c (ver + 1) (putM es k (N, y, fq)) rs rh ∧ Upd w w' [T, M] [T, M] := by
  have hw : IntKind.i64.wrap ((ver : Int) + 1) = ((ver + 1 : Nat) : Int) := by rw [IntKind.wrap_i64]; omega
  have hlt : T < w.heap.size := (Array.getElem?_eq_some_iff.1 h.cell).1
  have H := Lib.hid h
  have HN := Lib.hid hn
  have hne := h.ne
  clear h hn
  go_enter Try.func102, Try.ntmps102
  go_wp2_with fail
  refine name_world ?_
  intro W hW
  have hb1 : Below w.heap.size w W := by rw [hW]; exact balloc (Below.refl _ _) _
  have hx1 : W.heap[w.heap.size]? = some (.cells #[.int .u64 k.1.1, .int .u64 k.1.2] 32 (0, 0)) := by rw [hW]; exact heap_alloc_new _ _
  have a1 : W.cell? ⟨w.heap.size, 0, none⟩ = some (.int .u64 k.1.1) := by simp [World.cell?, hx1]
  have a2 : W.cell? ⟨w.heap.size, 1, none⟩ = some (.int .u64 k.1.2) := by simp [World.cell?, hx1]
  have h1 := H.out.below hb1
  have hltW : T < W.heap.size := (Array.getElem?_eq_some_iff.1 h1.cell).1
  have z0 : W.cell? ⟨T, 0, none⟩ = some (.map (some M)) := by simp only [World.cell?, h1.cell]; rfl
  obtain ⟨o5, hs5, hset5⟩ := store_es (w := W.drew) (M := M) (h1.map.below ((Below.refl _ W).drew)) k (N, y, fq)
  dsimp only at hs5
  have hd := (h1.below ((Below.refl _ W).drew)).keep (o := o5) (HN.out.below (hb1.drew)) hset5
  have hcT : (setBlock W.drew M o5).heap[T]? = _ := (setBlock_other (o := o5) hne).trans (h1.below ((Below.refl _ W).drew)).cell
  have HD := Lib.hid hd
  have HT := Lib.hid hcT
  have HB1 := Lib.hid hb1
  clear hW hset5 h1 hd hcT hx1
  go_region
  obtain ⟨W2, hW2⟩ : ∃ W2 : World, W2 = setBlock W.drew M o5 := ⟨_, rfl⟩
  rw [← hW2]
  rw [← hW2] at HD HT
  have y0 : W2.cell? ⟨T, 5, none⟩ = some (.int .i64 (ver : Nat)) := by simp only [World.cell?, HT.out]; rfl
  have y1 : W2.frozen? ⟨T, 5, none⟩ = false := plain_cells HT.out
  have y2 : T < W2.heap.size := (Array.getElem?_eq_some_iff.1 HT.out).1
  clear hW2 z0 a1 a2 hs5
  go_wp2
  go_end0
  refine ⟨rfl, HD.out.1, ?_⟩
  exact (Upd.of_below (HB1.out.drew) _).trans HD.out.2
end

section
set_option linter.unusedSimpArgs false
set_option linter.unusedVariables false
open Go.RowKit Go.Lib Go.Sort
open Go.ChangeMaps (setBlock)

def ndOf (l : List (KO × Nd)) (k : KO) : Nd := (findM l k).getD nd0
/-- What Ingest comes to: an error, the version, the workloads. -/
def ingR (c : Cfg) (rs : Nat) (ver : Nat) (l : List (KO × Nd)) (k : KO) (s : Smp) : Int × Nat × List (KO × Nd) :=
  if serE s.1 s.2 = 0 then (if hasM l k = false ∧ c.lo ≤ (l.length : Nat) then (6, ver, l) else (0, ver + 1, putM l k { bump (ndOf l k) with smp := putS (ndOf l k).smp (rs : Nat) s })) else (serE s.1 s.2, ver, l)
theorem ser0 {s : Smp} (h : serE s.1 s.2 = 0) : 0 ≤ s.1 ∧ 0 ≤ s.2 := by
  unfold serE at h
  split at h
  · cases h
  · split at h
    · cases h
    · omega

/-- The room was there: what stands at the key, to be changed, and what is known of it. -/
theorem made_world {w w4 w' : World} {T M : Nat} {c : Cfg} {es : List (KO × NE)} {rs rh ver : Nat} {k : KO} {N : Nat} {y : Nd} {mf fq : List Nat} {v : Value}
    (hu : Upd w w4 mf fq) (hm : ∀ r ∈ mf, r ∈ mfpE es) (hs : SAt w' T M c ver (putM es k (N, y, fq)) rs rh) (hk : Upd w4 w' [T, M] [T, M]) :
    SSays w T M c es rs rh v ver (putM (ab es) k y) (.returned v) w' :=
  ⟨_, rfl, hs, ab_putM .., upd_keep hu hk hm⟩

set_option maxRecDepth 100000 in
set_option maxHeartbeats 4000000 in
theorem singest_bad (T M : Nat) (c : Cfg) (ver : Nat) (es : List (KO × NE)) (rs rh : Nat) (k : KO) (s : Smp) (w : World) (h : SAt w T M c ver es rs rh) (hs : serE s.1 s.2 ≠ 0) :
    Calls Try.prog 64 #[.pointer (some ⟨T, 0, none⟩), .agg #[.int .u64 k.1.1, .int .u64 k.1.2], .int .i64 s.1, .int .i64 s.2] w (SSays w T M c es rs rh (.int .i64 (serE s.1 s.2)) ver (ab es)) := by
  have HE := Lib.hid (fun w' => SSays.of_below (w' := w') (.int .i64 (serE s.1 s.2)) h)
  have HR := Lib.hid (seriesRight_any s.1 s.2)
  have hn : (serE s.1 s.2 != 0) = true := by simpa using hs
  generalize serE s.1 s.2 = r at hs hn HR HE ⊢
  clear h
  go_enter Try.func64, Try.ntmps64
  go_wp2_with (go_at_call 79; refine (HR.out _).mono ?_; rintro e w1 ⟨rfl, rfl⟩)
  go_ret
  exact HE.out _ (balloc (Below.refl _ _) _)

set_option maxRecDepth 100000 in
set_option maxHeartbeats 4000000 in
theorem singest_full (T M : Nat) (c : Cfg) (ver : Nat) (es : List (KO × NE)) (rs rh : Nat) (k : KO) (s : Smp) (w : World) (h : SAt w T M c ver es rs rh) (hs : serE s.1 s.2 = 0) (hb : findM es k = none) (hl : c.lo ≤ (es.length : Nat)) :
    Calls Try.prog 64 #[.pointer (some ⟨T, 0, none⟩), .agg #[.int .u64 k.1.1, .int .u64 k.1.2], .int .i64 s.1, .int .i64 s.2] w (SSays w T M c es rs rh (.int .i64 6) ver (ab es)) := by
  have HE := Lib.hid (fun w' => SSays.of_below (w' := w') (.int .i64 6) h)
  have H := Lib.hid h
  have HS := Lib.hid hs
  have HB := Lib.hid hb
  have HL := Lib.hid hl
  clear h hs hb hl
  go_enter Try.func64, Try.ntmps64
  go_wp2_with (first
    | (go_at_call 79; refine (seriesRight_any _ _ _).mono ?_; rw [HS.out]; rintro e w1 ⟨rfl, rfl⟩)
    | (go_at_call 74
       refine calls_named ?_
       intro W1 hW1
       have hb1 : Below w.heap.size w W1 := by rw [hW1]; exact balloc (Below.refl _ _) _
       have hx1 : W1.heap[w.heap.size]? = some (.cells #[.int .u64 k.1.1, .int .u64 k.1.2] 32 (0, 0)) := by rw [hW1]; exact heap_alloc_new _ _
       clear hW1
       refine (smade_any T c ver es rs rh _ W1 ((H.out.below hb1).in_)).mono ?_
       rintro e w2 ⟨rfl, hb2⟩
       obtain ⟨a1, a2, a3⟩ := box_cells hb2 hx1
       have HB2 := Lib.hid (bthen hb1 hb2)
       clear hb1 hb2 hx1)
    | (go_at_call 101
       refine (room_full T M c ver es rs rh k w2 (H.out.below HB2.out) HB.out HL.out).mono ?_
       rintro e w3 ⟨rfl, hb3⟩
       have HB3 := Lib.hid (bthen HB2.out hb3)
       clear hb3))
  go_ret
  exact HE.out _ HB3.out

/-- What both arms of room lead to. -/
def GotS (w w3 : World) (T M : Nat) (c : Cfg) (ver : Nat) (es : List (KO × NE)) (rs rh : Nat) (k : KO) (N : Nat) (x : Nd) (fq : List Nat) : Prop :=
  NodeIn w3 N x rs rh fq ∧ x = ndOf (ab es) k ∧ (∀ w4 fr, Upd w3 w4 (mfp x fq) fr → SHole w4 T M c ver es rs rh k fr ∧ ∃ mf, Upd w w4 mf fr ∧ ∀ r ∈ mf, r ∈ mfpE es)
theorem got_some {w w3 : World} {T M : Nat} {c : Cfg} {ver : Nat} {es : List (KO × NE)} {rs rh : Nat} {k : KO} {b : NE} (h : SAt w T M c ver es rs rh) (hb : findM es k = some b) (hw : Below w.heap.size w w3) : GotS w w3 T M c ver es rs rh k b.1 b.2.1 b.2.2 := by
  have hm := find_mem hb
  refine ⟨(h.node _ hm).below hw, by simp [ndOf, ab_find, hb], fun w4 fr hu => ?_⟩
  refine ⟨(h.below hw).hole hm hu, mfp b.2.1 b.2.2, ⟨hu.os.trans hw.os, hu.tape.trans hw.tape, hu.output.trans hw.output, Nat.le_trans hw.size hu.size, fun r hr hn => (hu.block r (Nat.lt_of_lt_of_le hr hw.size) hn).trans (hw.block r hr), fun r hr => (hu.fresh r hr).imp id (fun h' => Nat.le_trans hw.size h')⟩, fun r hr => mem_mfpE.2 ⟨_, hm, hr⟩⟩
theorem got_new {w w3 : World} {T M : Nat} {c : Cfg} {ver : Nat} {es : List (KO × NE)} {rs rh : Nat} {k : KO} {N : Nat} {fq : List Nat} (h : SAt w T M c ver es rs rh) (hb : findM es k = none) (hn : NodeIn w3 N nd0 rs rh fq) (hu0 : Upd w w3 [] fq) : GotS w w3 T M c ver es rs rh k N nd0 fq := by
  refine ⟨hn, by simp [ndOf, ab_find, hb], fun w4 fr hu => ?_⟩
  have hf : ∀ r ∈ fq, w.heap.size ≤ r := fun r hr => (hu0.fresh r hr).elim (fun h => by cases h) id
  have hfr : ∀ r ∈ fr, w.heap.size ≤ r := fun r hr => (hu.fresh r hr).elim (fun h => hf r (mfp_sub _ _ r h)) (fun h => Nat.le_trans hu0.size h)
  have hb2 : Below w.heap.size w w4 := (hu0.below (Nat.le_refl _) (fun _ h => by cases h)).trans (hu.below hu0.size (fun r hr => hf r (mfp_sub _ _ r hr)))
  exact ⟨h.hole_new hb2 hfr, [], ⟨hb2.os, hb2.tape, hb2.output, hb2.size, fun r hr _ => hb2.block r hr, fun r hr => .inr (hfr r hr)⟩, fun _ h => by cases h⟩
theorem room_any (T M : Nat) (c : Cfg) (ver : Nat) (es : List (KO × NE)) (rs rh : Nat) (k : KO) (w0 w : World) (h0 : SAt w0 T M c ver es rs rh) (hb : Below w0.heap.size w0 w) (hl : ¬ (hasM es k = false ∧ c.lo ≤ (es.length : Nat))) (hc : cfgB c = true) (hrs : c.sa = (rs : Nat)) (hrh : c.hi = (rh : Nat)) (hok : c.ok) :
    Calls Try.prog 101 #[.pointer (some ⟨T, 0, none⟩), .agg #[.int .u64 k.1.1, .int .u64 k.1.2]] w fun e w' => ∃ N x fq, e = .returned (.tuple #[.pointer (some ⟨N, 0, none⟩), .int .i64 0]) ∧ GotS w0 w' T M c ver es rs rh k N x fq ∧ (∀ r ∈ fq, r < w0.heap.size ∨ w.heap.size ≤ r) ∧ Below w.heap.size w w' := by
  have h := h0.below hb
  cases hf : findM es k with
  | some b =>
    refine (room_some T M c ver es rs rh k b w h hf).mono ?_
    rintro e w' ⟨rfl, hb'⟩
    exact ⟨b.1, b.2.1, b.2.2, rfl, got_some h0 hf (bthen hb hb'), fun r hr => .inl ((h0.node _ (find_mem hf)).lt r hr), hb'⟩
  | none =>
    refine (room_new T M c ver es rs rh k w h hf (fun hl' => hl ⟨none_has hf, hl'⟩) hc hrs hrh hok).mono ?_
    rintro e w' ⟨N, fq, rfl, h1, h2⟩
    have hu : Upd w0 w' [] fq := ⟨h2.os.trans hb.os, h2.tape.trans hb.tape, h2.output.trans hb.output, Nat.le_trans hb.size h2.size, fun r hr hn => (h2.block r (Nat.lt_of_lt_of_le hr hb.size) hn).trans (hb.block r hr), fun r hr => (h2.fresh r hr).imp id (fun h' => Nat.le_trans hb.size h')⟩
    exact ⟨N, nd0, fq, rfl, got_new h0 hf h1 hu, fun r hr => (h2.fresh r hr).elim (fun h => by cases h) .inr, h2.below (Nat.le_refl _) (fun _ h => by cases h)⟩

theorem upd_cell {w w' : World} {fp fp' : List Nat} (h : Upd w w' fp fp') {B : Nat} {cs : Array Value} {t : TypeId} (hB : w.heap[B]? = some (.cells cs t (0, 0))) (hn : B ∉ fp) : w'.heap[B]? = some (.cells cs t (0, 0)) :=
  (h.block B (Array.getElem?_eq_some_iff.1 hB).1 hn).trans hB

set_option maxRecDepth 100000 in
set_option maxHeartbeats 4000000 in
theorem singest_ok (T M : Nat) (c : Cfg) (ver : Nat) (es : List (KO × NE)) (rs rh : Nat) (k : KO) (s : Smp) (w : World) (h : SAt w T M c ver es rs rh) (hs : serE s.1 s.2 = 0) (hl : ¬ (hasM es k = false ∧ c.lo ≤ (es.length : Nat))) (hc : cfgB c = true) (hrs : c.sa = (rs : Nat)) (hrh : c.hi = (rh : Nat)) (hok : c.ok)
    (hv : ver ≤ 1000000) (hvn : ∀ p ∈ ab es, p.2.ver ≤ 1000000) :
    Calls Try.prog 64 #[.pointer (some ⟨T, 0, none⟩), .agg #[.int .u64 k.1.1, .int .u64 k.1.2], .int .i64 s.1, .int .i64 s.2] w (SSays w T M c es rs rh (.int .i64 0) (ver + 1) (putM (ab es) k { bump (ndOf (ab es) k) with smp := putS (ndOf (ab es) k).smp (rs : Nat) s })) := by
  have hb0 : 1 ≤ rs ∧ rs ≤ 256 ∧ rh ≤ 64 := by
    unfold cfgB at hc
    simp only [Bool.and_eq_true, decide_eq_true_eq] at hc
    omega
  have hvx : (ndOf (ab es) k).ver ≤ 1000000 := by
    unfold ndOf
    cases hf : findM (ab es) k with
    | none => simp [nd0]
    | some x => exact hvn _ (find_mem hf)
  have H := Lib.hid h
  have HS := Lib.hid hs
  have HRoom := Lib.hid (fun (W : World) (hb : Below w.heap.size w W) => room_any T M c ver es rs rh k w W h hb hl hc hrs hrh hok)
  have HVX := Lib.hid hvx
  have HV := Lib.hid hv
  clear h hs hl hc hrs hrh hok hvn hvx hv
  go_enter Try.func64, Try.ntmps64
  go_wp2_with (first
    | (go_at_call 79; refine (seriesRight_any _ _ _).mono ?_; rw [HS.out]; rintro e w1 ⟨rfl, rfl⟩)
    | (go_at_call 74
       refine calls_named ?_
       intro W1 hW1
       have hb1 : Below w.heap.size w W1 := by rw [hW1]; exact balloc (Below.refl _ _) _
       have hx1 : W1.heap[w.heap.size]? = some (.cells #[.int .u64 k.1.1, .int .u64 k.1.2] 32 (0, 0)) := by rw [hW1]; exact heap_alloc_new _ _
       clear hW1
       refine (smade_any T c ver es rs rh _ W1 ((H.out.below hb1).in_)).mono ?_
       rintro e w2 ⟨rfl, hb2⟩
       obtain ⟨a1, a2, a3, a4⟩ := box_at hb2 hx1
       have HX2 := Lib.hid a4
       have HB2 := Lib.hid (bthen hb1 hb2)
       clear hb1 hb2 hx1 a4)
    | (go_at_call 101
       refine (HRoom.out w2 HB2.out).mono ?_
       rintro e w3 ⟨N, x, fq, rfl, hg, hfq, hb3⟩
       obtain ⟨b1, b2, b3, b4⟩ := box_at hb3 HX2.out
       have hnb : w.heap.size ∉ fq := fun hr => by have := (Array.getElem?_eq_some_iff.1 HX2.out).1; rcases hfq _ hr with h' | h' <;> omega
       have HX3 := Lib.hid (And.intro b4 hnb)
       have HG := Lib.hid hg
       clear hg hb3 b4 hfq hnb)
    | (go_at_call 42
       refine (nodePut_any N x rs rh fq s w3 HG.out.1 hb0.1 hb0.2.1 hb0.2.2 (by rw [HG.out.2.1]; exact HVX.out) (ser0 HS.out).1 (ser0 HS.out).2).mono ?_
       rintro e w4 ⟨N4, fr, rfl, hn4, hu4⟩
       have hhole := HG.out.2.2 w4 fr hu4
       have hbox : w4.heap[w.heap.size]? = _ := upd_cell hu4 HX3.out.1 (fun hr => HX3.out.2 (mfp_sub _ _ _ hr))
       obtain ⟨c1, c2, c3⟩ := box_cells (Below.refl _ _) hbox
       have HN4 := Lib.hid hn4
       have HH := Lib.hid hhole
       clear hn4 hu4 hhole hbox)
    | (go_at_call 102
       obtain ⟨hH, mf, hU, hmf⟩ := HH.out
       refine (keep_any T M c ver es rs rh k N4 _ fr w4 hH HN4.out HV.out).mono ?_
       rintro e w5 ⟨rfl, h5, hu5⟩
       have HF := Lib.hid (made_world (v := .int .i64 0) hU hmf h5 hu5)
       clear h5 hu5))
  go_ret
  have hf := HF.out
  rw [HG.out.2.1] at hf
  exact hf
end

end Go.Proofs.Ytfnabpmdjfejbaa
