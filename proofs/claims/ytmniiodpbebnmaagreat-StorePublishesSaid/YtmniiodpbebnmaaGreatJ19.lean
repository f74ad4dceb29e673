/- maps.Keys, slices.SortedFunc, workq's rising; Waiting, Busy, Dirty; a stripe's Keys and Len. -/
import Derived.Test.YtmniiodpbebnmaaGreatJ16
import Derived.Test.YtmniiodpbebnmaaGreatJ18
import Derived.Test.YtmniiodpbebnmaaGreatJ05
import Derived.Sort.MapsRangeIn
import Derived.RangeFuncSeq
namespace Go.Proofs.YtmniiodpbebnmaaGreat

section
set_option linter.unusedSimpArgs false
set_option linter.unusedVariables false
open Go.RowKit Go.Lib Go.Shelf
attribute [local go_sem] Oper.semAt_some

section
variable {F : Fence} {nF : Nat} {P : Program} {ops : Array Oper} {rest : List Oper} {o : Oper} {a : Act} {w : World} {Q : Exit → Act → World → Prop}
variable {α β : Type} [DecidableEq α] {K : α → Value} {V : β → Value} {b r : Nat} {es pre : List (α × β)} {cnt : Nat}

theorem wpListIn_rangeM (hg : o.guard = none) (m : Operand) (t : TypeId) (hop : o.op = Op.range t m) (k e : TypeId) (ht : P.underlying t = some (.map k e)) (hm : a.eval m = .map (some b)) (hown : MapIn K V w b es)
    (hK : ∀ w', RangeIn K V w' b w.heap.size es [] es.length → w.grownBy w' none → w'.heap.size = w.heap.size + 1 → wpListIn F nF P ops Q rest (a.put o.dst (.pointer (some ⟨w.heap.size, 0, none⟩))) w') :
    wpListIn F nF P ops Q (o :: rest) a w := by
  refine wpListIn_plain hg fun K' hK' => ?_
  obtain ⟨w', hrun, r1, r2, r3⟩ := MapIn.range hown ht
  unfold Oper.wpIn
  refine ⟨?_, ?_⟩
  · simp [Oper.about, hop]
  · rw [Oper.semAt_plain F _ _ (by rw [hop]; intro c hc'; cases hc')]
    simp [execOp, hop, hm, hrun, Result.andThen]
    exact hK' _ _ (hK w' r1 r2 r3)

theorem wpListIn_nextM (hg : o.guard = none) (it : Operand) (hop : o.op = Op.next it false) (inj : ∀ x y, K x = K y → x = y) (hit : a.eval it = .pointer (some ⟨r, 0, none⟩)) (h : RangeIn K V w b r es pre cnt)
    (hDone : cnt = 0 → (pre.map (·.1)).Perm (es.map (·.1)) → wpListIn F nF P ops Q rest (a.put o.dst (.tuple #[.bool false])) w)
    (hMore : ∀ (p : α × β) (w' : World) (cnt' : Nat), p ∈ es → p.1 ∉ pre.map (·.1) → RangeIn K V w' b r es (pre ++ [p]) cnt' → cnt' < cnt → w.grownBy w' (some r) → w'.heap.size = w.heap.size →
      (Instr.entry (.pointer (some ⟨r, 0, none⟩))).run P w' = .ok (.tuple #[K p.1, V p.2]) w' → wpListIn F nF P ops Q rest (a.put o.dst (.tuple #[.bool true, K p.1, V p.2])) w') :
    wpListIn F nF P ops Q (o :: rest) a w := by
  refine wpListIn_plain hg fun K' hK' => ?_
  unfold Oper.wpIn
  refine ⟨by simp [Oper.about, hop], ?_⟩
  rw [Oper.semAt_plain F _ _ (by rw [hop]; intro c hc'; cases hc')]
  rcases h.next (P := P) inj o.type with ⟨h0, hl, hrun⟩ | ⟨p, w', cnt', h1, h2, hrun, hrg, hlt, hgr, hsz, hen⟩
  · simp [execOp, hop, hit, hrun, Result.andThen]
    exact hK' _ _ (hDone h0 hl)
  · simp [execOp, hop, hit, hrun, Result.andThen]
    exact hK' _ _ (hMore p w' cnt' h1 h2 hrg hlt hgr hsz hen)
end

set_option maxRecDepth 100000 in
set_option maxHeartbeats 2000000 in
theorem sorted_in (n : Nat) (hn : 4 ≤ n) (gf : Nat) (lb : Array Value) (eg : ∀ args w, (callFunc gf args).run Tryz.prog w = .ok (.enter gf args) w)
    (S Sp : List Ky → Prop) (N : Nat) (hN : N ≤ 1000000) (hS : ∀ ss, S ss → ss.length ≤ N) (w : World) (hseq : SeqStopsK Fence.wide (n - 1 - 1 - 1) Tryz.prog gf lb encA (Kp w.heap.size) S Sp N w) :
    CallsIn Fence.wide n Tryz.prog 208 #[.func (.func gf) #[] lb, .func (.func 168) #[] #[]] w fun e w' => ∃ (v : Value) (ss : List Ky), e = .returned v ∧ S ss ∧ w'.ownsRow w.heap.size 74 2 v ss.length (cellsOfRow keyC (sortL ss)) ∧ Below w.heap.size w w' := by
  have h1 : 1 ≤ n := by omega
  refine callsIn_of_wp Tryz.func208 rfl trivial ?_ rfl
  simp only [Tryz.ntmps208, List.size_toArray, List.length_cons, List.length_nil, Nat.reduceAdd, Nat.reduceSub, Array.replicate_succ, Array.replicate_zero, List.push_toArray, List.append_toArray, List.nil_append, List.cons_append]
  gi_wp2_with (first
    | (refine ⟨trivial, ?_⟩; gi_at_call 257; refine (collect_in (n - 1) (by omega) gf lb eg S Sp N hN _ hseq).mono ?_; rintro e w1 ⟨v, ss, rfl, hS1, hrow, hb⟩; obtain ⟨A, c, rfl⟩ := own_form hrow; have HR := Lib.hid hrow; clear hrow)
    | (refine ⟨trivial, ?_⟩; gi_at_call 167; refine CallsIn.mono (callsIn_wide.2 (sort_own _ _ _ HR.out (by have := hS _ hS1; omega))) ?_; rintro e w2 ⟨rfl, hrow2, hg2⟩; have HR2 := Lib.hid hrow2; clear hrow2))
  go_ret
  exact ⟨_, ss, rfl, hS1, HR2.out, hb.trans (grown_below hg2 hb.size (fun k hk => (HR.out.lt k hk).1))⟩

theorem sortL_ris {ss l : List Ky} (hp : ss.Perm l) (hn : l.Nodup) : sortL ss = risL l := by
  have hperm : (sortL ss).Perm ss := List.mergeSort_perm _ _
  refine pair_unique ?_ (risL_pair l) (fun y => by rw [mem_risL, hperm.mem_iff, hp.mem_iff])
  have h1 : (sortL ss).Pairwise (fun a b => (!ltK b a) = true) := List.pairwise_mergeSort (le := fun x y => !ltK y x) (fun a b c h1 h2 => by
    simp only [Bool.not_eq_true'] at *
    cases h : ltK c a with
    | false => rfl
    | true =>
      cases h3 : ltK a b with
      | true => rw [ltK_trans h h3] at h2; cases h2
      | false => have := ltK_total h1 h3; subst this; rw [h] at h2; cases h2) (fun a b => by
    cases h : ltK b a with
    | false => rfl
    | true => simp [ltK_asymm h]) ss
  have h2 : (sortL ss).Nodup := (hperm.trans hp).nodup_iff.2 hn
  refine (List.Pairwise.and h1 h2).imp ?_
  rintro a b ⟨h3, h4⟩
  cases h : ltK a b with
  | true => rfl
  | false => exact absurd (ltK_total h (by simpa using h3)) h4

theorem kys_nodup {l : List KO} (h : l.Nodup) : (kys l).Nodup := by
  unfold kys
  exact List.Pairwise.map _ (fun a b hab e => hab (Subtype.ext e)) h
end

section
set_option linter.unusedSimpArgs false
set_option linter.unusedVariables false
open Go.RowKit Go.Lib Go.Shelf
attribute [local go_sem] Oper.semAt_some

def kyN (pre : List (KO × NE)) : List Ky := pre.map fun p => p.1.1

set_option maxRecDepth 100000 in
set_option maxHeartbeats 2000000 in
theorem skeys1_in (n : Nat) (hn : 1 ≤ n) (l Bm d : Nat) (ks : List (KO × NE)) (n₀ B0 : Nat) (J Jx : List Ky → World → Prop) (hJ : AbidesFrom B0 J)
    (hY : ∀ pre x W, J pre W → pre.length < ks.length → YieldAt Fence.wide (n - 1) Tryz.prog l #[.agg #[.int .u64 x.1, .int .u64 x.2]] W fun e W' =>
      (e = .returned (.bool true) ∧ J (pre ++ [x]) W' ∧ Kp n₀ W W') ∨ (e = .returned (.bool false) ∧ Jx (pre ++ [x]) W'))
    (W : World) (hB0 : B0 ≤ W.heap.size) (hBm : W.cell? ⟨Bm, 0, none⟩ = some (.map (some d))) (hown : MapIn koV neV W d ks) (h0 : J [] W) :
    CallsIn Fence.wide n Tryz.prog 258 #[.func (.yield l) #[] #[], .pointer (some ⟨Bm, 0, none⟩)] W fun e W' => (∃ v, e = .returned v) ∧
      ((∃ ys, ys.Perm (kyN ks) ∧ J ys W') ∨ (∃ pre, True ∧ Jx pre W')) := by
  refine callsIn_of_wp Tryz.func258 rfl trivial ?_ rfl
  simp only [Tryz.ntmps258, List.size_toArray, List.length_cons, List.length_nil, Nat.reduceAdd, Nat.reduceSub, Array.replicate_succ, Array.replicate_zero, List.push_toArray, List.append_toArray, List.nil_append, List.cons_append]
  gi_wp2_with (first
    | (gi_at_range; refine wpListIn_rangeM rfl _ 230 rfl 74 170 Tryz.underlying230 rfl hown ?_; intro w0 hrg0 hg0 hs0)
    | gi_in)
  go_frame
  gi_loopw [3] (fun _ wr => ∃ (cnt : Nat) (pre : List (KO × NE)), RangeIn koV neV wr d W.heap.size (ks) pre cnt ∧ pre.length + cnt ≤ ks.length ∧ J (kyN pre) wr)
    (fun _ wr => wr.rangeLeft d W.heap.size)
  case atStart =>
    exact ⟨_, [], hrg0, by simp, hJ [] W w0 none h0 hg0 (fun r e => by cases e)⟩
  case round =>
    obtain ⟨cnt, pre, hrg, hcs, hJs⟩ := hrel
    gi_wp2_with (first
      | (gi_at_next; refine wpListIn_nextM rfl _ rfl keysBy.inj rfl hrg ?_ (fun p w2 cnt2 hx hnew hrg2 hlt hg2 hs2 hen => ?_)
         rotate_left
         obtain ⟨x, u⟩ := p
         have hJ2 : J (kyN pre) w2 := hJ _ wr w2 (some W.heap.size) hJs hg2 (fun r e => by cases e; exact ⟨hB0, hrg.iter_walk⟩)
         have hJ3 := hJ _ w2 (w2.alloc (.cells #[.int .u64 x.1.1, .int .u64 x.1.2] 74)) none hJ2 (World.grownBy_alloc _ _ none) (fun r e => by cases e)
         obtain ⟨fn, tmps, assign, body, hy, hR⟩ := hY (kyN pre) x.1 _ hJ3 (by simp [kyN]; omega)
         have hrg3 : RangeIn koV neV (w2.alloc (.cells #[.int .u64 x.1.1, .int .u64 x.1.2] 74)) d W.heap.size (ks) (pre ++ [(x, u)]) cnt2 :=
           hrg2.kept (Below.heap_alloc _ _ _ (MapIn.lt hrg2.map_)) (Below.heap_alloc _ _ _ hrg2.lt)
         have HR := Lib.hid hrg3
         clear hs2 hg2 hJ2 hJ3 hrg2 hrg3
         simp only [koV, neV] at hen ⊢
         rotate_left)
      | gi_in)
    · intro hc0 hp
      gi_wp2
      go_end0
      refine ⟨⟨_, rfl⟩, .inl ⟨kyN pre, ?_, hJs⟩⟩
      have := hp.map (·.1)
      simpa [kyN, List.map_map, Function.comp_def] using this
    · gi_wp2
      refine hR.mono ?_
      rintro e W3 (⟨rfl, hJ4, hk4⟩ | ⟨rfl, hJx4⟩)
      · gi_wp2
        have hrg4 := HR.out.of_walks hk4.2
        go_roundw
        case rel => exact ⟨cnt2, pre ++ [(x, u)], hrg4, by simp; omega, by simpa [kyN] using hJ4⟩
        case measure => rw [hrg4.left_eq, hrg.left_eq]; exact hlt
      · gi_wp2
        refine bodyPost_ret (results_none rfl _ _ _) rfl ?_
        exact ⟨⟨_, rfl⟩, .inr ⟨_, trivial, hJx4⟩⟩

set_option maxHeartbeats 1000000 in
theorem skeysFn_in (n : Nat) (m : Option Nat) (w : World) :
    CallsIn Fence.wide n Tryz.prog 209 #[.map m] w fun e w' => e = .returned (.func (.func 258) #[] #[.pointer (some ⟨w.heap.size, 0, none⟩)]) ∧ ∃ t, w' = w.alloc (.cells #[.map m] t) := by
  refine callsIn_of_wp Tryz.func209 rfl trivial ?_ rfl
  simp only [Tryz.ntmps209, List.size_toArray, List.length_cons, List.length_nil, Nat.reduceAdd, Nat.reduceSub, Array.replicate_succ, Array.replicate_zero, List.push_toArray, List.append_toArray, List.nil_append, List.cons_append]
  gi_wp2
  go_ret
  exact ⟨rfl, _, rfl⟩

theorem skeys_stops (n : Nat) (hn : 1 ≤ n) (d : Nat) (ks : List (KO × NE)) (w : World) (t : TypeId) (h : MapIn koV neV w d ks) :
    SeqStopsK Fence.wide n Tryz.prog 258 #[.pointer (some ⟨w.heap.size, 0, none⟩)] encA (Kp (w.alloc (.cells #[.map (some d)] t)).heap.size) (fun ss => ss.Perm (kyN ks)) (fun _ => True) ks.length (w.alloc (.cells #[.map (some d)] t)) :=
  fun l J Jx W hW hJ hJx hY h0 => by
    have hc := (hW.cell (p := ⟨w.heap.size, 0, none⟩) (by simp)).trans (Boxed.new w t (.map (some d))).cell
    refine skeys1_in n hn l w.heap.size d ks _ _ J Jx hJ hY W (Nat.le_refl _) hc ?_ h0
    exact MapIn.block h ((hW.block d (by have := h.lt; simp; omega)).trans (Below.heap_alloc _ _ _ h.lt))

theorem kyN_nodup {w : World} {d : Nat} {es : List (KO × NE)} (h : MapIn koV neV w d es) : (kyN es).Nodup := by
  obtain ⟨_, _, _, _, _, _, hn⟩ := h
  have : kyN es = kys (es.map (·.1)) := by simp [kyN, kys, List.map_map, Function.comp_def]
  rw [this]
  exact kys_nodup hn

set_option maxRecDepth 100000 in
set_option maxHeartbeats 2000000 in
theorem skeys_any (T : Nat) (c : Cfg) (ver : Nat) (es : List (KO × NE)) (rs rh : Nat) (fp : List Nat) (w : World) (h : StripeIn w T c ver es rs rh fp) (hl : es.length < 1000000) :
    Calls Tryz.prog 153 #[.pointer (some ⟨T, 0, none⟩)] w (Lists w (risL (kyN es))) := by
  refine (callsIn_wide (n := 9)).1 ?_
  have HM := Lib.hid (smade_any T c ver es rs rh fp w h)
  obtain ⟨M, h1, h2, h3, h4, h5, h6, rfl⟩ := h
  have hnd := kyN_nodup h2
  have hlt := (Array.getElem?_eq_some_iff.1 h1).1
  have HT := Lib.hid h1
  have HE := Lib.hid h2
  clear h1 h2 h3 h4 h5 h6
  refine callsIn_of_wp Tryz.func153 rfl trivial ?_ rfl
  simp only [Tryz.ntmps153, List.size_toArray, List.length_cons, List.length_nil, Nat.reduceAdd, Nat.reduceSub, Array.replicate_succ, Array.replicate_zero, List.push_toArray, List.append_toArray, List.nil_append, List.cons_append]
  gi_wp2_with (first
    | (refine ⟨trivial, ?_⟩; gi_at_call 149; refine CallsIn.mono (callsIn_wide.2 HM.out) ?_
       rintro e w2 ⟨rfl, hb2⟩
       have hx2 : w2.heap[T]? = _ := (hb2.block T hlt).trans HT.out
       have z0 : w2.cell? ⟨T, 0, none⟩ = some (.map (some M)) := by simp only [World.cell?, hx2]; rfl
       have hE2 : MapIn koV neV w2 M es := HE.out.below hb2
       have HE2 := Lib.hid hE2
       have HB2 := Lib.hid hb2
       clear hx2 hE2 hb2)
    | (refine ⟨trivial, ?_⟩; gi_at_call 209; refine (skeysFn_in 8 _ _).mono ?_; rintro e w' ⟨rfl, t, rfl⟩)
    | (refine ⟨trivial, ?_⟩; gi_at_call 208; refine (sorted_in 8 (by omega) 258 _ (enters_of Tryz.func258 (by kernel_rfl) rfl) (fun ss => ss.Perm (kyN es)) (fun _ => True) es.length (by omega) (fun ss hss => by rw [hss.length_eq]; simp [kyN]) _ (skeys_stops (8 - 1 - 1 - 1) (by omega) M es w2 t HE2.out)).mono ?_; rintro e w' ⟨v, ss, rfl, hp, hrow, hb⟩))
  go_ret
  have e1 := sortL_ris hp hnd
  have e2 : (sortL ss).length = ss.length := by simp [sortL]
  rw [e1] at hrow e2
  rw [← e2] at hrow
  have hsz := HB2.out.size
  exact ⟨v, rfl, own_lower hrow (by simp; omega), bthen HB2.out (((Below.refl _ w2).alloc (Nat.le_refl _) _).trans (hb.mono (by simp)))⟩

theorem risL_length {l : List Ky} (hn : l.Nodup) : (risL l).length = l.length := by
  have h := sortL_ris (List.Perm.refl l) hn
  rw [← h]
  simp [sortL]
end

end Go.Proofs.YtmniiodpbebnmaaGreat
