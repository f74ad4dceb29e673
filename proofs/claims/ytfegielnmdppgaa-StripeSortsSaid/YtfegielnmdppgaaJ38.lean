/- a stripe's Keys and Len. -/
import Derived.Test.YtfegielnmdppgaaJ35
import Derived.Test.YtfegielnmdppgaaJ37
namespace Go.Proofs.Ytfegielnmdppgaa

section
set_option linter.unusedSimpArgs false
set_option linter.unusedVariables false
open Go.RowKit Go.Lib Go.Shelf
attribute [local go_sem] Oper.semAt_some

def kyN (pre : List (KO × NE)) : List Ky := pre.map fun p => p.1.1

set_option maxRecDepth 100000 in
set_option maxHeartbeats 2000000 in
theorem skeys1_in (n : Nat) (hn : 1 ≤ n) (l Bm d : Nat) (ks : List (KO × NE)) (n₀ B0 : Nat) (J Jx : List Ky → World → Prop) (hJ : AbidesFrom B0 J)
    (hY : ∀ pre x W, J pre W → pre.length < ks.length → YieldAt Fence.wide (n - 1) Try.prog l #[.agg #[.int .u64 x.1, .int .u64 x.2]] W fun e W' =>
      (e = .returned (.bool true) ∧ J (pre ++ [x]) W' ∧ Kp n₀ W W') ∨ (e = .returned (.bool false) ∧ Jx (pre ++ [x]) W'))
    (W : World) (hB0 : B0 ≤ W.heap.size) (hBm : W.cell? ⟨Bm, 0, none⟩ = some (.map (some d))) (hown : MapIn koV neV W d ks) (h0 : J [] W) :
    CallsIn Fence.wide n Try.prog 53 #[.func (.yield l) #[] #[], .pointer (some ⟨Bm, 0, none⟩)] W fun e W' => (∃ v, e = .returned v) ∧
      ((∃ ys, ys.Perm (kyN ks) ∧ J ys W') ∨ (∃ pre, True ∧ Jx pre W')) := by
  refine callsIn_of_wp Try.func53 rfl trivial ?_ rfl
  simp only [Try.ntmps53, List.size_toArray, List.length_cons, List.length_nil, Nat.reduceAdd, Nat.reduceSub, Array.replicate_succ, Array.replicate_zero, List.push_toArray, List.append_toArray, List.nil_append, List.cons_append]
  gi_wp2_with (first
    | (gi_at_range; refine wpListIn_rangeM rfl _ 66 rfl 27 28 Try.underlying66 rfl hown ?_; intro w0 hrg0 hg0 hs0)
    | gi_in)
  go_frame
  gi_loopw [3] (fun _ wr => ∃ (cnt : Nat) (pre : List (KO × NE)), RangeIn koV neV wr d W.heap.size (ks) pre cnt ∧ pre.length + cnt ≤ ks.length ∧ J (kyN pre) wr)
    (fun _ wr => wr.rangeLeft d W.heap.size)
  case atStart =>
    exact ⟨_, [], hrg0, by simp, hJ [] W w0 none h0 hg0 (fun r e => by cases e)⟩
  case round =>
    obtain ⟨cnt, pre, hrg, hcs, hJs⟩ := hrel
    gi_wp2_with (first
      | (gi_at_next; refine wpListIn_nextM rfl _ rfl keysBy.inj rfl hrg ?_ (fun p w2 cnt2 hx hnew hrg2 hlt hg2 hs2 hen => ?_)
         rotate_left
         obtain ⟨x, u⟩ := p
         have hJ2 : J (kyN pre) w2 := hJ _ wr w2 (some W.heap.size) hJs hg2 (fun r e => by cases e; exact ⟨hB0, hrg.iter_walk⟩)
         have hJ3 := hJ _ w2 (w2.alloc (.cells #[.int .u64 x.1.1, .int .u64 x.1.2] 27)) none hJ2 (World.grownBy_alloc _ _ none) (fun r e => by cases e)
         obtain ⟨fn, tmps, assign, body, hy, hR⟩ := hY (kyN pre) x.1 _ hJ3 (by simp [kyN]; omega)
         have hrg3 : RangeIn koV neV (w2.alloc (.cells #[.int .u64 x.1.1, .int .u64 x.1.2] 27)) d W.heap.size (ks) (pre ++ [(x, u)]) cnt2 :=
           hrg2.kept (Below.heap_alloc _ _ _ (MapIn.lt hrg2.map_)) (Below.heap_alloc _ _ _ hrg2.lt)
         have HR := Lib.hid hrg3
         clear hs2 hg2 hJ2 hJ3 hrg2 hrg3
         simp only [koV, neV] at hen ⊢
         rotate_left)
      | gi_in)
    · intro hc0 hp
      gi_wp2
      go_end0
      refine ⟨⟨_, rfl⟩, .inl ⟨kyN pre, ?_, hJs⟩⟩
      have := hp.map (·.1)
      simpa [kyN, List.map_map, Function.comp_def] using this
    · gi_wp2
      refine hR.mono ?_
      rintro e W3 (⟨rfl, hJ4, hk4⟩ | ⟨rfl, hJx4⟩)
      · gi_wp2
        have hrg4 := HR.out.of_walks hk4.2
        go_roundw
        case rel => exact ⟨cnt2, pre ++ [(x, u)], hrg4, by simp; omega, by simpa [kyN] using hJ4⟩
        case measure => rw [hrg4.left_eq, hrg.left_eq]; exact hlt
      · gi_wp2
        refine bodyPost_ret (results_none rfl _ _ _) rfl ?_
        exact ⟨⟨_, rfl⟩, .inr ⟨_, trivial, hJx4⟩⟩

set_option maxHeartbeats 1000000 in
theorem skeysFn_in (n : Nat) (m : Option Nat) (w : World) :
    CallsIn Fence.wide n Try.prog 41 #[.map m] w fun e w' => e = .returned (.func (.func 53) #[] #[.pointer (some ⟨w.heap.size, 0, none⟩)]) ∧ ∃ t, w' = w.alloc (.cells #[.map m] t) := by
  refine callsIn_of_wp Try.func41 rfl trivial ?_ rfl
  simp only [Try.ntmps41, List.size_toArray, List.length_cons, List.length_nil, Nat.reduceAdd, Nat.reduceSub, Array.replicate_succ, Array.replicate_zero, List.push_toArray, List.append_toArray, List.nil_append, List.cons_append]
  gi_wp2
  go_ret
  exact ⟨rfl, _, rfl⟩

theorem skeys_stops (n : Nat) (hn : 1 ≤ n) (d : Nat) (ks : List (KO × NE)) (w : World) (t : TypeId) (h : MapIn koV neV w d ks) :
    SeqStopsK Fence.wide n Try.prog 53 #[.pointer (some ⟨w.heap.size, 0, none⟩)] encA (Kp (w.alloc (.cells #[.map (some d)] t)).heap.size) (fun ss => ss.Perm (kyN ks)) (fun _ => True) ks.length (w.alloc (.cells #[.map (some d)] t)) :=
  fun l J Jx W hW hJ hJx hY h0 => by
    have hc := (hW.cell (p := ⟨w.heap.size, 0, none⟩) (by simp)).trans (Boxed.new w t (.map (some d))).cell
    refine skeys1_in n hn l w.heap.size d ks _ _ J Jx hJ hY W (Nat.le_refl _) hc ?_ h0
    exact MapIn.block h ((hW.block d (by have := h.lt; simp; omega)).trans (Below.heap_alloc _ _ _ h.lt))

theorem kyN_nodup {w : World} {d : Nat} {es : List (KO × NE)} (h : MapIn koV neV w d es) : (kyN es).Nodup := by
  obtain ⟨_, _, _, _, _, _, hn⟩ := h
  have : kyN es = kys (es.map (·.1)) := by simp [kyN, kys, List.map_map, Function.comp_def]
  rw [this]
  exact kys_nodup hn

set_option maxRecDepth 100000 in
set_option maxHeartbeats 2000000 in
theorem skeys_any (T : Nat) (c : Cfg) (ver : Nat) (es : List (KO × NE)) (rs rh : Nat) (fp : List Nat) (w : World) (h : StripeIn w T c ver es rs rh fp) (hl : es.length < 1000000) :
    Calls Try.prog 29 #[.pointer (some ⟨T, 0, none⟩)] w (Lists w (risL (kyN es))) := by
  refine (callsIn_wide (n := 9)).1 ?_
  have HM := Lib.hid (smade_any T c ver es rs rh fp w h)
  obtain ⟨M, h1, h2, h3, h4, h5, h6, rfl⟩ := h
  have hnd := kyN_nodup h2
  have hlt := (Array.getElem?_eq_some_iff.1 h1).1
  have HT := Lib.hid h1
  have HE := Lib.hid h2
  clear h1 h2 h3 h4 h5 h6
  refine callsIn_of_wp Try.func29 rfl trivial ?_ rfl
  simp only [Try.ntmps29, List.size_toArray, List.length_cons, List.length_nil, Nat.reduceAdd, Nat.reduceSub, Array.replicate_succ, Array.replicate_zero, List.push_toArray, List.append_toArray, List.nil_append, List.cons_append]
  gi_wp2_with (first
    | (refine ⟨trivial, ?_⟩; gi_at_call 26; refine CallsIn.mono (callsIn_wide.2 HM.out) ?_
       rintro e w2 ⟨rfl, hb2⟩
       have hx2 : w2.heap[T]? = _ := (hb2.block T hlt).trans HT.out
       have z0 : w2.cell? ⟨T, 0, none⟩ = some (.map (some M)) := by simp only [World.cell?, hx2]; rfl
       have hE2 : MapIn koV neV w2 M es := HE.out.below hb2
       have HE2 := Lib.hid hE2
       have HB2 := Lib.hid hb2
       clear hx2 hE2 hb2)
    | (refine ⟨trivial, ?_⟩; gi_at_call 41; refine (skeysFn_in 8 _ _).mono ?_; rintro e w' ⟨rfl, t, rfl⟩)
    | (refine ⟨trivial, ?_⟩; gi_at_call 40; refine (sorted_in 8 (by omega) 53 _ (enters_of Try.func53 (by kernel_rfl) rfl) (fun ss => ss.Perm (kyN es)) (fun _ => True) es.length (by omega) (fun ss hss => by rw [hss.length_eq]; simp [kyN]) _ (skeys_stops (8 - 1 - 1 - 1) (by omega) M es w2 t HE2.out)).mono ?_; rintro e w' ⟨v, ss, rfl, hp, hrow, hb⟩))
  go_ret
  have e1 := sortL_ris hp hnd
  have e2 : (sortL ss).length = ss.length := by simp [sortL]
  rw [e1] at hrow e2
  rw [← e2] at hrow
  have hsz := HB2.out.size
  exact ⟨v, rfl, own_lower hrow (by simp; omega), bthen HB2.out (((Below.refl _ w2).alloc (Nat.le_refl _) _).trans (hb.mono (by simp)))⟩

theorem risL_length {l : List Ky} (hn : l.Nodup) : (risL l).length = l.length := by
  have h := sortL_ris (List.Perm.refl l) hn
  rw [← h]
  simp [sortL]

set_option maxRecDepth 100000 in
set_option maxHeartbeats 4000000 in
theorem slen_any (T : Nat) (c : Cfg) (ver : Nat) (es : List (KO × NE)) (rs rh : Nat) (fp : List Nat) (w : World) (h : StripeIn w T c ver es rs rh fp) (hl : es.length < 1000000) :
    Calls Try.prog 13 #[.pointer (some ⟨T, 0, none⟩)] w fun e w' => e = .returned (.int .i64 es.length) ∧ Below w.heap.size w w' := by
  have HK := Lib.hid (skeys_any T c ver es rs rh fp w h hl)
  have hlen : (risL (kyN es)).length = es.length := by
    obtain ⟨M, h1, h2, _⟩ := h
    rw [risL_length (kyN_nodup h2)]
    simp [kyN]
  have HL := Lib.hid hlen
  clear h hlen
  go_enter Try.func13, Try.ntmps13
  go_wp2_with (go_at_call 29; refine HK.out.mono ?_; rintro e w2 ⟨v, rfl, hrow, hb⟩; obtain ⟨A, cc, rfl⟩ := own_form hrow; have HB := Lib.hid hb; clear hb hrow)
  go_ret
  exact ⟨by rw [← HL.out]; rfl, HB.out⟩
end

end Go.Proofs.Ytfegielnmdppgaa
