/- slices.AppendSeq, slices.Collect at keys, against whatever iterator that keeps its word; fifo's All and List at keys. -/
import Derived.Test.YtmniiodpbebnmaaGreatJ03
import Derived.RangeFuncNested
import Derived.RangeFuncBound
import Derived.RangeFuncCalls
import Derived.RangeFuncLeaves
import Derived.Shelf.Abstract
import Derived.Shelf.RegionOpen
import Derived.WalkKit
import Derived.OwnWalkIn
import Derived.TacticsInMore
import Derived.LoopNIn
import Derived.LoopIn
import Derived.Maps.AppendAt
namespace Go.Proofs.YtmniiodpbebnmaaGreat

section
set_option linter.unusedSimpArgs false
set_option linter.unusedVariables false
open Go.RowKit Go.Lib Go.Shelf
attribute [local go_sem] Oper.semAt_some

/-- What a round keeps. -/
def Kp (n₀ : Nat) (W W' : World) : Prop := Below n₀ W W' ∧ KeepsWalks W W'
theorem kp_t {n₀ : Nat} {A B C : World} (h : Kp n₀ A B) (k : Kp n₀ B C) : Kp n₀ A C := ⟨h.1.trans k.1, h.2.trans k.2⟩
theorem kp_b {n₀ : Nat} {w : World} (hn : n₀ ≤ w.heap.size) (W : World) (l : Nat) (o o' : Obj) (hl : w.heap.size ≤ l) (h : W.heap[l]? = some o) (hc : o.isCells = false) (hw : o.isWalk = false) : Kp n₀ W (W.putObj l o') :=
  ⟨belowK_b hn W l o o' hl h hc hw, walksK_b (w := w) W l o o' hl h hc hw⟩

/-- A key in a block of its own. -/
def KBox (W : World) (B : Nat) (x : Ky) : Prop := W.heap[B]? = some (.cells #[.int .u64 x.1, .int .u64 x.2] 74 (0, 0))
theorem KBox.lt {W : World} {B : Nat} {x : Ky} (h : KBox W B x) : B < W.heap.size := (Array.getElem?_eq_some_iff.1 h).1
theorem KBox.c0 {W : World} {B : Nat} {x : Ky} (h : KBox W B x) : W.cell? ⟨B, 0, none⟩ = some (.int .u64 x.1) := by simp [World.cell?, show W.heap[B]? = _ from h]
theorem KBox.c1 {W : World} {B : Nat} {x : Ky} (h : KBox W B x) : W.cell? ⟨B, 1, none⟩ = some (.int .u64 x.2) := by simp [World.cell?, show W.heap[B]? = _ from h]
theorem KBox.kept {W W' : World} {B : Nat} {x : Ky} {row : Option Nat} (h : KBox W B x) (hg : W.grownBy W' row) (hne : some B ≠ row) : KBox W' B x := (hg.block B h.lt hne).trans h
theorem kbox_own (B : Nat) (x : Ky) : Own (fun (_ : Unit) W => KBox W B x) := fun s X Y row hs hg hrow =>
  hs.kept hg (fun e' => by obtain ⟨o, ho, hc⟩ := hrow B e'.symm; rw [show X.heap[B]? = _ from hs] at ho; cases ho; cases hc)

abbrev encA (x : Ky) : Array Value := #[.agg #[.int .u64 x.1, .int .u64 x.2]]

set_option maxRecDepth 100000 in
set_option maxHeartbeats 2000000 in
theorem appendSeq_in (n : Nat) (hn : 2 ≤ n) (gf : Nat) (lb : Array Value) (eg : ∀ args w, (callFunc gf args).run Tryz.prog w = .ok (.enter gf args) w)
    (S Sp : List Ky → Prop) (N : Nat) (hN : N ≤ 1000000) (w : World) (hseq : ∀ w', Below w.heap.size w w' → SeqStopsK Fence.wide (n - 1) Tryz.prog gf lb encA (Kp w.heap.size) S Sp N w') :
    CallsIn Fence.wide n Tryz.prog 295 #[.slice none 0 0, .func (.func gf) #[] lb] w fun e w' => ∃ (v : Value) (ss : List Ky), e = .returned v ∧ S ss ∧ w'.ownsRow w.heap.size 74 2 v ss.length (cellsOfRow keyC ss) ∧ Below w.heap.size w w' := by
  have h1 : 1 ≤ n := by omega
  obtain ⟨i0, hi, hz0, hz1, hz2⟩ := info_parts key_info
  refine callsIn_of_wp_marks Tryz.func295 rfl trivial ?_ rfl
  simp only [Tryz.ntmps295, List.size_toArray, List.length_cons, List.length_nil, Nat.reduceAdd, Nat.reduceSub, Array.replicate_succ, Array.replicate_zero, List.push_toArray, List.append_toArray, List.nil_append, List.cons_append]
  gi_wp2
  have bS := Boxed.new w 92 (.slice none 0 0)
  have hB0 : Below w.heap.size w (w.alloc (.cells #[.slice none 0 0] 92)) := (Below.refl _ w).alloc (Nat.le_refl _) _
  have hsz : (w.alloc (.cells #[.slice none 0 0] 92)).heap.size = w.heap.size + 1 := by simp
  obtain ⟨W0, hW0⟩ : ∃ W0, w.alloc (.cells #[.slice none 0 0] 92) = W0 := ⟨_, rfl⟩
  rw [hW0] at bS hB0 hsz ⊢
  clear hW0
  refine wpIn_rangeFunc_ownH rfl h1 (gf := gf) (lb := lb) rfl trivial eg (hseq W0 hB0) kp_t (kp_b (by omega)) (Below.refl _ _) (fun _ => rfl)
    (fun pre W => (∃ v, Boxed W w.heap.size 92 v ∧ W.ownsRow w.heap.size 74 2 v pre.length (cellsOfRow keyC pre) ∧ True) ∧ Below w.heap.size w W)
    (fun _ _ _ => False)
    (OwnFrom.and (Own.from (holdsRow_own w.heap.size w.heap.size 92 74 2 (fun pre => pre.length) (fun pre => cellsOfRow keyC pre) (fun _ _ => True)) _) (ownFrom_below (Nat.le_refl _) (by omega)))
    (fun _ _ _ _ _ hs _ _ => hs)
    ⟨⟨_, bS, World.ownsRow_nil _ _ _ _, trivial⟩, hB0⟩
    (fun x a' W => ∃ Bx, w.heap.size < Bx ∧ KBox W Bx x ∧ a' = { tmps := #[.slice none 0 0, .func (.func gf) #[] lb, .pointer (some ⟨w.heap.size, 0, none⟩), undef, .slice none 0 0, .pointer (some ⟨Bx, 0, none⟩), .func (.func gf) #[] lb, .agg #[.int .u64 x.1, .int .u64 x.2], undef, undef, undef, undef, undef], defers := [] })
    (fun x a' _ X Y row hs hg hr => by obtain ⟨Bx, h1, h2, h3⟩ := hs; exact ⟨Bx, h1, kbox_own Bx x () X Y row h2 hg (fun r e => (hr r e).2), h3⟩)
    ?assign ?body ?done ?stop
  case assign =>
    rintro l pre x W K ⟨⟨v, hv, hrow, _⟩, hB⟩ hK
    have hs := hB.size
    gi_wp2
    have hW : Below W.heap.size W (W.alloc (.cells #[.int .u64 x.1, .int .u64 x.2] 74)) := (Below.refl _ W).alloc (Nat.le_refl _) _
    exact hK _ _ ((KeepsOthers.alloc _ _).from _) ⟨hW.mono hs, KeepsWalks.alloc _ _⟩
      ⟨⟨v, (hW.block _ hv.lt).trans hv, own_below hrow hW, trivial⟩, hB.trans (hW.mono hs)⟩ ⟨W.heap.size, hv.lt, World.alloc_heap_new W _, rfl⟩
  case body =>
    rintro l pre x a' W hl ⟨r, hr⟩ ⟨⟨v, hv, hrow, _⟩, hB⟩ ⟨Bx, hBx, bX, rfl⟩ hlt
    have hc := hv.cell
    have k0 := bX.c0
    have k1 := bX.c1
    have hs := hB.size
    have hpl : pre.length < 1000000 := by omega
    gi_wp2_with (gi_at_builtin; refine wpListIn_append_own _ rfl _ _ 92 rfl w.heap.size 74 i0 (.agg #[.int .u64 0, .int .u64 0]) 2 16 Tryz.underlying92 hi hz0 hz1 hz2 rfl (by decide) _ _ _ rfl (hrow.alloc _) ⟨W.heap.size, 0, none⟩ 1 1 (keyC x) rfl rfl (news_new _ _ _ _ rfl) (keyC_one x) (by simp only [maxLen]; omega) (by omega) (by simp; omega) ?_; intro v' w1 hown' hgrow _; obtain ⟨g', cap', rfl⟩ := ownsRow_succ hown'; obtain ⟨hv1, hv2, hr2, hk2, hb2⟩ := hv.appended (by decide) hrow hB.size (Nat.le_refl _) hown' hgrow; have hc1 := hv1.cell; have hf1 := hv1.frozen)
    have e1 : (pre ++ [x]).length = pre.length + 1 := by simp
    have e2 : cellsOfRow keyC (pre ++ [x]) = cellsOfRow keyC pre ++ keyC x := by rw [cellsOfRow_append]; simp [cellsOfRow]
    exact ⟨hk2.from _, ⟨hb2, hk2.walks⟩, ⟨_, hv2, by rw [e1, e2]; exact hr2, trivial⟩, hB.trans hb2⟩
  case done =>
    rintro D ys W hD hS ⟨⟨v, hv, hrow, _⟩, hB⟩ hK
    have hc := hv.cell
    gi_wp2
    refine ⟨by simp, .inl ⟨_, _, rfl, run_takeDeferred hK, ?_⟩⟩
    exact ⟨_, results_tmp rfl _ _ _, v, ys, rfl, hS, ownsRow_putObj hrow _ hK rfl, hB.trans (belowK_b (w := w) (Nat.le_refl _) W D _ _ (by omega) hK rfl rfl)⟩
  case stop =>
    rintro D c pre W _ _ h _
    exact h.elim

theorem stops_later {n gf : Nat} {lb : Array Value} {Kq : World → World → Prop} {S Sp : List Ky → Prop} {N : Nat} {w w' : World} (hb : Below w.heap.size w w') (h : SeqStopsK Fence.wide n Tryz.prog gf lb encA Kq S Sp N w) : SeqStopsK Fence.wide n Tryz.prog gf lb encA Kq S Sp N w' :=
  fun l J Jx W hW h1 h2 h3 h4 => h l J Jx W (hb.trans (hW.mono hb.size)) h1 h2 h3 h4

set_option maxRecDepth 100000 in
set_option maxHeartbeats 2000000 in
theorem collect_in (n : Nat) (hn : 3 ≤ n) (gf : Nat) (lb : Array Value) (eg : ∀ args w, (callFunc gf args).run Tryz.prog w = .ok (.enter gf args) w)
    (S Sp : List Ky → Prop) (N : Nat) (hN : N ≤ 1000000) (w : World) (hseq : SeqStopsK Fence.wide (n - 1 - 1) Tryz.prog gf lb encA (Kp w.heap.size) S Sp N w) :
    CallsIn Fence.wide n Tryz.prog 257 #[.func (.func gf) #[] lb] w fun e w' => ∃ (v : Value) (ss : List Ky), e = .returned v ∧ S ss ∧ w'.ownsRow w.heap.size 74 2 v ss.length (cellsOfRow keyC ss) ∧ Below w.heap.size w w' := by
  have h1 : 1 ≤ n := by omega
  have e11 : ∀ args w, (callFunc 295 args).run Tryz.prog w = .ok (.enter 295 args) w := enters_of Tryz.func295 (by kernel_rfl) rfl
  refine callsIn_of_wp Tryz.func257 rfl trivial ?_ rfl
  simp only [Tryz.ntmps257, List.size_toArray, List.length_cons, List.length_nil, Nat.reduceAdd, Nat.reduceSub, Array.replicate_succ, Array.replicate_zero, List.push_toArray, List.append_toArray, List.nil_append, List.cons_append]
  gi_wp2_with (refine ⟨trivial, ?_⟩; gi_at_call 295; refine (appendSeq_in (n - 1) (by omega) gf lb eg S Sp N hN _ (fun w' hb => stops_later hb hseq)).mono ?_; rintro e w' ⟨v, ss, rfl, hS, hrow, hb⟩)

  go_ret
  exact ⟨v, ss, rfl, hS, hrow, hb⟩
end

section
set_option linter.unusedSimpArgs false
set_option linter.unusedVariables false
open Go.RowKit Go.Lib Go.Shelf
attribute [local go_sem] Oper.semAt_some

def intOf : Value → Int
  | .int _ i => i
  | _ => 0

/-- A queue that lies there, to be read. -/
def FR (w : World) (g o : Nat) (vf vb : Value) (f b : List Ky) : Prop :=
  w.cell? ⟨g, o, none⟩ = some vf ∧ w.cell? ⟨g, o + 1, none⟩ = some vb ∧ RowIn 2 keyC w vf f ∧ RowIn 2 keyC w vb b
theorem FR.below {w w' : World} {g o : Nat} {vf vb : Value} {f b : List Ky} (h : FR w g o vf vb f b) (hb : Below w.heap.size w w') : FR w' g o vf vb f b := by
  have hlt : g < w.heap.size := World.block_lt_of_cell? w ⟨g, o, none⟩ h.1
  obtain ⟨h1, h2, h3, h4⟩ := h
  exact ⟨(hb.cell (p := ⟨g, o, none⟩) hlt).trans h1, (hb.cell (p := ⟨g, o + 1, none⟩) hlt).trans h2, h3.below hb, h4.below hb⟩

/-- What a list that a call lays is. -/
def Lists (w : World) (ss : List Ky) (e : Ending) (w' : World) : Prop :=
  ∃ v, e = .returned v ∧ w'.ownsRow w.heap.size 74 2 v ss.length (cellsOfRow keyC ss) ∧ Below w.heap.size w w'
end

end Go.Proofs.YtmniiodpbebnmaaGreat
