/- Calls as they come in; The walk of StoreNone; The walk of StoreCuts. -/
import Derived.Test.YtmniiodpbebnmaaGreatC01
import Derived.Test.YtmniiodpbebnmaaGreatC02
import Derived.Deep.Slices
import Derived.Lib.SmallJoins
import Derived.Test.YtmniiodpbebnmaaGreatC31
import Derived.Test.YtmniiodpbebnmaaGreatC35
import Derived.Test.YtmniiodpbebnmaaGreatC03
import Derived.Test.YtmniiodpbebnmaaGreatC29
import Derived.Test.YtmniiodpbebnmaaGreatC08
namespace Go.Proofs.YtmniiodpbebnmaaGreat

section
set_option linter.unusedSimpArgs false
set_option linter.unusedVariables false
open Go.RowKit Go.Lib Go.ChangeShapes Go.WideShapes Go.Joins

theorem i64_of_wf {n : Int} (h : (Lit.int .i64 n).wf = true) : I64 n := by simpa [Lit.wf, IntKind.min, IntKind.max, IntKind.signed, IntKind.bits, I64] using h

theorem cl_pol : Tryz.prog.cellsOf 35 = 6 := by kernel_rfl
theorem cl_call : Tryz.prog.cellsOf 37 = 11 := by kernel_rfl
theorem cl_i64 : Tryz.prog.cellsOf 2 = 1 := by kernel_rfl
theorem cl_int : Tryz.prog.cellsOf 3 = 1 := by kernel_rfl
theorem cl_str : Tryz.prog.cellsOf 9 = 1 := by kernel_rfl

theorem list6 {α : Type} {l : List α} (h : l.length = 6) : ∃ a0 a1 a2 a3 a4 a5, l = [a0, a1, a2, a3, a4, a5] := by
  match l, h with
  | [a0, a1, a2, a3, a4, a5], _ => exact ⟨_, _, _, _, _, _, rfl⟩
theorem list11 {α : Type} {l : List α} (h : l.length = 11) : ∃ a0 a1 a2 a3 a4 a5 a6 a7 a8 a9 a10, l = [a0, a1, a2, a3, a4, a5, a6, a7, a8, a9, a10] := by
  match l, h with
  | [a0, a1, a2, a3, a4, a5, a6, a7, a8, a9, a10], _ => exact ⟨_, _, _, _, _, _, _, _, _, _, _, rfl⟩

section
variable {H : Type} {enc : TypeId × Value → H} {w : World} {base : Nat} {spare : Nat → Bool} {held : Bool}

/-- One field of a struct that is a number. -/
theorem field_i64 {fuel : Nat} {t : TypeId} (ht : Tryz.prog.underlying t = some (.int .i64)) (hc : Tryz.prog.cellsOf t = 1) {cs : List Value} {xs : List (DataW H × List MemPlace)} {i o : Nat} (hi : i < xs.length) {v : Value} (hv : cs.drop o = v :: cs.drop (o + 1))
    (h : DataW.trod enc Tryz.prog w base spare held fuel t ((cs.drop o).take (Tryz.prog.cellsOf t)) = xs[i]?) : ∃ n, v = .int .i64 n ∧ I64 n := by
  rw [hc, hv, List.take_succ_cons, List.take_zero, List.getElem?_eq_getElem hi] at h
  obtain ⟨n, hn, _, hw⟩ := DataW.trod_int ht h
  simp only [List.cons.injEq, and_true] at hn
  exact ⟨n, hn, i64_of_wf hw⟩

theorem field_str {fuel : Nat} {t : TypeId} (ht : Tryz.prog.underlying t = some .string) (hc : Tryz.prog.cellsOf t = 1) {cs : List Value} {xs : List (DataW H × List MemPlace)} {i o : Nat} (hi : i < xs.length) {v : Value} (hv : cs.drop o = v :: cs.drop (o + 1))
    (h : DataW.trod enc Tryz.prog w base spare held fuel t ((cs.drop o).take (Tryz.prog.cellsOf t)) = xs[i]?) : ∃ s : ByteArray, v = .string s ∧ s.size ≤ maxLen := by
  rw [hc, hv, List.take_succ_cons, List.take_zero, List.getElem?_eq_getElem hi] at h
  obtain ⟨n, hn, _, hw⟩ := DataW.trod_string ht h
  simp only [List.cons.injEq, and_true] at hn
  exact ⟨n, hn, hw⟩

theorem pol_reads {fuel : Nat} {cs : List Value} {x : DataW H × List MemPlace} (h : DataW.trod enc Tryz.prog w base spare held fuel 35 cs = some x) :
    ∃ p : Pol, p.ok ∧ cs = [.int .i64 p.mn, .int .i64 p.mx, .int .i64 p.tg, .int .i64 p.tol, .int .i64 p.win, .int .i64 p.hold] := by
  obtain ⟨xs, n, _, _, hl, hx, hf⟩ := DataW.trod_struct Tryz.underlying35 h
  rw [cl_pol] at hl
  replace hx : xs.length = 6 := hx
  obtain ⟨a0, a1, a2, a3, a4, a5, rfl⟩ := list6 hl
  obtain ⟨n0, rfl, k0⟩ := field_i64 Tryz.underlying2 cl_i64 (i := 0) (by omega) (o := 0) rfl (hf 0 _ rfl)
  obtain ⟨n1, rfl, k1⟩ := field_i64 Tryz.underlying2 cl_i64 (i := 1) (by omega) (o := 1) rfl (hf 1 _ rfl)
  obtain ⟨n2, rfl, k2⟩ := field_i64 Tryz.underlying2 cl_i64 (i := 2) (by omega) (o := 2) rfl (hf 2 _ rfl)
  obtain ⟨n3, rfl, k3⟩ := field_i64 Tryz.underlying2 cl_i64 (i := 3) (by omega) (o := 3) rfl (hf 3 _ rfl)
  obtain ⟨n4, rfl, k4⟩ := field_i64 Tryz.underlying2 cl_i64 (i := 4) (by omega) (o := 4) rfl (hf 4 _ rfl)
  obtain ⟨n5, rfl, k5⟩ := field_i64 Tryz.underlying2 cl_i64 (i := 5) (by omega) (o := 5) rfl (hf 5 _ rfl)
  exact ⟨⟨n0, n1, n2, n3, n4, n5⟩, ⟨k0, k1, k2, k3, k4, k5⟩, rfl⟩

theorem call_reads {fuel : Nat} {cs : List Value} {x : DataW H × List MemPlace} (h : DataW.trod enc Tryz.prog w base spare held fuel 37 cs = some x) :
    ∃ c : CallD, c.ok ∧ cs = callCells c := by
  obtain ⟨xs, n, _, _, hl, hx, hf⟩ := DataW.trod_struct Tryz.underlying37 h
  rw [cl_call] at hl
  replace hx : xs.length = 6 := hx
  obtain ⟨a0, a1, a2, a3, a4, a5, a6, a7, a8, a9, a10, rfl⟩ := list11 hl
  obtain ⟨n0, rfl, k0⟩ := field_i64 Tryz.underlying3 cl_int (i := 0) (by omega) (o := 0) rfl (hf 0 _ rfl)
  obtain ⟨n1, rfl, k1⟩ := field_str Tryz.underlying9 cl_str (i := 1) (by omega) (o := 1) rfl (hf 1 _ rfl)
  obtain ⟨n2, rfl, k2⟩ := field_i64 Tryz.underlying2 cl_i64 (i := 2) (by omega) (o := 2) rfl (hf 2 _ rfl)
  obtain ⟨n3, rfl, k3⟩ := field_i64 Tryz.underlying2 cl_i64 (i := 3) (by omega) (o := 3) rfl (hf 3 _ rfl)
  obtain ⟨n4, rfl, k4⟩ := field_i64 Tryz.underlying3 cl_int (i := 4) (by omega) (o := 4) rfl (hf 4 _ rfl)
  have h5 := hf 5 _ rfl
  rw [List.getElem?_eq_getElem (by omega)] at h5
  obtain ⟨p, k5, hp⟩ := pol_reads h5
  replace hp : ([a5, a6, a7, a8, a9, a10] : List Value).take (Tryz.prog.cellsOf 35) = _ := hp
  rw [cl_pol] at hp
  simp only [List.take_succ_cons, List.take_zero, List.cons.injEq, and_true] at hp
  obtain ⟨rfl, rfl, rfl, rfl, rfl, rfl⟩ := hp
  exact ⟨⟨n0, n1, n2, n3, n4, p⟩, ⟨k0, k1, k2, k3, k4, k5⟩, rfl⟩

theorem calls_row {fuel : Nat} {cs : List Value} {x : DataW H × List MemPlace} (h : DataW.trod enc Tryz.prog w base spare held fuel 24 cs = some x) :
    ∃ (v : Value) (l : List CallD), cs = [v] ∧ l.length ≤ maxLen ∧ (∀ p ∈ l, p.ok) ∧ RowIn 11 callCells w v l := by
  haveI : Inhabited CallD := ⟨⟨0, ⟨#[]⟩, 0, 0, 0, ⟨0, 0, 0, 0, 0, 0⟩⟩⟩
  exact row_read (f := callCells) Tryz.underlying24 cl_call (by decide) (fun _ _ _ h => call_reads h) h
end
end

section
set_option linter.unusedSimpArgs false
set_option linter.unusedVariables false
open Go.RowKit Go.Lib Go.Sort

theorem cfgOk_of {c : Cfg} (hc : cfgB c = true) (hok : c.ok) : CfgOk c c.sa.toNat c.hi.toNat := by
  have h := hc
  unfold cfgB at h
  simp only [Bool.and_eq_true, decide_eq_true_eq] at h
  exact ⟨hc, by omega, by omega, hok⟩
end

section
set_option linter.unusedSimpArgs false
set_option linter.unusedVariables false
open Go.RowKit Go.Lib Go.Sort

/-- Behind n acts: the store, and that no old thing turned. -/
structure StWr (w wr : World) (S : Nat) (c : Cfg) (rs rh n : Nat) (wd : Wd) (d : StoD) : Prop where
  sw : SW (fun b => w.heap.size ≤ b) wr S c rs rh n wd d
  b : Below w.heap.size w wr
theorem StWr.below {w wr w' : World} {S : Nat} {c : Cfg} {rs rh n : Nat} {wd : Wd} {d : StoD} (h : StWr w wr S c rs rh n wd d) (hb : Below wr.heap.size wr w') : StWr w w' S c rs rh n wd d := ⟨h.sw.below hb, bthen h.b hb⟩
theorem StWr.do_ {w wr : World} {S : Nat} {c : Cfg} {rs rh n : Nat} {wd : Wd} {d : StoD} (h : StWr w wr S c rs rh n wd d) (hc : CfgOk c rs rh) (hn : n ≤ 99) (x : CallD) (hx : x.ok) {wd' : Wd} {rp : RepD} (hr : doW c rs rh wd x = (wd', rp)) :
    Calls Tryz.prog 28 #[.pointer (some ⟨S, 0, none⟩), callV x] wr fun e w' => ∃ d', e = .returned (repV rp) ∧ StWr w w' S c rs rh (n + 1) wd' d' ∧ Upd wr w' (d.fp S) (d'.fp S) := by
  refine (sw_do h.sw (fun b hb => Nat.le_trans h.b.size hb) hc hn x hx).mono ?_
  rw [hr]
  rintro e w' ⟨d', rfl, hd, hu⟩
  exact ⟨d', rfl, ⟨hd, h.b.trans (hu.below h.b.size (fun r hr => (h.sw.at_.fpLt r hr).2))⟩, hu⟩
theorem StWr.kept {w wr : World} {S : Nat} {c : Cfg} {rs rh n : Nat} {wd : Wd} {d : StoD} (h : StWr w wr S c rs rh n wd d) {X : Nat} {o : Obj} {W : World} (hX : W.heap[X]? = some o) (hl : wr.heap.size ≤ X) : Kept W (d.fp S) X o :=
  ⟨hX, fun hq => by have := (h.sw.at_.fpLt _ hq).1; omega⟩

/-- Behind the first Snap: the first reply, the look and what it told stand in blocks X, X + 1, Y. -/
structure StCutAt (w wr : World) (S : Nat) (c : Cfg) (rs rh n : Nat) (wd : Wd) (d : StoD) (X Y : Nat) (hd e0 : Int) (id : ByteArray) (til wid : Int) (lk : RepD) : Prop where
  st : StWr w wr S c rs rh n wd d
  first : Kept wr (d.fp S) X (.cells #[.int .i64 0, .int .i64 e0, .int .i64 hd, .int .i64 0, .int .i64 0, .int .i64 0, .int .i64 0, .int .i64 0, .int .i64 0, .int .i64 0, .int .i64 0, .int .i64 0, .int .i64 0] 46 (0, 0))
  look : Kept wr (d.fp S) (X + 1) (.cells #[.int .i64 5, .string id, .int .i64 til, .int .i64 wid, .int .i64 hd, .int .i64 0, .int .i64 0, .int .i64 0, .int .i64 0, .int .i64 0, .int .i64 0] 37 (0, 0))
  was : Kept wr (d.fp S) Y (.cells #[.int .i64 lk.err, .int .i64 lk.ep, .int .i64 lk.hd, .int .i64 lk.st.cnt, .int .i64 lk.st.sum, .int .i64 lk.st.least, .int .i64 lk.st.most, .int .i64 lk.st.mean, .int .i64 lk.adv.tick, .int .i64 lk.adv.load, .int .i64 lk.adv.want, .int .i64 lk.adv.repl, .int .i64 lk.adv.why] 46 (0, 0))
theorem StCutAt.below {w wr w' : World} {S : Nat} {c : Cfg} {rs rh n : Nat} {wd : Wd} {d : StoD} {X Y : Nat} {hd e0 : Int} {id : ByteArray} {til wid : Int} {lk : RepD} (h : StCutAt w wr S c rs rh n wd d X Y hd e0 id til wid lk) (hb : Below wr.heap.size wr w') : StCutAt w w' S c rs rh n wd d X Y hd e0 id til wid lk :=
  ⟨h.st.below hb, h.first.below hb, h.look.below hb, h.was.below hb⟩
theorem StCutAt.keep {w wr V w' : World} {S : Nat} {c : Cfg} {rs rh n : Nat} {wd : Wd} {d d' : StoD} {X Y : Nat} {hd e0 : Int} {id : ByteArray} {til wid : Int} {lk : RepD} (h : StCutAt w wr S c rs rh n wd d X Y hd e0 id til wid lk) (hb : Below wr.heap.size wr V) (hu : Upd V w' (d.fp S) (d'.fp S)) :
    Kept w' (d'.fp S) X (.cells #[.int .i64 0, .int .i64 e0, .int .i64 hd, .int .i64 0, .int .i64 0, .int .i64 0, .int .i64 0, .int .i64 0, .int .i64 0, .int .i64 0, .int .i64 0, .int .i64 0, .int .i64 0] 46 (0, 0)) ∧ Kept w' (d'.fp S) (X + 1) (.cells #[.int .i64 5, .string id, .int .i64 til, .int .i64 wid, .int .i64 hd, .int .i64 0, .int .i64 0, .int .i64 0, .int .i64 0, .int .i64 0, .int .i64 0] 37 (0, 0)) ∧ Kept w' (d'.fp S) Y (.cells #[.int .i64 lk.err, .int .i64 lk.ep, .int .i64 lk.hd, .int .i64 lk.st.cnt, .int .i64 lk.st.sum, .int .i64 lk.st.least, .int .i64 lk.st.most, .int .i64 lk.st.mean, .int .i64 lk.adv.tick, .int .i64 lk.adv.load, .int .i64 lk.adv.want, .int .i64 lk.adv.repl, .int .i64 lk.adv.why] 46 (0, 0)) :=
  ⟨(h.first.below hb).upd hu, (h.look.below hb).upd hu, (h.was.below hb).upd hu⟩

set_option maxRecDepth 100000 in
set_option maxHeartbeats 16000000 in
theorem stCuts_nil (c : Cfg) (v : Value) (l : List CallD) (u : Value) (m : List CallD) (id : ByteArray) (til wid : Int) (w : World) (hv : RowIn 11 callCells w v l) (hok : ∀ p ∈ l, p.ok) (hu : RowIn 11 callCells w u m) (hok2 : ∀ p ∈ m, p.ok) (hc : c.ok) (hid : id.size ≤ maxLen) (ht : I64 til) (hw : I64 wid) (hcb : cfgB c = false) :
    Calls Tryz.prog 6 #[cfgV c, v, u, .string id, .int .i64 til, .int .i64 wid] w fun e w' => e = .returned (.bool true) ∧ Below w.heap.size w w' := by
  obtain ⟨A, cp, rfl⟩ := hv.form
  obtain ⟨A2, cp2, rfl⟩ := hu.form
  have CR := Lib.hid (fun W => ref17Right_any c W)
  rw [hcb] at CR
  unfold cfgV at CR ⊢
  clear hv hok hu hok2 hc hid ht hw hcb
  go_enter Tryz.func6, Tryz.ntmps6
  go_wp2_with (first
    | (go_at_call 26
       refine calls_named ?_
       intro W1 hW1
       have HB1 := Lib.hid (show Below w.heap.size w W1 by rw [hW1]; exact balloc (Below.refl _ _) _)
       have HC1 := Lib.hid (show W1.heap[w.heap.size]? = some (.cells #[.int .i64 c.st, .int .i64 c.sa, .int .i64 c.lo, .int .i64 c.hi] 23 (0, 0)) by rw [hW1]; exact heap_alloc_new _ _)
       clear hW1
       refine (awake21_any W1).mono ?_
       rintro e w2 ⟨rfl, hb⟩
       have HB2 := Lib.hid (bthen HB1.out hb)
       have HC2 := Lib.hid ((hb.block _ (Array.getElem?_eq_some_iff.1 HC1.out).1).trans HC1.out)
       obtain ⟨c1, c2, c3⟩ := box_cells (Below.refl _ _) HC2.out
       clear hb)
    | (go_at_call 13
       refine (CR.out _).mono ?_
       rintro e w3 ⟨rfl, hb⟩
       have HB3 := Lib.hid (bthen HB2.out hb)
       have HC3 := Lib.hid ((hb.block _ (Array.getElem?_eq_some_iff.1 HC2.out).1).trans HC2.out)
       clear c1 c2 c3
       obtain ⟨c1, c2, c3⟩ := box_cells (Below.refl _ _) HC3.out
       clear hb))
  go_ret
  exact ⟨rfl, HB3.out⟩

set_option maxRecDepth 100000 in
set_option maxHeartbeats 16000000 in
theorem stCuts_long1 (c : Cfg) (v : Value) (l : List CallD) (u : Value) (m : List CallD) (id : ByteArray) (til wid : Int) (w : World) (hv : RowIn 11 callCells w v l) (hok : ∀ p ∈ l, p.ok) (hu : RowIn 11 callCells w u m) (hok2 : ∀ p ∈ m, p.ok) (hc : c.ok) (hid : id.size ≤ maxLen) (ht : I64 til) (hw : I64 wid) (hcb : cfgB c = true) (hl : 30 < l.length) :
    Calls Tryz.prog 6 #[cfgV c, v, u, .string id, .int .i64 til, .int .i64 wid] w fun e w' => e = .returned (.bool true) ∧ Below w.heap.size w w' := by
  obtain ⟨A, cp, rfl⟩ := hv.form
  obtain ⟨A2, cp2, rfl⟩ := hu.form
  have CR := Lib.hid (fun W => ref17Right_any c W)
  rw [hcb] at CR
  have q0 : (30 : Int) < (l.length : Int) := by omega
  unfold cfgV at CR ⊢
  clear hv hok hu hok2 hc hid ht hw hcb hl
  go_enter Tryz.func6, Tryz.ntmps6
  go_wp2_with (first
    | (go_at_call 26
       refine calls_named ?_
       intro W1 hW1
       have HB1 := Lib.hid (show Below w.heap.size w W1 by rw [hW1]; exact balloc (Below.refl _ _) _)
       have HC1 := Lib.hid (show W1.heap[w.heap.size]? = some (.cells #[.int .i64 c.st, .int .i64 c.sa, .int .i64 c.lo, .int .i64 c.hi] 23 (0, 0)) by rw [hW1]; exact heap_alloc_new _ _)
       clear hW1
       refine (awake21_any W1).mono ?_
       rintro e w2 ⟨rfl, hb⟩
       have HB2 := Lib.hid (bthen HB1.out hb)
       have HC2 := Lib.hid ((hb.block _ (Array.getElem?_eq_some_iff.1 HC1.out).1).trans HC1.out)
       obtain ⟨c1, c2, c3⟩ := box_cells (Below.refl _ _) HC2.out
       clear hb)
    | (go_at_call 13
       refine (CR.out _).mono ?_
       rintro e w3 ⟨rfl, hb⟩
       have HB3 := Lib.hid (bthen HB2.out hb)
       have HC3 := Lib.hid ((hb.block _ (Array.getElem?_eq_some_iff.1 HC2.out).1).trans HC2.out)
       clear c1 c2 c3
       obtain ⟨c1, c2, c3⟩ := box_cells (Below.refl _ _) HC3.out
       clear hb))
  go_ret
  exact ⟨rfl, HB3.out⟩

set_option maxRecDepth 100000 in
set_option maxHeartbeats 16000000 in
theorem stCuts_long2 (c : Cfg) (v : Value) (l : List CallD) (u : Value) (m : List CallD) (id : ByteArray) (til wid : Int) (w : World) (hv : RowIn 11 callCells w v l) (hok : ∀ p ∈ l, p.ok) (hu : RowIn 11 callCells w u m) (hok2 : ∀ p ∈ m, p.ok) (hc : c.ok) (hid : id.size ≤ maxLen) (ht : I64 til) (hw : I64 wid) (hcb : cfgB c = true) (hl : l.length ≤ 30) (hm : 30 < m.length) :
    Calls Tryz.prog 6 #[cfgV c, v, u, .string id, .int .i64 til, .int .i64 wid] w fun e w' => e = .returned (.bool true) ∧ Below w.heap.size w w' := by
  obtain ⟨A, cp, rfl⟩ := hv.form
  obtain ⟨A2, cp2, rfl⟩ := hu.form
  have CR := Lib.hid (fun W => ref17Right_any c W)
  rw [hcb] at CR
  have q0 : ¬ (30 : Int) < (l.length : Int) := by omega
  have q1 : (30 : Int) < (m.length : Int) := by omega
  unfold cfgV at CR ⊢
  clear hv hok hu hok2 hc hid ht hw hcb hl hm
  go_enter Tryz.func6, Tryz.ntmps6
  go_wp2_with (first
    | (go_at_call 26
       refine calls_named ?_
       intro W1 hW1
       have HB1 := Lib.hid (show Below w.heap.size w W1 by rw [hW1]; exact balloc (Below.refl _ _) _)
       have HC1 := Lib.hid (show W1.heap[w.heap.size]? = some (.cells #[.int .i64 c.st, .int .i64 c.sa, .int .i64 c.lo, .int .i64 c.hi] 23 (0, 0)) by rw [hW1]; exact heap_alloc_new _ _)
       clear hW1
       refine (awake21_any W1).mono ?_
       rintro e w2 ⟨rfl, hb⟩
       have HB2 := Lib.hid (bthen HB1.out hb)
       have HC2 := Lib.hid ((hb.block _ (Array.getElem?_eq_some_iff.1 HC1.out).1).trans HC1.out)
       obtain ⟨c1, c2, c3⟩ := box_cells (Below.refl _ _) HC2.out
       clear hb)
    | (go_at_call 13
       refine (CR.out _).mono ?_
       rintro e w3 ⟨rfl, hb⟩
       have HB3 := Lib.hid (bthen HB2.out hb)
       have HC3 := Lib.hid ((hb.block _ (Array.getElem?_eq_some_iff.1 HC2.out).1).trans HC2.out)
       clear c1 c2 c3
       obtain ⟨c1, c2, c3⟩ := box_cells (Below.refl _ _) HC3.out
       clear hb))
  go_ret
  exact ⟨rfl, HB3.out⟩

set_option maxRecDepth 100000 in
set_option maxHeartbeats 16000000 in
theorem stCuts_main (c : Cfg) (v : Value) (l : List CallD) (u : Value) (m : List CallD) (id : ByteArray) (til wid : Int) (w : World) (hv : RowIn 11 callCells w v l) (hok : ∀ p ∈ l, p.ok) (hu : RowIn 11 callCells w u m) (hok2 : ∀ p ∈ m, p.ok) (hc : c.ok) (hid : id.size ≤ maxLen) (ht : I64 til) (hw : I64 wid) (hcb : cfgB c = true) (hl : l.length ≤ 30) (hm : m.length ≤ 30) :
    Calls Tryz.prog 6 #[cfgV c, v, u, .string id, .int .i64 til, .int .i64 wid] w fun e w' => e = .returned (.bool true) ∧ Below w.heap.size w w' := by
  obtain ⟨A, cp, rfl⟩ := hv.form
  obtain ⟨A2, cp2, rfl⟩ := hu.form
  have hcc := cfgOk_of hcb hc
  have HCC := Lib.hid hcc
  have CN := Lib.hid (fun W => sw_new (w := W) hcc)
  have CR := Lib.hid (fun W => ref17Right_any c W)
  rw [hcb] at CR
  have HV := Lib.hid hv
  have HOK := Lib.hid hok
  have HU := Lib.hid hu
  have HOK2 := Lib.hid hok2
  have HLK := Lib.hid (And.intro hid (And.intro ht hw))
  have HL := Lib.hid hl
  have HM := Lib.hid hm
  obtain ⟨rs, hrs⟩ : ∃ rs, rs = c.sa.toNat := ⟨_, rfl⟩
  obtain ⟨rh, hrh⟩ : ∃ rh, rh = c.hi.toNat := ⟨_, rfl⟩
  rw [← hrs, ← hrh] at HCC CN
  have q0 : ¬ (30 : Int) < (l.length : Int) := by omega
  have q1 : ¬ (30 : Int) < (m.length : Int) := by omega
  unfold cfgV at CN CR ⊢
  clear hv hok hu hok2 hcc hc hid ht hw hcb hrs hrh hl hm
  go_enter Tryz.func6, Tryz.ntmps6
  go_wp2_with (first
    | (go_at_call 26
       refine calls_named ?_
       intro W1 hW1
       have HB1 := Lib.hid (show Below w.heap.size w W1 by rw [hW1]; exact balloc (Below.refl _ _) _)
       have HC1 := Lib.hid (show W1.heap[w.heap.size]? = some (.cells #[.int .i64 c.st, .int .i64 c.sa, .int .i64 c.lo, .int .i64 c.hi] 23 (0, 0)) by rw [hW1]; exact heap_alloc_new _ _)
       clear hW1
       refine (awake21_any W1).mono ?_
       rintro e w2 ⟨rfl, hb⟩
       have HB2 := Lib.hid (bthen HB1.out hb)
       have HC2 := Lib.hid ((hb.block _ (Array.getElem?_eq_some_iff.1 HC1.out).1).trans HC1.out)
       obtain ⟨c1, c2, c3⟩ := box_cells (Below.refl _ _) HC2.out
       clear hb)
    | (go_at_call 13
       refine (CR.out _).mono ?_
       rintro e w3 ⟨rfl, hb⟩
       have HB3 := Lib.hid (bthen HB2.out hb)
       have HC3 := Lib.hid ((hb.block _ (Array.getElem?_eq_some_iff.1 HC2.out).1).trans HC2.out)
       clear c1 c2 c3
       obtain ⟨c1, c2, c3⟩ := box_cells (Below.refl _ _) HC3.out
       clear hb)
    | (go_at_call 27
       refine (CN.out _).mono ?_
       rintro e w4 ⟨S, d0, rfl, hd, hb⟩
       have HP4 := Lib.hid (show StWr w3 w4 S c rs rh 0 (newW c.st.toNat) d0 from ⟨hd, hb⟩)
       clear hb hd c1 c2 c3))
  go_loopg [47] l.length (fun g s47 wr => ∃ (k : Nat) (wd : Wd) (d : StoD), k ≤ l.length ∧ l.length - k ≤ g ∧ s47 = .int .i64 k ∧ StWr w3 wr S c rs rh k wd d)
  case atStart => exact ⟨0, _, d0, Nat.zero_le _, Nat.le_refl _, rfl, HP4.out⟩
  case round =>
    obtain ⟨k, wd, d, hk, hg, rfl, hp⟩ := hrel
    rename World => wr
    have HP := Lib.hid hp
    clear hp
    by_cases hlt : k < l.length
    · have z1 : (k : Int) < (l.length : Int) := by omega
      have z2 : (0 : Int) ≤ (k : Int) := by omega
      have hll := HL.out
      obtain ⟨b, o, rfl, hbw, hcx⟩ := HV.out.at_ hlt
      have hxok := HOK.out _ (List.getElem_mem hlt)
      generalize l[k] = x at hcx hxok
      have hbb : ∀ j u, (callCells x)[j]? = some u → wr.cell? ⟨b, o + k * 11 + j, none⟩ = some u := fun j u hu => by
        have hlow : b < w3.heap.size := Nat.lt_of_lt_of_le hbw HB3.out.size
        exact (HP.out.b.cell (p := ⟨b, _, none⟩) hlow).trans ((HB3.out.cell (p := ⟨b, _, none⟩) hbw).trans (hcx j u hu))
      obtain ⟨⟨wd', rp⟩, hdw⟩ : ∃ r, doW c rs rh wd x = r := ⟨_, rfl⟩
      have CD := Lib.hid (fun W (hW : Below wr.heap.size wr W) => (HP.out.below hW).do_ HCC.out (by omega) x hxok hdw)
      clear hcx hxok hdw hll
      obtain ⟨kind, xid, tick, val, handle, ⟨p0, p1, p2, p3, p4, p5⟩⟩ := x
      have x0 := hbb 0 _ rfl
      have x1 := hbb 1 _ rfl
      have x2 := hbb 2 _ rfl
      have x3 := hbb 3 _ rfl
      have x4 := hbb 4 _ rfl
      have x5 := hbb 5 _ rfl
      have x6 := hbb 6 _ rfl
      have x7 := hbb 7 _ rfl
      have x8 := hbb 8 _ rfl
      have x9 := hbb 9 _ rfl
      have x10 := hbb 10 _ rfl
      rw [Nat.add_zero] at x0
      unfold callV at CD
      dsimp only at x0 x1 x2 x3 x4 x5 x6 x7 x8 x9 x10 CD
      clear hbb
      go_wp2_with (first
        | (go_at_call 28
           refine calls_named ?_
           intro V hV
           have hd : Below wr.heap.size wr V := by rw [hV]; exact balloc (Below.refl _ _) _
           clear hV
           refine (CD.out V hd).mono ?_
           rintro e u1 ⟨d', rfl, hs, hu⟩
           have HS := Lib.hid hs
           clear hd hs hu))
      go_roundg (l.length - (k + 1))
      case measure => omega
      case rel => exact ⟨k + 1, wd', d', hlt, Nat.le_refl _, by go_num, HS.out⟩
    · obtain rfl : k = l.length := by omega
      have z1 : ¬ (l.length : Int) < (l.length : Int) := by omega
      have hll := HL.out
      by_cases hfull : 64 ≤ liveT (tabW wd)
      · have CD := Lib.hid (fun W (hW : Below wr.heap.size wr W) => (HP.out.below hW).do_ HCC.out (by omega) snD ⟨i64_small (by decide), by decide, i64_small (by decide), i64_small (by decide), i64_small (by decide), pol0_ok⟩ (do_snap.trans (snap_full hfull)))
        unfold snD callV pol0 repV repC repF st0 adv0 at CD
        dsimp only at CD
        clear hfull hll
        go_wp2_with (first
          | (go_at_call 28
             refine (CD.out _ (Below.refl _ _)).mono ?_
             rintro e u1 ⟨d', rfl, hs, hu⟩
             have HS := Lib.hid hs
             clear hs hu))
        go_ret
        exact ⟨rfl, bthen (HB3.out.trans (HS.out.b.mono HB3.out.size)) (balloc (Below.refl _ _) _)⟩
      · have CD := Lib.hid (fun W (hW : Below wr.heap.size wr W) => (HP.out.below hW).do_ HCC.out (by omega) snD ⟨i64_small (by decide), by decide, i64_small (by decide), i64_small (by decide), i64_small (by decide), pol0_ok⟩ (do_snap.trans (snap_ok hfull)))
        obtain ⟨h, hh⟩ : ∃ h, h = wd.cuts.length := ⟨_, rfl⟩
        obtain ⟨e0, he0⟩ : ∃ e : Int, e = wd.ep + 1 := ⟨_, rfl⟩
        obtain ⟨q, hq9⟩ : ∃ q : CutD, q = ⟨wd.ep + 1, allW wd, false⟩ := ⟨_, rfl⟩
        obtain ⟨wd1, hw1⟩ : ∃ W : Wd, W = { wd with ep := wd.ep + 1, cuts := wd.cuts ++ [⟨wd.ep + 1, allW wd, false⟩] } := ⟨_, rfl⟩
        have hep := HP.out.sw.ok.ep
        have hcl := HP.out.sw.ok.cuts
        have HQ := Lib.hid (show wd1.cuts[h]? = some q ∧ q.freed = false ∧ 0 ≤ q.ep ∧ wd1.ep = e0 ∧ h ≤ 100 by
          rw [hw1, hq9, hh]
          exact ⟨by simp, rfl, by show 0 ≤ wd.ep + 1; omega, he0.symm, by omega⟩)
        rw [← hw1, ← hh, ← he0] at CD
        unfold snD callV pol0 repV repC st0 adv0 at CD
        dsimp only at CD
        obtain ⟨hd, hhd⟩ : ∃ n : Int, n = ((h + 1 : Nat) : Int) := ⟨_, rfl⟩
        rw [← hhd] at CD
        have HHD := Lib.hid hhd
        obtain ⟨lk, hlk⟩ : ∃ r, r = lkR q id til wid := ⟨_, rfl⟩
        have HLR := Lib.hid hlk
        have HLOK := Lib.hid (show (lkD id til wid h).ok from ⟨(show I64 (5 : Int) from i64_small (by decide)), HLK.out.1, HLK.out.2.1, HLK.out.2.2, (by show I64 ((h + 1 : Nat) : Int); have := HQ.out.2.2.2.2; unfold I64; omega), pol0_ok⟩)
        have CL := Lib.hid (show ∀ (w0 wx : World) (n : Nat) (wdx : Wd) (dx : StoD), n ≤ 99 → wdx.cuts[h]? = some q → StWr w0 wx S c rs rh n wdx dx → Calls Tryz.prog 28 #[.pointer (some ⟨S, 0, none⟩), .agg #[.int .i64 5, .string id, .int .i64 til, .int .i64 wid, .int .i64 hd, .int .i64 0, .int .i64 0, .int .i64 0, .int .i64 0, .int .i64 0, .int .i64 0]] wx fun e w' => ∃ d', e = .returned (.agg #[.int .i64 lk.err, .int .i64 lk.ep, .int .i64 lk.hd, .int .i64 lk.st.cnt, .int .i64 lk.st.sum, .int .i64 lk.st.least, .int .i64 lk.st.most, .int .i64 lk.st.mean, .int .i64 lk.adv.tick, .int .i64 lk.adv.load, .int .i64 lk.adv.want, .int .i64 lk.adv.repl, .int .i64 lk.adv.why]) ∧ StWr w0 w' S c rs rh (n + 1) wdx d' ∧ Upd wx w' (dx.fp S) (d'.fp S) from fun w0 wx n wdx dx hn hc9 h9 => by
          have := h9.do_ HCC.out hn (lkD id til wid h) HLOK.out (look_same hc9 HQ.out.2.1 HQ.out.2.2.1 id til wid)
          rw [← HLR.out] at this
          unfold lkD callV pol0 repV repC at this
          dsimp only at this
          rw [← HHD.out] at this
          exact this)
        have CF := Lib.hid (show ∀ (w0 wx : World) (n : Nat) (wdx : Wd) (dx : StoD) (q9 : CutD), n ≤ 99 → wdx.cuts[h]? = some q9 → q9.freed = true → StWr w0 wx S c rs rh n wdx dx → ∃ er : Int, (er = 2 ∨ er = 8) ∧ Calls Tryz.prog 28 #[.pointer (some ⟨S, 0, none⟩), .agg #[.int .i64 5, .string id, .int .i64 til, .int .i64 wid, .int .i64 hd, .int .i64 0, .int .i64 0, .int .i64 0, .int .i64 0, .int .i64 0, .int .i64 0]] wx fun e w' => ∃ d', e = .returned (.agg #[.int .i64 er, .int .i64 0, .int .i64 0, .int .i64 0, .int .i64 0, .int .i64 0, .int .i64 0, .int .i64 0, .int .i64 0, .int .i64 0, .int .i64 0, .int .i64 0, .int .i64 0]) ∧ StWr w0 w' S c rs rh (n + 1) wdx d' ∧ Upd wx w' (dx.fp S) (d'.fp S) from fun w0 wx n wdx dx q9 hn hc9 hf9 h9 => by
          have := h9.do_ HCC.out hn (lkD id til wid h) HLOK.out (look_freed hc9 hf9 id til wid)
          refine ⟨if idS id = false then 2 else 8, by split <;> simp, ?_⟩
          generalize (if idS id = false then (2 : Int) else 8) = er at this ⊢
          unfold lkD callV pol0 repV repC repF st0 adv0 at this
          dsimp only at this
          rw [← HHD.out] at this
          exact this)
        obtain ⟨l0, hl0⟩ : ∃ n, n = l.length := ⟨_, rfl⟩
        have HL0 := Lib.hid (show l0 ≤ 30 by omega)
        rw [← hl0] at CD
        clear hw1 hq9 hh he0 hfull hep hcl hhd hlk hll hl0
        go_upto_region 15 with (first
          | (go_at_call 28
             refine (CD.out _ (Below.refl _ _)).mono ?_
             rintro e u1 ⟨d1, rfl, hs, hu⟩
             have HS1 := Lib.hid hs
             clear hs hu))
        refine name_world ?_
        intro W5 hW5
        have hd5 : Below u1.heap.size u1 W5 := by rw [hW5]; exact balloc (balloc (Below.refl _ _) _) _
        have HF5 := Lib.hid (show W5.heap[u1.heap.size]? = some (.cells #[.int .i64 0, .int .i64 e0, .int .i64 hd, .int .i64 0, .int .i64 0, .int .i64 0, .int .i64 0, .int .i64 0, .int .i64 0, .int .i64 0, .int .i64 0, .int .i64 0, .int .i64 0] 46 (0, 0)) by rw [hW5]; exact box_old _ _ _)
        have HK5 := Lib.hid (show W5.heap[u1.heap.size + 1]? = some (.cells #[.int .i64 5, .string id, .int .i64 til, .int .i64 wid, .int .i64 hd, .int .i64 0, .int .i64 0, .int .i64 0, .int .i64 0, .int .i64 0, .int .i64 0] 37 (0, 0)) by rw [hW5]; exact box_new _ _ _)
        have HS5 := Lib.hid (HS1.out.below hd5)
        have HN5 := Lib.hid (show u1.heap.size ∉ d1.fp S ∧ u1.heap.size + 1 ∉ d1.fp S from ⟨fun hq => by have := (HS1.out.sw.at_.fpLt _ hq).1; omega, fun hq => by have := (HS1.out.sw.at_.fpLt _ hq).1; omega⟩)
        clear hW5 hd5
        generalize u1.heap.size = X at HF5 HK5 HN5
        obtain ⟨a1, a2, a3⟩ := box_cells (Below.refl _ _) HK5.out
        go_upto_region 16 with (first
          | (go_at_call 28
             refine (CL.out w3 W5 (l0 + 1) wd1 d1 (by have := HL0.out; omega) HQ.out.1 HS5.out).mono ?_
             rintro e u2 ⟨d2, rfl, hs, hu⟩
             have HS2 := Lib.hid hs
             have HF2 := Lib.hid (upd_at hu HN5.out.1 HF5.out)
             have HK2 := Lib.hid (upd_at hu HN5.out.2 HK5.out)
             have HN2 := Lib.hid (show X ∉ d2.fp S ∧ X + 1 ∉ d2.fp S from ⟨fun hq => (hu.fresh _ hq).elim HN5.out.1 (fun h9 => by have := (Array.getElem?_eq_some_iff.1 HF5.out).1; omega), fun hq => (hu.fresh _ hq).elim HN5.out.2 (fun h9 => by have := (Array.getElem?_eq_some_iff.1 HK5.out).1; omega)⟩)
             clear hs hu a1 a2 a3))
        refine name_world ?_
        intro W6 hW6
        have hd6 : Below u2.heap.size u2 W6 := by rw [hW6]; exact balloc (Below.refl _ _) _
        have HA6 := Lib.hid (show StCutAt w3 W6 S c rs rh (l0 + 2) wd1 d2 X u2.heap.size hd e0 id til wid lk from
          ⟨HS2.out.below hd6, ⟨(hd6.block _ (Array.getElem?_eq_some_iff.1 HF2.out).1).trans HF2.out, HN2.out.1⟩, ⟨(hd6.block _ (Array.getElem?_eq_some_iff.1 HK2.out).1).trans HK2.out, HN2.out.2⟩, HS2.out.kept (by rw [hW6]; exact heap_alloc_new _ _) (Nat.le_refl _)⟩)
        clear hW6 hd6
        generalize u2.heap.size = Y at HA6
        obtain ⟨a1, a2, a3⟩ := box_cells (Below.refl _ _) HA6.out.first.at_
        go_upto_region 17 with fail
        clear a1 a2 a3
        go_wp2_with fail
        have HE := Lib.hid HQ.out.2.2.2.1
        go_loopg [20, 77] m.length (fun g s20 s77 wr => ∃ (k : Nat) (wd : Wd) (d : StoD), k ≤ m.length ∧ m.length - k ≤ g ∧ s77 = .int .i64 k ∧ s20 = .int .i64 wd.ep ∧ wd.cuts[h]? = some q ∧ StCutAt w3 wr S c rs rh (l0 + 2 + 2 * k) wd d X Y hd e0 id til wid lk)
        case atStart => exact ⟨0, wd1, d2, Nat.zero_le _, Nat.le_refl _, rfl, by rw [HE.out], HQ.out.1, HA6.out⟩
        case round =>
          obtain ⟨k, wdk, dk, hk2, hg2, rfl, rfl, hck, hat⟩ := hrel
          rename World => wr2
          have HA := Lib.hid hat
          have HCK := Lib.hid hck
          have hmm := HM.out
          have hl0 := HL0.out
          clear hat hck
          by_cases hlt : k < m.length
          · have z1 : (k : Int) < (m.length : Int) := by omega
            have z2 : (0 : Int) ≤ (k : Int) := by omega
            obtain ⟨b, o, rfl, hbw, hcx⟩ := HU.out.at_ hlt
            have hxok := HOK2.out _ (List.getElem_mem hlt)
            generalize m[k] = x at hcx hxok
            have hbb : ∀ j u, (callCells x)[j]? = some u → wr2.cell? ⟨b, o + k * 11 + j, none⟩ = some u := fun j u hu => by
              have hlow : b < w3.heap.size := Nat.lt_of_lt_of_le hbw HB3.out.size
              exact (HA.out.st.b.cell (p := ⟨b, _, none⟩) hlow).trans ((HB3.out.cell (p := ⟨b, _, none⟩) hbw).trans (hcx j u hu))
            obtain ⟨⟨wd', rp⟩, hdw⟩ : ∃ r, doW c rs rh wdk x = r := ⟨_, rfl⟩
            have CD := Lib.hid (fun W (hW : Below wr2.heap.size wr2 W) => (HA.out.st.below hW).do_ HCC.out (by omega) x hxok hdw)
            have HDC := Lib.hid (fun (hx : ¬ (x.kind = 4 ∧ x.handle = ((h + 1 : Nat) : Int))) => by
              have := do_cut (c := c) (rs := rs) (rh := rh) HCK.out x hx
              rw [hdw] at this
              exact this)
            have HDF := Lib.hid (fun (hx1 : x.kind = 4) (hx2 : x.handle = ((h + 1 : Nat) : Int)) => by
              have := free_this (c := c) (rs := rs) (rh := rh) HCK.out HQ.out.2.1 HQ.out.2.2.1 x.id x.tick x.val x.pol
              rw [← hx1, ← hx2] at this
              have hdw' : doW c rs rh wdk ⟨x.kind, x.id, x.tick, x.val, x.handle, x.pol⟩ = (wd', rp) := hdw
              rw [hdw'] at this
              exact this)
            rw [← HHD.out] at HDC HDF
            clear hcx hxok hdw
            obtain ⟨kind, xid, tick, val, handle, ⟨p0, p1, p2, p3, p4, p5⟩⟩ := x
            have x0 := hbb 0 _ rfl
            have x1 := hbb 1 _ rfl
            have x2 := hbb 2 _ rfl
            have x3 := hbb 3 _ rfl
            have x4 := hbb 4 _ rfl
            have x5 := hbb 5 _ rfl
            have x6 := hbb 6 _ rfl
            have x7 := hbb 7 _ rfl
            have x8 := hbb 8 _ rfl
            have x9 := hbb 9 _ rfl
            have x10 := hbb 10 _ rfl
            rw [Nat.add_zero] at x0
            unfold callV repV repC at CD
            dsimp only at x0 x1 x2 x3 x4 x5 x6 x7 x8 x9 x10 CD HDC HDF
            clear hbb
            go_upto_region 21 with (first
              | (go_at_call 28
                 refine calls_named ?_
                 intro V hV
                 have hd9 : Below wr2.heap.size wr2 V := by rw [hV]; exact balloc (Below.refl _ _) _
                 have hx1 : V.heap[wr2.heap.size]? = some (.cells #[.int .i64 kind, .string xid, .int .i64 tick, .int .i64 val, .int .i64 handle, .int .i64 p0, .int .i64 p1, .int .i64 p2, .int .i64 p3, .int .i64 p4, .int .i64 p5] 37 (0, 0)) := by rw [hV]; exact heap_alloc_new _ _
                 clear hV
                 refine (CD.out V hd9).mono ?_
                 rintro e u3 ⟨d3, rfl, hs, hu⟩
                 have hku := HA.out.keep hd9 hu
                 have HA3 := Lib.hid (show StCutAt w3 u3 S c rs rh (l0 + 2 + 2 * k + 1) wd' d3 X Y hd e0 id til wid lk from ⟨hs, hku.1, hku.2.1, hku.2.2⟩)
                 have HX3 := Lib.hid ((HA.out.st.kept hx1 (Nat.le_refl _)).upd hu)
                 clear hs hu hku hd9 hx1 x0 x1 x2 x3 x4 x5 x6 x7 x8 x9 x10))
            refine name_world ?_
            intro U hU
            have hdU : Below u3.heap.size u3 U := by rw [hU]; exact balloc (Below.refl _ _) _
            have HR := Lib.hid (HA3.out.st.kept (show U.heap[u3.heap.size]? = some (.cells #[.int .i64 rp.err, .int .i64 rp.ep, .int .i64 rp.hd, .int .i64 rp.st.cnt, .int .i64 rp.st.sum, .int .i64 rp.st.least, .int .i64 rp.st.most, .int .i64 rp.st.mean, .int .i64 rp.adv.tick, .int .i64 rp.adv.load, .int .i64 rp.adv.want, .int .i64 rp.adv.repl, .int .i64 rp.adv.why] 46 (0, 0)) by rw [hU]; exact heap_alloc_new _ _) (Nat.le_refl _))
            have HAU := Lib.hid (HA3.out.below hdU)
            have HXU := Lib.hid (HX3.out.below hdU)
            clear hU hdU
            generalize u3.heap.size = Z at HR
            generalize wr2.heap.size = T at HXU
            obtain ⟨r1, r2, r3⟩ := box_cells (Below.refl _ _) HR.out.at_
            obtain ⟨f1, f2, f3⟩ := box_cells (Below.refl _ _) HAU.out.first.at_
            obtain ⟨x1, x2, x3⟩ := box_cells (Below.refl _ _) HXU.out.at_
            obtain ⟨k1, k2, k3⟩ := box_cells (Below.refl _ _) HAU.out.look.at_
            by_cases hfr : kind = 4 ∧ handle = hd
            · obtain ⟨rfl, rfl⟩ := hfr
              obtain ⟨hrp, hcu⟩ := HDF.out rfl rfl
              obtain ⟨er, her, hcl⟩ := CF.out w3 U (l0 + 2 + 2 * k + 1) wd' d3 _ (by omega) hcu rfl HAU.out.st
              have CX := Lib.hid hcl
              subst hrp
              have HER := Lib.hid her
              unfold repF at r1
              dsimp only at r1
              clear hcl her hcu HDC HDF
              rcases HER.out with rfl | rfl
              all_goals
                go_wp2_with (first
                  | (go_at_call 28
                     refine CX.out.mono ?_
                     rintro e u4 ⟨d4, rfl, hs, hu⟩
                     have HR4 := Lib.hid (HR.out.upd hu)
                     have HS4 := Lib.hid hs.b
                     obtain ⟨s1, s2, s3⟩ := box_cells (Below.refl _ _) HR4.out.at_
                     have hne : ¬ Z = u4.heap.size := by have := HR4.out.lt; omega
                     clear hs hu r1 r2 r3 f1 f2 f3 x1 x2 x3 k1 k2 k3))
                go_ret
                exact ⟨rfl, HB3.out.trans ((bthen HS4.out (balloc (Below.refl _ _) _)).mono HB3.out.size)⟩
            · have hdc := HDC.out hfr
              have HC9 := Lib.hid hdc.1
              have HE1 := Lib.hid hdc.2.1
              have HE2 := Lib.hid hdc.2.2
              have HEP := Lib.hid HA.out.st.sw.ok.ep
              clear hdc HDC HDF
              have CX := Lib.hid (fun W (hW : Below U.heap.size U W) => CL.out w3 W (l0 + 2 + 2 * k + 1) wd' d3 (by omega) HC9.out (HAU.out.st.below hW))
              by_cases hk3 : kind = 3
              · by_cases hr0 : rp.err = 0
                · have hee := HE1.out ⟨hk3, hr0⟩
                  have HEE := Lib.hid hee.2
                  have q5 : rp.ep = wdk.ep + 1 := hee.1
                  have q6 : wrap64 (wdk.ep + 1) = wdk.ep + 1 := by have := HEP.out; unfold wrap64; omega
                  subst hk3
                  rw [hr0, q5] at r1
                  clear hee hr0 q5
                  have hq7 : (wdk.ep + 1 != wdk.ep + 1) = false := by simp
                  go_upto_region 28 with fail
                  clear r1 r2 r3 f1 f2 f3 x1 x2 x3 k1 k2 k3
                  refine wp_region_held_drew (S := (fun W => W.heap[X + 1]? = some (.cells #[.int .i64 5, .string id, .int .i64 til, .int .i64 wid, .int .i64 hd, .int .i64 0, .int .i64 0, .int .i64 0, .int .i64 0, .int .i64 0, .int .i64 0] 37 (0, 0)) ∧ W.heap[Y]? = some (.cells #[.int .i64 lk.err, .int .i64 lk.ep, .int .i64 lk.hd, .int .i64 lk.st.cnt, .int .i64 lk.st.sum, .int .i64 lk.st.least, .int .i64 lk.st.most, .int .i64 lk.st.mean, .int .i64 lk.adv.tick, .int .i64 lk.adv.load, .int .i64 lk.adv.want, .int .i64 lk.adv.repl, .int .i64 lk.adv.why] 46 (0, 0)))) (by kernel_rfl) ?hS1 (fun hHeld => ?_)
                  case hS1 => (first | exact HS0.out | exact HS5.out | exact ⟨HAU.out.look.at_, HAU.out.was.at_⟩ | exact ⟨HA5.out.look.at_, HA5.out.was.at_⟩)
                  refine wpAnyH_take (i := 0) (v := ?v2) rfl (by kernel_rfl) (by kernel_rfl) (by kernel_rfl) (fun _ _ _ h => h) (Or.inl ⟨by rfl, ?hy2⟩) (by assumption) ?_
                  case hy2 =>
                    intro w' hSw
                    (try dsimp only at hSw)
                    go_simp
                    try (with_reducible rfl)
                  try simp only [Act.put, List.getElem_toArray, List.getElem_cons_succ, List.getElem_cons_zero, List.setIfInBounds_toArray, List.set_cons_zero, List.set_cons_succ]
                  refine wpAnyH_take (i := 1) (v := ?v3) rfl (by kernel_rfl) (by kernel_rfl) (by kernel_rfl) (fun _ _ _ h => h) (Or.inl ⟨by rfl, ?hy3⟩) (by assumption) ?_
                  case hy3 =>
                    intro w' hSw
                    (try dsimp only at hSw)
                    obtain ⟨e1, e2, e3⟩ := box_cells (Below.refl _ _) hSw.1
                    obtain ⟨e4, e5, e6⟩ := box_cells (Below.refl _ _) hSw.2
                    go_simp
                    try (with_reducible rfl)
                  try simp only [Act.put, List.getElem_toArray, List.getElem_cons_succ, List.getElem_cons_zero, List.setIfInBounds_toArray, List.set_cons_zero, List.set_cons_succ]
                  refine wpAnyH_take (i := 3) (v := ?v4) rfl (by kernel_rfl) (by kernel_rfl) (by kernel_rfl) (fun _ _ _ h => h) (Or.inl ⟨by rfl, ?hy4⟩) (by assumption) ?_
                  case hy4 =>
                    intro w' hSw
                    (try dsimp only at hSw)
                    obtain ⟨e1, e2, e3⟩ := box_cells (Below.refl _ _) hSw.1
                    obtain ⟨e4, e5, e6⟩ := box_cells (Below.refl _ _) hSw.2
                    go_simp
                    try (with_reducible rfl)
                  try simp only [Act.put, List.getElem_toArray, List.getElem_cons_succ, List.getElem_cons_zero, List.setIfInBounds_toArray, List.set_cons_zero, List.set_cons_succ]
                  refine wpAnyH_ready (rs := [2]) (by kernel_rfl) (by simp) ?_
                  refine AllReadyH.cons rfl (fun K hK => ?_) AllReadyH.nil
                  go_simp
                  (go_at_call 28
                   refine calls_named ?_
                   intro V hV
                   have hdv : Below U.heap.size U V := by rw [hV]; first | exact Below.refl _ _ | exact (Below.refl _ _).drew | exact below_drewN (Below.refl _ _) _
                   clear hV
                   refine (CX.out V hdv).mono ?_
                   rintro e u5 ⟨d5, rfl, hs, hu⟩
                   have hku := HAU.out.keep hdv hu
                   have HA5 := Lib.hid (show StCutAt w3 u5 S c rs rh (l0 + 2 + 2 * k + 1 + 1) wd' d5 X Y hd e0 id til wid lk from ⟨hs, hku.1, hku.2.1, hku.2.2⟩)
                   clear hs hu hku hdv)
                  try go_simp
                  refine hK.out _ _ ?hS5 (fun hHeld2 => ?_)
                  case hS5 => (first | exact HS0.out | exact HS5.out | exact ⟨HAU.out.look.at_, HAU.out.was.at_⟩ | exact ⟨HA5.out.look.at_, HA5.out.was.at_⟩)
                  clear hK K hHeld
                  have hHeld := hHeld2
                  clear hHeld2
                  try simp only [Act.put, List.getElem_toArray, List.getElem_cons_succ, List.getElem_cons_zero, List.setIfInBounds_toArray, List.set_cons_zero, List.set_cons_succ]
                  refine wpAnyH_take (i := 4) (v := ?v6) rfl (by kernel_rfl) (by kernel_rfl) (by kernel_rfl) (fun _ _ _ h => h) (Or.inl ⟨by rfl, ?hy6⟩) (by assumption) ?_
                  case hy6 =>
                    intro w' hSw
                    (try dsimp only at hSw)
                    go_simp
                    try (with_reducible rfl)
                  try simp only [Act.put, List.getElem_toArray, List.getElem_cons_succ, List.getElem_cons_zero, List.setIfInBounds_toArray, List.set_cons_zero, List.set_cons_succ]
                  refine wpAnyH_done (by kernel_rfl) ?_ _

                  refine then_named ?_
                  intro U9 hU9
                  have HK9 := Lib.hid (show Below u5.heap.size u5 U9 by rw [hU9]; first | exact Below.refl _ _ | exact (Below.refl _ _).drew | exact below_drewN (Below.refl _ _) _)
                  clear hU9
                  go_wp2_with fail
                  go_roundg (m.length - (k + 1))
                  case measure => omega
                  case rel => exact ⟨k + 1, wd', d5, hlt, Nat.le_refl _, by go_num, by rw [HEE.out], HC9.out, by rw [show l0 + 2 + 2 * (k + 1) = l0 + 2 + 2 * k + 1 + 1 by omega]; exact HA5.out.below HK9.out⟩
                · have HEE := Lib.hid (HE2.out (fun h9 => hr0 h9.2))
                  have q5 : (rp.err == 0) = false := by simpa using hr0
                  have q5b : decide (rp.err = 0) = false := by simpa using hr0
                  subst hk3
                  go_upto_region 28 with fail
                  clear r1 r2 r3 f1 f2 f3 x1 x2 x3 k1 k2 k3
                  refine wp_region_held_drew (S := (fun W => W.heap[X + 1]? = some (.cells #[.int .i64 5, .string id, .int .i64 til, .int .i64 wid, .int .i64 hd, .int .i64 0, .int .i64 0, .int .i64 0, .int .i64 0, .int .i64 0, .int .i64 0] 37 (0, 0)) ∧ W.heap[Y]? = some (.cells #[.int .i64 lk.err, .int .i64 lk.ep, .int .i64 lk.hd, .int .i64 lk.st.cnt, .int .i64 lk.st.sum, .int .i64 lk.st.least, .int .i64 lk.st.most, .int .i64 lk.st.mean, .int .i64 lk.adv.tick, .int .i64 lk.adv.load, .int .i64 lk.adv.want, .int .i64 lk.adv.repl, .int .i64 lk.adv.why] 46 (0, 0)))) (by kernel_rfl) ?hS7 (fun hHeld => ?_)
                  case hS7 => (first | exact HS0.out | exact HS5.out | exact ⟨HAU.out.look.at_, HAU.out.was.at_⟩ | exact ⟨HA5.out.look.at_, HA5.out.was.at_⟩)
                  refine wpAnyH_take (i := 0) (v := ?v8) rfl (by kernel_rfl) (by kernel_rfl) (by kernel_rfl) (fun _ _ _ h => h) (Or.inl ⟨by rfl, ?hy8⟩) (by assumption) ?_
                  case hy8 =>
                    intro w' hSw
                    (try dsimp only at hSw)
                    go_simp
                    try (with_reducible rfl)
                  try simp only [Act.put, List.getElem_toArray, List.getElem_cons_succ, List.getElem_cons_zero, List.setIfInBounds_toArray, List.set_cons_zero, List.set_cons_succ]
                  refine wpAnyH_take (i := 1) (v := ?v9) rfl (by kernel_rfl) (by kernel_rfl) (by kernel_rfl) (fun _ _ _ h => h) (Or.inl ⟨by rfl, ?hy9⟩) (by assumption) ?_
                  case hy9 =>
                    intro w' hSw
                    (try dsimp only at hSw)
                    obtain ⟨e1, e2, e3⟩ := box_cells (Below.refl _ _) hSw.1
                    obtain ⟨e4, e5, e6⟩ := box_cells (Below.refl _ _) hSw.2
                    go_simp
                    try (with_reducible rfl)
                  try simp only [Act.put, List.getElem_toArray, List.getElem_cons_succ, List.getElem_cons_zero, List.setIfInBounds_toArray, List.set_cons_zero, List.set_cons_succ]
                  refine wpAnyH_take (i := 3) (v := ?v10) rfl (by kernel_rfl) (by kernel_rfl) (by kernel_rfl) (fun _ _ _ h => h) (Or.inl ⟨by rfl, ?hy10⟩) (by assumption) ?_
                  case hy10 =>
                    intro w' hSw
                    (try dsimp only at hSw)
                    obtain ⟨e1, e2, e3⟩ := box_cells (Below.refl _ _) hSw.1
                    obtain ⟨e4, e5, e6⟩ := box_cells (Below.refl _ _) hSw.2
                    go_simp
                    try (with_reducible rfl)
                  try simp only [Act.put, List.getElem_toArray, List.getElem_cons_succ, List.getElem_cons_zero, List.setIfInBounds_toArray, List.set_cons_zero, List.set_cons_succ]
                  refine wpAnyH_ready (rs := [2]) (by kernel_rfl) (by simp) ?_
                  refine AllReadyH.cons rfl (fun K hK => ?_) AllReadyH.nil
                  go_simp
                  (go_at_call 28
                   refine calls_named ?_
                   intro V hV
                   have hdv : Below U.heap.size U V := by rw [hV]; first | exact Below.refl _ _ | exact (Below.refl _ _).drew | exact below_drewN (Below.refl _ _) _
                   clear hV
                   refine (CX.out V hdv).mono ?_
                   rintro e u5 ⟨d5, rfl, hs, hu⟩
                   have hku := HAU.out.keep hdv hu
                   have HA5 := Lib.hid (show StCutAt w3 u5 S c rs rh (l0 + 2 + 2 * k + 1 + 1) wd' d5 X Y hd e0 id til wid lk from ⟨hs, hku.1, hku.2.1, hku.2.2⟩)
                   clear hs hu hku hdv)
                  try go_simp
                  refine hK.out _ _ ?hS11 (fun hHeld2 => ?_)
                  case hS11 => (first | exact HS0.out | exact HS5.out | exact ⟨HAU.out.look.at_, HAU.out.was.at_⟩ | exact ⟨HA5.out.look.at_, HA5.out.was.at_⟩)
                  clear hK K hHeld
                  have hHeld := hHeld2
                  clear hHeld2
                  try simp only [Act.put, List.getElem_toArray, List.getElem_cons_succ, List.getElem_cons_zero, List.setIfInBounds_toArray, List.set_cons_zero, List.set_cons_succ]
                  refine wpAnyH_take (i := 4) (v := ?v12) rfl (by kernel_rfl) (by kernel_rfl) (by kernel_rfl) (fun _ _ _ h => h) (Or.inl ⟨by rfl, ?hy12⟩) (by assumption) ?_
                  case hy12 =>
                    intro w' hSw
                    (try dsimp only at hSw)
                    go_simp
                    try (with_reducible rfl)
                  try simp only [Act.put, List.getElem_toArray, List.getElem_cons_succ, List.getElem_cons_zero, List.setIfInBounds_toArray, List.set_cons_zero, List.set_cons_succ]
                  refine wpAnyH_done (by kernel_rfl) ?_ _

                  refine then_named ?_
                  intro U9 hU9
                  have HK9 := Lib.hid (show Below u5.heap.size u5 U9 by rw [hU9]; first | exact Below.refl _ _ | exact (Below.refl _ _).drew | exact below_drewN (Below.refl _ _) _)
                  clear hU9
                  go_wp2_with fail
                  go_roundg (m.length - (k + 1))
                  case measure => omega
                  case rel => exact ⟨k + 1, wd', d5, hlt, Nat.le_refl _, by go_num, by rw [HEE.out], HC9.out, by rw [show l0 + 2 + 2 * (k + 1) = l0 + 2 + 2 * k + 1 + 1 by omega]; exact HA5.out.below HK9.out⟩
              · have HEE := Lib.hid (HE2.out (fun h9 => hk3 h9.1))
                have q4 : (kind == 3) = false := by simpa using hk3
                have q5 : decide (kind = 3) = false := by simpa using hk3
                by_cases h4 : kind = 4
                · subst h4
                  have q8 : (handle == hd) = false := by simpa using fun h9 => hfr ⟨rfl, h9⟩
                  have q9 : decide (handle = hd) = false := by simpa using fun h9 => hfr ⟨rfl, h9⟩
                  go_upto_region 28 with fail
                  clear r1 r2 r3 f1 f2 f3 x1 x2 x3 k1 k2 k3
                  refine wp_region_held_drew (S := (fun W => W.heap[X + 1]? = some (.cells #[.int .i64 5, .string id, .int .i64 til, .int .i64 wid, .int .i64 hd, .int .i64 0, .int .i64 0, .int .i64 0, .int .i64 0, .int .i64 0, .int .i64 0] 37 (0, 0)) ∧ W.heap[Y]? = some (.cells #[.int .i64 lk.err, .int .i64 lk.ep, .int .i64 lk.hd, .int .i64 lk.st.cnt, .int .i64 lk.st.sum, .int .i64 lk.st.least, .int .i64 lk.st.most, .int .i64 lk.st.mean, .int .i64 lk.adv.tick, .int .i64 lk.adv.load, .int .i64 lk.adv.want, .int .i64 lk.adv.repl, .int .i64 lk.adv.why] 46 (0, 0)))) (by kernel_rfl) ?hS13 (fun hHeld => ?_)
                  case hS13 => (first | exact HS0.out | exact HS5.out | exact ⟨HAU.out.look.at_, HAU.out.was.at_⟩ | exact ⟨HA5.out.look.at_, HA5.out.was.at_⟩)
                  refine wpAnyH_take (i := 0) (v := ?v14) rfl (by kernel_rfl) (by kernel_rfl) (by kernel_rfl) (fun _ _ _ h => h) (Or.inl ⟨by rfl, ?hy14⟩) (by assumption) ?_
                  case hy14 =>
                    intro w' hSw
                    (try dsimp only at hSw)
                    go_simp
                    try (with_reducible rfl)
                  try simp only [Act.put, List.getElem_toArray, List.getElem_cons_succ, List.getElem_cons_zero, List.setIfInBounds_toArray, List.set_cons_zero, List.set_cons_succ]
                  refine wpAnyH_take (i := 1) (v := ?v15) rfl (by kernel_rfl) (by kernel_rfl) (by kernel_rfl) (fun _ _ _ h => h) (Or.inl ⟨by rfl, ?hy15⟩) (by assumption) ?_
                  case hy15 =>
                    intro w' hSw
                    (try dsimp only at hSw)
                    obtain ⟨e1, e2, e3⟩ := box_cells (Below.refl _ _) hSw.1
                    obtain ⟨e4, e5, e6⟩ := box_cells (Below.refl _ _) hSw.2
                    go_simp
                    try (with_reducible rfl)
                  try simp only [Act.put, List.getElem_toArray, List.getElem_cons_succ, List.getElem_cons_zero, List.setIfInBounds_toArray, List.set_cons_zero, List.set_cons_succ]
                  refine wpAnyH_take (i := 3) (v := ?v16) rfl (by kernel_rfl) (by kernel_rfl) (by kernel_rfl) (fun _ _ _ h => h) (Or.inl ⟨by rfl, ?hy16⟩) (by assumption) ?_
                  case hy16 =>
                    intro w' hSw
                    (try dsimp only at hSw)
                    obtain ⟨e1, e2, e3⟩ := box_cells (Below.refl _ _) hSw.1
                    obtain ⟨e4, e5, e6⟩ := box_cells (Below.refl _ _) hSw.2
                    go_simp
                    try (with_reducible rfl)
                  try simp only [Act.put, List.getElem_toArray, List.getElem_cons_succ, List.getElem_cons_zero, List.setIfInBounds_toArray, List.set_cons_zero, List.set_cons_succ]
                  refine wpAnyH_ready (rs := [2]) (by kernel_rfl) (by simp) ?_
                  refine AllReadyH.cons rfl (fun K hK => ?_) AllReadyH.nil
                  go_simp
                  (go_at_call 28
                   refine calls_named ?_
                   intro V hV
                   have hdv : Below U.heap.size U V := by rw [hV]; first | exact Below.refl _ _ | exact (Below.refl _ _).drew | exact below_drewN (Below.refl _ _) _
                   clear hV
                   refine (CX.out V hdv).mono ?_
                   rintro e u5 ⟨d5, rfl, hs, hu⟩
                   have hku := HAU.out.keep hdv hu
                   have HA5 := Lib.hid (show StCutAt w3 u5 S c rs rh (l0 + 2 + 2 * k + 1 + 1) wd' d5 X Y hd e0 id til wid lk from ⟨hs, hku.1, hku.2.1, hku.2.2⟩)
                   clear hs hu hku hdv)
                  try go_simp
                  refine hK.out _ _ ?hS17 (fun hHeld2 => ?_)
                  case hS17 => (first | exact HS0.out | exact HS5.out | exact ⟨HAU.out.look.at_, HAU.out.was.at_⟩ | exact ⟨HA5.out.look.at_, HA5.out.was.at_⟩)
                  clear hK K hHeld
                  have hHeld := hHeld2
                  clear hHeld2
                  try simp only [Act.put, List.getElem_toArray, List.getElem_cons_succ, List.getElem_cons_zero, List.setIfInBounds_toArray, List.set_cons_zero, List.set_cons_succ]
                  refine wpAnyH_take (i := 4) (v := ?v18) rfl (by kernel_rfl) (by kernel_rfl) (by kernel_rfl) (fun _ _ _ h => h) (Or.inl ⟨by rfl, ?hy18⟩) (by assumption) ?_
                  case hy18 =>
                    intro w' hSw
                    (try dsimp only at hSw)
                    go_simp
                    try (with_reducible rfl)
                  try simp only [Act.put, List.getElem_toArray, List.getElem_cons_succ, List.getElem_cons_zero, List.setIfInBounds_toArray, List.set_cons_zero, List.set_cons_succ]
                  refine wpAnyH_done (by kernel_rfl) ?_ _

                  refine then_named ?_
                  intro U9 hU9
                  have HK9 := Lib.hid (show Below u5.heap.size u5 U9 by rw [hU9]; first | exact Below.refl _ _ | exact (Below.refl _ _).drew | exact below_drewN (Below.refl _ _) _)
                  clear hU9
                  go_wp2_with fail
                  go_roundg (m.length - (k + 1))
                  case measure => omega
                  case rel => exact ⟨k + 1, wd', d5, hlt, Nat.le_refl _, by go_num, by rw [HEE.out], HC9.out, by rw [show l0 + 2 + 2 * (k + 1) = l0 + 2 + 2 * k + 1 + 1 by omega]; exact HA5.out.below HK9.out⟩
                · have q8 : (kind == 4) = false := by simpa using h4
                  have q9 : decide (kind = 4) = false := by simpa using h4
                  go_upto_region 28 with fail
                  clear r1 r2 r3 f1 f2 f3 x1 x2 x3 k1 k2 k3
                  refine wp_region_held_drew (S := (fun W => W.heap[X + 1]? = some (.cells #[.int .i64 5, .string id, .int .i64 til, .int .i64 wid, .int .i64 hd, .int .i64 0, .int .i64 0, .int .i64 0, .int .i64 0, .int .i64 0, .int .i64 0] 37 (0, 0)) ∧ W.heap[Y]? = some (.cells #[.int .i64 lk.err, .int .i64 lk.ep, .int .i64 lk.hd, .int .i64 lk.st.cnt, .int .i64 lk.st.sum, .int .i64 lk.st.least, .int .i64 lk.st.most, .int .i64 lk.st.mean, .int .i64 lk.adv.tick, .int .i64 lk.adv.load, .int .i64 lk.adv.want, .int .i64 lk.adv.repl, .int .i64 lk.adv.why] 46 (0, 0)))) (by kernel_rfl) ?hS19 (fun hHeld => ?_)
                  case hS19 => (first | exact HS0.out | exact HS5.out | exact ⟨HAU.out.look.at_, HAU.out.was.at_⟩ | exact ⟨HA5.out.look.at_, HA5.out.was.at_⟩)
                  refine wpAnyH_take (i := 0) (v := ?v20) rfl (by kernel_rfl) (by kernel_rfl) (by kernel_rfl) (fun _ _ _ h => h) (Or.inl ⟨by rfl, ?hy20⟩) (by assumption) ?_
                  case hy20 =>
                    intro w' hSw
                    (try dsimp only at hSw)
                    go_simp
                    try (with_reducible rfl)
                  try simp only [Act.put, List.getElem_toArray, List.getElem_cons_succ, List.getElem_cons_zero, List.setIfInBounds_toArray, List.set_cons_zero, List.set_cons_succ]
                  refine wpAnyH_take (i := 1) (v := ?v21) rfl (by kernel_rfl) (by kernel_rfl) (by kernel_rfl) (fun _ _ _ h => h) (Or.inl ⟨by rfl, ?hy21⟩) (by assumption) ?_
                  case hy21 =>
                    intro w' hSw
                    (try dsimp only at hSw)
                    obtain ⟨e1, e2, e3⟩ := box_cells (Below.refl _ _) hSw.1
                    obtain ⟨e4, e5, e6⟩ := box_cells (Below.refl _ _) hSw.2
                    go_simp
                    try (with_reducible rfl)
                  try simp only [Act.put, List.getElem_toArray, List.getElem_cons_succ, List.getElem_cons_zero, List.setIfInBounds_toArray, List.set_cons_zero, List.set_cons_succ]
                  refine wpAnyH_take (i := 3) (v := ?v22) rfl (by kernel_rfl) (by kernel_rfl) (by kernel_rfl) (fun _ _ _ h => h) (Or.inl ⟨by rfl, ?hy22⟩) (by assumption) ?_
                  case hy22 =>
                    intro w' hSw
                    (try dsimp only at hSw)
                    obtain ⟨e1, e2, e3⟩ := box_cells (Below.refl _ _) hSw.1
                    obtain ⟨e4, e5, e6⟩ := box_cells (Below.refl _ _) hSw.2
                    go_simp
                    try (with_reducible rfl)
                  try simp only [Act.put, List.getElem_toArray, List.getElem_cons_succ, List.getElem_cons_zero, List.setIfInBounds_toArray, List.set_cons_zero, List.set_cons_succ]
                  refine wpAnyH_ready (rs := [2]) (by kernel_rfl) (by simp) ?_
                  refine AllReadyH.cons rfl (fun K hK => ?_) AllReadyH.nil
                  go_simp
                  (go_at_call 28
                   refine calls_named ?_
                   intro V hV
                   have hdv : Below U.heap.size U V := by rw [hV]; first | exact Below.refl _ _ | exact (Below.refl _ _).drew | exact below_drewN (Below.refl _ _) _
                   clear hV
                   refine (CX.out V hdv).mono ?_
                   rintro e u5 ⟨d5, rfl, hs, hu⟩
                   have hku := HAU.out.keep hdv hu
                   have HA5 := Lib.hid (show StCutAt w3 u5 S c rs rh (l0 + 2 + 2 * k + 1 + 1) wd' d5 X Y hd e0 id til wid lk from ⟨hs, hku.1, hku.2.1, hku.2.2⟩)
                   clear hs hu hku hdv)
                  try go_simp
                  refine hK.out _ _ ?hS23 (fun hHeld2 => ?_)
                  case hS23 => (first | exact HS0.out | exact HS5.out | exact ⟨HAU.out.look.at_, HAU.out.was.at_⟩ | exact ⟨HA5.out.look.at_, HA5.out.was.at_⟩)
                  clear hK K hHeld
                  have hHeld := hHeld2
                  clear hHeld2
                  try simp only [Act.put, List.getElem_toArray, List.getElem_cons_succ, List.getElem_cons_zero, List.setIfInBounds_toArray, List.set_cons_zero, List.set_cons_succ]
                  refine wpAnyH_take (i := 4) (v := ?v24) rfl (by kernel_rfl) (by kernel_rfl) (by kernel_rfl) (fun _ _ _ h => h) (Or.inl ⟨by rfl, ?hy24⟩) (by assumption) ?_
                  case hy24 =>
                    intro w' hSw
                    (try dsimp only at hSw)
                    go_simp
                    try (with_reducible rfl)
                  try simp only [Act.put, List.getElem_toArray, List.getElem_cons_succ, List.getElem_cons_zero, List.setIfInBounds_toArray, List.set_cons_zero, List.set_cons_succ]
                  refine wpAnyH_done (by kernel_rfl) ?_ _

                  refine then_named ?_
                  intro U9 hU9
                  have HK9 := Lib.hid (show Below u5.heap.size u5 U9 by rw [hU9]; first | exact Below.refl _ _ | exact (Below.refl _ _).drew | exact below_drewN (Below.refl _ _) _)
                  clear hU9
                  go_wp2_with fail
                  go_roundg (m.length - (k + 1))
                  case measure => omega
                  case rel => exact ⟨k + 1, wd', d5, hlt, Nat.le_refl _, by go_num, by rw [HEE.out], HC9.out, by rw [show l0 + 2 + 2 * (k + 1) = l0 + 2 + 2 * k + 1 + 1 by omega]; exact HA5.out.below HK9.out⟩
          · obtain rfl : k = m.length := by omega
            have z1 : ¬ (m.length : Int) < (m.length : Int) := by omega
            go_wp2_with fail
            go_ret
            exact ⟨rfl, HB3.out.trans (HA.out.st.b.mono HB3.out.size)⟩

theorem stCuts_any (c : Cfg) (v : Value) (l : List CallD) (u : Value) (m : List CallD) (id : ByteArray) (til wid : Int) (w : World) (hv : RowIn 11 callCells w v l) (hok : ∀ p ∈ l, p.ok) (hu : RowIn 11 callCells w u m) (hok2 : ∀ p ∈ m, p.ok) (hc : c.ok) (hid : id.size ≤ maxLen) (ht : I64 til) (hw : I64 wid) :
    Calls Tryz.prog 6 #[cfgV c, v, u, .string id, .int .i64 til, .int .i64 wid] w fun e w' => e = .returned (.bool true) ∧ Below w.heap.size w w' := by
  cases hcb : cfgB c with
  | false => exact stCuts_nil c v l u m id til wid w hv hok hu hok2 hc hid ht hw hcb
  | true =>
    by_cases hl : l.length ≤ 30
    · by_cases hm : m.length ≤ 30
      · exact stCuts_main c v l u m id til wid w hv hok hu hok2 hc hid ht hw hcb hl hm
      · exact stCuts_long2 c v l u m id til wid w hv hok hu hok2 hc hid ht hw hcb hl (by omega)
    · exact stCuts_long1 c v l u m id til wid w hv hok hu hok2 hc hid ht hw hcb (by omega)
end

end Go.Proofs.YtmniiodpbebnmaaGreat
