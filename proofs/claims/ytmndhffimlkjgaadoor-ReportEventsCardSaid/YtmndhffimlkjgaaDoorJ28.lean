/- report.Count: how many events there are of each kind; Lists of keys as they come in; Contracts of the shelf, laid at this program (by lay-plain.mjs; numbers by name); A row of the call's own under the shelf's words for sorting and turning: HoldsK, putRowK. -/
import Derived.Test.YtmndhffimlkjgaaDoorJ27
import Derived.Test.YtmndhffimlkjgaaDoorJ07
import Derived.Test.YtmndhffimlkjgaaDoorJ01
import Derived.Shelf.SlicesQ.Reverse
import Derived.Shelf.GgSortFunc.RowK
import Derived.Sort.Grow
namespace Go.Proofs.YtmndhffimlkjgaaDoor

section
set_option linter.unusedSimpArgs false
set_option linter.unusedVariables false
open Go.RowKit Go.Lib

/-- The place of an event's kind. -/
def kc (e : EvtD) : Nat := if 1 ≤ e.kind ∧ e.kind ≤ 7 then e.kind.toNat else 0
def cn (es : List EvtD) (i : Nat) : Nat := (es.filter fun e => decide (kc e = i)).length
def cntL (es : List EvtD) : List Value := (List.range 8).map fun i => Value.int .i64 (cn es i : Nat)
theorem kc_lt (e : EvtD) : kc e < 8 := by unfold kc; split <;> omega
theorem cn_le (es : List EvtD) (i : Nat) : cn es i ≤ es.length := List.length_filter_le _ _
theorem cn_snoc (es : List EvtD) (k : Nat) (h : k < es.length) (i : Nat) : cn (es.take (k + 1)) i = cn (es.take k) i + if kc es[k] = i then 1 else 0 := by
  unfold cn
  rw [List.take_succ_eq_append_getElem h, List.filter_append, List.length_append]
  by_cases e : kc es[k] = i <;> simp [e]
theorem cntL_len (es : List EvtD) : (cntL es).length = 8 := by simp [cntL]
theorem cntL_at (es : List EvtD) (i : Nat) (h : i < 8) : (cntL es)[i]? = some (.int .i64 (cn es i : Nat)) := by
  simp [cntL, h]
theorem cntL_one (es : List EvtD) : ∀ v ∈ cntL es, v.oneCell' = true := by
  intro v hv
  obtain ⟨i, _, rfl⟩ := List.mem_map.1 hv
  rfl
theorem cntL_snoc (es : List EvtD) (k : Nat) (h : k < es.length) : cntL (es.take (k + 1)) = (cntL (es.take k)).set (kc es[k]) (.int .i64 ((cn (es.take k) (kc es[k]) : Nat) + 1)) := by
  apply List.ext_getElem?
  intro j
  by_cases hj : j < 8
  · rw [cntL_at _ j hj, List.getElem?_set]
    by_cases e : kc es[k] = j
    · rw [if_pos e, if_pos (by rw [cntL_len]; omega), cn_snoc es k h, if_pos e, e]
      simp
    · rw [if_neg e, cntL_at _ j hj, cn_snoc es k h, if_neg e]
      simp
  · rw [List.getElem?_eq_none (by rw [cntL_len]; omega), List.getElem?_eq_none (by rw [List.length_set, cntL_len]; omega)]
theorem cntL_zero : cntL [] = [.int .i64 0, .int .i64 0, .int .i64 0, .int .i64 0, .int .i64 0, .int .i64 0, .int .i64 0, .int .i64 0] := rfl
theorem cnt_stor {w : World} {B k : Nat} {T : TypeId} {es : List EvtD} (hk : k < es.length) (h : w.heap[B]? = some (.cells (cntL (es.take k)).toArray T (0, 0))) (c : Nat) (hc : kc es[k] = c) (n : Nat) (hn : cn (es.take k) c = n) :
    (w.setCell ⟨B, c, none⟩ (.int .i64 ((n : Int) + 1))).heap[B]? = some (.cells (cntL (es.take (k + 1))).toArray T (0, 0)) := by
  rw [stor_one h, cntL_snoc es k hk, hc, hn]
  simp

set_option maxRecDepth 100000 in
set_option maxHeartbeats 4000000 in
theorem count_any (v : Value) (es : List EvtD) (w : World) (he : RowIn 34 evC w v es) (hel : es.length ≤ 100) :
    Calls Tryd.prog 8 #[v] w fun e w' => e = .returned (.agg (cntL es).toArray) ∧ Below w.heap.size w w' := by
  obtain ⟨A, c, rfl, hAc, h0⟩ := id he
  clear hAc h0
  have HE := Lib.hid he
  have HEL := Lib.hid hel
  have q0 : (es.length : Int) ≤ 100 := by omega
  clear he hel
  go_enter Tryd.func8, Tryd.ntmps8
  go_wp2_with fail
  go_loopg [9] es.length (fun g s9 wr => ∃ k : Nat, k ≤ es.length ∧ es.length - k ≤ g ∧ s9 = .int .i64 k ∧ wr.heap[w.heap.size + 1]? = some (.cells (cntL (es.take k)).toArray 26 (0, 0)) ∧ Below (w.heap.size + 1) (w.alloc (.cells #[.int .i64 0, .int .i64 0, .int .i64 0, .int .i64 0, .int .i64 0, .int .i64 0, .int .i64 0, .int .i64 0] 26)) wr)
  case atStart => exact ⟨0, Nat.zero_le _, Nat.le_refl _, rfl, box_new w _ _, (Below.refl _ _).alloc (by simp) _⟩
  case round =>
    obtain ⟨k, hk, hg, rfl, hx, hbw⟩ := hrel
    rename World => wr
    have HX := Lib.hid hx
    have HB0 := Lib.hid hbw
    have HBr := Lib.hid (show Below w.heap.size w wr from (balloc (Below.refl _ _) _).trans (hbw.mono (Nat.le_succ _)))
    have hwz := (Array.getElem?_eq_some_iff.1 hx).1
    clear hx hbw
    by_cases hlt : k < es.length
    · obtain ⟨b1, o1, rfl, hb1, hc⟩ := (HE.out.below HBr.out).at_ hlt
      have hcl : (evC es[k]).length = 34 := rfl
      have hone : ∀ v ∈ evC es[k], v.oneCell' = true := evC_one _
      have g0 : (evC es[k])[0]? = some (.int .i64 es[k].kind) := rfl
      have HKC := Lib.hid (show kc es[k] = if 1 ≤ es[k].kind ∧ es[k].kind ≤ 7 then es[k].kind.toNat else 0 from rfl)
      have HCN := Lib.hid (show cn (es.take k) (kc es[k]) ≤ 100 from Nat.le_trans (cn_le _ _) (by rw [List.length_take]; have := HEL.out; omega))
      have HST := Lib.hid (fun (U : World) (T : TypeId) (h : U.heap[w.heap.size + 1]? = some (.cells (cntL (es.take k)).toArray T (0, 0))) => cnt_stor (es := es) hlt h (kc es[k]) rfl _ rfl)
      have HAT := Lib.hid (cntL_at (es.take k) (kc es[k]) (kc_lt _))
      generalize evC es[k] = cs at hc hcl hone g0
      generalize es[k].kind = kd at g0 HKC
      generalize kc es[k] = cc at HKC HCN HST HAT
      have hst := store_new (P := Tryd.prog) wr 44 cs 34 hcl (by kernel_rfl) hone
      have k0 : ∀ h, cs[0]'h = .int .i64 kd := fun h => Option.some.inj ((List.getElem?_eq_getElem h).symm.trans g0)
      have HC := Lib.hid hc
      have HCL := Lib.hid hcl
      obtain ⟨x1, x2, x3, x4⟩ := box_at (Below.refl _ _) HX.out
      have hat : wr.cell? ⟨w.heap.size + 1, cc, none⟩ = some (.int .i64 (cn (es.take k) cc : Nat)) := (x1 cc).trans (by rw [List.getElem?_toArray]; exact HAT.out)
      have hfr := x2 cc
      have hcnn := HCN.out
      generalize cn (es.take k) cc = n at HCN HST hat hcnn
      clear x1 x2 x4 hc hcl hone HAT
      by_cases h1 : 1 ≤ kd
      · by_cases h7 : kd ≤ 7
        · obtain ⟨m, hm⟩ : ∃ m : Nat, kd = (m : Int) := ⟨kd.toNat, by omega⟩
          have hcm : cc = m := by rw [HKC.out, if_pos ⟨h1, h7⟩, hm]; rfl
          subst hcm
          subst hm
          go_wp2_with (first
            | (refine wpList_load_list rfl 44 (.tmp 11) rfl b1 (o1 + k * 34) cs HC.out (by rfl) _ Tryd.underlying44 (by rfl) (by rw [HCL.out]; kernel_rfl) ?_))
          go_roundg (es.length - (k + 1))
          case measure => omega
          case rel => exact ⟨k + 1, hlt, Nat.le_refl _, by go_num, (Below.heap_alloc _ _ _ (by simp; omega)).trans (HST.out wr _ HX.out), (HB0.out.setCell (Nat.le_refl _) _).alloc (by simp; omega) _⟩
        · have hcm : cc = 0 := by rw [HKC.out, if_neg (by omega)]
          subst hcm
          go_wp2_with (first
            | (refine wpList_load_list rfl 44 (.tmp 11) rfl b1 (o1 + k * 34) cs HC.out (by rfl) _ Tryd.underlying44 (by rfl) (by rw [HCL.out]; kernel_rfl) ?_))
          go_roundg (es.length - (k + 1))
          case measure => omega
          case rel => exact ⟨k + 1, hlt, Nat.le_refl _, by go_num, (Below.heap_alloc _ _ _ (by simp; omega)).trans (HST.out wr _ HX.out), (HB0.out.setCell (Nat.le_refl _) _).alloc (by simp; omega) _⟩
      · have hcm : cc = 0 := by rw [HKC.out, if_neg (by omega)]
        subst hcm
        go_wp2_with (first
          | (refine wpList_load_list rfl 44 (.tmp 11) rfl b1 (o1 + k * 34) cs HC.out (by rfl) _ Tryd.underlying44 (by rfl) (by rw [HCL.out]; kernel_rfl) ?_))
        go_roundg (es.length - (k + 1))
        case measure => omega
        case rel => exact ⟨k + 1, hlt, Nat.le_refl _, by go_num, (Below.heap_alloc _ _ _ (by simp; omega)).trans (HST.out wr _ HX.out), (HB0.out.setCell (Nat.le_refl _) _).alloc (by simp; omega) _⟩
    · obtain rfl : k = es.length := by omega
      rw [List.take_length] at HX
      have E8 := Lib.hid (show cntL es = [.int .i64 (cn es 0 : Nat), .int .i64 (cn es 1 : Nat), .int .i64 (cn es 2 : Nat), .int .i64 (cn es 3 : Nat), .int .i64 (cn es 4 : Nat), .int .i64 (cn es 5 : Nat), .int .i64 (cn es 6 : Nat), .int .i64 (cn es 7 : Nat)] from rfl)
      have hr0 : wr.heap[w.heap.size]? = some (.cells #[.int .i64 0, .int .i64 0, .int .i64 0, .int .i64 0, .int .i64 0, .int .i64 0, .int .i64 0, .int .i64 0] 26 (0, 0)) := (HB0.out.block _ (Nat.lt_succ_self _)).trans (heap_alloc_new w _)
      rw [E8.out] at HX
      obtain ⟨x1, x2, x3, x4⟩ := box_at (Below.refl _ _) HX.out
      obtain ⟨y1, y2, y3, y4⟩ := box_at (Below.refl _ _) hr0
      have HR0 := Lib.hid hr0
      clear x4 y4 hr0
      go_wp2_with fail
      refine post_named ?_
      intro W hW
      obtain ⟨s1, _, s3, s4⟩ := stor_at HR0.out [.int .i64 (cn es 0 : Nat), .int .i64 (cn es 1 : Nat), .int .i64 (cn es 2 : Nat), .int .i64 (cn es 3 : Nat), .int .i64 (cn es 4 : Nat), .int .i64 (cn es 5 : Nat), .int .i64 (cn es 6 : Nat), .int .i64 (cn es 7 : Nat)] rfl W hW
      have a9 := (box_cells (Below.refl _ _) s1).1
      clear hW
      exact bodyPost_ret (v := .agg #[.int .i64 (cn es 0 : Nat), .int .i64 (cn es 1 : Nat), .int .i64 (cn es 2 : Nat), .int .i64 (cn es 3 : Nat), .int .i64 (cn es 4 : Nat), .int .i64 (cn es 5 : Nat), .int .i64 (cn es 6 : Nat), .int .i64 (cn es 7 : Nat)]) (by simp [results, Tryd.results8, go_sem, a9]) rfl ⟨by rw [E8.out], HBr.out.trans (s4 _ (Nat.le_refl _))⟩
end

section
set_option linter.unusedSimpArgs false
set_option linter.unusedVariables false
open Go.RowKit Go.Lib Go.ChangeShapes Go.WideShapes Go.Joins

theorem cl_key : Tryd.prog.cellsOf 40 = 2 := by kernel_rfl
theorem cl_u64 : Tryd.prog.cellsOf 38 = 1 := by kernel_rfl

theorem u64_of_wf {n : Int} (h : (Lit.int .u64 n).wf = true) : ∃ m : Nat, n = m ∧ m < 18446744073709551616 := by
  have : 0 ≤ n ∧ n ≤ 18446744073709551615 := by simpa [Lit.wf, IntKind.min, IntKind.max, IntKind.signed, IntKind.bits] using h
  exact ⟨n.toNat, by omega, by omega⟩

def keyC (p : Ky) : List Value := [.int .u64 p.1, .int .u64 p.2]

theorem keysIn_row {w : World} {v : Value} {l : List Ky} (h : RowIn 2 keyC w v l) : KeysIn w v l := by
  obtain ⟨A, c, hv, _, h⟩ := h
  refine ⟨A, c, hv, fun hn => ?_⟩
  obtain ⟨b, o, hA, hlt, h⟩ := h hn
  refine ⟨b, o, hA, hlt, fun j u hu => ?_⟩
  obtain ⟨x, h1, h2⟩ := cellsOfRow_split (n := 2) (f := keyC) (by decide) (fun _ => rfl) l j u hu
  have := h _ x h1 _ u h2
  rw [show o + j / 2 * 2 + j % 2 = o + j by omega] at this
  exact this
theorem row_keysIn {w : World} {A : Option Addr} {m c : Nat} {l : List Ky} (h : KeysIn w (.slice A m c) l) (hc : m ≤ c) : RowIn 2 keyC w (.slice A m c) l := by
  obtain ⟨A1, c1, hv, h⟩ := h
  injection hv with e1 e2 e3
  subst e1 e2 e3
  refine ⟨_, _, rfl, hc, fun hn => ?_⟩
  obtain ⟨b, o, hA, hlt, h⟩ := h hn
  refine ⟨b, o, hA, hlt, fun k x hk j u hu => ?_⟩
  have := h _ u (cellsOfRow_at (n := 2) (f := keyC) (fun _ => rfl) l k x hk j u hu)
  rwa [← Nat.add_assoc] at this

section
variable {H : Type} {enc : TypeId × Value → H} {w : World} {base : Nat} {spare : Nat → Bool} {held : Bool}

theorem field_u64 {fuel : Nat} {t : TypeId} (ht : Tryd.prog.underlying t = some (.int .u64)) (hc : Tryd.prog.cellsOf t = 1) {cs : List Value} {xs : List (DataW H × List MemPlace)} {i o : Nat} (hi : i < xs.length) {v : Value} (hv : cs.drop o = v :: cs.drop (o + 1))
    (h : DataW.trod enc Tryd.prog w base spare held fuel t ((cs.drop o).take (Tryd.prog.cellsOf t)) = xs[i]?) : ∃ n : Nat, v = .int .u64 n ∧ n < 18446744073709551616 := by
  rw [hc, hv, List.take_succ_cons, List.take_zero, List.getElem?_eq_getElem hi] at h
  obtain ⟨n, hn, _, hw⟩ := DataW.trod_int ht h
  simp only [List.cons.injEq, and_true] at hn
  obtain ⟨m, rfl, hm⟩ := u64_of_wf hw
  exact ⟨m, hn, hm⟩

set_option maxRecDepth 100000 in
theorem key_reads {fuel : Nat} {cs : List Value} {x : DataW H × List MemPlace} (h : DataW.trod enc Tryd.prog w base spare held fuel 40 cs = some x) :
    ∃ p : Ky, p.ok ∧ cs = keyC p := by
  obtain ⟨xs, n, _, _, hl, hx, hf⟩ := DataW.trod_struct Tryd.underlying40 h
  rw [cl_key] at hl
  replace hx : xs.length = 2 := hx
  match cs, hl with
  | [a0, a1], _ =>
    obtain ⟨n0, rfl, k0⟩ := field_u64 Tryd.underlying38 cl_u64 (i := 0) (by omega) (o := 0) rfl (hf 0 _ rfl)
    obtain ⟨n1, rfl, k1⟩ := field_u64 Tryd.underlying38 cl_u64 (i := 1) (by omega) (o := 1) rfl (hf 1 _ rfl)
    exact ⟨(n0, n1), ⟨k0, k1⟩, rfl⟩

theorem keys_read {fuel : Nat} {cs : List Value} {x : DataW H × List MemPlace} (h : DataW.trod enc Tryd.prog w base spare held fuel 53 cs = some x) :
    ∃ (v : Value) (l : List Ky), cs = [v] ∧ l.length ≤ maxLen ∧ (∀ p ∈ l, p.ok) ∧ KeysIn w v l := by
  haveI : Inhabited Ky := ⟨(0, 0)⟩
  obtain ⟨v, l, h1, h2, h3, h4⟩ := row_read (f := keyC) Tryd.underlying53 cl_key (by decide) (fun _ _ _ h => key_reads h) h
  exact ⟨v, l, h1, h2, h3, keysIn_row h4⟩
end
end

section
set_option linter.unusedSimpArgs false
set_option linter.unusedVariables false
open Go.Shelf
end

section
set_option linter.unusedSimpArgs false
set_option linter.unusedVariables false
open Go.RowKit Go.Lib Go.Sort

section
variable {α : Type} [Inhabited α] {f : α → List Value} {n : Nat}

theorem flat_row (hf : ∀ x, (f x).length = n) (hn : 0 < n) (l : List α) : flatK f n l.toArray = (cellsOfRow f l).toArray := by
  refine ext_get! (by simp [cellsOfRow_len hf]) fun t ht => ?_
  have ht' : t < l.length * n := by simpa using ht
  rw [get_flatK _ _ _ t (by simpa using ht')]
  have hk : t / n < l.length := by rw [Nat.div_lt_iff_lt_mul hn]; exact ht'
  have hm : t % n < (f l[t / n]).length := by rw [hf]; exact Nat.mod_lt _ hn
  have hlt : t < (cellsOfRow f l).length := by rw [cellsOfRow_len hf]; exact ht'
  have h := cellsOfRow_at hf l (t / n) l[t / n] (List.getElem?_eq_getElem hk) (t % n) _ (List.getElem?_eq_getElem hm)
  rw [show t / n * n + t % n = t by rw [Nat.mul_comm]; exact Nat.div_add_mod t n] at h
  have e1 : (cellsOfRow f l).toArray[t]! = (f l[t / n])[t % n] := by
    rw [getElem!_pos _ t (by simpa using hlt)]
    have := (List.getElem?_eq_some_iff.1 h).2
    simpa using this
  rw [e1]
  have e2 : l.toArray[t / n]! = l[t / n] := by rw [getElem!_pos _ _ (by simpa using hk)]; simp
  rw [e2]
  exact getElem!_pos (f l[t / n]) (t % n) hm

theorem holdsK_own (hf : ∀ x, (f x).length = n) (hn : 0 < n) {w : World} {base g cap : Nat} {e : TypeId} {l : List α} (h : w.ownsRow base e n (.slice (some ⟨g, 0, none⟩) l.length cap) l.length (cellsOfRow f l)) :
    HoldsK f n w g 0 l.toArray := by
  unfold HoldsK
  rw [flat_row hf hn]
  intro j hj
  have hj' : j < (cellsOfRow f l).length := by simpa using hj
  have hjl := hj'
  rw [cellsOfRow_len hf] at hjl
  have hc := h.cellAt j hjl
  rcases h.2 with ⟨hv, _⟩ | ⟨g', cap', cur, hv, _, hg, _⟩
  · cases hv
  · injection hv with e1 e2 e3
    injection e1 with e1
    injection e1 with e1
    subst e1
    refine ⟨?_, Go.Joins.unfrozen_of_block hg (0 + j)⟩
    rw [Nat.zero_add, hc, List.getElem?_eq_getElem hj', getElem!_pos _ j hj]
    simp

theorem take_put (F : List Value) (c : Array Value) (h : F.length ≤ c.size) : (putCells id 0 F.toArray c).toList.take F.length = F := by
  apply List.ext_getElem?
  intro i
  rw [List.getElem?_take]
  by_cases hi : i < F.length
  · rw [if_pos hi, Array.getElem?_toList, putCells, Array.getElem?_mapIdx, Array.getElem?_eq_getElem (by omega), Option.map_some, if_pos ⟨Nat.zero_le _, by simpa using hi⟩, Nat.sub_zero, List.getElem?_eq_getElem hi]
    simp [hi]
  · rw [if_neg hi, List.getElem?_eq_none (by omega)]

theorem putRow_heap {w : World} {g : Nat} {cur : Array Value} {e : TypeId} {fr : Nat × Nat} (F : Array Value) (hb : w.heap[g]? = some (.cells cur e fr)) :
    (putRow id w g 0 F).heap[g]? = some (.cells (putCells id 0 F cur) e fr) := by
  simp only [putRow, mapBlock, Array.getElem?_modify, if_pos]
  rw [hb]
  rfl
theorem putRow_other {w : World} {g k : Nat} (F : Array Value) (h : k ≠ g) : (putRow id w g 0 F).heap[k]? = w.heap[k]? := by
  simp only [putRow, mapBlock, Array.getElem?_modify, if_neg (Ne.symm h)]

/-- Behind a turning: the same slice owns what was laid. -/
theorem own_putRowK (hf : ∀ x, (f x).length = n) (hn : 0 < n) {w : World} {base g cap k : Nat} {e : TypeId} {l m : List α} (h : w.ownsRow base e n (.slice (some ⟨g, 0, none⟩) l.length cap) l.length (cellsOfRow f l)) (hm : m.length = l.length) (os : Array Obj) :
    (grow (putRowK f n (Sort.ahead w k) g 0 m.toArray) os).ownsRow base e n (.slice (some ⟨g, 0, none⟩) m.length cap) m.length (cellsOfRow f m) ∧ w.grownBy (grow (putRowK f n (Sort.ahead w k) g 0 m.toArray) os) (some g) := by
  rcases h.2 with ⟨hv, _⟩ | ⟨g', cap', cur, hv, hbase, hg, h1, h2, h3, h4⟩
  · cases hv
  · injection hv with e1 e2 e3
    injection e1 with e1
    injection e1 with e1
    subst e1 e3
    have hglt : g < w.heap.size := (Array.getElem?_eq_some_iff.1 hg).1
    unfold putRowK
    rw [flat_row hf hn]
    have hsz : (putRow id (Sort.ahead w k) g 0 (cellsOfRow f m).toArray).heap.size = w.heap.size := by simp [putRow, mapBlock, Sort.ahead]
    have hblk : (grow (putRow id (Sort.ahead w k) g 0 (cellsOfRow f m).toArray) os).heap[g]? = some (.cells (putCells id 0 (cellsOfRow f m).toArray cur) e (0, 0)) := by
      rw [heap_grow_old _ _ (by rw [hsz]; exact hglt)]
      exact putRow_heap (w := Sort.ahead w k) _ hg
    have hle : (cellsOfRow f m).length ≤ cur.size := by
      rw [cellsOfRow_len hf, hm, h3]
      exact Nat.mul_le_mul_right _ h1
    refine ⟨⟨cellsOfRow_len hf m, .inr ⟨g, cap, _, rfl, hbase, hblk, by omega, h2, by simp [putCells, h3], ?_⟩⟩, ⟨rfl, rfl, rfl, by simp only [grow, Array.size_append, hsz]; omega, fun j hj hne => ?_⟩⟩
    · have := take_put (cellsOfRow f m) cur hle
      rwa [cellsOfRow_len hf] at this
    · rw [heap_grow_old _ _ (by rw [hsz]; exact hj)]
      exact putRow_other (w := Sort.ahead w k) _ (fun e => hne (by rw [e]))
end
end

end Go.Proofs.YtmndhffimlkjgaaDoor
