/- Great structs: their cells are loaded and stored as one list that is not looked into; report.Text; flywheellaw30.Events: the events as the program's; Chapter 43's example; ReportTexts answers true; A whole row is stored into a block; A world behind a body is named. -/
import Derived.Test.YtmndhffimlkjgaaDoorJ09
import Derived.Deep.MidRow
import Derived.Deep.WholeRow
import Derived.Great.BuildSlice
import Derived.Test.YtmndhffimlkjgaaDoorJ26
import Derived.Test.YtmndhffimlkjgaaDoorJ13
import Derived.Test.YtmndhffimlkjgaaDoorJ07
import Derived.Test.YtmndhffimlkjgaaDoorJ04
import Derived.Test.YtmndhffimlkjgaaDoorJ01
namespace Go.Proofs.YtmndhffimlkjgaaDoor

section
set_option linter.unusedSimpArgs false
set_option linter.unusedVariables false
open Go.RowKit Go.Lib

section
variable {P : Program}
/-- A whole struct is stored into the block that was made last. -/
theorem store_new (w : World) (t : TypeId) (cs : List Value) (n : Nat) (hn : cs.length = n) (hi : (P.info? t).map (·.size) = some n) (h1 : ∀ v ∈ cs, v.oneCell' = true) (c : Array Value) (ho : c.size = n) :
    (storeCells ⟨w.heap.size, 0, none⟩ cs).run P (w.alloc (.cells c t)) = .ok () (w.alloc (.cells cs.toArray t)) := by
  have := run_storeCells_new (P := P) w t c cs.toArray (by rw [List.size_toArray, hn]; exact hi) (by simp; omega) (all_oneCell_toArray h1)
  simpa using this
/-- The element of a slice is loaded as a list of cells. -/
theorem wpList_load_list {ops : Array Oper} {rest : List Oper} {op : Oper} {a : Act} {w : World} {Q : Exit → Act → World → Prop} (hgd : op.guard = none) (ty : TypeId) (x : Operand) (ho : op.op = .load ty x)
    (b o : Nat) (cs : List Value) (hc : ∀ j v, cs[j]? = some v → w.cell? ⟨b, o + j, none⟩ = some v) (hx : a.eval x = .pointer (some ⟨b, o, none⟩)) (d : TypeDesc)
    (hu : P.underlying ty = some d) (hd : d.isRow = true) (hi : (P.info? ty).map (·.size) = some cs.length)
    (h : wpList P ops Q rest (a.put op.dst (.agg cs.toArray)) w) : wpList P ops Q (op :: rest) a w :=
  wpList_load_mid hgd ty x ho b o hx cs d hc hu hd hi h
theorem new_cells (w : World) (cs : List Value) (T : TypeId) : ∀ j v, cs[j]? = some v → (w.alloc (.cells cs.toArray T)).cell? ⟨w.heap.size, 0 + j, none⟩ = some v := by
  intro j v hj
  rw [Nat.zero_add, cell_of_row _ _ j cs.toArray T (0, 0) (heap_alloc_last w _)]
  simpa using hj
end
/-- A slice literal of one struct. -/
theorem build_one {α : Type} {t e : TypeId} {n bytes : Nat} {z : Value} {f : α → List Value} (E : EltOf t e n bytes z f) (hn : n ≤ 1000) (cs : List Value) (hcs : cs.length = n) (w : World) :
    (Instr.buildSlice t 1 #[(0, .agg cs.toArray)]).run Tryd.prog w = .ok (.slice (some ⟨w.heap.size, 0, none⟩) 1 1) (w.alloc (.cells cs.toArray e)) := by
  have hi := E.hi
  have hz := E.hz
  have h0 := E.hn
  cases hq : Tryd.prog.info? e with
  | none => simp [hq] at hi
  | some ie =>
    simp only [hq, Option.map_some, Option.some.injEq, Prod.mk.injEq] at hi
    obtain ⟨h1, h2, h3⟩ := hi
    refine run_buildSlice w t e 1 _ cs.toArray ie z E.ht hq h1 (by rw [h2]; omega) (by rw [h2]; omega) ?_
    have := Great.fill_whole (s := n) h0 [.agg cs.toArray] ((Array.range (1 * n)).map (z.cells[· % z.cells.size]!)) (by simp [Value.cells, hcs]) (by simp)
    rw [h2]
    simpa [Value.cells] using this
theorem wpList_build_one {α : Type} {t e : TypeId} {n bytes : Nat} {z : Value} {f : α → List Value} (E : EltOf t e n bytes z f) (hn : n ≤ 1000) {ops : Array Oper} {rest : List Oper} {o : Oper} {a : Act} {w : World} {Q : Exit → Act → World → Prop} (hg : o.guard = none)
    (x : Operand) (ho : o.op = .buildSlice t 1 #[(0, x)]) (cs : List Value) (hcs : cs.length = n) (hx : a.eval x = .agg cs.toArray)
    (h : wpList Tryd.prog ops Q rest (a.put o.dst (.slice (some ⟨w.heap.size, 0, none⟩) 1 1)) (w.alloc (.cells cs.toArray e))) : wpList Tryd.prog ops Q (o :: rest) a w :=
  wpList_plain hg fun _ hK => by
    unfold Oper.wp execOp
    simp only [ho, hx, Sem.run_bind, List.map_toArray, List.map_cons, List.map_nil, build_one E hn cs hcs w, Result.andThen_ok]
    exact hK _ _ h
end

section
set_option linter.unusedSimpArgs false
set_option linter.unusedVariables false
open Go.RowKit Go.Lib

def textL (es : List EvtD) : List UInt8 := es.flatMap fun e => (evS e).data.toList ++ [10]
theorem textL_snoc (es : List EvtD) (k : Nat) (h : k < es.length) : textL (es.take (k + 1)) = textL (es.take k) ++ (evS es[k]).data.toList ++ [10] := by
  unfold textL
  rw [List.take_succ_eq_append_getElem h, List.flatMap_append, List.append_assoc]
  congr 1
  simp
theorem textL_len (es : List EvtD) (h : ∀ e ∈ es, e.ok) : (textL es).length ≤ 5001 * es.length := by
  induction es with
  | nil => simp [textL]
  | cons e es ih =>
    have h1 := ih (fun x hx => h x (List.mem_cons_of_mem _ hx))
    have h2 := evS_size (h e (List.mem_cons_self ..))
    have h3 : (evS e).data.toList.length = (evS e).size := by simp
    have : textL (e :: es) = ((evS e).data.toList ++ [10]) ++ textL es := rfl
    rw [this, List.length_append, List.length_append, h3]
    simp only [List.length_cons, List.length_nil] at h1 ⊢
    omega
theorem textL_take (es : List EvtD) (h : ∀ e ∈ es, e.ok) (hl : es.length ≤ 40) (k : Nat) : (textL (es.take k)).length ≤ 200040 := by
  have h1 := textL_len (es.take k) (fun e he => h e (List.mem_of_mem_take he))
  have : (es.take k).length ≤ 40 := by rw [List.length_take]; omega
  have h3 : 5001 * (es.take k).length ≤ 5001 * 40 := Nat.mul_le_mul_left _ this
  omega
theorem evC_one (e : EvtD) : ∀ v ∈ evC e, v.oneCell' = true := by
  intro v hv
  unfold evC at hv
  simp only [List.mem_cons, List.not_mem_nil, or_false] at hv
  rcases hv with rfl | rfl | rfl | rfl | rfl | rfl | rfl | rfl | rfl | rfl | rfl | rfl | rfl | rfl | rfl | rfl | rfl | rfl | rfl | rfl | rfl | rfl | rfl | rfl | rfl | rfl | rfl | rfl | rfl | rfl | rfl | rfl | rfl | rfl <;> rfl
theorem bytes_list (s : ByteArray) : s = ⟨s.data.toList.toArray⟩ := bytes_ext (by simp)
def textO (es : List EvtD) (used opn : Int) (l : List Ky) (rest : Bool) : ByteArray := ⟨(textL es ++ (sumS used opn l rest).data.toList ++ [10]).toArray⟩
end

section
set_option linter.unusedSimpArgs false
set_option linter.unusedVariables false
open Go.RowKit Go.Lib

theorem eEv : EltOf 24 44 34 280 (.agg #[.int .i64 0, .int .i64 0, .int .i64 0, .int .i64 0, .string ⟨#[]⟩, .int .i64 0, .int .i64 0, .int .i64 0, .int .i64 0, .int .i64 0, .int .i64 0, .int .i64 0, .int .i64 0, .int .i64 0, .int .i64 0, .int .i64 0, .int .i64 0, .int .i64 0, .int .i64 0, .int .i64 0, .int .i64 0, .int .i64 0, .int .i64 0, .int .i64 0, .int .i64 0, .int .i64 0, .int .i64 0, .int .u64 0, .int .u64 0, .int .i64 0, .int .i64 0, .int .i64 0, .int .i64 0, .int .i64 0]) evC :=
  ⟨by kernel_rfl, by kernel_rfl, rfl, by decide, by decide, fun _ => rfl, fun x u hu => evC_one x u hu⟩

set_option maxRecDepth 100000 in
set_option maxHeartbeats 8000000 in
theorem events_any (v : Value) (es : List EvtD) (w : World) (he : RowIn 34 evC w v es) (hel : es.length ≤ 100) :
    Calls Tryd.prog 5 #[v] w fun e w' => ∃ u, e = .returned u ∧ RowIn 34 evC w' u es ∧ Below w.heap.size w w' := by
  obtain ⟨A, c, rfl, hAc, h0⟩ := id he
  clear h0
  have HE := Lib.hid he
  have HAC := Lib.hid hAc
  clear he hAc
  go_enter Tryd.func5, Tryd.ntmps5
  go_wp2_with fail
  go_loopg [3, 8] es.length (fun g s3 s8 wr => ∃ k : Nat, k ≤ es.length ∧ es.length - k ≤ g ∧ s8 = .int .i64 k ∧ OwnL evC 44 34 w.heap.size wr s3 (es.take k) ∧ Below w.heap.size w wr)
  case atStart => exact ⟨0, Nat.zero_le _, Nat.le_refl _, rfl, OwnL.nil _ _, Below.refl _ _⟩
  case round =>
    obtain ⟨k, hk, hg, rfl, hown, hbw⟩ := hrel
    rename World => wr
    have HBr := Lib.hid hbw
    by_cases hlt : k < es.length
    · as_aux_lemma =>
        obtain ⟨b1, o1, rfl, hb1, hc⟩ := (HE.out.below HBr.out).at_ hlt
        obtain ⟨B1, e1, rfl⟩ := hown.form
        have hcl : (evC es[k]).length = 34 := rfl
        have hone : ∀ v ∈ evC es[k], v.oneCell' = true := evC_one _
        have HT2 := Lib.hid (show es.take (k + 1) = es.take k ++ [es[k]] from List.take_succ_eq_append_getElem hlt)
        have htl : (es.take k).length ≤ 100 := by rw [List.length_take]; omega
        generalize es.take k = ys at hown HT2 htl ⊢
        have HY := Lib.hid hown
        have HYL := Lib.hid htl
        obtain ⟨cs, hcs⟩ : ∃ cs, cs = evC es[k] := ⟨_, rfl⟩
        rw [← hcs] at hc hcl hone
        generalize es[k] = x at hcs HT2
        have HCS := Lib.hid hcs
        have hst := store_new (P := Tryd.prog) wr 42 cs 34 hcl (by kernel_rfl) hone
        have HC := Lib.hid hc
        have HCL := Lib.hid hcl
        clear hc hcl hone hown htl hcs hbw
        go_wp2_with (first
          | (refine wpList_load_list rfl 42 (.tmp 10) rfl b1 (o1 + k * 34) cs HC.out (by rfl) _ Tryd.underlying42 (by rfl) (by rw [HCL.out]; kernel_rfl) ?_)
          | (refine wpList_load_list rfl 42 (.tmp 5) rfl wr.heap.size 0 cs (new_cells _ _ _) (by rfl) _ Tryd.underlying42 (by rfl) (by rw [HCL.out]; kernel_rfl) ?_)
          | (refine wpList_build_one eEv (by decide) rfl (.tmp 13) rfl cs HCL.out (by rfl) ?_)
          | (at_builtin
             refine wpList_appendL eEv (by rfl) (by rfl) w.heap.size ys [x] (.slice B1 ys.length e1) _ (by rfl) (by rfl) ((HY.out.below (balloc (Below.refl _ _) _)).below (balloc (Below.refl _ _) _)) (RowIn.lit (n := 34) (f := evC) (wr.alloc _) x cs.toArray _ _ rfl (by simp [HCS.out])) (by have := HYL.out; simp; omega) (by have := HBr.out.size; simp; omega) ?_
             intro out A2 c2 w2 hout hown hg hor
             have HOU := Lib.hid (show out = ys ++ [x] from hout)
             have hb7 : Below w.heap.size wr w2 := (((Below.refl _ _).alloc HBr.out.size _).alloc (by have := HBr.out.size; simp; omega) _).trans (grown_own hg HY.out (by have := HBr.out.size; simp; omega))
             have HO := Lib.hid hown
             have HB7 := Lib.hid hb7
             clear hown hout hg hor hb7))
        go_roundg (es.length - (k + 1))
        case measure => omega
        case rel => exact ⟨k + 1, hlt, Nat.le_refl _, by go_num, by rw [HT2.out, ← HOU.out]; exact HO.out, HBr.out.trans HB7.out⟩
    · obtain rfl : k = es.length := by omega
      rw [List.take_length] at hown
      have HO := Lib.hid (hown.row eEv)
      clear hown hbw
      go_wp2_with fail
      go_ret
      exact ⟨_, rfl, HO.out, HBr.out⟩
end

section
set_option linter.unusedSimpArgs false
set_option linter.unusedVariables false
open Go.RowKit Go.Lib

def evTook : EvtD := ⟨4, 2, 0, ⟨0, ⟨#[]⟩, 0, 0, 0, ⟨0, 0, 0, 0, 0, 0⟩⟩, 0, 0, 0, 0, 0, 0, 0, 0, 0, 0, 0, 0, 0, 252201579132747776, 0, 0, 0, 0, 0, 0⟩
theorem evTook_s : evS evTook = ⟨#[50, 32, 116, 111, 111, 107, 32, 97]⟩ := by kernel_rfl
theorem sum_none : sumS 0 0 [] false = ⟨#[117, 115, 101, 100, 32, 48, 32, 111, 112, 101, 110, 32, 48, 32, 119, 97, 105, 116, 105, 110, 103, 32, 45, 32, 114, 101, 115, 116, 32, 110, 111]⟩ := by kernel_rfl
theorem i64z : I64 0 := by unfold I64; omega
theorem evTook_ok : evTook.ok :=
  ⟨by unfold I64 evTook; dsimp only; omega, by unfold I64 evTook; dsimp only; omega, i64z, ⟨i64z, by decide, i64z, i64z, i64z, i64z, i64z, i64z, i64z, i64z, i64z⟩, ⟨i64z, i64z, i64z, i64z, i64z, i64z, i64z, i64z, i64z, i64z, i64z, i64z, i64z⟩, by decide, by decide, ⟨i64z, i64z, i64z, i64z, i64z⟩⟩

set_option maxRecDepth 100000 in
set_option maxHeartbeats 4000000 in
theorem awake43_any (w : World) (ht : Tab w) : Calls Tryd.prog 4 #[] w fun e w' => e = .returned (.bool true) ∧ Below w.heap.size w w' := by
  have CE := Lib.hid (show ∀ W, Below w.heap.size w W → Calls Tryd.prog 6 #[evV evTook] W fun x w' => x = .returned (.string ⟨#[50, 32, 116, 111, 111, 107, 32, 97]⟩) ∧ Below W.heap.size W w' from fun W h => by have := pevent_any evTook W evTook_ok (ht.below h); rwa [evTook_s] at this)
  have CS := Lib.hid (show ∀ W, Below w.heap.size w W → Calls Tryd.prog 12 #[outV (.slice none 0 0) 0 0 (.slice none 0 0) false] W fun x w' => x = .returned (.string ⟨#[117, 115, 101, 100, 32, 48, 32, 111, 112, 101, 110, 32, 48, 32, 119, 97, 105, 116, 105, 110, 103, 32, 45, 32, 114, 101, 115, 116, 32, 110, 111]⟩) ∧ Below W.heap.size W w' from fun W h => by have := psum_any (.slice none 0 0) (.slice none 0 0) 0 0 [] false W ⟨none, 0, rfl, fun h => absurd h (by decide)⟩ (fun p hp => by cases hp) (by decide) i64z i64z (ht.below h); rwa [sum_none] at this)
  unfold evV evTook at CE
  unfold outV at CS
  dsimp only at CE
  clear ht
  go_enter Tryd.func4, Tryd.ntmps4
  go_wp2_with (first
    | (go_at_call 6
       refine (CE.out _ (Below.refl _ _)).mono ?_
       rintro e w1 ⟨rfl, hb1⟩
       have HB1 := Lib.hid hb1
       clear hb1)
    | (go_at_call 12
       refine (CS.out _ HB1.out).mono ?_
       rintro e w2 ⟨rfl, hb1⟩
       have HB2 := Lib.hid (bthen HB1.out hb1)
       clear hb1))
  go_ret
  exact ⟨rfl, HB2.out⟩
theorem want_next (es : List EvtD) (k : Nat) (h : k < es.length) : (⟨(textL (es.take (k + 1))).toArray⟩ : ByteArray) = ⟨(textL (es.take k)).toArray⟩ ++ (evS es[k] ++ ⟨#[10]⟩) := by
  rw [textL_snoc es k h]
  apply bytes_ext
  simp [ByteArray.data_append]
theorem textO_cat (es : List EvtD) (used opn : Int) (l : List Ky) (rest : Bool) : textO es used opn l rest = ⟨(textL es).toArray⟩ ++ sumS used opn l rest ++ ⟨#[10]⟩ := by
  apply bytes_ext
  simp [textO, ByteArray.data_append]
end

section
set_option linter.unusedSimpArgs false
set_option linter.unusedVariables false
open Go.RowKit Go.Lib

def stor (w : World) (B i : Nat) : List Value → World
  | [] => w
  | v :: vs => stor (w.setCell ⟨B, i, none⟩ v) B (i + 1) vs
theorem stor_one {w : World} {B i : Nat} {cs : Array Value} {T : TypeId} {fr : Nat × Nat} {v : Value} (h : w.heap[B]? = some (.cells cs T fr)) : (w.setCell ⟨B, i, none⟩ v).heap[B]? = some (.cells (cs.setIfInBounds i v) T fr) := by
  obtain ⟨hlt, hk⟩ := Array.getElem?_eq_some_iff.1 h
  show (w.heap.modify B _)[B]? = _
  rw [Array.getElem?_eq_getElem (by rw [Array.size_modify]; exact hlt), Array.getElem_modify_self, hk]
  simp
theorem stor_other {w : World} {B i k : Nat} {v : Value} (h : k ≠ B) : (w.setCell ⟨B, i, none⟩ v).heap[k]? = w.heap[k]? := by
  show (w.heap.modify B _)[k]? = _
  by_cases hk : k < w.heap.size
  · rw [Array.getElem?_eq_getElem (by rw [Array.size_modify]; exact hk), Array.getElem_modify_of_ne (Ne.symm h), Array.getElem?_eq_getElem hk]
  · rw [Array.getElem?_eq_none (by rw [Array.size_modify]; omega), Array.getElem?_eq_none (by omega)]
theorem stor_all : ∀ (vs : List Value) (w : World) (B i : Nat) (cs : Array Value) (T : TypeId), w.heap[B]? = some (.cells cs T (0, 0)) → cs.size = i + vs.length →
    (stor w B i vs).heap[B]? = some (.cells ((cs.toList.take i ++ vs).toArray) T (0, 0)) ∧ (∀ k, k ≠ B → (stor w B i vs).heap[k]? = w.heap[k]?) ∧ (stor w B i vs).heap.size = w.heap.size ∧ ∀ n, n ≤ B → Below n w (stor w B i vs) := by
  intro vs
  induction vs with
  | nil =>
    intro w B i cs T h hn
    refine ⟨?_, fun _ _ => rfl, rfl, fun n _ => Below.refl _ _⟩
    simp only [List.length_nil, Nat.add_zero] at hn
    rw [stor, h, List.append_nil, List.take_of_length_le (by simp; omega)]
  | cons v vs ih =>
    intro w B i cs T h hn
    simp only [List.length_cons] at hn
    have h1 := stor_one (i := i) (v := v) h
    obtain ⟨a1, a2, a3, a4⟩ := ih (w.setCell ⟨B, i, none⟩ v) B (i + 1) _ T h1 (by simp; omega)
    refine ⟨?_, fun k hk => (a2 k hk).trans (stor_other hk), a3.trans (by simp [World.setCell]), fun n hn => ((Below.refl _ _).setCell hn _).trans (a4 n hn)⟩
    rw [stor, a1]
    congr 3
    rw [Array.toList_setIfInBounds, List.take_add_one, List.take_set_of_le (Nat.le_refl _)]
    rw [List.getElem?_set_self (by simp; omega)]
    simp
theorem stor_at {w : World} {B : Nat} {cs : Array Value} {T : TypeId} (h : w.heap[B]? = some (.cells cs T (0, 0))) (vs : List Value) (hn : cs.size = vs.length) : ∀ W, W = stor w B 0 vs →
    W.heap[B]? = some (.cells vs.toArray T (0, 0)) ∧ (∀ k, k ≠ B → W.heap[k]? = w.heap[k]?) ∧ W.heap.size = w.heap.size ∧ ∀ n, n ≤ B → Below n w W := by
  rintro W rfl
  have := stor_all vs w B 0 cs T h (by omega)
  simpa using this
end

section
set_option linter.unusedSimpArgs false
set_option linter.unusedVariables false
theorem post_named {P : Program} {f : Func} {Q : Ending → World → Prop} {e : Exit} {a : Act} {w : World} (h : ∀ W, W = w → bodyPost P f Q e a W) : bodyPost P f Q e a w := h w rfl
end

end Go.Proofs.YtmndhffimlkjgaaDoor
