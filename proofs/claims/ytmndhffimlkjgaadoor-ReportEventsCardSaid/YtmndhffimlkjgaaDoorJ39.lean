/- ReportEvents answers true. -/
import Derived.Test.YtmndhffimlkjgaaDoorJ27
import Derived.Test.YtmndhffimlkjgaaDoorJ28
import Derived.Test.YtmndhffimlkjgaaDoorJ37
import Derived.Test.YtmndhffimlkjgaaDoorJ38
import Derived.ChangeKeysEq
namespace Go.Proofs.YtmndhffimlkjgaaDoor

section
set_option linter.unusedSimpArgs false
set_option linter.unusedVariables false
open Go.RowKit Go.Lib

theorem eqItems_self (U : World) (xs : Array Value) : ∀ is : List Nat, (∀ i ∈ is, ∃ n : Int, xs[i]? = some (.int .i64 n)) → (Op.eqItems 9999 3 (Tryd.prog.cellsOf 3) xs xs is).run Tryd.prog U = .ok true U
  | [], _ => by simp [Op.eqItems]
  | i :: is, h => by
    obtain ⟨n, hn⟩ := h i (by simp)
    have hc : Tryd.prog.cellsOf 3 = 1 := by kernel_rfl
    have hp := run_part_plain (P := Tryd.prog) U (e := 3) (by kernel_rfl) (off := i * 1) (by rw [Nat.mul_one]; exact hn)
    have ih := eqItems_self U xs is (fun j hj => h j (by simp [hj]))
    rw [hc] at ih
    simp only [Op.eqItems, Sem.run_bind, hc, hp, Result.andThen_ok, run_equalIn_int U 9998 _ _ _ n n Tryd.underlying3, beq_self_eq_true, Bool.not_true, Bool.false_eq_true, if_false, ih, if_true]
theorem eqA8 (xs : Array Value) (h : ∀ i, i < 8 → ∃ n : Int, xs[i]? = some (.int .i64 n)) (U : World) : (binOp .eql 26 (.agg xs) (.agg xs)).run Tryd.prog U = .ok (.bool true) U := by
  obtain ⟨i, hi⟩ : ∃ i, Tryd.prog.info? 3 = some i := Option.isSome_iff_exists.1 (by kernel_rfl)
  have h1 := run_equalIn_array U 9999 xs xs Tryd.underlying26 hi
  rw [eqItems_self U xs (List.range 8) (fun i hi => h i (List.mem_range.1 hi))] at h1
  simp [go_sem, Tryd.underlying26, h1]
theorem eq8 (es : List EvtD) (U : World) : (binOp .eql 26 (.agg (cntL es).toArray) (.agg (cntL es).toArray)).run Tryd.prog U = .ok (.bool true) U :=
  eqA8 _ (fun i hi => ⟨_, by rw [List.getElem?_toArray]; exact cntL_at es i hi⟩) U

set_option maxRecDepth 100000 in
set_option maxHeartbeats 8000000 in
theorem rep_events (v : Value) (es : List EvtD) (w : World) (he : RowIn 34 evC w v es) (heok : ∀ e ∈ es, e.ok) (hem : es.length ≤ maxLen) (ht : Tab w) :
    Calls Tryd.prog 3 #[v] w fun e w' => e = .returned (.bool true) ∧ Below w.heap.size w w' := by
  obtain ⟨A, c, rfl, hAc, h0⟩ := id he
  clear h0 hAc
  unfold maxLen at hem
  have HAW := Lib.hid (awake43_any w ht)
  by_cases hel : es.length ≤ 40
  · have HE := Lib.hid he
    have HEOK := Lib.hid heok
    have HT := Lib.hid ht
    have HEL := Lib.hid hel
    have CEV := Lib.hid (show ∀ W, Below w.heap.size w W → Calls Tryd.prog 5 #[.slice A es.length c] W fun e w' => ∃ u, e = .returned u ∧ RowIn 34 evC w' u es ∧ Below W.heap.size W w' from fun W h => events_any _ es W (he.below h) (by omega))
    have CRL := Lib.hid (show ∀ W, Below w.heap.size w W → Calls Tryd.prog 11 #[.slice A es.length c] W (LastSays W (lastL es)) from fun W h => rlast_any _ es W (he.below h) heok hel)
    have CPL := Lib.hid (show ∀ (B : Option Addr) (d : Nat) W, Below w.heap.size w W → RowIn 34 evC W (.slice B es.length d) es → Calls Tryd.prog 10 #[.slice B es.length d] W (LastSays W (lastL es)) from fun B d W h hr => plast_any _ es W hr heok hel (ht.below h))
    have CCT := Lib.hid (show ∀ (B : Option Addr) (d : Nat) W, RowIn 34 evC W (.slice B es.length d) es → Calls Tryd.prog 8 #[.slice B es.length d] W fun e w' => e = .returned (.agg (cntL es).toArray) ∧ Below W.heap.size W w' from fun B d W hr => count_any _ es W hr (by omega))
    have HLL := Lib.hid (show (lastL es).length ≤ 40 by
      unfold lastL notedK
      rw [List.length_map]
      have h1 := len_risL ((notedL es).map (·.1.1))
      have h2 := notedL_len es
      rw [List.length_map] at h1
      omega)
    have q1 : ¬ (40 : Int) < (es.length : Int) := by omega
    clear he heok ht hel
    go_enter Tryd.func3, Tryd.ntmps3
    go_upto_region 7 with (first
      | (go_at_call 4
         refine HAW.out.mono ?_
         rintro e w1 ⟨rfl, hb1⟩
         have HB1 := Lib.hid hb1
         clear hb1)
      | (go_at_call 5
         refine (CEV.out w1 HB1.out).mono ?_
         rintro e w2 ⟨u, rfl, hr2, hb2⟩
         obtain ⟨B2, d2, rfl, _, _⟩ := id hr2
         have HR2 := Lib.hid hr2
         have HB2 := Lib.hid (bthen HB1.out hb2)
         clear hr2 hb2))
    refine name_world ?_
    intro W hW
    have hb3 : Below w2.heap.size w2 W := by rw [hW]; exact balloc (Below.refl _ _) _
    have hx3 : W.heap[w2.heap.size]? = some (.cells (cntL (es.take 0)).toArray 26 (0, 0)) := by rw [hW]; exact heap_alloc_new _ _
    have HB3 := Lib.hid (bthen HB2.out hb3)
    have HR3 := Lib.hid (HR2.out.below hb3)
    have HX3 := Lib.hid hx3
    have HBW := Lib.hid hb3
    clear hW hb3 hx3
    go_wp2_with fail
    go_loopg [16] es.length (fun g s16 wr => ∃ k : Nat, k ≤ es.length ∧ es.length - k ≤ g ∧ s16 = .int .i64 k ∧ wr.heap[w2.heap.size]? = some (.cells (cntL (es.take k)).toArray 26 (0, 0)) ∧ Below w2.heap.size w2 wr)
    case atStart => exact ⟨0, Nat.zero_le _, Nat.le_refl _, rfl, HX3.out, HBW.out⟩
    case round =>
      obtain ⟨k, hk, hg, rfl, hx, hbw⟩ := hrel
      rename World => wr
      have HX := Lib.hid hx
      have HBr := Lib.hid (bthen HB2.out hbw)
      have HBw := Lib.hid hbw
      have HRr := Lib.hid (HR2.out.below hbw)
      clear hx hbw HX3 HR3 HBW HB3
      by_cases hlt : k < es.length
      · obtain ⟨b1, o1, rfl, hb1, hc⟩ := (HE.out.below HBr.out).at_ hlt
        obtain ⟨b2, o2, rfl, hb2, hc2⟩ := HRr.out.at_ hlt
        have hcl : (evC es[k]).length = 34 := rfl
        have hone : ∀ v ∈ evC es[k], v.oneCell' = true := evC_one _
        have hek := HEOK.out _ (List.getElem_mem hlt)
        have hez := evS_size hek
        have g4 : (evC es[k])[4]? = some (.string es[k].call.id) := rfl
        have g0 : (evC es[k])[0]? = some (.int .i64 es[k].kind) := rfl
        have himax : es[k].call.id.size ≤ maxLen := hek.call.2.1
        have C5 := Lib.hid (show ∀ W, Below w.heap.size w W → Calls Tryd.prog 6 #[.agg (evC es[k]).toArray] W fun x w' => x = .returned (.string (evS es[k])) ∧ Below W.heap.size W w' from fun W h => pevent_any es[k] W hek (HT.out.below h))
        have C6 := Lib.hid (show ∀ W, Below w.heap.size w W → Calls Tryd.prog 7 #[.agg (evC es[k]).toArray] W fun x w' => x = .returned (.string (evS es[k])) ∧ Below W.heap.size W w' from fun W _ => revent_any es[k] W hek)
        have HKC := Lib.hid (show kc es[k] = if 1 ≤ es[k].kind ∧ es[k].kind ≤ 7 then es[k].kind.toNat else 0 from rfl)
        have HCN := Lib.hid (show cn (es.take k) (kc es[k]) ≤ 40 from Nat.le_trans (cn_le _ _) (by rw [List.length_take]; have := HEL.out; omega))
        have HST := Lib.hid (fun (U : World) (T : TypeId) (h : U.heap[w2.heap.size]? = some (.cells (cntL (es.take k)).toArray T (0, 0))) => cnt_stor (es := es) hlt h (kc es[k]) rfl _ rfl)
        have HAT := Lib.hid (cntL_at (es.take k) (kc es[k]) (kc_lt _))
        generalize evS es[k] = ek at C5 C6 hez
        generalize es[k].call.id = sid at g4 himax
        generalize evC es[k] = cs at hc hc2 hcl hone g4 g0 C5 C6
        generalize es[k].kind = kd at g0 HKC
        generalize kc es[k] = cc at HKC HCN HST HAT
        have hst := store_new (P := Tryd.prog) wr 42 cs 34 hcl (by kernel_rfl) hone
        have k4 : ∀ h, cs[4]'h = .string sid := fun h => Option.some.inj ((List.getElem?_eq_getElem h).symm.trans g4)
        have k0 : ∀ h, cs[0]'h = .int .i64 kd := fun h => Option.some.inj ((List.getElem?_eq_getElem h).symm.trans g0)
        have HC := Lib.hid hc
        have HC2 := Lib.hid (show b2 < wr.heap.size ∧ ∀ j v, cs[j]? = some v → wr.cell? ⟨b2, o2 + k * 34 + j, none⟩ = some v from ⟨hb2, hc2⟩)
        have HCL := Lib.hid hcl
        have HG0 := Lib.hid g0
        unfold maxLen at himax
        clear hc hc2 hcl hone hek hb2 g0
        by_cases hsz : sid.size ≤ 100
        · have q3 : ¬ (100 : Int) < (sid.size : Int) := by omega
          go_upto_region 12 with (first
            | (refine wpList_load_list rfl 42 (.tmp 19) rfl b1 (o1 + k * 34) cs HC.out (by rfl) _ Tryd.underlying42 (by rfl) (by rw [HCL.out]; kernel_rfl) ?_))
          refine name_world ?_
          intro W4 hW4
          have hb4 : Below wr.heap.size wr W4 := by rw [hW4]; exact balloc (Below.refl _ _) _
          have hx4 : W4.heap[wr.heap.size]? = some (.cells cs.toArray 42 (0, 0)) := by rw [hW4]; exact heap_alloc_new _ _
          have HX4 := Lib.hid hx4
          have HB4 := Lib.hid (bthen HBr.out hb4)
          have HB4w := Lib.hid hb4
          have HXX := Lib.hid (show W4.heap[w2.heap.size]? = some (.cells (cntL (es.take k)).toArray 26 (0, 0)) from (hb4.block _ (Array.getElem?_eq_some_iff.1 HX.out).1).trans HX.out)
          have HB4r := Lib.hid (Below.refl W4.heap.size W4)
          have HL1 := Lib.hid (show ∀ U, Below W4.heap.size W4 U → U.rangeAt b2 (o2 + k * 34) cs from fun U hU j v hj => ((bcell (bthen HB4w.out hU)).1 b2 _ HC2.out.1).trans (HC2.out.2 j v hj))
          have HL2 := Lib.hid (show ∀ U, Below W4.heap.size W4 U → U.rangeAt wr.heap.size 0 cs from fun U hU j v hj => by rw [Nat.zero_add, (box_cells hU HX4.out).1 j]; simpa using hj)
          clear hW4 hb4 hx4 hst
          refine wp_region_held_drew (S := (fun U : World => Below W4.heap.size W4 U)) (by kernel_rfl) ?hS1 (fun hHeld => ?_)
          case hS1 => first | with_reducible exact HB4r.out | with_reducible exact HB4r.out.drew | exact HB4r.out.drew | with_reducible exact HB5.out | with_reducible exact HB6.out
          refine wpAnyH_take (i := 0) (v := ?v2) rfl (by kernel_rfl) (by kernel_rfl) (by kernel_rfl) (fun _ _ _ h => h) (Or.inl ⟨by rfl, ?hy2⟩) (by assumption) ?_
          case hy2 =>
            intro w' hSw
            (try dsimp only at hSw)
            go_simp
            try (with_reducible rfl)
          try simp only [Act.put, List.getElem_toArray, List.getElem_cons_succ, List.getElem_cons_zero, List.setIfInBounds_toArray, List.set_cons_zero, List.set_cons_succ]
          refine wpAnyH_take (i := 1) (v := ?v3) rfl (by kernel_rfl) (by kernel_rfl) (by kernel_rfl) (fun _ _ _ h => h) (Or.inl ⟨by rfl, ?hy3⟩) (by assumption) ?_
          case hy3 =>
            intro w' hSw
            (try dsimp only at hSw)
            go_simp
            try (with_reducible rfl)
          try simp only [Act.put, List.getElem_toArray, List.getElem_cons_succ, List.getElem_cons_zero, List.setIfInBounds_toArray, List.set_cons_zero, List.set_cons_succ]
          refine wpAnyH_take (i := 2) (v := ?v4) rfl (by kernel_rfl) (by kernel_rfl) (by kernel_rfl) (fun _ _ _ h => h) (Or.inl ⟨by rfl, ?hy4⟩) (by assumption) ?_
          case hy4 =>
            intro w' hSw
            (try dsimp only at hSw)
            go_simp
            try (with_reducible rfl)
          try simp only [Act.put, List.getElem_toArray, List.getElem_cons_succ, List.getElem_cons_zero, List.setIfInBounds_toArray, List.set_cons_zero, List.set_cons_succ]
          refine wpAnyH_take (i := 3) (v := .agg (cs).toArray) rfl (by kernel_rfl) (by kernel_rfl) (by kernel_rfl) (fun _ _ _ h => h) (yieldsIf_load_mid (by rfl) 44 (.tmp 28) (by rfl) b2 (o2 + k * 34) (by rfl) (cs) _ (HL1.out) Tryd.underlying44 (by rfl) (by rw [HCL.out]; kernel_rfl)) (by assumption) ?_
          try simp only [Act.put, List.getElem_toArray, List.getElem_cons_succ, List.getElem_cons_zero, List.setIfInBounds_toArray, List.set_cons_zero, List.set_cons_succ]
          refine wpAnyH_take (i := 5) (v := .agg (cs).toArray) rfl (by kernel_rfl) (by kernel_rfl) (by kernel_rfl) (fun _ _ _ h => h) (yieldsIf_load_mid (by rfl) 42 (.tmp 6) (by rfl) wr.heap.size (0) (by rfl) (cs) _ (HL2.out) Tryd.underlying42 (by rfl) (by rw [HCL.out]; kernel_rfl)) (by assumption) ?_
          try simp only [Act.put, List.getElem_toArray, List.getElem_cons_succ, List.getElem_cons_zero, List.setIfInBounds_toArray, List.set_cons_zero, List.set_cons_succ]
          refine wpAnyH_ready (rs := [4]) (by kernel_rfl) (by simp) ?_
          refine AllReadyH.cons rfl (fun K hK => ?_) AllReadyH.nil
          go_simp
          go_at_call 6
          refine calls_named ?_
          intro W5 hW5
          have hb5 : Below W4.heap.size W4 W5 := by rw [hW5]; first | exact Below.refl _ _ | exact (Below.refl _ _).drew
          clear hW5
          with_reducible refine (C5.out W5 (bthen HB4.out hb5)).mono ?_
          rintro e w5 ⟨rfl, hb6⟩
          have HB5 := Lib.hid (bthen hb5 hb6)
          clear hb5 hb6
          try go_simp
          refine hK.out _ _ ?hS5 (fun hHeld2 => ?_)
          case hS5 => first | with_reducible exact HB4r.out | with_reducible exact HB4r.out.drew | exact HB4r.out.drew | with_reducible exact HB5.out | with_reducible exact HB6.out
          clear hK K hHeld
          have hHeld := hHeld2
          clear hHeld2
          try simp only [Act.put, List.getElem_toArray, List.getElem_cons_succ, List.getElem_cons_zero, List.setIfInBounds_toArray, List.set_cons_zero, List.set_cons_succ]
          refine wpAnyH_ready (rs := [6]) (by kernel_rfl) (by simp) ?_
          refine AllReadyH.cons rfl (fun K hK => ?_) AllReadyH.nil
          go_simp
          go_at_call 7
          refine calls_named ?_
          intro W5 hW5
          have hb5 : Below W4.heap.size W4 W5 := by rw [hW5]; first | exact Below.refl _ _ | exact (Below.refl _ _).drew | exact HB5.out
          clear hW5
          with_reducible refine (C6.out W5 (bthen HB4.out hb5)).mono ?_
          rintro e w6 ⟨rfl, hb6⟩
          have HB6 := Lib.hid (bthen hb5 hb6)
          clear hb5 hb6
          try go_simp
          refine hK.out _ _ ?hS6 (fun hHeld2 => ?_)
          case hS6 => first | with_reducible exact HB4r.out | with_reducible exact HB4r.out.drew | exact HB4r.out.drew | with_reducible exact HB5.out | with_reducible exact HB6.out
          clear hK K hHeld
          have hHeld := hHeld2
          clear hHeld2
          try simp only [Act.put, List.getElem_toArray, List.getElem_cons_succ, List.getElem_cons_zero, List.setIfInBounds_toArray, List.set_cons_zero, List.set_cons_succ]
          refine wpAnyH_take (i := 7) (v := ?v7) rfl (by kernel_rfl) (by kernel_rfl) (by kernel_rfl) (fun _ _ _ h => h) (Or.inl ⟨by rfl, ?hy7⟩) (by assumption) ?_
          case hy7 =>
            intro w' hSw
            (try dsimp only at hSw)
            go_simp
            try (with_reducible rfl)
          try simp only [Act.put, List.getElem_toArray, List.getElem_cons_succ, List.getElem_cons_zero, List.setIfInBounds_toArray, List.set_cons_zero, List.set_cons_succ]
          refine wpAnyH_done (by kernel_rfl) ?_ _
          have h60 : Below wr.heap.size wr w6 := bthen HB4w.out HB6.out
          have hx6 := (HB6.out.block _ (Array.getElem?_eq_some_iff.1 HXX.out).1).trans HXX.out
          obtain ⟨x1, x2, x3, x4⟩ := box_at (Below.refl _ _) hx6
          obtain ⟨y1, y2, y3, y4⟩ := box_at HB6.out HX4.out
          have hat : w6.cell? ⟨w2.heap.size, cc, none⟩ = some (.int .i64 (cn (es.take k) cc : Nat)) := (x1 cc).trans (by rw [List.getElem?_toArray]; exact HAT.out)
          have hfr := x2 cc
          have hkd : w6.cell? ⟨wr.heap.size, 0, none⟩ = some (.int .i64 kd) := (y1 0).trans ((List.getElem?_toArray ..).trans HG0.out)
          have hcnn := HCN.out
          have HX6 := Lib.hid hx6
          have HB60 := Lib.hid h60
          generalize cn (es.take k) cc = n at HCN HST hat hcnn
          clear x1 x2 x4 y1 y2 y3 y4 hx6 h60 k0 k4 g4 HAT
          by_cases h1 : 1 ≤ kd
          · by_cases h7 : kd ≤ 7
            · obtain ⟨m, hm⟩ : ∃ m : Nat, kd = (m : Int) := ⟨kd.toNat, by omega⟩
              have hcm : cc = m := by rw [HKC.out, if_pos ⟨h1, h7⟩]; omega
              subst hcm
              subst hm
              go_wp2_with fail
              go_roundg (es.length - (k + 1))
              case measure => omega
              case rel => exact ⟨k + 1, hlt, Nat.le_refl _, by go_num, HST.out _ _ HX6.out, (HBw.out.trans (HB60.out.mono HBw.out.size)).setCell (Nat.le_refl _) _⟩
            · have hcm : cc = 0 := by rw [HKC.out, if_neg (by omega)]
              subst hcm
              go_wp2_with fail
              go_roundg (es.length - (k + 1))
              case measure => omega
              case rel => exact ⟨k + 1, hlt, Nat.le_refl _, by go_num, HST.out _ _ HX6.out, (HBw.out.trans (HB60.out.mono HBw.out.size)).setCell (Nat.le_refl _) _⟩
          · have hcm : cc = 0 := by rw [HKC.out, if_neg (by omega)]
            subst hcm
            go_wp2_with fail
            go_roundg (es.length - (k + 1))
            case measure => omega
            case rel => exact ⟨k + 1, hlt, Nat.le_refl _, by go_num, HST.out _ _ HX6.out, (HBw.out.trans (HB60.out.mono HBw.out.size)).setCell (Nat.le_refl _) _⟩
        · have q3 : (100 : Int) < (sid.size : Int) := by omega
          go_wp2_with (first
            | (refine wpList_load_list rfl 42 (.tmp 19) rfl b1 (o1 + k * 34) cs HC.out (by rfl) _ Tryd.underlying42 (by rfl) (by rw [HCL.out]; kernel_rfl) ?_))
          go_ret
          exact ⟨rfl, balloc HBr.out _⟩
      · obtain rfl : k = es.length := by omega
        as_aux_lemma =>
          rw [List.take_length] at HX
          refine name_world ?_
          intro W4 hW4
          have HB4 := Lib.hid (show Below w.heap.size w W4 by rw [hW4]; exact HBr.out)
          have HR4 := Lib.hid (show RowIn 34 evC W4 (.slice B2 es.length d2) es by rw [hW4]; exact HRr.out)
          have HX4 := Lib.hid (show W4.heap[w2.heap.size]? = some (.cells (cntL es).toArray 26 (0, 0)) by rw [hW4]; exact HX.out)
          have HB4r := Lib.hid (Below.refl W4.heap.size W4)
          have HL1 := Lib.hid (show ∀ U, Below W4.heap.size W4 U → U.rangeAt w2.heap.size 0 (cntL es) from fun U hU j v hj => by rw [Nat.zero_add, (box_cells hU HX4.out).1 j]; simpa using hj)
          have HCL := Lib.hid (cntL_len es)
          have q8 := eq8 es
          have HLL2 := HLL
          generalize cntL es = ca at CCT HL1 q8 HCL
          generalize lastL es = ll at CPL CRL HLL
          clear hW4 HX HX4 hlt hk hg
          go_wp2_with fail
          refine wp_region_held_drew (S := (fun U : World => Below W4.heap.size W4 U)) (by kernel_rfl) ?hS8 (fun hHeld => ?_)
          case hS8 => first | with_reducible exact HB4r.out | exact HB4r.out.drew | with_reducible exact HB5.out | with_reducible exact HB6.out | with_reducible exact HB7.out | with_reducible exact HB8.out
          refine wpAnyH_take (i := 0) (v := ?v9) rfl (by kernel_rfl) (by kernel_rfl) (by kernel_rfl) (fun _ _ _ h => h) (Or.inl ⟨by rfl, ?hy9⟩) (by assumption) ?_
          case hy9 =>
            intro w' hSw
            (try dsimp only at hSw)
            go_simp
            try (with_reducible rfl)
          try simp only [Act.put, List.getElem_toArray, List.getElem_cons_succ, List.getElem_cons_zero, List.setIfInBounds_toArray, List.set_cons_zero, List.set_cons_succ]
          refine wpAnyH_take (i := 2) (v := .agg (ca).toArray) rfl (by kernel_rfl) (by kernel_rfl) (by kernel_rfl) (fun _ _ _ h => h) (yieldsIf_load_mid (by rfl) 26 (.tmp 4) (by rfl) w2.heap.size (0) (by rfl) (ca) _ (HL1.out) Tryd.underlying26 (by rfl) (by rw [HCL.out]; kernel_rfl)) (by assumption) ?_
          try simp only [Act.put, List.getElem_toArray, List.getElem_cons_succ, List.getElem_cons_zero, List.setIfInBounds_toArray, List.set_cons_zero, List.set_cons_succ]
          refine wpAnyH_ready (rs := [1]) (by kernel_rfl) (by simp) ?_
          refine AllReadyH.cons rfl (fun K hK => ?_) AllReadyH.nil
          go_simp
          go_at_call 8
          refine calls_named ?_
          intro W5 hW5
          have hb5 : Below W4.heap.size W4 W5 := by rw [hW5]; first | exact Below.refl _ _ | exact (Below.refl _ _).drew
          clear hW5
          refine (CCT.out _ _ W5 (HR4.out.below hb5)).mono ?_
          rintro e w5 ⟨rfl, hb6⟩
          have HB5 := Lib.hid (bthen hb5 hb6)
          clear hb5 hb6
          try go_simp
          refine hK.out _ _ ?hS10 (fun hHeld2 => ?_)
          case hS10 => first | with_reducible exact HB4r.out | exact HB4r.out.drew | with_reducible exact HB5.out | with_reducible exact HB6.out | with_reducible exact HB7.out | with_reducible exact HB8.out
          clear hK K hHeld
          have hHeld := hHeld2
          clear hHeld2
          try simp only [Act.put, List.getElem_toArray, List.getElem_cons_succ, List.getElem_cons_zero, List.setIfInBounds_toArray, List.set_cons_zero, List.set_cons_succ]
          refine wpAnyH_take (i := 3) (v := ?v11) rfl (by kernel_rfl) (by kernel_rfl) (by kernel_rfl) (fun _ _ _ h => h) (Or.inl ⟨by rfl, ?hy11⟩) (by assumption) ?_
          case hy11 =>
            intro w' hSw
            (try dsimp only at hSw)
            go_simp
            try (with_reducible rfl)
          try simp only [Act.put, List.getElem_toArray, List.getElem_cons_succ, List.getElem_cons_zero, List.setIfInBounds_toArray, List.set_cons_zero, List.set_cons_succ]
          refine wpAnyH_take (i := 4) (v := ?v12) rfl (by kernel_rfl) (by kernel_rfl) (by kernel_rfl) (fun _ _ _ h => h) (Or.inl ⟨by rfl, ?hy12⟩) (by assumption) ?_
          case hy12 =>
            intro w' hSw
            (try dsimp only at hSw)
            go_simp
            try (with_reducible rfl)
          try simp only [Act.put, List.getElem_toArray, List.getElem_cons_succ, List.getElem_cons_zero, List.setIfInBounds_toArray, List.set_cons_zero, List.set_cons_succ]
          refine wpAnyH_take (i := 5) (v := ?v13) rfl (by kernel_rfl) (by kernel_rfl) (by kernel_rfl) (fun _ _ _ h => h) (Or.inl ⟨by rfl, ?hy13⟩) (by assumption) ?_
          case hy13 =>
            intro w' hSw
            (try dsimp only at hSw)
            go_simp
            try (with_reducible rfl)
          try simp only [Act.put, List.getElem_toArray, List.getElem_cons_succ, List.getElem_cons_zero, List.setIfInBounds_toArray, List.set_cons_zero, List.set_cons_succ]
          refine wpAnyH_take (i := 7) (v := ?v14) rfl (by kernel_rfl) (by kernel_rfl) (by kernel_rfl) (fun _ _ _ h => h) (Or.inl ⟨by rfl, ?hy14⟩) (by assumption) ?_
          case hy14 =>
            intro w' hSw
            (try dsimp only at hSw)
            go_simp
            try (with_reducible rfl)
          try simp only [Act.put, List.getElem_toArray, List.getElem_cons_succ, List.getElem_cons_zero, List.setIfInBounds_toArray, List.set_cons_zero, List.set_cons_succ]
          refine wpAnyH_ready (rs := [6]) (by kernel_rfl) (by simp) ?_
          refine AllReadyH.cons rfl (fun K hK => ?_) AllReadyH.nil
          go_simp
          go_at_call 10
          refine calls_named ?_
          intro W5 hW5
          have hb5 : Below W4.heap.size W4 W5 := by rw [hW5]; first | exact Below.refl _ _ | exact (Below.refl _ _).drew | exact HB5.out
          clear hW5
          refine (CPL.out _ _ W5 (bthen HB4.out hb5) (HR4.out.below hb5)).mono ?_
          rintro e w6 ⟨u6, rfl, hr6, hb6⟩
          have HB6 := Lib.hid (bthen hb5 hb6)
          have HR6 := Lib.hid hr6
          clear hr6
          clear hb5 hb6
          try go_simp
          refine hK.out _ _ ?hS15 (fun hHeld2 => ?_)
          case hS15 => first | with_reducible exact HB4r.out | exact HB4r.out.drew | with_reducible exact HB5.out | with_reducible exact HB6.out | with_reducible exact HB7.out | with_reducible exact HB8.out
          clear hK K hHeld
          have hHeld := hHeld2
          clear hHeld2
          try simp only [Act.put, List.getElem_toArray, List.getElem_cons_succ, List.getElem_cons_zero, List.setIfInBounds_toArray, List.set_cons_zero, List.set_cons_succ]
          refine wpAnyH_ready (rs := [8]) (by kernel_rfl) (by simp) ?_
          refine AllReadyH.cons rfl (fun K hK => ?_) AllReadyH.nil
          go_simp
          go_at_call 11
          refine (CRL.out w6 (bthen HB4.out HB6.out)).mono ?_
          rintro e w7 ⟨u7, rfl, hr7, hb6⟩
          have HB7 := Lib.hid (bthen HB6.out hb6)
          have HR7 := Lib.hid hr7
          have HR67 := Lib.hid (HR6.out.below hb6)
          clear hr7 hb6
          try go_simp
          refine hK.out _ _ ?hS16 (fun hHeld2 => ?_)
          case hS16 => first | with_reducible exact HB4r.out | exact HB4r.out.drew | with_reducible exact HB5.out | with_reducible exact HB6.out | with_reducible exact HB7.out | with_reducible exact HB8.out
          clear hK K hHeld
          have hHeld := hHeld2
          clear hHeld2
          try simp only [Act.put, List.getElem_toArray, List.getElem_cons_succ, List.getElem_cons_zero, List.setIfInBounds_toArray, List.set_cons_zero, List.set_cons_succ]
          refine wpAnyH_ready (rs := [9]) (by kernel_rfl) (by simp) ?_
          refine AllReadyH.cons rfl (fun K hK => ?_) AllReadyH.nil
          go_simp
          go_at_call 9
          refine (texts_any u6 u7 ll w7 HR67.out HR7.out (by have := HLL.out; omega)).mono ?_
          rintro e w8 ⟨rfl, hb6⟩
          have HB8 := Lib.hid (bthen HB7.out hb6)
          clear hb6
          try go_simp
          refine hK.out _ _ ?hS17 (fun hHeld2 => ?_)
          case hS17 => first | with_reducible exact HB4r.out | exact HB4r.out.drew | with_reducible exact HB5.out | with_reducible exact HB6.out | with_reducible exact HB7.out | with_reducible exact HB8.out
          clear hK K hHeld
          have hHeld := hHeld2
          clear hHeld2
          try simp only [Act.put, List.getElem_toArray, List.getElem_cons_succ, List.getElem_cons_zero, List.setIfInBounds_toArray, List.set_cons_zero, List.set_cons_succ]
          refine wpAnyH_take (i := 10) (v := ?v18) rfl (by kernel_rfl) (by kernel_rfl) (by kernel_rfl) (fun _ _ _ h => h) (Or.inl ⟨by rfl, ?hy18⟩) (by assumption) ?_
          case hy18 =>
            intro w' hSw
            (try dsimp only at hSw)
            go_simp
            try (with_reducible rfl)
          try simp only [Act.put, List.getElem_toArray, List.getElem_cons_succ, List.getElem_cons_zero, List.setIfInBounds_toArray, List.set_cons_zero, List.set_cons_succ]
          refine wpAnyH_take (i := 11) (v := ?v19) rfl (by kernel_rfl) (by kernel_rfl) (by kernel_rfl) (fun _ _ _ h => h) (Or.inl ⟨by rfl, ?hy19⟩) (by assumption) ?_
          case hy19 =>
            intro w' hSw
            (try dsimp only at hSw)
            go_simp
            try (with_reducible rfl)
          try simp only [Act.put, List.getElem_toArray, List.getElem_cons_succ, List.getElem_cons_zero, List.setIfInBounds_toArray, List.set_cons_zero, List.set_cons_succ]
          refine wpAnyH_done (by kernel_rfl) ?_ _
          go_wp2_with fail
          go_ret
          exact ⟨rfl, bthen HB4.out HB8.out⟩
  · have q1 : (40 : Int) < (es.length : Int) := by omega
    clear he heok ht hel
    go_enter Tryd.func3, Tryd.ntmps3
    go_wp2_with (go_at_call 4; refine HAW.out.mono ?_; rintro e w1 ⟨rfl, hb1⟩; have HB1 := Lib.hid hb1; clear hb1)
    go_ret
    exact ⟨rfl, HB1.out⟩
end

end Go.Proofs.YtmndhffimlkjgaaDoor
