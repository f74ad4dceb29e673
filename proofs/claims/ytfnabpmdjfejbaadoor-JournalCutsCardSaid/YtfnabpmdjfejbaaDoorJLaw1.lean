/- flywheellaw50: awake, JournalPuts. -/
import Derived.Test.YtfnabpmdjfejbaaDoorJGet
namespace Go.Proofs.YtfnabpmdjfejbaaDoor
set_option linter.unusedSimpArgs false
set_option linter.unusedVariables false
open Go.RowKit Go.Lib

theorem balloc' {n : Nat} {w a : World} (h : Below n w a) (hn : n ≤ a.heap.size) (o : Obj) : Below n w (a.alloc o) := h.alloc hn o
def shutC : CallD := ⟨8, ⟨#[]⟩, 0, 0, 0, polZ⟩
theorem shut_put : putB shutC = 2 :: 0 :: 16 :: sealB [2, 0, 16] := by
  have h1 : bodyB (bareC shutC) = [0, 16] := by
    show (UInt8.ofNat 0 :: []) ++ zputs [8] = _
    have : zputs [8] = [16] := by
      show [8].flatMap zput = _
      simp only [List.flatMap_cons, List.flatMap_nil, List.append_nil]
      show varB (zigN 8) = _
      rw [show zigN 8 = 16 from rfl, varB_small (by decide)]
      rfl
    rw [this]
    rfl
  show sealP (bareC shutC) = _
  unfold sealP allP
  rw [h1]
  rfl
theorem shut_len : (putB shutC).length = 7 := by rw [shut_put]; rfl

set_option maxRecDepth 100000 in
set_option maxHeartbeats 4000000 in
theorem awake50_any (w : World) (ht : Tab w) : Calls Tryd.prog 7 #[] w fun e w' => e = .returned (.bool true) ∧ Below w.heap.size w w' := by
  have z : I64 0 := by unfold I64; omega
  have hp := jput_ok shutC w ⟨by unfold I64 shutC; dsimp only; omega, by decide, z, z, z, z, z, z, z, z, z⟩ ht rfl
  unfold PutSays at hp
  rw [shut_len] at hp
  have HP := Lib.hid hp
  have HG := Lib.hid (fun W h => jget_any (.slice none 0 0) [] W ⟨none, 0, rfl, Nat.le_refl _, fun h => absurd h (by decide)⟩ (by decide) h)
  rw [get_short (.inl rfl)] at HG
  unfold GetSays at HG
  have HT := Lib.hid ht
  clear hp ht z
  unfold callV callZ polZ at HG
  unfold shutC callV polZ at HP
  dsimp only at HP HG
  go_enter Tryd.func7, Tryd.ntmps7
  go_upto_region 3 with (first
    | (go_at_call 8
       refine HP.out.mono ?_
       rintro e w1 ⟨A1, c1, rfl, ho1, hb1⟩
       have hr := (OwnL.row eByte ho1)
       have HR := Lib.hid hr
       have HB1 := Lib.hid hb1
       clear ho1 hb1 hr)
    | (go_at_call 10
       refine (HG.out w1 (HT.out.below HB1.out)).mono ?_
       rintro e w2 ⟨rfl, hb2⟩
       have HB2 := Lib.hid hb2
       clear hb2))
  refine name_world ?_
  intro W hW
  have hbW : Below w1.heap.size w1 W := by rw [hW]; exact balloc HB2.out _
  clear hW
  have hr := HR.out
  rw [show (7 : Nat) = (putB shutC).length from shut_len.symm] at hr
  obtain ⟨b, o, rfl, hb, hc⟩ := hr.byte (by rw [shut_put]; simp)
  have e0 : (putB shutC)[0]'(by rw [shut_len]; decide) = 2 := by simp only [shut_put]; rfl
  have e1 : (putB shutC)[1]'(by rw [shut_len]; decide) = 0 := by simp only [shut_put]; rfl
  have e2 : (putB shutC)[2]'(by rw [shut_len]; decide) = 16 := by simp only [shut_put]; rfl
  have q0 := (hbW.cell (p := ⟨b, o + 0, none⟩) hb).trans (hc 0 (by rw [shut_len]; decide))
  have q1 := (hbW.cell (p := ⟨b, o + 1, none⟩) hb).trans (hc 1 (by rw [shut_len]; decide))
  have q2 := (hbW.cell (p := ⟨b, o + 2, none⟩) hb).trans (hc 2 (by rw [shut_len]; decide))
  rw [e0, Nat.add_zero] at q0
  rw [e1] at q1
  rw [e2] at q2
  have q0' : W.cell? ⟨b, o, none⟩ = some (.int .u8 2) := q0
  have q1' : W.cell? ⟨b, o + 1, none⟩ = some (.int .u8 0) := q1
  have q2' : W.cell? ⟨b, o + 2, none⟩ = some (.int .u8 16) := q2
  have HBW := Lib.hid (bthen HB1.out hbW)
  clear q0 q1 q2 e0 e1 e2 hc hr hbW
  go_wp2
  go_ret
  exact ⟨rfl, HBW.out⟩

set_option maxRecDepth 100000 in
set_option maxHeartbeats 4000000 in
theorem puts_long (c : CallD) (w : World) (hlen : 60 < c.id.size) (hA : ∀ W, Below w.heap.size w W → Calls Tryd.prog 7 #[] W fun e w' => e = .returned (.bool true) ∧ Below W.heap.size W w') :
    Calls Tryd.prog 3 #[callV c] w fun e w' => e = .returned (.bool true) ∧ Below w.heap.size w w' := by
  have HA := Lib.hid hA
  clear hA
  unfold callV
  go_enter Tryd.func3, Tryd.ntmps3
  go_wp2_with (first
    | (go_at_call 7
       refine calls_named ?_
       intro W1 hW1
       have hb1 : Below w.heap.size w W1 := by rw [hW1]; exact balloc (Below.refl _ _) _
       have hx1 : W1.heap[w.heap.size]? = some (.cells #[.int .i64 c.kind, .string c.id, .int .i64 c.tick, .int .i64 c.val, .int .i64 c.handle, .int .i64 c.pol.mn, .int .i64 c.pol.mx, .int .i64 c.pol.tg, .int .i64 c.pol.tol, .int .i64 c.pol.win, .int .i64 c.pol.hold] 25 (0, 0)) := by rw [hW1]; exact heap_alloc_new _ _
       clear hW1
       refine (HA.out W1 hb1).mono ?_
       rintro e w1 ⟨rfl, hb2⟩
       obtain ⟨a1, a1f, a1l, a1h⟩ := box_at hb2 hx1
       have HX1 := Lib.hid a1h
       have HB1 := Lib.hid (bthen hb1 hb2)
       clear hb1 hx1 hb2 a1h))
  go_ret
  exact ⟨rfl, HB1.out⟩

set_option maxRecDepth 100000 in
set_option maxHeartbeats 4000000 in
theorem puts_bad (c : CallD) (w : World) (hc : c.ok) (ht : Tab w) (he : textE c ≠ 0) (hlen : ¬ 60 < c.id.size) (hA : ∀ W, Below w.heap.size w W → Calls Tryd.prog 7 #[] W fun e w' => e = .returned (.bool true) ∧ Below W.heap.size W w') :
    Calls Tryd.prog 3 #[callV c] w fun e w' => e = .returned (.bool true) ∧ Below w.heap.size w w' := by
  have HA := Lib.hid hA
  have HP1 := Lib.hid (fun W h => jput_bad c W hc (ht.below (w' := W) h) he)
  have HP2 := Lib.hid (fun W => rput_bad c W hc he)
  generalize textE c = x at he HP1 HP2
  have qx : (x == 0) = false := by simpa using he
  have qx2 : decide (x = 0) = false := by simpa using he
  have qx3 : (x != 0) = true := by simpa using he
  have hnil := fun W => bytes_str (w := W) (v := .slice none 0 0) (l := []) ⟨none, 0, rfl, Nat.le_refl _, fun h => absurd h (by decide)⟩
  unfold BadSays callV at HP1 HP2
  unfold callV
  clear hA hc ht
  go_enter Tryd.func3, Tryd.ntmps3
  go_wp2_with (first
    | (go_at_call 7
       refine calls_named ?_
       intro W1 hW1
       have hb1 : Below w.heap.size w W1 := by rw [hW1]; exact balloc (Below.refl _ _) _
       have hx1 : W1.heap[w.heap.size]? = some (.cells #[.int .i64 c.kind, .string c.id, .int .i64 c.tick, .int .i64 c.val, .int .i64 c.handle, .int .i64 c.pol.mn, .int .i64 c.pol.mx, .int .i64 c.pol.tg, .int .i64 c.pol.tol, .int .i64 c.pol.win, .int .i64 c.pol.hold] 25 (0, 0)) := by rw [hW1]; exact heap_alloc_new _ _
       clear hW1
       refine (HA.out W1 hb1).mono ?_
       rintro e w1 ⟨rfl, hb2⟩
       obtain ⟨a1, a1f, a1l, a1h⟩ := box_at hb2 hx1
       have HX1 := Lib.hid a1h
       have HB1 := Lib.hid (bthen hb1 hb2)
       clear hb1 hx1 hb2 a1h)
    | (go_at_call 8
       refine (HP1.out w1 HB1.out).mono ?_
       rintro e w2 ⟨rfl, hb2⟩
       obtain ⟨a2, a2f, a2l, a2h⟩ := box_at hb2 HX1.out
       have HX2 := Lib.hid a2h
       have HB2 := Lib.hid (bthen HB1.out hb2)
       clear hb2 a2h)
    | (go_at_call 9
       refine (HP2.out w2).mono ?_
       rintro e w3 ⟨rfl, hb3⟩
       obtain ⟨a3, a3f, a3l, a3h⟩ := box_at hb3 HX2.out
       have HX3 := Lib.hid a3h
       have HB3 := Lib.hid (bthen HB2.out hb3)
       clear hb3 a3h))
  go_ret
  exact ⟨rfl, HB3.out⟩

set_option maxRecDepth 100000 in
set_option maxHeartbeats 4000000 in
theorem puts_ok (c : CallD) (w : World) (hc : c.ok) (ht : Tab w) (he : textE c = 0) (hlen : ¬ 60 < c.id.size) (hA : ∀ W, Below w.heap.size w W → Calls Tryd.prog 7 #[] W fun e w' => e = .returned (.bool true) ∧ Below W.heap.size W w') :
    Calls Tryd.prog 3 #[callV c] w fun e w' => e = .returned (.bool true) ∧ Below w.heap.size w w' := by
  have HA := Lib.hid hA
  have HP1 := Lib.hid (fun W h => jput_ok c W hc (ht.below (w' := W) h) he)
  have HP2 := Lib.hid (fun W => rput_ok c W hc he)
  have hll := putB_len c
  have hbl := bodyB_len (bareC_ok hc) (bare_id he)
  have HLL := Lib.hid (show (putB c).length ≤ 100 by omega)
  have HGT := Lib.hid (fun v W (hv : RowIn 1 byteC W v (putB c ++ [1, 2])) h => jget_any v (putB c ++ [1, 2]) W hv (by simp; omega) (ht.below (w' := W) h))
  rw [get_put hc he] at HGT
  have HRB := Lib.hid (fun W => rbare_any c W)
  generalize bareC c = d at HGT HRB
  generalize putB c = l at HP1 HP2 HGT HLL
  unfold PutSays at HP1 HP2
  unfold GetSays at HGT
  unfold callV at HP1 HP2 HGT HRB
  unfold callV
  dsimp only at HGT
  clear hA hc ht he hll hbl
  go_enter Tryd.func3, Tryd.ntmps3
  go_upto_region 7 with (first
    | (go_at_call 7
       refine calls_named ?_
       intro W1 hW1
       have hb1 : Below w.heap.size w W1 := by rw [hW1]; exact balloc (Below.refl _ _) _
       have hx1 : W1.heap[w.heap.size]? = some (.cells #[.int .i64 c.kind, .string c.id, .int .i64 c.tick, .int .i64 c.val, .int .i64 c.handle, .int .i64 c.pol.mn, .int .i64 c.pol.mx, .int .i64 c.pol.tg, .int .i64 c.pol.tol, .int .i64 c.pol.win, .int .i64 c.pol.hold] 25 (0, 0)) := by rw [hW1]; exact heap_alloc_new _ _
       clear hW1
       refine (HA.out W1 hb1).mono ?_
       rintro e w1 ⟨rfl, hb2⟩
       obtain ⟨a1, a1f, a1l, a1h⟩ := box_at hb2 hx1
       have HX1 := Lib.hid a1h
       have HB1 := Lib.hid (bthen hb1 hb2)
       clear hb1 hx1 hb2 a1h)
    | (go_at_call 8
       refine (HP1.out w1 HB1.out).mono ?_
       rintro e w2 ⟨A2, c2, rfl, ho2, hb2⟩
       obtain ⟨a2, a2f, a2l, a2h⟩ := box_at hb2 HX1.out
       have HX2 := Lib.hid a2h
       have HB2 := Lib.hid (bthen HB1.out hb2)
       have HO2 := Lib.hid (ho2.row eByte)
       clear ho2
       clear hb2 a2h)
    | (go_at_call 9
       refine (HP2.out w2).mono ?_
       rintro e w3 ⟨A3, c3, rfl, ho3, hb3⟩
       obtain ⟨a3, a3f, a3l, a3h⟩ := box_at hb3 HX2.out
       have HX3 := Lib.hid a3h
       have HB3 := Lib.hid (bthen HB2.out hb3)
       have HO3 := Lib.hid ho3
       have HO2b := Lib.hid (HO2.out.below hb3)
       have HS3 := Lib.hid hb3.size
       clear ho3
       clear hb3 a3h))
  have hc2 := bytes_str HO2b.out
  have hc3 := bytes_str (HO3.out.row eByte)
  go_upto_region 12 with (first
    | (at_builtin
       refine wpList_appendL eByte (by rfl) (by rfl) w2.heap.size l [1, 2] (.slice A3 l.length c3) _ (by rfl) (by rfl) (HO3.out.below (balloc (Below.refl _ _) _)) ((OwnL.lits (f := byteC) (e := 5) (n := 1) w3.heap.size w3 [1, 2] _ w3.heap.size 2 rfl (Nat.le_refl _) rfl (by decide) rfl rfl).row eByte) (by have := HLL.out; simp; omega) (by have := HS3.out; simp; omega) ?_
       intro out4 A4 c4 w4 hout4 hown4 hg4 _
       have hb4 : Below w2.heap.size w3 w4 := (balloc' (Below.refl _ _) HS3.out _).trans (grown_own hg4 HO3.out (by have := HS3.out; simp; omega))
       have hx4 := (hb4.block _ a2l).trans HX3.out
       have HX4 := Lib.hid hx4
       have HB4 := Lib.hid (HB3.out.trans (hb4.mono (Nat.le_of_lt a2l)))
       have HO4 := Lib.hid (hown4.row eByte)
       have HOUT4 := Lib.hid hout4
       clear hb4 hx4 hown4 hout4 hg4)
    | (go_at_call 10
       have hg := HGT.out (.slice A4 out4.length c4) w4 (by have := HO4.out; rw [HOUT4.out] at this ⊢; exact this) HB4.out
       refine hg.mono ?_
       clear hg
       rintro e w5 ⟨rfl, hb5⟩
       obtain ⟨a5, a5f, a5l, a5h⟩ := box_at hb5 HX4.out
       have HX5 := Lib.hid a5h
       have HB5 := Lib.hid (bthen HB4.out hb5)
       clear hb5 a5h))
  refine name_world ?_
  intro W hW
  have k1 : W.heap[w5.heap.size]? = some (.cells #[.int .i64 d.kind, .string d.id, .int .i64 d.tick, .int .i64 d.val, .int .i64 d.handle, .int .i64 d.pol.mn, .int .i64 d.pol.mx, .int .i64 d.pol.tg, .int .i64 d.pol.tol, .int .i64 d.pol.win, .int .i64 d.pol.hold] 25 (0, 0)) := by rw [hW]; exact heap_alloc_new _ _
  have hb6 : Below w5.heap.size w5 W := by rw [hW]; exact balloc (Below.refl _ _) _
  have k0 := (hb6.block _ (Array.getElem?_eq_some_iff.1 HX5.out).1).trans HX5.out
  have HB6 := Lib.hid (bthen HB5.out hb6)
  have HK0 := Lib.hid k0
  have HK1 := Lib.hid k1
  have r0 : ∀ U, Below W.heap.size W U → (∀ j, U.cell? ⟨w.heap.size, j, none⟩ = (#[.int .i64 c.kind, .string c.id, .int .i64 c.tick, .int .i64 c.val, .int .i64 c.handle, .int .i64 c.pol.mn, .int .i64 c.pol.mx, .int .i64 c.pol.tg, .int .i64 c.pol.tol, .int .i64 c.pol.win, .int .i64 c.pol.hold] : Array Value)[j]?) := fun U hU => (box_cells hU HK0.out).1
  have r1 : ∀ U, Below W.heap.size W U → (∀ j, U.cell? ⟨w5.heap.size, j, none⟩ = (#[.int .i64 d.kind, .string d.id, .int .i64 d.tick, .int .i64 d.val, .int .i64 d.handle, .int .i64 d.pol.mn, .int .i64 d.pol.mx, .int .i64 d.pol.tg, .int .i64 d.pol.tol, .int .i64 d.pol.win, .int .i64 d.pol.hold] : Array Value)[j]?) := fun U hU => (box_cells hU HK1.out).1
  clear hW k0 k1 hb6 a1 a2 a3 a5 hc2 hc3
  have hS00 : Below W.heap.size W W := Below.refl _ _
  have hS0 : Below W.heap.size W W.drew := hS00.drew
  go_region_held3 (fun U => Below W.heap.size W U)
    (first
      | with_reducible exact hS0
      | with_reducible exact HB7.out)
    (first
      | (go_at_call 11
         refine (HRB.out _).mono ?_
         rintro e w7 ⟨rfl, hb⟩
         have HB7 := Lib.hid (bthen ‹Below W.heap.size W _› hb)
         clear hb))
  all_goals go_wp2
  all_goals go_ret
  all_goals exact ⟨rfl, bthen HB6.out HB7.out⟩

theorem puts_all (c : CallD) (w : World) (hc : c.ok) (ht : Tab w) : Calls Tryd.prog 3 #[callV c] w fun e w' => e = .returned (.bool true) ∧ Below w.heap.size w w' := by
  have HA := Lib.hid (fun W h => awake50_any W (ht.below (w' := W) h))
  by_cases hlen : 60 < c.id.size
  · exact puts_long c w hlen HA.out
  by_cases he : textE c = 0
  · exact puts_ok c w hc ht he hlen HA.out
  · exact puts_bad c w hc ht he hlen HA.out
end Go.Proofs.YtfnabpmdjfejbaaDoor
