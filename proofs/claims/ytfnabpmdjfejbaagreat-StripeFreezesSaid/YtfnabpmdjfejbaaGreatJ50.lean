/- chapter 18's has: a node has just a load; chapter 18's told: a stripe has just these items. -/
import Derived.Test.YtfnabpmdjfejbaaGreatJ22
import Derived.Test.YtfnabpmdjfejbaaGreatJ23
import Derived.Test.YtfnabpmdjfejbaaGreatJ49
import Derived.Test.YtfnabpmdjfejbaaGreatJ45
namespace Go.Proofs.YtfnabpmdjfejbaaGreat

section
set_option linter.unusedSimpArgs false
set_option linter.unusedVariables false
open Go.RowKit Go.Lib Go.Sort

set_option maxRecDepth 100000 in
set_option maxHeartbeats 8000000 in
theorem has_core (N : Nat) (y : Nd) (rs rh : Nat) (fp : List Nat) (sA pA : Option Addr) (sc pc : Nat) (ver : Int) (w : World) (hn : NodeIn w N y rs rh fp) (hrs : rs ≤ 256) (hrh : rh ≤ 64)
    (h1 : RowIn 2 smpC w (.slice sA y.smp.length sc) y.smp) (h2 : RowIn 5 advC w (.slice pA y.past.length pc) y.past) :
    Calls Tryz.prog 11 #[.pointer (some ⟨N, 0, none⟩), .agg #[.slice sA y.smp.length sc, .slice pA y.past.length pc, .int .i64 y.pol.mn, .int .i64 y.pol.mx, .int .i64 y.pol.tg, .int .i64 y.pol.tol, .int .i64 y.pol.win, .int .i64 y.pol.hold, .bool y.ruled, .int .i64 ver]] w fun e w' => e = .returned (.bool true) ∧ Below w.heap.size w w' := by
  have HN := Lib.hid hn
  have H1 := Lib.hid h1
  have H2 := Lib.hid h2
  have hl1 : y.smp.length ≤ 1000000 := by obtain ⟨_, _, _, _, _, _, _, _, _, _, _, _, h8⟩ := hn; omega
  have hl2 : y.past.length ≤ 1000000 := by obtain ⟨_, _, _, _, _, _, hh, _⟩ := hn; have := hh.len; omega
  have HL1 := Lib.hid hl1
  have HL2 := Lib.hid hl2
  clear hn h1 h2 hl1 hl2
  go_enter Tryz.func11, Tryz.ntmps11
  go_wp2_with (first
    | (go_at_call 30
       refine calls_named ?_
       intro W1 hW1
       have hb1 : Below w.heap.size w W1 := by rw [hW1]; exact balloc (Below.refl _ _) _
       have ho1 : W1.heap[w.heap.size]? = some (.cells #[.slice sA y.smp.length sc, .slice pA y.past.length pc, .int .i64 y.pol.mn, .int .i64 y.pol.mx, .int .i64 y.pol.tg, .int .i64 y.pol.tol, .int .i64 y.pol.win, .int .i64 y.pol.hold, .bool y.ruled, .int .i64 ver] 55 (0, 0)) := by rw [hW1]; exact heap_alloc_new _ _
       clear hW1
       refine (nodePolicy_any N y rs rh fp W1 (HN.out.below hb1)).mono ?_
       rintro e w2 ⟨rfl, hb2⟩
       have hO2 := (hb2.block _ (Array.getElem?_eq_some_iff.1 ho1).1).trans ho1
       have HO2 := Lib.hid hO2
       have HB2 := Lib.hid (bthen hb1 hb2)
       clear hb1 hb2 ho1 hO2))
  refine name_world ?_
  intro W hW
  have hb0 : Below w.heap.size w W := by rw [hW]; exact bthen HB2.out (balloc (Below.refl _ _) _)
  have hp : W.heap[w2.heap.size]? = some (.cells #[.int .i64 y.pol.mn, .int .i64 y.pol.mx, .int .i64 y.pol.tg, .int .i64 y.pol.tol, .int .i64 y.pol.win, .int .i64 y.pol.hold] 36 (0, 0)) := by rw [hW]; exact heap_alloc_new _ _
  have hx := ((show Below w2.heap.size w2 W by rw [hW]; exact balloc (Below.refl _ _) _).block _ (Array.getElem?_eq_some_iff.1 HO2.out).1).trans HO2.out
  clear hW
  have HW := Lib.hid hb0
  have HX := Lib.hid hx
  have HP := Lib.hid hp
  have rl : ∀ U, Below W.heap.size W U → (∀ j, U.cell? ⟨w.heap.size, j, none⟩ = (#[.slice sA y.smp.length sc, .slice pA y.past.length pc, .int .i64 y.pol.mn, .int .i64 y.pol.mx, .int .i64 y.pol.tg, .int .i64 y.pol.tol, .int .i64 y.pol.win, .int .i64 y.pol.hold, .bool y.ruled, .int .i64 ver] : Array Value)[j]?) := fun U hU => (box_cells hU HX.out).1
  have rp : ∀ U, Below W.heap.size W U → (∀ j, U.cell? ⟨w2.heap.size, j, none⟩ = (#[.int .i64 y.pol.mn, .int .i64 y.pol.mx, .int .i64 y.pol.tg, .int .i64 y.pol.tol, .int .i64 y.pol.win, .int .i64 y.pol.hold] : Array Value)[j]?) := fun U hU => (box_cells hU HP.out).1
  clear hb0 hx hp
  have hS00 : Below W.heap.size W W := Below.refl _ _
  have hS0 : Below W.heap.size W W.drew := hS00.drew
  go_region_held3 (fun U => Below W.heap.size W U)
    (first
      | with_reducible exact hS0
      | with_reducible exact HB7.out
      | with_reducible exact HB6.out
      | with_reducible exact HB5.out
      | with_reducible exact HB4.out)
    (first
      | (go_at_call 32
         refine (nodeSamples_any N y rs rh fp _ (HN.out.below (bthen HW.out ‹Below W.heap.size W _›)) hrs).mono ?_
         rintro e w4 ⟨A, c, fq, rfl, hq, hf, hb⟩
         have hb4 := bthen ‹Below W.heap.size W _› hb
         have HQ4 := Lib.hid (hq.row eSmp)
         have HB4 := Lib.hid hb4
         clear hq hf hb hb4)
      | (go_at_call 31
         refine calls_named ?_
         intro W5 hW5
         have hb5 : Below w4.heap.size w4 W5 := by rw [hW5]; repeat (first | exact Below.refl _ _ | refine Below.drew ?_)
         clear hW5
         refine (r8same_any _ _ y.smp W5 (HQ4.out.below hb5) (H1.out.below (bthen HW.out (bthen HB4.out hb5))) HL1.out).mono ?_
         rintro e w5 ⟨rfl, hb⟩
         have HB5 := Lib.hid (bthen HB4.out (bthen hb5 hb))
         clear hb5 hb)
      | (go_at_call 34
         refine (nodePast_any N y rs rh fp _ (HN.out.below (bthen HW.out ‹Below W.heap.size W _›)) hrh).mono ?_
         rintro e w6 ⟨A6, c6, fq6, rfl, hq, hf, hb⟩
         have hb4 := bthen ‹Below W.heap.size W _› hb
         have HQ6 := Lib.hid (hq.row eAdv)
         have HB6 := Lib.hid hb4
         clear hq hf hb hb4)
      | (go_at_call 33
         refine calls_named ?_
         intro W5 hW5
         have hb5 : Below w6.heap.size w6 W5 := by rw [hW5]; repeat (first | exact Below.refl _ _ | refine Below.drew ?_)
         clear hW5
         refine (r14same_any _ _ y.past W5 (HQ6.out.below hb5) (H2.out.below (bthen HW.out (bthen HB6.out hb5))) HL2.out).mono ?_
         rintro e w7 ⟨rfl, hb⟩
         have HB7 := Lib.hid (bthen HB6.out (bthen hb5 hb))
         clear hb5 hb))
  all_goals go_wp2
  all_goals go_ret
  all_goals exact ⟨rfl, bthen HW.out HB7.out⟩

theorem nhas_any (P : Nat → Prop) (N : Nat) (y : Nd) (rs rh : Nat) (fp : List Nat) (x : It) (w : World) (hn : NodeIn w N y rs rh fp) (hrs : rs ≤ 256) (hrh : rh ≤ 64) (hx : LoadIn P w x) (hs : sameN y x.nd) :
    Calls Tryz.prog 11 #[.pointer (some ⟨N, 0, none⟩), .agg #[.slice x.sA x.nd.smp.length x.sc, .slice x.pA x.nd.past.length x.pc, .int .i64 x.nd.pol.mn, .int .i64 x.nd.pol.mx, .int .i64 x.nd.pol.tg, .int .i64 x.nd.pol.tol, .int .i64 x.nd.pol.win, .int .i64 x.nd.pol.hold, .bool x.nd.ruled, .int .i64 (x.nd.ver : Nat)]] w fun e w' => e = .returned (.bool true) ∧ Below w.heap.size w w' := by
  obtain ⟨h1, h2, h3, h4⟩ := hs
  have hx1 := hx.1.1
  have hx2 := hx.2.1
  rw [← h1] at hx1
  rw [← h2] at hx2
  rw [← h1, ← h2, ← h3, ← h4]
  exact has_core N y rs rh fp _ _ _ _ _ w hn hrs hrh hx1 hx2
end

section
set_option linter.unusedSimpArgs false
set_option linter.unusedVariables false
open Go.RowKit Go.Lib Go.Sort

theorem eKey : EltOf 81 32 2 16 (.agg #[.int .u64 0, .int .u64 0]) keyC :=
  ⟨by kernel_rfl, by kernel_rfl, rfl, by decide, by decide, fun _ => rfl, fun x u hu => by
    simp only [keyC, List.mem_cons, List.not_mem_nil, or_false] at hu
    rcases hu with rfl | rfl <;> rfl⟩
theorem sget_some (T M : Nat) (c : Cfg) (ver : Nat) (es : List (KO × NE)) (rs rh : Nat) (k : KO) (b : NE) (w : World) (h : SAt w T M c ver es rs rh) (hb : findM es k = some b) :
    Calls Tryz.prog 15 #[.pointer (some ⟨T, 0, none⟩), .agg #[.int .u64 k.1.1, .int .u64 k.1.2]] w fun e w' => e = .returned (.pointer (some ⟨b.1, 0, none⟩)) ∧ Below w.heap.size w w' := by
  have := sget_any T M c ver es rs rh k w h
  rw [hb] at this
  exact this
/-- The node of an item. -/
theorem tells_node {w : World} {T M : Nat} {c : Cfg} {ver : Nat} {es : List (KO × NE)} {rs rh : Nat} {l : List It} (h : SAt w T M c ver es rs rh) (ht : Tells18 (ab es) (l.map absI)) {x : It} (hx : x ∈ l) :
    ∃ (k : KO) (b : NE), x.key = k.1 ∧ findM es k = some b ∧ NodeIn w b.1 b.2.1 rs rh b.2.2 ∧ sameN b.2.1 x.nd := by
  have hm : x.key ∈ keysS (ab es) := (ht.keys x.key).1 (List.mem_map.2 ⟨absI x, List.mem_map.2 ⟨x, hx, rfl⟩, rfl⟩)
  obtain ⟨p, hp, he⟩ := List.mem_map.1 hm
  obtain ⟨q, hq, rfl⟩ := List.mem_map.1 hp
  have hf := find_of_mem h.nodup (show (q.1, q.2) ∈ es from hq)
  have hf2 : findM (ab es) q.1 = some q.2.2.1 := by rw [ab_find, hf]; rfl
  obtain ⟨y, hy, hs⟩ := ht.vals q.1 q.2.2.1 hf2
  have he' : q.1.1 = x.key := he
  rw [he'] at hy
  rw [sorted_at_unique ht.sorted hy (List.mem_map.2 ⟨x, hx, rfl⟩ : (x.key, x.nd) ∈ l.map absI)] at hs
  exact ⟨q.1, q.2, he'.symm, hf, h.node q hq, hs⟩

set_option maxRecDepth 100000 in
set_option maxHeartbeats 8000000 in
theorem stold_any (P : Nat → Prop) (T M : Nat) (c : Cfg) (ver : Nat) (es : List (KO × NE)) (rs rh : Nat) (v : Value) (l : List It) (w : World) (h : SAt w T M c ver es rs rh) (hrs : rs ≤ 256) (hrh : rh ≤ 64) (hx : ItemsIn P w v l) (ht : Tells18 (ab es) (l.map absI)) (hl : l.length ≤ 1000) :
    Calls Tryz.prog 13 #[.pointer (some ⟨T, 0, none⟩), v] w fun e w' => e = .returned (.bool true) ∧ Below w.heap.size w w' := by
  obtain ⟨A, cc, rfl⟩ := hx.1.1.form
  have H := Lib.hid h
  have HX := Lib.hid hx
  have HT := Lib.hid ht
  have hel : es.length = l.length := by have := ht.len; rw [ab_len] at this; simpa using this
  have HEL := Lib.hid hel
  have HK := Lib.hid (show risL (kyN es) = keysI l by rw [kyN_keysS, ht.risL, absI_keys])
  clear h hx ht hel
  go_enter Tryz.func13, Tryz.ntmps13
  go_wp2
  go_loopg [5, 10] l.length (fun g s5 s10 wr => ∃ k : Nat, k ≤ l.length ∧ l.length - k ≤ g ∧ s10 = .int .i64 k ∧ OwnL keyC 32 2 w.heap.size wr s5 ((keysI l).take k) ∧ Below w.heap.size w wr)
  case atStart => exact ⟨0, Nat.zero_le _, Nat.le_refl _, rfl, by rw [List.take_zero]; exact OwnL.nil _ _, Below.refl _ _⟩
  case round =>
    obtain ⟨k, hk, hg, rfl, hown, hb⟩ := hrel
    obtain ⟨pre, hpre⟩ : ∃ pre, pre = (keysI l).take k := ⟨_, rfl⟩
    rw [← hpre] at hown
    obtain ⟨A5, c5, rfl⟩ := hown.form
    have hkl : pre.length = k := by rw [hpre]; simp [keysI]; omega
    have HPRE := Lib.hid hpre
    clear hpre
    have HO := Lib.hid hown
    have HKL := Lib.hid hkl
    clear hown hkl
    by_cases hlt : k < l.length
    · have hxm := List.getElem_mem hlt
      obtain ⟨ko, b, hkey, hfb, hnode, hsame⟩ := tells_node H.out HT.out hxm
      obtain ⟨bb, o, rfl, hbw, hc⟩ := HX.out.1.1.at_ hlt
      have hld := HX.out.2 _ hxm
      have HTK := Lib.hid (show (keysI l).take (k + 1) = pre ++ [ko.1] by rw [List.take_succ_eq_append_getElem (by simp [keysI]; omega), ← hkey, HPRE.out]; simp [keysI])
      generalize l[k] = x at hc hkey hld hsame
      clear hxm
      obtain ⟨key, sA, sc, pA, pc, nd⟩ := x
      obtain rfl : key = ko.1 := hkey
      have HF := Lib.hid hfb
      have HN := Lib.hid hnode
      have HSM := Lib.hid hsame
      have HLD := Lib.hid hld
      have q0 := (hb.cell (p := ⟨bb, _, none⟩) hbw).trans (hc 0 _ rfl)
      have q1 := (hb.cell (p := ⟨bb, _, none⟩) hbw).trans (hc 1 _ rfl)
      have q2 := (hb.cell (p := ⟨bb, _, none⟩) hbw).trans (hc 2 _ rfl)
      have q3 := (hb.cell (p := ⟨bb, _, none⟩) hbw).trans (hc 3 _ rfl)
      have q4 := (hb.cell (p := ⟨bb, _, none⟩) hbw).trans (hc 4 _ rfl)
      have q5 := (hb.cell (p := ⟨bb, _, none⟩) hbw).trans (hc 5 _ rfl)
      have q6 := (hb.cell (p := ⟨bb, _, none⟩) hbw).trans (hc 6 _ rfl)
      have q7 := (hb.cell (p := ⟨bb, _, none⟩) hbw).trans (hc 7 _ rfl)
      have q8 := (hb.cell (p := ⟨bb, _, none⟩) hbw).trans (hc 8 _ rfl)
      have q9 := (hb.cell (p := ⟨bb, _, none⟩) hbw).trans (hc 9 _ rfl)
      have q10 := (hb.cell (p := ⟨bb, _, none⟩) hbw).trans (hc 10 _ rfl)
      have q11 := (hb.cell (p := ⟨bb, _, none⟩) hbw).trans (hc 11 _ rfl)
      simp only [Nat.add_zero] at q0
      have HB := Lib.hid hb
      clear hfb hnode hsame hld hc
      go_upto_region 6 with (at_builtin; refine wpList_appendL eKey (by rfl) (by rfl) w.heap.size pre [ko.1] (.slice A5 pre.length c5) _ (by rfl) (by rfl) (HO.out.below (balloc (balloc (Below.refl _ _) _) _)) (RowIn.lit _ ko.1 _ _ (wr.heap.size + 1) (by simp) rfl) (by rw [HKL.out]; simp; omega) (by have := HB.out.size; simp; omega) ?_; intro out2 A2 c2 w2 hout2 hown2 hg2 _
                             have hb2 : Below w.heap.size w w2 := (balloc (balloc HB.out _) _).trans (grown_own hg2 HO.out (by have := HB.out.size; simp; omega))
                             have hx2 : w2.heap[wr.heap.size]? = some (.cells #[.int .u64 ko.1.1, .int .u64 ko.1.2, .slice sA nd.smp.length sc, .slice pA nd.past.length pc, .int .i64 nd.pol.mn, .int .i64 nd.pol.mx, .int .i64 nd.pol.tg, .int .i64 nd.pol.tol, .int .i64 nd.pol.win, .int .i64 nd.pol.hold, .bool nd.ruled, .int .i64 (nd.ver : Nat)] 57 (0, 0)) := (hg2.block wr.heap.size (by simp; omega) (fun e => by have := (HO.out.lt e.symm).2; omega)).trans ((Below.heap_alloc _ _ _ (by simp)).trans (heap_alloc_new _ _))
                             have HW2 := Lib.hid hown2
                             have HO2 := Lib.hid hout2
                             have HB2 := Lib.hid hb2
                             have HX2 := Lib.hid hx2
                             clear hown2 hout2 hg2 hb2 hx2)
      have rl : ∀ U, Below w2.heap.size w2 U → (∀ j, U.cell? ⟨wr.heap.size, j, none⟩ = (#[.int .u64 ko.1.1, .int .u64 ko.1.2, .slice sA nd.smp.length sc, .slice pA nd.past.length pc, .int .i64 nd.pol.mn, .int .i64 nd.pol.mx, .int .i64 nd.pol.tg, .int .i64 nd.pol.tol, .int .i64 nd.pol.win, .int .i64 nd.pol.hold, .bool nd.ruled, .int .i64 (nd.ver : Nat)] : Array Value)[j]?) := fun U hU => (box_cells hU HX2.out).1
      clear q0 q1 q2 q3 q4 q5 q6 q7 q8 q9 q10 q11
      have hS00 : Below w2.heap.size w2 w2 := Below.refl _ _
      have hS0 : Below w2.heap.size w2 w2.drew := hS00.drew
      go_region_held3 (fun U => Below w2.heap.size w2 U)
        (first
          | with_reducible exact hS0
          | with_reducible exact HB5.out
          | with_reducible exact HB4.out)
        (first
          | (go_at_call 15
             refine (sget_some T M c ver es rs rh ko b _ (H.out.below (bthen HB2.out ‹Below w2.heap.size w2 _›)) HF.out).mono ?_
             rintro e w4 ⟨rfl, hb⟩
             have HB4 := Lib.hid (bthen ‹Below w2.heap.size w2 _› hb)
             clear hb)
          | (go_at_call 11
             refine calls_named ?_
             intro W5 hW5
             have hb5 : Below w4.heap.size w4 W5 := by rw [hW5]; repeat (first | exact Below.refl _ _ | refine Below.drew ?_)
             clear hW5
             have hbA := bthen HB2.out (bthen HB4.out hb5)
             refine (nhas_any P b.1 b.2.1 rs rh b.2.2 ⟨ko.1, sA, sc, pA, pc, nd⟩ W5 (HN.out.below hbA) hrs hrh (HLD.out.below hbA) HSM.out).mono ?_
             rintro e w5 ⟨rfl, hb⟩
             have HB5 := Lib.hid (bthen HB4.out (bthen hb5 hb))
             clear hb5 hb hbA))
      all_goals
        go_wp2
        go_roundg (l.length - (k + 1))
        case measure => omega
        case rel => exact ⟨k + 1, hlt, Nat.le_refl _, by go_num, by rw [HTK.out, ← HO2.out]; exact HW2.out.below HB5.out, bthen HB2.out HB5.out⟩
    · obtain rfl : k = l.length := by omega
      obtain rfl : pre = keysI l := by rw [HPRE.out]; exact List.take_of_length_le (by simp [keysI])
      have HB := Lib.hid hb
      have hkk : (keysI l).length = l.length := HKL.out
      have HKL2 := Lib.hid (show (keysI l).length ≤ maxLen by unfold maxLen; omega)
      clear hb hkk
      go_wp2_with (first
        | (go_at_call 28
           refine (skeys_any T c ver es rs rh _ wr (H.out.below HB.out).in_ (by have := HEL.out; omega)).mono ?_
           rw [HK.out]
           rintro e w4 ⟨v4, rfl, hrow, hb4⟩
           obtain ⟨A4, c4, rfl⟩ := own_form hrow
           have HR4 := Lib.hid (KeysIn.own hrow)
           have HB4 := Lib.hid hb4
           clear hrow hb4)
        | (go_at_call 36
           refine (same_any _ _ _ _ w4 HR4.out (KeysIn.own (HO.out.below HB4.out)) HKL2.out HKL2.out).mono ?_
           rw [show sameK (keysI l) (keysI l) = true by simp [sameK]]
           rintro e w5 ⟨rfl, hb⟩
           have HB5 := Lib.hid (bthen HB.out (bthen HB4.out hb))
           clear hb)
        | (go_at_call 17
           refine (slen_any T c ver es rs rh _ w5 (H.out.below HB5.out).in_ (by have := HEL.out; omega)).mono ?_
           rw [HEL.out]
           rintro e w6 ⟨rfl, hb⟩
           have HB6 := Lib.hid (bthen HB5.out hb)
           clear hb))
      go_ret
      exact ⟨rfl, HB6.out⟩
end

end Go.Proofs.YtfnabpmdjfejbaaGreat
