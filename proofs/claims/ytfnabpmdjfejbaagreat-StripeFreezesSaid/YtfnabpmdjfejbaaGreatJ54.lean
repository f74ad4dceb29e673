/- The walk of StripeFreezes. -/
import Derived.Test.YtfnabpmdjfejbaaGreatJ52
import Derived.Test.YtfnabpmdjfejbaaGreatJ53
namespace Go.Proofs.YtfnabpmdjfejbaaGreat

section
set_option linter.unusedSimpArgs false
set_option linter.unusedVariables false
open Go.RowKit Go.Lib Go.Sort

set_option maxRecDepth 100000 in
set_option maxHeartbeats 8000000 in
theorem sfreezes_main (c : Cfg) (rs rh : Nat) (v v' : Value) (l l' : List ActK) (w : World) (hv : RowIn 16 actKC w v l) (hv' : RowIn 16 actKC w v' l') (hok : ∀ p ∈ l, p.1.ok) (hok' : ∀ p ∈ l', p.1.ok) (hl : l.length ≤ 30) (hl2 : l'.length ≤ 30) (hc : CfgOk c rs rh) :
    Calls Tryz.prog 3 #[cfgV c, v, v'] w fun e w' => e = .returned (.bool true) ∧ Below w.heap.size w w' := by
  obtain ⟨A, cc, rfl⟩ := hv.form
  obtain ⟨A', cc', rfl⟩ := hv'.form
  have HC := Lib.hid hc
  have HV := Lib.hid hv
  have HV' := Lib.hid hv'
  have HOK := Lib.hid hok
  have HOK' := Lib.hid hok'
  have HL := Lib.hid hl
  have HL2 := Lib.hid hl2
  have hR := hc.room
  have h0 : 0 ≤ c.lo := by have := hc.cfg; unfold cfgB at this; simp only [Bool.and_eq_true, decide_eq_true_eq] at this; omega
  have HR := Lib.hid hR
  have H0 := Lib.hid h0
  have HNW : Hid (∀ W, Calls Tryz.prog 7 #[.agg #[.int .i64 c.st, .int .i64 c.sa, .int .i64 c.lo, .int .i64 c.hi]] W (NewStripe W c rs rh)) := Lib.hid (fun W => stripeNew_any c rs rh W hc.cfg hc.ok)
  have HRT : Hid (∀ W, Calls Tryz.prog 6 #[.agg #[.int .i64 c.st, .int .i64 c.sa, .int .i64 c.lo, .int .i64 c.hi]] W fun e w' => e = .returned (.bool true) ∧ Below W.heap.size W w') := Lib.hid (fun W => by have := ref17Right_any c W; rw [hc.cfg] at this; exact this)
  have q30 : ¬ (30 : Int) < (l.length : Int) := by omega
  have q31 : ¬ (30 : Int) < (l'.length : Int) := by omega
  have hl' : l.length ≤ 9223372036854775807 := by omega
  have hl2' : l'.length ≤ 9223372036854775807 := by omega
  unfold cfgV
  clear hv hv' hok hok' hl hl2 hc hR h0
  go_enter Tryz.func3, Tryz.ntmps3
  go_wp2_with (first
    | (go_at_call 5
       refine calls_named ?_
       intro W0 hW0
       have hb0 : Below w.heap.size w W0 := by rw [hW0]; exact balloc (Below.refl _ _) _
       have hxc : W0.heap[w.heap.size]? = some (.cells #[.int .i64 c.st, .int .i64 c.sa, .int .i64 c.lo, .int .i64 c.hi] 23 (0, 0)) := by rw [hW0]; exact heap_alloc_new _ _
       clear hW0
       refine (awake_any W0).mono ?_
       rintro e w1 ⟨rfl, hb1⟩
       obtain ⟨a1, a1f, a1l⟩ := box_cells hb1 hxc
       have HXC := Lib.hid hxc
       have HB0 := Lib.hid hb0
       have HB1 := Lib.hid hb1
       clear hb0 hxc hb1)
    | (go_at_call 6
       refine (HRT.out w1).mono ?_
       rintro e w2 ⟨rfl, hb2⟩
       have hb := bthen HB1.out hb2
       obtain ⟨a2, a2f, a2l⟩ := box_cells hb HXC.out
       have HB2 := Lib.hid hb
       clear hb2 hb)
    | (go_at_call 7
       refine (HNW.out w2).mono ?_
       intro e w3 hn
       obtain ⟨T, M, rfl, hp⟩ := play_new HB2.out hn H0.out
       have HP3 := Lib.hid hp
       clear hn hp))
  clear a1 a1f a1l a2 a2f a2l
  go_loopg [8, 35] l.length (fun g s8 s35 wr => ∃ (n ver : Nat) (es : List (KO × NE)) (m : List It), n ≤ l.length ∧ l.length - n ≤ g ∧ s35 = .int .i64 n ∧ Play W0 wr T M c rs rh n ver es s8 m)
  case atStart => exact ⟨0, 0, [], [], Nat.zero_le _, Nat.le_refl _, rfl, HP3.out⟩
  case round =>
    obtain ⟨n, ver, es, m, hn, hg, rfl, hp⟩ := hrel
    have hbw : Below w.heap.size w wr := HB0.out.trans (hp.base.mono HB0.out.size)
    obtain ⟨Am, cm, rfl⟩ := hp.items.1.1.form
    have HP := Lib.hid hp
    clear hp
    by_cases hlt : n < l.length
    · as_aux_lemma =>
      obtain ⟨b, o, rfl, hbl, hat⟩ := (HV.out.below hbw).at_ hlt
      have hxok := HOK.out _ (List.getElem_mem hlt)
      generalize l[n] = x at hat hxok
      obtain ⟨ky, a⟩ := x
      obtain ⟨ko, rfl⟩ : ∃ ko : KO, ko.1 = ky := ⟨⟨ky, hxok⟩, rfl⟩
      have c0 := hat 0 _ rfl
      have c1 := hat 1 _ rfl
      have c2 := hat 2 _ rfl
      have c3 := hat 3 _ rfl
      have c4 := hat 4 _ rfl
      have c5 := hat 5 _ rfl
      have c6 := hat 6 _ rfl
      have c7 := hat 7 _ rfl
      have c8 := hat 8 _ rfl
      have c9 := hat 9 _ rfl
      have c10 := hat 10 _ rfl
      have c11 := hat 11 _ rfl
      have c12 := hat 12 _ rfl
      have c13 := hat 13 _ rfl
      have c14 := hat 14 _ rfl
      have c15 := hat 15 _ rfl
      rw [Nat.add_zero] at c0
      simp only at c0 c1 c2 c3 c4 c5 c6 c7 c8 c9 c10 c11 c12 c13 c14 c15 hxok
      have HBW := Lib.hid hbw
      have hn1 : (n : Int) < (l.length : Int) := by omega
      have hn0 : (0 : Int) ≤ (n : Int) := by omega
      clear hat hbw hxok
      go_wp2_with (first
        | (go_at_call 8
           refine calls_named ?_
           intro W4 hW4
           have hb4 : Below wr.heap.size wr W4 := by rw [hW4]; exact balloc (Below.refl _ _) _
           have hx4 : W4.heap[wr.heap.size]? = some (.cells #[.int .u64 ko.1.1, .int .u64 ko.1.2, .int .i64 a.kind, .int .i64 a.smp.1, .int .i64 a.smp.2, .int .i64 a.pol.mn, .int .i64 a.pol.mx, .int .i64 a.pol.tg, .int .i64 a.pol.tol, .int .i64 a.pol.win, .int .i64 a.pol.hold, .int .i64 a.adv.tick, .int .i64 a.adv.load, .int .i64 a.adv.want, .int .i64 a.adv.repl, .int .i64 a.adv.why] 42 (0, 0)) := by rw [hW4]; exact heap_alloc_new _ _
           clear hW4
           have hnew : wr.heap.size ∉ sfp T M es := fun hq => by have := HP.out.at_.sfpLt _ hq; omega
           obtain ⟨R, hdo⟩ := play_do (HP.out.below hb4) HC.out (by have := HL.out; omega) ko a
           refine hdo.mono ?_
           rintro e w5 ⟨es2, rfl, hh, hu⟩
           have hx5 := (hu.block _ (Array.getElem?_eq_some_iff.1 hx4).1 hnew).trans hx4
           obtain ⟨a3, a3f, a3l⟩ := box_cells (Below.refl _ _) hx5
           obtain ⟨a4, a4f, a4l⟩ := box_cells hh.base HXC.out
           have HH := Lib.hid hh
           clear hb4 hx4 hnew hdo hh hu hx5)
        | (go_at_call 9
           refine (half_do18 HH.out HC.out (by have := HL.out; omega)).mono ?_
           rintro e w6 ⟨out, A6, c6', rfl, hp6, hb6⟩
           have HP6 := Lib.hid hp6
           clear hp6 hb6))
      go_roundg (l.length - (n + 1))
      case measure => omega
      case rel => exact ⟨n + 1, R.ver, es2, out, hlt, Nat.le_refl _, by go_num, HP6.out⟩
    · obtain rfl : n = l.length := by omega
      clear hbw hg hn hlt
      go_wp2_with (first
        | (go_at_call 10
           refine (play_freeze HP.out (by have := HL.out; omega)).mono ?_
           rintro e w7 ⟨es7, fl, A7, c7, rfl, hc7, -⟩
           have HP7 := Lib.hid hc7
           clear hc7))
      go_loopg [56] l'.length (fun g s56 wt => ∃ (n ver : Nat) (es : List (KO × NE)), n ≤ l'.length ∧ l'.length - n ≤ g ∧ s56 = .int .i64 n ∧ Cold W0 wt T M c rs rh (l.length + n) ver es (.slice A7 fl.length c7) fl (.slice Am m.length cm) m)
      case atStart => exact ⟨0, ver, es7, Nat.zero_le _, Nat.le_refl _, rfl, HP7.out⟩
      case round =>
        rename World => wt
        obtain ⟨n, ver2, es8, hn, hg, rfl, hp⟩ := hrel
        have hbt : Below w.heap.size w wt := HB0.out.trans (hp.base.mono HB0.out.size)
        have HP8 := Lib.hid hp
        clear hp
        by_cases hlt : n < l'.length
        · as_aux_lemma =>
          obtain ⟨b, o, rfl, hbl, hat⟩ := (HV'.out.below hbt).at_ hlt
          have hxok := HOK'.out _ (List.getElem_mem hlt)
          generalize l'[n] = x at hat hxok
          obtain ⟨ky, a⟩ := x
          obtain ⟨ko, rfl⟩ : ∃ ko : KO, ko.1 = ky := ⟨⟨ky, hxok⟩, rfl⟩
          have c0 := hat 0 _ rfl
          have c1 := hat 1 _ rfl
          have c2 := hat 2 _ rfl
          have c3 := hat 3 _ rfl
          have c4 := hat 4 _ rfl
          have c5 := hat 5 _ rfl
          have c6 := hat 6 _ rfl
          have c7 := hat 7 _ rfl
          have c8 := hat 8 _ rfl
          have c9 := hat 9 _ rfl
          have c10 := hat 10 _ rfl
          have c11 := hat 11 _ rfl
          have c12 := hat 12 _ rfl
          have c13 := hat 13 _ rfl
          have c14 := hat 14 _ rfl
          have c15 := hat 15 _ rfl
          rw [Nat.add_zero] at c0
          simp only at c0 c1 c2 c3 c4 c5 c6 c7 c8 c9 c10 c11 c12 c13 c14 c15 hxok
          have hn1 : (n : Int) < (l'.length : Int) := by omega
          have hn0 : (0 : Int) ≤ (n : Int) := by omega
          clear hat hxok
          go_wp2_with (first
            | (go_at_call 8
               refine calls_named ?_
               intro W4 hW4
               have hb4 : Below wt.heap.size wt W4 := by rw [hW4]; exact balloc (Below.refl _ _) _
               clear hW4
               refine (cold_do (HP8.out.below hb4) HC.out (by have := HL.out; have := HL2.out; omega) ko a).mono ?_
               rintro e w9 ⟨x9, y9, ver9, es9, rfl, hh, -⟩
               have HP9 := Lib.hid hh
               clear hb4 hh))
          go_roundg (l'.length - (n + 1))
          case measure => omega
          case rel => exact ⟨n + 1, ver9, es9, hlt, Nat.le_refl _, by go_num, HP9.out⟩
        · obtain rfl : n = l'.length := by omega
          have hlen := HP8.out.len
          have hfl : fl.length ≤ 1000 := by have h1 := HP8.out.len; have h2 := HP.out.len; have h3 := HL.out; omega
          have hne : (fl.length : Int) = (m.length : Int) := by rw [hlen]
          have HLE := Lib.hid hlen
          have HFL := Lib.hid hfl
          clear hlen hfl hg hn hlt
          go_wp2
          clear hne
          have hfl9 : fl.length ≤ 9223372036854775807 := by have := HFL.out; omega
          go_loopg [71] fl.length (fun g s71 wu => ∃ (n : Nat), n ≤ fl.length ∧ fl.length - n ≤ g ∧ s71 = .int .i64 n ∧ Below wt.heap.size wt wu)
          case atStart => exact ⟨0, Nat.zero_le _, Nat.le_refl _, rfl, Below.refl _ _⟩
          case round =>
            rename World => wu
            obtain ⟨n, hn, hg, rfl, hbu⟩ := hrel
            have HC9 := Lib.hid (HP8.out.below hbu)
            have HCU := Lib.hid hbu
            have HBT := Lib.hid (bthen hbt hbu)
            clear hbu
            by_cases hlt : n < fl.length
            · as_aux_lemma =>
              have hlt2 : n < m.length := by rw [← HLE.out]; exact hlt
              obtain ⟨b1, o1, rfl, hbl1, hat1⟩ := HC9.out.rows.1.at_ hlt
              obtain ⟨b2, o2, rfl, hbl2, hat2⟩ := HC9.out.items.1.1.at_ hlt2
              obtain ⟨hkey, y, fp, hny, hfz, hsm, -⟩ := HC9.out.told n hlt2 hlt
              have hld := HC9.out.items.2 _ (List.getElem_mem hlt2)
              generalize fl[n] = x1 at hat1 hkey hny
              generalize m[n] = x2 at hat2 hkey hsm hld
              obtain ⟨k1, N⟩ := x1
              obtain ⟨key, sA, sc, pA, pc, nd⟩ := x2
              obtain rfl : k1 = key := hkey
              have HNY := Lib.hid hny
              have HSM := Lib.hid hsm
              have HLD := Lib.hid hld
              have HFZ := Lib.hid hfz
              clear hny hsm hld hfz
              have c0 := hat1 0 _ rfl
              have c1 := hat1 1 _ rfl
              have c2 := hat1 2 _ rfl
              rw [Nat.add_zero] at c0
              simp only at c0 c1 c2
              have d0 := hat2 0 _ rfl
              have d1 := hat2 1 _ rfl
              have d2 := hat2 2 _ rfl
              have d3 := hat2 3 _ rfl
              have d4 := hat2 4 _ rfl
              have d5 := hat2 5 _ rfl
              have d6 := hat2 6 _ rfl
              have d7 := hat2 7 _ rfl
              have d8 := hat2 8 _ rfl
              have d9 := hat2 9 _ rfl
              have d10 := hat2 10 _ rfl
              have d11 := hat2 11 _ rfl
              rw [Nat.add_zero] at d0
              simp only at d0 d1 d2 d3 d4 d5 d6 d7 d8 d9 d10 d11
              clear hat1 hat2
              have hn1 : (n : Int) < (fl.length : Int) := by omega
              have hn2 : (n : Int) < (m.length : Int) := by omega
              have hn0 : (0 : Int) ≤ (n : Int) := by omega
              go_wp2
              refine name_world ?_
              intro W hW
              have hbW : Below wu.heap.size wu W := by rw [hW]; exact balloc (Below.refl _ _) _
              have hxW : W.heap[wu.heap.size]? = some (.cells #[.int .u64 k1.1, .int .u64 k1.2, .pointer (some ⟨N, 0, none⟩)] 51 (0, 0)) := by rw [hW]; exact heap_alloc_new _ _
              clear hW
              have HBW := Lib.hid hbW
              have rx : ∀ U, Below W.heap.size W U → (∀ j, U.cell? ⟨wu.heap.size, j, none⟩ = (#[.int .u64 k1.1, .int .u64 k1.2, .pointer (some ⟨N, 0, none⟩)] : Array Value)[j]?) := fun U hU => (box_cells hU hxW).1
              have hb2W : b2 < W.heap.size := Nat.lt_of_lt_of_le hbl2 hbW.size
              have rd0 : ∀ U, Below W.heap.size W U → U.cell? ⟨b2, o2 + n * 12, none⟩ = _ := fun U hU => ((bthen hbW hU).cell (p := ⟨b2, _, none⟩) hbl2).trans d0
              have rd1 : ∀ U, Below W.heap.size W U → U.cell? ⟨b2, o2 + n * 12 + 1, none⟩ = _ := fun U hU => ((bthen hbW hU).cell (p := ⟨b2, _, none⟩) hbl2).trans d1
              have rd2 : ∀ U, Below W.heap.size W U → U.cell? ⟨b2, o2 + n * 12 + 2, none⟩ = _ := fun U hU => ((bthen hbW hU).cell (p := ⟨b2, _, none⟩) hbl2).trans d2
              have rd3 : ∀ U, Below W.heap.size W U → U.cell? ⟨b2, o2 + n * 12 + 3, none⟩ = _ := fun U hU => ((bthen hbW hU).cell (p := ⟨b2, _, none⟩) hbl2).trans d3
              have rd4 : ∀ U, Below W.heap.size W U → U.cell? ⟨b2, o2 + n * 12 + 4, none⟩ = _ := fun U hU => ((bthen hbW hU).cell (p := ⟨b2, _, none⟩) hbl2).trans d4
              have rd5 : ∀ U, Below W.heap.size W U → U.cell? ⟨b2, o2 + n * 12 + 5, none⟩ = _ := fun U hU => ((bthen hbW hU).cell (p := ⟨b2, _, none⟩) hbl2).trans d5
              have rd6 : ∀ U, Below W.heap.size W U → U.cell? ⟨b2, o2 + n * 12 + 6, none⟩ = _ := fun U hU => ((bthen hbW hU).cell (p := ⟨b2, _, none⟩) hbl2).trans d6
              have rd7 : ∀ U, Below W.heap.size W U → U.cell? ⟨b2, o2 + n * 12 + 7, none⟩ = _ := fun U hU => ((bthen hbW hU).cell (p := ⟨b2, _, none⟩) hbl2).trans d7
              have rd8 : ∀ U, Below W.heap.size W U → U.cell? ⟨b2, o2 + n * 12 + 8, none⟩ = _ := fun U hU => ((bthen hbW hU).cell (p := ⟨b2, _, none⟩) hbl2).trans d8
              have rd9 : ∀ U, Below W.heap.size W U → U.cell? ⟨b2, o2 + n * 12 + 9, none⟩ = _ := fun U hU => ((bthen hbW hU).cell (p := ⟨b2, _, none⟩) hbl2).trans d9
              have rd10 : ∀ U, Below W.heap.size W U → U.cell? ⟨b2, o2 + n * 12 + 10, none⟩ = _ := fun U hU => ((bthen hbW hU).cell (p := ⟨b2, _, none⟩) hbl2).trans d10
              have rd11 : ∀ U, Below W.heap.size W U → U.cell? ⟨b2, o2 + n * 12 + 11, none⟩ = _ := fun U hU => ((bthen hbW hU).cell (p := ⟨b2, _, none⟩) hbl2).trans d11
              clear d0 d1 d2 d3 d4 d5 d6 d7 d8 d9 d10 d11 c0 c1 c2 hxW hbW
              have hS00 : Below W.heap.size W W := Below.refl _ _
              have hS0 : Below W.heap.size W W.drew := hS00.drew
              go_region_held3 (fun U => Below W.heap.size W U)
                (first
                  | with_reducible exact hS0
                  | with_reducible exact HBH.out
                  | with_reducible exact HBF.out)
                (first
                  | (go_at_call 11
                     refine (nhas_any _ N y rs rh fp ⟨k1, sA, sc, pA, pc, nd⟩ _ (HNY.out.below (bthen HBW.out ‹Below W.heap.size W _›)) HR.out.r2 HR.out.h2 (HLD.out.below (bthen HBW.out ‹Below W.heap.size W _›)) HSM.out).mono ?_
                     rintro e w5 ⟨rfl, hb⟩
                     have HBH := Lib.hid (bthen ‹Below W.heap.size W _› hb)
                     clear hb)
                  | (go_at_call 12
                     refine (nodeFrozen_any N y rs rh fp _ (HNY.out.below (bthen HBW.out ‹Below W.heap.size W _›))).mono ?_
                     rw [HFZ.out]
                     rintro e w6 ⟨rfl, hb⟩
                     have HBF := Lib.hid (bthen ‹Below W.heap.size W _› hb)
                     clear hb))
              all_goals
                go_wp2
                go_roundg (fl.length - (n + 1))
                case measure => omega
                case rel => exact ⟨n + 1, hlt, Nat.le_refl _, by go_num, bthen HCU.out (bthen HBW.out HBF.out)⟩
            · obtain rfl : n = fl.length := by omega
              have hir : ¬ fl.length < m.length := by have := HLE.out; omega
              clear hn hg hlt
              go_wp2
              go_ret
              exact ⟨rfl, HBT.out⟩
end

end Go.Proofs.YtfnabpmdjfejbaaGreat
