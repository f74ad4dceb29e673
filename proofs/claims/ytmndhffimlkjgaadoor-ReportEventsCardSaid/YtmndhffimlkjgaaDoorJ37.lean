/- flywheelref43.Last: the last decisions, by looking through all events. -/
import Derived.Test.YtmndhffimlkjgaaDoorJ35
import Derived.Test.YtmndhffimlkjgaaDoorJ36
namespace Go.Proofs.YtmndhffimlkjgaaDoor

section
set_option linter.unusedSimpArgs false
set_option linter.unusedVariables false
open Go.RowKit Go.Lib

/-- The last decision of a key among the first events. -/
def lastTo (es : List EvtD) (p : Ky) (i : Nat) : AdvD := (lastA (notedL (es.take i)) (koOf p)).getD adv0
theorem lastTo_same {es : List EvtD} {p : Ky} {i : Nat} (h : i < es.length) (hn : ¬ (es[i].kind = 6 ∧ (es[i].hi, es[i].lo) = p)) (hp : p.ok) (he : es[i].ok) : lastTo es p (i + 1) = lastTo es p i := by
  unfold lastTo
  by_cases hk : es[i].kind = 6
  · rw [notedK_snoc6 h hk, lastA_snoc, if_neg]
    intro e
    exact hn ⟨hk, koOf_inj ⟨he.hi, he.lo⟩ hp e⟩
  · rw [notedK_snoc0 h hk]
theorem lastTo_new {es : List EvtD} {p : Ky} {i : Nat} (h : i < es.length) (hk : es[i].kind = 6) (hn : (es[i].hi, es[i].lo) = p) : lastTo es p (i + 1) = advOf es[i] := by
  unfold lastTo
  rw [notedK_snoc6 h hk, lastA_snoc, if_pos (by rw [hn])]
  rfl
theorem lastTo_all (es : List EvtD) (p : Ky) : lastTo es p es.length = (lastA (notedL es) (koOf p)).getD adv0 := by unfold lastTo; rw [List.take_length]
theorem lastTo_ok {es : List EvtD} (h : ∀ e ∈ es, e.ok) (p : Ky) (i : Nat) : (lastTo es p i).ok := lastA_ok (notedL_ok _ fun e he => h e (List.mem_of_mem_take he)) _
def advA (a : AdvD) : Array Value := #[.int .i64 a.tick, .int .i64 a.load, .int .i64 a.want, .int .i64 a.repl, .int .i64 a.why]

set_option maxRecDepth 100000 in
set_option maxHeartbeats 8000000 in
theorem rlast_any (v : Value) (es : List EvtD) (w : World) (he : RowIn 34 evC w v es) (heok : ∀ e ∈ es, e.ok) (hel : es.length ≤ 40) :
    Calls Tryd.prog 11 #[v] w (LastSays w (lastL es)) := by
  obtain ⟨A, c, rfl, hAc, h0⟩ := id he
  clear hAc h0
  have HE := Lib.hid he
  have HEOK := Lib.hid heok
  have HEL := Lib.hid hel
  have q0 : (es.length : Int) ≤ 40 := by omega
  clear he heok hel
  go_enter Tryd.func11, Tryd.ntmps11
  go_wp2_with fail
  go_loopg [3, 4] es.length (fun g s3 s4 wr => ∃ k : Nat, k ≤ es.length ∧ es.length - k ≤ g ∧ s4 = .int .i64 k ∧ OwnL keyC 40 2 w.heap.size wr s3 (notedK (es.take k)) ∧ Below w.heap.size w wr)
  case atStart => exact ⟨0, Nat.zero_le _, Nat.le_refl _, rfl, OwnL.nil _ _, Below.refl _ _⟩
  case round =>
    obtain ⟨k, hk, hg, rfl, hown, hbw⟩ := hrel
    rename World => wr
    have HBr := Lib.hid hbw
    clear hbw
    by_cases hlt : k < es.length
    · obtain ⟨b1, o1, rfl, hb1, hc⟩ := (HE.out.below HBr.out).at_ hlt
      obtain ⟨B1, e1, rfl⟩ := hown.form
      have c0 := hc 0 _ rfl
      rw [Nat.add_zero] at c0
      by_cases hkd : es[k].kind = 6
      · as_aux_lemma =>
            have HT1 := Lib.hid (notedK_snoc6 hlt hkd)
            have htl := notedK_len es k 40 HEL.out
            have hik := HEOK.out _ (List.getElem_mem hlt)
            have HXK := Lib.hid (show (koOf (es[k].hi, es[k].lo)).1 = (es[k].hi, es[k].lo) from koOf_ok ⟨hik.hi, hik.lo⟩)
            rw [hkd] at c0
            have c27 := hc 27 _ rfl
            have c28 := hc 28 _ rfl
            have HYL := Lib.hid htl
            have HOW := Lib.hid hown
            clear hc hkd hown hik htl
            go_wp2_with (first
              | (at_builtin
                 refine wpList_appendL eKy (by rfl) (by rfl) w.heap.size (notedK (es.take k)) [(es[k].hi, es[k].lo)] (.slice B1 (notedK (es.take k)).length e1) _ (by rfl) (by rfl) (HOW.out.below (balloc (Below.refl _ _) _)) (RowIn.lit (n := 2) (f := keyC) wr (es[k].hi, es[k].lo) _ _ _ rfl rfl) (by have := HYL.out; simp; omega) (by have := HBr.out.size; simp; omega) ?_
                 intro out A2 c2 w2 hout hown hg hor
                 have HOU := Lib.hid (show out = notedK (es.take k) ++ [(es[k].hi, es[k].lo)] from hout)
                 have hb7 : Below w.heap.size wr w2 := ((Below.refl _ _).alloc HBr.out.size _).trans (grown_own hg HOW.out (by have := HBr.out.size; simp; omega))
                 have HO := Lib.hid hown
                 have HB7 := Lib.hid hb7
                 clear hown hout hg hor hb7))
            go_roundg (es.length - (k + 1))
            case measure => omega
            case rel => exact ⟨k + 1, hlt, Nat.le_refl _, by go_num, by rw [show notedK (es.take (k + 1)) = out by rw [HOU.out]; unfold notedK; rw [HT1.out, List.map_append]; simp only [List.map_cons, List.map_nil, HXK.out]]; exact HO.out, HBr.out.trans HB7.out⟩
      · as_aux_lemma =>
            have HT1 := Lib.hid (notedK_snoc0 hlt hkd)
            generalize es[k].kind = kd at c0 hkd
            have qk : (kd == 6) = false := by simpa using hkd
            have HOW := Lib.hid hown
            clear hc hkd hown
            go_wp2_with fail
            go_roundg (es.length - (k + 1))
            case measure => omega
            case rel => exact ⟨k + 1, hlt, Nat.le_refl _, by go_num, by unfold notedK; rw [HT1.out]; exact HOW.out, HBr.out⟩
    · obtain rfl : k = es.length := by omega
      as_aux_lemma =>
        rw [List.take_length] at hown
        obtain ⟨B1, e1, rfl⟩ := hown.form
        have hki : KeysIn wr (.slice B1 (notedK es).length e1) (notedK es) := KeysIn.own (e := 40) hown
        have htl : (notedK es).length ≤ 40 := by have := notedK_len es es.length 40 HEL.out; rwa [List.take_length] at this
        have hnok : ∀ p ∈ notedK es, p.ok := fun p hp => by obtain ⟨q, _, rfl⟩ := List.mem_map.1 hp; exact q.1.2
        have CR := Lib.hid (refRising_any _ _ wr hki hnok (by omega))
        have hrl : (risL (notedK es)).length ≤ 40 := Nat.le_trans (len_risL _) htl
        have hrok := notedK_ok es
        have HLE := Lib.hid (fun j => @last_end es j)
        have HLN := Lib.hid (show lastL es = (risL (notedK es)).map (lastLn es) from rfl)
        generalize risL (notedK es) = rl at CR hrl hrok HLE HLN
        have HRL := Lib.hid hrl
        have HROK := Lib.hid hrok
        have q1 : (rl.length : Int) ≤ 40 := by omega
        clear hown hki htl hrl hrok hnok
        go_wp2_with (go_at_call 25
                     refine CR.out.mono ?_
                     rintro e w3 ⟨u, rfl, hor, hb3⟩
                     have hki : KeysIn w3 u rl := KeysIn.own hor
                     obtain ⟨A3, c3, rfl, _⟩ := id hki
                     have HKI := Lib.hid hki
                     have HB3 := Lib.hid (bthen HBr.out hb3)
                     clear hki hb3 hor)
        have HB3' := HB3
        clear HBr
        go_loopg [5, 6] rl.length (fun g s5 s6 wr => ∃ j : Nat, j ≤ rl.length ∧ rl.length - j ≤ g ∧ s6 = .int .i64 j ∧ OwnL strC 9 1 w3.heap.size wr s5 ((rl.take j).map (lastLn es)) ∧ Below w3.heap.size w3 wr)
        case atStart => exact ⟨0, Nat.zero_le _, Nat.le_refl _, rfl, OwnL.nil _ _, Below.refl _ _⟩
        case round =>
          obtain ⟨j, hj, hgj, rfl, hown, hbw⟩ := hrel
          rename World => wr
          have HBr := Lib.hid hbw
          clear hbw
          by_cases hjl : j < rl.length
          · obtain ⟨b3, o3, rfl, hb3, c1, c2⟩ := (HKI.out.below HBr.out).at_ hjl
            have hb3l : b3 < w3.heap.size := by
              obtain ⟨b4, o4, e4, h4, _⟩ := HKI.out.at_ hjl
              simp only [Option.some.injEq, Addr.mk.injEq] at e4
              rw [e4.1]; exact h4
            have HB3L := Lib.hid hb3l
            have HC1 := Lib.hid c1
            have HC2 := Lib.hid c2
            obtain ⟨B7, e7, rfl⟩ := hown.form
            have HLj := Lib.hid (HLE.out j hjl)
            have hpok := HROK.out _ (List.getElem_mem hjl)
            have hls : ((rl.take j).map (lastLn es)).length ≤ 40 := by rw [List.length_map, List.length_take]; have := HRL.out; omega
            have hln : lastLn es rl[j] = nm rl[j] ++ ⟨#[32]⟩ ++ advT (lastTo es rl[j] es.length) := by rw [lastTo_all]; rfl
            have HLNj := Lib.hid hln
            generalize (rl.take j).map (lastLn es) = ls at hown hls HLj
            generalize lastLn es rl[j] = lnj at HLj HLNj
            clear hln c1 c2
            generalize rl[j] = p at HC1 HC2 hpok HLNj
            have HPOK := Lib.hid hpok
            have HOr := Lib.hid hown
            have HLS := Lib.hid hls
            clear hown hls hpok hb3 hb3l
            go_upto_region 14 with fail
            go_loopg [8] es.length (fun g s8 wi => ∃ i : Nat, i ≤ es.length ∧ es.length - i ≤ g ∧ s8 = .int .i64 i ∧ wi.heap[wr.heap.size]? = some (.cells (advA (lastTo es p i)) 35 (0, 0)) ∧ Below wr.heap.size wr wi)
            case atStart => exact ⟨0, Nat.zero_le _, Nat.le_refl _, rfl, heap_alloc_new _ _, balloc (Below.refl _ _) _⟩
            case round =>
              obtain ⟨i, hi, hgi, rfl, hx, hbi⟩ := hrel
              rename World => wi
              have HX := Lib.hid hx
              have HBi := Lib.hid hbi
              have HBwi := Lib.hid (bthen HB3.out (bthen HBr.out hbi))
              have hc3 := (bcell hbi).1 b3
              have k1 : wi.cell? ⟨b3, o3 + j * 2, none⟩ = some (.int .u64 p.1) := (hc3 _ (by have := HB3L.out; have := HBr.out.size; omega)).trans HC1.out
              have k2 : wi.cell? ⟨b3, o3 + j * 2 + 1, none⟩ = some (.int .u64 p.2) := (hc3 _ (by have := HB3L.out; have := HBr.out.size; omega)).trans HC2.out
              clear hx hbi hc3
              by_cases hil : i < es.length
              · obtain ⟨b1, o1, rfl, hb1, hc⟩ := (HE.out.below HBwi.out).at_ hil
                have c0 := hc 0 _ rfl
                rw [Nat.add_zero] at c0
                have hik := HEOK.out _ (List.getElem_mem hil)
                by_cases hkd : es[i].kind = 6
                · have c27 := hc 27 _ rfl
                  have c28 := hc 28 _ rfl
                  by_cases hkp : (es[i].hi, es[i].lo) = p
                  · as_aux_lemma =>
                      have HT1 := Lib.hid (lastTo_new hil hkd hkp)
                      rw [hkd] at c0
                      subst hkp
                      have c29 := hc 29 _ rfl
                      have c30 := hc 30 _ rfl
                      have c31 := hc 31 _ rfl
                      have c32 := hc 32 _ rfl
                      have c33 := hc 33 _ rfl
                      obtain ⟨x1, x2, x3, x4⟩ := box_at (Below.refl _ _) HX.out
                      have y0 : wi.cell? ⟨wr.heap.size, 0, none⟩ = some (.int .i64 (lastTo es (es[i].hi, es[i].lo) i).tick) := x1 0
                      have y1 : wi.cell? ⟨wr.heap.size, 1, none⟩ = some (.int .i64 (lastTo es (es[i].hi, es[i].lo) i).load) := x1 1
                      have y2 : wi.cell? ⟨wr.heap.size, 2, none⟩ = some (.int .i64 (lastTo es (es[i].hi, es[i].lo) i).want) := x1 2
                      have y3 : wi.cell? ⟨wr.heap.size, 3, none⟩ = some (.int .i64 (lastTo es (es[i].hi, es[i].lo) i).repl) := x1 3
                      have y4 : wi.cell? ⟨wr.heap.size, 4, none⟩ = some (.int .i64 (lastTo es (es[i].hi, es[i].lo) i).why) := x1 4
                      have HST := Lib.hid (stor_at HX.out [.int .i64 es[i].ntick, .int .i64 es[i].nload, .int .i64 es[i].nwant, .int .i64 es[i].nrepl, .int .i64 es[i].nwhy] rfl _ rfl)
                      clear hc hkd hik x1 x4
                      go_wp2_with fail
                      go_quiet (fail)
                      go_wp2_with fail
                      go_roundg (es.length - (i + 1))
                      case measure => omega
                      case rel => exact ⟨i + 1, hil, Nat.le_refl _, by go_num, by rw [HT1.out]; exact HST.out.1, below_drewN (HBi.out.trans (HST.out.2.2.2 _ (Nat.le_refl _))) _⟩
                  · as_aux_lemma =>
                      have HT1 := Lib.hid (lastTo_same hil (fun h => hkp h.2) HPOK.out hik)
                      rw [hkd] at c0
                      by_cases hh : es[i].hi = p.1
                      · have hl : (((es[i].lo : Nat) : Int) == ((p.2 : Nat) : Int)) = false := by
                          have : es[i].lo ≠ p.2 := fun h2 => hkp (Prod.ext hh h2)
                          simp; omega
                        rw [hh] at c27
                        clear hc hkd hik hkp hh
                        go_wp2_with fail
                        go_quiet (fail)
                        go_wp2_with fail
                        go_roundg (es.length - (i + 1))
                        case measure => omega
                        case rel => exact ⟨i + 1, hil, Nat.le_refl _, by go_num, by rw [HT1.out]; exact HX.out, below_drewN HBi.out _⟩
                      · have hl : (((es[i].hi : Nat) : Int) == ((p.1 : Nat) : Int)) = false := by simp; omega
                        clear hc hkd hik hkp hh
                        go_wp2_with fail
                        go_quiet (fail)
                        go_wp2_with fail
                        go_roundg (es.length - (i + 1))
                        case measure => omega
                        case rel => exact ⟨i + 1, hil, Nat.le_refl _, by go_num, by rw [HT1.out]; exact HX.out, below_drewN HBi.out _⟩
                · as_aux_lemma =>
                    have HT1 := Lib.hid (lastTo_same hil (fun h => hkd h.1) HPOK.out hik)
                    generalize es[i].kind = kd at c0 hkd
                    have qk : (kd == 6) = false := by simpa using hkd
                    clear hc hkd hik
                    go_wp2_with fail
                    go_quiet (fail)
                    go_wp2_with fail
                    go_roundg (es.length - (i + 1))
                    case measure => omega
                    case rel => exact ⟨i + 1, hil, Nat.le_refl _, by go_num, by rw [HT1.out]; exact HX.out, below_drewN HBi.out _⟩
              · obtain rfl : i = es.length := by omega
                have haok := lastTo_ok HEOK.out p es.length
                generalize lastTo es p es.length = a at HX HLNj haok
                have HX2 := Lib.hid (show wi.heap[wr.heap.size]? = some (.cells #[.int .i64 a.tick, .int .i64 a.load, .int .i64 a.want, .int .i64 a.repl, .int .i64 a.why] 35 (0, 0)) from HX.out)
                have C2 := Lib.hid (show ∀ W, Calls Tryd.prog 22 #[.agg #[.int .u64 p.1, .int .u64 p.2]] W fun x w' => x = .returned (.string (nm p)) ∧ Below W.heap.size W w' from fun W => rid43_any p.1 p.2 W HPOK.out.1 HPOK.out.2)
                have C3 := Lib.hid (show ∀ W, Calls Tryd.prog 23 #[.agg #[.int .i64 a.tick, .int .i64 a.load, .int .i64 a.want, .int .i64 a.repl, .int .i64 a.why]] W fun x w' => x = .returned (.string (advT a)) ∧ Below W.heap.size W w' from fun W => radv_any _ _ _ _ _ W haok.1 haok.2.1 haok.2.2.1 haok.2.2.2.1 haok.2.2.2.2)
                have hzs : (nm p).size ≤ 1000 := nameS_1000 _ _
                have hzt := advT_size haok
                generalize nm p = s at C2 hzs HLNj
                generalize advT a = t at C3 hzt HLNj
                clear haok
                go_upto_region 18 with fail
                refine name_world ?_
                intro W4 hW4
                have HS4 := Lib.hid (show W4.heap[wr.heap.size]? = some (.cells #[.int .i64 a.tick, .int .i64 a.load, .int .i64 a.want, .int .i64 a.repl, .int .i64 a.why] 35 (0, 0)) ∧ (W4.cell? ⟨b3, o3 + j * 2, none⟩ = some (.int .u64 p.1) ∧ W4.cell? ⟨b3, o3 + j * 2 + 1, none⟩ = some (.int .u64 p.2)) from by rw [hW4]; exact ⟨HX2.out, k1, k2⟩)
                have HLT4 := Lib.hid (show b3 < W4.heap.size by rw [hW4]; have := HB3L.out; have := HBr.out.size; have := HBi.out.size; omega)
                have HB4 := Lib.hid (show Below w3.heap.size w3 W4 by rw [hW4]; exact bthen HBr.out HBi.out)
                have HO4 := Lib.hid (show OwnL strC 9 1 w3.heap.size W4 (.slice B7 ls.length e7) ls by rw [hW4]; exact HOr.out.below HBi.out)
                clear hW4 k1 k2
                refine wp_region_held_drew (S := (fun U : World => U.heap[wr.heap.size]? = some (.cells #[.int .i64 a.tick, .int .i64 a.load, .int .i64 a.want, .int .i64 a.repl, .int .i64 a.why] 35 (0, 0)) ∧ (U.cell? ⟨b3, o3 + j * 2, none⟩ = some (.int .u64 p.1) ∧ U.cell? ⟨b3, o3 + j * 2 + 1, none⟩ = some (.int .u64 p.2)))) (by kernel_rfl) ?hS14 (fun hHeld => ?_)
                case hS14 => first | with_reducible exact HS4.out | exact HS4.out | with_reducible exact HS5.out | with_reducible exact HS6.out | exact ⟨(Below.heap_alloc _ _ _ (Array.getElem?_eq_some_iff.1 HS6.out.1).1).trans HS6.out.1, (bcell (balloc (Below.refl _ _) _)).1 _ _ HLT6.out ▸ HS6.out.2.1, (bcell (balloc (Below.refl _ _) _)).1 _ _ HLT6.out ▸ HS6.out.2.2⟩ | with_reducible exact HS7.out
                refine wpAnyH_take (i := 0) (v := ?v15) rfl (by kernel_rfl) (by kernel_rfl) (by kernel_rfl) (fun _ _ _ h => h) (Or.inl ⟨by rfl, ?hy15⟩) (by assumption) ?_
                case hy15 =>
                  intro w' hSw
                  (try dsimp only at hSw)
                  go_simp
                  try (with_reducible rfl)
                try simp only [Act.put, List.getElem_toArray, List.getElem_cons_succ, List.getElem_cons_zero, List.setIfInBounds_toArray, List.set_cons_zero, List.set_cons_succ]
                refine wpAnyH_take (i := 1) (v := ?v16) rfl (by kernel_rfl) (by kernel_rfl) (by kernel_rfl) (fun _ _ _ h => h) (Or.inl ⟨by rfl, ?hy16⟩) (by assumption) ?_
                case hy16 =>
                  intro w' hSw
                  (try dsimp only at hSw)
                  go_simp
                  try (with_reducible rfl)
                try simp only [Act.put, List.getElem_toArray, List.getElem_cons_succ, List.getElem_cons_zero, List.setIfInBounds_toArray, List.set_cons_zero, List.set_cons_succ]
                refine wpAnyH_take (i := 2) (v := ?v17) rfl (by kernel_rfl) (by kernel_rfl) (by kernel_rfl) (fun _ _ _ h => h) (Or.inl ⟨by rfl, ?hy17⟩) (by assumption) ?_
                case hy17 =>
                  intro w' hSw
                  (try dsimp only at hSw)
                  go_simp
                  try (with_reducible rfl)
                try simp only [Act.put, List.getElem_toArray, List.getElem_cons_succ, List.getElem_cons_zero, List.setIfInBounds_toArray, List.set_cons_zero, List.set_cons_succ]
                refine wpAnyH_take (i := 3) (v := ?v18) rfl (by kernel_rfl) (by kernel_rfl) (by kernel_rfl) (fun _ _ _ h => h) (Or.inl ⟨by rfl, ?hy18⟩) (by assumption) ?_
                case hy18 =>
                  intro w' hSw
                  (try dsimp only at hSw)
                  go_simp
                  try (with_reducible rfl)
                try simp only [Act.put, List.getElem_toArray, List.getElem_cons_succ, List.getElem_cons_zero, List.setIfInBounds_toArray, List.set_cons_zero, List.set_cons_succ]
                refine wpAnyH_take (i := 4) (v := ?v19) rfl (by kernel_rfl) (by kernel_rfl) (by kernel_rfl) (fun _ _ _ h => h) (Or.inl ⟨by rfl, ?hy19⟩) (by assumption) ?_
                case hy19 =>
                  intro w' hSw
                  (try dsimp only at hSw)
                  have q1 := hSw.2.1
                  have q2 := hSw.2.2
                  go_simp
                  try (with_reducible rfl)
                try simp only [Act.put, List.getElem_toArray, List.getElem_cons_succ, List.getElem_cons_zero, List.setIfInBounds_toArray, List.set_cons_zero, List.set_cons_succ]
                refine wpAnyH_take (i := 7) (v := ?v20) rfl (by kernel_rfl) (by kernel_rfl) (by kernel_rfl) (fun _ _ _ h => h) (Or.inl ⟨by rfl, ?hy20⟩) (by assumption) ?_
                case hy20 =>
                  intro w' hSw
                  (try dsimp only at hSw)
                  have q0 := (box_cells (Below.refl _ _) hSw.1).1
                  go_simp
                  try (with_reducible rfl)
                try simp only [Act.put, List.getElem_toArray, List.getElem_cons_succ, List.getElem_cons_zero, List.setIfInBounds_toArray, List.set_cons_zero, List.set_cons_succ]
                refine wpAnyH_ready (rs := [5]) (by kernel_rfl) (by simp) ?_
                refine AllReadyH.cons rfl (fun K hK => ?_) AllReadyH.nil
                go_simp
                go_at_call 22
                refine calls_named ?_
                intro W5 hW5
                have hb5 : Below W4.heap.size W4 W5 := by rw [hW5]; first | exact Below.refl _ _ | exact (Below.refl _ _).drew
                clear hW5
                with_reducible refine (C2.out W5).mono ?_
                rintro e w5 ⟨rfl, hb6⟩
                have hb7 := bthen hb5 hb6
                have HS5 := Lib.hid (show w5.heap[wr.heap.size]? = some (.cells #[.int .i64 a.tick, .int .i64 a.load, .int .i64 a.want, .int .i64 a.repl, .int .i64 a.why] 35 (0, 0)) ∧ (w5.cell? ⟨b3, o3 + j * 2, none⟩ = some (.int .u64 p.1) ∧ w5.cell? ⟨b3, o3 + j * 2 + 1, none⟩ = some (.int .u64 p.2)) from ⟨(hb7.block _ (Array.getElem?_eq_some_iff.1 HS4.out.1).1).trans HS4.out.1, ((bcell hb7).1 _ _ HLT4.out).trans HS4.out.2.1, ((bcell hb7).1 _ _ HLT4.out).trans HS4.out.2.2⟩)
                have HLT5 := Lib.hid (Nat.lt_of_lt_of_le HLT4.out hb7.size)
                have HB5 := Lib.hid (bthen HB4.out hb7)
                have HO5 := Lib.hid (HO4.out.below hb7)
                clear hb5 hb6 hb7
                try go_simp
                refine hK.out _ _ ?hS21 (fun hHeld2 => ?_)
                case hS21 => first | with_reducible exact HS4.out | exact HS4.out | with_reducible exact HS5.out | with_reducible exact HS6.out | exact ⟨(Below.heap_alloc _ _ _ (Array.getElem?_eq_some_iff.1 HS6.out.1).1).trans HS6.out.1, (bcell (balloc (Below.refl _ _) _)).1 _ _ HLT6.out ▸ HS6.out.2.1, (bcell (balloc (Below.refl _ _) _)).1 _ _ HLT6.out ▸ HS6.out.2.2⟩ | with_reducible exact HS7.out
                clear hK K hHeld
                have hHeld := hHeld2
                clear hHeld2
                try simp only [Act.put, List.getElem_toArray, List.getElem_cons_succ, List.getElem_cons_zero, List.setIfInBounds_toArray, List.set_cons_zero, List.set_cons_succ]
                refine wpAnyH_take (i := 6) (v := ?v22) rfl (by kernel_rfl) (by kernel_rfl) (by kernel_rfl) (fun _ _ _ h => h) (Or.inl ⟨by rfl, ?hy22⟩) (by assumption) ?_
                case hy22 =>
                  intro w' hSw
                  (try dsimp only at hSw)
                  have q9 : ¬ 9223372036854775807 < s.size + 1 := by omega
                  go_simp
                  try (with_reducible rfl)
                try simp only [Act.put, List.getElem_toArray, List.getElem_cons_succ, List.getElem_cons_zero, List.setIfInBounds_toArray, List.set_cons_zero, List.set_cons_succ]
                refine wpAnyH_ready (rs := [8]) (by kernel_rfl) (by simp) ?_
                refine AllReadyH.cons rfl (fun K hK => ?_) AllReadyH.nil
                go_simp
                go_at_call 23
                with_reducible refine (C3.out w5).mono ?_
                rintro e w6 ⟨rfl, hb6⟩
                have HS6 := Lib.hid (show w6.heap[wr.heap.size]? = some (.cells #[.int .i64 a.tick, .int .i64 a.load, .int .i64 a.want, .int .i64 a.repl, .int .i64 a.why] 35 (0, 0)) ∧ (w6.cell? ⟨b3, o3 + j * 2, none⟩ = some (.int .u64 p.1) ∧ w6.cell? ⟨b3, o3 + j * 2 + 1, none⟩ = some (.int .u64 p.2)) from ⟨(hb6.block _ (Array.getElem?_eq_some_iff.1 HS5.out.1).1).trans HS5.out.1, ((bcell hb6).1 _ _ HLT5.out).trans HS5.out.2.1, ((bcell hb6).1 _ _ HLT5.out).trans HS5.out.2.2⟩)
                have HLT6 := Lib.hid (Nat.lt_of_lt_of_le HLT5.out hb6.size)
                have HB6 := Lib.hid (bthen HB5.out hb6)
                have HO6 := Lib.hid (HO5.out.below hb6)
                clear hb6
                try go_simp
                refine hK.out _ _ ?hS23 (fun hHeld2 => ?_)
                case hS23 => first | with_reducible exact HS4.out | exact HS4.out | with_reducible exact HS5.out | with_reducible exact HS6.out | exact ⟨(Below.heap_alloc _ _ _ (Array.getElem?_eq_some_iff.1 HS6.out.1).1).trans HS6.out.1, (bcell (balloc (Below.refl _ _) _)).1 _ _ HLT6.out ▸ HS6.out.2.1, (bcell (balloc (Below.refl _ _) _)).1 _ _ HLT6.out ▸ HS6.out.2.2⟩ | with_reducible exact HS7.out
                clear hK K hHeld
                have hHeld := hHeld2
                clear hHeld2
                try simp only [Act.put, List.getElem_toArray, List.getElem_cons_succ, List.getElem_cons_zero, List.setIfInBounds_toArray, List.set_cons_zero, List.set_cons_succ]
                refine wpAnyH_take (i := 9) (v := ?v24) rfl (by kernel_rfl) (by kernel_rfl) (by kernel_rfl) (fun _ _ _ h => h) (Or.inl ⟨by rfl, ?hy24⟩) (by assumption) ?_
                case hy24 =>
                  intro w' hSw
                  (try dsimp only at hSw)
                  have q9 : ¬ 9223372036854775807 < s.size + 1 + t.size := by omega
                  go_simp
                  try (with_reducible rfl)
                try simp only [Act.put, List.getElem_toArray, List.getElem_cons_succ, List.getElem_cons_zero, List.setIfInBounds_toArray, List.set_cons_zero, List.set_cons_succ]
                refine wpAnyH_ready (rs := [10]) (by kernel_rfl) (by simp) ?_
                refine AllReadyH.cons rfl (fun K hK => ?_) AllReadyH.nil
                go_simp
                skip
                try go_simp
                refine hK.out _ _ ?hS25 (fun hHeld2 => ?_)
                case hS25 => first | with_reducible exact HS4.out | exact HS4.out | with_reducible exact HS5.out | with_reducible exact HS6.out | exact ⟨(Below.heap_alloc _ _ _ (Array.getElem?_eq_some_iff.1 HS6.out.1).1).trans HS6.out.1, (bcell (balloc (Below.refl _ _) _)).1 _ _ HLT6.out ▸ HS6.out.2.1, (bcell (balloc (Below.refl _ _) _)).1 _ _ HLT6.out ▸ HS6.out.2.2⟩ | with_reducible exact HS7.out
                clear hK K hHeld
                have hHeld := hHeld2
                clear hHeld2
                try simp only [Act.put, List.getElem_toArray, List.getElem_cons_succ, List.getElem_cons_zero, List.setIfInBounds_toArray, List.set_cons_zero, List.set_cons_succ]
                refine wpAnyH_ready (rs := [11]) (by kernel_rfl) (by simp) ?_
                refine AllReadyH.cons rfl (fun K hK => ?_) AllReadyH.nil
                refine step_appendL eStr (by rfl) (.tmp 67) (.tmp 77) (by rfl) w3.heap.size ls [s ++ ⟨#[32]⟩ ++ t] (.slice B7 ls.length e7) _ (by rfl) (by rfl) (HO6.out.below (balloc (Below.refl _ _) _)) ((OwnL.lits (f := strC) (e := 9) (n := 1) w3.heap.size w6 [s ++ ⟨#[32]⟩ ++ t] _ w6.heap.size 1 rfl HB6.out.size rfl (by decide) rfl rfl).row eStr) (by have := HLS.out; simp; omega) (by have := HB6.out.size; simp; omega) ?_
                intro out7 A7 c7 w7 hout7 hown7 hg7 hblk7
                have hb7 : Below w3.heap.size w3 w7 := (balloc HB6.out _).trans (grown_own hg7 HO6.out (by have := HB6.out.size; simp; omega))
                have hw6 := (Array.getElem?_eq_some_iff.1 HS6.out.1).1
                have hx7 := (hg7.block wr.heap.size (by simp; omega) (fun e => by have := (HOr.out.lt e.symm).2; omega)).trans ((Below.heap_alloc _ _ _ hw6).trans HS6.out.1)
                have hr7 := hg7.block b3 (by have := HLT6.out; simp; omega) (fun e => by have := (HOr.out.lt e.symm).1; have := HB3L.out; omega)
                have hc7 : ∀ o, w7.cell? ⟨b3, o, none⟩ = w6.cell? ⟨b3, o, none⟩ := fun o => (World.cell?_of_block hr7).trans ((bcell (balloc (Below.refl _ _) _)).1 _ _ HLT6.out)
                have HS7 := Lib.hid (show w7.heap[wr.heap.size]? = some (.cells #[.int .i64 a.tick, .int .i64 a.load, .int .i64 a.want, .int .i64 a.repl, .int .i64 a.why] 35 (0, 0)) ∧ (w7.cell? ⟨b3, o3 + j * 2, none⟩ = some (.int .u64 p.1) ∧ w7.cell? ⟨b3, o3 + j * 2 + 1, none⟩ = some (.int .u64 p.2)) from ⟨hx7, (hc7 _).trans HS6.out.2.1, (hc7 _).trans HS6.out.2.2⟩)
                clear hr7 hc7
                have HO7 := Lib.hid (show OwnL strC 9 1 w3.heap.size w7 (.slice A7 out7.length c7) out7 from hown7)
                have HT7 := Lib.hid (show out7 = ls ++ [s ++ ⟨#[32]⟩ ++ t] from hout7)
                have HB7 := Lib.hid hb7
                clear hown7 hout7 hg7 hblk7 hb7 hx7 hw6
                refine hK.out _ _ ?hS26 (fun hHeld2 => ?_)
                case hS26 => first | with_reducible exact HS4.out | exact HS4.out | with_reducible exact HS5.out | with_reducible exact HS6.out | exact ⟨(Below.heap_alloc _ _ _ (Array.getElem?_eq_some_iff.1 HS6.out.1).1).trans HS6.out.1, (bcell (balloc (Below.refl _ _) _)).1 _ _ HLT6.out ▸ HS6.out.2.1, (bcell (balloc (Below.refl _ _) _)).1 _ _ HLT6.out ▸ HS6.out.2.2⟩ | with_reducible exact HS7.out
                clear hK K hHeld
                have hHeld := hHeld2
                clear hHeld2
                try simp only [Act.put, List.getElem_toArray, List.getElem_cons_succ, List.getElem_cons_zero, List.setIfInBounds_toArray, List.set_cons_zero, List.set_cons_succ]
                refine wpAnyH_take (i := 12) (v := ?v27) rfl (by kernel_rfl) (by kernel_rfl) (by kernel_rfl) (fun _ _ _ h => h) (Or.inl ⟨by rfl, ?hy27⟩) (by assumption) ?_
                case hy27 =>
                  intro w' hSw
                  (try dsimp only at hSw)
                  go_simp
                  try (with_reducible rfl)
                try simp only [Act.put, List.getElem_toArray, List.getElem_cons_succ, List.getElem_cons_zero, List.setIfInBounds_toArray, List.set_cons_zero, List.set_cons_succ]
                refine wpAnyH_done (by kernel_rfl) ?_ _
                go_wp2_with fail
                go_roundg (rl.length - (j + 1))
                case measure => omega
                case rel => exact ⟨j + 1, hjl, Nat.le_refl _, by go_num, by rw [HLj.out, HLNj.out, ← HT7.out]; exact HO7.out, HB7.out⟩
          · obtain rfl : j = rl.length := by omega
            rw [List.take_length, ← HLN.out] at hown
            have HRW := Lib.hid (hown.row eStr)
            clear hown
            go_wp2_with fail
            go_ret
            exact ⟨_, rfl, HRW.out, bthen HB3.out HBr.out⟩
end

end Go.Proofs.YtmndhffimlkjgaaDoor
