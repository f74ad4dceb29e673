/- report.Last: the last decisions, out of a map. -/
import Derived.Test.YtmndhffimlkjgaaDoorJ32
import Derived.Test.YtmndhffimlkjgaaDoorJ34
import Derived.Test.YtmndhffimlkjgaaDoorJ27
namespace Go.Proofs.YtmndhffimlkjgaaDoor

section
set_option linter.unusedSimpArgs false
set_option linter.unusedVariables false
open Go.RowKit Go.Lib
open Go.ChangeMaps (setBlock)

theorem eKy : EltOf 53 40 2 16 (.agg #[.int .u64 0, .int .u64 0]) keyC :=
  ⟨Tryd.underlying53, by kernel_rfl, rfl, by decide, by decide, fun _ => rfl, fun x u hu => by
    simp only [keyC, List.mem_cons, List.not_mem_nil, or_false] at hu
    rcases hu with rfl | rfl <;> rfl⟩
theorem below_setBlock {B d : Nat} {w a : World} (h : Below B w a) (hd : B ≤ d) (o : Obj) : Below B w (setBlock a d o) :=
  ⟨h.os, h.tape, h.output, by rw [setBlock_size]; exact h.size, fun k hk => (setBlock_other (by omega)).trans (h.block k hk)⟩
theorem own_setBlock {α : Type} {f : α → List Value} {e : TypeId} {n M : Nat} {w : World} {v : Value} {l : List α} {o : Obj} (h : OwnL f e n (M + 1) w v l) : OwnL f e n (M + 1) (setBlock w M o) v l :=
  h.kept fun r hr => setBlock_other (by have := (h.lt hr).1; omega)
theorem at_of {cs : List Value} {i : Nat} {v : Value} (h : cs[i]? = some v) : ∀ k, cs[i]'k = v := fun k => Option.some.inj ((List.getElem?_eq_getElem k).symm.trans h)
theorem adv_getD (o : Option AdvD) : (o.map advV).getD (.agg #[.int .i64 0, .int .i64 0, .int .i64 0, .int .i64 0, .int .i64 0]) = advV (o.getD adv0) := by cases o <;> rfl
theorem look_adv {w : World} {M : Nat} {m : List (KO × AdvD)} (h : MapIn koV advV w M m) (p : Ky) (hp : p.ok) (a : AdvD) (ha : (findM m (koOf p)).getD adv0 = a) :
    (Instr.lookup 65 (.map (some M)) (.agg #[.int .u64 p.1, .int .u64 p.2]) false).run Tryd.prog w = .ok (.agg #[.int .i64 a.tick, .int .i64 a.load, .int .i64 a.want, .int .i64 a.repl, .int .i64 a.why]) w := by
  have := MapIn.look (V := advV) h keysBy Tryd.underlying65 (Tryd.zeroValue35 w) false (koOf p)
  simp only [Bool.false_eq_true, if_false] at this
  rw [adv_getD, ha] at this
  have e : koV (koOf p) = .agg #[.int .u64 p.1, .int .u64 p.2] := by unfold koV; rw [koOf_ok hp]
  rw [e] at this
  exact this
theorem notedK_snoc6 {es : List EvtD} {k : Nat} (h : k < es.length) (hk : es[k].kind = 6) : notedL (es.take (k + 1)) = notedL (es.take k) ++ [(koOf (es[k].hi, es[k].lo), advOf es[k])] := by
  rw [List.take_succ_eq_append_getElem h, notedL_snoc, if_pos hk]
theorem notedK_snoc0 {es : List EvtD} {k : Nat} (h : k < es.length) (hk : ¬ es[k].kind = 6) : notedL (es.take (k + 1)) = notedL (es.take k) := by
  rw [List.take_succ_eq_append_getElem h, notedL_snoc, if_neg hk, List.append_nil]
theorem notedK_len (es : List EvtD) (k n : Nat) (h : es.length ≤ n) : (notedK (es.take k)).length ≤ n := by
  unfold notedK
  rw [List.length_map]
  have := notedL_len (es.take k)
  rw [List.length_take] at this
  omega
theorem notedK_ok (es : List EvtD) : ∀ p ∈ risL (notedK es), p.ok := by
  intro p hp
  rw [mem_risL] at hp
  obtain ⟨q, _, rfl⟩ := List.mem_map.1 hp
  exact q.1.2
theorem advT_size {a : AdvD} (h : a.ok) : (advT a).size ≤ 1000 := by
  obtain ⟨h1, h2, h3, h4, h5⟩ := h
  have := advE_size (e := ⟨0, 0, 0, ⟨0, ⟨#[]⟩, 0, 0, 0, ⟨0, 0, 0, 0, 0, 0⟩⟩, 0, 0, 0, 0, 0, 0, 0, 0, 0, 0, 0, 0, 0, 0, 0, a.tick, a.load, a.want, a.repl, a.why⟩) ⟨h1, h2, h3, h4, h5⟩
  exact this
def LastSays (w : World) (l : List ByteArray) (e : Ending) (w' : World) : Prop := ∃ u, e = .returned u ∧ RowIn 1 strC w' u l ∧ Below w.heap.size w w'
theorem last_end {es : List EvtD} {j : Nat} (h : j < (risL (notedK es)).length) : ((risL (notedK es)).take (j + 1)).map (lastLn es) = ((risL (notedK es)).take j).map (lastLn es) ++ [lastLn es (risL (notedK es))[j]] := by
  rw [List.take_succ_eq_append_getElem h, List.map_append]
  rfl

set_option maxRecDepth 100000 in
set_option maxHeartbeats 8000000 in
theorem plast_any (v : Value) (es : List EvtD) (w : World) (he : RowIn 34 evC w v es) (heok : ∀ e ∈ es, e.ok) (hel : es.length ≤ 40) (ht : Tab w) :
    Calls Tryd.prog 10 #[v] w (LastSays w (lastL es)) := by
  obtain ⟨A, c, rfl, hAc, h0⟩ := id he
  clear hAc h0
  have HE := Lib.hid he
  have HEOK := Lib.hid heok
  have HEL := Lib.hid hel
  have HT := Lib.hid ht
  have hmm := @run_makeMap Tryd.prog
  have q0 : (es.length : Int) ≤ 40 := by omega
  clear he heok hel ht
  go_enter Tryd.func10, Tryd.ntmps10
  go_wp2_with fail
  go_loopg [4, 13] es.length (fun g s4 s13 wr => ∃ k : Nat, k ≤ es.length ∧ es.length - k ≤ g ∧ s13 = .int .i64 k ∧ MapIn koV advV wr w.heap.size (foldM (notedL (es.take k))) ∧ OwnL keyC 40 2 (w.heap.size + 1) wr s4 (notedK (es.take k)) ∧ Below w.heap.size w wr)
  case atStart => exact ⟨0, Nat.zero_le _, Nat.le_refl _, rfl, MapIn.made w, OwnL.nil _ _, balloc (Below.refl _ _) _⟩
  case round =>
    obtain ⟨k, hk, hg, rfl, hmap, hown, hbw⟩ := hrel
    rename World => wr
    clear hmm
    have HBr := Lib.hid hbw
    have HM := Lib.hid hmap
    have hwz : w.heap.size < wr.heap.size := hmap.lt
    have HWZ := Lib.hid hwz
    clear hbw hmap
    by_cases hlt : k < es.length
    · obtain ⟨b1, o1, rfl, hb1, hc⟩ := (HE.out.below HBr.out).at_ hlt
      obtain ⟨B1, e1, rfl⟩ := hown.form
      have hik := HEOK.out _ (List.getElem_mem hlt)
      have hcl : (evC es[k]).length = 34 := rfl
      have hone : ∀ v ∈ evC es[k], v.oneCell' = true := evC_one _
      obtain ⟨cs, hcs⟩ : ∃ cs, cs = evC es[k] := ⟨_, rfl⟩
      rw [← hcs] at hc hcl hone
      have hst := store_new (P := Tryd.prog) wr 44 cs 34 hcl (by kernel_rfl) hone
      have HC := Lib.hid hc
      have HCL := Lib.hid hcl
      clear hc hcl hone
      by_cases hkd : es[k].kind = 6
      · as_aux_lemma =>
            have HT1 := Lib.hid (notedK_snoc6 hlt hkd)
            have htl := notedK_len es k 40 HEL.out
            have hxk : koOf (es[k].hi, es[k].lo) = ⟨(es[k].hi, es[k].lo), hik.hi, hik.lo⟩ := Subtype.ext (koOf_ok ⟨hik.hi, hik.lo⟩)
            obtain ⟨o5, hs5, hm5⟩ := (HM.out.below (balloc (Below.refl _ _) (.cells cs.toArray 44))).store (V := advV) keysBy Tryd.underlying65 (koOf (es[k].hi, es[k].lo)) (advOf es[k])
            have hs6 : (Instr.mapUpdate 65 (.map (some w.heap.size)) (.agg #[.int .u64 (es[k].hi : Nat), .int .u64 (es[k].lo : Nat)]) (.agg #[.int .i64 es[k].ntick, .int .i64 es[k].nload, .int .i64 es[k].nwant, .int .i64 es[k].nrepl, .int .i64 es[k].nwhy])).run Tryd.prog (wr.alloc (.cells cs.toArray 44)) = .ok () (setBlock (wr.alloc (.cells cs.toArray 44)) w.heap.size o5) := by
              rw [hxk] at hs5
              exact hs5
            have hsb : ∀ j, (setBlock (wr.alloc (.cells cs.toArray 44)) w.heap.size o5).cell? ⟨wr.heap.size, j, none⟩ = (wr.alloc (.cells cs.toArray 44)).cell? ⟨wr.heap.size, j, none⟩ := fun j => setBlock_cell (by omega)
            have g0 : cs[0]? = some (.int .i64 6) := by rw [hcs]; show some (Value.int .i64 es[k].kind) = _; rw [hkd]
            have g27 : cs[27]? = some (.int .u64 (es[k].hi : Nat)) := by rw [hcs]; rfl
            have g28 : cs[28]? = some (.int .u64 (es[k].lo : Nat)) := by rw [hcs]; rfl
            have g29 : cs[29]? = some (.int .i64 es[k].ntick) := by rw [hcs]; rfl
            have g30 : cs[30]? = some (.int .i64 es[k].nload) := by rw [hcs]; rfl
            have g31 : cs[31]? = some (.int .i64 es[k].nwant) := by rw [hcs]; rfl
            have g32 : cs[32]? = some (.int .i64 es[k].nrepl) := by rw [hcs]; rfl
            have g33 : cs[33]? = some (.int .i64 es[k].nwhy) := by rw [hcs]; rfl
            have k0 := at_of g0
            have k27 := at_of g27
            have k28 := at_of g28
            have k29 := at_of g29
            have k30 := at_of g30
            have k31 := at_of g31
            have k32 := at_of g32
            have k33 := at_of g33

            have HOW := Lib.hid (own_setBlock (o := o5) (hown.below (balloc (Below.refl _ _) (.cells cs.toArray 44))))
            have HXK := Lib.hid (show (koOf (es[k].hi, es[k].lo)).1 = (es[k].hi, es[k].lo) from koOf_ok ⟨hik.hi, hik.lo⟩)
            have HM5 := Lib.hid hm5
            have HYL := Lib.hid htl
            have HB5 := Lib.hid (below_setBlock (d := w.heap.size) (balloc HBr.out (.cells cs.toArray 44)) (Nat.le_refl _) o5)
            have HS5 := Lib.hid (show wr.heap.size + 1 = (setBlock (wr.alloc (.cells cs.toArray 44)) w.heap.size o5).heap.size by rw [setBlock_size]; simp)
            clear hs5 hm5 hcs hkd hown hik htl hxk
            go_wp2_with (first
              | (refine wpList_load_list rfl 44 (.tmp 15) rfl b1 (o1 + k * 34) cs HC.out (by rfl) _ Tryd.underlying44 (by rfl) (by rw [HCL.out]; kernel_rfl) ?_)
              | (at_builtin
                 refine wpList_appendL eKy (by rfl) (by rfl) (w.heap.size + 1) (notedK (es.take k)) [(es[k].hi, es[k].lo)] (.slice B1 (notedK (es.take k)).length e1) _ (by rfl) (by rfl) (HOW.out.below (balloc (Below.refl _ _) _)) (RowIn.lit (n := 2) (f := keyC) (setBlock (wr.alloc (.cells cs.toArray 44)) w.heap.size o5) (es[k].hi, es[k].lo) _ _ _ rfl rfl) (by have := HYL.out; simp; omega) (by have := HWZ.out; have := HS5.out; simp; omega) ?_
                 intro out A2 c2 w2 hout hown hg hor
                 have HOU := Lib.hid (show out = notedK (es.take k) ++ [(es[k].hi, es[k].lo)] from hout)
                 have hb7 : Below (w.heap.size + 1) (setBlock (wr.alloc (.cells cs.toArray 44)) w.heap.size o5) w2 := ((Below.refl _ _).alloc (by have := HWZ.out; have := HS5.out; omega) _).trans (grown_own hg HOW.out (by have := HWZ.out; have := HS5.out; simp; omega))
                 have HO := Lib.hid hown
                 have HB7 := Lib.hid hb7
                 clear hown hout hg hor hb7))
            go_roundg (es.length - (k + 1))
            case measure => omega
            case rel => exact ⟨k + 1, hlt, Nat.le_refl _, by go_num, by rw [HT1.out, foldM_snoc]; exact HM5.out.block (HB7.out.block _ (Nat.lt_succ_self _)), by rw [show notedK (es.take (k + 1)) = out by rw [HOU.out]; unfold notedK; rw [HT1.out, List.map_append]; simp only [List.map_cons, List.map_nil, HXK.out]]; exact HO.out, HB5.out.trans (HB7.out.mono (Nat.le_succ _))⟩
      · as_aux_lemma =>
            have HT1 := Lib.hid (notedK_snoc0 hlt hkd)
            have g0 : cs[0]? = some (.int .i64 es[k].kind) := by rw [hcs]; rfl
            have k0 := at_of g0
            generalize es[k].kind = kd at g0 k0 hkd
            have qk : (kd == 6) = false := by simpa using hkd
            have HOW := Lib.hid hown
            clear hcs hkd hown hik
            go_wp2_with (first
              | (refine wpList_load_list rfl 44 (.tmp 15) rfl b1 (o1 + k * 34) cs HC.out (by rfl) _ Tryd.underlying44 (by rfl) (by rw [HCL.out]; kernel_rfl) ?_))
            go_roundg (es.length - (k + 1))
            case measure => omega
            case rel => exact ⟨k + 1, hlt, Nat.le_refl _, by go_num, by rw [HT1.out]; exact HM.out.below (balloc (Below.refl _ _) _), by unfold notedK; rw [HT1.out]; exact HOW.out.below (balloc (Below.refl _ _) _), balloc HBr.out _⟩
    · obtain rfl : k = es.length := by omega
      as_aux_lemma =>
        rw [List.take_length] at HM hown
        obtain ⟨B1, e1, rfl⟩ := hown.form
        have hki : KeysIn wr (.slice B1 (notedK es).length e1) (notedK es) := KeysIn.own (e := 40) hown
        have htl : (notedK es).length ≤ 40 := by have := notedK_len es es.length 40 HEL.out; rwa [List.take_length] at this
        have CR := Lib.hid (rising_any _ _ wr hki (by omega))
        have hrl : (risL (notedK es)).length ≤ 40 := Nat.le_trans (len_risL _) htl
        have hrok := notedK_ok es
        have HLE := Lib.hid (fun j => @last_end es j)
        have HLN := Lib.hid (show lastL es = (risL (notedK es)).map (lastLn es) from rfl)
        have hfm : ∀ p, findM (foldM (notedL es)) (koOf p) = lastA (notedL es) (koOf p) := fun p => foldM_find _ _
        generalize hm : foldM (notedL es) = m at HM hfm
        have HFM := Lib.hid hfm
        have HLO := Lib.hid (notedL_ok es HEOK.out)
        generalize risL (notedK es) = rl at CR hrl hrok HLE HLN
        have HRL := Lib.hid hrl
        have HROK := Lib.hid hrok
        have q1 : (rl.length : Int) ≤ 40 := by omega
        clear hown hki htl hrl hrok hfm hm
        go_wp2_with (go_at_call 24
                     refine CR.out.mono ?_
                     rintro e w3 ⟨u, rfl, hki, hb3⟩
                     obtain ⟨A3, c3, rfl, _⟩ := id hki
                     have HKI := Lib.hid hki
                     have HM3 := Lib.hid (HM.out.below hb3)
                     have HB3 := Lib.hid (bthen HBr.out hb3)
                     have HMW := Lib.hid (show w.heap.size < w3.heap.size from Nat.lt_of_lt_of_le HWZ.out hb3.size)
                     clear hki hb3)
        go_loopg [7, 34] rl.length (fun g s7 s34 wr => ∃ j : Nat, j ≤ rl.length ∧ rl.length - j ≤ g ∧ s34 = .int .i64 j ∧ OwnL strC 9 1 w3.heap.size wr s7 ((rl.take j).map (lastLn es)) ∧ Below w3.heap.size w3 wr)
        case atStart => exact ⟨0, Nat.zero_le _, Nat.le_refl _, rfl, OwnL.nil _ _, Below.refl _ _⟩
        case round =>
          obtain ⟨j, hj, hgj, rfl, hown, hbw⟩ := hrel
          have HBo := HBr
          clear HBr HM
          rename World => wo
          clear HBo
          rename World => wr
          have HBr := Lib.hid hbw
          have HMr := Lib.hid (HM3.out.below hbw)
          clear hbw
          by_cases hjl : j < rl.length
          · obtain ⟨b3, o3, rfl, hb3, c1, c2⟩ := (HKI.out.below HBr.out).at_ hjl
            obtain ⟨B7, e7, rfl⟩ := hown.form
            have HLj := Lib.hid (HLE.out j hjl)
            have hpok := HROK.out _ (List.getElem_mem hjl)
            have hls : ((rl.take j).map (lastLn es)).length ≤ 40 := by rw [List.length_map, List.length_take]; have := HRL.out; omega
            obtain ⟨a, ha⟩ : ∃ a, a = (lastA (notedL es) (koOf rl[j])).getD adv0 := ⟨_, rfl⟩
            have haok : a.ok := by rw [ha]; exact lastA_ok HLO.out _
            have hln : lastLn es rl[j] = nm rl[j] ++ ⟨#[32]⟩ ++ advT a := by unfold lastLn; rw [ha]
            have hlk : (findM m (koOf rl[j])).getD adv0 = a := by rw [HFM.out, ha]
            have HLNj := Lib.hid hln
            generalize (rl.take j).map (lastLn es) = ls at hown hls HLj
            generalize lastLn es rl[j] = lnj at HLj HLNj
            clear hln ha
            generalize rl[j] = p at c1 c2 hpok hlk HLNj
            have HLK := Lib.hid (fun U (hU : MapIn koV advV U w.heap.size m) => look_adv hU p hpok a hlk)
            have C2 := Lib.hid (show ∀ W, Calls Tryd.prog 16 #[.agg #[.int .u64 p.1, .int .u64 p.2]] W fun x w' => x = .returned (.string (nm p)) ∧ Below W.heap.size W w' from fun W => repId_any p.1 p.2 W hpok.1 hpok.2)
            have C3 := Lib.hid (show ∀ W, Below w.heap.size w W → Calls Tryd.prog 17 #[.agg #[.int .i64 a.tick, .int .i64 a.load, .int .i64 a.want, .int .i64 a.repl, .int .i64 a.why]] W fun x w' => x = .returned (.string (advT a)) ∧ Below W.heap.size W w' from fun W hW => adv_any _ _ _ _ _ W (HT.out.below hW) haok.1 haok.2.1 haok.2.2.1 haok.2.2.2.1 haok.2.2.2.2)
            have hzs : (nm p).size ≤ 1000 := nameS_1000 _ _
            have hzt := advT_size haok
            generalize nm p = s at C2 hzs HLNj
            generalize advT a = t at C3 hzt HLNj
            have HOr := Lib.hid hown
            have HLS := Lib.hid hls
            have HMr2 := HMr
            clear hown hls hpok hlk haok
            go_upto_region 14 with fail
            refine name_world ?_
            intro W4 hW4
            have hb4 : Below wr.heap.size wr W4 := by rw [hW4]; exact balloc (Below.refl _ _) _
            have HS4 := Lib.hid (show W4.heap[wr.heap.size]? = some (.cells #[.int .u64 p.1, .int .u64 p.2] 40 (0, 0)) ∧ MapIn koV advV W4 w.heap.size m from ⟨by rw [hW4]; exact heap_alloc_new _ _, HMr.out.below hb4⟩)
            have HB4 := Lib.hid (bthen HBr.out hb4)
            have HO4 := Lib.hid (HOr.out.below hb4)
            clear hW4 hb4 c1 c2
            refine wp_region_held_drew (S := (fun U : World => U.heap[wr.heap.size]? = some (.cells #[.int .u64 p.1, .int .u64 p.2] 40 (0, 0)) ∧ MapIn koV advV U w.heap.size m)) (by kernel_rfl) ?hS1 (fun hHeld => ?_)
            case hS1 => first | with_reducible exact HS4.out | exact HS4.out | with_reducible exact HS5.out | with_reducible exact HS6.out | exact ⟨(Below.heap_alloc _ _ _ (Array.getElem?_eq_some_iff.1 HS6.out.1).1).trans HS6.out.1, HS6.out.2.below (balloc (Below.refl _ _) _)⟩ | with_reducible exact HS7.out
            refine wpAnyH_take (i := 0) (v := ?v2) rfl (by kernel_rfl) (by kernel_rfl) (by kernel_rfl) (fun _ _ _ h => h) (Or.inl ⟨by rfl, ?hy2⟩) (by assumption) ?_
            case hy2 =>
              intro w' hSw
              (try dsimp only at hSw)
              go_simp
              try (with_reducible rfl)
            try simp only [Act.put, List.getElem_toArray, List.getElem_cons_succ, List.getElem_cons_zero, List.setIfInBounds_toArray, List.set_cons_zero, List.set_cons_succ]
            refine wpAnyH_take (i := 1) (v := ?v3) rfl (by kernel_rfl) (by kernel_rfl) (by kernel_rfl) (fun _ _ _ h => h) (Or.inl ⟨by rfl, ?hy3⟩) (by assumption) ?_
            case hy3 =>
              intro w' hSw
              (try dsimp only at hSw)
              have q0 := (box_cells (Below.refl _ _) hSw.1).1
              go_simp
              try (with_reducible rfl)
            try simp only [Act.put, List.getElem_toArray, List.getElem_cons_succ, List.getElem_cons_zero, List.setIfInBounds_toArray, List.set_cons_zero, List.set_cons_succ]
            refine wpAnyH_take (i := 4) (v := ?v4) rfl (by kernel_rfl) (by kernel_rfl) (by kernel_rfl) (fun _ _ _ h => h) (Or.inl ⟨by rfl, ?hy4⟩) (by assumption) ?_
            case hy4 =>
              intro w' hSw
              (try dsimp only at hSw)
              go_simp
              try (with_reducible rfl)
            try simp only [Act.put, List.getElem_toArray, List.getElem_cons_succ, List.getElem_cons_zero, List.setIfInBounds_toArray, List.set_cons_zero, List.set_cons_succ]
            refine wpAnyH_take (i := 5) (v := ?v5) rfl (by kernel_rfl) (by kernel_rfl) (by kernel_rfl) (fun _ _ _ h => h) (Or.inl ⟨by rfl, ?hy5⟩) (by assumption) ?_
            case hy5 =>
              intro w' hSw
              (try dsimp only at hSw)
              have q0 := (box_cells (Below.refl _ _) hSw.1).1
              go_simp
              try (with_reducible rfl)
            try simp only [Act.put, List.getElem_toArray, List.getElem_cons_succ, List.getElem_cons_zero, List.setIfInBounds_toArray, List.set_cons_zero, List.set_cons_succ]
            refine wpAnyH_take (i := 6) (v := ?v6) rfl (by kernel_rfl) (by kernel_rfl) (by kernel_rfl) (fun _ _ _ h => h) (Or.inl ⟨by rfl, ?hy6⟩) (by assumption) ?_
            case hy6 =>
              intro w' hSw
              (try dsimp only at hSw)
              have q1 := HLK.out _ hSw.2
              go_simp
              try (with_reducible rfl)
            try simp only [Act.put, List.getElem_toArray, List.getElem_cons_succ, List.getElem_cons_zero, List.setIfInBounds_toArray, List.set_cons_zero, List.set_cons_succ]
            refine wpAnyH_ready (rs := [2]) (by kernel_rfl) (by simp) ?_
            refine AllReadyH.cons rfl (fun K hK => ?_) AllReadyH.nil
            go_simp
            go_at_call 16
            refine calls_named ?_
            intro W5 hW5
            have hb5 : Below W4.heap.size W4 W5 := by rw [hW5]; first | exact Below.refl _ _ | exact (Below.refl _ _).drew
            clear hW5
            with_reducible refine (C2.out W5).mono ?_
            rintro e w5 ⟨rfl, hb6⟩
            have hb7 := bthen hb5 hb6
            have HS5 := Lib.hid (show w5.heap[wr.heap.size]? = some (.cells #[.int .u64 p.1, .int .u64 p.2] 40 (0, 0)) ∧ MapIn koV advV w5 w.heap.size m from ⟨(hb7.block _ (Array.getElem?_eq_some_iff.1 HS4.out.1).1).trans HS4.out.1, HS4.out.2.below hb7⟩)
            have HB5 := Lib.hid (bthen HB4.out hb7)
            have HO5 := Lib.hid (HO4.out.below hb7)
            clear hb5 hb6 hb7
            try go_simp
            refine hK.out _ _ ?hS7 (fun hHeld2 => ?_)
            case hS7 => first | with_reducible exact HS4.out | exact HS4.out | with_reducible exact HS5.out | with_reducible exact HS6.out | exact ⟨(Below.heap_alloc _ _ _ (Array.getElem?_eq_some_iff.1 HS6.out.1).1).trans HS6.out.1, HS6.out.2.below (balloc (Below.refl _ _) _)⟩ | with_reducible exact HS7.out
            clear hK K hHeld
            have hHeld := hHeld2
            clear hHeld2
            try simp only [Act.put, List.getElem_toArray, List.getElem_cons_succ, List.getElem_cons_zero, List.setIfInBounds_toArray, List.set_cons_zero, List.set_cons_succ]
            refine wpAnyH_take (i := 3) (v := ?v8) rfl (by kernel_rfl) (by kernel_rfl) (by kernel_rfl) (fun _ _ _ h => h) (Or.inl ⟨by rfl, ?hy8⟩) (by assumption) ?_
            case hy8 =>
              intro w' hSw
              (try dsimp only at hSw)
              have q9 : ¬ 9223372036854775807 < s.size + 1 := by omega
              go_simp
              try (with_reducible rfl)
            try simp only [Act.put, List.getElem_toArray, List.getElem_cons_succ, List.getElem_cons_zero, List.setIfInBounds_toArray, List.set_cons_zero, List.set_cons_succ]
            refine wpAnyH_ready (rs := [7]) (by kernel_rfl) (by simp) ?_
            refine AllReadyH.cons rfl (fun K hK => ?_) AllReadyH.nil
            go_simp
            go_at_call 17
            with_reducible refine (C3.out w5 (bthen HB3.out HB5.out)).mono ?_
            rintro e w6 ⟨rfl, hb6⟩
            have HS6 := Lib.hid (show w6.heap[wr.heap.size]? = some (.cells #[.int .u64 p.1, .int .u64 p.2] 40 (0, 0)) ∧ MapIn koV advV w6 w.heap.size m from ⟨(hb6.block _ (Array.getElem?_eq_some_iff.1 HS5.out.1).1).trans HS5.out.1, HS5.out.2.below hb6⟩)
            have HB6 := Lib.hid (bthen HB5.out hb6)
            have HO6 := Lib.hid (HO5.out.below hb6)
            clear hb6
            try go_simp
            refine hK.out _ _ ?hS9 (fun hHeld2 => ?_)
            case hS9 => first | with_reducible exact HS4.out | exact HS4.out | with_reducible exact HS5.out | with_reducible exact HS6.out | exact ⟨(Below.heap_alloc _ _ _ (Array.getElem?_eq_some_iff.1 HS6.out.1).1).trans HS6.out.1, HS6.out.2.below (balloc (Below.refl _ _) _)⟩ | with_reducible exact HS7.out
            clear hK K hHeld
            have hHeld := hHeld2
            clear hHeld2
            try simp only [Act.put, List.getElem_toArray, List.getElem_cons_succ, List.getElem_cons_zero, List.setIfInBounds_toArray, List.set_cons_zero, List.set_cons_succ]
            refine wpAnyH_take (i := 8) (v := ?v10) rfl (by kernel_rfl) (by kernel_rfl) (by kernel_rfl) (fun _ _ _ h => h) (Or.inl ⟨by rfl, ?hy10⟩) (by assumption) ?_
            case hy10 =>
              intro w' hSw
              (try dsimp only at hSw)
              have q9 : ¬ 9223372036854775807 < s.size + 1 + t.size := by omega
              go_simp
              try (with_reducible rfl)
            try simp only [Act.put, List.getElem_toArray, List.getElem_cons_succ, List.getElem_cons_zero, List.setIfInBounds_toArray, List.set_cons_zero, List.set_cons_succ]
            refine wpAnyH_ready (rs := [9]) (by kernel_rfl) (by simp) ?_
            refine AllReadyH.cons rfl (fun K hK => ?_) AllReadyH.nil
            go_simp
            skip
            try go_simp
            refine hK.out _ _ ?hS11 (fun hHeld2 => ?_)
            case hS11 => first | with_reducible exact HS4.out | exact HS4.out | with_reducible exact HS5.out | with_reducible exact HS6.out | exact ⟨(Below.heap_alloc _ _ _ (Array.getElem?_eq_some_iff.1 HS6.out.1).1).trans HS6.out.1, HS6.out.2.below (balloc (Below.refl _ _) _)⟩ | with_reducible exact HS7.out
            clear hK K hHeld
            have hHeld := hHeld2
            clear hHeld2
            try simp only [Act.put, List.getElem_toArray, List.getElem_cons_succ, List.getElem_cons_zero, List.setIfInBounds_toArray, List.set_cons_zero, List.set_cons_succ]
            refine wpAnyH_ready (rs := [10]) (by kernel_rfl) (by simp) ?_
            refine AllReadyH.cons rfl (fun K hK => ?_) AllReadyH.nil
            refine step_appendL eStr (by rfl) (.tmp 38) (.tmp 47) (by rfl) w3.heap.size ls [s ++ ⟨#[32]⟩ ++ t] (.slice B7 ls.length e7) _ (by rfl) (by rfl) (HO6.out.below (balloc (Below.refl _ _) _)) ((OwnL.lits (f := strC) (e := 9) (n := 1) w3.heap.size w6 [s ++ ⟨#[32]⟩ ++ t] _ w6.heap.size 1 rfl HB6.out.size rfl (by decide) rfl rfl).row eStr) (by have := HLS.out; simp; omega) (by have := HB6.out.size; simp; omega) ?_
            intro out7 A7 c7 w7 hout7 hown7 hg7 hblk7
            have hb7 : Below w3.heap.size w3 w7 := (balloc HB6.out _).trans (grown_own hg7 HO6.out (by have := HB6.out.size; simp; omega))
            have hw6 := (Array.getElem?_eq_some_iff.1 HS6.out.1).1
            have hx7 := (hg7.block wr.heap.size (by simp; omega) (fun e => by have := (HOr.out.lt e.symm).2; omega)).trans ((Below.heap_alloc _ _ _ hw6).trans HS6.out.1)
            have hm7 := (hg7.block w.heap.size (by have := HS6.out.2.lt; simp; omega) (fun e => by have := (HOr.out.lt e.symm).1; have := HMW.out; omega)).trans (Below.heap_alloc _ (.cells #[.string (s ++ ⟨#[32]⟩ ++ t)] 9) _ HS6.out.2.lt)
            have HS7 := Lib.hid (show w7.heap[wr.heap.size]? = some (.cells #[.int .u64 p.1, .int .u64 p.2] 40 (0, 0)) ∧ MapIn koV advV w7 w.heap.size m from ⟨hx7, HS6.out.2.block hm7⟩)
            clear hm7
            have HO7 := Lib.hid (show OwnL strC 9 1 w3.heap.size w7 (.slice A7 out7.length c7) out7 from hown7)
            have HT7 := Lib.hid (show out7 = ls ++ [s ++ ⟨#[32]⟩ ++ t] from hout7)
            have HB7 := Lib.hid hb7
            clear hown7 hout7 hg7 hblk7 hb7 hx7 hw6
            refine hK.out _ _ ?hS12 (fun hHeld2 => ?_)
            case hS12 => first | with_reducible exact HS4.out | exact HS4.out | with_reducible exact HS5.out | with_reducible exact HS6.out | exact ⟨(Below.heap_alloc _ _ _ (Array.getElem?_eq_some_iff.1 HS6.out.1).1).trans HS6.out.1, HS6.out.2.below (balloc (Below.refl _ _) _)⟩ | with_reducible exact HS7.out
            clear hK K hHeld
            have hHeld := hHeld2
            clear hHeld2
            try simp only [Act.put, List.getElem_toArray, List.getElem_cons_succ, List.getElem_cons_zero, List.setIfInBounds_toArray, List.set_cons_zero, List.set_cons_succ]
            refine wpAnyH_take (i := 11) (v := ?v13) rfl (by kernel_rfl) (by kernel_rfl) (by kernel_rfl) (fun _ _ _ h => h) (Or.inl ⟨by rfl, ?hy13⟩) (by assumption) ?_
            case hy13 =>
              intro w' hSw
              (try dsimp only at hSw)
              go_simp
              try (with_reducible rfl)
            try simp only [Act.put, List.getElem_toArray, List.getElem_cons_succ, List.getElem_cons_zero, List.setIfInBounds_toArray, List.set_cons_zero, List.set_cons_succ]
            refine wpAnyH_done (by kernel_rfl) ?_ _
            go_wp2_with fail
            go_roundg (rl.length - (j + 1))
            case measure => omega
            case rel => exact ⟨j + 1, hjl, Nat.le_refl _, by go_num, by rw [HLj.out, HLNj.out, ← HT7.out]; exact HO7.out, HB7.out⟩
          · obtain rfl : j = rl.length := by omega
            rw [List.take_length, ← HLN.out] at hown
            have HRW := Lib.hid (hown.row eStr)
            clear hown
            go_wp2_with fail
            go_ret
            exact ⟨_, rfl, HRW.out, bthen HB3.out HBr.out⟩
end

end Go.Proofs.YtmndhffimlkjgaaDoor
