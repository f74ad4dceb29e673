/- Acts on a stripe as they come in. -/
import Derived.Test.YtfnabpmdjfejbaaKeysRead
import Derived.Test.YtfnabpmdjfejbaaMR18
import Derived.Test.YtfnabpmdjfejbaaMTrim
import Derived.Test.YtfnabpmdjfejbaaMStr
namespace Go.Proofs.Ytfnabpmdjfejbaa

section
set_option linter.unusedSimpArgs false
set_option linter.unusedVariables false
open Go.RowKit Go.Lib Go.ChangeShapes Go.WideShapes Go.Joins

theorem cl_sint : Try.prog.cellsOf 3 = 1 := by kernel_rfl
theorem cl_si64 : Try.prog.cellsOf 2 = 1 := by kernel_rfl
theorem cl_ssmp : Try.prog.cellsOf 63 = 2 := by kernel_rfl
theorem cl_spol : Try.prog.cellsOf 65 = 6 := by kernel_rfl
theorem cl_sadv : Try.prog.cellsOf 67 = 5 := by kernel_rfl
theorem cl_sa17 : Try.prog.cellsOf 69 = 14 := by kernel_rfl
theorem cl_sa18 : Try.prog.cellsOf 71 = 16 := by kernel_rfl

section
variable {H : Type} {enc : TypeId × Value → H} {w : World} {base : Nat} {spare : Nat → Bool} {held : Bool}

theorem sfield {fuel : Nat} {t : TypeId} (ht : Try.prog.underlying t = some (.int .i64)) (hc : Try.prog.cellsOf t = 1) {cs : List Value} {xs : List (DataW H × List MemPlace)} {i o : Nat} (hi : i < xs.length) {v : Value} (hv : cs.drop o = v :: cs.drop (o + 1))
    (h : DataW.trod enc Try.prog w base spare held fuel t ((cs.drop o).take (Try.prog.cellsOf t)) = xs[i]?) : ∃ n, v = .int .i64 n := by
  rw [hc, hv, List.take_succ_cons, List.take_zero, List.getElem?_eq_getElem hi] at h
  obtain ⟨n, hn, _, hw⟩ := DataW.trod_int ht h
  simp only [List.cons.injEq, and_true] at hn
  exact ⟨n, hn⟩

set_option maxRecDepth 100000 in
theorem ssmp_reads {fuel : Nat} {cs : List Value} {x : DataW H × List MemPlace} (h : DataW.trod enc Try.prog w base spare held fuel 63 cs = some x) :
    ∃ p : Smp, cs = smpC p := by
  obtain ⟨xs, n, _, _, hl, hx, hf⟩ := DataW.trod_struct Try.underlying63 h
  rw [cl_ssmp] at hl
  replace hx : xs.length = 2 := hx
  match cs, hl with
  | [a0, a1], _ =>
    obtain ⟨n0, rfl⟩ := sfield Try.underlying2 cl_si64 (i := 0) (by omega) (o := 0) rfl (hf 0 _ rfl)
    obtain ⟨n1, rfl⟩ := sfield Try.underlying2 cl_si64 (i := 1) (by omega) (o := 1) rfl (hf 1 _ rfl)
    exact ⟨(n0, n1), rfl⟩
set_option maxRecDepth 100000 in
theorem spol_reads {fuel : Nat} {cs : List Value} {x : DataW H × List MemPlace} (h : DataW.trod enc Try.prog w base spare held fuel 65 cs = some x) :
    ∃ p : Pol, cs = [.int .i64 p.mn, .int .i64 p.mx, .int .i64 p.tg, .int .i64 p.tol, .int .i64 p.win, .int .i64 p.hold] := by
  obtain ⟨xs, n, _, _, hl, hx, hf⟩ := DataW.trod_struct Try.underlying65 h
  rw [cl_spol] at hl
  replace hx : xs.length = 6 := hx
  match cs, hl with
  | [a0, a1, a2, a3, a4, a5], _ =>
    obtain ⟨n0, rfl⟩ := sfield Try.underlying2 cl_si64 (i := 0) (by omega) (o := 0) rfl (hf 0 _ rfl)
    obtain ⟨n1, rfl⟩ := sfield Try.underlying2 cl_si64 (i := 1) (by omega) (o := 1) rfl (hf 1 _ rfl)
    obtain ⟨n2, rfl⟩ := sfield Try.underlying2 cl_si64 (i := 2) (by omega) (o := 2) rfl (hf 2 _ rfl)
    obtain ⟨n3, rfl⟩ := sfield Try.underlying2 cl_si64 (i := 3) (by omega) (o := 3) rfl (hf 3 _ rfl)
    obtain ⟨n4, rfl⟩ := sfield Try.underlying2 cl_si64 (i := 4) (by omega) (o := 4) rfl (hf 4 _ rfl)
    obtain ⟨n5, rfl⟩ := sfield Try.underlying2 cl_si64 (i := 5) (by omega) (o := 5) rfl (hf 5 _ rfl)
    exact ⟨⟨n0, n1, n2, n3, n4, n5⟩, rfl⟩
set_option maxRecDepth 100000 in
theorem sadv_reads {fuel : Nat} {cs : List Value} {x : DataW H × List MemPlace} (h : DataW.trod enc Try.prog w base spare held fuel 67 cs = some x) :
    ∃ p : Adv, cs = advC p := by
  obtain ⟨xs, n, _, _, hl, hx, hf⟩ := DataW.trod_struct Try.underlying67 h
  rw [cl_sadv] at hl
  replace hx : xs.length = 5 := hx
  match cs, hl with
  | [a0, a1, a2, a3, a4], _ =>
    obtain ⟨n0, rfl⟩ := sfield Try.underlying2 cl_si64 (i := 0) (by omega) (o := 0) rfl (hf 0 _ rfl)
    obtain ⟨n1, rfl⟩ := sfield Try.underlying2 cl_si64 (i := 1) (by omega) (o := 1) rfl (hf 1 _ rfl)
    obtain ⟨n2, rfl⟩ := sfield Try.underlying2 cl_si64 (i := 2) (by omega) (o := 2) rfl (hf 2 _ rfl)
    obtain ⟨n3, rfl⟩ := sfield Try.underlying2 cl_si64 (i := 3) (by omega) (o := 3) rfl (hf 3 _ rfl)
    obtain ⟨n4, rfl⟩ := sfield Try.underlying3 cl_sint (i := 4) (by omega) (o := 4) rfl (hf 4 _ rfl)
    exact ⟨⟨n0, n1, n2, n3, n4⟩, rfl⟩
set_option maxRecDepth 100000 in
theorem a17_reads {fuel : Nat} {cs : List Value} {x : DataW H × List MemPlace} (h : DataW.trod enc Try.prog w base spare held fuel 69 cs = some x) :
    ∃ a : Act17, cs = act17C a := by
  obtain ⟨xs, n, _, _, hl, hx, hf⟩ := DataW.trod_struct Try.underlying69 h
  rw [cl_sa17] at hl
  replace hx : xs.length = 4 := hx
  match cs, hl with
  | [a0, a1, a2, a3, a4, a5, a6, a7, a8, a9, a10, a11, a12, a13], _ =>
    obtain ⟨n0, rfl⟩ := sfield Try.underlying3 cl_sint (i := 0) (by omega) (o := 0) rfl (hf 0 _ rfl)
    have h1 := hf 1 _ rfl
    have h2 := hf 2 _ rfl
    have h3 := hf 3 _ rfl
    rw [List.getElem?_eq_getElem (by omega)] at h1 h2 h3
    obtain ⟨s, hs⟩ := ssmp_reads h1
    obtain ⟨p, hp⟩ := spol_reads h2
    obtain ⟨v, hv⟩ := sadv_reads h3
    replace hs : ([a1, a2, a3, a4, a5, a6, a7, a8, a9, a10, a11, a12, a13] : List Value).take (Try.prog.cellsOf 63) = _ := hs
    replace hp : ([a3, a4, a5, a6, a7, a8, a9, a10, a11, a12, a13] : List Value).take (Try.prog.cellsOf 65) = _ := hp
    replace hv : ([a9, a10, a11, a12, a13] : List Value).take (Try.prog.cellsOf 67) = _ := hv
    rw [cl_ssmp] at hs
    rw [cl_spol] at hp
    rw [cl_sadv] at hv
    simp only [smpC, advC, List.take_succ_cons, List.take_zero, List.cons.injEq, and_true] at hs hp hv
    obtain ⟨rfl, rfl⟩ := hs
    obtain ⟨rfl, rfl, rfl, rfl, rfl, rfl⟩ := hp
    obtain ⟨rfl, rfl, rfl, rfl, rfl⟩ := hv
    exact ⟨⟨n0, s, p, v⟩, rfl⟩
set_option maxRecDepth 100000 in
theorem a18_reads {fuel : Nat} {cs : List Value} {x : DataW H × List MemPlace} (h : DataW.trod enc Try.prog w base spare held fuel 71 cs = some x) :
    ∃ (k : Ky) (a : Act17), k.ok ∧ cs = act18C k a := by
  obtain ⟨xs, n, _, _, hl, hx, hf⟩ := DataW.trod_struct Try.underlying71 h
  rw [cl_sa18] at hl
  replace hx : xs.length = 2 := hx
  match cs, hl with
  | [a0, a1, a2, a3, a4, a5, a6, a7, a8, a9, a10, a11, a12, a13, a14, a15], _ =>
    have h0 := hf 0 _ rfl
    have h1 := hf 1 _ rfl
    rw [List.getElem?_eq_getElem (by omega)] at h0 h1
    obtain ⟨k, hk, hs⟩ := key_reads h0
    obtain ⟨a, hp⟩ := a17_reads h1
    replace hs : ([a0, a1, a2, a3, a4, a5, a6, a7, a8, a9, a10, a11, a12, a13, a14, a15] : List Value).take (Try.prog.cellsOf 32) = _ := hs
    replace hp : ([a2, a3, a4, a5, a6, a7, a8, a9, a10, a11, a12, a13, a14, a15] : List Value).take (Try.prog.cellsOf 69) = _ := hp
    rw [cl_key] at hs
    rw [cl_sa17] at hp
    simp only [keyC, act17C, List.take_succ_cons, List.take_zero, List.cons.injEq, and_true] at hs hp
    obtain ⟨rfl, rfl⟩ := hs
    obtain ⟨rfl, rfl, rfl, rfl, rfl, rfl, rfl, rfl, rfl, rfl, rfl, rfl, rfl, rfl⟩ := hp
    exact ⟨k, a, hk, rfl⟩
end
end

section
set_option linter.unusedSimpArgs false
set_option linter.unusedVariables false
open Go.RowKit Go.Lib Go.Sort

set_option maxRecDepth 100000 in
set_option maxHeartbeats 4000000 in
theorem rtrim_nil (c : Cfg) (cut : Int) (w : World) :
    Calls Try.prog 69 #[cfgV c, .slice none 0 0, .int .i64 cut] w fun e w' => e = .returned (.tuple #[.slice none 0 0, .int .i64 0, .int .i64 0]) ∧ Below w.heap.size w w' := by
  unfold cfgV
  go_enter Try.func69, Try.ntmps69
  go_wp2_with fail
  refine wp_loop_rounds 1 ?_
  rw [rounds_succ]
  go_wp2
  exact bodyPost_ret (v := .tuple #[.slice none 0 0, .int .i64 0, .int .i64 0]) (by simp [results, Try.results69, go_sem]) rfl ⟨rfl, balloc (Below.refl _ _) _⟩

def nilE (a : Act17) : Int := if a.kind = 0 then (if serE a.smp.1 a.smp.2 = 0 then 5 else serE a.smp.1 a.smp.2) else if a.kind = 2 then (if polB a.pol = true then 5 else 7) else if a.kind = 3 then 5 else 0
def refE (a : Act17) : Int := if a.kind = 0 then serE a.smp.1 a.smp.2 else if a.kind = 2 then (if polB a.pol = true then 0 else 7) else if a.kind = 3 then 5 else 0

theorem r18_nil (k : Ky) (a : Act17) (w : World) (hk : k.ok) :
    Calls Try.prog 36 #[cfgV cfg1, .slice none 0 0, .agg (act18C k a).toArray] w fun e w' => ∃ A n c x m, e = .returned (.tuple #[.slice A n c, .int .i64 (refE a), .int .i64 x, .int .i64 m]) ∧ Below w.heap.size w w' := by
  have hit : ItemsIn (fun _ => True) w (.slice none 0 0) [] := ⟨RowG.nil, fun x hx => by simp at hx⟩
  by_cases h1 : a.kind = 1
  · refine (r18_trim (fun _ => True) cfg1 (.slice none 0 0) [] [] 0 0 k a w h1 (fun W hb => (rtrim_nil cfg1 a.smp.1 W).mono ?_)).mono ?_
    · rintro e w' ⟨rfl, hb'⟩
      exact ⟨[], none, 0, rfl, ⟨RowG.nil, fun x hx => by simp at hx⟩, rfl, hb'⟩
    · rintro e w' ⟨out, A, c, rfl, _, _, hb⟩
      exact ⟨A, out.length, c, 0, 0, by simp [refE, h1], hb⟩
  by_cases h0 : a.kind < 0 ∨ 3 < a.kind
  · refine (r18_other (fun _ => True) cfg1 (.slice none 0 0) [] k a w hit h0).mono ?_
    rintro e w' ⟨out, A, c, rfl, _, _, hb⟩
    refine ⟨A, out.length, c, 0, 0, ?_, hb⟩
    have : refE a = 0 := by unfold refE; rw [if_neg (by omega), if_neg (by omega), if_neg (by omega)]
    rw [this]
  · have hg : getL [] k = it0 := rfl
    have hh : hasI [] k = false := rfl
    refine (r18_one (fun _ => True) cfg1 1 1 (.slice none 0 0) [] k a w (fun _ _ => trivial) hit ⟨rfl, rfl, by omega, by omega, by omega, by omega⟩ ⟨List.Pairwise.nil, by rw [hg]; exact Nat.zero_le _, by rw [hg]; exact Nat.zero_le _⟩ (by rw [hg]; exact Nat.zero_le _) (by simp) (fun x hx => by simp at hx) hk (by omega) h1 (by omega)).mono ?_
    rintro e w' ⟨out, A, c, rfl, _, _, hb⟩
    refine ⟨A, out.length, c, 0, (one18 cfg1 1 1 [] k a).2.2, ?_, hb⟩
    have : (one18 cfg1 1 1 [] k a).2.1 = refE a := by
      unfold one18 refE do17
      rw [hg, hh]
      have hlo : ¬ (cfg1.lo ≤ ((([] : List It).length : Nat) : Int)) := by simp [cfg1]
      by_cases k0 : a.kind = 0
      · rw [if_pos k0, if_pos k0]
        by_cases hs : serE a.smp.1 a.smp.2 = 0
        · simp [hs, k0, hlo]; simp [cfg1]
        · simp [hs]
      · rw [if_neg k0, if_neg k0, if_neg h1]
        by_cases k2 : a.kind = 2
        · rw [if_pos k2, if_pos k2]
          cases hp : polB a.pol with
          | true => simp [k2, hlo]; simp [cfg1]
          | false => simp
        · have k3 : a.kind = 3 := by omega
          rw [if_neg k2, if_neg k2, if_pos k3, if_pos k3]
          simp [k3]
    rw [this]

set_option maxRecDepth 100000 in
set_option maxHeartbeats 4000000 in
theorem sdo_nil (k : Ky) (a : Act17) (w : World) :
    Calls Try.prog 35 #[.pointer none, .agg (act18C k a).toArray] w fun e w' => e = .returned (.tuple #[.int .i64 (nilE a), .int .i64 0]) ∧ Below w.heap.size w w' := by
  rw [show (act18C k a).toArray = #[.int .u64 k.1, .int .u64 k.2, .int .i64 a.kind, .int .i64 a.smp.1, .int .i64 a.smp.2, .int .i64 a.pol.mn, .int .i64 a.pol.mx, .int .i64 a.pol.tg, .int .i64 a.pol.tol, .int .i64 a.pol.win, .int .i64 a.pol.hold, .int .i64 a.adv.tick, .int .i64 a.adv.load, .int .i64 a.adv.want, .int .i64 a.adv.repl, .int .i64 a.adv.why] from rfl]
  by_cases hk0 : a.kind = 0
  · have he : nilE a = (if serE a.smp.1 a.smp.2 = 0 then 5 else serE a.smp.1 a.smp.2) := by unfold nilE; rw [if_pos hk0]
    rw [he]
    have HC := Lib.hid (fun W => singest_nil k.1 k.2 a.smp.1 a.smp.2 W)
    generalize (if serE a.smp.1 a.smp.2 = 0 then (5 : Int) else serE a.smp.1 a.smp.2) = E at HC ⊢
    clear he
    have q0 : (a.kind == 0) = true := by simp [hk0]
    clear hk0
    go_enter Try.func35, Try.ntmps35
    go_wp2_with (first
      | (go_at_call 64
         refine (HC.out _).mono ?_
         rintro e w2 ⟨rfl, hb2⟩
         have HB := Lib.hid (bthen (balloc (Below.refl _ _) _) hb2)
         clear hb2))
    exact bodyPost_ret (v := .tuple #[.int .i64 E, .int .i64 0]) (by simp [results, Try.results35, go_sem]) rfl ⟨rfl, HB.out⟩
  by_cases hk1 : a.kind = 1
  · have he : nilE a = 0 := by unfold nilE; rw [if_neg hk0, if_neg (by omega), if_neg (by omega)]
    rw [he]
    have HC := Lib.hid (fun W => strim_nil a.smp.1 W)
    clear he
    have q0 : (a.kind == 0) = false := by simp [hk0]
    have q1 : (a.kind == 1) = true := by simp [hk1]
    clear hk0 hk1
    go_enter Try.func35, Try.ntmps35
    go_wp2_with (first
      | (go_at_call 65
         refine (HC.out _).mono ?_
         rintro e w2 ⟨rfl, hb2⟩
         have HB := Lib.hid (bthen (balloc (Below.refl _ _) _) hb2)
         clear hb2))
    exact bodyPost_ret (v := .tuple #[.int .i64 0, .int .i64 0]) (by simp [results, Try.results35, go_sem]) rfl ⟨rfl, HB.out⟩
  by_cases hk2 : a.kind = 2
  · have he : nilE a = (if polB a.pol = true then 5 else 7) := by unfold nilE; rw [if_neg hk0, if_pos hk2]
    rw [he]
    have hc := fun W => sset_nil k.1 k.2 a.pol W
    unfold polV at hc
    have HC := Lib.hid hc
    clear hc
    generalize (if polB a.pol = true then (5 : Int) else 7) = E at HC ⊢
    clear he
    have q0 : (a.kind == 0) = false := by simp [hk0]
    have q1 : (a.kind == 1) = false := by simp [hk1]
    have q2 : (a.kind == 2) = true := by simp [hk2]
    clear hk0 hk1 hk2
    go_enter Try.func35, Try.ntmps35
    go_wp2_with (first
      | (go_at_call 67
         refine (HC.out _).mono ?_
         rintro e w2 ⟨rfl, hb2⟩
         have HB := Lib.hid (bthen (balloc (Below.refl _ _) _) hb2)
         clear hb2))
    exact bodyPost_ret (v := .tuple #[.int .i64 E, .int .i64 0]) (by simp [results, Try.results35, go_sem]) rfl ⟨rfl, HB.out⟩
  by_cases hk3 : a.kind = 3
  · have he : nilE a = 5 := by unfold nilE; rw [if_neg hk0, if_neg hk2, if_pos hk3]
    rw [he]
    have hc := fun W => snote_nil k.1 k.2 a.adv W
    rw [show (advC a.adv).toArray = #[.int .i64 a.adv.tick, .int .i64 a.adv.load, .int .i64 a.adv.want, .int .i64 a.adv.repl, .int .i64 a.adv.why] from rfl] at hc
    have HC := Lib.hid hc
    clear he hc
    have q0 : (a.kind == 0) = false := by simp [hk0]
    have q1 : (a.kind == 1) = false := by simp [hk1]
    have q2 : (a.kind == 2) = false := by simp [hk2]
    have q3 : (a.kind == 3) = true := by simp [hk3]
    clear hk0 hk1 hk2 hk3
    go_enter Try.func35, Try.ntmps35
    go_wp2_with (first
      | (go_at_call 68
         refine (HC.out _).mono ?_
         rintro e w2 ⟨rfl, hb2⟩
         have HB := Lib.hid (bthen (balloc (Below.refl _ _) _) hb2)
         clear hb2))
    exact bodyPost_ret (v := .tuple #[.int .i64 5, .int .i64 0]) (by simp [results, Try.results35, go_sem]) rfl ⟨rfl, HB.out⟩
  · have he : nilE a = 0 := by unfold nilE; rw [if_neg hk0, if_neg hk2, if_neg hk3]
    rw [he]
    have HC := Lib.hid (fun W => sfreeze_nil W)
    clear he
    have q0 : (a.kind == 0) = false := by simp [hk0]
    have q1 : (a.kind == 1) = false := by simp [hk1]
    have q2 : (a.kind == 2) = false := by simp [hk2]
    have q3 : (a.kind == 3) = false := by simp [hk3]
    clear hk0 hk1 hk2 hk3
    go_enter Try.func35, Try.ntmps35
    go_wp2_with (first
      | (go_at_call 40
         refine (HC.out _).mono ?_
         rintro e w2 ⟨rfl, hb2⟩
         have HB := Lib.hid (bthen (balloc (Below.refl _ _) _) hb2)
         clear hb2))
    exact bodyPost_ret (v := .tuple #[.int .i64 0, .int .i64 0]) (by simp [results, Try.results35, go_sem]) rfl ⟨rfl, HB.out⟩

set_option maxRecDepth 100000 in
set_option maxHeartbeats 8000000 in
theorem none_a (k : Ky) (a : Act17) (e1 f : Int) (w : World) (hk : k.ok) (hd : ∀ W, Calls Try.prog 35 #[.pointer none, .agg (act18C k a).toArray] W fun e w' => e = .returned (.tuple #[.int .i64 e1, .int .i64 0]) ∧ Below W.heap.size W w')
    (hr : ∀ W, Calls Try.prog 36 #[cfgV cfg1, .slice none 0 0, .agg (act18C k a).toArray] W fun e w' => ∃ A n c x m, e = .returned (.tuple #[.slice A n c, .int .i64 f, .int .i64 x, .int .i64 m]) ∧ Below W.heap.size W w')
    (hf : f = 0) (h0 : a.kind = 0) (he : e1 = 5) :
    Calls Try.prog 7 #[.agg (act18C k a).toArray] w fun e w' => e = .returned (.bool true) ∧ Below w.heap.size w w' := by
  rw [show (act18C k a).toArray = #[.int .u64 k.1, .int .u64 k.2, .int .i64 a.kind, .int .i64 a.smp.1, .int .i64 a.smp.2, .int .i64 a.pol.mn, .int .i64 a.pol.mx, .int .i64 a.pol.tg, .int .i64 a.pol.tol, .int .i64 a.pol.win, .int .i64 a.pol.hold, .int .i64 a.adv.tick, .int .i64 a.adv.load, .int .i64 a.adv.want, .int .i64 a.adv.repl, .int .i64 a.adv.why] from rfl] at hd hr ⊢
  rw [show cfgV cfg1 = .agg #[.int .i64 1, .int .i64 1, .int .i64 1, .int .i64 1] from rfl] at hr
  have HN : Hid (∀ W, Calls Try.prog 34 #[.agg #[.int .i64 0, .int .i64 0, .int .i64 0, .int .i64 0]] W fun e w' => e = .returned (.pointer none) ∧ Below W.heap.size W w') := Lib.hid (fun W => stripeNew_nil ⟨0, 0, 0, 0⟩ W (by decide) (by simp [Cfg.ok, I64]))
  have HD := Lib.hid hd
  have HR := Lib.hid hr
  clear hd hr
  subst hf he
  have q0 : (a.kind == 0) = true := by simp [h0]
  clear h0
  go_enter Try.func7, Try.ntmps7
  go_wp2_with (first
    | (go_at_call 33
       refine calls_named ?_
       intro W1 hW1
       have hb1 : Below w.heap.size w W1 := by rw [hW1]; exact balloc (Below.refl _ _) _
       have hx1 : W1.heap[w.heap.size]? = some (.cells #[.int .u64 k.1, .int .u64 k.2, .int .i64 a.kind, .int .i64 a.smp.1, .int .i64 a.smp.2, .int .i64 a.pol.mn, .int .i64 a.pol.mx, .int .i64 a.pol.tg, .int .i64 a.pol.tol, .int .i64 a.pol.win, .int .i64 a.pol.hold, .int .i64 a.adv.tick, .int .i64 a.adv.load, .int .i64 a.adv.want, .int .i64 a.adv.repl, .int .i64 a.adv.why] 71 (0, 0)) := by rw [hW1]; exact heap_alloc_new _ _
       clear hW1
       refine (awake_any W1).mono ?_
       rintro e w2 ⟨rfl, hb2⟩
       have HX := Lib.hid ((hb2.block _ (Array.getElem?_eq_some_iff.1 hx1).1).trans hx1)
       have HB := Lib.hid (bthen hb1 hb2)
       clear hb1 hx1 hb2)
    | (go_at_call 34
       refine (HN.out _).mono ?_
       rintro e w3 ⟨rfl, hb3⟩
       obtain ⟨a3, a3f, a3l, a3h⟩ := box_at hb3 HX.out
       have HX3 := Lib.hid a3h
       have HB3 := Lib.hid (bthen HB.out hb3)
       clear hb3 a3h)
    | (go_at_call 35
       refine (HD.out _).mono ?_
       rintro e w4 ⟨rfl, hb4⟩
       obtain ⟨a4, a4f, a4l, a4h⟩ := box_at hb4 HX3.out
       have HX4 := Lib.hid a4h
       have HB4 := Lib.hid (bthen HB3.out hb4)
       clear hb4 a4h)
    | (go_at_call 36
       refine (HR.out _).mono ?_
       rintro e w5 ⟨A5, n5, c5, x5, m5, rfl, hb5⟩
       obtain ⟨a5, a5f, a5l, a5h⟩ := box_at hb5 HX4.out
       have HB5 := Lib.hid (bthen HB4.out hb5)
       clear hb5 a5h)
    | (go_at_call 37
       refine (sget_nil _ _ k.1 k.2 rfl).mono ?_
       rintro e w6 ⟨rfl, hb6⟩
       have HB6 := Lib.hid (bthen HB5.out hb6)
       clear hb6)
    | (go_at_call 38
       refine (slen_nil _).mono ?_
       rintro e w7 ⟨rfl, hb7⟩
       have HB7 := Lib.hid (bthen HB6.out hb7)
       clear hb7)
    | (go_at_call 39
       refine (sver_nil _).mono ?_
       rintro e w8 ⟨rfl, hb8⟩
       have HB8 := Lib.hid (bthen HB7.out hb8)
       clear hb8)
    | (go_at_call 40
       refine (sfreeze_nil _).mono ?_
       rintro e w9 ⟨rfl, hb9⟩
       have HB9 := Lib.hid (bthen HB8.out hb9)
       clear hb9))
  go_ret
  exact ⟨rfl, HB9.out⟩

set_option maxRecDepth 100000 in
set_option maxHeartbeats 8000000 in
theorem none_b (k : Ky) (a : Act17) (e1 f : Int) (w : World) (hk : k.ok) (hd : ∀ W, Calls Try.prog 35 #[.pointer none, .agg (act18C k a).toArray] W fun e w' => e = .returned (.tuple #[.int .i64 e1, .int .i64 0]) ∧ Below W.heap.size W w')
    (hr : ∀ W, Calls Try.prog 36 #[cfgV cfg1, .slice none 0 0, .agg (act18C k a).toArray] W fun e w' => ∃ A n c x m, e = .returned (.tuple #[.slice A n c, .int .i64 f, .int .i64 x, .int .i64 m]) ∧ Below W.heap.size W w')
    (hf : f = 0) (h0 : a.kind ≠ 0) (h2 : a.kind = 2) (he : e1 = 5) :
    Calls Try.prog 7 #[.agg (act18C k a).toArray] w fun e w' => e = .returned (.bool true) ∧ Below w.heap.size w w' := by
  rw [show (act18C k a).toArray = #[.int .u64 k.1, .int .u64 k.2, .int .i64 a.kind, .int .i64 a.smp.1, .int .i64 a.smp.2, .int .i64 a.pol.mn, .int .i64 a.pol.mx, .int .i64 a.pol.tg, .int .i64 a.pol.tol, .int .i64 a.pol.win, .int .i64 a.pol.hold, .int .i64 a.adv.tick, .int .i64 a.adv.load, .int .i64 a.adv.want, .int .i64 a.adv.repl, .int .i64 a.adv.why] from rfl] at hd hr ⊢
  rw [show cfgV cfg1 = .agg #[.int .i64 1, .int .i64 1, .int .i64 1, .int .i64 1] from rfl] at hr
  have HN : Hid (∀ W, Calls Try.prog 34 #[.agg #[.int .i64 0, .int .i64 0, .int .i64 0, .int .i64 0]] W fun e w' => e = .returned (.pointer none) ∧ Below W.heap.size W w') := Lib.hid (fun W => stripeNew_nil ⟨0, 0, 0, 0⟩ W (by decide) (by simp [Cfg.ok, I64]))
  have HD := Lib.hid hd
  have HR := Lib.hid hr
  clear hd hr
  subst hf he
  have q0 : (a.kind == 0) = false := by simp [h0]
  have q2 : (a.kind == 2) = true := by simp [h2]
  clear h0 h2
  go_enter Try.func7, Try.ntmps7
  go_wp2_with (first
    | (go_at_call 33
       refine calls_named ?_
       intro W1 hW1
       have hb1 : Below w.heap.size w W1 := by rw [hW1]; exact balloc (Below.refl _ _) _
       have hx1 : W1.heap[w.heap.size]? = some (.cells #[.int .u64 k.1, .int .u64 k.2, .int .i64 a.kind, .int .i64 a.smp.1, .int .i64 a.smp.2, .int .i64 a.pol.mn, .int .i64 a.pol.mx, .int .i64 a.pol.tg, .int .i64 a.pol.tol, .int .i64 a.pol.win, .int .i64 a.pol.hold, .int .i64 a.adv.tick, .int .i64 a.adv.load, .int .i64 a.adv.want, .int .i64 a.adv.repl, .int .i64 a.adv.why] 71 (0, 0)) := by rw [hW1]; exact heap_alloc_new _ _
       clear hW1
       refine (awake_any W1).mono ?_
       rintro e w2 ⟨rfl, hb2⟩
       have HX := Lib.hid ((hb2.block _ (Array.getElem?_eq_some_iff.1 hx1).1).trans hx1)
       have HB := Lib.hid (bthen hb1 hb2)
       clear hb1 hx1 hb2)
    | (go_at_call 34
       refine (HN.out _).mono ?_
       rintro e w3 ⟨rfl, hb3⟩
       obtain ⟨a3, a3f, a3l, a3h⟩ := box_at hb3 HX.out
       have HX3 := Lib.hid a3h
       have HB3 := Lib.hid (bthen HB.out hb3)
       clear hb3 a3h)
    | (go_at_call 35
       refine (HD.out _).mono ?_
       rintro e w4 ⟨rfl, hb4⟩
       obtain ⟨a4, a4f, a4l, a4h⟩ := box_at hb4 HX3.out
       have HX4 := Lib.hid a4h
       have HB4 := Lib.hid (bthen HB3.out hb4)
       clear hb4 a4h)
    | (go_at_call 36
       refine (HR.out _).mono ?_
       rintro e w5 ⟨A5, n5, c5, x5, m5, rfl, hb5⟩
       obtain ⟨a5, a5f, a5l, a5h⟩ := box_at hb5 HX4.out
       have HB5 := Lib.hid (bthen HB4.out hb5)
       clear hb5 a5h)
    | (go_at_call 37
       refine (sget_nil _ _ k.1 k.2 rfl).mono ?_
       rintro e w6 ⟨rfl, hb6⟩
       have HB6 := Lib.hid (bthen HB5.out hb6)
       clear hb6)
    | (go_at_call 38
       refine (slen_nil _).mono ?_
       rintro e w7 ⟨rfl, hb7⟩
       have HB7 := Lib.hid (bthen HB6.out hb7)
       clear hb7)
    | (go_at_call 39
       refine (sver_nil _).mono ?_
       rintro e w8 ⟨rfl, hb8⟩
       have HB8 := Lib.hid (bthen HB7.out hb8)
       clear hb8)
    | (go_at_call 40
       refine (sfreeze_nil _).mono ?_
       rintro e w9 ⟨rfl, hb9⟩
       have HB9 := Lib.hid (bthen HB8.out hb9)
       clear hb9))
  go_ret
  exact ⟨rfl, HB9.out⟩

set_option maxRecDepth 100000 in
set_option maxHeartbeats 8000000 in
theorem none_c (k : Ky) (a : Act17) (e1 f : Int) (w : World) (hk : k.ok) (hd : ∀ W, Calls Try.prog 35 #[.pointer none, .agg (act18C k a).toArray] W fun e w' => e = .returned (.tuple #[.int .i64 e1, .int .i64 0]) ∧ Below W.heap.size W w')
    (hr : ∀ W, Calls Try.prog 36 #[cfgV cfg1, .slice none 0 0, .agg (act18C k a).toArray] W fun e w' => ∃ A n c x m, e = .returned (.tuple #[.slice A n c, .int .i64 f, .int .i64 x, .int .i64 m]) ∧ Below W.heap.size W w')
    (h0 : f ≠ 0) (he : e1 = f) :
    Calls Try.prog 7 #[.agg (act18C k a).toArray] w fun e w' => e = .returned (.bool true) ∧ Below w.heap.size w w' := by
  rw [show (act18C k a).toArray = #[.int .u64 k.1, .int .u64 k.2, .int .i64 a.kind, .int .i64 a.smp.1, .int .i64 a.smp.2, .int .i64 a.pol.mn, .int .i64 a.pol.mx, .int .i64 a.pol.tg, .int .i64 a.pol.tol, .int .i64 a.pol.win, .int .i64 a.pol.hold, .int .i64 a.adv.tick, .int .i64 a.adv.load, .int .i64 a.adv.want, .int .i64 a.adv.repl, .int .i64 a.adv.why] from rfl] at hd hr ⊢
  rw [show cfgV cfg1 = .agg #[.int .i64 1, .int .i64 1, .int .i64 1, .int .i64 1] from rfl] at hr
  have HN : Hid (∀ W, Calls Try.prog 34 #[.agg #[.int .i64 0, .int .i64 0, .int .i64 0, .int .i64 0]] W fun e w' => e = .returned (.pointer none) ∧ Below W.heap.size W w') := Lib.hid (fun W => stripeNew_nil ⟨0, 0, 0, 0⟩ W (by decide) (by simp [Cfg.ok, I64]))
  have HD := Lib.hid hd
  have HR := Lib.hid hr
  clear hd hr
  subst he
  have q0 : (e1 == 0) = false := by simp [h0]
  clear h0
  go_enter Try.func7, Try.ntmps7
  go_wp2_with (first
    | (go_at_call 33
       refine calls_named ?_
       intro W1 hW1
       have hb1 : Below w.heap.size w W1 := by rw [hW1]; exact balloc (Below.refl _ _) _
       have hx1 : W1.heap[w.heap.size]? = some (.cells #[.int .u64 k.1, .int .u64 k.2, .int .i64 a.kind, .int .i64 a.smp.1, .int .i64 a.smp.2, .int .i64 a.pol.mn, .int .i64 a.pol.mx, .int .i64 a.pol.tg, .int .i64 a.pol.tol, .int .i64 a.pol.win, .int .i64 a.pol.hold, .int .i64 a.adv.tick, .int .i64 a.adv.load, .int .i64 a.adv.want, .int .i64 a.adv.repl, .int .i64 a.adv.why] 71 (0, 0)) := by rw [hW1]; exact heap_alloc_new _ _
       clear hW1
       refine (awake_any W1).mono ?_
       rintro e w2 ⟨rfl, hb2⟩
       have HX := Lib.hid ((hb2.block _ (Array.getElem?_eq_some_iff.1 hx1).1).trans hx1)
       have HB := Lib.hid (bthen hb1 hb2)
       clear hb1 hx1 hb2)
    | (go_at_call 34
       refine (HN.out _).mono ?_
       rintro e w3 ⟨rfl, hb3⟩
       obtain ⟨a3, a3f, a3l, a3h⟩ := box_at hb3 HX.out
       have HX3 := Lib.hid a3h
       have HB3 := Lib.hid (bthen HB.out hb3)
       clear hb3 a3h)
    | (go_at_call 35
       refine (HD.out _).mono ?_
       rintro e w4 ⟨rfl, hb4⟩
       obtain ⟨a4, a4f, a4l, a4h⟩ := box_at hb4 HX3.out
       have HX4 := Lib.hid a4h
       have HB4 := Lib.hid (bthen HB3.out hb4)
       clear hb4 a4h)
    | (go_at_call 36
       refine (HR.out _).mono ?_
       rintro e w5 ⟨A5, n5, c5, x5, m5, rfl, hb5⟩
       obtain ⟨a5, a5f, a5l, a5h⟩ := box_at hb5 HX4.out
       have HB5 := Lib.hid (bthen HB4.out hb5)
       clear hb5 a5h)
    | (go_at_call 37
       refine (sget_nil _ _ k.1 k.2 rfl).mono ?_
       rintro e w6 ⟨rfl, hb6⟩
       have HB6 := Lib.hid (bthen HB5.out hb6)
       clear hb6)
    | (go_at_call 38
       refine (slen_nil _).mono ?_
       rintro e w7 ⟨rfl, hb7⟩
       have HB7 := Lib.hid (bthen HB6.out hb7)
       clear hb7)
    | (go_at_call 39
       refine (sver_nil _).mono ?_
       rintro e w8 ⟨rfl, hb8⟩
       have HB8 := Lib.hid (bthen HB7.out hb8)
       clear hb8)
    | (go_at_call 40
       refine (sfreeze_nil _).mono ?_
       rintro e w9 ⟨rfl, hb9⟩
       have HB9 := Lib.hid (bthen HB8.out hb9)
       clear hb9))
  go_ret
  exact ⟨rfl, HB9.out⟩

set_option maxRecDepth 100000 in
set_option maxHeartbeats 8000000 in
theorem none_d (k : Ky) (a : Act17) (e1 f : Int) (w : World) (hk : k.ok) (hd : ∀ W, Calls Try.prog 35 #[.pointer none, .agg (act18C k a).toArray] W fun e w' => e = .returned (.tuple #[.int .i64 e1, .int .i64 0]) ∧ Below W.heap.size W w')
    (hr : ∀ W, Calls Try.prog 36 #[cfgV cfg1, .slice none 0 0, .agg (act18C k a).toArray] W fun e w' => ∃ A n c x m, e = .returned (.tuple #[.slice A n c, .int .i64 f, .int .i64 x, .int .i64 m]) ∧ Below W.heap.size W w')
    (hf : f = 0) (h0 : a.kind ≠ 0) (h2 : a.kind ≠ 2) (he : e1 = 0) :
    Calls Try.prog 7 #[.agg (act18C k a).toArray] w fun e w' => e = .returned (.bool true) ∧ Below w.heap.size w w' := by
  rw [show (act18C k a).toArray = #[.int .u64 k.1, .int .u64 k.2, .int .i64 a.kind, .int .i64 a.smp.1, .int .i64 a.smp.2, .int .i64 a.pol.mn, .int .i64 a.pol.mx, .int .i64 a.pol.tg, .int .i64 a.pol.tol, .int .i64 a.pol.win, .int .i64 a.pol.hold, .int .i64 a.adv.tick, .int .i64 a.adv.load, .int .i64 a.adv.want, .int .i64 a.adv.repl, .int .i64 a.adv.why] from rfl] at hd hr ⊢
  rw [show cfgV cfg1 = .agg #[.int .i64 1, .int .i64 1, .int .i64 1, .int .i64 1] from rfl] at hr
  have HN : Hid (∀ W, Calls Try.prog 34 #[.agg #[.int .i64 0, .int .i64 0, .int .i64 0, .int .i64 0]] W fun e w' => e = .returned (.pointer none) ∧ Below W.heap.size W w') := Lib.hid (fun W => stripeNew_nil ⟨0, 0, 0, 0⟩ W (by decide) (by simp [Cfg.ok, I64]))
  have HD := Lib.hid hd
  have HR := Lib.hid hr
  clear hd hr
  subst hf he
  have q0 : (a.kind == 0) = false := by simp [h0]
  have q2 : (a.kind == 2) = false := by simp [h2]
  clear h0 h2
  go_enter Try.func7, Try.ntmps7
  go_wp2_with (first
    | (go_at_call 33
       refine calls_named ?_
       intro W1 hW1
       have hb1 : Below w.heap.size w W1 := by rw [hW1]; exact balloc (Below.refl _ _) _
       have hx1 : W1.heap[w.heap.size]? = some (.cells #[.int .u64 k.1, .int .u64 k.2, .int .i64 a.kind, .int .i64 a.smp.1, .int .i64 a.smp.2, .int .i64 a.pol.mn, .int .i64 a.pol.mx, .int .i64 a.pol.tg, .int .i64 a.pol.tol, .int .i64 a.pol.win, .int .i64 a.pol.hold, .int .i64 a.adv.tick, .int .i64 a.adv.load, .int .i64 a.adv.want, .int .i64 a.adv.repl, .int .i64 a.adv.why] 71 (0, 0)) := by rw [hW1]; exact heap_alloc_new _ _
       clear hW1
       refine (awake_any W1).mono ?_
       rintro e w2 ⟨rfl, hb2⟩
       have HX := Lib.hid ((hb2.block _ (Array.getElem?_eq_some_iff.1 hx1).1).trans hx1)
       have HB := Lib.hid (bthen hb1 hb2)
       clear hb1 hx1 hb2)
    | (go_at_call 34
       refine (HN.out _).mono ?_
       rintro e w3 ⟨rfl, hb3⟩
       obtain ⟨a3, a3f, a3l, a3h⟩ := box_at hb3 HX.out
       have HX3 := Lib.hid a3h
       have HB3 := Lib.hid (bthen HB.out hb3)
       clear hb3 a3h)
    | (go_at_call 35
       refine (HD.out _).mono ?_
       rintro e w4 ⟨rfl, hb4⟩
       obtain ⟨a4, a4f, a4l, a4h⟩ := box_at hb4 HX3.out
       have HX4 := Lib.hid a4h
       have HB4 := Lib.hid (bthen HB3.out hb4)
       clear hb4 a4h)
    | (go_at_call 36
       refine (HR.out _).mono ?_
       rintro e w5 ⟨A5, n5, c5, x5, m5, rfl, hb5⟩
       obtain ⟨a5, a5f, a5l, a5h⟩ := box_at hb5 HX4.out
       have HB5 := Lib.hid (bthen HB4.out hb5)
       clear hb5 a5h)
    | (go_at_call 37
       refine (sget_nil _ _ k.1 k.2 rfl).mono ?_
       rintro e w6 ⟨rfl, hb6⟩
       have HB6 := Lib.hid (bthen HB5.out hb6)
       clear hb6)
    | (go_at_call 38
       refine (slen_nil _).mono ?_
       rintro e w7 ⟨rfl, hb7⟩
       have HB7 := Lib.hid (bthen HB6.out hb7)
       clear hb7)
    | (go_at_call 39
       refine (sver_nil _).mono ?_
       rintro e w8 ⟨rfl, hb8⟩
       have HB8 := Lib.hid (bthen HB7.out hb8)
       clear hb8)
    | (go_at_call 40
       refine (sfreeze_nil _).mono ?_
       rintro e w9 ⟨rfl, hb9⟩
       have HB9 := Lib.hid (bthen HB8.out hb9)
       clear hb9))
  go_ret
  exact ⟨rfl, HB9.out⟩

theorem none_cases (a : Act17) : (refE a = 0 ∧ a.kind = 0 ∧ nilE a = 5) ∨ (refE a = 0 ∧ a.kind ≠ 0 ∧ a.kind = 2 ∧ nilE a = 5) ∨ (refE a ≠ 0 ∧ nilE a = refE a) ∨ (refE a = 0 ∧ a.kind ≠ 0 ∧ a.kind ≠ 2 ∧ nilE a = 0) := by
  unfold nilE refE
  by_cases h0 : a.kind = 0
  · rw [if_pos h0, if_pos h0]
    by_cases hs : serE a.smp.1 a.smp.2 = 0
    · exact .inl ⟨hs, h0, by rw [if_pos hs]⟩
    · exact .inr (.inr (.inl ⟨hs, by rw [if_neg hs]⟩))
  · rw [if_neg h0, if_neg h0]
    by_cases h2 : a.kind = 2
    · rw [if_pos h2, if_pos h2]
      cases hp : polB a.pol with
      | true => exact .inr (.inl ⟨rfl, h0, h2, rfl⟩)
      | false => exact .inr (.inr (.inl ⟨by simp, by simp⟩))
    · rw [if_neg h2, if_neg h2]
      by_cases h3 : a.kind = 3
      · rw [if_pos h3]
        exact .inr (.inr (.inl ⟨by omega, rfl⟩))
      · rw [if_neg h3]
        exact .inr (.inr (.inr ⟨rfl, h0, h2, rfl⟩))

theorem stripeNone_walk (k : Ky) (a : Act17) (w : World) (hk : k.ok) :
    Calls Try.prog 7 #[.agg (act18C k a).toArray] w fun e w' => e = .returned (.bool true) ∧ Below w.heap.size w w' := by
  have h : (refE a = 0 ∧ a.kind = 0 ∧ nilE a = 5) ∨ (refE a = 0 ∧ a.kind ≠ 0 ∧ a.kind = 2 ∧ nilE a = 5) ∨ (refE a ≠ 0 ∧ nilE a = refE a) ∨ (refE a = 0 ∧ a.kind ≠ 0 ∧ a.kind ≠ 2 ∧ nilE a = 0) := none_cases a
  rcases h with ⟨h1, h2, h3⟩ | ⟨h1, h2, h3, h4⟩ | ⟨h1, h2⟩ | ⟨h1, h2, h3, h4⟩
  · exact none_a k a (nilE a) (refE a) w hk (fun W => sdo_nil k a W) (fun W => r18_nil k a W hk) h1 h2 h3
  · exact none_b k a (nilE a) (refE a) w hk (fun W => sdo_nil k a W) (fun W => r18_nil k a W hk) h1 h2 h3 h4
  · exact none_c k a (nilE a) (refE a) w hk (fun W => sdo_nil k a W) (fun W => r18_nil k a W hk) h1 h2
  · exact none_d k a (nilE a) (refE a) w hk (fun W => sdo_nil k a W) (fun W => r18_nil k a W hk) h1 h2 h3 h4
end

end Go.Proofs.Ytfnabpmdjfejbaa
