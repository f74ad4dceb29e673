/- chapter 18's awake; The walk of StripePlays. -/
import Derived.Test.YtfnabpmdjfejbaaGreatJ43
import Derived.Test.YtfnabpmdjfejbaaGreatJ51
namespace Go.Proofs.YtfnabpmdjfejbaaGreat

section
set_option linter.unusedSimpArgs false
set_option linter.unusedVariables false
open Go.RowKit Go.Lib Go.Sort
open Go.ChangeMaps (setBlock)

theorem upd_own {w0 w w' : World} {T M : Nat} {es es' : List (KO × NE)} (hb : Below w0.heap.size w0 w) (hf : ∀ r ∈ sfp T M es, w0.heap.size ≤ r) (h : Upd w w' (sfp T M es) (sfp T M es')) : Below w0.heap.size w0 w' ∧ ∀ r ∈ sfp T M es', w0.heap.size ≤ r :=
  ⟨hb.trans (h.below hb.size hf), fun r hr => (h.fresh r hr).elim (hf r) (fun h' => Nat.le_trans hb.size h')⟩
theorem sfp_sub {w : World} {T M : Nat} {c : Cfg} {ver : Nat} {es : List (KO × NE)} {rs rh : Nat} (h : SAt w T M c ver es rs rh) : ∀ r ∈ sfp T M es, r ∈ T :: M :: es.flatMap (fun p => p.2.2.2) := fun r hr => by
  simp only [sfp, List.mem_cons] at hr ⊢
  rcases hr with rfl | rfl | hr
  · exact .inl rfl
  · exact .inr (.inl rfl)
  · obtain ⟨p, hp, hr⟩ := mem_mfpE.1 hr
    exact .inr (.inr (List.mem_flatMap.2 ⟨p, hp, mfp_sub _ _ r hr⟩))

def kA : KO := ⟨(1, 0), ⟨by decide, by decide⟩⟩
def kB : KO := ⟨(2, 0), ⟨by decide, by decide⟩⟩
def cfgA : Cfg := ⟨1, 4, 1, 1⟩
def ndA1 : Nd := ⟨pol0, false, 1, [(3, 1)], [], false⟩
def ndA2 : Nd := ⟨pol0, false, 2, [(3, 1), (5, 1)], [], false⟩
theorem awA1 : putM ([] : List (KO × Nd)) kA { bump (ndOf [] kA) with smp := putS (ndOf [] kA).smp ((4 : Nat) : Int) (3, 1) } = [(kA, ndA1)] := by rfl
theorem awA2 : putM [(kA, ndA1)] kA { bump (ndOf [(kA, ndA1)] kA) with smp := putS (ndOf [(kA, ndA1)] kA).smp ((4 : Nat) : Int) (5, 1) } = [(kA, ndA2)] := by rfl
theorem kyN_ab (es : List (KO × NE)) : kyN es = (ab es).map (·.1.1) := by simp [kyN, ab, List.map_map, Function.comp_def]
theorem awG : goneS [(kA, ndA2)] 5 (risL [(1, 0)]) = 1 := by rfl

theorem cfgA_ok : cfgA.ok := by simp [Cfg.ok, cfgA, I64]
theorem cfgA_b : cfgB cfgA = true := by decide

set_option maxRecDepth 100000 in
set_option maxHeartbeats 4000000 in
theorem awake_any (w : World) :
    Calls Tryz.prog 5 #[] w fun e w' => e = .returned (.bool true) ∧ Below w.heap.size w w' := by
  have HNW : Hid (∀ W, Calls Tryz.prog 7 #[.agg #[.int .i64 1, .int .i64 4, .int .i64 1, .int .i64 1]] W (NewStripe W cfgA 4 1)) := Lib.hid (fun W => stripeNew_any cfgA 4 1 W cfgA_b cfgA_ok)
  have HI1 : Hid (∀ T M es W, SAt W T M cfgA 0 es 4 1 → ab es = [] → Calls Tryz.prog 18 #[.pointer (some ⟨T, 0, none⟩), .agg #[.int .u64 1, .int .u64 0], .int .i64 3, .int .i64 1] W (SSays W T M cfgA es 4 1 (.int .i64 0) 1 [(kA, ndA1)])) := Lib.hid (fun T M es W h he => by
    have hlen : es.length = 0 := by rw [← ab_len, he]; rfl
    have := singest_ok T M cfgA 0 es 4 1 kA (3, 1) W h (by decide) (fun hh => by have := hh.2; rw [hlen] at this; simp [cfgA] at this) cfgA_b rfl rfl cfgA_ok (by omega) (by rw [he]; simp)
    rw [he, awA1] at this
    exact this)
  have HI2 : Hid (∀ T M es W, SAt W T M cfgA 1 es 4 1 → ab es = [(kA, ndA1)] → Calls Tryz.prog 18 #[.pointer (some ⟨T, 0, none⟩), .agg #[.int .u64 2, .int .u64 0], .int .i64 3, .int .i64 1] W (SSays W T M cfgA es 4 1 (.int .i64 6) 1 [(kA, ndA1)])) := Lib.hid (fun T M es W h he => by
    have hlen : es.length = 1 := by rw [← ab_len, he]; rfl
    have hf : findM es kB = none := by
      have h1 := ab_find es kB
      rw [he] at h1
      have h2 : findM [(kA, ndA1)] kB = none := by rfl
      rw [h2] at h1
      exact Option.map_eq_none_iff.1 h1.symm
    have := singest_full T M cfgA 1 es 4 1 kB (3, 1) W h (by decide) hf (by rw [hlen]; decide)
    rw [he] at this
    exact this)
  have HI3 : Hid (∀ T M es W, SAt W T M cfgA 1 es 4 1 → ab es = [(kA, ndA1)] → Calls Tryz.prog 18 #[.pointer (some ⟨T, 0, none⟩), .agg #[.int .u64 1, .int .u64 0], .int .i64 5, .int .i64 1] W (SSays W T M cfgA es 4 1 (.int .i64 0) 2 [(kA, ndA2)])) := Lib.hid (fun T M es W h he => by
    have hh : hasM es kA = true := by rw [← ab_has, he]; rfl
    have := singest_ok T M cfgA 1 es 4 1 kA (5, 1) W h (by decide) (fun h' => by rw [hh] at h'; cases h'.1) cfgA_b rfl rfl cfgA_ok (by omega) (by rw [he]; simp [ndA1])
    rw [he, awA2] at this
    exact this)
  have HTR : Hid (∀ T M es W, SAt W T M cfgA 2 es 4 1 → ab es = [(kA, ndA2)] → Calls Tryz.prog 19 #[.pointer (some ⟨T, 0, none⟩), .int .i64 5] W fun e W' => ∃ es' ver, e = .returned (.int .i64 1) ∧ SAt W' T M cfgA ver es' 4 1 ∧ es'.length = 1 ∧ Upd W W' (sfp T M es) (sfp T M es')) := Lib.hid (fun T M es W h he => by
    have hlen : es.length = 1 := by rw [← ab_len, he]; rfl
    have := strim_any T M cfgA 2 es 4 1 5 W h (by omega) (by omega) (by omega) (by omega) (by rw [he]; simp [ndA2]) (by rw [he]; simp [ndA2])
    rw [kyN_ab, he] at this
    refine this.mono ?_
    rintro e W' ⟨es', rfl, h1, h2, h3⟩
    refine ⟨es', _, ?_, h1, ?_, h3⟩
    · rw [show (goneS [(kA, ndA2)] 5 (risL (List.map (fun x => x.1.1) [(kA, ndA2)]))) = 1 from awG]; rfl
    · rw [← ab_len, h2]; simp [trimK])
  go_enter Tryz.func5, Tryz.ntmps5
  go_wp2_with (first
    | (go_at_call 7
       refine (HNW.out _).mono ?_
       rintro e w1 ⟨T, fp, rfl, h1, h2, h3⟩
       obtain ⟨M, hs, hfp⟩ := h1.at_
       have hf1 : ∀ r ∈ sfp T M [], w.heap.size ≤ r := fun r hr => h2 r (by rw [hfp]; exact sfp_sub hs r hr)
       have HS1 := Lib.hid hs
       have HF1 := Lib.hid hf1
       have HB1 := Lib.hid h3
       clear h1 h2 h3 hs hfp hf1)
    | (go_at_call 18
       refine (HI3.out T M es2 w3 HS3.out HA3.out).mono ?_
       rintro e w4 ⟨es4, rfl, h1, h2, h3⟩
       obtain ⟨hb, hf⟩ := upd_own HB3.out HF3.out h3
       have HS4 := Lib.hid h1
       have HA4 := Lib.hid h2
       have HF4 := Lib.hid hf
       have HB4 := Lib.hid hb
       clear h1 h2 h3 hb hf)
    | (go_at_call 18
       refine (HI2.out T M es1 w2 HS2.out HA2.out).mono ?_
       rintro e w3 ⟨es2, rfl, h1, h2, h3⟩
       obtain ⟨hb, hf⟩ := upd_own HB2.out HF2.out h3
       have HS3 := Lib.hid h1
       have HA3 := Lib.hid h2
       have HF3 := Lib.hid hf
       have HB3 := Lib.hid hb
       clear h1 h2 h3 hb hf)
    | (go_at_call 18
       refine (HI1.out T M [] w1 HS1.out rfl).mono ?_
       rintro e w2 ⟨es1, rfl, h1, h2, h3⟩
       obtain ⟨hb, hf⟩ := upd_own HB1.out HF1.out h3
       have HS2 := Lib.hid h1
       have HA2 := Lib.hid h2
       have HF2 := Lib.hid hf
       have HB2 := Lib.hid hb
       clear h1 h2 h3 hb hf)
    | (go_at_call 19
       refine (HTR.out T M es4 w4 HS4.out HA4.out).mono ?_
       rintro e w5 ⟨es5, ver5, rfl, h1, h2, h3⟩
       obtain ⟨hb, hf⟩ := upd_own HB4.out HF4.out h3
       have HS5 := Lib.hid h1
       have HA5 := Lib.hid h2
       have HB5 := Lib.hid hb
       clear h1 h2 h3 hb hf)
    | (go_at_call 17
       refine (slen_any T cfgA ver5 es5 4 1 _ w5 HS5.out.in_ (by rw [HA5.out]; omega)).mono ?_
       rw [HA5.out]
       rintro e w6 ⟨rfl, hb6⟩
       have HB6 := Lib.hid (bthen HB5.out hb6)
       clear hb6))
  go_ret
  exact ⟨rfl, HB6.out⟩
end

section
set_option linter.unusedSimpArgs false
set_option linter.unusedVariables false
open Go.RowKit Go.Lib Go.Sort

abbrev ActK := Ky × Act17
def actKC (a : ActK) : List Value := act18C a.1 a.2

/-- A new stripe, ahead of all acts. -/
theorem play_new {w0 W1 W : World} {c : Cfg} {rs rh : Nat} {e : Ending} (hb : Below w0.heap.size w0 W1) (h : NewStripe W1 c rs rh e W) (h0 : 0 ≤ c.lo) : ∃ T M, e = .returned (.pointer (some ⟨T, 0, none⟩)) ∧ Play w0 W T M c rs rh 0 0 [] (.slice none 0 0) [] := by
  obtain ⟨T, fp, rfl, h1, h2, h3⟩ := h
  obtain ⟨M, hs, hfp⟩ := h1.at_
  have hf1 : ∀ r ∈ sfp T M [], W1.heap.size ≤ r := fun r hr => h2 r (by rw [hfp]; exact sfp_sub hs r hr)
  refine ⟨T, M, rfl, hs, ⟨⟨RowIn.nil, fun _ _ _ _ _ h => absurd h (by simp)⟩, fun x hx => (by cases hx)⟩, Tells18.nil, bthen hb h3, fun r hr => Nat.le_trans hb.size (hf1 r hr), ⟨Nat.zero_le _, fun p hp => (by cases hp)⟩, fun x hx => (by cases hx), Nat.zero_le _, h0⟩

theorem play_get {w0 W : World} {T M : Nat} {c : Cfg} {rs rh n ver : Nat} {es : List (KO × NE)} {v : Value} {l : List It} (h : Play w0 W T M c rs rh n ver es v l) (k : KO) :
    (hasI l k.1 = false ∧ ∀ U, Below W.heap.size W U → Calls Tryz.prog 15 #[.pointer (some ⟨T, 0, none⟩), .agg #[.int .u64 k.1.1, .int .u64 k.1.2]] U fun e w' => e = .returned (.pointer none) ∧ Below U.heap.size U w') ∨
    (hasI l k.1 = true ∧ ∃ b, ∀ U, Below W.heap.size W U → Calls Tryz.prog 15 #[.pointer (some ⟨T, 0, none⟩), .agg #[.int .u64 k.1.1, .int .u64 k.1.2]] U fun e w' => e = .returned (.pointer (some ⟨b, 0, none⟩)) ∧ Below U.heap.size U w') := by
  have hh := h.tells.has k
  rw [ab_has] at hh
  cases hf : findM es k with
  | none =>
    refine .inl ⟨by rw [← hh]; exact none_has hf, fun U hU => ?_⟩
    have := sget_any T M c ver es rs rh k U (h.at_.below hU)
    rw [hf] at this
    exact this
  | some b => exact .inr ⟨by rw [← hh]; exact find_has hf, b.1, fun U hU => sget_some T M c ver es rs rh k b U (h.at_.below hU) hf⟩

set_option maxRecDepth 100000 in
set_option maxHeartbeats 8000000 in
theorem splays_main (c : Cfg) (rs rh : Nat) (v : Value) (l : List ActK) (k : KO) (w : World) (hv : RowIn 16 actKC w v l) (hok : ∀ p ∈ l, p.1.ok) (hl : l.length ≤ 40) (hc : CfgOk c rs rh) :
    Calls Tryz.prog 4 #[cfgV c, v, .agg #[.int .u64 k.1.1, .int .u64 k.1.2]] w fun e w' => e = .returned (.bool true) ∧ Below w.heap.size w w' := by
  obtain ⟨A, cc, rfl⟩ := hv.form
  have HC := Lib.hid hc
  have HV := Lib.hid hv
  have HOK := Lib.hid hok
  have HL := Lib.hid hl
  have hR := hc.room
  have h0 : 0 ≤ c.lo := by have := hc.cfg; unfold cfgB at this; simp only [Bool.and_eq_true, decide_eq_true_eq] at this; omega
  have HR := Lib.hid hR
  have H0 := Lib.hid h0
  have HNW : Hid (∀ W, Calls Tryz.prog 7 #[.agg #[.int .i64 c.st, .int .i64 c.sa, .int .i64 c.lo, .int .i64 c.hi]] W (NewStripe W c rs rh)) := Lib.hid (fun W => stripeNew_any c rs rh W hc.cfg hc.ok)
  have HRT : Hid (∀ W, Calls Tryz.prog 6 #[.agg #[.int .i64 c.st, .int .i64 c.sa, .int .i64 c.lo, .int .i64 c.hi]] W fun e w' => e = .returned (.bool true) ∧ Below W.heap.size W w') := Lib.hid (fun W => by have := ref17Right_any c W; rw [hc.cfg] at this; exact this)
  have q40 : ¬ (40 : Int) < (l.length : Int) := by omega
  have hl' : l.length ≤ 9223372036854775807 := by omega
  unfold cfgV
  clear hv hok hl hc hR h0
  go_enter Tryz.func4, Tryz.ntmps4
  go_wp2_with (first
    | (go_at_call 5
       refine calls_named ?_
       intro W0 hW0
       have hb0 : Below w.heap.size w W0 := by rw [hW0]; exact balloc (balloc (Below.refl _ _) _) _
       have hxc : W0.heap[w.heap.size]? = some (.cells #[.int .i64 c.st, .int .i64 c.sa, .int .i64 c.lo, .int .i64 c.hi] 23 (0, 0)) := by rw [hW0]; exact box_old _ _ _
       have hxk : W0.heap[w.heap.size + 1]? = some (.cells #[.int .u64 k.1.1, .int .u64 k.1.2] 32 (0, 0)) := by rw [hW0]; exact box_new _ _ _
       clear hW0
       refine (awake_any W0).mono ?_
       rintro e w1 ⟨rfl, hb1⟩
       obtain ⟨a1, a1f, a1l⟩ := box_cells hb1 hxc
       have HXC := Lib.hid hxc
       have HXK := Lib.hid hxk
       have HB0 := Lib.hid hb0
       have HB1 := Lib.hid hb1
       clear hb0 hxc hxk hb1)
    | (go_at_call 7
       refine (HNW.out w1).mono ?_
       intro e w2 hn
       obtain ⟨T, M, rfl, hp⟩ := play_new HB1.out hn H0.out
       obtain ⟨a2, a2f, a2l⟩ := box_cells hp.base HXC.out
       have HP2 := Lib.hid hp
       clear hn hp)
    | (go_at_call 6
       refine (HRT.out w2).mono ?_
       rintro e w3 ⟨rfl, hb3⟩
       have HP3 := Lib.hid (HP2.out.below hb3)
       clear hb3))
  go_loopg [8, 9, 37] l.length (fun g s8 s9 s37 wr => ∃ (n ver : Nat) (es : List (KO × NE)) (m : List It), n ≤ l.length ∧ l.length - n ≤ g ∧ s37 = .int .i64 n ∧ s9 = .int .i64 ver ∧ Play W0 wr T M c rs rh n ver es s8 m)
  case atStart => exact ⟨0, 0, [], [], Nat.zero_le _, Nat.le_refl _, rfl, rfl, HP3.out⟩
  case round =>
    obtain ⟨n, ver, es, m, hn, hg, rfl, rfl, hp⟩ := hrel
    clear a1 a1f a1l a2 a2f a2l
    have hbw : Below w.heap.size w wr := HB0.out.trans (hp.base.mono HB0.out.size)
    obtain ⟨Am, cm, rfl⟩ := hp.items.1.1.form
    have HP := Lib.hid hp
    clear hp
    by_cases hlt : n < l.length
    · obtain ⟨b, o, rfl, hbl, hat⟩ := (HV.out.below hbw).at_ hlt
      have hxok := HOK.out _ (List.getElem_mem hlt)
      generalize l[n] = x at hat hxok
      obtain ⟨ky, a⟩ := x
      obtain ⟨ko, rfl⟩ : ∃ ko : KO, ko.1 = ky := ⟨⟨ky, hxok⟩, rfl⟩
      have c0 := hat 0 _ rfl
      have c1 := hat 1 _ rfl
      have c2 := hat 2 _ rfl
      have c3 := hat 3 _ rfl
      have c4 := hat 4 _ rfl
      have c5 := hat 5 _ rfl
      have c6 := hat 6 _ rfl
      have c7 := hat 7 _ rfl
      have c8 := hat 8 _ rfl
      have c9 := hat 9 _ rfl
      have c10 := hat 10 _ rfl
      have c11 := hat 11 _ rfl
      have c12 := hat 12 _ rfl
      have c13 := hat 13 _ rfl
      have c14 := hat 14 _ rfl
      have c15 := hat 15 _ rfl
      rw [Nat.add_zero] at c0
      simp only at c0 c1 c2 c3 c4 c5 c6 c7 c8 c9 c10 c11 c12 c13 c14 c15 hxok
      have HBW := Lib.hid hbw
      have hn1 : (n : Int) < (l.length : Int) := by omega
      have hn0 : (0 : Int) ≤ (n : Int) := by omega
      clear hat hbw hxok
      go_wp2_with (first
        | (go_at_call 8
           refine calls_named ?_
           intro W4 hW4
           have hb4 : Below wr.heap.size wr W4 := by rw [hW4]; exact balloc (Below.refl _ _) _
           have hx4 : W4.heap[wr.heap.size]? = some (.cells #[.int .u64 ko.1.1, .int .u64 ko.1.2, .int .i64 a.kind, .int .i64 a.smp.1, .int .i64 a.smp.2, .int .i64 a.pol.mn, .int .i64 a.pol.mx, .int .i64 a.pol.tg, .int .i64 a.pol.tol, .int .i64 a.pol.win, .int .i64 a.pol.hold, .int .i64 a.adv.tick, .int .i64 a.adv.load, .int .i64 a.adv.want, .int .i64 a.adv.repl, .int .i64 a.adv.why] 42 (0, 0)) := by rw [hW4]; exact heap_alloc_new _ _
           clear hW4
           have hnew : wr.heap.size ∉ sfp T M es := fun hq => by have := HP.out.at_.sfpLt _ hq; omega
           obtain ⟨R, hdo⟩ := play_do (HP.out.below hb4) HC.out (by have := HL.out; omega) ko a
           refine hdo.mono ?_
           rintro e w5 ⟨es2, rfl, hh, hu⟩
           have hx5 := (hu.block _ (Array.getElem?_eq_some_iff.1 hx4).1 hnew).trans hx4
           obtain ⟨a3, a3f, a3l⟩ := box_cells (Below.refl _ _) hx5
           obtain ⟨a4, a4f, a4l⟩ := box_cells hh.base HXC.out
           have HH := Lib.hid hh
           clear hb4 hx4 hnew hdo hh hu hx5)
        | (go_at_call 9
           refine (half_do18 HH.out HC.out (by have := HL.out; omega)).mono ?_
           rintro e w6 ⟨out, A6, c6', rfl, hp6, hb6⟩
           have hver : IntKind.i64.wrap ((ver : Int) + ((R.ver : Int) - (ver : Int))) = (R.ver : Int) := by
             have h1 := hp6.ver_
             have h2 := HL.out
             rw [IntKind.wrap_i64]; omega
           have HP6 := Lib.hid hp6
           clear hp6 hb6)
        | (go_at_call 13
           refine (stold_any _ T M c R.ver es2 rs rh _ out w6 HP6.out.at_ HR.out.r2 HR.out.h2 HP6.out.items HP6.out.tells (by have := HP6.out.len; have := HL.out; omega)).mono ?_
           rintro e w7 ⟨rfl, hb7⟩
           have HP7 := Lib.hid (HP6.out.below hb7)
           clear hb7)
        | (go_at_call 14
           refine (sver_any T M c R.ver es2 rs rh w7 HP7.out.at_).mono ?_
           rintro e w8 ⟨rfl, hb8⟩
           have HP8 := Lib.hid (HP7.out.below hb8)
           clear hb8))
      go_roundg (l.length - (n + 1))
      case measure => omega
      case rel => exact ⟨n + 1, R.ver, es2, out, hlt, Nat.le_refl _, by go_num, rfl, HP8.out⟩
    · obtain rfl : n = l.length := by omega
      have hlen := HP.out.len
      have hle : (es.length : Int) ≤ c.lo := by have := HP.out.room; omega
      have hkk : ∀ x ∈ m, x.key.ok := fun x hx => (tells_ok HP.out.at_ HP.out.tells x hx).2
      have HK := Lib.hid hkk
      have HLE := Lib.hid hlen
      have rc : ∀ U, Below wr.heap.size wr U → (∀ j, U.cell? ⟨w.heap.size, j, none⟩ = (#[.int .i64 c.st, .int .i64 c.sa, .int .i64 c.lo, .int .i64 c.hi] : Array Value)[j]?) := fun U hU => (box_cells (bthen HP.out.base hU) HXC.out).1
      have rk : ∀ U, Below wr.heap.size wr U → (∀ j, U.cell? ⟨w.heap.size + 1, j, none⟩ = (#[.int .u64 k.1.1, .int .u64 k.1.2] : Array Value)[j]?) := fun U hU => (box_cells (bthen HP.out.base hU) HXK.out).1
      have HBW := Lib.hid hbw
      clear hlen hkk hbw
      rcases play_get HP.out k with ⟨hh, hget⟩ | ⟨hh, bn, hget⟩
      all_goals
        have HH := Lib.hid hh
        have HG := Lib.hid hget
        clear hh hget
        go_wp2
        have hS00 : Below wr.heap.size wr wr := Below.refl _ _
        have hS0 : Below wr.heap.size wr wr.drew := hS00.drew
        go_region_held3 (fun U => Below wr.heap.size wr U)
          (first
            | with_reducible exact hS0
            | with_reducible exact HB7.out
            | with_reducible exact HB6.out
            | with_reducible exact HB5.out)
          (first
            | (go_at_call 15
               refine (HG.out _ ‹Below wr.heap.size wr _›).mono ?_
               rintro e w5 ⟨rfl, hb⟩
               have HB5 := Lib.hid (bthen ‹Below wr.heap.size wr _› hb)
               clear hb)
            | (go_at_call 16
               refine (ihas_any _ m k.1 _ (HP.out.items.1.1.below ‹Below wr.heap.size wr _›) (by have := HLE.out; have := HL.out; omega) HK.out k.2).mono ?_
               rw [HH.out]
               rintro e w6 ⟨rfl, hb⟩
               have HB6 := Lib.hid (bthen ‹Below wr.heap.size wr _› hb)
               clear hb)
            | (go_at_call 17
               refine (slen_any T c ver es rs rh _ _ (HP.out.at_.below ‹Below wr.heap.size wr _›).in_ (by have := HLE.out; have := HL.out; omega)).mono ?_
               rintro e w7 ⟨rfl, hb⟩
               have HB7 := Lib.hid (bthen ‹Below wr.heap.size wr _› hb)
               clear hb))
        all_goals go_wp2
        all_goals go_ret
        all_goals exact ⟨rfl, bthen HBW.out HB7.out⟩
end

end Go.Proofs.YtfnabpmdjfejbaaGreat
