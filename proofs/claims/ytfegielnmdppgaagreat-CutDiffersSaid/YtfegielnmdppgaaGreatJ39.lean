/- Chapter 19's do and made. -/
import Derived.Test.YtfegielnmdppgaaGreatJ37
import Derived.Test.YtfegielnmdppgaaGreatJ38
namespace Go.Proofs.YtfegielnmdppgaaGreat

section
set_option linter.unusedSimpArgs false
set_option linter.unusedVariables false
open Go.RowKit Go.Lib Go.Sort

def CDoSays (w : World) (T M : Nat) (c : Cfg) (es : List (KO × NE)) (rs rh : Nat) (r : DoR) (e : Ending) (w' : World) : Prop :=
  ∃ es', e = .returned (.tuple #[]) ∧ SAt w' T M c r.ver es' rs rh ∧ ab es' = r.has ∧ Upd w w' (sfp T M es) (sfp T M es') ∧ Old w.heap.size es es'

set_option maxRecDepth 100000 in
set_option maxHeartbeats 4000000 in
theorem cdo_0 (T M : Nat) (c : Cfg) (ver : Nat) (es : List (KO × NE)) (rs rh : Nat) (k : KO) (a : Act17) (w : World) (h : SAt w T M c ver es rs rh) (ho : SOk c rs rh ver (ab es)) (hsl : ∀ p ∈ ab es, p.2.smp.length ≤ 256)  (hk : a.kind = 0) :
    Calls Tryz.prog 17 #[.pointer (some ⟨T, 0, none⟩), .agg (act18C k.1 a).toArray] w (CDoSays w T M c es rs rh (doS c rs rh ver (ab es) k a)) := by
  rw [show (act18C k.1 a).toArray = #[.int .u64 k.1.1, .int .u64 k.1.2, .int .i64 a.kind, .int .i64 a.smp.1, .int .i64 a.smp.2, .int .i64 a.pol.mn, .int .i64 a.pol.mx, .int .i64 a.pol.tg, .int .i64 a.pol.tol, .int .i64 a.pol.win, .int .i64 a.pol.hold, .int .i64 a.adv.tick, .int .i64 a.adv.load, .int .i64 a.adv.want, .int .i64 a.adv.repl, .int .i64 a.adv.why] from rfl]
  have hr := ho.room
  have hc := fun (W : World) (hb : Below w.heap.size w W) => ingest_all T M c ver es rs rh k a W (h.below hb) ho hk
  have HC := Lib.hid hc
  have q0 : (a.kind == 0) = true := by simp [hk]
  clear h ho hsl hr  hk hc
  generalize doS c rs rh ver (ab es) k a = R at *
  go_enter Tryz.func17, Tryz.ntmps17
  go_wp2_with (first
    | (go_at_call 60
       refine calls_named ?_
       intro W1 hW1
       have hb1 : Below w.heap.size w W1 := by rw [hW1]; exact balloc (Below.refl _ _) _
       clear hW1
       refine (HC.out W1 hb1).mono ?_
       rintro e w2 ⟨es', rfl, h1, h2, h3, h4⟩
       have HF := Lib.hid (And.intro h1 (And.intro h2 (And.intro ((Upd.of_below hb1 _).trans h3) (h4.mono hb1.size))))
       clear h1 h2 h3 h4 hb1))
  go_end0
  exact ⟨es', rfl, HF.out.1, HF.out.2.1, HF.out.2.2.1, HF.out.2.2.2⟩

set_option maxRecDepth 100000 in
set_option maxHeartbeats 4000000 in
theorem cdo_1 (T M : Nat) (c : Cfg) (ver : Nat) (es : List (KO × NE)) (rs rh : Nat) (k : KO) (a : Act17) (w : World) (h : SAt w T M c ver es rs rh) (ho : SOk c rs rh ver (ab es)) (hsl : ∀ p ∈ ab es, p.2.smp.length ≤ 256) (hn0 : a.kind ≠ 0) (hk : a.kind = 1) :
    Calls Tryz.prog 17 #[.pointer (some ⟨T, 0, none⟩), .agg (act18C k.1 a).toArray] w (CDoSays w T M c es rs rh (doS c rs rh ver (ab es) k a)) := by
  rw [show (act18C k.1 a).toArray = #[.int .u64 k.1.1, .int .u64 k.1.2, .int .i64 a.kind, .int .i64 a.smp.1, .int .i64 a.smp.2, .int .i64 a.pol.mn, .int .i64 a.pol.mx, .int .i64 a.pol.tg, .int .i64 a.pol.tol, .int .i64 a.pol.win, .int .i64 a.pol.hold, .int .i64 a.adv.tick, .int .i64 a.adv.load, .int .i64 a.adv.want, .int .i64 a.adv.repl, .int .i64 a.adv.why] from rfl]
  have hr := ho.room
  have hl1 := ho.len
  have hc := fun (W : World) (hb : Below w.heap.size w W) => strim_any T M c ver es rs rh a.smp.1 W (h.below hb) hr.1 hr.2 (by rw [← ab_len]; exact ho.len) ho.ver_ ho.vers hsl
  have hd : doS c rs rh ver (ab es) k a = ⟨0, goneS (ab es) a.smp.1 (risL (kyN es)), ver + manyS (ab es) a.smp.1 (risL (kyN es)), trimK (ab es) a.smp.1 (risL (kyN es))⟩ := by unfold doS; rw [if_neg hn0, if_pos hk, kyN_keysS]
  have hc : ∀ (W : World), Below w.heap.size w W → Calls Tryz.prog 61 #[.pointer (some ⟨T, 0, none⟩), .int .i64 a.smp.1] W (SSays W T M c es rs rh (.int .i64 ((doS c rs rh ver (ab es) k a).gone : Nat)) (doS c rs rh ver (ab es) k a).ver (doS c rs rh ver (ab es) k a).has) := by rw [hd]; exact hc
  have HC := Lib.hid hc
  clear hl1 hd
  have q0 : (a.kind == 0) = false := by simp [hn0]
  have q1 : (a.kind == 1) = true := by simp [hk]
  clear h ho hsl hr hn0 hk hc
  generalize doS c rs rh ver (ab es) k a = R at *
  go_enter Tryz.func17, Tryz.ntmps17
  go_wp2_with (first
    | (go_at_call 61
       refine calls_named ?_
       intro W1 hW1
       have hb1 : Below w.heap.size w W1 := by rw [hW1]; exact balloc (Below.refl _ _) _
       clear hW1
       refine (HC.out W1 hb1).mono ?_
       rintro e w2 ⟨es', rfl, h1, h2, h3, h4⟩
       have HF := Lib.hid (And.intro h1 (And.intro h2 (And.intro ((Upd.of_below hb1 _).trans h3) (h4.mono hb1.size))))
       clear h1 h2 h3 h4 hb1))
  go_end0
  exact ⟨es', rfl, HF.out.1, HF.out.2.1, HF.out.2.2.1, HF.out.2.2.2⟩

set_option maxRecDepth 100000 in
set_option maxHeartbeats 4000000 in
theorem cdo_2 (T M : Nat) (c : Cfg) (ver : Nat) (es : List (KO × NE)) (rs rh : Nat) (k : KO) (a : Act17) (w : World) (h : SAt w T M c ver es rs rh) (ho : SOk c rs rh ver (ab es)) (hsl : ∀ p ∈ ab es, p.2.smp.length ≤ 256) (hn0 : a.kind ≠ 0) (hn1 : a.kind ≠ 1) (hk : a.kind = 2) :
    Calls Tryz.prog 17 #[.pointer (some ⟨T, 0, none⟩), .agg (act18C k.1 a).toArray] w (CDoSays w T M c es rs rh (doS c rs rh ver (ab es) k a)) := by
  rw [show (act18C k.1 a).toArray = #[.int .u64 k.1.1, .int .u64 k.1.2, .int .i64 a.kind, .int .i64 a.smp.1, .int .i64 a.smp.2, .int .i64 a.pol.mn, .int .i64 a.pol.mx, .int .i64 a.pol.tg, .int .i64 a.pol.tol, .int .i64 a.pol.win, .int .i64 a.pol.hold, .int .i64 a.adv.tick, .int .i64 a.adv.load, .int .i64 a.adv.want, .int .i64 a.adv.repl, .int .i64 a.adv.why] from rfl]
  have hr := ho.room
  have hc := fun (W : World) (hb : Below w.heap.size w W) => set_all T M c ver es rs rh k a W (h.below hb) ho hk
  unfold polV at hc
  have HC := Lib.hid hc
  have q0 : (a.kind == 0) = false := by simp [hn0]
  have q1 : (a.kind == 1) = false := by simp [hn1]
  have q2 : (a.kind == 2) = true := by simp [hk]
  clear h ho hsl hr hn0 hn1 hk hc
  generalize doS c rs rh ver (ab es) k a = R at *
  go_enter Tryz.func17, Tryz.ntmps17
  go_wp2_with (first
    | (go_at_call 62
       refine calls_named ?_
       intro W1 hW1
       have hb1 : Below w.heap.size w W1 := by rw [hW1]; exact balloc (Below.refl _ _) _
       clear hW1
       refine (HC.out W1 hb1).mono ?_
       rintro e w2 ⟨es', rfl, h1, h2, h3, h4⟩
       have HF := Lib.hid (And.intro h1 (And.intro h2 (And.intro ((Upd.of_below hb1 _).trans h3) (h4.mono hb1.size))))
       clear h1 h2 h3 h4 hb1))
  go_end0
  exact ⟨es', rfl, HF.out.1, HF.out.2.1, HF.out.2.2.1, HF.out.2.2.2⟩

set_option maxRecDepth 100000 in
set_option maxHeartbeats 4000000 in
theorem cdo_3 (T M : Nat) (c : Cfg) (ver : Nat) (es : List (KO × NE)) (rs rh : Nat) (k : KO) (a : Act17) (w : World) (h : SAt w T M c ver es rs rh) (ho : SOk c rs rh ver (ab es)) (hsl : ∀ p ∈ ab es, p.2.smp.length ≤ 256) (hn0 : a.kind ≠ 0) (hn1 : a.kind ≠ 1) (hn2 : a.kind ≠ 2) (hk : a.kind = 3) :
    Calls Tryz.prog 17 #[.pointer (some ⟨T, 0, none⟩), .agg (act18C k.1 a).toArray] w (CDoSays w T M c es rs rh (doS c rs rh ver (ab es) k a)) := by
  rw [show (act18C k.1 a).toArray = #[.int .u64 k.1.1, .int .u64 k.1.2, .int .i64 a.kind, .int .i64 a.smp.1, .int .i64 a.smp.2, .int .i64 a.pol.mn, .int .i64 a.pol.mx, .int .i64 a.pol.tg, .int .i64 a.pol.tol, .int .i64 a.pol.win, .int .i64 a.pol.hold, .int .i64 a.adv.tick, .int .i64 a.adv.load, .int .i64 a.adv.want, .int .i64 a.adv.repl, .int .i64 a.adv.why] from rfl]
  have hr := ho.room
  have hc := fun (W : World) (hb : Below w.heap.size w W) => note_all T M c ver es rs rh k a W (h.below hb) ho hk
  rw [show (advC a.adv).toArray = #[.int .i64 a.adv.tick, .int .i64 a.adv.load, .int .i64 a.adv.want, .int .i64 a.adv.repl, .int .i64 a.adv.why] from rfl] at hc
  have HC := Lib.hid hc
  have q0 : (a.kind == 0) = false := by simp [hn0]
  have q1 : (a.kind == 1) = false := by simp [hn1]
  have q2 : (a.kind == 2) = false := by simp [hn2]
  have q3 : (a.kind == 3) = true := by simp [hk]
  clear h ho hsl hr hn0 hn1 hn2 hk hc
  generalize doS c rs rh ver (ab es) k a = R at *
  go_enter Tryz.func17, Tryz.ntmps17
  go_wp2_with (first
    | (go_at_call 63
       refine calls_named ?_
       intro W1 hW1
       have hb1 : Below w.heap.size w W1 := by rw [hW1]; exact balloc (Below.refl _ _) _
       clear hW1
       refine (HC.out W1 hb1).mono ?_
       rintro e w2 ⟨es', rfl, h1, h2, h3, h4⟩
       have HF := Lib.hid (And.intro h1 (And.intro h2 (And.intro ((Upd.of_below hb1 _).trans h3) (h4.mono hb1.size))))
       clear h1 h2 h3 h4 hb1))
  go_end0
  exact ⟨es', rfl, HF.out.1, HF.out.2.1, HF.out.2.2.1, HF.out.2.2.2⟩

set_option maxRecDepth 100000 in
set_option maxHeartbeats 4000000 in
theorem cdo_4 (T M : Nat) (c : Cfg) (ver : Nat) (es : List (KO × NE)) (rs rh : Nat) (k : KO) (a : Act17) (w : World) (h : SAt w T M c ver es rs rh) (ho : SOk c rs rh ver (ab es)) (hsl : ∀ p ∈ ab es, p.2.smp.length ≤ 256) (hn0 : a.kind ≠ 0) (hn1 : a.kind ≠ 1) (hn2 : a.kind ≠ 2) (hn3 : a.kind ≠ 3) :
    Calls Tryz.prog 17 #[.pointer (some ⟨T, 0, none⟩), .agg (act18C k.1 a).toArray] w (CDoSays w T M c es rs rh (doS c rs rh ver (ab es) k a)) := by
  rw [show (act18C k.1 a).toArray = #[.int .u64 k.1.1, .int .u64 k.1.2, .int .i64 a.kind, .int .i64 a.smp.1, .int .i64 a.smp.2, .int .i64 a.pol.mn, .int .i64 a.pol.mx, .int .i64 a.pol.tg, .int .i64 a.pol.tol, .int .i64 a.pol.win, .int .i64 a.pol.hold, .int .i64 a.adv.tick, .int .i64 a.adv.load, .int .i64 a.adv.want, .int .i64 a.adv.repl, .int .i64 a.adv.why] from rfl]
  have hr := ho.room
  have hc := fun (W : World) (hb : Below w.heap.size w W) => sfreeze_any T M c ver es rs rh W (h.below hb) (by rw [← ab_len]; exact ho.len)
  have hd : doS c rs rh ver (ab es) k a = ⟨0, 0, ver, ab (frzE es (risL (kyN es)))⟩ := by unfold doS; rw [if_neg hn0, if_neg hn1, if_neg hn2, if_neg hn3, ab_frzE, kyN_keysS]
  have HC := Lib.hid hc
  have HE := Lib.hid hd
  clear hd
  have q0 : (a.kind == 0) = false := by simp [hn0]
  have q1 : (a.kind == 1) = false := by simp [hn1]
  have q2 : (a.kind == 2) = false := by simp [hn2]
  have q3 : (a.kind == 3) = false := by simp [hn3]
  clear h ho hsl hr hn0 hn1 hn2 hn3 hc
  generalize doS c rs rh ver (ab es) k a = R at *
  go_enter Tryz.func17, Tryz.ntmps17
  go_wp2_with (first
    | (go_at_call 14
       refine calls_named ?_
       intro W1 hW1
       have hb1 : Below w.heap.size w W1 := by rw [hW1]; exact balloc (Below.refl _ _) _
       clear hW1
       refine (HC.out W1 hb1).mono ?_
       rintro e w2 ⟨A9, c9, rfl, _, h1a, h3⟩
       obtain ⟨es', hes⟩ : ∃ es', es' = frzE es (risL (kyN es)) := ⟨_, rfl⟩
       have h4 : Old W1.heap.size es es' := by rw [hes]; exact Old.frz _ _ _
       rw [← hes] at h1a h3 HE
       have h2 : ab es' = R.has := by rw [HE.out]
       have h1 : SAt w2 T M c R.ver es' rs rh := by rw [HE.out]; exact h1a
       clear h1a
       have HF := Lib.hid (And.intro h1 (And.intro h2 (And.intro ((Upd.of_below hb1 _).trans h3) (h4.mono hb1.size))))
       clear h1 h2 h3 h4 hb1))
  go_end0
  exact ⟨es', rfl, HF.out.1, HF.out.2.1, HF.out.2.2.1, HF.out.2.2.2⟩

theorem cdo_all (T M : Nat) (c : Cfg) (ver : Nat) (es : List (KO × NE)) (rs rh : Nat) (k : KO) (a : Act17) (w : World) (h : SAt w T M c ver es rs rh) (ho : SOk c rs rh ver (ab es)) (hsl : ∀ p ∈ ab es, p.2.smp.length ≤ 256) :
    Calls Tryz.prog 17 #[.pointer (some ⟨T, 0, none⟩), .agg (act18C k.1 a).toArray] w (CDoSays w T M c es rs rh (doS c rs rh ver (ab es) k a)) := by
  by_cases h0 : a.kind = 0
  · exact cdo_0 T M c ver es rs rh k a w h ho hsl h0
  by_cases h1 : a.kind = 1
  · exact cdo_1 T M c ver es rs rh k a w h ho hsl h0 h1
  by_cases h2 : a.kind = 2
  · exact cdo_2 T M c ver es rs rh k a w h ho hsl h0 h1 h2
  by_cases h3 : a.kind = 3
  · exact cdo_3 T M c ver es rs rh k a w h ho hsl h0 h1 h2 h3
  · exact cdo_4 T M c ver es rs rh k a w h ho hsl h0 h1 h2 h3
theorem play_cdo {w0 W : World} {T M : Nat} {c : Cfg} {rs rh n ver : Nat} {es : List (KO × NE)} {v : Value} {l : List It} (h : Play w0 W T M c rs rh n ver es v l) (hc : CfgOk c rs rh) (hn : n ≤ 100) (k : KO) (a : Act17) :
    ∃ R : DoR, Calls Tryz.prog 17 #[.pointer (some ⟨T, 0, none⟩), .agg (act18C k.1 a).toArray] W fun e w1 => ∃ es2, e = .returned (.tuple #[]) ∧ Half w0 w1 T M c rs rh n ver k a R es2 v l ∧ Upd W w1 (sfp T M es) (sfp T M es2) := by
  have hr := hc.room
  refine ⟨doS c rs rh ver (ab es) k a, (cdo_all T M c ver es rs rh k a W h.at_ (sok_of (W := W) (T := T) (M := M) h.grown h.ver_ hc hn) (smp_small h.at_ hr.r2)).mono ?_⟩
  rintro e w1 ⟨es2, he, h1, h2, hu, ho⟩
  exact ⟨es2, he, half_of h hn hu ho h1 h2, hu⟩

set_option maxRecDepth 100000 in
set_option maxHeartbeats 8000000 in
theorem made_19 (c : Cfg) (rs rh : Nat) (v : Value) (l : List ActK) (w : World) (hv : RowIn 16 actKC w v l) (hok : ∀ p ∈ l, p.1.ok) (hl : l.length ≤ 30) (hc : CfgOk c rs rh) :
    Calls Tryz.prog 12 #[.agg #[.int .i64 c.st, .int .i64 c.sa, .int .i64 c.lo, .int .i64 c.hi], v] w fun e w' => ∃ T M ver es m A cc, e = .returned (.tuple #[.pointer (some ⟨T, 0, none⟩), .slice A m.length cc]) ∧ Play w w' T M c rs rh l.length ver es (.slice A m.length cc) m := by
  obtain ⟨A, cc, rfl⟩ := hv.form
  have HC := Lib.hid hc
  have HV := Lib.hid hv
  have HOK := Lib.hid hok
  have HL := Lib.hid hl
  have hR := hc.room
  have h0 : 0 ≤ c.lo := by have := hc.cfg; unfold cfgB at this; simp only [Bool.and_eq_true, decide_eq_true_eq] at this; omega
  have HR := Lib.hid hR
  have H0 := Lib.hid h0
  have HNW : Hid (∀ W, Calls Tryz.prog 49 #[.agg #[.int .i64 c.st, .int .i64 c.sa, .int .i64 c.lo, .int .i64 c.hi]] W (NewStripe W c rs rh)) := Lib.hid (fun W => stripeNew_any c rs rh W hc.cfg hc.ok)
  have hl' : l.length ≤ 9223372036854775807 := by omega
  clear hv hok hl hc hR h0
  go_enter Tryz.func12, Tryz.ntmps12
  go_wp2_with (first
    | (go_at_call 49
       refine calls_named ?_
       intro W0 hW0
       have hb0 : Below w.heap.size w W0 := by rw [hW0]; exact balloc (Below.refl _ _) _
       have hxc : W0.heap[w.heap.size]? = some (.cells #[.int .i64 c.st, .int .i64 c.sa, .int .i64 c.lo, .int .i64 c.hi] 23 (0, 0)) := by rw [hW0]; exact heap_alloc_new _ _
       clear hW0
       refine (HNW.out W0).mono ?_
       intro e w3 hn
       obtain ⟨T, M, rfl, hp⟩ := play_new (Below.refl _ _) hn H0.out
       have HXC := Lib.hid hxc
       have HB0 := Lib.hid hb0
       have HP3 := Lib.hid hp
       clear hn hp hxc hb0))
  go_loopg [7, 14] l.length (fun g s7 s14 wr => ∃ (n ver : Nat) (es : List (KO × NE)) (m : List It), n ≤ l.length ∧ l.length - n ≤ g ∧ s14 = .int .i64 n ∧ Play W0 wr T M c rs rh n ver es s7 m)
  case atStart => exact ⟨0, 0, [], [], Nat.zero_le _, Nat.le_refl _, rfl, HP3.out⟩
  case round =>
    obtain ⟨n, ver, es, m, hn, hg, rfl, hp⟩ := hrel
    have hbw : Below w.heap.size w wr := HB0.out.trans (hp.base.mono HB0.out.size)
    obtain ⟨Am, cm, rfl⟩ := hp.items.1.1.form
    have HP := Lib.hid hp
    clear hp
    by_cases hlt : n < l.length
    · as_aux_lemma =>
      obtain ⟨b, o, rfl, hbl, hat⟩ := (HV.out.below hbw).at_ hlt
      have hxok := HOK.out _ (List.getElem_mem hlt)
      generalize l[n] = x at hat hxok
      obtain ⟨ky, a⟩ := x
      obtain ⟨ko, rfl⟩ : ∃ ko : KO, ko.1 = ky := ⟨⟨ky, hxok⟩, rfl⟩
      have c0 := hat 0 _ rfl
      have c1 := hat 1 _ rfl
      have c2 := hat 2 _ rfl
      have c3 := hat 3 _ rfl
      have c4 := hat 4 _ rfl
      have c5 := hat 5 _ rfl
      have c6 := hat 6 _ rfl
      have c7 := hat 7 _ rfl
      have c8 := hat 8 _ rfl
      have c9 := hat 9 _ rfl
      have c10 := hat 10 _ rfl
      have c11 := hat 11 _ rfl
      have c12 := hat 12 _ rfl
      have c13 := hat 13 _ rfl
      have c14 := hat 14 _ rfl
      have c15 := hat 15 _ rfl
      rw [Nat.add_zero] at c0
      simp only at c0 c1 c2 c3 c4 c5 c6 c7 c8 c9 c10 c11 c12 c13 c14 c15 hxok
      have HBW := Lib.hid hbw
      have hn1 : (n : Int) < (l.length : Int) := by omega
      have hn0 : (0 : Int) ≤ (n : Int) := by omega
      clear hat hbw hxok
      go_wp2_with (first
        | (go_at_call 17
           refine calls_named ?_
           intro W4 hW4
           have hb4 : Below wr.heap.size wr W4 := by rw [hW4]; exact balloc (Below.refl _ _) _
           have hx4 : W4.heap[wr.heap.size]? = some (.cells #[.int .u64 ko.1.1, .int .u64 ko.1.2, .int .i64 a.kind, .int .i64 a.smp.1, .int .i64 a.smp.2, .int .i64 a.pol.mn, .int .i64 a.pol.mx, .int .i64 a.pol.tg, .int .i64 a.pol.tol, .int .i64 a.pol.win, .int .i64 a.pol.hold, .int .i64 a.adv.tick, .int .i64 a.adv.load, .int .i64 a.adv.want, .int .i64 a.adv.repl, .int .i64 a.adv.why] 50 (0, 0)) := by rw [hW4]; exact heap_alloc_new _ _
           clear hW4
           have hnew : wr.heap.size ∉ sfp T M es := fun hq => by have := HP.out.at_.sfpLt _ hq; omega
           obtain ⟨R, hdo⟩ := play_cdo (HP.out.below hb4) HC.out (by have := HL.out; omega) ko a
           refine hdo.mono ?_
           rintro e w5 ⟨es2, rfl, hh, hu⟩
           have hx5 := (hu.block _ (Array.getElem?_eq_some_iff.1 hx4).1 hnew).trans hx4
           obtain ⟨a3, a3f, a3l⟩ := box_cells (Below.refl _ _) hx5
           obtain ⟨a4, a4f, a4l⟩ := box_cells hh.base HXC.out
           have HH := Lib.hid hh
           clear hb4 hx4 hnew hdo hh hu hx5)
        | (go_at_call 50
           refine (half_do18 HH.out HC.out (by have := HL.out; omega)).mono ?_
           rintro e w6 ⟨out, A6, c6', rfl, hp6, hb6⟩
           have HP6 := Lib.hid hp6
           clear hp6 hb6))
      go_roundg (l.length - (n + 1))
      case measure => omega
      case rel => exact ⟨n + 1, R.ver, es2, out, hlt, Nat.le_refl _, by go_num, HP6.out⟩
    · obtain rfl : n = l.length := by omega
      clear hbw hg hn hlt
      go_wp2_with fail
      go_ret2
      exact ⟨T, M, ver, es, m, Am, cm, rfl, HP.out.from_ HB0.out⟩
end

end Go.Proofs.YtfegielnmdppgaaGreat
