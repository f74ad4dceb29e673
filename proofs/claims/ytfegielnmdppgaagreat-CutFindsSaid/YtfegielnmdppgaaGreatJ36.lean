/- Chapter 19's do and made. -/
import Derived.Test.YtfegielnmdppgaaGreatJ35
namespace Go.Proofs.YtfegielnmdppgaaGreat

section
set_option linter.unusedSimpArgs false
set_option linter.unusedVariables false
open Go.RowKit Go.Lib Go.Sort

def CDoSays (w : World) (T M : Nat) (c : Cfg) (es : List (KO × NE)) (rs rh : Nat) (r : DoR) (e : Ending) (w' : World) : Prop :=
  ∃ es', e = .returned (.tuple #[]) ∧ SAt w' T M c r.ver es' rs rh ∧ ab es' = r.has ∧ Upd w w' (sfp T M es) (sfp T M es') ∧ Old w.heap.size es es'

set_option maxRecDepth 100000 in
set_option maxHeartbeats 4000000 in
theorem cdo_0 (T M : Nat) (c : Cfg) (ver : Nat) (es : List (KO × NE)) (rs rh : Nat) (k : KO) (a : Act17) (w : World) (h : SAt w T M c ver es rs rh) (ho : SOk c rs rh ver (ab es)) (hsl : ∀ p ∈ ab es, p.2.smp.length ≤ 256)  (hk : a.kind = 0) :
    Calls Tryz.prog 17 #[.pointer (some ⟨T, 0, none⟩), .agg (act18C k.1 a).toArray] w (CDoSays w T M c es rs rh (doS c rs rh ver (ab es) k a)) := by
  rw [show (act18C k.1 a).toArray = #[.int .u64 k.1.1, .int .u64 k.1.2, .int .i64 a.kind, .int .i64 a.smp.1, .int .i64 a.smp.2, .int .i64 a.pol.mn, .int .i64 a.pol.mx, .int .i64 a.pol.tg, .int .i64 a.pol.tol, .int .i64 a.pol.win, .int .i64 a.pol.hold, .int .i64 a.adv.tick, .int .i64 a.adv.load, .int .i64 a.adv.want, .int .i64 a.adv.repl, .int .i64 a.adv.why] from rfl]
  have hr := ho.room
  have hc := fun (W : World) (hb : Below w.heap.size w W) => ingest_all T M c ver es rs rh k a W (h.below hb) ho hk
  have HC := Lib.hid hc
  have q0 : (a.kind == 0) = true := by simp [hk]
  clear h ho hsl hr  hk hc
  generalize doS c rs rh ver (ab es) k a = R at *
  go_enter Tryz.func17, Tryz.ntmps17
  go_wp2_with (first
    | (go_at_call 60
       refine calls_named ?_
       intro W1 hW1
       have hb1 : Below w.heap.size w W1 := by rw [hW1]; exact balloc (Below.refl _ _) _
       clear hW1
       refine (HC.out W1 hb1).mono ?_
       rintro e w2 ⟨es', rfl, h1, h2, h3, h4⟩
       have HF := Lib.hid (And.intro h1 (And.intro h2 (And.intro ((Upd.of_below hb1 _).trans h3) (h4.mono hb1.size))))
       clear h1 h2 h3 h4 hb1))
  go_end0
  exact ⟨es', rfl, HF.out.1, HF.out.2.1, HF.out.2.2.1, HF.out.2.2.2⟩

set_option maxRecDepth 100000 in
set_option maxHeartbeats 4000000 in
theorem cdo_1 (T M : Nat) (c : Cfg) (ver : Nat) (es : List (KO × NE)) (rs rh : Nat) (k : KO) (a : Act17) (w : World) (h : SAt w T M c ver es rs rh) (ho : SOk c rs rh ver (ab es)) (hsl : ∀ p ∈ ab es, p.2.smp.length ≤ 256) (hn0 : a.kind ≠ 0) (hk : a.kind = 1) :
    Calls Tryz.prog 17 #[.pointer (some ⟨T, 0, none⟩), .agg (act18C k.1 a).toArray] w (CDoSays w T M c es rs rh (doS c rs rh ver (ab es) k a)) := by
  rw [show (act18C k.1 a).toArray = #[.int .u64 k.1.1, .int .u64 k.1.2, .int .i64 a.kind, .int .i64 a.smp.1, .int .i64 a.smp.2, .int .i64 a.pol.mn, .int .i64 a.pol.mx, .int .i64 a.pol.tg, .int .i64 a.pol.tol, .int .i64 a.pol.win, .int .i64 a.pol.hold, .int .i64 a.adv.tick, .int .i64 a.adv.load, .int .i64 a.adv.want, .int .i64 a.adv.repl, .int .i64 a.adv.why] from rfl]
  have hr := ho.room
  have hl1 := ho.len
  have hc := fun (W : World) (hb : Below w.heap.size w W) => strim_any T M c ver es rs rh a.smp.1 W (h.below hb) hr.1 hr.2 (by rw [← ab_len]; exact ho.len) ho.ver_ ho.vers hsl
  have hd : doS c rs rh ver (ab es) k a = ⟨0, goneS (ab es) a.smp.1 (risL (kyN es)), ver + manyS (ab es) a.smp.1 (risL (kyN es)), trimK (ab es) a.smp.1 (risL (kyN es))⟩ := by unfold doS; rw [if_neg hn0, if_pos hk, kyN_keysS]
  have hc : ∀ (W : World), Below w.heap.size w W → Calls Tryz.prog 61 #[.pointer (some ⟨T, 0, none⟩), .int .i64 a.smp.1] W (SSays W T M c es rs rh (.int .i64 ((doS c rs rh ver (ab es) k a).gone : Nat)) (doS c rs rh ver (ab es) k a).ver (doS c rs rh ver (ab es) k a).has) := by rw [hd]; exact hc
  have HC := Lib.hid hc
  clear hl1 hd
  have q0 : (a.kind == 0) = false := by simp [hn0]
  have q1 : (a.kind == 1) = true := by simp [hk]
  clear h ho hsl hr hn0 hk hc
  generalize doS c rs rh ver (ab es) k a = R at *
  go_enter Tryz.func17, Tryz.ntmps17
  go_wp2_with (first
    | (go_at_call 61
       refine calls_named ?_
       intro W1 hW1
       have hb1 : Below w.heap.size w W1 := by rw [hW1]; exact balloc (Below.refl _ _) _
       clear hW1
       refine (HC.out W1 hb1).mono ?_
       rintro e w2 ⟨es', rfl, h1, h2, h3, h4⟩
       have HF := Lib.hid (And.intro h1 (And.intro h2 (And.intro ((Upd.of_below hb1 _).trans h3) (h4.mono hb1.size))))
       clear h1 h2 h3 h4 hb1))
  go_end0
  exact ⟨es', rfl, HF.out.1, HF.out.2.1, HF.out.2.2.1, HF.out.2.2.2⟩

set_option maxRecDepth 100000 in
set_option maxHeartbeats 4000000 in
theorem cdo_2 (T M : Nat) (c : Cfg) (ver : Nat) (es : List (KO × NE)) (rs rh : Nat) (k : KO) (a : Act17) (w : World) (h : SAt w T M c ver es rs rh) (ho : SOk c rs rh ver (ab es)) (hsl : ∀ p ∈ ab es, p.2.smp.length ≤ 256) (hn0 : a.kind ≠ 0) (hn1 : a.kind ≠ 1) (hk : a.kind = 2) :
    Calls Tryz.prog 17 #[.pointer (some ⟨T, 0, none⟩), .agg (act18C k.1 a).toArray] w (CDoSays w T M c es rs rh (doS c rs rh ver (ab es) k a)) := by
  rw [show (act18C k.1 a).toArray = #[.int .u64 k.1.1, .int .u64 k.1.2, .int .i64 a.kind, .int .i64 a.smp.1, .int .i64 a.smp.2, .int .i64 a.pol.mn, .int .i64 a.pol.mx, .int .i64 a.pol.tg, .int .i64 a.pol.tol, .int .i64 a.pol.win, .int .i64 a.pol.hold, .int .i64 a.adv.tick, .int .i64 a.adv.load, .int .i64 a.adv.want, .int .i64 a.adv.repl, .int .i64 a.adv.why] from rfl]
  have hr := ho.room
  have hc := fun (W : World) (hb : Below w.heap.size w W) => set_all T M c ver es rs rh k a W (h.below hb) ho hk
  unfold polV at hc
  have HC := Lib.hid hc
  have q0 : (a.kind == 0) = false := by simp [hn0]
  have q1 : (a.kind == 1) = false := by simp [hn1]
  have q2 : (a.kind == 2) = true := by simp [hk]
  clear h ho hsl hr hn0 hn1 hk hc
  generalize doS c rs rh ver (ab es) k a = R at *
  go_enter Tryz.func17, Tryz.ntmps17
  go_wp2_with (first
    | (go_at_call 62
       refine calls_named ?_
       intro W1 hW1
       have hb1 : Below w.heap.size w W1 := by rw [hW1]; exact balloc (Below.refl _ _) _
       clear hW1
       refine (HC.out W1 hb1).mono ?_
       rintro e w2 ⟨es', rfl, h1, h2, h3, h4⟩
       have HF := Lib.hid (And.intro h1 (And.intro h2 (And.intro ((Upd.of_below hb1 _).trans h3) (h4.mono hb1.size))))
       clear h1 h2 h3 h4 hb1))
  go_end0
  exact ⟨es', rfl, HF.out.1, HF.out.2.1, HF.out.2.2.1, HF.out.2.2.2⟩

set_option maxRecDepth 100000 in
set_option maxHeartbeats 4000000 in
theorem cdo_3 (T M : Nat) (c : Cfg) (ver : Nat) (es : List (KO × NE)) (rs rh : Nat) (k : KO) (a : Act17) (w : World) (h : SAt w T M c ver es rs rh) (ho : SOk c rs rh ver (ab es)) (hsl : ∀ p ∈ ab es, p.2.smp.length ≤ 256) (hn0 : a.kind ≠ 0) (hn1 : a.kind ≠ 1) (hn2 : a.kind ≠ 2) (hk : a.kind = 3) :
    Calls Tryz.prog 17 #[.pointer (some ⟨T, 0, none⟩), .agg (act18C k.1 a).toArray] w (CDoSays w T M c es rs rh (doS c rs rh ver (ab es) k a)) := by
  rw [show (act18C k.1 a).toArray = #[.int .u64 k.1.1, .int .u64 k.1.2, .int .i64 a.kind, .int .i64 a.smp.1, .int .i64 a.smp.2, .int .i64 a.pol.mn, .int .i64 a.pol.mx, .int .i64 a.pol.tg, .int .i64 a.pol.tol, .int .i64 a.pol.win, .int .i64 a.pol.hold, .int .i64 a.adv.tick, .int .i64 a.adv.load, .int .i64 a.adv.want, .int .i64 a.adv.repl, .int .i64 a.adv.why] from rfl]
  have hr := ho.room
  have hc := fun (W : World) (hb : Below w.heap.size w W) => note_all T M c ver es rs rh k a W (h.below hb) ho hk
  rw [show (advC a.adv).toArray = #[.int .i64 a.adv.tick, .int .i64 a.adv.load, .int .i64 a.adv.want, .int .i64 a.adv.repl, .int .i64 a.adv.why] from rfl] at hc
  have HC := Lib.hid hc
  have q0 : (a.kind == 0) = false := by simp [hn0]
  have q1 : (a.kind == 1) = false := by simp [hn1]
  have q2 : (a.kind == 2) = false := by simp [hn2]
  have q3 : (a.kind == 3) = true := by simp [hk]
  clear h ho hsl hr hn0 hn1 hn2 hk hc
  generalize doS c rs rh ver (ab es) k a = R at *
  go_enter Tryz.func17, Tryz.ntmps17
  go_wp2_with (first
    | (go_at_call 63
       refine calls_named ?_
       intro W1 hW1
       have hb1 : Below w.heap.size w W1 := by rw [hW1]; exact balloc (Below.refl _ _) _
       clear hW1
       refine (HC.out W1 hb1).mono ?_
       rintro e w2 ⟨es', rfl, h1, h2, h3, h4⟩
       have HF := Lib.hid (And.intro h1 (And.intro h2 (And.intro ((Upd.of_below hb1 _).trans h3) (h4.mono hb1.size))))
       clear h1 h2 h3 h4 hb1))
  go_end0
  exact ⟨es', rfl, HF.out.1, HF.out.2.1, HF.out.2.2.1, HF.out.2.2.2⟩

set_option maxRecDepth 100000 in
set_option maxHeartbeats 4000000 in
theorem cdo_4 (T M : Nat) (c : Cfg) (ver : Nat) (es : List (KO × NE)) (rs rh : Nat) (k : KO) (a : Act17) (w : World) (h : SAt w T M c ver es rs rh) (ho : SOk c rs rh ver (ab es)) (hsl : ∀ p ∈ ab es, p.2.smp.length ≤ 256) (hn0 : a.kind ≠ 0) (hn1 : a.kind ≠ 1) (hn2 : a.kind ≠ 2) (hn3 : a.kind ≠ 3) :
    Calls Tryz.prog 17 #[.pointer (some ⟨T, 0, none⟩), .agg (act18C k.1 a).toArray] w (CDoSays w T M c es rs rh (doS c rs rh ver (ab es) k a)) := by
  rw [show (act18C k.1 a).toArray = #[.int .u64 k.1.1, .int .u64 k.1.2, .int .i64 a.kind, .int .i64 a.smp.1, .int .i64 a.smp.2, .int .i64 a.pol.mn, .int .i64 a.pol.mx, .int .i64 a.pol.tg, .int .i64 a.pol.tol, .int .i64 a.pol.win, .int .i64 a.pol.hold, .int .i64 a.adv.tick, .int .i64 a.adv.load, .int .i64 a.adv.want, .int .i64 a.adv.repl, .int .i64 a.adv.why] from rfl]
  have hr := ho.room
  have hc := fun (W : World) (hb : Below w.heap.size w W) => sfreeze_any T M c ver es rs rh W (h.below hb) (by rw [← ab_len]; exact ho.len)
  have hd : doS c rs rh ver (ab es) k a = ⟨0, 0, ver, ab (frzE es (risL (kyN es)))⟩ := by unfold doS; rw [if_neg hn0, if_neg hn1, if_neg hn2, if_neg hn3, ab_frzE, kyN_keysS]
  have HC := Lib.hid hc
  have HE := Lib.hid hd
  clear hd
  have q0 : (a.kind == 0) = false := by simp [hn0]
  have q1 : (a.kind == 1) = false := by simp [hn1]
  have q2 : (a.kind == 2) = false := by simp [hn2]
  have q3 : (a.kind == 3) = false := by simp [hn3]
  clear h ho hsl hr hn0 hn1 hn2 hn3 hc
  generalize doS c rs rh ver (ab es) k a = R at *
  go_enter Tryz.func17, Tryz.ntmps17
  go_wp2_with (first
    | (go_at_call 14
       refine calls_named ?_
       intro W1 hW1
       have hb1 : Below w.heap.size w W1 := by rw [hW1]; exact balloc (Below.refl _ _) _
       clear hW1
       refine (HC.out W1 hb1).mono ?_
       rintro e w2 ⟨A9, c9, rfl, _, h1a, h3⟩
       obtain ⟨es', hes⟩ : ∃ es', es' = frzE es (risL (kyN es)) := ⟨_, rfl⟩
       have h4 : Old W1.heap.size es es' := by rw [hes]; exact Old.frz _ _ _
       rw [← hes] at h1a h3 HE
       have h2 : ab es' = R.has := by rw [HE.out]
       have h1 : SAt w2 T M c R.ver es' rs rh := by rw [HE.out]; exact h1a
       clear h1a
       have HF := Lib.hid (And.intro h1 (And.intro h2 (And.intro ((Upd.of_below hb1 _).trans h3) (h4.mono hb1.size))))
       clear h1 h2 h3 h4 hb1))
  go_end0
  exact ⟨es', rfl, HF.out.1, HF.out.2.1, HF.out.2.2.1, HF.out.2.2.2⟩

theorem cdo_all (T M : Nat) (c : Cfg) (ver : Nat) (es : List (KO × NE)) (rs rh : Nat) (k : KO) (a : Act17) (w : World) (h : SAt w T M c ver es rs rh) (ho : SOk c rs rh ver (ab es)) (hsl : ∀ p ∈ ab es, p.2.smp.length ≤ 256) :
    Calls Tryz.prog 17 #[.pointer (some ⟨T, 0, none⟩), .agg (act18C k.1 a).toArray] w (CDoSays w T M c es rs rh (doS c rs rh ver (ab es) k a)) := by
  by_cases h0 : a.kind = 0
  · exact cdo_0 T M c ver es rs rh k a w h ho hsl h0
  by_cases h1 : a.kind = 1
  · exact cdo_1 T M c ver es rs rh k a w h ho hsl h0 h1
  by_cases h2 : a.kind = 2
  · exact cdo_2 T M c ver es rs rh k a w h ho hsl h0 h1 h2
  by_cases h3 : a.kind = 3
  · exact cdo_3 T M c ver es rs rh k a w h ho hsl h0 h1 h2 h3
  · exact cdo_4 T M c ver es rs rh k a w h ho hsl h0 h1 h2 h3
end

end Go.Proofs.YtfegielnmdppgaaGreat
