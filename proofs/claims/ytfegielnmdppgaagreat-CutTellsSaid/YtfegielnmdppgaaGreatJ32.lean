/- Chapter 19's do and made; A stable merge in place, by rotations: the plain law. -/
import Derived.Test.YtfegielnmdppgaaGreatJ31
import Derived.Sort.LotA
import Derived.Sort.Lot0
namespace Go.Proofs.YtfegielnmdppgaaGreat

section
set_option linter.unusedSimpArgs false
set_option linter.unusedVariables false
open Go.RowKit Go.Lib Go.Sort

def CDoSays (w : World) (T M : Nat) (c : Cfg) (es : List (KO × NE)) (rs rh : Nat) (r : DoR) (e : Ending) (w' : World) : Prop :=
  ∃ es', e = .returned (.tuple #[]) ∧ SAt w' T M c r.ver es' rs rh ∧ ab es' = r.has ∧ Upd w w' (sfp T M es) (sfp T M es') ∧ Old w.heap.size es es'

set_option maxRecDepth 100000 in
set_option maxHeartbeats 4000000 in
theorem cdo_0 (T M : Nat) (c : Cfg) (ver : Nat) (es : List (KO × NE)) (rs rh : Nat) (k : KO) (a : Act17) (w : World) (h : SAt w T M c ver es rs rh) (ho : SOk c rs rh ver (ab es)) (hsl : ∀ p ∈ ab es, p.2.smp.length ≤ 256)  (hk : a.kind = 0) :
    Calls Tryz.prog 17 #[.pointer (some ⟨T, 0, none⟩), .agg (act18C k.1 a).toArray] w (CDoSays w T M c es rs rh (doS c rs rh ver (ab es) k a)) := by
  rw [show (act18C k.1 a).toArray = #[.int .u64 k.1.1, .int .u64 k.1.2, .int .i64 a.kind, .int .i64 a.smp.1, .int .i64 a.smp.2, .int .i64 a.pol.mn, .int .i64 a.pol.mx, .int .i64 a.pol.tg, .int .i64 a.pol.tol, .int .i64 a.pol.win, .int .i64 a.pol.hold, .int .i64 a.adv.tick, .int .i64 a.adv.load, .int .i64 a.adv.want, .int .i64 a.adv.repl, .int .i64 a.adv.why] from rfl]
  have hr := ho.room
  have hc := fun (W : World) (hb : Below w.heap.size w W) => ingest_all T M c ver es rs rh k a W (h.below hb) ho hk
  have HC := Lib.hid hc
  have q0 : (a.kind == 0) = true := by simp [hk]
  clear h ho hsl hr  hk hc
  generalize doS c rs rh ver (ab es) k a = R at *
  go_enter Tryz.func17, Tryz.ntmps17
  go_wp2_with (first
    | (go_at_call 60
       refine calls_named ?_
       intro W1 hW1
       have hb1 : Below w.heap.size w W1 := by rw [hW1]; exact balloc (Below.refl _ _) _
       clear hW1
       refine (HC.out W1 hb1).mono ?_
       rintro e w2 ⟨es', rfl, h1, h2, h3, h4⟩
       have HF := Lib.hid (And.intro h1 (And.intro h2 (And.intro ((Upd.of_below hb1 _).trans h3) (h4.mono hb1.size))))
       clear h1 h2 h3 h4 hb1))
  go_end0
  exact ⟨es', rfl, HF.out.1, HF.out.2.1, HF.out.2.2.1, HF.out.2.2.2⟩

set_option maxRecDepth 100000 in
set_option maxHeartbeats 4000000 in
theorem cdo_1 (T M : Nat) (c : Cfg) (ver : Nat) (es : List (KO × NE)) (rs rh : Nat) (k : KO) (a : Act17) (w : World) (h : SAt w T M c ver es rs rh) (ho : SOk c rs rh ver (ab es)) (hsl : ∀ p ∈ ab es, p.2.smp.length ≤ 256) (hn0 : a.kind ≠ 0) (hk : a.kind = 1) :
    Calls Tryz.prog 17 #[.pointer (some ⟨T, 0, none⟩), .agg (act18C k.1 a).toArray] w (CDoSays w T M c es rs rh (doS c rs rh ver (ab es) k a)) := by
  rw [show (act18C k.1 a).toArray = #[.int .u64 k.1.1, .int .u64 k.1.2, .int .i64 a.kind, .int .i64 a.smp.1, .int .i64 a.smp.2, .int .i64 a.pol.mn, .int .i64 a.pol.mx, .int .i64 a.pol.tg, .int .i64 a.pol.tol, .int .i64 a.pol.win, .int .i64 a.pol.hold, .int .i64 a.adv.tick, .int .i64 a.adv.load, .int .i64 a.adv.want, .int .i64 a.adv.repl, .int .i64 a.adv.why] from rfl]
  have hr := ho.room
  have hl1 := ho.len
  have hc := fun (W : World) (hb : Below w.heap.size w W) => strim_any T M c ver es rs rh a.smp.1 W (h.below hb) hr.1 hr.2 (by rw [← ab_len]; exact ho.len) ho.ver_ ho.vers hsl
  have hd : doS c rs rh ver (ab es) k a = ⟨0, goneS (ab es) a.smp.1 (risL (kyN es)), ver + manyS (ab es) a.smp.1 (risL (kyN es)), trimK (ab es) a.smp.1 (risL (kyN es))⟩ := by unfold doS; rw [if_neg hn0, if_pos hk, kyN_keysS]
  have hc : ∀ (W : World), Below w.heap.size w W → Calls Tryz.prog 61 #[.pointer (some ⟨T, 0, none⟩), .int .i64 a.smp.1] W (SSays W T M c es rs rh (.int .i64 ((doS c rs rh ver (ab es) k a).gone : Nat)) (doS c rs rh ver (ab es) k a).ver (doS c rs rh ver (ab es) k a).has) := by rw [hd]; exact hc
  have HC := Lib.hid hc
  clear hl1 hd
  have q0 : (a.kind == 0) = false := by simp [hn0]
  have q1 : (a.kind == 1) = true := by simp [hk]
  clear h ho hsl hr hn0 hk hc
  generalize doS c rs rh ver (ab es) k a = R at *
  go_enter Tryz.func17, Tryz.ntmps17
  go_wp2_with (first
    | (go_at_call 61
       refine calls_named ?_
       intro W1 hW1
       have hb1 : Below w.heap.size w W1 := by rw [hW1]; exact balloc (Below.refl _ _) _
       clear hW1
       refine (HC.out W1 hb1).mono ?_
       rintro e w2 ⟨es', rfl, h1, h2, h3, h4⟩
       have HF := Lib.hid (And.intro h1 (And.intro h2 (And.intro ((Upd.of_below hb1 _).trans h3) (h4.mono hb1.size))))
       clear h1 h2 h3 h4 hb1))
  go_end0
  exact ⟨es', rfl, HF.out.1, HF.out.2.1, HF.out.2.2.1, HF.out.2.2.2⟩

set_option maxRecDepth 100000 in
set_option maxHeartbeats 4000000 in
theorem cdo_2 (T M : Nat) (c : Cfg) (ver : Nat) (es : List (KO × NE)) (rs rh : Nat) (k : KO) (a : Act17) (w : World) (h : SAt w T M c ver es rs rh) (ho : SOk c rs rh ver (ab es)) (hsl : ∀ p ∈ ab es, p.2.smp.length ≤ 256) (hn0 : a.kind ≠ 0) (hn1 : a.kind ≠ 1) (hk : a.kind = 2) :
    Calls Tryz.prog 17 #[.pointer (some ⟨T, 0, none⟩), .agg (act18C k.1 a).toArray] w (CDoSays w T M c es rs rh (doS c rs rh ver (ab es) k a)) := by
  rw [show (act18C k.1 a).toArray = #[.int .u64 k.1.1, .int .u64 k.1.2, .int .i64 a.kind, .int .i64 a.smp.1, .int .i64 a.smp.2, .int .i64 a.pol.mn, .int .i64 a.pol.mx, .int .i64 a.pol.tg, .int .i64 a.pol.tol, .int .i64 a.pol.win, .int .i64 a.pol.hold, .int .i64 a.adv.tick, .int .i64 a.adv.load, .int .i64 a.adv.want, .int .i64 a.adv.repl, .int .i64 a.adv.why] from rfl]
  have hr := ho.room
  have hc := fun (W : World) (hb : Below w.heap.size w W) => set_all T M c ver es rs rh k a W (h.below hb) ho hk
  unfold polV at hc
  have HC := Lib.hid hc
  have q0 : (a.kind == 0) = false := by simp [hn0]
  have q1 : (a.kind == 1) = false := by simp [hn1]
  have q2 : (a.kind == 2) = true := by simp [hk]
  clear h ho hsl hr hn0 hn1 hk hc
  generalize doS c rs rh ver (ab es) k a = R at *
  go_enter Tryz.func17, Tryz.ntmps17
  go_wp2_with (first
    | (go_at_call 62
       refine calls_named ?_
       intro W1 hW1
       have hb1 : Below w.heap.size w W1 := by rw [hW1]; exact balloc (Below.refl _ _) _
       clear hW1
       refine (HC.out W1 hb1).mono ?_
       rintro e w2 ⟨es', rfl, h1, h2, h3, h4⟩
       have HF := Lib.hid (And.intro h1 (And.intro h2 (And.intro ((Upd.of_below hb1 _).trans h3) (h4.mono hb1.size))))
       clear h1 h2 h3 h4 hb1))
  go_end0
  exact ⟨es', rfl, HF.out.1, HF.out.2.1, HF.out.2.2.1, HF.out.2.2.2⟩

set_option maxRecDepth 100000 in
set_option maxHeartbeats 4000000 in
theorem cdo_3 (T M : Nat) (c : Cfg) (ver : Nat) (es : List (KO × NE)) (rs rh : Nat) (k : KO) (a : Act17) (w : World) (h : SAt w T M c ver es rs rh) (ho : SOk c rs rh ver (ab es)) (hsl : ∀ p ∈ ab es, p.2.smp.length ≤ 256) (hn0 : a.kind ≠ 0) (hn1 : a.kind ≠ 1) (hn2 : a.kind ≠ 2) (hk : a.kind = 3) :
    Calls Tryz.prog 17 #[.pointer (some ⟨T, 0, none⟩), .agg (act18C k.1 a).toArray] w (CDoSays w T M c es rs rh (doS c rs rh ver (ab es) k a)) := by
  rw [show (act18C k.1 a).toArray = #[.int .u64 k.1.1, .int .u64 k.1.2, .int .i64 a.kind, .int .i64 a.smp.1, .int .i64 a.smp.2, .int .i64 a.pol.mn, .int .i64 a.pol.mx, .int .i64 a.pol.tg, .int .i64 a.pol.tol, .int .i64 a.pol.win, .int .i64 a.pol.hold, .int .i64 a.adv.tick, .int .i64 a.adv.load, .int .i64 a.adv.want, .int .i64 a.adv.repl, .int .i64 a.adv.why] from rfl]
  have hr := ho.room
  have hc := fun (W : World) (hb : Below w.heap.size w W) => note_all T M c ver es rs rh k a W (h.below hb) ho hk
  rw [show (advC a.adv).toArray = #[.int .i64 a.adv.tick, .int .i64 a.adv.load, .int .i64 a.adv.want, .int .i64 a.adv.repl, .int .i64 a.adv.why] from rfl] at hc
  have HC := Lib.hid hc
  have q0 : (a.kind == 0) = false := by simp [hn0]
  have q1 : (a.kind == 1) = false := by simp [hn1]
  have q2 : (a.kind == 2) = false := by simp [hn2]
  have q3 : (a.kind == 3) = true := by simp [hk]
  clear h ho hsl hr hn0 hn1 hn2 hk hc
  generalize doS c rs rh ver (ab es) k a = R at *
  go_enter Tryz.func17, Tryz.ntmps17
  go_wp2_with (first
    | (go_at_call 63
       refine calls_named ?_
       intro W1 hW1
       have hb1 : Below w.heap.size w W1 := by rw [hW1]; exact balloc (Below.refl _ _) _
       clear hW1
       refine (HC.out W1 hb1).mono ?_
       rintro e w2 ⟨es', rfl, h1, h2, h3, h4⟩
       have HF := Lib.hid (And.intro h1 (And.intro h2 (And.intro ((Upd.of_below hb1 _).trans h3) (h4.mono hb1.size))))
       clear h1 h2 h3 h4 hb1))
  go_end0
  exact ⟨es', rfl, HF.out.1, HF.out.2.1, HF.out.2.2.1, HF.out.2.2.2⟩

set_option maxRecDepth 100000 in
set_option maxHeartbeats 4000000 in
theorem cdo_4 (T M : Nat) (c : Cfg) (ver : Nat) (es : List (KO × NE)) (rs rh : Nat) (k : KO) (a : Act17) (w : World) (h : SAt w T M c ver es rs rh) (ho : SOk c rs rh ver (ab es)) (hsl : ∀ p ∈ ab es, p.2.smp.length ≤ 256) (hn0 : a.kind ≠ 0) (hn1 : a.kind ≠ 1) (hn2 : a.kind ≠ 2) (hn3 : a.kind ≠ 3) :
    Calls Tryz.prog 17 #[.pointer (some ⟨T, 0, none⟩), .agg (act18C k.1 a).toArray] w (CDoSays w T M c es rs rh (doS c rs rh ver (ab es) k a)) := by
  rw [show (act18C k.1 a).toArray = #[.int .u64 k.1.1, .int .u64 k.1.2, .int .i64 a.kind, .int .i64 a.smp.1, .int .i64 a.smp.2, .int .i64 a.pol.mn, .int .i64 a.pol.mx, .int .i64 a.pol.tg, .int .i64 a.pol.tol, .int .i64 a.pol.win, .int .i64 a.pol.hold, .int .i64 a.adv.tick, .int .i64 a.adv.load, .int .i64 a.adv.want, .int .i64 a.adv.repl, .int .i64 a.adv.why] from rfl]
  have hr := ho.room
  have hc := fun (W : World) (hb : Below w.heap.size w W) => sfreeze_any T M c ver es rs rh W (h.below hb) (by rw [← ab_len]; exact ho.len)
  have hd : doS c rs rh ver (ab es) k a = ⟨0, 0, ver, ab (frzE es (risL (kyN es)))⟩ := by unfold doS; rw [if_neg hn0, if_neg hn1, if_neg hn2, if_neg hn3, ab_frzE, kyN_keysS]
  have HC := Lib.hid hc
  have HE := Lib.hid hd
  clear hd
  have q0 : (a.kind == 0) = false := by simp [hn0]
  have q1 : (a.kind == 1) = false := by simp [hn1]
  have q2 : (a.kind == 2) = false := by simp [hn2]
  have q3 : (a.kind == 3) = false := by simp [hn3]
  clear h ho hsl hr hn0 hn1 hn2 hn3 hc
  generalize doS c rs rh ver (ab es) k a = R at *
  go_enter Tryz.func17, Tryz.ntmps17
  go_wp2_with (first
    | (go_at_call 14
       refine calls_named ?_
       intro W1 hW1
       have hb1 : Below w.heap.size w W1 := by rw [hW1]; exact balloc (Below.refl _ _) _
       clear hW1
       refine (HC.out W1 hb1).mono ?_
       rintro e w2 ⟨A9, c9, rfl, _, h1a, h3⟩
       obtain ⟨es', hes⟩ : ∃ es', es' = frzE es (risL (kyN es)) := ⟨_, rfl⟩
       have h4 : Old W1.heap.size es es' := by rw [hes]; exact Old.frz _ _ _
       rw [← hes] at h1a h3 HE
       have h2 : ab es' = R.has := by rw [HE.out]
       have h1 : SAt w2 T M c R.ver es' rs rh := by rw [HE.out]; exact h1a
       clear h1a
       have HF := Lib.hid (And.intro h1 (And.intro h2 (And.intro ((Upd.of_below hb1 _).trans h3) (h4.mono hb1.size))))
       clear h1 h2 h3 h4 hb1))
  go_end0
  exact ⟨es', rfl, HF.out.1, HF.out.2.1, HF.out.2.2.1, HF.out.2.2.2⟩

theorem cdo_all (T M : Nat) (c : Cfg) (ver : Nat) (es : List (KO × NE)) (rs rh : Nat) (k : KO) (a : Act17) (w : World) (h : SAt w T M c ver es rs rh) (ho : SOk c rs rh ver (ab es)) (hsl : ∀ p ∈ ab es, p.2.smp.length ≤ 256) :
    Calls Tryz.prog 17 #[.pointer (some ⟨T, 0, none⟩), .agg (act18C k.1 a).toArray] w (CDoSays w T M c es rs rh (doS c rs rh ver (ab es) k a)) := by
  by_cases h0 : a.kind = 0
  · exact cdo_0 T M c ver es rs rh k a w h ho hsl h0
  by_cases h1 : a.kind = 1
  · exact cdo_1 T M c ver es rs rh k a w h ho hsl h0 h1
  by_cases h2 : a.kind = 2
  · exact cdo_2 T M c ver es rs rh k a w h ho hsl h0 h1 h2
  by_cases h3 : a.kind = 3
  · exact cdo_3 T M c ver es rs rh k a w h ho hsl h0 h1 h2 h3
  · exact cdo_4 T M c ver es rs rh k a w h ho hsl h0 h1 h2 h3
end

section
set_option linter.unusedSimpArgs false
set_option linter.unusedVariables false
open Go.Sort

section
variable {β : Type} [Inhabited β]

/-- Two neighbouring parts, [a, m) and [m, b), changed their places. -/
def Rot (d d' : Array β) (a m b : Nat) : Prop := ∀ t, d'[t]! = if t < a ∨ b ≤ t then d[t]! else if t < a + (b - m) then d[t + m - a]! else d[t - (b - m)]!
/-- Two parts of one length changed their places. -/
def Swr (d d' : Array β) (a b n : Nat) : Prop := ∀ t, d'[t]! = if a ≤ t ∧ t < a + n then d[b + (t - a)]! else if b ≤ t ∧ t < b + n then d[a + (t - b)]! else d[t]!
theorem at_eq (d : Array β) {i j : Nat} (h : i = j) : d[i]! = d[j]! := by rw [h]
theorem Swr.zero (d : Array β) (a b : Nat) : Swr d d a b 0 := by
  intro t
  rw [if_neg (by omega), if_neg (by omega)]
theorem Swr.step {d d1 : Array β} {a b n : Nat} (h : Swr d d1 a b n) (hab : a + n < b) (hb : b + n < d1.size) : Swr d (swp d1 (a + n) (b + n)) a b (n + 1) := by
  intro t
  by_cases h1 : t = a + n
  · subst h1
    rw [swp_left d1 _ _ (by omega) (by omega), h]
    repeat' split
    all_goals first | exact at_eq d (by omega) | (exfalso; omega)
  · by_cases h2 : t = b + n
    · subst h2
      rw [swp_right d1 _ _ (by omega), h]
      repeat' split
      all_goals first | exact at_eq d (by omega) | (exfalso; omega)
    · rw [swp_other d1 _ _ _ h1 h2, h]
      repeat' split
      all_goals first | exact at_eq d (by omega) | (exfalso; omega)
/-- Halves of one length: to rotate is to exchange them. -/
theorem Rot.half {d d' : Array β} {a m b : Nat} (h : Swr d d' a m (m - a)) (ham : a ≤ m) (hb : b - m = m - a) (hmb : m ≤ b) : Rot d d' a m b := by
  intro t
  rw [h]
  repeat' split
  all_goals first | exact at_eq d (by omega) | (exfalso; omega)
/-- The left part is longer: its head is exchanged with the right part. -/
theorem Rot.left {d d1 d2 : Array β} {m i j : Nat} (h : Swr d d1 (m - i) m j) (hi : i ≤ m) (hij : j < i) (h2 : Rot d1 d2 (m - (i - j)) m (m + j)) : Rot d d2 (m - i) m (m + j) := by
  intro t
  rw [h2]
  by_cases h1 : t < m - (i - j) ∨ m + j ≤ t
  · rw [if_pos h1, h]
    repeat' split
    all_goals first | exact at_eq d (by omega) | (exfalso; omega)
  · rw [if_neg h1]
    by_cases h4 : t < m - (i - j) + (m + j - m)
    · rw [if_pos h4, h]
      repeat' split
      all_goals first | exact at_eq d (by omega) | (exfalso; omega)
    · rw [if_neg h4, h]
      repeat' split
      all_goals first | exact at_eq d (by omega) | (exfalso; omega)
/-- The right part is longer: its tail is exchanged with the left part. -/
theorem Rot.right {d d1 d2 : Array β} {m i j : Nat} (h : Swr d d1 (m - i) (m + j - i) i) (hi : i ≤ m) (hij : i < j) (h2 : Rot d1 d2 (m - i) m (m + (j - i))) : Rot d d2 (m - i) m (m + j) := by
  intro t
  rw [h2]
  by_cases h1 : t < m - i ∨ m + (j - i) ≤ t
  · rw [if_pos h1, h]
    repeat' split
    all_goals first | exact at_eq d (by omega) | (exfalso; omega)
  · rw [if_neg h1]
    by_cases h4 : t < m - i + (m + (j - i) - m)
    · rw [if_pos h4, h]
      repeat' split
      all_goals first | exact at_eq d (by omega) | (exfalso; omega)
    · rw [if_neg h4, h]
      repeat' split
      all_goals first | exact at_eq d (by omega) | (exfalso; omega)
theorem Rot.none {d : Array β} {a m b : Nat} (h : m ≤ a ∨ b ≤ m) (h2 : a ≤ m ∧ m ≤ b) : Rot d d a m b := by
  intro t
  repeat' split
  all_goals first | exact at_eq d (by omega) | (exfalso; omega)
/-- One element goes up by one place more. -/
theorem Rot.up {d d1 : Array β} {a k : Nat} (h : Rot d d1 a (a + 1) (k + 1)) (hak : a ≤ k) (hk : k + 1 < d1.size) : Rot d (swp d1 k (k + 1)) a (a + 1) (k + 2) := by
  intro t
  by_cases h1 : t = k
  · subst h1
    rw [swp_left d1 _ _ (by omega) (by omega), h]
    repeat' split
    all_goals first | exact at_eq d (by omega) | (exfalso; omega)
  · by_cases h2 : t = k + 1
    · subst h2
      rw [swp_right d1 _ _ (by omega), h]
      repeat' split
      all_goals first | exact at_eq d (by omega) | (exfalso; omega)
    · rw [swp_other d1 _ _ _ h1 h2, h]
      repeat' split
      all_goals first | exact at_eq d (by omega) | (exfalso; omega)
/-- One element goes down by one place more. -/
theorem Rot.down {d d1 : Array β} {m k : Nat} (h : Rot d d1 (k + 1) m (m + 1)) (hkm : k < m) (hk : m < d1.size) : Rot d (swp d1 (k + 1) k) k m (m + 1) := by
  intro t
  by_cases h1 : t = k + 1
  · subst h1
    rw [swp_left d1 _ _ (by omega) (by omega), h]
    repeat' split
    all_goals first | exact at_eq d (by omega) | (exfalso; omega)
  · by_cases h2 : t = k
    · subst h2
      rw [swp_right d1 _ _ (by omega), h]
      repeat' split
      all_goals first | exact at_eq d (by omega) | (exfalso; omega)
    · rw [swp_other d1 _ _ _ h1 h2, h]
      repeat' split
      all_goals first | exact at_eq d (by omega) | (exfalso; omega)

variable (lt : β → β → Bool) (R : β → β → Prop)
/-- Rising, in order. -/
def Up (a b : Nat) (d : Array β) : Prop := ∀ i j, a ≤ i → i < j → j < b → R d[i]! d[j]!
/-- Of two parts: what is not less stands behind. -/
def Crs (a m b : Nat) (d : Array β) : Prop := ∀ i j, a ≤ i → i < m → m ≤ j → j < b → lt d[j]! d[i]! = false → R d[i]! d[j]!
structure Ord : Prop where
  tr : ∀ x y z, R x y → R y z → R x z
  lt : ∀ x y, lt x y = true → R x y

variable {lt R}
theorem Up.one {a b : Nat} {d : Array β} (h : b ≤ a + 1) : Up R a b d := fun i j h1 h2 h3 => absurd h3 (by omega)
theorem Up.join {a m b : Nat} {d : Array β} (h1 : Up R a m d) (h2 : Up R m b d) (h : ∀ i j, a ≤ i → i < m → m ≤ j → j < b → R d[i]! d[j]!) : Up R a b d := by
  intro i j hi hij hj
  by_cases h3 : j < m
  · exact h1 i j hi hij h3
  · by_cases h4 : m ≤ i
    · exact h2 i j h4 hij hj
    · exact h i j hi (by omega) (by omega) hj
theorem Up.le {a b : Nat} {d : Array β} (h : Up R a b d) {i j : Nat} (hi : a ≤ i) (hij : i ≤ j) (hj : j < b) {x : β} (O : Ord lt R) (hx : R d[j]! x) : R d[i]! x := by
  by_cases e : i = j
  · rw [e]; exact hx
  · exact O.tr _ _ _ (h i j hi (by omega) hj) hx
theorem Up.ge {a b : Nat} {d : Array β} (h : Up R a b d) {i j : Nat} (hi : a ≤ i) (hij : i ≤ j) (hj : j < b) {x : β} (O : Ord lt R) (hx : R x d[i]!) : R x d[j]! := by
  by_cases e : i = j
  · rw [← e]; exact hx
  · exact O.tr _ _ _ hx (h i j hi (by omega) hj)

/-- The least element of the left part alone is put into the right one. -/
theorem up_first (O : Ord lt R) {d d' : Array β} {a b i : Nat} (hi : a + 1 ≤ i) (hib : i ≤ b) (hu : Up R (a + 1) b d) (hc : Crs lt R a (a + 1) b d)
    (h1 : a + 1 < i → lt d[i - 1]! d[a]! = true) (h2 : i < b → lt d[i]! d[a]! = false) (hr : Rot d d' a (a + 1) i) : Up R a b d' := by
  intro s t hs hst ht
  rw [hr s, hr t]
  have lo : ∀ s, a + 1 ≤ s → s < i → R d[s]! d[a]! := fun s p q => hu.le (i := s) (j := i - 1) p (by omega) (by omega) O (O.lt _ _ (h1 (by omega)))
  have hi' : ∀ s, i ≤ s → s < b → R d[a]! d[s]! := fun s p q => hu.ge (i := i) (j := s) (by omega) p q O (hc a i (Nat.le_refl _) (by omega) (by omega) (by omega) (h2 (by omega)))
  by_cases p1 : s < a ∨ i ≤ s
  · rw [if_pos p1, if_pos (by omega)]
    exact hu s t (by omega) hst ht
  · rw [if_neg p1]
    by_cases p2 : s < a + (i - (a + 1))
    · rw [if_pos p2]
      by_cases p3 : t < a ∨ i ≤ t
      · rw [if_pos p3]
        exact hu _ _ (by omega) (by omega) ht
      · rw [if_neg p3]
        by_cases p4 : t < a + (i - (a + 1))
        · rw [if_pos p4]
          exact hu _ _ (by omega) (by omega) (by omega)
        · rw [if_neg p4, at_eq d (show t - (i - (a + 1)) = a by omega)]
          exact lo _ (by omega) (by omega)
    · rw [if_neg p2, at_eq d (show s - (i - (a + 1)) = a by omega)]
      rw [if_pos (show t < a ∨ i ≤ t by omega)]
      exact hi' t (by omega) ht
/-- The one element of the right part is put into the left one. -/
theorem up_last (O : Ord lt R) {d d' : Array β} {a m i : Nat} (hi : a ≤ i) (him : i ≤ m) (hu : Up R a m d) (hc : Crs lt R a m (m + 1) d)
    (h1 : a < i → lt d[m]! d[i - 1]! = false) (h2 : i < m → lt d[m]! d[i]! = true) (hr : Rot d d' i m (m + 1)) : Up R a (m + 1) d' := by
  intro s t hs hst ht
  rw [hr s, hr t]
  have lo : ∀ s, a ≤ s → s < i → R d[s]! d[m]! := fun s p q => hu.le (i := s) (j := i - 1) p (by omega) (by omega) O (hc (i - 1) m (by omega) (by omega) (Nat.le_refl _) (by omega) (h1 (by omega)))
  have hi' : ∀ s, i ≤ s → s < m → R d[m]! d[s]! := fun s p q => hu.ge (i := i) (j := s) (by omega) p q O (O.lt _ _ (h2 (by omega)))
  by_cases p1 : s < i ∨ m + 1 ≤ s
  · rw [if_pos p1]
    by_cases p2 : t < i ∨ m + 1 ≤ t
    · rw [if_pos p2]
      exact hu _ _ hs hst (by omega)
    · rw [if_neg p2]
      by_cases p3 : t < i + (m + 1 - m)
      · rw [if_pos p3, at_eq d (show t + m - i = m by omega)]
        exact lo _ hs (by omega)
      · rw [if_neg p3]
        exact hu _ _ hs (by omega) (by omega)
  · rw [if_neg p1, if_neg (show ¬ (t < i ∨ m + 1 ≤ t) by omega), if_neg (show ¬ t < i + (m + 1 - m) by omega)]
    by_cases p3 : s < i + (m + 1 - m)
    · rw [if_pos p3, at_eq d (show s + m - i = m by omega)]
      exact hi' _ (by omega) (by omega)
    · rw [if_neg p3]
      exact hu _ _ (by omega) (by omega) (by omega)

/-- What is behind the rotation: two merges that are apart. -/
structure Split (lt : β → β → Bool) (R : β → β → Prop) (d1 : Array β) (a start mid en b : Nat) : Prop where
  u1 : Up R a start d1
  u2 : Up R start mid d1
  u3 : Up R mid en d1
  u4 : Up R en b d1
  c1 : Crs lt R a start mid d1
  c2 : Crs lt R mid en b d1
  all : ∀ i j, a ≤ i → i < mid → mid ≤ j → j < b → R d1[i]! d1[j]!
theorem split_of (O : Ord lt R) {d d1 : Array β} {a m b mid start s0 r0 : Nat} (ham : a < m) (hmb : m < b) (hmid : mid = (a + b) / 2)
    (h0 : (mid < m ∧ s0 = mid + m - b ∧ r0 = mid) ∨ (m ≤ mid ∧ s0 = a ∧ r0 = m)) (hs : s0 ≤ start) (hr : start ≤ r0)
    (hu1 : Up R a m d) (hu2 : Up R m b d) (hc : Crs lt R a m b d)
    (h1 : s0 < start → lt d[mid + m - start]! d[start - 1]! = false) (h2 : start < r0 → lt d[mid + m - 1 - start]! d[start]! = true)
    (hrot : Rot d d1 start m (mid + m - start)) : Split lt R d1 a start mid (mid + m - start) b := by
  have g1 : start ≤ m := by omega
  have g2 : start ≤ mid := by omega
  have g3 : a ≤ start := by omega
  have g4 : mid + m - start ≤ b := by omega
  -- where each piece lies
  have q1 : ∀ t, t < start → d1[t]! = d[t]! := fun t ht => by rw [hrot, if_pos (by omega)]
  have q2 : ∀ t, start ≤ t → t < mid → d1[t]! = d[t + m - start]! := fun t p q => by rw [hrot, if_neg (by omega), if_pos (by omega)]
  have q3 : ∀ t, mid ≤ t → t < mid + m - start → d1[t]! = d[t + start - mid]! := fun t p q => by rw [hrot, if_neg (by omega), if_neg (by omega)]; exact at_eq d (by omega)
  have q4 : ∀ t, mid + m - start ≤ t → d1[t]! = d[t]! := fun t ht => by rw [hrot, if_pos (by omega)]
  refine ⟨?_, ?_, ?_, ?_, ?_, ?_, ?_⟩
  · intro i j p q r
    rw [q1 i (by omega), q1 j r]; exact hu1 i j p q (by omega)
  · intro i j p q r
    rw [q2 i p (by omega), q2 j (by omega) r]; exact hu2 _ _ (by omega) (by omega) (by omega)
  · intro i j p q r
    rw [q3 i p (by omega), q3 j (by omega) r]; exact hu1 _ _ (by omega) (by omega) (by omega)
  · intro i j p q r
    rw [q4 i p, q4 j (by omega)]; exact hu2 i j (by omega) q r
  · intro i j p q r s
    rw [q1 i q, q2 j r s]; exact hc i _ p (by omega) (by omega) (by omega)
  · intro i j p q r s
    rw [q3 i p q, q4 j r]; exact hc _ j (by omega) (by omega) (by omega) s
  · intro i j p q r s
    by_cases e1 : i < start
    · rw [q1 i e1]
      by_cases e2 : j < mid + m - start
      · rw [q3 j r e2]; exact hu1 _ _ p (by omega) (by omega)
      · rw [q4 j (by omega)]
        have hx : R d[start - 1]! d[mid + m - start]! := hc _ _ (by omega) (by omega) (by omega) (by omega) (h1 (by omega))
        exact hu1.le (i := i) (j := start - 1) p (by omega) (by omega) O (hu2.ge (i := mid + m - start) (j := j) (by omega) (by omega) s O hx)
    · rw [q2 i (by omega) q]
      by_cases e2 : j < mid + m - start
      · rw [q3 j r e2]
        have hx : R d[mid + m - 1 - start]! d[start]! := O.lt _ _ (h2 (by omega))
        exact hu2.le (i := i + m - start) (j := mid + m - 1 - start) (by omega) (by omega) (by omega) O (hu1.ge (i := start) (j := j + start - mid) (by omega) (by omega) (by omega) O hx)
      · rw [q4 j (by omega)]; exact hu2 _ _ (by omega) (by omega) s
theorem at_size {d d' : Array β} {a b : Nat} (h : PermIn a b d d') : d'.size = d.size := h.1
theorem at_out {d d' : Array β} {a b : Nat} (h : PermIn a b d d') {i : Nat} (hi : i < a ∨ b ≤ i) : d'[i]! = d[i]! := h.2.1 i hi
theorem Up.out {d d' : Array β} {a b x y : Nat} (h : PermIn x y d d') (hu : Up R a b d) (ho : b ≤ x ∨ y ≤ a) : Up R a b d' := fun i j p q r => by
  rw [at_out h (show i < x ∨ y ≤ i by omega), at_out h (show j < x ∨ y ≤ j by omega)]; exact hu i j p q r
theorem Crs.out {d d' : Array β} {a m b x y : Nat} (h : PermIn x y d d') (hu : Crs lt R a m b d) (ho : b ≤ x ∨ y ≤ a) (hamb : a ≤ m ∧ m ≤ b) : Crs lt R a m b d' := fun i j p q r s => by
  rw [at_out h (show i < x ∨ y ≤ i by omega), at_out h (show j < x ∨ y ≤ j by omega)]; exact hu i j p q r s
/-- Both merges done: all is in order. -/
theorem up_both {d1 d2 d3 : Array β} {a start mid en b : Nat} (S : Split lt R d1 a start mid en b) (hb : b ≤ d1.size) (ham : a ≤ mid) (hmb : mid ≤ b) (h2 : PermIn a mid d1 d2) (hu2 : Up R a mid d2) (h3 : PermIn mid b d2 d3) (hu3 : Up R mid b d3) : Up R a b d3 := by
  refine Up.join (hu2.out h3 (Or.inl (Nat.le_refl _))) hu3 ?_
  intro i j p q r s
  rw [at_out h3 (Or.inl q)]
  have k1 : ∀ j, mid ≤ j → j < b → R d2[i]! d2[j]! := fun j r s => by
    rw [at_out h2 (i := j) (Or.inr r)]
    exact permIn_all d1 d2 a mid (fun x => R x d1[j]!) (by omega) h2 (fun i p q => S.all i j p q r s) i p q
  exact permIn_all d2 d3 mid b (fun x => R d2[i]! x) (by rw [at_size h2]; exact hb) h3 (fun j r s => k1 j r s) j r s
end
end

end Go.Proofs.YtfegielnmdppgaaGreat
