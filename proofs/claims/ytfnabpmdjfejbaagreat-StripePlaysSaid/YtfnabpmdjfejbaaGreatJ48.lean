/- chapter 18's do, on a live stripe; The plain law of a stripe: one act on both sides; A stripe's bounds go on; chapter 18's has: a node has just a load; chapter 18's told: a stripe has just these items; A stripe and the reference's items, side by side; Acts on a stripe as they come in; chapter 18's awake; The walk of StripePlays; The short ways of StripePlays; the whole walk. -/
import Derived.Test.YtfnabpmdjfejbaaGreatJ44
import Derived.Test.YtfnabpmdjfejbaaGreatJ46
import Derived.Test.YtfnabpmdjfejbaaGreatJ47
import Derived.Test.YtfnabpmdjfejbaaGreatJ22
import Derived.Test.YtfnabpmdjfejbaaGreatJ23
import Derived.Test.YtfnabpmdjfejbaaGreatJ45
import Derived.Test.YtfnabpmdjfejbaaGreatJ05
import Derived.Test.YtfnabpmdjfejbaaGreatJ32
import Derived.Test.YtfnabpmdjfejbaaGreatJ43
namespace Go.Proofs.YtfnabpmdjfejbaaGreat

section
set_option linter.unusedSimpArgs false
set_option linter.unusedVariables false
open Go.RowKit Go.Lib Go.Sort

structure DoR where
  err : Int
  gone : Nat
  ver : Nat
  has : List (KO × Nd)
/-- What an act comes to. -/
def doS (c : Cfg) (rs rh ver : Nat) (S : List (KO × Nd)) (k : KO) (a : Act17) : DoR :=
  if a.kind = 0 then (if serE a.smp.1 a.smp.2 = 0 then (if hasM S k = false ∧ c.lo ≤ (S.length : Nat) then ⟨6, 0, ver, S⟩ else ⟨0, 0, ver + 1, putM S k { bump (ndOf S k) with smp := putS (ndOf S k).smp (rs : Nat) a.smp }⟩) else ⟨serE a.smp.1 a.smp.2, 0, ver, S⟩)
  else if a.kind = 1 then ⟨0, goneS S a.smp.1 (risL (keysS S)), ver + manyS S a.smp.1 (risL (keysS S)), trimK S a.smp.1 (risL (keysS S))⟩
  else if a.kind = 2 then (if polB a.pol = true then (if hasM S k = false ∧ c.lo ≤ (S.length : Nat) then ⟨6, 0, ver, S⟩ else ⟨0, 0, ver + 1, putM S k { bump (ndOf S k) with pol := a.pol, ruled := true }⟩) else ⟨7, 0, ver, S⟩)
  else if a.kind = 3 then (if hasM S k = true then ⟨0, 0, ver + 1, putM S k { bump (ndOf S k) with past := pushL (ndOf S k).past rh a.adv }⟩ else ⟨5, 0, ver, S⟩)
  else ⟨0, 0, ver, S.map fun p => (p.1, if p.1.1 ∈ risL (keysS S) then frz p.2 else p.2)⟩
theorem kyN_keysS (es : List (KO × NE)) : kyN es = keysS (ab es) := by simp [kyN, keysS, ab, List.map_map, Function.comp_def]
def DoSays (w : World) (T M : Nat) (c : Cfg) (es : List (KO × NE)) (rs rh : Nat) (r : DoR) (e : Ending) (w' : World) : Prop :=
  ∃ es', e = .returned (.tuple #[.int .i64 r.err, .int .i64 (r.gone : Nat)]) ∧ SAt w' T M c r.ver es' rs rh ∧ ab es' = r.has ∧ Upd w w' (sfp T M es) (sfp T M es')
/-- What a stripe must be that acts are done to it. -/
structure SOk (c : Cfg) (rs rh ver : Nat) (S : List (KO × Nd)) : Prop where
  cfg : cfgB c = true
  sa : c.sa = (rs : Nat)
  hi : c.hi = (rh : Nat)
  ok : c.ok
  len : S.length ≤ 1000
  ver_ : ver ≤ 900000
  vers : ∀ p ∈ S, p.2.ver ≤ 1000000
theorem SOk.room {c : Cfg} {rs rh ver : Nat} {S : List (KO × Nd)} (h : SOk c rs rh ver S) : rs ≤ 256 ∧ rh ≤ 64 := by
  have hc := h.cfg
  have h1 := h.sa
  have h2 := h.hi
  unfold cfgB at hc
  simp only [Bool.and_eq_true, decide_eq_true_eq] at hc
  omega

theorem none_of_has {es : List (KO × NE)} {k : KO} (h : hasM es k = false) : findM es k = none := findM_none h
theorem ingest_all (T M : Nat) (c : Cfg) (ver : Nat) (es : List (KO × NE)) (rs rh : Nat) (k : KO) (a : Act17) (w : World) (h : SAt w T M c ver es rs rh) (ho : SOk c rs rh ver (ab es)) (h0 : a.kind = 0) :
    Calls Tryz.prog 18 #[.pointer (some ⟨T, 0, none⟩), .agg #[.int .u64 k.1.1, .int .u64 k.1.2], .int .i64 a.smp.1, .int .i64 a.smp.2] w (SSays w T M c es rs rh (.int .i64 (doS c rs rh ver (ab es) k a).err) (doS c rs rh ver (ab es) k a).ver (doS c rs rh ver (ab es) k a).has) := by
  unfold doS
  rw [if_pos h0]
  by_cases hs : serE a.smp.1 a.smp.2 = 0
  · rw [if_pos hs]
    by_cases hf : hasM (ab es) k = false ∧ c.lo ≤ ((ab es).length : Nat)
    · rw [if_pos hf]
      refine singest_full T M c ver es rs rh k a.smp w h hs ?_ (by rw [← ab_len]; exact hf.2)
      have := none_of_has (by rw [← ab_has]; exact hf.1 : hasM es k = false)
      exact this
    · rw [if_neg hf]
      exact singest_ok T M c ver es rs rh k a.smp w h hs (fun hh => hf ⟨by rw [ab_has]; exact hh.1, by rw [ab_len]; exact hh.2⟩) ho.cfg ho.sa ho.hi ho.ok (by have := ho.ver_; omega) ho.vers
  · rw [if_neg hs]
    exact singest_bad T M c ver es rs rh k a.smp w h hs
theorem set_all (T M : Nat) (c : Cfg) (ver : Nat) (es : List (KO × NE)) (rs rh : Nat) (k : KO) (a : Act17) (w : World) (h : SAt w T M c ver es rs rh) (ho : SOk c rs rh ver (ab es)) (h0 : a.kind = 2) :
    Calls Tryz.prog 22 #[.pointer (some ⟨T, 0, none⟩), .agg #[.int .u64 k.1.1, .int .u64 k.1.2], polV a.pol] w (SSays w T M c es rs rh (.int .i64 (doS c rs rh ver (ab es) k a).err) (doS c rs rh ver (ab es) k a).ver (doS c rs rh ver (ab es) k a).has) := by
  unfold doS
  rw [if_neg (by omega), if_neg (by omega), if_pos h0]
  cases hs : polB a.pol with
  | true =>
    rw [if_pos rfl]
    by_cases hf : hasM (ab es) k = false ∧ c.lo ≤ ((ab es).length : Nat)
    · rw [if_pos hf]
      exact sset_full T M c ver es rs rh k a.pol w h hs (none_of_has (by rw [← ab_has]; exact hf.1)) (by rw [← ab_len]; exact hf.2)
    · rw [if_neg hf]
      exact sset_ok T M c ver es rs rh k a.pol w h hs (fun hh => hf ⟨by rw [ab_has]; exact hh.1, by rw [ab_len]; exact hh.2⟩) ho.cfg ho.sa ho.hi ho.ok (by have := ho.ver_; omega) ho.vers
  | false =>
    rw [if_neg (by simp)]
    exact sset_bad T M c ver es rs rh k a.pol w h hs
theorem note_all (T M : Nat) (c : Cfg) (ver : Nat) (es : List (KO × NE)) (rs rh : Nat) (k : KO) (a : Act17) (w : World) (h : SAt w T M c ver es rs rh) (ho : SOk c rs rh ver (ab es)) (h0 : a.kind = 3) :
    Calls Tryz.prog 23 #[.pointer (some ⟨T, 0, none⟩), .agg #[.int .u64 k.1.1, .int .u64 k.1.2], .agg (advC a.adv).toArray] w (SSays w T M c es rs rh (.int .i64 (doS c rs rh ver (ab es) k a).err) (doS c rs rh ver (ab es) k a).ver (doS c rs rh ver (ab es) k a).has) := by
  unfold doS
  rw [if_neg (by omega), if_neg (by omega), if_neg (by omega), if_pos h0]
  have hr := ho.room
  have hvv := ho.ver_
  cases hf : findM es k with
  | none =>
    rw [if_neg (by rw [ab_has, none_has hf]; simp)]
    exact snote_none T M c ver es rs rh k a.adv w h hf
  | some b =>
    rw [if_pos (by rw [ab_has]; exact find_has hf)]
    have hnd : ndOf (ab es) k = b.2.1 := by unfold ndOf; rw [ab_find, hf]; rfl
    rw [hnd]
    exact snote_ok T M c ver es rs rh k a.adv w h b hf hr.1 hr.2 (by omega) (ho.vers (k, b.2.1) (List.mem_map.2 ⟨(k, b), find_mem hf, rfl⟩))

set_option maxRecDepth 100000 in
set_option maxHeartbeats 4000000 in
theorem sdo_0 (T M : Nat) (c : Cfg) (ver : Nat) (es : List (KO × NE)) (rs rh : Nat) (k : KO) (a : Act17) (w : World) (h : SAt w T M c ver es rs rh) (ho : SOk c rs rh ver (ab es)) (hsl : ∀ p ∈ ab es, p.2.smp.length ≤ 256)  (hk : a.kind = 0) :
    Calls Tryz.prog 8 #[.pointer (some ⟨T, 0, none⟩), .agg (act18C k.1 a).toArray] w (DoSays w T M c es rs rh (doS c rs rh ver (ab es) k a)) := by
  rw [show (act18C k.1 a).toArray = #[.int .u64 k.1.1, .int .u64 k.1.2, .int .i64 a.kind, .int .i64 a.smp.1, .int .i64 a.smp.2, .int .i64 a.pol.mn, .int .i64 a.pol.mx, .int .i64 a.pol.tg, .int .i64 a.pol.tol, .int .i64 a.pol.win, .int .i64 a.pol.hold, .int .i64 a.adv.tick, .int .i64 a.adv.load, .int .i64 a.adv.want, .int .i64 a.adv.repl, .int .i64 a.adv.why] from rfl]
  have hr := ho.room
  have hc := fun (W : World) (hb : Below w.heap.size w W) => ingest_all T M c ver es rs rh k a W (h.below hb) ho hk
  have HC := Lib.hid hc
  have HE := Lib.hid (show (doS c rs rh ver (ab es) k a).gone = 0 by unfold doS; rw [if_pos hk]; repeat (first | rfl | split))
  have q0 : (a.kind == 0) = true := by simp [hk]
  clear h ho hsl hr  hk hc
  generalize doS c rs rh ver (ab es) k a = R at *
  go_enter Tryz.func8, Tryz.ntmps8
  go_wp2_with (first
    | (go_at_call 18
       refine calls_named ?_
       intro W1 hW1
       have hb1 : Below w.heap.size w W1 := by rw [hW1]; exact balloc (Below.refl _ _) _
       clear hW1
       refine (HC.out W1 hb1).mono ?_
       rintro e w2 ⟨es', rfl, h1, h2, h3⟩
       have HF := Lib.hid (And.intro h1 (And.intro h2 ((Upd.of_below hb1 _).trans h3)))
       clear h1 h2 h3 hb1))
  exact bodyPost_ret (v := .tuple #[.int .i64 R.err, .int .i64 0]) (by simp [results, Tryz.results8, go_sem]) rfl ⟨es', by first | rfl | (rw [HE.out]; done) | (rw [HE.out]; rfl), HF.out.1, HF.out.2.1, HF.out.2.2⟩

set_option maxRecDepth 100000 in
set_option maxHeartbeats 4000000 in
theorem sdo_1 (T M : Nat) (c : Cfg) (ver : Nat) (es : List (KO × NE)) (rs rh : Nat) (k : KO) (a : Act17) (w : World) (h : SAt w T M c ver es rs rh) (ho : SOk c rs rh ver (ab es)) (hsl : ∀ p ∈ ab es, p.2.smp.length ≤ 256) (hn0 : a.kind ≠ 0) (hk : a.kind = 1) :
    Calls Tryz.prog 8 #[.pointer (some ⟨T, 0, none⟩), .agg (act18C k.1 a).toArray] w (DoSays w T M c es rs rh (doS c rs rh ver (ab es) k a)) := by
  rw [show (act18C k.1 a).toArray = #[.int .u64 k.1.1, .int .u64 k.1.2, .int .i64 a.kind, .int .i64 a.smp.1, .int .i64 a.smp.2, .int .i64 a.pol.mn, .int .i64 a.pol.mx, .int .i64 a.pol.tg, .int .i64 a.pol.tol, .int .i64 a.pol.win, .int .i64 a.pol.hold, .int .i64 a.adv.tick, .int .i64 a.adv.load, .int .i64 a.adv.want, .int .i64 a.adv.repl, .int .i64 a.adv.why] from rfl]
  have hr := ho.room
  have hl1 := ho.len
  have hc := fun (W : World) (hb : Below w.heap.size w W) => strim_any T M c ver es rs rh a.smp.1 W (h.below hb) hr.1 hr.2 (by rw [← ab_len]; exact ho.len) ho.ver_ ho.vers hsl
  have hd : doS c rs rh ver (ab es) k a = ⟨0, goneS (ab es) a.smp.1 (risL (kyN es)), ver + manyS (ab es) a.smp.1 (risL (kyN es)), trimK (ab es) a.smp.1 (risL (kyN es))⟩ := by unfold doS; rw [if_neg hn0, if_pos hk, kyN_keysS]
  have hc : ∀ (W : World), Below w.heap.size w W → Calls Tryz.prog 19 #[.pointer (some ⟨T, 0, none⟩), .int .i64 a.smp.1] W (SSays W T M c es rs rh (.int .i64 ((doS c rs rh ver (ab es) k a).gone : Nat)) (doS c rs rh ver (ab es) k a).ver (doS c rs rh ver (ab es) k a).has) := by rw [hd]; exact hc
  have HC := Lib.hid hc
  have HE := Lib.hid (show (doS c rs rh ver (ab es) k a).err = 0 by rw [hd])
  clear hl1 hd
  have q0 : (a.kind == 0) = false := by simp [hn0]
  have q1 : (a.kind == 1) = true := by simp [hk]
  clear h ho hsl hr hn0 hk hc
  generalize doS c rs rh ver (ab es) k a = R at *
  go_enter Tryz.func8, Tryz.ntmps8
  go_wp2_with (first
    | (go_at_call 19
       refine calls_named ?_
       intro W1 hW1
       have hb1 : Below w.heap.size w W1 := by rw [hW1]; exact balloc (Below.refl _ _) _
       clear hW1
       refine (HC.out W1 hb1).mono ?_
       rintro e w2 ⟨es', rfl, h1, h2, h3⟩
       have HF := Lib.hid (And.intro h1 (And.intro h2 ((Upd.of_below hb1 _).trans h3)))
       clear h1 h2 h3 hb1))
  exact bodyPost_ret (v := .tuple #[.int .i64 0, .int .i64 (R.gone : Nat)]) (by simp [results, Tryz.results8, go_sem]) rfl ⟨es', by first | rfl | (rw [HE.out]; done) | (rw [HE.out]; rfl), HF.out.1, HF.out.2.1, HF.out.2.2⟩

set_option maxRecDepth 100000 in
set_option maxHeartbeats 4000000 in
theorem sdo_2 (T M : Nat) (c : Cfg) (ver : Nat) (es : List (KO × NE)) (rs rh : Nat) (k : KO) (a : Act17) (w : World) (h : SAt w T M c ver es rs rh) (ho : SOk c rs rh ver (ab es)) (hsl : ∀ p ∈ ab es, p.2.smp.length ≤ 256) (hn0 : a.kind ≠ 0) (hn1 : a.kind ≠ 1) (hk : a.kind = 2) :
    Calls Tryz.prog 8 #[.pointer (some ⟨T, 0, none⟩), .agg (act18C k.1 a).toArray] w (DoSays w T M c es rs rh (doS c rs rh ver (ab es) k a)) := by
  rw [show (act18C k.1 a).toArray = #[.int .u64 k.1.1, .int .u64 k.1.2, .int .i64 a.kind, .int .i64 a.smp.1, .int .i64 a.smp.2, .int .i64 a.pol.mn, .int .i64 a.pol.mx, .int .i64 a.pol.tg, .int .i64 a.pol.tol, .int .i64 a.pol.win, .int .i64 a.pol.hold, .int .i64 a.adv.tick, .int .i64 a.adv.load, .int .i64 a.adv.want, .int .i64 a.adv.repl, .int .i64 a.adv.why] from rfl]
  have hr := ho.room
  have hc := fun (W : World) (hb : Below w.heap.size w W) => set_all T M c ver es rs rh k a W (h.below hb) ho hk
  unfold polV at hc
  have HC := Lib.hid hc
  have HE := Lib.hid (show (doS c rs rh ver (ab es) k a).gone = 0 by unfold doS; rw [if_neg (by omega), if_neg (by omega), if_pos hk]; (repeat (first | rfl | split)))
  have q0 : (a.kind == 0) = false := by simp [hn0]
  have q1 : (a.kind == 1) = false := by simp [hn1]
  have q2 : (a.kind == 2) = true := by simp [hk]
  clear h ho hsl hr hn0 hn1 hk hc
  generalize doS c rs rh ver (ab es) k a = R at *
  go_enter Tryz.func8, Tryz.ntmps8
  go_wp2_with (first
    | (go_at_call 22
       refine calls_named ?_
       intro W1 hW1
       have hb1 : Below w.heap.size w W1 := by rw [hW1]; exact balloc (Below.refl _ _) _
       clear hW1
       refine (HC.out W1 hb1).mono ?_
       rintro e w2 ⟨es', rfl, h1, h2, h3⟩
       have HF := Lib.hid (And.intro h1 (And.intro h2 ((Upd.of_below hb1 _).trans h3)))
       clear h1 h2 h3 hb1))
  exact bodyPost_ret (v := .tuple #[.int .i64 R.err, .int .i64 0]) (by simp [results, Tryz.results8, go_sem]) rfl ⟨es', by first | rfl | (rw [HE.out]; done) | (rw [HE.out]; rfl), HF.out.1, HF.out.2.1, HF.out.2.2⟩

set_option maxRecDepth 100000 in
set_option maxHeartbeats 4000000 in
theorem sdo_3 (T M : Nat) (c : Cfg) (ver : Nat) (es : List (KO × NE)) (rs rh : Nat) (k : KO) (a : Act17) (w : World) (h : SAt w T M c ver es rs rh) (ho : SOk c rs rh ver (ab es)) (hsl : ∀ p ∈ ab es, p.2.smp.length ≤ 256) (hn0 : a.kind ≠ 0) (hn1 : a.kind ≠ 1) (hn2 : a.kind ≠ 2) (hk : a.kind = 3) :
    Calls Tryz.prog 8 #[.pointer (some ⟨T, 0, none⟩), .agg (act18C k.1 a).toArray] w (DoSays w T M c es rs rh (doS c rs rh ver (ab es) k a)) := by
  rw [show (act18C k.1 a).toArray = #[.int .u64 k.1.1, .int .u64 k.1.2, .int .i64 a.kind, .int .i64 a.smp.1, .int .i64 a.smp.2, .int .i64 a.pol.mn, .int .i64 a.pol.mx, .int .i64 a.pol.tg, .int .i64 a.pol.tol, .int .i64 a.pol.win, .int .i64 a.pol.hold, .int .i64 a.adv.tick, .int .i64 a.adv.load, .int .i64 a.adv.want, .int .i64 a.adv.repl, .int .i64 a.adv.why] from rfl]
  have hr := ho.room
  have hc := fun (W : World) (hb : Below w.heap.size w W) => note_all T M c ver es rs rh k a W (h.below hb) ho hk
  rw [show (advC a.adv).toArray = #[.int .i64 a.adv.tick, .int .i64 a.adv.load, .int .i64 a.adv.want, .int .i64 a.adv.repl, .int .i64 a.adv.why] from rfl] at hc
  have HC := Lib.hid hc
  have HE := Lib.hid (show (doS c rs rh ver (ab es) k a).gone = 0 by unfold doS; rw [if_neg (by omega), if_neg (by omega), if_neg (by omega), if_pos hk]; repeat (first | rfl | split))
  have q0 : (a.kind == 0) = false := by simp [hn0]
  have q1 : (a.kind == 1) = false := by simp [hn1]
  have q2 : (a.kind == 2) = false := by simp [hn2]
  have q3 : (a.kind == 3) = true := by simp [hk]
  clear h ho hsl hr hn0 hn1 hn2 hk hc
  generalize doS c rs rh ver (ab es) k a = R at *
  go_enter Tryz.func8, Tryz.ntmps8
  go_wp2_with (first
    | (go_at_call 23
       refine calls_named ?_
       intro W1 hW1
       have hb1 : Below w.heap.size w W1 := by rw [hW1]; exact balloc (Below.refl _ _) _
       clear hW1
       refine (HC.out W1 hb1).mono ?_
       rintro e w2 ⟨es', rfl, h1, h2, h3⟩
       have HF := Lib.hid (And.intro h1 (And.intro h2 ((Upd.of_below hb1 _).trans h3)))
       clear h1 h2 h3 hb1))
  exact bodyPost_ret (v := .tuple #[.int .i64 R.err, .int .i64 0]) (by simp [results, Tryz.results8, go_sem]) rfl ⟨es', by first | rfl | (rw [HE.out]; done) | (rw [HE.out]; rfl), HF.out.1, HF.out.2.1, HF.out.2.2⟩

set_option maxRecDepth 100000 in
set_option maxHeartbeats 4000000 in
theorem sdo_4 (T M : Nat) (c : Cfg) (ver : Nat) (es : List (KO × NE)) (rs rh : Nat) (k : KO) (a : Act17) (w : World) (h : SAt w T M c ver es rs rh) (ho : SOk c rs rh ver (ab es)) (hsl : ∀ p ∈ ab es, p.2.smp.length ≤ 256) (hn0 : a.kind ≠ 0) (hn1 : a.kind ≠ 1) (hn2 : a.kind ≠ 2) (hn3 : a.kind ≠ 3) :
    Calls Tryz.prog 8 #[.pointer (some ⟨T, 0, none⟩), .agg (act18C k.1 a).toArray] w (DoSays w T M c es rs rh (doS c rs rh ver (ab es) k a)) := by
  rw [show (act18C k.1 a).toArray = #[.int .u64 k.1.1, .int .u64 k.1.2, .int .i64 a.kind, .int .i64 a.smp.1, .int .i64 a.smp.2, .int .i64 a.pol.mn, .int .i64 a.pol.mx, .int .i64 a.pol.tg, .int .i64 a.pol.tol, .int .i64 a.pol.win, .int .i64 a.pol.hold, .int .i64 a.adv.tick, .int .i64 a.adv.load, .int .i64 a.adv.want, .int .i64 a.adv.repl, .int .i64 a.adv.why] from rfl]
  have hr := ho.room
  have hc := fun (W : World) (hb : Below w.heap.size w W) => sfreeze_any T M c ver es rs rh W (h.below hb) (by rw [← ab_len]; exact ho.len)
  have hd : doS c rs rh ver (ab es) k a = ⟨0, 0, ver, ab (frzE es (risL (kyN es)))⟩ := by unfold doS; rw [if_neg hn0, if_neg hn1, if_neg hn2, if_neg hn3, ab_frzE, kyN_keysS]
  have HC := Lib.hid hc
  have HE := Lib.hid hd
  clear hd
  have q0 : (a.kind == 0) = false := by simp [hn0]
  have q1 : (a.kind == 1) = false := by simp [hn1]
  have q2 : (a.kind == 2) = false := by simp [hn2]
  have q3 : (a.kind == 3) = false := by simp [hn3]
  clear h ho hsl hr hn0 hn1 hn2 hn3 hc
  generalize doS c rs rh ver (ab es) k a = R at *
  go_enter Tryz.func8, Tryz.ntmps8
  go_wp2_with (first
    | (go_at_call 10
       refine calls_named ?_
       intro W1 hW1
       have hb1 : Below w.heap.size w W1 := by rw [hW1]; exact balloc (Below.refl _ _) _
       clear hW1
       refine (HC.out W1 hb1).mono ?_
       rintro e w2 ⟨A9, c9, rfl, _, h1a, h3⟩
       obtain ⟨es', hes⟩ : ∃ es', es' = frzE es (risL (kyN es)) := ⟨_, rfl⟩
       rw [← hes] at h1a h3 HE
       have h2 : ab es' = R.has := by rw [HE.out]
       have h1 : SAt w2 T M c R.ver es' rs rh := by rw [HE.out]; exact h1a
       clear h1a
       have HF := Lib.hid (And.intro h1 (And.intro h2 ((Upd.of_below hb1 _).trans h3)))
       clear h1 h2 h3 hb1))
  exact bodyPost_ret (v := .tuple #[.int .i64 0, .int .i64 0]) (by simp [results, Tryz.results8, go_sem]) rfl ⟨es', by first | rfl | (rw [HE.out]; done) | (rw [HE.out]; rfl), HF.out.1, HF.out.2.1, HF.out.2.2⟩

theorem sdo_all (T M : Nat) (c : Cfg) (ver : Nat) (es : List (KO × NE)) (rs rh : Nat) (k : KO) (a : Act17) (w : World) (h : SAt w T M c ver es rs rh) (ho : SOk c rs rh ver (ab es)) (hsl : ∀ p ∈ ab es, p.2.smp.length ≤ 256) :
    Calls Tryz.prog 8 #[.pointer (some ⟨T, 0, none⟩), .agg (act18C k.1 a).toArray] w (DoSays w T M c es rs rh (doS c rs rh ver (ab es) k a)) := by
  by_cases h0 : a.kind = 0
  · exact sdo_0 T M c ver es rs rh k a w h ho hsl h0
  by_cases h1 : a.kind = 1
  · exact sdo_1 T M c ver es rs rh k a w h ho hsl h0 h1
  by_cases h2 : a.kind = 2
  · exact sdo_2 T M c ver es rs rh k a w h ho hsl h0 h1 h2
  by_cases h3 : a.kind = 3
  · exact sdo_3 T M c ver es rs rh k a w h ho hsl h0 h1 h2 h3
  · exact sdo_4 T M c ver es rs rh k a w h ho hsl h0 h1 h2 h3
end

section
set_option linter.unusedSimpArgs false
set_option linter.unusedVariables false
open Go.RowKit Go.Lib Go.Sort

/-- What the reference's Do comes to: the items, an error, a number, the version's rise. -/
def do18 (c : Cfg) (rs rh : Nat) (l : List It) (k : Ky) (a : Act17) : List (Ky × Nd) × Int × Int × Int :=
  if a.kind = 1 then (l.map fun x => (x.key, trimR a.smp.1 x.nd), 0, (goneI l a.smp.1 : Nat), (manyI l a.smp.1 : Nat))
  else if a.kind < 0 ∨ 3 < a.kind then (l.map absI, 0, 0, 0)
  else ((one18 c rs rh l k a).1, (one18 c rs rh l k a).2.1, 0, (one18 c rs rh l k a).2.2)

theorem do18_any (P : Nat → Prop) (c : Cfg) (rs rh : Nat) (v : Value) (l : List It) (k : Ky) (a : Act17) (w : World) (hP : ∀ b, w.heap.size ≤ b → P b) (hx : ItemsIn P w v l) (hc : RoomOk c rs rh) (hn : ∀ x ∈ l, NdOk rs rh x.nd) (hv : ∀ x ∈ l, x.nd.ver ≤ 1000000) (hl : l.length ≤ 1000) (hok : ∀ x ∈ l, x.key.ok) (hk : k.ok) :
    Calls Tryz.prog 9 #[cfgV c, v, .agg (act18C k a).toArray] w (Do18Says P w (do18 c rs rh l k a).1 (do18 c rs rh l k a).2.1 (do18 c rs rh l k a).2.2.1 (do18 c rs rh l k a).2.2.2) := by
  unfold do18
  by_cases h1 : a.kind = 1
  · rw [if_pos h1]
    refine r18_trim P c v l _ _ _ k a w h1 (fun W hb => ?_)
    refine (rtrim_any P c rs rh v l a.smp.1 W (fun b hb' => hP b (Nat.le_trans hb.size hb')) (hx.below hb) hc hn hv hl).mono ?_
    rintro e w' ⟨out, A, cc, h2, h3, h4, h5⟩
    exact ⟨out, A, cc, h2, h3, h4, h5⟩
  · rw [if_neg h1]
    by_cases h0 : a.kind < 0 ∨ 3 < a.kind
    · rw [if_pos h0]
      exact r18_other P c v l k a w hx h0
    · rw [if_neg h0]
      have hg : NdOk rs rh (getL l k).nd ∧ (getL l k).nd.ver ≤ 1000000 := by
        unfold getL
        split
        · rename_i hh
          split
          · exact ⟨hn _ (List.getElem_mem hh), hv _ (List.getElem_mem hh)⟩
          · exact ⟨⟨List.Pairwise.nil, Nat.zero_le _, Nat.zero_le _⟩, Nat.zero_le _⟩
        · exact ⟨⟨List.Pairwise.nil, Nat.zero_le _, Nat.zero_le _⟩, Nat.zero_le _⟩
      exact r18_one P c rs rh v l k a w hP hx hc hg.1 hg.2 hl hok hk (by omega) h1 (by omega)

theorem do18_one {c : Cfg} {rs rh : Nat} {l : List It} {k : Ky} {a : Act17} (h1 : a.kind ≠ 1) (h0 : ¬ (a.kind < 0 ∨ 3 < a.kind)) : do18 c rs rh l k a = ((one18 c rs rh l k a).1, (one18 c rs rh l k a).2.1, 0, (one18 c rs rh l k a).2.2) := by
  unfold do18
  rw [if_neg h1, if_neg h0]
theorem one18_bad {c : Cfg} {rs rh : Nat} {l : List It} {k : Ky} {a : Act17} {y : Nd} {e n : Int} (h : do17 rs rh (getL l k).nd a = (y, e, n)) (he : e ≠ 0) : one18 c rs rh l k a = (l.map absI, e, 0) := by
  unfold one18
  simp only [h]
  rw [if_pos he]
theorem one18_ok {c : Cfg} {rs rh : Nat} {l : List It} {k : Ky} {a : Act17} {y : Nd} {n : Int} (h : do17 rs rh (getL l k).nd a = (y, 0, n)) (h3 : a.kind ≠ 3) : one18 c rs rh l k a = if hasI l k = false ∧ c.lo ≤ (l.length : Nat) then (l.map absI, 6, 0) else (outI l k y, 0, 1) := by
  unfold one18
  simp only [h]
  rw [if_neg (by simp), if_neg (fun hh => h3 hh.2)]
theorem one18_note {c : Cfg} {rs rh : Nat} {l : List It} {k : Ky} {a : Act17} {y : Nd} {n : Int} (h : do17 rs rh (getL l k).nd a = (y, 0, n)) (h3 : a.kind = 3) : one18 c rs rh l k a = if hasI l k = true then (outI l k y, 0, 1) else (l.map absI, 5, 0) := by
  unfold one18
  simp only [h]
  rw [if_neg (by simp)]
  cases hh : hasI l k with
  | true => simp
  | false => simp [h3]

/-- What the two sides' answers to an act are. -/
def Same18 (ver : Nat) (r : DoR) (t : List (Ky × Nd) × Int × Int × Int) : Prop :=
  Tells18 r.has t.1 ∧ r.err = t.2.1 ∧ ((r.gone : Nat) : Int) = t.2.2.1 ∧ ((r.ver : Nat) : Int) = (ver : Int) + t.2.2.2
/-- One act on both sides: what they have tells the same, and so do their answers. -/
theorem tells_act {S : List (KO × Nd)} {l : List It} (h : Tells18 S (l.map absI)) (c : Cfg) (rs rh ver : Nat) (k : KO) (a : Act17) :
    Same18 ver (doS c rs rh ver S k a) (do18 c rs rh l k.1 a) := by
  have hhas := h.has k
  have hlen : S.length = l.length := by have := h.len; simpa using this
  obtain ⟨g1, g2, g3, g4⟩ := h.get k
  by_cases h1 : a.kind = 1
  · have e1 : doS c rs rh ver S k a = ⟨0, goneS S a.smp.1 (risL (keysS S)), ver + manyS S a.smp.1 (risL (keysS S)), trimK S a.smp.1 (risL (keysS S))⟩ := by unfold doS; rw [if_neg (by omega), if_pos h1]
    have e2 : do18 c rs rh l k.1 a = (l.map fun x => (x.key, trimR a.smp.1 x.nd), 0, ((goneI l a.smp.1 : Nat) : Int), ((manyI l a.smp.1 : Nat) : Int)) := by unfold do18; rw [if_pos h1]
    rw [e1, e2]
    have ht := h.trim a.smp.1 (K := risL (keysS S)) (fun q hq => (mem_risL _ q).2 hq)
    have hg := tells_gone h a.smp.1
    have e : (l.map absI).map (fun p => (p.1, trimR a.smp.1 p.2)) = l.map fun x => (x.key, trimR a.smp.1 x.nd) := by rw [List.map_map]; rfl
    rw [e] at ht
    exact ⟨ht, rfl, by simp only [hg.1], by simp only [hg.2]; omega⟩
  by_cases hx : a.kind < 0 ∨ 3 < a.kind
  · have e1 : doS c rs rh ver S k a = ⟨0, 0, ver, S.map fun p => (p.1, if p.1.1 ∈ risL (keysS S) then frz p.2 else p.2)⟩ := by unfold doS; rw [if_neg (by omega), if_neg h1, if_neg (by omega), if_neg (by omega)]
    have e2 : do18 c rs rh l k.1 a = (l.map absI, 0, 0, 0) := by unfold do18; rw [if_neg h1, if_pos hx]
    rw [e1, e2]
    exact ⟨tells_frz h _, rfl, rfl, by simp⟩
  rw [do18_one h1 hx]
  by_cases h0 : a.kind = 0
  · by_cases hs : serE a.smp.1 a.smp.2 = 0
    · have e17 : do17 rs rh (getL l k.1).nd a = ({ (getL l k.1).nd with smp := putS (getL l k.1).nd.smp (rs : Nat) a.smp, ver := (getL l k.1).nd.ver + 1 }, 0, ((getL l k.1).nd.smp.length : Int) - ((putS (getL l k.1).nd.smp (rs : Nat) a.smp).length : Int)) := by unfold do17; rw [if_pos h0, if_pos hs]
      have e1 : doS c rs rh ver S k a = if hasM S k = false ∧ c.lo ≤ (S.length : Nat) then ⟨6, 0, ver, S⟩ else ⟨0, 0, ver + 1, putM S k { bump (ndOf S k) with smp := putS (ndOf S k).smp (rs : Nat) a.smp }⟩ := by unfold doS; rw [if_pos h0, if_pos hs]
      rw [e1, one18_ok e17 (by omega), hhas, hlen]
      by_cases hf : hasI l k.1 = false ∧ c.lo ≤ (l.length : Nat)
      · rw [if_pos hf, if_pos hf]
        exact ⟨h, rfl, rfl, by simp⟩
      · rw [if_neg hf, if_neg hf]
        exact ⟨h.put k ⟨by simp only [g1], by simp only [bump, g2], by simp only [bump, g3], by simp only [bump, g4]⟩, rfl, rfl, by simp⟩
    · have e17 : do17 rs rh (getL l k.1).nd a = ((getL l k.1).nd, serE a.smp.1 a.smp.2, 0) := by unfold do17; rw [if_pos h0, if_neg hs]
      have e1 : doS c rs rh ver S k a = ⟨serE a.smp.1 a.smp.2, 0, ver, S⟩ := by unfold doS; rw [if_pos h0, if_neg hs]
      rw [e1, one18_bad e17 hs]
      exact ⟨h, rfl, rfl, by simp⟩
  by_cases h2 : a.kind = 2
  · cases hp : polB a.pol with
    | true =>
      have e17 : do17 rs rh (getL l k.1).nd a = ({ (getL l k.1).nd with pol := a.pol, ruled := true, ver := (getL l k.1).nd.ver + 1 }, 0, 0) := by unfold do17; rw [if_neg h0, if_neg h1, if_pos h2, if_pos hp]
      have e1 : doS c rs rh ver S k a = if hasM S k = false ∧ c.lo ≤ (S.length : Nat) then ⟨6, 0, ver, S⟩ else ⟨0, 0, ver + 1, putM S k { bump (ndOf S k) with pol := a.pol, ruled := true }⟩ := by unfold doS; rw [if_neg h0, if_neg h1, if_pos h2, if_pos hp]
      rw [e1, one18_ok e17 (by omega), hhas, hlen]
      by_cases hf : hasI l k.1 = false ∧ c.lo ≤ (l.length : Nat)
      · rw [if_pos hf, if_pos hf]
        exact ⟨h, rfl, rfl, by simp⟩
      · rw [if_neg hf, if_neg hf]
        exact ⟨h.put k ⟨by simp only [bump, g1], by simp only [bump, g2], rfl, rfl⟩, rfl, rfl, by simp⟩
    | false =>
      have e17 : do17 rs rh (getL l k.1).nd a = ((getL l k.1).nd, 7, 0) := by unfold do17; rw [if_neg h0, if_neg h1, if_pos h2, if_neg (by rw [hp]; simp)]
      have e1 : doS c rs rh ver S k a = ⟨7, 0, ver, S⟩ := by unfold doS; rw [if_neg h0, if_neg h1, if_pos h2, if_neg (by rw [hp]; simp)]
      rw [e1, one18_bad e17 (by decide)]
      exact ⟨h, rfl, rfl, by simp⟩
  have h3 : a.kind = 3 := by omega
  have e17 : do17 rs rh (getL l k.1).nd a = ({ (getL l k.1).nd with past := pushL (getL l k.1).nd.past rh a.adv, ver := (getL l k.1).nd.ver + 1 }, 0, 0) := by unfold do17; rw [if_neg h0, if_neg h1, if_neg h2, if_pos h3]
  have e1 : doS c rs rh ver S k a = if hasM S k = true then ⟨0, 0, ver + 1, putM S k { bump (ndOf S k) with past := pushL (ndOf S k).past rh a.adv }⟩ else ⟨5, 0, ver, S⟩ := by unfold doS; rw [if_neg h0, if_neg h1, if_neg h2, if_pos h3]
  rw [e1, one18_note e17 h3, hhas]
  cases hh : hasI l k.1 with
  | true =>
    rw [if_pos rfl, if_pos rfl]
    exact ⟨h.put k ⟨by simp only [bump, g1], by simp only [g2], by simp only [bump, g3], by simp only [bump, g4]⟩, rfl, rfl, by simp⟩
  | false =>
    rw [if_neg (by simp), if_neg (by simp)]
    exact ⟨h, rfl, rfl, by simp⟩
end

section
set_option linter.unusedSimpArgs false
set_option linter.unusedVariables false
open Go.RowKit Go.Lib Go.Sort

/-- Behind so many acts: few workloads, few changes of each. -/
structure Grown (n : Nat) (ver : Nat) (S : List (KO × Nd)) : Prop where
  len : S.length ≤ n
  vers : ∀ p ∈ S, p.2.ver ≤ n
theorem ndOf_ver {n ver : Nat} {S : List (KO × Nd)} (h : Grown n ver S) (k : KO) : (ndOf S k).ver ≤ n := by
  unfold ndOf
  cases hf : findM S k with
  | none => simp [nd0]
  | some x => exact h.vers _ (find_mem hf)
theorem grown_put {n ver ver' : Nat} {S : List (KO × Nd)} (h : Grown n ver S) (k : KO) {x : Nd} (hx : x.ver ≤ n + 1) : Grown (n + 1) ver' (putM S k x) := by
  refine ⟨?_, fun p hp => ?_⟩
  · rw [len_putM]
    have := h.len
    split <;> omega
  · rcases mem_putM hp with rfl | ⟨hp, _⟩
    · exact hx
    · exact Nat.le_succ_of_le (h.vers p hp)
theorem Grown.more {n ver ver' : Nat} {S : List (KO × Nd)} (h : Grown n ver S) : Grown (n + 1) ver' S := ⟨Nat.le_succ_of_le h.len, fun p hp => Nat.le_succ_of_le (h.vers p hp)⟩
theorem grown_act {n ver : Nat} {S : List (KO × Nd)} (h : Grown n ver S) (c : Cfg) (rs rh : Nat) (k : KO) (a : Act17) : Grown (n + 1) (doS c rs rh ver S k a).ver (doS c rs rh ver S k a).has := by
  have hv := ndOf_ver h k
  unfold doS
  split
  · split
    · split
      · exact h.more
      · exact grown_put h k (by simp only [bump]; omega)
    · exact h.more
  · split
    · refine ⟨by simp [trimK]; exact Nat.le_succ_of_le h.len, fun p hp => ?_⟩
      obtain ⟨q, hq, rfl⟩ := List.mem_map.1 hp
      have := h.vers q hq
      dsimp only
      split
      · unfold trimN
        split
        · omega
        · simp only [bump]; omega
      · omega
    · split
      · split
        · split
          · exact h.more
          · exact grown_put h k (by simp only [bump]; omega)
        · exact h.more
      · split
        · split
          · exact grown_put h k (by simp only [bump]; omega)
          · exact h.more
        · refine ⟨by simp; exact Nat.le_succ_of_le h.len, fun p hp => ?_⟩
          obtain ⟨q, hq, rfl⟩ := List.mem_map.1 hp
          have := h.vers q hq
          dsimp only
          split
          · simp only [frz]; omega
          · omega
/-- The version rises by no more than there are workloads, or one. -/
theorem ver_act {n ver : Nat} {S : List (KO × Nd)} (h : Grown n ver S) (c : Cfg) (rs rh : Nat) (k : KO) (a : Act17) (hn : (risL (keysS S)).length ≤ n) : (doS c rs rh ver S k a).ver ≤ ver + n + 1 := by
  have hm : manyS S a.smp.1 (risL (keysS S)) ≤ n := Nat.le_trans List.countP_le_length hn
  unfold doS
  split
  · split
    · split
      · dsimp only; omega
      · dsimp only; omega
    · dsimp only; omega
  · split
    · dsimp only; omega
    · split
      · split
        · split
          · dsimp only; omega
          · dsimp only; omega
        · dsimp only; omega
      · split
        · split
          · dsimp only; omega
          · dsimp only; omega
        · dsimp only; omega
theorem sameN.ok {rs rh : Nat} {x y : Nd} (h : sameN x y) (hx : NdOk rs rh x) : NdOk rs rh y := ⟨by rw [← h.1]; exact hx.ris, by rw [← h.1]; exact hx.len, by rw [← h.2.1]; exact hx.past⟩
end

section
set_option linter.unusedSimpArgs false
set_option linter.unusedVariables false
open Go.RowKit Go.Lib Go.Sort

set_option maxRecDepth 100000 in
set_option maxHeartbeats 8000000 in
theorem has_core (N : Nat) (y : Nd) (rs rh : Nat) (fp : List Nat) (sA pA : Option Addr) (sc pc : Nat) (ver : Int) (w : World) (hn : NodeIn w N y rs rh fp) (hrs : rs ≤ 256) (hrh : rh ≤ 64)
    (h1 : RowIn 2 smpC w (.slice sA y.smp.length sc) y.smp) (h2 : RowIn 5 advC w (.slice pA y.past.length pc) y.past) :
    Calls Tryz.prog 11 #[.pointer (some ⟨N, 0, none⟩), .agg #[.slice sA y.smp.length sc, .slice pA y.past.length pc, .int .i64 y.pol.mn, .int .i64 y.pol.mx, .int .i64 y.pol.tg, .int .i64 y.pol.tol, .int .i64 y.pol.win, .int .i64 y.pol.hold, .bool y.ruled, .int .i64 ver]] w fun e w' => e = .returned (.bool true) ∧ Below w.heap.size w w' := by
  have HN := Lib.hid hn
  have H1 := Lib.hid h1
  have H2 := Lib.hid h2
  have hl1 : y.smp.length ≤ 1000000 := by obtain ⟨_, _, _, _, _, _, _, _, _, _, _, _, h8⟩ := hn; omega
  have hl2 : y.past.length ≤ 1000000 := by obtain ⟨_, _, _, _, _, _, hh, _⟩ := hn; have := hh.len; omega
  have HL1 := Lib.hid hl1
  have HL2 := Lib.hid hl2
  clear hn h1 h2 hl1 hl2
  go_enter Tryz.func11, Tryz.ntmps11
  go_wp2_with (first
    | (go_at_call 30
       refine calls_named ?_
       intro W1 hW1
       have hb1 : Below w.heap.size w W1 := by rw [hW1]; exact balloc (Below.refl _ _) _
       have ho1 : W1.heap[w.heap.size]? = some (.cells #[.slice sA y.smp.length sc, .slice pA y.past.length pc, .int .i64 y.pol.mn, .int .i64 y.pol.mx, .int .i64 y.pol.tg, .int .i64 y.pol.tol, .int .i64 y.pol.win, .int .i64 y.pol.hold, .bool y.ruled, .int .i64 ver] 55 (0, 0)) := by rw [hW1]; exact heap_alloc_new _ _
       clear hW1
       refine (nodePolicy_any N y rs rh fp W1 (HN.out.below hb1)).mono ?_
       rintro e w2 ⟨rfl, hb2⟩
       have hO2 := (hb2.block _ (Array.getElem?_eq_some_iff.1 ho1).1).trans ho1
       have HO2 := Lib.hid hO2
       have HB2 := Lib.hid (bthen hb1 hb2)
       clear hb1 hb2 ho1 hO2))
  refine name_world ?_
  intro W hW
  have hb0 : Below w.heap.size w W := by rw [hW]; exact bthen HB2.out (balloc (Below.refl _ _) _)
  have hp : W.heap[w2.heap.size]? = some (.cells #[.int .i64 y.pol.mn, .int .i64 y.pol.mx, .int .i64 y.pol.tg, .int .i64 y.pol.tol, .int .i64 y.pol.win, .int .i64 y.pol.hold] 36 (0, 0)) := by rw [hW]; exact heap_alloc_new _ _
  have hx := ((show Below w2.heap.size w2 W by rw [hW]; exact balloc (Below.refl _ _) _).block _ (Array.getElem?_eq_some_iff.1 HO2.out).1).trans HO2.out
  clear hW
  have HW := Lib.hid hb0
  have HX := Lib.hid hx
  have HP := Lib.hid hp
  have rl : ∀ U, Below W.heap.size W U → (∀ j, U.cell? ⟨w.heap.size, j, none⟩ = (#[.slice sA y.smp.length sc, .slice pA y.past.length pc, .int .i64 y.pol.mn, .int .i64 y.pol.mx, .int .i64 y.pol.tg, .int .i64 y.pol.tol, .int .i64 y.pol.win, .int .i64 y.pol.hold, .bool y.ruled, .int .i64 ver] : Array Value)[j]?) := fun U hU => (box_cells hU HX.out).1
  have rp : ∀ U, Below W.heap.size W U → (∀ j, U.cell? ⟨w2.heap.size, j, none⟩ = (#[.int .i64 y.pol.mn, .int .i64 y.pol.mx, .int .i64 y.pol.tg, .int .i64 y.pol.tol, .int .i64 y.pol.win, .int .i64 y.pol.hold] : Array Value)[j]?) := fun U hU => (box_cells hU HP.out).1
  clear hb0 hx hp
  have hS00 : Below W.heap.size W W := Below.refl _ _
  have hS0 : Below W.heap.size W W.drew := hS00.drew
  go_region_held3 (fun U => Below W.heap.size W U)
    (first
      | with_reducible exact hS0
      | with_reducible exact HB7.out
      | with_reducible exact HB6.out
      | with_reducible exact HB5.out
      | with_reducible exact HB4.out)
    (first
      | (go_at_call 32
         refine (nodeSamples_any N y rs rh fp _ (HN.out.below (bthen HW.out ‹Below W.heap.size W _›)) hrs).mono ?_
         rintro e w4 ⟨A, c, fq, rfl, hq, hf, hb⟩
         have hb4 := bthen ‹Below W.heap.size W _› hb
         have HQ4 := Lib.hid (hq.row eSmp)
         have HB4 := Lib.hid hb4
         clear hq hf hb hb4)
      | (go_at_call 31
         refine calls_named ?_
         intro W5 hW5
         have hb5 : Below w4.heap.size w4 W5 := by rw [hW5]; repeat (first | exact Below.refl _ _ | refine Below.drew ?_)
         clear hW5
         refine (r8same_any _ _ y.smp W5 (HQ4.out.below hb5) (H1.out.below (bthen HW.out (bthen HB4.out hb5))) HL1.out).mono ?_
         rintro e w5 ⟨rfl, hb⟩
         have HB5 := Lib.hid (bthen HB4.out (bthen hb5 hb))
         clear hb5 hb)
      | (go_at_call 34
         refine (nodePast_any N y rs rh fp _ (HN.out.below (bthen HW.out ‹Below W.heap.size W _›)) hrh).mono ?_
         rintro e w6 ⟨A6, c6, fq6, rfl, hq, hf, hb⟩
         have hb4 := bthen ‹Below W.heap.size W _› hb
         have HQ6 := Lib.hid (hq.row eAdv)
         have HB6 := Lib.hid hb4
         clear hq hf hb hb4)
      | (go_at_call 33
         refine calls_named ?_
         intro W5 hW5
         have hb5 : Below w6.heap.size w6 W5 := by rw [hW5]; repeat (first | exact Below.refl _ _ | refine Below.drew ?_)
         clear hW5
         refine (r14same_any _ _ y.past W5 (HQ6.out.below hb5) (H2.out.below (bthen HW.out (bthen HB6.out hb5))) HL2.out).mono ?_
         rintro e w7 ⟨rfl, hb⟩
         have HB7 := Lib.hid (bthen HB6.out (bthen hb5 hb))
         clear hb5 hb))
  all_goals go_wp2
  all_goals go_ret
  all_goals exact ⟨rfl, bthen HW.out HB7.out⟩

theorem nhas_any (P : Nat → Prop) (N : Nat) (y : Nd) (rs rh : Nat) (fp : List Nat) (x : It) (w : World) (hn : NodeIn w N y rs rh fp) (hrs : rs ≤ 256) (hrh : rh ≤ 64) (hx : LoadIn P w x) (hs : sameN y x.nd) :
    Calls Tryz.prog 11 #[.pointer (some ⟨N, 0, none⟩), .agg #[.slice x.sA x.nd.smp.length x.sc, .slice x.pA x.nd.past.length x.pc, .int .i64 x.nd.pol.mn, .int .i64 x.nd.pol.mx, .int .i64 x.nd.pol.tg, .int .i64 x.nd.pol.tol, .int .i64 x.nd.pol.win, .int .i64 x.nd.pol.hold, .bool x.nd.ruled, .int .i64 (x.nd.ver : Nat)]] w fun e w' => e = .returned (.bool true) ∧ Below w.heap.size w w' := by
  obtain ⟨h1, h2, h3, h4⟩ := hs
  have hx1 := hx.1.1
  have hx2 := hx.2.1
  rw [← h1] at hx1
  rw [← h2] at hx2
  rw [← h1, ← h2, ← h3, ← h4]
  exact has_core N y rs rh fp _ _ _ _ _ w hn hrs hrh hx1 hx2
end

section
set_option linter.unusedSimpArgs false
set_option linter.unusedVariables false
open Go.RowKit Go.Lib Go.Sort

theorem eKey : EltOf 81 32 2 16 (.agg #[.int .u64 0, .int .u64 0]) keyC :=
  ⟨by kernel_rfl, by kernel_rfl, rfl, by decide, by decide, fun _ => rfl, fun x u hu => by
    simp only [keyC, List.mem_cons, List.not_mem_nil, or_false] at hu
    rcases hu with rfl | rfl <;> rfl⟩
theorem sget_some (T M : Nat) (c : Cfg) (ver : Nat) (es : List (KO × NE)) (rs rh : Nat) (k : KO) (b : NE) (w : World) (h : SAt w T M c ver es rs rh) (hb : findM es k = some b) :
    Calls Tryz.prog 15 #[.pointer (some ⟨T, 0, none⟩), .agg #[.int .u64 k.1.1, .int .u64 k.1.2]] w fun e w' => e = .returned (.pointer (some ⟨b.1, 0, none⟩)) ∧ Below w.heap.size w w' := by
  have := sget_any T M c ver es rs rh k w h
  rw [hb] at this
  exact this
/-- The node of an item. -/
theorem tells_node {w : World} {T M : Nat} {c : Cfg} {ver : Nat} {es : List (KO × NE)} {rs rh : Nat} {l : List It} (h : SAt w T M c ver es rs rh) (ht : Tells18 (ab es) (l.map absI)) {x : It} (hx : x ∈ l) :
    ∃ (k : KO) (b : NE), x.key = k.1 ∧ findM es k = some b ∧ NodeIn w b.1 b.2.1 rs rh b.2.2 ∧ sameN b.2.1 x.nd := by
  have hm : x.key ∈ keysS (ab es) := (ht.keys x.key).1 (List.mem_map.2 ⟨absI x, List.mem_map.2 ⟨x, hx, rfl⟩, rfl⟩)
  obtain ⟨p, hp, he⟩ := List.mem_map.1 hm
  obtain ⟨q, hq, rfl⟩ := List.mem_map.1 hp
  have hf := find_of_mem h.nodup (show (q.1, q.2) ∈ es from hq)
  have hf2 : findM (ab es) q.1 = some q.2.2.1 := by rw [ab_find, hf]; rfl
  obtain ⟨y, hy, hs⟩ := ht.vals q.1 q.2.2.1 hf2
  have he' : q.1.1 = x.key := he
  rw [he'] at hy
  rw [sorted_at_unique ht.sorted hy (List.mem_map.2 ⟨x, hx, rfl⟩ : (x.key, x.nd) ∈ l.map absI)] at hs
  exact ⟨q.1, q.2, he'.symm, hf, h.node q hq, hs⟩

set_option maxRecDepth 100000 in
set_option maxHeartbeats 8000000 in
theorem stold_any (P : Nat → Prop) (T M : Nat) (c : Cfg) (ver : Nat) (es : List (KO × NE)) (rs rh : Nat) (v : Value) (l : List It) (w : World) (h : SAt w T M c ver es rs rh) (hrs : rs ≤ 256) (hrh : rh ≤ 64) (hx : ItemsIn P w v l) (ht : Tells18 (ab es) (l.map absI)) (hl : l.length ≤ 1000) :
    Calls Tryz.prog 13 #[.pointer (some ⟨T, 0, none⟩), v] w fun e w' => e = .returned (.bool true) ∧ Below w.heap.size w w' := by
  obtain ⟨A, cc, rfl⟩ := hx.1.1.form
  have H := Lib.hid h
  have HX := Lib.hid hx
  have HT := Lib.hid ht
  have hel : es.length = l.length := by have := ht.len; rw [ab_len] at this; simpa using this
  have HEL := Lib.hid hel
  have HK := Lib.hid (show risL (kyN es) = keysI l by rw [kyN_keysS, ht.risL, absI_keys])
  clear h hx ht hel
  go_enter Tryz.func13, Tryz.ntmps13
  go_wp2
  go_loopg [5, 10] l.length (fun g s5 s10 wr => ∃ k : Nat, k ≤ l.length ∧ l.length - k ≤ g ∧ s10 = .int .i64 k ∧ OwnL keyC 32 2 w.heap.size wr s5 ((keysI l).take k) ∧ Below w.heap.size w wr)
  case atStart => exact ⟨0, Nat.zero_le _, Nat.le_refl _, rfl, by rw [List.take_zero]; exact OwnL.nil _ _, Below.refl _ _⟩
  case round =>
    obtain ⟨k, hk, hg, rfl, hown, hb⟩ := hrel
    obtain ⟨pre, hpre⟩ : ∃ pre, pre = (keysI l).take k := ⟨_, rfl⟩
    rw [← hpre] at hown
    obtain ⟨A5, c5, rfl⟩ := hown.form
    have hkl : pre.length = k := by rw [hpre]; simp [keysI]; omega
    have HPRE := Lib.hid hpre
    clear hpre
    have HO := Lib.hid hown
    have HKL := Lib.hid hkl
    clear hown hkl
    by_cases hlt : k < l.length
    · have hxm := List.getElem_mem hlt
      obtain ⟨ko, b, hkey, hfb, hnode, hsame⟩ := tells_node H.out HT.out hxm
      obtain ⟨bb, o, rfl, hbw, hc⟩ := HX.out.1.1.at_ hlt
      have hld := HX.out.2 _ hxm
      have HTK := Lib.hid (show (keysI l).take (k + 1) = pre ++ [ko.1] by rw [List.take_succ_eq_append_getElem (by simp [keysI]; omega), ← hkey, HPRE.out]; simp [keysI])
      generalize l[k] = x at hc hkey hld hsame
      clear hxm
      obtain ⟨key, sA, sc, pA, pc, nd⟩ := x
      obtain rfl : key = ko.1 := hkey
      have HF := Lib.hid hfb
      have HN := Lib.hid hnode
      have HSM := Lib.hid hsame
      have HLD := Lib.hid hld
      have q0 := (hb.cell (p := ⟨bb, _, none⟩) hbw).trans (hc 0 _ rfl)
      have q1 := (hb.cell (p := ⟨bb, _, none⟩) hbw).trans (hc 1 _ rfl)
      have q2 := (hb.cell (p := ⟨bb, _, none⟩) hbw).trans (hc 2 _ rfl)
      have q3 := (hb.cell (p := ⟨bb, _, none⟩) hbw).trans (hc 3 _ rfl)
      have q4 := (hb.cell (p := ⟨bb, _, none⟩) hbw).trans (hc 4 _ rfl)
      have q5 := (hb.cell (p := ⟨bb, _, none⟩) hbw).trans (hc 5 _ rfl)
      have q6 := (hb.cell (p := ⟨bb, _, none⟩) hbw).trans (hc 6 _ rfl)
      have q7 := (hb.cell (p := ⟨bb, _, none⟩) hbw).trans (hc 7 _ rfl)
      have q8 := (hb.cell (p := ⟨bb, _, none⟩) hbw).trans (hc 8 _ rfl)
      have q9 := (hb.cell (p := ⟨bb, _, none⟩) hbw).trans (hc 9 _ rfl)
      have q10 := (hb.cell (p := ⟨bb, _, none⟩) hbw).trans (hc 10 _ rfl)
      have q11 := (hb.cell (p := ⟨bb, _, none⟩) hbw).trans (hc 11 _ rfl)
      simp only [Nat.add_zero] at q0
      have HB := Lib.hid hb
      clear hfb hnode hsame hld hc
      go_upto_region 6 with (at_builtin; refine wpList_appendL eKey (by rfl) (by rfl) w.heap.size pre [ko.1] (.slice A5 pre.length c5) _ (by rfl) (by rfl) (HO.out.below (balloc (balloc (Below.refl _ _) _) _)) (RowIn.lit _ ko.1 _ _ (wr.heap.size + 1) (by simp) rfl) (by rw [HKL.out]; simp; omega) (by have := HB.out.size; simp; omega) ?_; intro out2 A2 c2 w2 hout2 hown2 hg2 _
                             have hb2 : Below w.heap.size w w2 := (balloc (balloc HB.out _) _).trans (grown_own hg2 HO.out (by have := HB.out.size; simp; omega))
                             have hx2 : w2.heap[wr.heap.size]? = some (.cells #[.int .u64 ko.1.1, .int .u64 ko.1.2, .slice sA nd.smp.length sc, .slice pA nd.past.length pc, .int .i64 nd.pol.mn, .int .i64 nd.pol.mx, .int .i64 nd.pol.tg, .int .i64 nd.pol.tol, .int .i64 nd.pol.win, .int .i64 nd.pol.hold, .bool nd.ruled, .int .i64 (nd.ver : Nat)] 57 (0, 0)) := (hg2.block wr.heap.size (by simp; omega) (fun e => by have := (HO.out.lt e.symm).2; omega)).trans ((Below.heap_alloc _ _ _ (by simp)).trans (heap_alloc_new _ _))
                             have HW2 := Lib.hid hown2
                             have HO2 := Lib.hid hout2
                             have HB2 := Lib.hid hb2
                             have HX2 := Lib.hid hx2
                             clear hown2 hout2 hg2 hb2 hx2)
      have rl : ∀ U, Below w2.heap.size w2 U → (∀ j, U.cell? ⟨wr.heap.size, j, none⟩ = (#[.int .u64 ko.1.1, .int .u64 ko.1.2, .slice sA nd.smp.length sc, .slice pA nd.past.length pc, .int .i64 nd.pol.mn, .int .i64 nd.pol.mx, .int .i64 nd.pol.tg, .int .i64 nd.pol.tol, .int .i64 nd.pol.win, .int .i64 nd.pol.hold, .bool nd.ruled, .int .i64 (nd.ver : Nat)] : Array Value)[j]?) := fun U hU => (box_cells hU HX2.out).1
      clear q0 q1 q2 q3 q4 q5 q6 q7 q8 q9 q10 q11
      have hS00 : Below w2.heap.size w2 w2 := Below.refl _ _
      have hS0 : Below w2.heap.size w2 w2.drew := hS00.drew
      go_region_held3 (fun U => Below w2.heap.size w2 U)
        (first
          | with_reducible exact hS0
          | with_reducible exact HB5.out
          | with_reducible exact HB4.out)
        (first
          | (go_at_call 15
             refine (sget_some T M c ver es rs rh ko b _ (H.out.below (bthen HB2.out ‹Below w2.heap.size w2 _›)) HF.out).mono ?_
             rintro e w4 ⟨rfl, hb⟩
             have HB4 := Lib.hid (bthen ‹Below w2.heap.size w2 _› hb)
             clear hb)
          | (go_at_call 11
             refine calls_named ?_
             intro W5 hW5
             have hb5 : Below w4.heap.size w4 W5 := by rw [hW5]; repeat (first | exact Below.refl _ _ | refine Below.drew ?_)
             clear hW5
             have hbA := bthen HB2.out (bthen HB4.out hb5)
             refine (nhas_any P b.1 b.2.1 rs rh b.2.2 ⟨ko.1, sA, sc, pA, pc, nd⟩ W5 (HN.out.below hbA) hrs hrh (HLD.out.below hbA) HSM.out).mono ?_
             rintro e w5 ⟨rfl, hb⟩
             have HB5 := Lib.hid (bthen HB4.out (bthen hb5 hb))
             clear hb5 hb hbA))
      all_goals
        go_wp2
        go_roundg (l.length - (k + 1))
        case measure => omega
        case rel => exact ⟨k + 1, hlt, Nat.le_refl _, by go_num, by rw [HTK.out, ← HO2.out]; exact HW2.out.below HB5.out, bthen HB2.out HB5.out⟩
    · obtain rfl : k = l.length := by omega
      obtain rfl : pre = keysI l := by rw [HPRE.out]; exact List.take_of_length_le (by simp [keysI])
      have HB := Lib.hid hb
      have hkk : (keysI l).length = l.length := HKL.out
      have HKL2 := Lib.hid (show (keysI l).length ≤ maxLen by unfold maxLen; omega)
      clear hb hkk
      go_wp2_with (first
        | (go_at_call 28
           refine (skeys_any T c ver es rs rh _ wr (H.out.below HB.out).in_ (by have := HEL.out; omega)).mono ?_
           rw [HK.out]
           rintro e w4 ⟨v4, rfl, hrow, hb4⟩
           obtain ⟨A4, c4, rfl⟩ := own_form hrow
           have HR4 := Lib.hid (KeysIn.own hrow)
           have HB4 := Lib.hid hb4
           clear hrow hb4)
        | (go_at_call 36
           refine (same_any _ _ _ _ w4 HR4.out (KeysIn.own (HO.out.below HB4.out)) HKL2.out HKL2.out).mono ?_
           rw [show sameK (keysI l) (keysI l) = true by simp [sameK]]
           rintro e w5 ⟨rfl, hb⟩
           have HB5 := Lib.hid (bthen HB.out (bthen HB4.out hb))
           clear hb)
        | (go_at_call 17
           refine (slen_any T c ver es rs rh _ w5 (H.out.below HB5.out).in_ (by have := HEL.out; omega)).mono ?_
           rw [HEL.out]
           rintro e w6 ⟨rfl, hb⟩
           have HB6 := Lib.hid (bthen HB5.out hb)
           clear hb))
      go_ret
      exact ⟨rfl, HB6.out⟩
end

section
set_option linter.unusedSimpArgs false
set_option linter.unusedVariables false
open Go.RowKit Go.Lib Go.Sort

theorem SAt.sfpLt {w : World} {T M : Nat} {c : Cfg} {ver : Nat} {es : List (KO × NE)} {rs rh : Nat} (h : SAt w T M c ver es rs rh) : ∀ r ∈ sfp T M es, r < w.heap.size := by
  intro r hr
  simp only [sfp, List.mem_cons] at hr
  rcases hr with rfl | rfl | hr
  · exact h.ltT
  · exact h.map.lt
  · obtain ⟨p, hp, hr⟩ := mem_mfpE.1 hr
    exact (h.node p hp).lt r (mfp_sub _ _ r hr)
theorem NodeIn.ok {w : World} {N : Nat} {x : Nd} {rs rh : Nat} {fp : List Nat} (h : NodeIn w N x rs rh fp) : NdOk rs rh x := by
  obtain ⟨S, fs, H, fh, h1, h2, h3, h4, h5, h6, rfl, h7, h8⟩ := h
  exact ⟨h7, h8, h3.len⟩
theorem tells_ok {w : World} {T M : Nat} {c : Cfg} {ver : Nat} {es : List (KO × NE)} {rs rh : Nat} {l : List It} (h : SAt w T M c ver es rs rh) (ht : Tells18 (ab es) (l.map absI)) : ∀ x ∈ l, NdOk rs rh x.nd ∧ x.key.ok := by
  intro x hx
  obtain ⟨k, b, h1, _, h3, h4⟩ := tells_node h ht hx
  exact ⟨h4.ok h3.ok, by rw [h1]; exact k.2⟩

theorem do17_ver (rs rh : Nat) (x : Nd) (a : Act17) : (do17 rs rh x a).1.ver ≤ x.ver + 1 := by
  unfold do17
  repeat (first | (split) | (dsimp only; omega))
theorem getL_ver {n : Nat} {l : List It} (hv : ∀ x ∈ l, x.nd.ver ≤ n) (k : Ky) : (getL l k).nd.ver ≤ n := by
  have h0 : it0.nd.ver = 0 := rfl
  unfold getL
  split
  · split
    · exact hv _ (List.getElem_mem _)
    · omega
  · omega
theorem do18_ver {n : Nat} {l : List It} (hv : ∀ x ∈ l, x.nd.ver ≤ n) (c : Cfg) (rs rh : Nat) (k : Ky) (a : Act17) : ∀ p ∈ (do18 c rs rh l k a).1, p.2.ver ≤ n + 1 := by
  have hv' : ∀ p ∈ l.map absI, p.2.ver ≤ n + 1 := by
    intro p hp
    obtain ⟨x, hx, rfl⟩ := List.mem_map.1 hp
    exact Nat.le_succ_of_le (hv x hx)
  have hg := getL_ver hv k
  have h17 := do17_ver rs rh (getL l k).nd a
  unfold do18
  split
  · intro p hp
    obtain ⟨x, hx, rfl⟩ := List.mem_map.1 hp
    have := hv x hx
    dsimp only
    unfold trimR
    split
    · omega
    · dsimp only; omega
  · split
    · exact hv'
    · unfold one18
      dsimp only
      split
      · exact hv'
      · split
        · exact hv'
        · split
          · exact hv'
          · intro p hp
            dsimp only at hp
            unfold outI at hp
            rcases List.mem_append.1 hp with hp | hp
            · rcases List.mem_append.1 hp with hp | hp
              · exact hv' p (List.mem_of_mem_take hp)
              · rw [List.mem_singleton.1 hp]
                dsimp only
                omega
            · exact hv' p (List.mem_of_mem_drop hp)

theorem outI_len {l : List It} (k : Ky) (y : Nd) : (outI l k y).length = if hasI l k = true then l.length else l.length + 1 := by
  have h0 := atI_le l k
  unfold outI
  by_cases hh : hasI l k = true
  · obtain ⟨hl, _⟩ := getL_has hh
    rw [if_pos hh, if_pos hh]
    simp
    omega
  · rw [if_neg hh, if_neg hh]
    simp
    omega
theorem do18_len {l : List It} {c : Cfg} (h : (l.length : Nat) ≤ c.lo) (rs rh : Nat) (k : Ky) (a : Act17) : (((do18 c rs rh l k a).1.length : Nat) : Int) ≤ c.lo := by
  have hm : ((l.map absI).length : Int) ≤ c.lo := by rw [List.length_map]; exact h
  unfold do18
  split
  · simpa using h
  · split
    · exact hm
    · unfold one18
      dsimp only
      split
      · exact hm
      · split
        · exact hm
        · split
          · exact hm
          · rename_i h3 h4
            dsimp only
            rw [outI_len]
            split
            · exact h
            · rename_i h5
              have h6 : hasI l k = false := by simpa using h5
              have : ¬ c.lo ≤ (l.length : Nat) := fun h7 => h4 ⟨h6, h7⟩
              omega

structure CfgOk (c : Cfg) (rs rh : Nat) : Prop where
  cfg : cfgB c = true
  sa : c.sa = (rs : Nat)
  hi : c.hi = (rh : Nat)
  ok : c.ok
theorem CfgOk.room {c : Cfg} {rs rh : Nat} (h : CfgOk c rs rh) : RoomOk c rs rh := by
  have hc := h.cfg
  have h1 := h.sa
  have h2 := h.hi
  unfold cfgB at hc
  simp only [Bool.and_eq_true, decide_eq_true_eq] at hc
  exact ⟨h1, h2, by omega, by omega, by omega, by omega⟩

/-- Behind n acts: the stripe, and the reference's items, whose blocks the stripe does not turn. -/
structure Play (w0 W : World) (T M : Nat) (c : Cfg) (rs rh n ver : Nat) (es : List (KO × NE)) (v : Value) (l : List It) : Prop where
  at_ : SAt W T M c ver es rs rh
  items : ItemsIn (fun b => b ∉ sfp T M es) W v l
  tells : Tells18 (ab es) (l.map absI)
  base : Below w0.heap.size w0 W
  above : ∀ r ∈ sfp T M es, w0.heap.size ≤ r
  grown : Grown n ver (ab es)
  vers : ∀ x ∈ l, x.nd.ver ≤ n
  ver_ : ver ≤ 1000 * n
  room : (l.length : Nat) ≤ c.lo
theorem Play.below {w0 W W' : World} {T M : Nat} {c : Cfg} {rs rh n ver : Nat} {es : List (KO × NE)} {v : Value} {l : List It} (h : Play w0 W T M c rs rh n ver es v l) (hb : Below W.heap.size W W') : Play w0 W' T M c rs rh n ver es v l :=
  ⟨h.at_.below hb, h.items.below hb, h.tells, bthen h.base hb, h.above, h.grown, h.vers, h.ver_, h.room⟩
theorem Play.len {w0 W : World} {T M : Nat} {c : Cfg} {rs rh n ver : Nat} {es : List (KO × NE)} {v : Value} {l : List It} (h : Play w0 W T M c rs rh n ver es v l) : es.length = l.length ∧ l.length ≤ n := by
  have h1 := h.tells.len
  have h2 := h.grown.len
  rw [ab_len] at h1 h2
  have h3 : es.length = l.length := by simpa using h1
  exact ⟨h3, by omega⟩
theorem sok_of {W : World} {T M : Nat} {c : Cfg} {rs rh n ver : Nat} {es : List (KO × NE)} (hg : Grown n ver (ab es)) (hv : ver ≤ 1000 * n) (hc : CfgOk c rs rh) (hn : n ≤ 100) : SOk c rs rh ver (ab es) :=
  ⟨hc.cfg, hc.sa, hc.hi, hc.ok, by have := hg.len; omega, by omega, fun p hp => by have := hg.vers p hp; omega⟩
theorem smp_small {W : World} {T M : Nat} {c : Cfg} {rs rh ver : Nat} {es : List (KO × NE)} (h : SAt W T M c ver es rs rh) (hr : rs ≤ 256) : ∀ p ∈ ab es, p.2.smp.length ≤ 256 := by
  intro p hp
  obtain ⟨q, hq, rfl⟩ := List.mem_map.1 hp
  exact Nat.le_trans (h.node q hq).ok.len hr
/-- A row that the stripe's turn leaves. -/
theorem RowG.turn {α : Type} {n : Nat} {f : α → List Value} {W w1 : World} {v : Value} {l : List α} {fp fp' : List Nat} (h : RowG (fun b => b ∉ fp) n f W v l) (hu : Upd W w1 fp fp') : RowG (fun b => b ∉ fp') n f w1 v l :=
  (h.old.imp (Q := fun b => b ∉ fp' ∧ b ∉ fp) (fun b hb => ⟨fun hq => (hu.fresh b hq).elim hb.1 (fun h' => by omega), hb.1⟩)).keepP hu.size (fun b hb hlt => hu.block b hlt hb.2) |>.imp (fun b hb => hb.1)
theorem ItemsIn.turn {W w1 : World} {v : Value} {l : List It} {fp fp' : List Nat} (h : ItemsIn (fun b => b ∉ fp) W v l) (hu : Upd W w1 fp fp') : ItemsIn (fun b => b ∉ fp') w1 v l :=
  ⟨h.1.turn hu, fun x hx => ⟨(h.2 x hx).1.turn hu, (h.2 x hx).2.turn hu⟩⟩

/-- Between the act on the stripe and the reference's. -/
structure Half (w0 W : World) (T M : Nat) (c : Cfg) (rs rh n ver : Nat) (k : KO) (a : Act17) (R : DoR) (es : List (KO × NE)) (v : Value) (l : List It) : Prop where
  at_ : SAt W T M c R.ver es rs rh
  has : ab es = R.has
  items : ItemsIn (fun b => b ∉ sfp T M es) W v l
  same : Same18 ver R (do18 c rs rh l k.1 a)
  base : Below w0.heap.size w0 W
  above : ∀ r ∈ sfp T M es, w0.heap.size ≤ r
  grown : Grown (n + 1) R.ver (ab es)
  vers : ∀ x ∈ l, x.nd.ver ≤ n
  ver_ : R.ver ≤ 1000 * (n + 1)
  oks : ∀ x ∈ l, NdOk rs rh x.nd ∧ x.key.ok
  len : l.length ≤ n
  room : (l.length : Nat) ≤ c.lo
theorem Half.below {w0 W W' : World} {T M : Nat} {c : Cfg} {rs rh n ver : Nat} {k : KO} {a : Act17} {R : DoR} {es : List (KO × NE)} {v : Value} {l : List It} (h : Half w0 W T M c rs rh n ver k a R es v l) (hb : Below W.heap.size W W') : Half w0 W' T M c rs rh n ver k a R es v l :=
  ⟨h.at_.below hb, h.has, h.items.below hb, h.same, bthen h.base hb, h.above, h.grown, h.vers, h.ver_, h.oks, h.len, h.room⟩

theorem play_do {w0 W : World} {T M : Nat} {c : Cfg} {rs rh n ver : Nat} {es : List (KO × NE)} {v : Value} {l : List It} (h : Play w0 W T M c rs rh n ver es v l) (hc : CfgOk c rs rh) (hn : n ≤ 100) (k : KO) (a : Act17) :
    ∃ R : DoR, Calls Tryz.prog 8 #[.pointer (some ⟨T, 0, none⟩), .agg (act18C k.1 a).toArray] W fun e w1 => ∃ es2, e = .returned (.tuple #[.int .i64 R.err, .int .i64 (R.gone : Nat)]) ∧ Half w0 w1 T M c rs rh n ver k a R es2 v l ∧ Upd W w1 (sfp T M es) (sfp T M es2) := by
  have hr := hc.room
  refine ⟨doS c rs rh ver (ab es) k a, (sdo_all T M c ver es rs rh k a W h.at_ (sok_of (W := W) (T := T) (M := M) h.grown h.ver_ hc hn) (smp_small h.at_ hr.r2)).mono ?_⟩
  rintro e w1 ⟨es2, he, h1, h2, hu⟩
  refine ⟨es2, he, ⟨h1, h2, h.items.turn hu, tells_act h.tells c rs rh ver k a, h.base.trans (hu.below h.base.size h.above), fun r hr => ?_, ?_, h.vers, ?_, tells_ok h.at_ h.tells, h.len.2, h.room⟩, hu⟩
  · rcases hu.fresh r hr with hr | hr
    · exact h.above r hr
    · exact Nat.le_trans h.base.size hr
  · rw [h2]; exact grown_act h.grown c rs rh k a
  · have hk : (risL (keysS (ab es))).length ≤ n := by rw [risL_length (keysS_nodup h.tells.nodup)]; unfold keysS; rw [List.length_map]; exact h.grown.len
    have := ver_act h.grown c rs rh k a hk
    have := h.ver_
    omega
theorem half_do18 {w0 W : World} {T M : Nat} {c : Cfg} {rs rh n ver : Nat} {k : KO} {a : Act17} {R : DoR} {es : List (KO × NE)} {v : Value} {l : List It} (h : Half w0 W T M c rs rh n ver k a R es v l) (hc : CfgOk c rs rh) (hn : n ≤ 100) :
    Calls Tryz.prog 9 #[cfgV c, v, .agg (act18C k.1 a).toArray] W fun e w2 => ∃ out A cc, e = .returned (.tuple #[.slice A out.length cc, .int .i64 R.err, .int .i64 (R.gone : Nat), .int .i64 ((R.ver : Int) - (ver : Int))]) ∧ Play w0 w2 T M c rs rh (n + 1) R.ver es (.slice A out.length cc) out ∧ Below W.heap.size W w2 := by
  have hlt := h.at_.sfpLt
  obtain ⟨s1, s2, s3, s4⟩ := h.same
  refine (do18_any (fun b => b ∉ sfp T M es) c rs rh v l k.1 a W (fun b hb hq => by have := hlt b hq; omega) h.items hc.room (fun x hx => (h.oks x hx).1) (fun x hx => by have := h.vers x hx; omega) (by have := h.len; omega) (fun x hx => (h.oks x hx).2) k.2).mono ?_
  rintro e w2 ⟨out, A, cc, rfl, h1, h2, hb⟩
  refine ⟨out, A, cc, by
    have e4 : (do18 c rs rh l k.1 a).2.2.2 = (R.ver : Int) - (ver : Int) := by omega
    rw [← s2, ← s3, e4], ⟨h.at_.below hb, h1, by rw [h2, h.has]; exact s1, bthen h.base hb, h.above, h.grown, fun x hx => ?_, h.ver_, by have := do18_len h.room rs rh k.1 a; rw [← h2, List.length_map] at this; exact this⟩, hb⟩
  have := do18_ver h.vers c rs rh k.1 a (absI x) (by rw [← h2]; exact List.mem_map.2 ⟨x, hx, rfl⟩)
  exact this
end

section
set_option linter.unusedSimpArgs false
set_option linter.unusedVariables false
open Go.RowKit Go.Lib Go.ChangeShapes Go.WideShapes Go.Joins

theorem cl_sint : Tryz.prog.cellsOf 3 = 1 := by kernel_rfl
theorem cl_si64 : Tryz.prog.cellsOf 2 = 1 := by kernel_rfl
theorem cl_ssmp : Tryz.prog.cellsOf 34 = 2 := by kernel_rfl
theorem cl_spol : Tryz.prog.cellsOf 36 = 6 := by kernel_rfl
theorem cl_sadv : Tryz.prog.cellsOf 38 = 5 := by kernel_rfl
theorem cl_sa17 : Tryz.prog.cellsOf 40 = 14 := by kernel_rfl
theorem cl_sa18 : Tryz.prog.cellsOf 42 = 16 := by kernel_rfl

section
variable {H : Type} {enc : TypeId × Value → H} {w : World} {base : Nat} {spare : Nat → Bool} {held : Bool}

theorem sfield {fuel : Nat} {t : TypeId} (ht : Tryz.prog.underlying t = some (.int .i64)) (hc : Tryz.prog.cellsOf t = 1) {cs : List Value} {xs : List (DataW H × List MemPlace)} {i o : Nat} (hi : i < xs.length) {v : Value} (hv : cs.drop o = v :: cs.drop (o + 1))
    (h : DataW.trod enc Tryz.prog w base spare held fuel t ((cs.drop o).take (Tryz.prog.cellsOf t)) = xs[i]?) : ∃ n, v = .int .i64 n := by
  rw [hc, hv, List.take_succ_cons, List.take_zero, List.getElem?_eq_getElem hi] at h
  obtain ⟨n, hn, _, hw⟩ := DataW.trod_int ht h
  simp only [List.cons.injEq, and_true] at hn
  exact ⟨n, hn⟩

set_option maxRecDepth 100000 in
theorem ssmp_reads {fuel : Nat} {cs : List Value} {x : DataW H × List MemPlace} (h : DataW.trod enc Tryz.prog w base spare held fuel 34 cs = some x) :
    ∃ p : Smp, cs = smpC p := by
  obtain ⟨xs, n, _, _, hl, hx, hf⟩ := DataW.trod_struct Tryz.underlying34 h
  rw [cl_ssmp] at hl
  replace hx : xs.length = 2 := hx
  match cs, hl with
  | [a0, a1], _ =>
    obtain ⟨n0, rfl⟩ := sfield Tryz.underlying2 cl_si64 (i := 0) (by omega) (o := 0) rfl (hf 0 _ rfl)
    obtain ⟨n1, rfl⟩ := sfield Tryz.underlying2 cl_si64 (i := 1) (by omega) (o := 1) rfl (hf 1 _ rfl)
    exact ⟨(n0, n1), rfl⟩
set_option maxRecDepth 100000 in
theorem spol_reads {fuel : Nat} {cs : List Value} {x : DataW H × List MemPlace} (h : DataW.trod enc Tryz.prog w base spare held fuel 36 cs = some x) :
    ∃ p : Pol, cs = [.int .i64 p.mn, .int .i64 p.mx, .int .i64 p.tg, .int .i64 p.tol, .int .i64 p.win, .int .i64 p.hold] := by
  obtain ⟨xs, n, _, _, hl, hx, hf⟩ := DataW.trod_struct Tryz.underlying36 h
  rw [cl_spol] at hl
  replace hx : xs.length = 6 := hx
  match cs, hl with
  | [a0, a1, a2, a3, a4, a5], _ =>
    obtain ⟨n0, rfl⟩ := sfield Tryz.underlying2 cl_si64 (i := 0) (by omega) (o := 0) rfl (hf 0 _ rfl)
    obtain ⟨n1, rfl⟩ := sfield Tryz.underlying2 cl_si64 (i := 1) (by omega) (o := 1) rfl (hf 1 _ rfl)
    obtain ⟨n2, rfl⟩ := sfield Tryz.underlying2 cl_si64 (i := 2) (by omega) (o := 2) rfl (hf 2 _ rfl)
    obtain ⟨n3, rfl⟩ := sfield Tryz.underlying2 cl_si64 (i := 3) (by omega) (o := 3) rfl (hf 3 _ rfl)
    obtain ⟨n4, rfl⟩ := sfield Tryz.underlying2 cl_si64 (i := 4) (by omega) (o := 4) rfl (hf 4 _ rfl)
    obtain ⟨n5, rfl⟩ := sfield Tryz.underlying2 cl_si64 (i := 5) (by omega) (o := 5) rfl (hf 5 _ rfl)
    exact ⟨⟨n0, n1, n2, n3, n4, n5⟩, rfl⟩
set_option maxRecDepth 100000 in
theorem sadv_reads {fuel : Nat} {cs : List Value} {x : DataW H × List MemPlace} (h : DataW.trod enc Tryz.prog w base spare held fuel 38 cs = some x) :
    ∃ p : Adv, cs = advC p := by
  obtain ⟨xs, n, _, _, hl, hx, hf⟩ := DataW.trod_struct Tryz.underlying38 h
  rw [cl_sadv] at hl
  replace hx : xs.length = 5 := hx
  match cs, hl with
  | [a0, a1, a2, a3, a4], _ =>
    obtain ⟨n0, rfl⟩ := sfield Tryz.underlying2 cl_si64 (i := 0) (by omega) (o := 0) rfl (hf 0 _ rfl)
    obtain ⟨n1, rfl⟩ := sfield Tryz.underlying2 cl_si64 (i := 1) (by omega) (o := 1) rfl (hf 1 _ rfl)
    obtain ⟨n2, rfl⟩ := sfield Tryz.underlying2 cl_si64 (i := 2) (by omega) (o := 2) rfl (hf 2 _ rfl)
    obtain ⟨n3, rfl⟩ := sfield Tryz.underlying2 cl_si64 (i := 3) (by omega) (o := 3) rfl (hf 3 _ rfl)
    obtain ⟨n4, rfl⟩ := sfield Tryz.underlying3 cl_sint (i := 4) (by omega) (o := 4) rfl (hf 4 _ rfl)
    exact ⟨⟨n0, n1, n2, n3, n4⟩, rfl⟩
set_option maxRecDepth 100000 in
theorem a17_reads {fuel : Nat} {cs : List Value} {x : DataW H × List MemPlace} (h : DataW.trod enc Tryz.prog w base spare held fuel 40 cs = some x) :
    ∃ a : Act17, cs = act17C a := by
  obtain ⟨xs, n, _, _, hl, hx, hf⟩ := DataW.trod_struct Tryz.underlying40 h
  rw [cl_sa17] at hl
  replace hx : xs.length = 4 := hx
  match cs, hl with
  | [a0, a1, a2, a3, a4, a5, a6, a7, a8, a9, a10, a11, a12, a13], _ =>
    obtain ⟨n0, rfl⟩ := sfield Tryz.underlying3 cl_sint (i := 0) (by omega) (o := 0) rfl (hf 0 _ rfl)
    have h1 := hf 1 _ rfl
    have h2 := hf 2 _ rfl
    have h3 := hf 3 _ rfl
    rw [List.getElem?_eq_getElem (by omega)] at h1 h2 h3
    obtain ⟨s, hs⟩ := ssmp_reads h1
    obtain ⟨p, hp⟩ := spol_reads h2
    obtain ⟨v, hv⟩ := sadv_reads h3
    replace hs : ([a1, a2, a3, a4, a5, a6, a7, a8, a9, a10, a11, a12, a13] : List Value).take (Tryz.prog.cellsOf 34) = _ := hs
    replace hp : ([a3, a4, a5, a6, a7, a8, a9, a10, a11, a12, a13] : List Value).take (Tryz.prog.cellsOf 36) = _ := hp
    replace hv : ([a9, a10, a11, a12, a13] : List Value).take (Tryz.prog.cellsOf 38) = _ := hv
    rw [cl_ssmp] at hs
    rw [cl_spol] at hp
    rw [cl_sadv] at hv
    simp only [smpC, advC, List.take_succ_cons, List.take_zero, List.cons.injEq, and_true] at hs hp hv
    obtain ⟨rfl, rfl⟩ := hs
    obtain ⟨rfl, rfl, rfl, rfl, rfl, rfl⟩ := hp
    obtain ⟨rfl, rfl, rfl, rfl, rfl⟩ := hv
    exact ⟨⟨n0, s, p, v⟩, rfl⟩
set_option maxRecDepth 100000 in
theorem a18_reads {fuel : Nat} {cs : List Value} {x : DataW H × List MemPlace} (h : DataW.trod enc Tryz.prog w base spare held fuel 42 cs = some x) :
    ∃ (k : Ky) (a : Act17), k.ok ∧ cs = act18C k a := by
  obtain ⟨xs, n, _, _, hl, hx, hf⟩ := DataW.trod_struct Tryz.underlying42 h
  rw [cl_sa18] at hl
  replace hx : xs.length = 2 := hx
  match cs, hl with
  | [a0, a1, a2, a3, a4, a5, a6, a7, a8, a9, a10, a11, a12, a13, a14, a15], _ =>
    have h0 := hf 0 _ rfl
    have h1 := hf 1 _ rfl
    rw [List.getElem?_eq_getElem (by omega)] at h0 h1
    obtain ⟨k, hk, hs⟩ := key_reads h0
    obtain ⟨a, hp⟩ := a17_reads h1
    replace hs : ([a0, a1, a2, a3, a4, a5, a6, a7, a8, a9, a10, a11, a12, a13, a14, a15] : List Value).take (Tryz.prog.cellsOf 32) = _ := hs
    replace hp : ([a2, a3, a4, a5, a6, a7, a8, a9, a10, a11, a12, a13, a14, a15] : List Value).take (Tryz.prog.cellsOf 40) = _ := hp
    rw [cl_key] at hs
    rw [cl_sa17] at hp
    simp only [keyC, act17C, List.take_succ_cons, List.take_zero, List.cons.injEq, and_true] at hs hp
    obtain ⟨rfl, rfl⟩ := hs
    obtain ⟨rfl, rfl, rfl, rfl, rfl, rfl, rfl, rfl, rfl, rfl, rfl, rfl, rfl, rfl⟩ := hp
    exact ⟨k, a, hk, rfl⟩
end
end

section
set_option linter.unusedSimpArgs false
set_option linter.unusedVariables false
open Go.RowKit Go.Lib Go.Sort
open Go.ChangeMaps (setBlock)

theorem upd_own {w0 w w' : World} {T M : Nat} {es es' : List (KO × NE)} (hb : Below w0.heap.size w0 w) (hf : ∀ r ∈ sfp T M es, w0.heap.size ≤ r) (h : Upd w w' (sfp T M es) (sfp T M es')) : Below w0.heap.size w0 w' ∧ ∀ r ∈ sfp T M es', w0.heap.size ≤ r :=
  ⟨hb.trans (h.below hb.size hf), fun r hr => (h.fresh r hr).elim (hf r) (fun h' => Nat.le_trans hb.size h')⟩
theorem sfp_sub {w : World} {T M : Nat} {c : Cfg} {ver : Nat} {es : List (KO × NE)} {rs rh : Nat} (h : SAt w T M c ver es rs rh) : ∀ r ∈ sfp T M es, r ∈ T :: M :: es.flatMap (fun p => p.2.2.2) := fun r hr => by
  simp only [sfp, List.mem_cons] at hr ⊢
  rcases hr with rfl | rfl | hr
  · exact .inl rfl
  · exact .inr (.inl rfl)
  · obtain ⟨p, hp, hr⟩ := mem_mfpE.1 hr
    exact .inr (.inr (List.mem_flatMap.2 ⟨p, hp, mfp_sub _ _ r hr⟩))

def kA : KO := ⟨(1, 0), ⟨by decide, by decide⟩⟩
def kB : KO := ⟨(2, 0), ⟨by decide, by decide⟩⟩
def cfgA : Cfg := ⟨1, 4, 1, 1⟩
def ndA1 : Nd := ⟨pol0, false, 1, [(3, 1)], [], false⟩
def ndA2 : Nd := ⟨pol0, false, 2, [(3, 1), (5, 1)], [], false⟩
theorem awA1 : putM ([] : List (KO × Nd)) kA { bump (ndOf [] kA) with smp := putS (ndOf [] kA).smp ((4 : Nat) : Int) (3, 1) } = [(kA, ndA1)] := by rfl
theorem awA2 : putM [(kA, ndA1)] kA { bump (ndOf [(kA, ndA1)] kA) with smp := putS (ndOf [(kA, ndA1)] kA).smp ((4 : Nat) : Int) (5, 1) } = [(kA, ndA2)] := by rfl
theorem kyN_ab (es : List (KO × NE)) : kyN es = (ab es).map (·.1.1) := by simp [kyN, ab, List.map_map, Function.comp_def]
theorem awG : goneS [(kA, ndA2)] 5 (risL [(1, 0)]) = 1 := by rfl

theorem cfgA_ok : cfgA.ok := by simp [Cfg.ok, cfgA, I64]
theorem cfgA_b : cfgB cfgA = true := by decide

set_option maxRecDepth 100000 in
set_option maxHeartbeats 4000000 in
theorem awake_any (w : World) :
    Calls Tryz.prog 5 #[] w fun e w' => e = .returned (.bool true) ∧ Below w.heap.size w w' := by
  have HNW : Hid (∀ W, Calls Tryz.prog 7 #[.agg #[.int .i64 1, .int .i64 4, .int .i64 1, .int .i64 1]] W (NewStripe W cfgA 4 1)) := Lib.hid (fun W => stripeNew_any cfgA 4 1 W cfgA_b cfgA_ok)
  have HI1 : Hid (∀ T M es W, SAt W T M cfgA 0 es 4 1 → ab es = [] → Calls Tryz.prog 18 #[.pointer (some ⟨T, 0, none⟩), .agg #[.int .u64 1, .int .u64 0], .int .i64 3, .int .i64 1] W (SSays W T M cfgA es 4 1 (.int .i64 0) 1 [(kA, ndA1)])) := Lib.hid (fun T M es W h he => by
    have hlen : es.length = 0 := by rw [← ab_len, he]; rfl
    have := singest_ok T M cfgA 0 es 4 1 kA (3, 1) W h (by decide) (fun hh => by have := hh.2; rw [hlen] at this; simp [cfgA] at this) cfgA_b rfl rfl cfgA_ok (by omega) (by rw [he]; simp)
    rw [he, awA1] at this
    exact this)
  have HI2 : Hid (∀ T M es W, SAt W T M cfgA 1 es 4 1 → ab es = [(kA, ndA1)] → Calls Tryz.prog 18 #[.pointer (some ⟨T, 0, none⟩), .agg #[.int .u64 2, .int .u64 0], .int .i64 3, .int .i64 1] W (SSays W T M cfgA es 4 1 (.int .i64 6) 1 [(kA, ndA1)])) := Lib.hid (fun T M es W h he => by
    have hlen : es.length = 1 := by rw [← ab_len, he]; rfl
    have hf : findM es kB = none := by
      have h1 := ab_find es kB
      rw [he] at h1
      have h2 : findM [(kA, ndA1)] kB = none := by rfl
      rw [h2] at h1
      exact Option.map_eq_none_iff.1 h1.symm
    have := singest_full T M cfgA 1 es 4 1 kB (3, 1) W h (by decide) hf (by rw [hlen]; decide)
    rw [he] at this
    exact this)
  have HI3 : Hid (∀ T M es W, SAt W T M cfgA 1 es 4 1 → ab es = [(kA, ndA1)] → Calls Tryz.prog 18 #[.pointer (some ⟨T, 0, none⟩), .agg #[.int .u64 1, .int .u64 0], .int .i64 5, .int .i64 1] W (SSays W T M cfgA es 4 1 (.int .i64 0) 2 [(kA, ndA2)])) := Lib.hid (fun T M es W h he => by
    have hh : hasM es kA = true := by rw [← ab_has, he]; rfl
    have := singest_ok T M cfgA 1 es 4 1 kA (5, 1) W h (by decide) (fun h' => by rw [hh] at h'; cases h'.1) cfgA_b rfl rfl cfgA_ok (by omega) (by rw [he]; simp [ndA1])
    rw [he, awA2] at this
    exact this)
  have HTR : Hid (∀ T M es W, SAt W T M cfgA 2 es 4 1 → ab es = [(kA, ndA2)] → Calls Tryz.prog 19 #[.pointer (some ⟨T, 0, none⟩), .int .i64 5] W fun e W' => ∃ es' ver, e = .returned (.int .i64 1) ∧ SAt W' T M cfgA ver es' 4 1 ∧ es'.length = 1 ∧ Upd W W' (sfp T M es) (sfp T M es')) := Lib.hid (fun T M es W h he => by
    have hlen : es.length = 1 := by rw [← ab_len, he]; rfl
    have := strim_any T M cfgA 2 es 4 1 5 W h (by omega) (by omega) (by omega) (by omega) (by rw [he]; simp [ndA2]) (by rw [he]; simp [ndA2])
    rw [kyN_ab, he] at this
    refine this.mono ?_
    rintro e W' ⟨es', rfl, h1, h2, h3⟩
    refine ⟨es', _, ?_, h1, ?_, h3⟩
    · rw [show (goneS [(kA, ndA2)] 5 (risL (List.map (fun x => x.1.1) [(kA, ndA2)]))) = 1 from awG]; rfl
    · rw [← ab_len, h2]; simp [trimK])
  go_enter Tryz.func5, Tryz.ntmps5
  go_wp2_with (first
    | (go_at_call 7
       refine (HNW.out _).mono ?_
       rintro e w1 ⟨T, fp, rfl, h1, h2, h3⟩
       obtain ⟨M, hs, hfp⟩ := h1.at_
       have hf1 : ∀ r ∈ sfp T M [], w.heap.size ≤ r := fun r hr => h2 r (by rw [hfp]; exact sfp_sub hs r hr)
       have HS1 := Lib.hid hs
       have HF1 := Lib.hid hf1
       have HB1 := Lib.hid h3
       clear h1 h2 h3 hs hfp hf1)
    | (go_at_call 18
       refine (HI3.out T M es2 w3 HS3.out HA3.out).mono ?_
       rintro e w4 ⟨es4, rfl, h1, h2, h3⟩
       obtain ⟨hb, hf⟩ := upd_own HB3.out HF3.out h3
       have HS4 := Lib.hid h1
       have HA4 := Lib.hid h2
       have HF4 := Lib.hid hf
       have HB4 := Lib.hid hb
       clear h1 h2 h3 hb hf)
    | (go_at_call 18
       refine (HI2.out T M es1 w2 HS2.out HA2.out).mono ?_
       rintro e w3 ⟨es2, rfl, h1, h2, h3⟩
       obtain ⟨hb, hf⟩ := upd_own HB2.out HF2.out h3
       have HS3 := Lib.hid h1
       have HA3 := Lib.hid h2
       have HF3 := Lib.hid hf
       have HB3 := Lib.hid hb
       clear h1 h2 h3 hb hf)
    | (go_at_call 18
       refine (HI1.out T M [] w1 HS1.out rfl).mono ?_
       rintro e w2 ⟨es1, rfl, h1, h2, h3⟩
       obtain ⟨hb, hf⟩ := upd_own HB1.out HF1.out h3
       have HS2 := Lib.hid h1
       have HA2 := Lib.hid h2
       have HF2 := Lib.hid hf
       have HB2 := Lib.hid hb
       clear h1 h2 h3 hb hf)
    | (go_at_call 19
       refine (HTR.out T M es4 w4 HS4.out HA4.out).mono ?_
       rintro e w5 ⟨es5, ver5, rfl, h1, h2, h3⟩
       obtain ⟨hb, hf⟩ := upd_own HB4.out HF4.out h3
       have HS5 := Lib.hid h1
       have HA5 := Lib.hid h2
       have HB5 := Lib.hid hb
       clear h1 h2 h3 hb hf)
    | (go_at_call 17
       refine (slen_any T cfgA ver5 es5 4 1 _ w5 HS5.out.in_ (by rw [HA5.out]; omega)).mono ?_
       rw [HA5.out]
       rintro e w6 ⟨rfl, hb6⟩
       have HB6 := Lib.hid (bthen HB5.out hb6)
       clear hb6))
  go_ret
  exact ⟨rfl, HB6.out⟩
end

section
set_option linter.unusedSimpArgs false
set_option linter.unusedVariables false
open Go.RowKit Go.Lib Go.Sort

abbrev ActK := Ky × Act17
def actKC (a : ActK) : List Value := act18C a.1 a.2

/-- A new stripe, ahead of all acts. -/
theorem play_new {w0 W1 W : World} {c : Cfg} {rs rh : Nat} {e : Ending} (hb : Below w0.heap.size w0 W1) (h : NewStripe W1 c rs rh e W) (h0 : 0 ≤ c.lo) : ∃ T M, e = .returned (.pointer (some ⟨T, 0, none⟩)) ∧ Play w0 W T M c rs rh 0 0 [] (.slice none 0 0) [] := by
  obtain ⟨T, fp, rfl, h1, h2, h3⟩ := h
  obtain ⟨M, hs, hfp⟩ := h1.at_
  have hf1 : ∀ r ∈ sfp T M [], W1.heap.size ≤ r := fun r hr => h2 r (by rw [hfp]; exact sfp_sub hs r hr)
  refine ⟨T, M, rfl, hs, ⟨⟨RowIn.nil, fun _ _ _ _ _ h => absurd h (by simp)⟩, fun x hx => (by cases hx)⟩, Tells18.nil, bthen hb h3, fun r hr => Nat.le_trans hb.size (hf1 r hr), ⟨Nat.zero_le _, fun p hp => (by cases hp)⟩, fun x hx => (by cases hx), Nat.zero_le _, h0⟩

theorem play_get {w0 W : World} {T M : Nat} {c : Cfg} {rs rh n ver : Nat} {es : List (KO × NE)} {v : Value} {l : List It} (h : Play w0 W T M c rs rh n ver es v l) (k : KO) :
    (hasI l k.1 = false ∧ ∀ U, Below W.heap.size W U → Calls Tryz.prog 15 #[.pointer (some ⟨T, 0, none⟩), .agg #[.int .u64 k.1.1, .int .u64 k.1.2]] U fun e w' => e = .returned (.pointer none) ∧ Below U.heap.size U w') ∨
    (hasI l k.1 = true ∧ ∃ b, ∀ U, Below W.heap.size W U → Calls Tryz.prog 15 #[.pointer (some ⟨T, 0, none⟩), .agg #[.int .u64 k.1.1, .int .u64 k.1.2]] U fun e w' => e = .returned (.pointer (some ⟨b, 0, none⟩)) ∧ Below U.heap.size U w') := by
  have hh := h.tells.has k
  rw [ab_has] at hh
  cases hf : findM es k with
  | none =>
    refine .inl ⟨by rw [← hh]; exact none_has hf, fun U hU => ?_⟩
    have := sget_any T M c ver es rs rh k U (h.at_.below hU)
    rw [hf] at this
    exact this
  | some b => exact .inr ⟨by rw [← hh]; exact find_has hf, b.1, fun U hU => sget_some T M c ver es rs rh k b U (h.at_.below hU) hf⟩

set_option maxRecDepth 100000 in
set_option maxHeartbeats 8000000 in
theorem splays_main (c : Cfg) (rs rh : Nat) (v : Value) (l : List ActK) (k : KO) (w : World) (hv : RowIn 16 actKC w v l) (hok : ∀ p ∈ l, p.1.ok) (hl : l.length ≤ 40) (hc : CfgOk c rs rh) :
    Calls Tryz.prog 4 #[cfgV c, v, .agg #[.int .u64 k.1.1, .int .u64 k.1.2]] w fun e w' => e = .returned (.bool true) ∧ Below w.heap.size w w' := by
  obtain ⟨A, cc, rfl⟩ := hv.form
  have HC := Lib.hid hc
  have HV := Lib.hid hv
  have HOK := Lib.hid hok
  have HL := Lib.hid hl
  have hR := hc.room
  have h0 : 0 ≤ c.lo := by have := hc.cfg; unfold cfgB at this; simp only [Bool.and_eq_true, decide_eq_true_eq] at this; omega
  have HR := Lib.hid hR
  have H0 := Lib.hid h0
  have HNW : Hid (∀ W, Calls Tryz.prog 7 #[.agg #[.int .i64 c.st, .int .i64 c.sa, .int .i64 c.lo, .int .i64 c.hi]] W (NewStripe W c rs rh)) := Lib.hid (fun W => stripeNew_any c rs rh W hc.cfg hc.ok)
  have HRT : Hid (∀ W, Calls Tryz.prog 6 #[.agg #[.int .i64 c.st, .int .i64 c.sa, .int .i64 c.lo, .int .i64 c.hi]] W fun e w' => e = .returned (.bool true) ∧ Below W.heap.size W w') := Lib.hid (fun W => by have := ref17Right_any c W; rw [hc.cfg] at this; exact this)
  have q40 : ¬ (40 : Int) < (l.length : Int) := by omega
  have hl' : l.length ≤ 9223372036854775807 := by omega
  unfold cfgV
  clear hv hok hl hc hR h0
  go_enter Tryz.func4, Tryz.ntmps4
  go_wp2_with (first
    | (go_at_call 5
       refine calls_named ?_
       intro W0 hW0
       have hb0 : Below w.heap.size w W0 := by rw [hW0]; exact balloc (balloc (Below.refl _ _) _) _
       have hxc : W0.heap[w.heap.size]? = some (.cells #[.int .i64 c.st, .int .i64 c.sa, .int .i64 c.lo, .int .i64 c.hi] 23 (0, 0)) := by rw [hW0]; exact box_old _ _ _
       have hxk : W0.heap[w.heap.size + 1]? = some (.cells #[.int .u64 k.1.1, .int .u64 k.1.2] 32 (0, 0)) := by rw [hW0]; exact box_new _ _ _
       clear hW0
       refine (awake_any W0).mono ?_
       rintro e w1 ⟨rfl, hb1⟩
       obtain ⟨a1, a1f, a1l⟩ := box_cells hb1 hxc
       have HXC := Lib.hid hxc
       have HXK := Lib.hid hxk
       have HB0 := Lib.hid hb0
       have HB1 := Lib.hid hb1
       clear hb0 hxc hxk hb1)
    | (go_at_call 7
       refine (HNW.out w1).mono ?_
       intro e w2 hn
       obtain ⟨T, M, rfl, hp⟩ := play_new HB1.out hn H0.out
       obtain ⟨a2, a2f, a2l⟩ := box_cells hp.base HXC.out
       have HP2 := Lib.hid hp
       clear hn hp)
    | (go_at_call 6
       refine (HRT.out w2).mono ?_
       rintro e w3 ⟨rfl, hb3⟩
       have HP3 := Lib.hid (HP2.out.below hb3)
       clear hb3))
  go_loopg [8, 9, 37] l.length (fun g s8 s9 s37 wr => ∃ (n ver : Nat) (es : List (KO × NE)) (m : List It), n ≤ l.length ∧ l.length - n ≤ g ∧ s37 = .int .i64 n ∧ s9 = .int .i64 ver ∧ Play W0 wr T M c rs rh n ver es s8 m)
  case atStart => exact ⟨0, 0, [], [], Nat.zero_le _, Nat.le_refl _, rfl, rfl, HP3.out⟩
  case round =>
    obtain ⟨n, ver, es, m, hn, hg, rfl, rfl, hp⟩ := hrel
    clear a1 a1f a1l a2 a2f a2l
    have hbw : Below w.heap.size w wr := HB0.out.trans (hp.base.mono HB0.out.size)
    obtain ⟨Am, cm, rfl⟩ := hp.items.1.1.form
    have HP := Lib.hid hp
    clear hp
    by_cases hlt : n < l.length
    · obtain ⟨b, o, rfl, hbl, hat⟩ := (HV.out.below hbw).at_ hlt
      have hxok := HOK.out _ (List.getElem_mem hlt)
      generalize l[n] = x at hat hxok
      obtain ⟨ky, a⟩ := x
      obtain ⟨ko, rfl⟩ : ∃ ko : KO, ko.1 = ky := ⟨⟨ky, hxok⟩, rfl⟩
      have c0 := hat 0 _ rfl
      have c1 := hat 1 _ rfl
      have c2 := hat 2 _ rfl
      have c3 := hat 3 _ rfl
      have c4 := hat 4 _ rfl
      have c5 := hat 5 _ rfl
      have c6 := hat 6 _ rfl
      have c7 := hat 7 _ rfl
      have c8 := hat 8 _ rfl
      have c9 := hat 9 _ rfl
      have c10 := hat 10 _ rfl
      have c11 := hat 11 _ rfl
      have c12 := hat 12 _ rfl
      have c13 := hat 13 _ rfl
      have c14 := hat 14 _ rfl
      have c15 := hat 15 _ rfl
      rw [Nat.add_zero] at c0
      simp only at c0 c1 c2 c3 c4 c5 c6 c7 c8 c9 c10 c11 c12 c13 c14 c15 hxok
      have HBW := Lib.hid hbw
      have hn1 : (n : Int) < (l.length : Int) := by omega
      have hn0 : (0 : Int) ≤ (n : Int) := by omega
      clear hat hbw hxok
      go_wp2_with (first
        | (go_at_call 8
           refine calls_named ?_
           intro W4 hW4
           have hb4 : Below wr.heap.size wr W4 := by rw [hW4]; exact balloc (Below.refl _ _) _
           have hx4 : W4.heap[wr.heap.size]? = some (.cells #[.int .u64 ko.1.1, .int .u64 ko.1.2, .int .i64 a.kind, .int .i64 a.smp.1, .int .i64 a.smp.2, .int .i64 a.pol.mn, .int .i64 a.pol.mx, .int .i64 a.pol.tg, .int .i64 a.pol.tol, .int .i64 a.pol.win, .int .i64 a.pol.hold, .int .i64 a.adv.tick, .int .i64 a.adv.load, .int .i64 a.adv.want, .int .i64 a.adv.repl, .int .i64 a.adv.why] 42 (0, 0)) := by rw [hW4]; exact heap_alloc_new _ _
           clear hW4
           have hnew : wr.heap.size ∉ sfp T M es := fun hq => by have := HP.out.at_.sfpLt _ hq; omega
           obtain ⟨R, hdo⟩ := play_do (HP.out.below hb4) HC.out (by have := HL.out; omega) ko a
           refine hdo.mono ?_
           rintro e w5 ⟨es2, rfl, hh, hu⟩
           have hx5 := (hu.block _ (Array.getElem?_eq_some_iff.1 hx4).1 hnew).trans hx4
           obtain ⟨a3, a3f, a3l⟩ := box_cells (Below.refl _ _) hx5
           obtain ⟨a4, a4f, a4l⟩ := box_cells hh.base HXC.out
           have HH := Lib.hid hh
           clear hb4 hx4 hnew hdo hh hu hx5)
        | (go_at_call 9
           refine (half_do18 HH.out HC.out (by have := HL.out; omega)).mono ?_
           rintro e w6 ⟨out, A6, c6', rfl, hp6, hb6⟩
           have hver : IntKind.i64.wrap ((ver : Int) + ((R.ver : Int) - (ver : Int))) = (R.ver : Int) := by
             have h1 := hp6.ver_
             have h2 := HL.out
             rw [IntKind.wrap_i64]; omega
           have HP6 := Lib.hid hp6
           clear hp6 hb6)
        | (go_at_call 13
           refine (stold_any _ T M c R.ver es2 rs rh _ out w6 HP6.out.at_ HR.out.r2 HR.out.h2 HP6.out.items HP6.out.tells (by have := HP6.out.len; have := HL.out; omega)).mono ?_
           rintro e w7 ⟨rfl, hb7⟩
           have HP7 := Lib.hid (HP6.out.below hb7)
           clear hb7)
        | (go_at_call 14
           refine (sver_any T M c R.ver es2 rs rh w7 HP7.out.at_).mono ?_
           rintro e w8 ⟨rfl, hb8⟩
           have HP8 := Lib.hid (HP7.out.below hb8)
           clear hb8))
      go_roundg (l.length - (n + 1))
      case measure => omega
      case rel => exact ⟨n + 1, R.ver, es2, out, hlt, Nat.le_refl _, by go_num, rfl, HP8.out⟩
    · obtain rfl : n = l.length := by omega
      have hlen := HP.out.len
      have hle : (es.length : Int) ≤ c.lo := by have := HP.out.room; omega
      have hkk : ∀ x ∈ m, x.key.ok := fun x hx => (tells_ok HP.out.at_ HP.out.tells x hx).2
      have HK := Lib.hid hkk
      have HLE := Lib.hid hlen
      have rc : ∀ U, Below wr.heap.size wr U → (∀ j, U.cell? ⟨w.heap.size, j, none⟩ = (#[.int .i64 c.st, .int .i64 c.sa, .int .i64 c.lo, .int .i64 c.hi] : Array Value)[j]?) := fun U hU => (box_cells (bthen HP.out.base hU) HXC.out).1
      have rk : ∀ U, Below wr.heap.size wr U → (∀ j, U.cell? ⟨w.heap.size + 1, j, none⟩ = (#[.int .u64 k.1.1, .int .u64 k.1.2] : Array Value)[j]?) := fun U hU => (box_cells (bthen HP.out.base hU) HXK.out).1
      have HBW := Lib.hid hbw
      clear hlen hkk hbw
      rcases play_get HP.out k with ⟨hh, hget⟩ | ⟨hh, bn, hget⟩
      all_goals
        have HH := Lib.hid hh
        have HG := Lib.hid hget
        clear hh hget
        go_wp2
        have hS00 : Below wr.heap.size wr wr := Below.refl _ _
        have hS0 : Below wr.heap.size wr wr.drew := hS00.drew
        go_region_held3 (fun U => Below wr.heap.size wr U)
          (first
            | with_reducible exact hS0
            | with_reducible exact HB7.out
            | with_reducible exact HB6.out
            | with_reducible exact HB5.out)
          (first
            | (go_at_call 15
               refine (HG.out _ ‹Below wr.heap.size wr _›).mono ?_
               rintro e w5 ⟨rfl, hb⟩
               have HB5 := Lib.hid (bthen ‹Below wr.heap.size wr _› hb)
               clear hb)
            | (go_at_call 16
               refine (ihas_any _ m k.1 _ (HP.out.items.1.1.below ‹Below wr.heap.size wr _›) (by have := HLE.out; have := HL.out; omega) HK.out k.2).mono ?_
               rw [HH.out]
               rintro e w6 ⟨rfl, hb⟩
               have HB6 := Lib.hid (bthen ‹Below wr.heap.size wr _› hb)
               clear hb)
            | (go_at_call 17
               refine (slen_any T c ver es rs rh _ _ (HP.out.at_.below ‹Below wr.heap.size wr _›).in_ (by have := HLE.out; have := HL.out; omega)).mono ?_
               rintro e w7 ⟨rfl, hb⟩
               have HB7 := Lib.hid (bthen ‹Below wr.heap.size wr _› hb)
               clear hb))
        all_goals go_wp2
        all_goals go_ret
        all_goals exact ⟨rfl, bthen HBW.out HB7.out⟩
end

section
set_option linter.unusedSimpArgs false
set_option linter.unusedVariables false
open Go.RowKit Go.Lib Go.Sort

set_option maxRecDepth 100000 in
set_option maxHeartbeats 4000000 in
theorem splays_nil (c : Cfg) (A : Option Addr) (n cc : Nat) (k : KO) (w : World)  (hok : c.ok) (hc : cfgB c = false) :
    Calls Tryz.prog 4 #[cfgV c, .slice A n cc, .agg #[.int .u64 k.1.1, .int .u64 k.1.2]] w fun e w' => e = .returned (.bool true) ∧ Below w.heap.size w w' := by
  have HNW : Hid (∀ W, Calls Tryz.prog 7 #[.agg #[.int .i64 c.st, .int .i64 c.sa, .int .i64 c.lo, .int .i64 c.hi]] W fun e w' => e = .returned (.pointer none) ∧ Below W.heap.size W w') := Lib.hid (fun W => stripeNew_nil c W hc hok)
  have HRT : Hid (∀ W, Calls Tryz.prog 6 #[.agg #[.int .i64 c.st, .int .i64 c.sa, .int .i64 c.lo, .int .i64 c.hi]] W fun e w' => e = .returned (.bool false) ∧ Below W.heap.size W w') := Lib.hid (fun W => by have := ref17Right_any c W; rw [hc] at this; exact this)
  unfold cfgV
  clear hc hok
  go_enter Tryz.func4, Tryz.ntmps4
  go_wp2_with (first
    | (go_at_call 5
       refine calls_named ?_
       intro W0 hW0
       have hb0 : Below w.heap.size w W0 := by rw [hW0]; exact balloc (balloc (Below.refl _ _) _) _
       have hxc : W0.heap[w.heap.size]? = some (.cells #[.int .i64 c.st, .int .i64 c.sa, .int .i64 c.lo, .int .i64 c.hi] 23 (0, 0)) := by rw [hW0]; exact box_old _ _ _
       have hxk : W0.heap[w.heap.size + 1]? = some (.cells #[.int .u64 k.1.1, .int .u64 k.1.2] 32 (0, 0)) := by rw [hW0]; exact box_new _ _ _
       clear hW0
       refine (awake_any W0).mono ?_
       rintro e w1 ⟨rfl, hb1⟩
       obtain ⟨hxc1, hxc1f, hxc1l⟩ := box_cells hb1 hxc
       have HHXC := Lib.hid ((hb1.block _ (Array.getElem?_eq_some_iff.1 hxc).1).trans hxc)
       obtain ⟨hxk1, hxk1f, hxk1l⟩ := box_cells hb1 hxk
       have HHXK := Lib.hid ((hb1.block _ (Array.getElem?_eq_some_iff.1 hxk).1).trans hxk)
       have HB1 := Lib.hid (bthen hb0 hb1)
       clear hb0 hxc hxk hb1)
    | (go_at_call 7
       refine (HNW.out _).mono ?_
       rintro e w2 ⟨rfl, hb⟩
       obtain ⟨hx2, hx2f, hx2l⟩ := box_cells hb HHXC.out
       have HXC2 := Lib.hid ((hb.block _ (Array.getElem?_eq_some_iff.1 HHXC.out).1).trans HHXC.out)
       have HB2 := Lib.hid (bthen HB1.out hb)
       clear hb)
    | (go_at_call 6
       refine (HRT.out _).mono ?_
       rintro e w4 ⟨rfl, hb⟩
       obtain ⟨hx4, hx4f, hx4l⟩ := box_cells hb HXC3.out
       have HXC4 := Lib.hid ((hb.block _ (Array.getElem?_eq_some_iff.1 HXC3.out).1).trans HXC3.out)
       have HB4 := Lib.hid (bthen HB3.out hb)
       clear hb)
    | (go_at_call 6
       refine (HRT.out _).mono ?_
       rintro e w3 ⟨rfl, hb⟩
       obtain ⟨hx3, hx3f, hx3l⟩ := box_cells hb HXC2.out
       have HXC3 := Lib.hid ((hb.block _ (Array.getElem?_eq_some_iff.1 HXC2.out).1).trans HXC2.out)
       have HB3 := Lib.hid (bthen HB2.out hb)
       clear hb))
  go_ret
  exact ⟨rfl, HB4.out⟩

set_option maxRecDepth 100000 in
set_option maxHeartbeats 4000000 in
theorem splays_long (c : Cfg) (A : Option Addr) (n cc : Nat) (k : KO) (w : World) (hn : 40 < n) (hok : c.ok) (hc : cfgB c = true) :
    Calls Tryz.prog 4 #[cfgV c, .slice A n cc, .agg #[.int .u64 k.1.1, .int .u64 k.1.2]] w fun e w' => e = .returned (.bool true) ∧ Below w.heap.size w w' := by
  have HNW : Hid (∀ W, Calls Tryz.prog 7 #[.agg #[.int .i64 c.st, .int .i64 c.sa, .int .i64 c.lo, .int .i64 c.hi]] W (NewStripe W c c.sa.toNat c.hi.toNat)) := Lib.hid (fun W => stripeNew_any c c.sa.toNat c.hi.toNat W hc hok)
  have HRT : Hid (∀ W, Calls Tryz.prog 6 #[.agg #[.int .i64 c.st, .int .i64 c.sa, .int .i64 c.lo, .int .i64 c.hi]] W fun e w' => e = .returned (.bool true) ∧ Below W.heap.size W w') := Lib.hid (fun W => by have := ref17Right_any c W; rw [hc] at this; exact this)
  have q40 : (40 : Int) < (n : Int) := by omega
  clear hn
  unfold cfgV
  clear hc hok
  go_enter Tryz.func4, Tryz.ntmps4
  go_wp2_with (first
    | (go_at_call 5
       refine calls_named ?_
       intro W0 hW0
       have hb0 : Below w.heap.size w W0 := by rw [hW0]; exact balloc (balloc (Below.refl _ _) _) _
       have hxc : W0.heap[w.heap.size]? = some (.cells #[.int .i64 c.st, .int .i64 c.sa, .int .i64 c.lo, .int .i64 c.hi] 23 (0, 0)) := by rw [hW0]; exact box_old _ _ _
       have hxk : W0.heap[w.heap.size + 1]? = some (.cells #[.int .u64 k.1.1, .int .u64 k.1.2] 32 (0, 0)) := by rw [hW0]; exact box_new _ _ _
       clear hW0
       refine (awake_any W0).mono ?_
       rintro e w1 ⟨rfl, hb1⟩
       obtain ⟨hxc1, hxc1f, hxc1l⟩ := box_cells hb1 hxc
       have HHXC := Lib.hid ((hb1.block _ (Array.getElem?_eq_some_iff.1 hxc).1).trans hxc)
       obtain ⟨hxk1, hxk1f, hxk1l⟩ := box_cells hb1 hxk
       have HHXK := Lib.hid ((hb1.block _ (Array.getElem?_eq_some_iff.1 hxk).1).trans hxk)
       have HB1 := Lib.hid (bthen hb0 hb1)
       clear hb0 hxc hxk hb1)
    | (go_at_call 7
       refine (HNW.out _).mono ?_
       rintro e w2 ⟨T, fp, rfl, -, -, hb⟩
       obtain ⟨hx2, hx2f, hx2l⟩ := box_cells hb HHXC.out
       have HXC2 := Lib.hid ((hb.block _ (Array.getElem?_eq_some_iff.1 HHXC.out).1).trans HHXC.out)
       have HB2 := Lib.hid (bthen HB1.out hb)
       clear hb)
    | (go_at_call 6
       refine (HRT.out _).mono ?_
       rintro e w4 ⟨rfl, hb⟩
       obtain ⟨hx4, hx4f, hx4l⟩ := box_cells hb HXC3.out
       have HXC4 := Lib.hid ((hb.block _ (Array.getElem?_eq_some_iff.1 HXC3.out).1).trans HXC3.out)
       have HB4 := Lib.hid (bthen HB3.out hb)
       clear hb)
    | (go_at_call 6
       refine (HRT.out _).mono ?_
       rintro e w3 ⟨rfl, hb⟩
       obtain ⟨hx3, hx3f, hx3l⟩ := box_cells hb HXC2.out
       have HXC3 := Lib.hid ((hb.block _ (Array.getElem?_eq_some_iff.1 HXC2.out).1).trans HXC2.out)
       have HB3 := Lib.hid (bthen HB2.out hb)
       clear hb))
  go_ret
  exact ⟨rfl, HB4.out⟩

theorem i64_of_wf {n : Int} (h : (Lit.int .i64 n).wf = true) : I64 n := by simpa [Lit.wf, IntKind.min, IntKind.max, IntKind.signed, IntKind.bits, I64] using h
theorem cfg_ok {c : Cfg} (hc : cfgB c = true) (hok : c.ok) : CfgOk c c.sa.toNat c.hi.toNat := by
  have h := hc
  unfold cfgB at h
  simp only [Bool.and_eq_true, decide_eq_true_eq] at h
  exact ⟨hc, by omega, by omega, hok⟩
theorem splays_walk (c : Cfg) (v : Value) (l : List ActK) (k : KO) (w : World) (hc : c.ok) (hv : RowIn 16 actKC w v l) (hok : ∀ p ∈ l, p.1.ok) :
    Calls Tryz.prog 4 #[cfgV c, v, .agg #[.int .u64 k.1.1, .int .u64 k.1.2]] w fun e w' => e = .returned (.bool true) ∧ Below w.heap.size w w' := by
  obtain ⟨A, cc, rfl⟩ := hv.form
  cases hb : cfgB c with
  | false => exact splays_nil c A _ cc k w hc hb
  | true =>
    by_cases hl : l.length ≤ 40
    · exact splays_main c _ _ _ l k w hv hok hl (cfg_ok hb hc)
    · exact splays_long c A _ cc k w (by omega) hc hb

open Go.ChangeShapes Go.WideShapes Go.Joins in
theorem actsK_read {H : Type} {enc : TypeId × Value → H} {w : World} {base : Nat} {spare : Nat → Bool} {held : Bool} {fuel : Nat} {cs : List Value} {x : DataW H × List MemPlace} (h : DataW.trod enc Tryz.prog w base spare held fuel 24 cs = some x) :
    ∃ (v : Value) (l : List ActK), cs = [v] ∧ (∀ p ∈ l, p.1.ok) ∧ RowIn 16 actKC w v l := by
  haveI : Inhabited ActK := ⟨((0, 0), ⟨0, (0, 0), pol0, adv0⟩)⟩
  obtain ⟨v, l, h1, _, h3, h4⟩ := row_read (ok := fun p : ActK => p.1.ok) (f := actKC) Tryz.underlying24 cl_sa18 (by decide) (fun _ _ _ h => by obtain ⟨k, a, hk, rfl⟩ := a18_reads h; exact ⟨(k, a), hk, rfl⟩) h
  exact ⟨v, l, h1, h3, h4⟩
end

end Go.Proofs.YtfnabpmdjfejbaaGreat
