/- chapter 18's do, on a live stripe. -/
import Derived.Test.YtfnabpmdjfejbaaGreatJ44
import Derived.Test.YtfnabpmdjfejbaaGreatJ46
import Derived.Test.YtfnabpmdjfejbaaGreatJ47
namespace Go.Proofs.YtfnabpmdjfejbaaGreat

section
set_option linter.unusedSimpArgs false
set_option linter.unusedVariables false
open Go.RowKit Go.Lib Go.Sort

structure DoR where
  err : Int
  gone : Nat
  ver : Nat
  has : List (KO × Nd)
/-- What an act comes to. -/
def doS (c : Cfg) (rs rh ver : Nat) (S : List (KO × Nd)) (k : KO) (a : Act17) : DoR :=
  if a.kind = 0 then (if serE a.smp.1 a.smp.2 = 0 then (if hasM S k = false ∧ c.lo ≤ (S.length : Nat) then ⟨6, 0, ver, S⟩ else ⟨0, 0, ver + 1, putM S k { bump (ndOf S k) with smp := putS (ndOf S k).smp (rs : Nat) a.smp }⟩) else ⟨serE a.smp.1 a.smp.2, 0, ver, S⟩)
  else if a.kind = 1 then ⟨0, goneS S a.smp.1 (risL (keysS S)), ver + manyS S a.smp.1 (risL (keysS S)), trimK S a.smp.1 (risL (keysS S))⟩
  else if a.kind = 2 then (if polB a.pol = true then (if hasM S k = false ∧ c.lo ≤ (S.length : Nat) then ⟨6, 0, ver, S⟩ else ⟨0, 0, ver + 1, putM S k { bump (ndOf S k) with pol := a.pol, ruled := true }⟩) else ⟨7, 0, ver, S⟩)
  else if a.kind = 3 then (if hasM S k = true then ⟨0, 0, ver + 1, putM S k { bump (ndOf S k) with past := pushL (ndOf S k).past rh a.adv }⟩ else ⟨5, 0, ver, S⟩)
  else ⟨0, 0, ver, S.map fun p => (p.1, if p.1.1 ∈ risL (keysS S) then frz p.2 else p.2)⟩
theorem kyN_keysS (es : List (KO × NE)) : kyN es = keysS (ab es) := by simp [kyN, keysS, ab, List.map_map, Function.comp_def]
def DoSays (w : World) (T M : Nat) (c : Cfg) (es : List (KO × NE)) (rs rh : Nat) (r : DoR) (e : Ending) (w' : World) : Prop :=
  ∃ es', e = .returned (.tuple #[.int .i64 r.err, .int .i64 (r.gone : Nat)]) ∧ SAt w' T M c r.ver es' rs rh ∧ ab es' = r.has ∧ Upd w w' (sfp T M es) (sfp T M es')
/-- What a stripe must be that acts are done to it. -/
structure SOk (c : Cfg) (rs rh ver : Nat) (S : List (KO × Nd)) : Prop where
  cfg : cfgB c = true
  sa : c.sa = (rs : Nat)
  hi : c.hi = (rh : Nat)
  ok : c.ok
  len : S.length ≤ 1000
  ver_ : ver ≤ 900000
  vers : ∀ p ∈ S, p.2.ver ≤ 1000000
theorem SOk.room {c : Cfg} {rs rh ver : Nat} {S : List (KO × Nd)} (h : SOk c rs rh ver S) : rs ≤ 256 ∧ rh ≤ 64 := by
  have hc := h.cfg
  have h1 := h.sa
  have h2 := h.hi
  unfold cfgB at hc
  simp only [Bool.and_eq_true, decide_eq_true_eq] at hc
  omega

theorem none_of_has {es : List (KO × NE)} {k : KO} (h : hasM es k = false) : findM es k = none := findM_none h
theorem ingest_all (T M : Nat) (c : Cfg) (ver : Nat) (es : List (KO × NE)) (rs rh : Nat) (k : KO) (a : Act17) (w : World) (h : SAt w T M c ver es rs rh) (ho : SOk c rs rh ver (ab es)) (h0 : a.kind = 0) :
    Calls Tryz.prog 18 #[.pointer (some ⟨T, 0, none⟩), .agg #[.int .u64 k.1.1, .int .u64 k.1.2], .int .i64 a.smp.1, .int .i64 a.smp.2] w (SSays w T M c es rs rh (.int .i64 (doS c rs rh ver (ab es) k a).err) (doS c rs rh ver (ab es) k a).ver (doS c rs rh ver (ab es) k a).has) := by
  unfold doS
  rw [if_pos h0]
  by_cases hs : serE a.smp.1 a.smp.2 = 0
  · rw [if_pos hs]
    by_cases hf : hasM (ab es) k = false ∧ c.lo ≤ ((ab es).length : Nat)
    · rw [if_pos hf]
      refine singest_full T M c ver es rs rh k a.smp w h hs ?_ (by rw [← ab_len]; exact hf.2)
      have := none_of_has (by rw [← ab_has]; exact hf.1 : hasM es k = false)
      exact this
    · rw [if_neg hf]
      exact singest_ok T M c ver es rs rh k a.smp w h hs (fun hh => hf ⟨by rw [ab_has]; exact hh.1, by rw [ab_len]; exact hh.2⟩) ho.cfg ho.sa ho.hi ho.ok (by have := ho.ver_; omega) ho.vers
  · rw [if_neg hs]
    exact singest_bad T M c ver es rs rh k a.smp w h hs
theorem set_all (T M : Nat) (c : Cfg) (ver : Nat) (es : List (KO × NE)) (rs rh : Nat) (k : KO) (a : Act17) (w : World) (h : SAt w T M c ver es rs rh) (ho : SOk c rs rh ver (ab es)) (h0 : a.kind = 2) :
    Calls Tryz.prog 22 #[.pointer (some ⟨T, 0, none⟩), .agg #[.int .u64 k.1.1, .int .u64 k.1.2], polV a.pol] w (SSays w T M c es rs rh (.int .i64 (doS c rs rh ver (ab es) k a).err) (doS c rs rh ver (ab es) k a).ver (doS c rs rh ver (ab es) k a).has) := by
  unfold doS
  rw [if_neg (by omega), if_neg (by omega), if_pos h0]
  cases hs : polB a.pol with
  | true =>
    rw [if_pos rfl]
    by_cases hf : hasM (ab es) k = false ∧ c.lo ≤ ((ab es).length : Nat)
    · rw [if_pos hf]
      exact sset_full T M c ver es rs rh k a.pol w h hs (none_of_has (by rw [← ab_has]; exact hf.1)) (by rw [← ab_len]; exact hf.2)
    · rw [if_neg hf]
      exact sset_ok T M c ver es rs rh k a.pol w h hs (fun hh => hf ⟨by rw [ab_has]; exact hh.1, by rw [ab_len]; exact hh.2⟩) ho.cfg ho.sa ho.hi ho.ok (by have := ho.ver_; omega) ho.vers
  | false =>
    rw [if_neg (by simp)]
    exact sset_bad T M c ver es rs rh k a.pol w h hs
theorem note_all (T M : Nat) (c : Cfg) (ver : Nat) (es : List (KO × NE)) (rs rh : Nat) (k : KO) (a : Act17) (w : World) (h : SAt w T M c ver es rs rh) (ho : SOk c rs rh ver (ab es)) (h0 : a.kind = 3) :
    Calls Tryz.prog 23 #[.pointer (some ⟨T, 0, none⟩), .agg #[.int .u64 k.1.1, .int .u64 k.1.2], .agg (advC a.adv).toArray] w (SSays w T M c es rs rh (.int .i64 (doS c rs rh ver (ab es) k a).err) (doS c rs rh ver (ab es) k a).ver (doS c rs rh ver (ab es) k a).has) := by
  unfold doS
  rw [if_neg (by omega), if_neg (by omega), if_neg (by omega), if_pos h0]
  have hr := ho.room
  have hvv := ho.ver_
  cases hf : findM es k with
  | none =>
    rw [if_neg (by rw [ab_has, none_has hf]; simp)]
    exact snote_none T M c ver es rs rh k a.adv w h hf
  | some b =>
    rw [if_pos (by rw [ab_has]; exact find_has hf)]
    have hnd : ndOf (ab es) k = b.2.1 := by unfold ndOf; rw [ab_find, hf]; rfl
    rw [hnd]
    exact snote_ok T M c ver es rs rh k a.adv w h b hf hr.1 hr.2 (by omega) (ho.vers (k, b.2.1) (List.mem_map.2 ⟨(k, b), find_mem hf, rfl⟩))

set_option maxRecDepth 100000 in
set_option maxHeartbeats 4000000 in
theorem sdo_0 (T M : Nat) (c : Cfg) (ver : Nat) (es : List (KO × NE)) (rs rh : Nat) (k : KO) (a : Act17) (w : World) (h : SAt w T M c ver es rs rh) (ho : SOk c rs rh ver (ab es)) (hsl : ∀ p ∈ ab es, p.2.smp.length ≤ 256)  (hk : a.kind = 0) :
    Calls Tryz.prog 8 #[.pointer (some ⟨T, 0, none⟩), .agg (act18C k.1 a).toArray] w (DoSays w T M c es rs rh (doS c rs rh ver (ab es) k a)) := by
  rw [show (act18C k.1 a).toArray = #[.int .u64 k.1.1, .int .u64 k.1.2, .int .i64 a.kind, .int .i64 a.smp.1, .int .i64 a.smp.2, .int .i64 a.pol.mn, .int .i64 a.pol.mx, .int .i64 a.pol.tg, .int .i64 a.pol.tol, .int .i64 a.pol.win, .int .i64 a.pol.hold, .int .i64 a.adv.tick, .int .i64 a.adv.load, .int .i64 a.adv.want, .int .i64 a.adv.repl, .int .i64 a.adv.why] from rfl]
  have hr := ho.room
  have hc := fun (W : World) (hb : Below w.heap.size w W) => ingest_all T M c ver es rs rh k a W (h.below hb) ho hk
  have HC := Lib.hid hc
  have HE := Lib.hid (show (doS c rs rh ver (ab es) k a).gone = 0 by unfold doS; rw [if_pos hk]; repeat (first | rfl | split))
  have q0 : (a.kind == 0) = true := by simp [hk]
  clear h ho hsl hr  hk hc
  generalize doS c rs rh ver (ab es) k a = R at *
  go_enter Tryz.func8, Tryz.ntmps8
  go_wp2_with (first
    | (go_at_call 18
       refine calls_named ?_
       intro W1 hW1
       have hb1 : Below w.heap.size w W1 := by rw [hW1]; exact balloc (Below.refl _ _) _
       clear hW1
       refine (HC.out W1 hb1).mono ?_
       rintro e w2 ⟨es', rfl, h1, h2, h3⟩
       have HF := Lib.hid (And.intro h1 (And.intro h2 ((Upd.of_below hb1 _).trans h3)))
       clear h1 h2 h3 hb1))
  exact bodyPost_ret (v := .tuple #[.int .i64 R.err, .int .i64 0]) (by simp [results, Tryz.results8, go_sem]) rfl ⟨es', by first | rfl | (rw [HE.out]; done) | (rw [HE.out]; rfl), HF.out.1, HF.out.2.1, HF.out.2.2⟩

set_option maxRecDepth 100000 in
set_option maxHeartbeats 4000000 in
theorem sdo_1 (T M : Nat) (c : Cfg) (ver : Nat) (es : List (KO × NE)) (rs rh : Nat) (k : KO) (a : Act17) (w : World) (h : SAt w T M c ver es rs rh) (ho : SOk c rs rh ver (ab es)) (hsl : ∀ p ∈ ab es, p.2.smp.length ≤ 256) (hn0 : a.kind ≠ 0) (hk : a.kind = 1) :
    Calls Tryz.prog 8 #[.pointer (some ⟨T, 0, none⟩), .agg (act18C k.1 a).toArray] w (DoSays w T M c es rs rh (doS c rs rh ver (ab es) k a)) := by
  rw [show (act18C k.1 a).toArray = #[.int .u64 k.1.1, .int .u64 k.1.2, .int .i64 a.kind, .int .i64 a.smp.1, .int .i64 a.smp.2, .int .i64 a.pol.mn, .int .i64 a.pol.mx, .int .i64 a.pol.tg, .int .i64 a.pol.tol, .int .i64 a.pol.win, .int .i64 a.pol.hold, .int .i64 a.adv.tick, .int .i64 a.adv.load, .int .i64 a.adv.want, .int .i64 a.adv.repl, .int .i64 a.adv.why] from rfl]
  have hr := ho.room
  have hl1 := ho.len
  have hc := fun (W : World) (hb : Below w.heap.size w W) => strim_any T M c ver es rs rh a.smp.1 W (h.below hb) hr.1 hr.2 (by rw [← ab_len]; exact ho.len) ho.ver_ ho.vers hsl
  have hd : doS c rs rh ver (ab es) k a = ⟨0, goneS (ab es) a.smp.1 (risL (kyN es)), ver + manyS (ab es) a.smp.1 (risL (kyN es)), trimK (ab es) a.smp.1 (risL (kyN es))⟩ := by unfold doS; rw [if_neg hn0, if_pos hk, kyN_keysS]
  have hc : ∀ (W : World), Below w.heap.size w W → Calls Tryz.prog 19 #[.pointer (some ⟨T, 0, none⟩), .int .i64 a.smp.1] W (SSays W T M c es rs rh (.int .i64 ((doS c rs rh ver (ab es) k a).gone : Nat)) (doS c rs rh ver (ab es) k a).ver (doS c rs rh ver (ab es) k a).has) := by rw [hd]; exact hc
  have HC := Lib.hid hc
  have HE := Lib.hid (show (doS c rs rh ver (ab es) k a).err = 0 by rw [hd])
  clear hl1 hd
  have q0 : (a.kind == 0) = false := by simp [hn0]
  have q1 : (a.kind == 1) = true := by simp [hk]
  clear h ho hsl hr hn0 hk hc
  generalize doS c rs rh ver (ab es) k a = R at *
  go_enter Tryz.func8, Tryz.ntmps8
  go_wp2_with (first
    | (go_at_call 19
       refine calls_named ?_
       intro W1 hW1
       have hb1 : Below w.heap.size w W1 := by rw [hW1]; exact balloc (Below.refl _ _) _
       clear hW1
       refine (HC.out W1 hb1).mono ?_
       rintro e w2 ⟨es', rfl, h1, h2, h3⟩
       have HF := Lib.hid (And.intro h1 (And.intro h2 ((Upd.of_below hb1 _).trans h3)))
       clear h1 h2 h3 hb1))
  exact bodyPost_ret (v := .tuple #[.int .i64 0, .int .i64 (R.gone : Nat)]) (by simp [results, Tryz.results8, go_sem]) rfl ⟨es', by first | rfl | (rw [HE.out]; done) | (rw [HE.out]; rfl), HF.out.1, HF.out.2.1, HF.out.2.2⟩

set_option maxRecDepth 100000 in
set_option maxHeartbeats 4000000 in
theorem sdo_2 (T M : Nat) (c : Cfg) (ver : Nat) (es : List (KO × NE)) (rs rh : Nat) (k : KO) (a : Act17) (w : World) (h : SAt w T M c ver es rs rh) (ho : SOk c rs rh ver (ab es)) (hsl : ∀ p ∈ ab es, p.2.smp.length ≤ 256) (hn0 : a.kind ≠ 0) (hn1 : a.kind ≠ 1) (hk : a.kind = 2) :
    Calls Tryz.prog 8 #[.pointer (some ⟨T, 0, none⟩), .agg (act18C k.1 a).toArray] w (DoSays w T M c es rs rh (doS c rs rh ver (ab es) k a)) := by
  rw [show (act18C k.1 a).toArray = #[.int .u64 k.1.1, .int .u64 k.1.2, .int .i64 a.kind, .int .i64 a.smp.1, .int .i64 a.smp.2, .int .i64 a.pol.mn, .int .i64 a.pol.mx, .int .i64 a.pol.tg, .int .i64 a.pol.tol, .int .i64 a.pol.win, .int .i64 a.pol.hold, .int .i64 a.adv.tick, .int .i64 a.adv.load, .int .i64 a.adv.want, .int .i64 a.adv.repl, .int .i64 a.adv.why] from rfl]
  have hr := ho.room
  have hc := fun (W : World) (hb : Below w.heap.size w W) => set_all T M c ver es rs rh k a W (h.below hb) ho hk
  unfold polV at hc
  have HC := Lib.hid hc
  have HE := Lib.hid (show (doS c rs rh ver (ab es) k a).gone = 0 by unfold doS; rw [if_neg (by omega), if_neg (by omega), if_pos hk]; (repeat (first | rfl | split)))
  have q0 : (a.kind == 0) = false := by simp [hn0]
  have q1 : (a.kind == 1) = false := by simp [hn1]
  have q2 : (a.kind == 2) = true := by simp [hk]
  clear h ho hsl hr hn0 hn1 hk hc
  generalize doS c rs rh ver (ab es) k a = R at *
  go_enter Tryz.func8, Tryz.ntmps8
  go_wp2_with (first
    | (go_at_call 22
       refine calls_named ?_
       intro W1 hW1
       have hb1 : Below w.heap.size w W1 := by rw [hW1]; exact balloc (Below.refl _ _) _
       clear hW1
       refine (HC.out W1 hb1).mono ?_
       rintro e w2 ⟨es', rfl, h1, h2, h3⟩
       have HF := Lib.hid (And.intro h1 (And.intro h2 ((Upd.of_below hb1 _).trans h3)))
       clear h1 h2 h3 hb1))
  exact bodyPost_ret (v := .tuple #[.int .i64 R.err, .int .i64 0]) (by simp [results, Tryz.results8, go_sem]) rfl ⟨es', by first | rfl | (rw [HE.out]; done) | (rw [HE.out]; rfl), HF.out.1, HF.out.2.1, HF.out.2.2⟩

set_option maxRecDepth 100000 in
set_option maxHeartbeats 4000000 in
theorem sdo_3 (T M : Nat) (c : Cfg) (ver : Nat) (es : List (KO × NE)) (rs rh : Nat) (k : KO) (a : Act17) (w : World) (h : SAt w T M c ver es rs rh) (ho : SOk c rs rh ver (ab es)) (hsl : ∀ p ∈ ab es, p.2.smp.length ≤ 256) (hn0 : a.kind ≠ 0) (hn1 : a.kind ≠ 1) (hn2 : a.kind ≠ 2) (hk : a.kind = 3) :
    Calls Tryz.prog 8 #[.pointer (some ⟨T, 0, none⟩), .agg (act18C k.1 a).toArray] w (DoSays w T M c es rs rh (doS c rs rh ver (ab es) k a)) := by
  rw [show (act18C k.1 a).toArray = #[.int .u64 k.1.1, .int .u64 k.1.2, .int .i64 a.kind, .int .i64 a.smp.1, .int .i64 a.smp.2, .int .i64 a.pol.mn, .int .i64 a.pol.mx, .int .i64 a.pol.tg, .int .i64 a.pol.tol, .int .i64 a.pol.win, .int .i64 a.pol.hold, .int .i64 a.adv.tick, .int .i64 a.adv.load, .int .i64 a.adv.want, .int .i64 a.adv.repl, .int .i64 a.adv.why] from rfl]
  have hr := ho.room
  have hc := fun (W : World) (hb : Below w.heap.size w W) => note_all T M c ver es rs rh k a W (h.below hb) ho hk
  rw [show (advC a.adv).toArray = #[.int .i64 a.adv.tick, .int .i64 a.adv.load, .int .i64 a.adv.want, .int .i64 a.adv.repl, .int .i64 a.adv.why] from rfl] at hc
  have HC := Lib.hid hc
  have HE := Lib.hid (show (doS c rs rh ver (ab es) k a).gone = 0 by unfold doS; rw [if_neg (by omega), if_neg (by omega), if_neg (by omega), if_pos hk]; repeat (first | rfl | split))
  have q0 : (a.kind == 0) = false := by simp [hn0]
  have q1 : (a.kind == 1) = false := by simp [hn1]
  have q2 : (a.kind == 2) = false := by simp [hn2]
  have q3 : (a.kind == 3) = true := by simp [hk]
  clear h ho hsl hr hn0 hn1 hn2 hk hc
  generalize doS c rs rh ver (ab es) k a = R at *
  go_enter Tryz.func8, Tryz.ntmps8
  go_wp2_with (first
    | (go_at_call 23
       refine calls_named ?_
       intro W1 hW1
       have hb1 : Below w.heap.size w W1 := by rw [hW1]; exact balloc (Below.refl _ _) _
       clear hW1
       refine (HC.out W1 hb1).mono ?_
       rintro e w2 ⟨es', rfl, h1, h2, h3⟩
       have HF := Lib.hid (And.intro h1 (And.intro h2 ((Upd.of_below hb1 _).trans h3)))
       clear h1 h2 h3 hb1))
  exact bodyPost_ret (v := .tuple #[.int .i64 R.err, .int .i64 0]) (by simp [results, Tryz.results8, go_sem]) rfl ⟨es', by first | rfl | (rw [HE.out]; done) | (rw [HE.out]; rfl), HF.out.1, HF.out.2.1, HF.out.2.2⟩

set_option maxRecDepth 100000 in
set_option maxHeartbeats 4000000 in
theorem sdo_4 (T M : Nat) (c : Cfg) (ver : Nat) (es : List (KO × NE)) (rs rh : Nat) (k : KO) (a : Act17) (w : World) (h : SAt w T M c ver es rs rh) (ho : SOk c rs rh ver (ab es)) (hsl : ∀ p ∈ ab es, p.2.smp.length ≤ 256) (hn0 : a.kind ≠ 0) (hn1 : a.kind ≠ 1) (hn2 : a.kind ≠ 2) (hn3 : a.kind ≠ 3) :
    Calls Tryz.prog 8 #[.pointer (some ⟨T, 0, none⟩), .agg (act18C k.1 a).toArray] w (DoSays w T M c es rs rh (doS c rs rh ver (ab es) k a)) := by
  rw [show (act18C k.1 a).toArray = #[.int .u64 k.1.1, .int .u64 k.1.2, .int .i64 a.kind, .int .i64 a.smp.1, .int .i64 a.smp.2, .int .i64 a.pol.mn, .int .i64 a.pol.mx, .int .i64 a.pol.tg, .int .i64 a.pol.tol, .int .i64 a.pol.win, .int .i64 a.pol.hold, .int .i64 a.adv.tick, .int .i64 a.adv.load, .int .i64 a.adv.want, .int .i64 a.adv.repl, .int .i64 a.adv.why] from rfl]
  have hr := ho.room
  have hc := fun (W : World) (hb : Below w.heap.size w W) => sfreeze_any T M c ver es rs rh W (h.below hb) (by rw [← ab_len]; exact ho.len)
  have hd : doS c rs rh ver (ab es) k a = ⟨0, 0, ver, ab (frzE es (risL (kyN es)))⟩ := by unfold doS; rw [if_neg hn0, if_neg hn1, if_neg hn2, if_neg hn3, ab_frzE, kyN_keysS]
  have HC := Lib.hid hc
  have HE := Lib.hid hd
  clear hd
  have q0 : (a.kind == 0) = false := by simp [hn0]
  have q1 : (a.kind == 1) = false := by simp [hn1]
  have q2 : (a.kind == 2) = false := by simp [hn2]
  have q3 : (a.kind == 3) = false := by simp [hn3]
  clear h ho hsl hr hn0 hn1 hn2 hn3 hc
  generalize doS c rs rh ver (ab es) k a = R at *
  go_enter Tryz.func8, Tryz.ntmps8
  go_wp2_with (first
    | (go_at_call 10
       refine calls_named ?_
       intro W1 hW1
       have hb1 : Below w.heap.size w W1 := by rw [hW1]; exact balloc (Below.refl _ _) _
       clear hW1
       refine (HC.out W1 hb1).mono ?_
       rintro e w2 ⟨A9, c9, rfl, _, h1a, h3⟩
       obtain ⟨es', hes⟩ : ∃ es', es' = frzE es (risL (kyN es)) := ⟨_, rfl⟩
       rw [← hes] at h1a h3 HE
       have h2 : ab es' = R.has := by rw [HE.out]
       have h1 : SAt w2 T M c R.ver es' rs rh := by rw [HE.out]; exact h1a
       clear h1a
       have HF := Lib.hid (And.intro h1 (And.intro h2 ((Upd.of_below hb1 _).trans h3)))
       clear h1 h2 h3 hb1))
  exact bodyPost_ret (v := .tuple #[.int .i64 0, .int .i64 0]) (by simp [results, Tryz.results8, go_sem]) rfl ⟨es', by first | rfl | (rw [HE.out]; done) | (rw [HE.out]; rfl), HF.out.1, HF.out.2.1, HF.out.2.2⟩

theorem sdo_all (T M : Nat) (c : Cfg) (ver : Nat) (es : List (KO × NE)) (rs rh : Nat) (k : KO) (a : Act17) (w : World) (h : SAt w T M c ver es rs rh) (ho : SOk c rs rh ver (ab es)) (hsl : ∀ p ∈ ab es, p.2.smp.length ≤ 256) :
    Calls Tryz.prog 8 #[.pointer (some ⟨T, 0, none⟩), .agg (act18C k.1 a).toArray] w (DoSays w T M c es rs rh (doS c rs rh ver (ab es) k a)) := by
  by_cases h0 : a.kind = 0
  · exact sdo_0 T M c ver es rs rh k a w h ho hsl h0
  by_cases h1 : a.kind = 1
  · exact sdo_1 T M c ver es rs rh k a w h ho hsl h0 h1
  by_cases h2 : a.kind = 2
  · exact sdo_2 T M c ver es rs rh k a w h ho hsl h0 h1 h2
  by_cases h3 : a.kind = 3
  · exact sdo_3 T M c ver es rs rh k a w h ho hsl h0 h1 h2 h3
  · exact sdo_4 T M c ver es rs rh k a w h ho hsl h0 h1 h2 h3
end

end Go.Proofs.YtfnabpmdjfejbaaGreat
