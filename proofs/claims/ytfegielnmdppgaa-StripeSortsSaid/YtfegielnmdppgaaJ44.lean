/- chapter 18's awake. -/
import Derived.Test.YtfegielnmdppgaaJ43
namespace Go.Proofs.Ytfegielnmdppgaa

section
set_option linter.unusedSimpArgs false
set_option linter.unusedVariables false
open Go.RowKit Go.Lib Go.Sort
open Go.ChangeMaps (setBlock)

theorem upd_own {w0 w w' : World} {T M : Nat} {es es' : List (KO × NE)} (hb : Below w0.heap.size w0 w) (hf : ∀ r ∈ sfp T M es, w0.heap.size ≤ r) (h : Upd w w' (sfp T M es) (sfp T M es')) : Below w0.heap.size w0 w' ∧ ∀ r ∈ sfp T M es', w0.heap.size ≤ r :=
  ⟨hb.trans (h.below hb.size hf), fun r hr => (h.fresh r hr).elim (hf r) (fun h' => Nat.le_trans hb.size h')⟩
theorem sfp_sub {w : World} {T M : Nat} {c : Cfg} {ver : Nat} {es : List (KO × NE)} {rs rh : Nat} (h : SAt w T M c ver es rs rh) : ∀ r ∈ sfp T M es, r ∈ T :: M :: es.flatMap (fun p => p.2.2.2) := fun r hr => by
  simp only [sfp, List.mem_cons] at hr ⊢
  rcases hr with rfl | rfl | hr
  · exact .inl rfl
  · exact .inr (.inl rfl)
  · obtain ⟨p, hp, hr⟩ := mem_mfpE.1 hr
    exact .inr (.inr (List.mem_flatMap.2 ⟨p, hp, mfp_sub _ _ r hr⟩))

def kA : KO := ⟨(1, 0), ⟨by decide, by decide⟩⟩
def kB : KO := ⟨(2, 0), ⟨by decide, by decide⟩⟩
def cfgA : Cfg := ⟨1, 4, 1, 1⟩
def ndA1 : Nd := ⟨pol0, false, 1, [(3, 1)], [], false⟩
def ndA2 : Nd := ⟨pol0, false, 2, [(3, 1), (5, 1)], [], false⟩
theorem awA1 : putM ([] : List (KO × Nd)) kA { bump (ndOf [] kA) with smp := putS (ndOf [] kA).smp ((4 : Nat) : Int) (3, 1) } = [(kA, ndA1)] := by rfl
theorem awA2 : putM [(kA, ndA1)] kA { bump (ndOf [(kA, ndA1)] kA) with smp := putS (ndOf [(kA, ndA1)] kA).smp ((4 : Nat) : Int) (5, 1) } = [(kA, ndA2)] := by rfl
theorem kyN_ab (es : List (KO × NE)) : kyN es = (ab es).map (·.1.1) := by simp [kyN, ab, List.map_map, Function.comp_def]
theorem awG : goneS [(kA, ndA2)] 5 (risL [(1, 0)]) = 1 := by rfl

theorem cfgA_ok : cfgA.ok := by simp [Cfg.ok, cfgA, I64]
theorem cfgA_b : cfgB cfgA = true := by decide

set_option maxRecDepth 100000 in
set_option maxHeartbeats 4000000 in
theorem awake_any (w : World) :
    Calls Try.prog 4 #[] w fun e w' => e = .returned (.bool true) ∧ Below w.heap.size w w' := by
  have HNW : Hid (∀ W, Calls Try.prog 10 #[.agg #[.int .i64 1, .int .i64 4, .int .i64 1, .int .i64 1]] W (NewStripe W cfgA 4 1)) := Lib.hid (fun W => stripeNew_any cfgA 4 1 W cfgA_b cfgA_ok)
  have HI1 : Hid (∀ T M es W, SAt W T M cfgA 0 es 4 1 → ab es = [] → Calls Try.prog 11 #[.pointer (some ⟨T, 0, none⟩), .agg #[.int .u64 1, .int .u64 0], .int .i64 3, .int .i64 1] W (SSays W T M cfgA es 4 1 (.int .i64 0) 1 [(kA, ndA1)])) := Lib.hid (fun T M es W h he => by
    have hlen : es.length = 0 := by rw [← ab_len, he]; rfl
    have := singest_ok T M cfgA 0 es 4 1 kA (3, 1) W h (by decide) (fun hh => by have := hh.2; rw [hlen] at this; simp [cfgA] at this) cfgA_b rfl rfl cfgA_ok (by omega) (by rw [he]; simp)
    rw [he, awA1] at this
    exact this)
  have HI2 : Hid (∀ T M es W, SAt W T M cfgA 1 es 4 1 → ab es = [(kA, ndA1)] → Calls Try.prog 11 #[.pointer (some ⟨T, 0, none⟩), .agg #[.int .u64 2, .int .u64 0], .int .i64 3, .int .i64 1] W (SSays W T M cfgA es 4 1 (.int .i64 6) 1 [(kA, ndA1)])) := Lib.hid (fun T M es W h he => by
    have hlen : es.length = 1 := by rw [← ab_len, he]; rfl
    have hf : findM es kB = none := by
      have h1 := ab_find es kB
      rw [he] at h1
      have h2 : findM [(kA, ndA1)] kB = none := by rfl
      rw [h2] at h1
      exact Option.map_eq_none_iff.1 h1.symm
    have := singest_full T M cfgA 1 es 4 1 kB (3, 1) W h (by decide) hf (by rw [hlen]; decide)
    rw [he] at this
    exact this)
  have HI3 : Hid (∀ T M es W, SAt W T M cfgA 1 es 4 1 → ab es = [(kA, ndA1)] → Calls Try.prog 11 #[.pointer (some ⟨T, 0, none⟩), .agg #[.int .u64 1, .int .u64 0], .int .i64 5, .int .i64 1] W (SSays W T M cfgA es 4 1 (.int .i64 0) 2 [(kA, ndA2)])) := Lib.hid (fun T M es W h he => by
    have hh : hasM es kA = true := by rw [← ab_has, he]; rfl
    have := singest_ok T M cfgA 1 es 4 1 kA (5, 1) W h (by decide) (fun h' => by rw [hh] at h'; cases h'.1) cfgA_b rfl rfl cfgA_ok (by omega) (by rw [he]; simp [ndA1])
    rw [he, awA2] at this
    exact this)
  have HTR : Hid (∀ T M es W, SAt W T M cfgA 2 es 4 1 → ab es = [(kA, ndA2)] → Calls Try.prog 12 #[.pointer (some ⟨T, 0, none⟩), .int .i64 5] W fun e W' => ∃ es' ver, e = .returned (.int .i64 1) ∧ SAt W' T M cfgA ver es' 4 1 ∧ es'.length = 1 ∧ Upd W W' (sfp T M es) (sfp T M es')) := Lib.hid (fun T M es W h he => by
    have hlen : es.length = 1 := by rw [← ab_len, he]; rfl
    have := strim_any T M cfgA 2 es 4 1 5 W h (by omega) (by omega) (by omega) (by omega) (by rw [he]; simp [ndA2]) (by rw [he]; simp [ndA2])
    rw [kyN_ab, he] at this
    refine this.mono ?_
    rintro e W' ⟨es', rfl, h1, h2, h3⟩
    refine ⟨es', _, ?_, h1, ?_, h3⟩
    · rw [show (goneS [(kA, ndA2)] 5 (risL (List.map (fun x => x.1.1) [(kA, ndA2)]))) = 1 from awG]; rfl
    · rw [← ab_len, h2]; simp [trimK])
  go_enter Try.func4, Try.ntmps4
  go_wp2_with (first
    | (go_at_call 10
       refine (HNW.out _).mono ?_
       rintro e w1 ⟨T, fp, rfl, h1, h2, h3⟩
       obtain ⟨M, hs, hfp⟩ := h1.at_
       have hf1 : ∀ r ∈ sfp T M [], w.heap.size ≤ r := fun r hr => h2 r (by rw [hfp]; exact sfp_sub hs r hr)
       have HS1 := Lib.hid hs
       have HF1 := Lib.hid hf1
       have HB1 := Lib.hid h3
       clear h1 h2 h3 hs hfp hf1)
    | (go_at_call 11
       refine (HI3.out T M es2 w3 HS3.out HA3.out).mono ?_
       rintro e w4 ⟨es4, rfl, h1, h2, h3⟩
       obtain ⟨hb, hf⟩ := upd_own HB3.out HF3.out h3
       have HS4 := Lib.hid h1
       have HA4 := Lib.hid h2
       have HF4 := Lib.hid hf
       have HB4 := Lib.hid hb
       clear h1 h2 h3 hb hf)
    | (go_at_call 11
       refine (HI2.out T M es1 w2 HS2.out HA2.out).mono ?_
       rintro e w3 ⟨es2, rfl, h1, h2, h3⟩
       obtain ⟨hb, hf⟩ := upd_own HB2.out HF2.out h3
       have HS3 := Lib.hid h1
       have HA3 := Lib.hid h2
       have HF3 := Lib.hid hf
       have HB3 := Lib.hid hb
       clear h1 h2 h3 hb hf)
    | (go_at_call 11
       refine (HI1.out T M [] w1 HS1.out rfl).mono ?_
       rintro e w2 ⟨es1, rfl, h1, h2, h3⟩
       obtain ⟨hb, hf⟩ := upd_own HB1.out HF1.out h3
       have HS2 := Lib.hid h1
       have HA2 := Lib.hid h2
       have HF2 := Lib.hid hf
       have HB2 := Lib.hid hb
       clear h1 h2 h3 hb hf)
    | (go_at_call 12
       refine (HTR.out T M es4 w4 HS4.out HA4.out).mono ?_
       rintro e w5 ⟨es5, ver5, rfl, h1, h2, h3⟩
       obtain ⟨hb, hf⟩ := upd_own HB4.out HF4.out h3
       have HS5 := Lib.hid h1
       have HA5 := Lib.hid h2
       have HB5 := Lib.hid hb
       clear h1 h2 h3 hb hf)
    | (go_at_call 13
       refine (slen_any T cfgA ver5 es5 4 1 _ w5 HS5.out.in_ (by rw [HA5.out]; omega)).mono ?_
       rw [HA5.out]
       rintro e w6 ⟨rfl, hb6⟩
       have HB6 := Lib.hid (bthen HB5.out hb6)
       clear hb6))
  go_ret
  exact ⟨rfl, HB6.out⟩
end

end Go.Proofs.Ytfegielnmdppgaa
