/- batch.Sort, the reference's Sort. -/
import Derived.Test.YtfnabpmdjfejbaaBSort2
import Derived.Test.YtfnabpmdjfejbaaBefore
namespace Go.Proofs.Ytfnabpmdjfejbaa
set_option linter.unusedSimpArgs false
set_option linter.unusedVariables false
open Go.RowKit Go.Lib

def sortR (l : List CallD) : List CallD := isortN (lastR l)
theorem sortR_len (l : List CallD) : (sortR l).length ≤ l.length := by unfold sortR; rw [len_isortN]; exact lastR_len l
theorem norm_fine {c : CallD} (h : FineC c) : FineC (norm c) := by
  refine ⟨⟨by simp [norm, I64], h.1.2.1, h.1.2.2.1, h.1.2.2.2.1, by simp [norm, I64], ?_⟩, h.2⟩
  simp [norm, Pol.ok, I64]
theorem lastR_fine {l : List CallD} (hok : ∀ p ∈ l, p.ok) : ∀ c ∈ lastR l, FineC c := by
  intro c hc
  unfold lastR at hc
  split at hc
  · rename_i hf
    obtain ⟨j, hj, _, _, rfl⟩ := lastP_mem l _ c hc
    exact norm_fine ⟨hok _ (List.getElem_mem hj), fine_id hf hj⟩
  · simp at hc
theorem lastR_pair (l : List CallD) : (lastR l).Pairwise (fun a b => sp a b = false) := by
  unfold lastR
  split
  · exact lastP_pair l _
  · exact List.Pairwise.nil
theorem sortR_fine {l : List CallD} (hok : ∀ p ∈ l, p.ok) : ∀ c ∈ sortR l, FineC c := fun c hc => lastR_fine hok c ((mem_isortN _ _).1 hc)

set_option maxRecDepth 100000 in
set_option maxHeartbeats 2000000 in
theorem sort_any (v : Value) (l : List CallD) (w : World) (hv : RowIn 11 callCells w v l) (hok : ∀ p ∈ l, p.ok) (hl : l.length ≤ 1000000) :
    Calls Try.prog 29 #[v] w (LaysC w (sortR l)) := by
  obtain ⟨A, c, rfl⟩ := hv.form
  have hlen := lastR_len l
  have HF := Lib.hid (lastR_fine hok)
  have HP := Lib.hid (lastR_pair l)
  have HL := Lib.hid (last_any _ l w hv hok hl)
  clear hv hok
  go_enter Try.func29, Try.ntmps29
  go_wp2_with (first
    | (go_at_call 27; refine HL.out.mono ?_; rintro e w1 ⟨v1, rfl, ho1, hb1⟩; obtain ⟨A1, c1, rfl⟩ := ho1.form; have HO1 := Lib.hid ho1; clear ho1)
    | (go_at_call 61; refine (sort_calls _ (lastR l) _ HO1.out (by omega) HF.out HP.out).mono ?_; rintro e w2 ⟨rfl, ho2, hg2⟩; have HO2 := Lib.hid ho2; have HG2 := Lib.hid hg2; clear ho2 hg2))
  go_ret
  exact ⟨_, rfl, HO2.out, hb1.trans (grown_own HG2.out HO1.out hb1.size)⟩

theorem before_key {a b : CallD} (ha : FineC a) (hb : FineC b) : beforeS a.id b.id = decide (hiC a < hiC b ∨ hiC a = hiC b ∧ loC a < loC b) := by
  have h := (cmp_want a.id b.id ha.2 hb.2).1
  unfold wantI cmpI at h
  cases hs : beforeS a.id b.id with
  | true =>
    have h2 := cmp_key a.id b.id ha.2 hb.2 hs
    exact (decide_eq_true h2).symm
  | false =>
    rw [hs] at h
    simp only [Bool.false_eq_true, if_false] at h
    symm
    rw [decide_eq_false_iff_not]
    intro h2
    have h2' : hiN a.id.data.toList < hiN b.id.data.toList ∨ hiN a.id.data.toList = hiN b.id.data.toList ∧ loN a.id.data.toList < loN b.id.data.toList := h2
    rw [if_neg (by omega), if_pos h2'] at h
    split at h <;> cases h
theorem ltN_split {a b : CallD} (ha : FineC a) (hb : FineC b) : ltN a b = (beforeS a.id b.id || (decide (a.id = b.id) && decide (a.tick < b.tick))) := by
  rw [before_key ha hb, Bool.eq_iff_iff, ltN_iff, Bool.or_eq_true, Bool.and_eq_true, decide_eq_true_eq, decide_eq_true_eq, decide_eq_true_eq]
  constructor
  · rintro (h | ⟨h, h2 | ⟨h2, h3⟩⟩)
    · exact .inl (.inl h)
    · exact .inl (.inr ⟨h, h2⟩)
    · exact .inr ⟨id_of_key ha.2 hb.2 h h2, h3⟩
  · rintro ((h | ⟨h, h2⟩) | ⟨h, h3⟩)
    · exact .inl h
    · exact .inr ⟨h, .inl h2⟩
    · refine .inr ⟨?_, .inr ⟨?_, h3⟩⟩
      · unfold hiC; rw [h]
      · unfold loC; rw [h]

theorem balloc' {w a : World} (h : Below w.heap.size w a) (o : Obj) : Below w.heap.size w (a.alloc o) := balloc h o

set_option maxRecDepth 1000000 in
set_option maxHeartbeats 4000000 in
theorem rsort_any (v : Value) (l : List CallD) (w : World) (hv : RowIn 11 callCells w v l) (hok : ∀ p ∈ l, p.ok) (hl : l.length ≤ 1000000) :
    Calls Try.prog 30 #[v] w (LaysC w (sortR l)) := by
  obtain ⟨A, c, rfl⟩ := hv.form
  have hlen := lastR_len l
  have HF := Lib.hid (lastR_fine hok)
  have HL := Lib.hid (rlast_any _ l w hv hok hl)
  have HE : sortR l = isortN (lastR l) := rfl
  generalize sortR l = sr at HE
  have HEE := Lib.hid HE
  clear hv hok HE
  generalize lastR l = m at hlen HF HL HEE
  go_enter Try.func30, Try.ntmps30
  go_wp2_with (go_at_call 28; refine HL.out.mono ?_; rintro e w1 ⟨v1, rfl, ho1, hb1⟩; obtain ⟨A1, c1, rfl⟩ := ho1.form; have HV := Lib.hid (ho1.row eCall); clear ho1)
  go_loopg [4, 5] m.length (fun g s4 s5 wr => ∃ k : Nat, k ≤ m.length ∧ m.length - k ≤ g ∧ s5 = .int .i64 k ∧ Below w1.heap.size w1 wr ∧ OwnL callCells 102 11 w1.heap.size wr s4 (isortN (m.take k)))
  case atStart => exact ⟨0, Nat.zero_le _, Nat.le_refl _, rfl, Below.refl _ _, OwnL.nil _ _⟩
  case round =>
    obtain ⟨k, hk, hg, rfl, hb, hown⟩ := hrel
    obtain ⟨wo, rfl⟩ : ∃ wo, wo = wr := ⟨_, rfl⟩
    by_cases hlt : k < m.length
    · obtain ⟨b, o, rfl, hbl, hc⟩ := calls_at HV.out hlt
      have HC := Lib.hid hc
      have HX := Lib.hid (isortN_succ m k hlt)
      have hxf := HF.out _ (List.getElem_mem hlt)
      have hn : (isortN (m.take k)).length ≤ 1000000 := by rw [len_isortN, List.length_take]; omega
      have HOF := Lib.hid (show ∀ p ∈ isortN (m.take k), FineC p from fun p hp => HF.out p (List.mem_of_mem_take ((mem_isortN _ _).1 hp)))
      clear hc
      have hk0 : (0 : Int) ≤ (k : Int) := by omega
      have hk1 : (k : Int) < (m.length : Int) := by omega
      have hme : m.length - (k + 1) < m.length - k := by omega
      generalize m[k] = x at HC HX hxf
      generalize isortN (m.take k) = out at hown HX hn HOF
      obtain ⟨A4, c4, rfl⟩ := hown.form
      have HOW := Lib.hid hown
      have HR := Lib.hid (hown.row eCall)
      have HXF := Lib.hid hxf
      have hxs := hxf.1.2.1
      clear hown hxf
      go_wp2
      go_loopg [6] out.length (fun g s6 wr => ∃ a : Nat, a ≤ out.length ∧ out.length - a ≤ g ∧ s6 = .int .i64 a ∧ (∀ j (h : j < out.length), j < a → ltN out[j] x = true) ∧ Below wo.heap.size wo wr)
      case atStart => exact ⟨0, Nat.zero_le _, Nat.le_refl _, rfl, fun j h hj => absurd hj (by omega), Below.refl _ _⟩
      case round =>
        obtain ⟨a, ha, hga, rfl, hless, hbi⟩ := hrel
        have HLs := Lib.hid hless
        clear hless
        have ha0 : (0 : Int) ≤ (a : Int) := by omega
        by_cases hal : a < out.length
        · obtain ⟨b4, o4, rfl, hbl4, hc4⟩ := calls_at HR.out hal
          obtain ⟨_, q1, q2, _⟩ := HC.out _ (bthen hb hbi)
          obtain ⟨_, p1, p2, _⟩ := hc4 _ hbi
          have hyf := HOF.out _ (List.getElem_mem hal)
          have HSP := Lib.hid (ltN_split hyf HXF.out)
          have hys := hyf.1.2.1
          have HY := Lib.hid (show ∃ y, y = out[a] from ⟨_, rfl⟩)
          obtain ⟨y, hy⟩ := HY.out
          have HYe := Lib.hid hy
          rw [← hy] at p1 p2 HSP hys
          clear hc4 hy hyf
          have ha1 : (a : Int) < (out.length : Int) := by omega
          have hstep : ltN y x = true → ∀ j (h : j < out.length), j < a + 1 → ltN out[j] x = true := fun hly j h hj => by
            rcases Nat.lt_or_ge j a with h1 | h1
            · exact HLs.out j h h1
            · obtain rfl : j = a := by omega
              rw [← HYe.out]; exact hly
          have HST := Lib.hid hstep
          clear hstep
          have HBq := fun W => before_quiet y.id x.id W hys hxs
          cases hbs : beforeS y.id x.id with
          | true =>
            have Hly := Lib.hid (show ltN y x = true from by rw [HSP.out, hbs]; rfl)
            rw [hbs] at HBq
            have HBQ := Lib.hid HBq
            clear hbs HBq
            go_wp2_with fail
            go_quiet ((go_at_call 63; exact Calls.quiet_of (HBQ.out _)))
            go_wp2
            go_roundg (out.length - (a + 1))
            case measure => omega
            case rel => exact ⟨a + 1, hal, Nat.le_refl _, by go_num, HST.out Hly.out, below_drewN hbi _⟩
          | false =>
            have HB := Lib.hid hbs
            rw [hbs] at HBq
            have HBQ := Lib.hid HBq
            clear hbs HBq
            by_cases e1 : y.id = x.id
            · by_cases e2 : y.tick < x.tick
              · have Hly := Lib.hid (show ltN y x = true from by rw [HSP.out, HB.out]; simp [e1, e2])
                rw [e1] at p1 HBQ
                clear e1
                go_wp2_with fail
                go_quiet ((go_at_call 63; exact Calls.quiet_of (HBQ.out _)))
                go_wp2
                go_roundg (out.length - (a + 1))
                case measure => omega
                case rel => exact ⟨a + 1, hal, Nat.le_refl _, by go_num, HST.out Hly.out, below_drewN hbi _⟩
              · have Hly := Lib.hid (show ltN y x = false from by rw [HSP.out, HB.out]; simp [e1, e2])
                rw [e1] at p1 HBQ
                clear e1
                go_wp2_with fail
                go_quiet ((go_at_call 63; exact Calls.quiet_of (HBQ.out _)))
                obtain ⟨w2, hw2⟩ : ∃ w2 : World, w2 = wr.drewN nq := ⟨_, rfl⟩
                rw [← hw2]
                have hb2 : Below wo.heap.size wo w2 := by rw [hw2]; exact below_drewN hbi _
                clear hw2
                have HI := Lib.hid (show insN x out = out.take a ++ (x :: out.drop a) from insN_at x out a ha HLs.out (fun _ => by rw [← HYe.out]; exact Hly.out))
                have hbw2 : Below w1.heap.size w1 w2 := bthen hb hb2
                have hs2 := hbw2.size
                have hs3 := hb2.size
                obtain ⟨mt, At, ct, hmt, hrt, hRt⟩ := row_to eCall (HR.out.below hb2) a ha
                obtain ⟨mf, Af, cf, hmf, hrf, hRf⟩ := row_from eCall (HR.out.below hb2) a ha
                have HMT := Lib.hid hmt
                have HMF := Lib.hid hmf
                have HRT := Lib.hid hRt
                have HRF := Lib.hid hRf
                have hmtl : mt.length ≤ 1000000 := by rw [hmt, List.length_take]; omega
                have hmfl : mf.length ≤ 1000000 := by rw [hmf, List.length_drop]; omega
                clear hmt hmf hRt hRf
                have hq : ∀ W, Below w1.heap.size w1 W → CallIn W b (o + k * 11) x := HC.out
                have HQ := Lib.hid hq
                clear hq
                go_wp2_with (first
                  | (at_builtin; refine wpList_appendL eCall (by rfl) (s := .tmp 61) (x := .tmp 64) (by rfl) w2.heap.size [] mt _ _ (by rfl) (by rfl) (OwnL.lit0 _ w2 _ _ rfl (Nat.le_refl _)) (HRT.out.below (balloc (Below.refl _ _) _)) (by simp; omega) (by simp) ?_; intro out6 A6 c6 w6 hout6 hown6 hg6 _
                     have HO6 := Lib.hid hout6; have HW6 := Lib.hid hown6
                     have hb6 : Below w2.heap.size w2 w6 := (balloc (Below.refl _ _) _).trans (grown_below hg6 (by simp) (fun r hr => by have hr' : some w2.heap.size = some r := hr; injection hr'; omega))
                     have hl6 : out6.length ≤ 1000000 := by rw [hout6]; simpa using hmtl
                     obtain ⟨f0, f1, f2, f3, f4, f5, f6, f7, f8, f9, f10⟩ := HQ.out w6 (hbw2.trans (hb6.mono hs2))
                     clear hout6 hown6 hg6)
                  | (at_builtin; refine wpList_appendL eCall (by rfl) (s := .tmp 66) (x := .tmp 71) (by rfl) w2.heap.size out6 [x] _ _ (by rfl) (by rfl) (HW6.out.below (balloc (Below.refl _ _) _)) (RowIn.lit w6 x _ _ _ rfl rfl) (by simp; omega) (by have := hb6.size; simp; omega) ?_; intro out7 A7 c7 w7 hout7 hown7 hg7 _
                     have HO7 := Lib.hid hout7; have HW7 := Lib.hid hown7
                     have hb7 : Below w2.heap.size w2 w7 := (balloc' hb6 _).trans (grown_own hg7 HW6.out (by have := hb6.size; simp; omega))
                     have hl7 : out7.length ≤ 1000001 := by rw [hout7]; simp; omega
                     clear hout7 hown7 hg7)
                  | (at_builtin; refine wpList_appendL eCall (by rfl) (s := .tmp 73) (x := .tmp 76) (by rfl) w2.heap.size out7 mf _ _ (by rfl) (by rfl) HW7.out (HRF.out.below hb7) (by omega) hb7.size ?_; intro out8 A8 c8 w8 hout8 hown8 hg8 _
                     have HO8 := Lib.hid hout8; have HW8 := Lib.hid hown8
                     have hb8 : Below w2.heap.size w2 w8 := hb7.trans (grown_own hg8 HW7.out hb7.size)
                     clear hout8 hown8 hg8))
                go_roundg (m.length - (k + 1))
                case measure => omega
                case rel =>
                  refine ⟨k + 1, hlt, Nat.le_refl _, by go_num, hbw2.trans (hb8.mono hs2), ?_⟩
                  rw [HX.out, HI.out]
                  have e8 : out8 = out.take a ++ (x :: out.drop a) := by rw [HO8.out, HO7.out, HO6.out, HMT.out, HMF.out]; simp
                  rw [← e8]
                  exact HW8.out.lower hs2
            · have Hly := Lib.hid (show ltN y x = false from by rw [HSP.out, HB.out]; simp [e1])
              have e3 := str_ne e1
              clear e1
              go_wp2_with fail
              go_quiet ((go_at_call 63; exact Calls.quiet_of (HBQ.out _)))
              obtain ⟨w2, hw2⟩ : ∃ w2 : World, w2 = wr.drewN nq := ⟨_, rfl⟩
              rw [← hw2]
              have hb2 : Below wo.heap.size wo w2 := by rw [hw2]; exact below_drewN hbi _
              clear hw2
              have HI := Lib.hid (show insN x out = out.take a ++ (x :: out.drop a) from insN_at x out a ha HLs.out (fun _ => by rw [← HYe.out]; exact Hly.out))
              have hbw2 : Below w1.heap.size w1 w2 := bthen hb hb2
              have hs2 := hbw2.size
              have hs3 := hb2.size
              obtain ⟨mt, At, ct, hmt, hrt, hRt⟩ := row_to eCall (HR.out.below hb2) a ha
              obtain ⟨mf, Af, cf, hmf, hrf, hRf⟩ := row_from eCall (HR.out.below hb2) a ha
              have HMT := Lib.hid hmt
              have HMF := Lib.hid hmf
              have HRT := Lib.hid hRt
              have HRF := Lib.hid hRf
              have hmtl : mt.length ≤ 1000000 := by rw [hmt, List.length_take]; omega
              have hmfl : mf.length ≤ 1000000 := by rw [hmf, List.length_drop]; omega
              clear hmt hmf hRt hRf
              have hq : ∀ W, Below w1.heap.size w1 W → CallIn W b (o + k * 11) x := HC.out
              have HQ := Lib.hid hq
              clear hq
              go_wp2_with (first
                | (at_builtin; refine wpList_appendL eCall (by rfl) (s := .tmp 61) (x := .tmp 64) (by rfl) w2.heap.size [] mt _ _ (by rfl) (by rfl) (OwnL.lit0 _ w2 _ _ rfl (Nat.le_refl _)) (HRT.out.below (balloc (Below.refl _ _) _)) (by simp; omega) (by simp) ?_; intro out6 A6 c6 w6 hout6 hown6 hg6 _
                   have HO6 := Lib.hid hout6; have HW6 := Lib.hid hown6
                   have hb6 : Below w2.heap.size w2 w6 := (balloc (Below.refl _ _) _).trans (grown_below hg6 (by simp) (fun r hr => by have hr' : some w2.heap.size = some r := hr; injection hr'; omega))
                   have hl6 : out6.length ≤ 1000000 := by rw [hout6]; simpa using hmtl
                   obtain ⟨f0, f1, f2, f3, f4, f5, f6, f7, f8, f9, f10⟩ := HQ.out w6 (hbw2.trans (hb6.mono hs2))
                   clear hout6 hown6 hg6)
                | (at_builtin; refine wpList_appendL eCall (by rfl) (s := .tmp 66) (x := .tmp 71) (by rfl) w2.heap.size out6 [x] _ _ (by rfl) (by rfl) (HW6.out.below (balloc (Below.refl _ _) _)) (RowIn.lit w6 x _ _ _ rfl rfl) (by simp; omega) (by have := hb6.size; simp; omega) ?_; intro out7 A7 c7 w7 hout7 hown7 hg7 _
                   have HO7 := Lib.hid hout7; have HW7 := Lib.hid hown7
                   have hb7 : Below w2.heap.size w2 w7 := (balloc' hb6 _).trans (grown_own hg7 HW6.out (by have := hb6.size; simp; omega))
                   have hl7 : out7.length ≤ 1000001 := by rw [hout7]; simp; omega
                   clear hout7 hown7 hg7)
                | (at_builtin; refine wpList_appendL eCall (by rfl) (s := .tmp 73) (x := .tmp 76) (by rfl) w2.heap.size out7 mf _ _ (by rfl) (by rfl) HW7.out (HRF.out.below hb7) (by omega) hb7.size ?_; intro out8 A8 c8 w8 hout8 hown8 hg8 _
                   have HO8 := Lib.hid hout8; have HW8 := Lib.hid hown8
                   have hb8 : Below w2.heap.size w2 w8 := hb7.trans (grown_own hg8 HW7.out hb7.size)
                   clear hout8 hown8 hg8))
              go_roundg (m.length - (k + 1))
              case measure => omega
              case rel =>
                refine ⟨k + 1, hlt, Nat.le_refl _, by go_num, hbw2.trans (hb8.mono hs2), ?_⟩
                rw [HX.out, HI.out]
                have e8 : out8 = out.take a ++ (x :: out.drop a) := by rw [HO8.out, HO7.out, HO6.out, HMT.out, HMF.out]; simp
                rw [← e8]
                exact HW8.out.lower hs2
        · go_wp2_with fail
          go_quiet (fail)
          obtain ⟨w2, hw2⟩ : ∃ w2 : World, w2 = wr.drewN nq := ⟨_, rfl⟩
          rw [← hw2]
          have hb2 : Below wo.heap.size wo w2 := by rw [hw2]; exact below_drewN hbi _
          clear hw2
          have HI := Lib.hid (show insN x out = out.take a ++ (x :: out.drop a) from insN_at x out a ha HLs.out (fun h => absurd h (by omega)))
          have hbw2 : Below w1.heap.size w1 w2 := bthen hb hb2
          have hs2 := hbw2.size
          have hs3 := hb2.size
          obtain ⟨mt, At, ct, hmt, hrt, hRt⟩ := row_to eCall (HR.out.below hb2) a ha
          obtain ⟨mf, Af, cf, hmf, hrf, hRf⟩ := row_from eCall (HR.out.below hb2) a ha
          have HMT := Lib.hid hmt
          have HMF := Lib.hid hmf
          have HRT := Lib.hid hRt
          have HRF := Lib.hid hRf
          have hmtl : mt.length ≤ 1000000 := by rw [hmt, List.length_take]; omega
          have hmfl : mf.length ≤ 1000000 := by rw [hmf, List.length_drop]; omega
          clear hmt hmf hRt hRf
          have hq : ∀ W, Below w1.heap.size w1 W → CallIn W b (o + k * 11) x := HC.out
          have HQ := Lib.hid hq
          clear hq
          go_wp2_with (first
            | (at_builtin; refine wpList_appendL eCall (by rfl) (s := .tmp 61) (x := .tmp 64) (by rfl) w2.heap.size [] mt _ _ (by rfl) (by rfl) (OwnL.lit0 _ w2 _ _ rfl (Nat.le_refl _)) (HRT.out.below (balloc (Below.refl _ _) _)) (by simp; omega) (by simp) ?_; intro out6 A6 c6 w6 hout6 hown6 hg6 _
               have HO6 := Lib.hid hout6; have HW6 := Lib.hid hown6
               have hb6 : Below w2.heap.size w2 w6 := (balloc (Below.refl _ _) _).trans (grown_below hg6 (by simp) (fun r hr => by have hr' : some w2.heap.size = some r := hr; injection hr'; omega))
               have hl6 : out6.length ≤ 1000000 := by rw [hout6]; simpa using hmtl
               obtain ⟨f0, f1, f2, f3, f4, f5, f6, f7, f8, f9, f10⟩ := HQ.out w6 (hbw2.trans (hb6.mono hs2))
               clear hout6 hown6 hg6)
            | (at_builtin; refine wpList_appendL eCall (by rfl) (s := .tmp 66) (x := .tmp 71) (by rfl) w2.heap.size out6 [x] _ _ (by rfl) (by rfl) (HW6.out.below (balloc (Below.refl _ _) _)) (RowIn.lit w6 x _ _ _ rfl rfl) (by simp; omega) (by have := hb6.size; simp; omega) ?_; intro out7 A7 c7 w7 hout7 hown7 hg7 _
               have HO7 := Lib.hid hout7; have HW7 := Lib.hid hown7
               have hb7 : Below w2.heap.size w2 w7 := (balloc' hb6 _).trans (grown_own hg7 HW6.out (by have := hb6.size; simp; omega))
               have hl7 : out7.length ≤ 1000001 := by rw [hout7]; simp; omega
               clear hout7 hown7 hg7)
            | (at_builtin; refine wpList_appendL eCall (by rfl) (s := .tmp 73) (x := .tmp 76) (by rfl) w2.heap.size out7 mf _ _ (by rfl) (by rfl) HW7.out (HRF.out.below hb7) (by omega) hb7.size ?_; intro out8 A8 c8 w8 hout8 hown8 hg8 _
               have HO8 := Lib.hid hout8; have HW8 := Lib.hid hown8
               have hb8 : Below w2.heap.size w2 w8 := hb7.trans (grown_own hg8 HW7.out hb7.size)
               clear hout8 hown8 hg8))
          go_roundg (m.length - (k + 1))
          case measure => omega
          case rel =>
            refine ⟨k + 1, hlt, Nat.le_refl _, by go_num, hbw2.trans (hb8.mono hs2), ?_⟩
            rw [HX.out, HI.out]
            have e8 : out8 = out.take a ++ (x :: out.drop a) := by rw [HO8.out, HO7.out, HO6.out, HMT.out, HMF.out]; simp
            rw [← e8]
            exact HW8.out.lower hs2
    · obtain rfl : k = m.length := by omega
      rw [List.take_length] at hown
      obtain ⟨A4, c4, rfl⟩ := hown.form
      have HO := Lib.hid hown
      clear hown
      go_wp2
      go_ret
      exact ⟨_, rfl, by rw [HEE.out]; exact HO.out.lower hb1.size, bthen hb1 hb⟩
end Go.Proofs.Ytfnabpmdjfejbaa
