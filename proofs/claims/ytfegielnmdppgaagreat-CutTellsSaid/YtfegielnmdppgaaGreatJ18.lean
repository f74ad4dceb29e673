/- The reference's items of a stripe: With; The reference's Right of a policy. -/
import Derived.Test.YtfegielnmdppgaaGreatJ17
import Derived.Test.YtfegielnmdppgaaGreatJ07
namespace Go.Proofs.YtfegielnmdppgaaGreat

section
set_option linter.unusedSimpArgs false
set_option linter.unusedVariables false
open Go.RowKit Go.Lib Go.Sort

/-- Items with a key's load being that one. -/
def withI (l : List It) (k : Ky) (x : It) : List It := l.take (atI l k) ++ [{ x with key := k }] ++ l.drop (if hasI l k = true then atI l k + 1 else atI l k)
theorem hasI_lt {l : List It} {k : Ky} (h : hasI l k = true) : atI l k < l.length := (getL_has h).1

set_option maxRecDepth 100000 in
set_option maxHeartbeats 4000000 in
theorem iwith_any (v : Value) (l : List It) (k : Ky) (x : It) (w : World) (hv : RowIn 12 itC w v l) (hl : l.length ≤ 1000000) (hok : ∀ x ∈ l, x.key.ok) (hk : k.ok) :
    Calls Tryz.prog 111 #[v, .agg #[.int .u64 k.1, .int .u64 k.2], .agg (loadC x).toArray] w (RSays 12 itC w (withI l k x)) := by
  obtain ⟨A, c, rfl⟩ := hv.form
  have HH := Lib.hid (fun (W : World) (hb : Below w.heap.size w W) => ihas_any _ l k W (hv.below hb) hl hok hk)
  have HAT := Lib.hid (fun (W : World) (hb : Below w.heap.size w W) => iat_any _ l k W (hv.below hb) hl hok hk)
  have HV := Lib.hid hv
  have hle := atI_le l k
  have hlt : hasI l k = true → atI l k < l.length := hasI_lt
  have HX : Hid ((loadC x).toArray = #[.slice x.sA x.nd.smp.length x.sc, .slice x.pA x.nd.past.length x.pc, .int .i64 x.nd.pol.mn, .int .i64 x.nd.pol.mx, .int .i64 x.nd.pol.tg, .int .i64 x.nd.pol.tol, .int .i64 x.nd.pol.win, .int .i64 x.nd.pol.hold, .bool x.nd.ruled, .int .i64 (x.nd.ver : Nat)]) := Lib.hid rfl
  rw [HX.out]
  have HW : Hid (withI l k x = l.take (atI l k) ++ [{ x with key := k }] ++ l.drop (if hasI l k = true then atI l k + 1 else atI l k)) := Lib.hid rfl
  obtain ⟨mt, At, ct, hmt, hrt, hrowt⟩ := row_to eIt hv (atI l k) hle
  obtain ⟨mf, Af, cf, hmf, hrf, hrowf⟩ := row_from eIt hv (if hasI l k = true then atI l k + 1 else atI l k) (by split; exact hlt (by assumption); exact hle)
  have hlmt : mt.length = atI l k := by rw [hmt]; simp; omega
  have hlmf : mf.length ≤ l.length := by rw [hmf]; simp
  have HMT := Lib.hid hmt
  have HMF := Lib.hid hmf
  have HRT := Lib.hid hrowt
  have HRF := Lib.hid hrowf
  have HLT := Lib.hid hlmt
  clear hv hok hlt hmt hmf hrowt hrowf hlmt
  generalize ha : atI l k = a at *
  generalize hh : hasI l k = h at *
  obtain ⟨q, hq⟩ : ∃ q, q = if h = true then a + 1 else a := ⟨_, rfl⟩
  rw [← hq] at hrf
  have HQ := Lib.hid hq
  clear ha hh hq
  have hrun1 : h = true → ∀ w' : World, (Instr.sliceAt 28 (.slice A l.length c) (some (.int .i64 ((a : Int) + 1))) none none).run Tryz.prog w' = .ok (.slice Af mf.length cf) w' := fun he w' => by
    have := hrf w'
    rw [HQ.out, if_pos he, show ((a + 1 : Nat) : Int) = (a : Int) + 1 by omega] at this
    exact this
  have hrun0 : h = false → ∀ w' : World, (Instr.sliceAt 28 (.slice A l.length c) (some (.int .i64 (a : Int))) none none).run Tryz.prog w' = .ok (.slice Af mf.length cf) w' := fun he w' => by
    have := hrf w'
    rw [HQ.out, if_neg (by rw [he]; simp)] at this
    exact this
  have HR1 := Lib.hid hrun1
  have HR0 := Lib.hid hrun0
  clear hrf hrun1 hrun0
  cases h with
  | true =>
    have hrun := HR1.out rfl
    go_enter Tryz.func111, Tryz.ntmps111
    go_wp2_with (first
      | (go_at_call 72
         refine calls_named ?_
         intro W1 hW1
         obtain ⟨k0, k1, hs, hb⟩ := two_boxes w _ _ W1 hW1
         clear hW1
         refine (HAT.out W1 hb).mono ?_
         rintro e w2 ⟨rfl, hb2⟩
         have HK := Lib.hid (And.intro ((hb2.block _ (Array.getElem?_eq_some_iff.1 k0).1).trans k0) ((hb2.block _ (Array.getElem?_eq_some_iff.1 k1).1).trans k1))
         have HB := Lib.hid (bthen hb hb2)
         clear k0 k1 hs hb hb2)
      | (at_builtin; refine wpList_appendL eIt (by rfl) (by rfl) w2.heap.size [] mt (.slice (some ⟨w2.heap.size, 0, none⟩) 0 0) _ (by rfl) (by rfl) (OwnL.lit0 _ _ _ _ rfl (Nat.le_refl _)) (HRT.out.below (balloc HB.out _)) (by have := HLT.out; simp; omega) (by simp) ?_; intro out3 A3 c3 w3 hout3 hown3 hg3 _
         have hb3 : Below w2.heap.size w2 w3 := (balloc (Below.refl _ _) _).grown hg3 (by simp) (fun r hr => by have hr' : some w2.heap.size = some r := hr; injection hr'; omega)
         obtain ⟨a1, a2, a3⟩ := box_cells hb3 HK.out.1
         obtain ⟨b1, b2, b3⟩ := box_cells hb3 HK.out.2
         have HO3 := Lib.hid hown3
         have HE3 := Lib.hid hout3
         have HB3 := Lib.hid hb3
         clear hout3 hown3 hg3 hb3)
      | (at_builtin; refine wpList_appendL eIt (by rfl) (by rfl) w2.heap.size out3 [{ x with key := k }] _ _ (by rfl) (by rfl) (HO3.out.below (balloc (Below.refl _ _) _)) (RowIn.lit (n := 12) (f := itC) w3 { x with key := k } _ _ _ rfl rfl) (by have := HLT.out; simp [HE3.out]; omega) (by have := HB3.out.size; simp; omega) ?_; intro out4 A4 c4 w4 hout4 hown4 hg4 _
         have hb4 : Below w2.heap.size w2 w4 := (balloc HB3.out _).trans (grown_own hg4 HO3.out (by have := HB3.out.size; simp; omega))
         obtain ⟨a1, a2, a3⟩ := box_cells hb4 HK.out.1
         have HO4 := Lib.hid hown4
         have HE4 := Lib.hid hout4
         have HB4 := Lib.hid hb4
         clear hout4 hown4 hg4 hb4)
      | (go_at_call 21
         refine (HH.out w4 (bthen HB.out HB4.out)).mono ?_
         rintro e w5 ⟨rfl, hb5⟩
         have HB5 := Lib.hid (bthen HB4.out hb5)
         have HO5 := Lib.hid (HO4.out.below hb5)
         clear hb5)
      | (at_builtin; refine wpList_appendL eIt (by rfl) (by rfl) w2.heap.size out4 mf _ _ (by rfl) (by rfl) HO5.out (HRF.out.below (bthen HB.out HB5.out)) (by have := HLT.out; simp [HE4.out, HE3.out]; omega) HB5.out.size ?_; intro out6 A6 c6 w6 hout6 hown6 hg6 _
         have hb6 : Below w2.heap.size w2 w6 := HB5.out.trans (grown_own hg6 HO5.out HB5.out.size)
         have HO6 := Lib.hid hown6
         have HE6 := Lib.hid hout6
         have HB6 := Lib.hid hb6
         clear hout6 hown6 hg6 hb6))
    go_ret
    have e : out6 = withI l k x := by rw [HE6.out, HE4.out, HE3.out, HW.out, HMT.out, HMF.out, List.nil_append]
    rw [← e]
    exact ⟨_, _, rfl, (RowG.own eIt HO6.out).imp (fun b hb => Nat.le_trans HB.out.size hb), bthen HB.out HB6.out⟩
  | false =>
    have hrun := HR0.out rfl
    go_enter Tryz.func111, Tryz.ntmps111
    go_wp2_with (first
      | (go_at_call 72
         refine calls_named ?_
         intro W1 hW1
         obtain ⟨k0, k1, hs, hb⟩ := two_boxes w _ _ W1 hW1
         clear hW1
         refine (HAT.out W1 hb).mono ?_
         rintro e w2 ⟨rfl, hb2⟩
         have HK := Lib.hid (And.intro ((hb2.block _ (Array.getElem?_eq_some_iff.1 k0).1).trans k0) ((hb2.block _ (Array.getElem?_eq_some_iff.1 k1).1).trans k1))
         have HB := Lib.hid (bthen hb hb2)
         clear k0 k1 hs hb hb2)
      | (at_builtin; refine wpList_appendL eIt (by rfl) (by rfl) w2.heap.size [] mt (.slice (some ⟨w2.heap.size, 0, none⟩) 0 0) _ (by rfl) (by rfl) (OwnL.lit0 _ _ _ _ rfl (Nat.le_refl _)) (HRT.out.below (balloc HB.out _)) (by have := HLT.out; simp; omega) (by simp) ?_; intro out3 A3 c3 w3 hout3 hown3 hg3 _
         have hb3 : Below w2.heap.size w2 w3 := (balloc (Below.refl _ _) _).grown hg3 (by simp) (fun r hr => by have hr' : some w2.heap.size = some r := hr; injection hr'; omega)
         obtain ⟨a1, a2, a3⟩ := box_cells hb3 HK.out.1
         obtain ⟨b1, b2, b3⟩ := box_cells hb3 HK.out.2
         have HO3 := Lib.hid hown3
         have HE3 := Lib.hid hout3
         have HB3 := Lib.hid hb3
         clear hout3 hown3 hg3 hb3)
      | (at_builtin; refine wpList_appendL eIt (by rfl) (by rfl) w2.heap.size out3 [{ x with key := k }] _ _ (by rfl) (by rfl) (HO3.out.below (balloc (Below.refl _ _) _)) (RowIn.lit (n := 12) (f := itC) w3 { x with key := k } _ _ _ rfl rfl) (by have := HLT.out; simp [HE3.out]; omega) (by have := HB3.out.size; simp; omega) ?_; intro out4 A4 c4 w4 hout4 hown4 hg4 _
         have hb4 : Below w2.heap.size w2 w4 := (balloc HB3.out _).trans (grown_own hg4 HO3.out (by have := HB3.out.size; simp; omega))
         obtain ⟨a1, a2, a3⟩ := box_cells hb4 HK.out.1
         have HO4 := Lib.hid hown4
         have HE4 := Lib.hid hout4
         have HB4 := Lib.hid hb4
         clear hout4 hown4 hg4 hb4)
      | (go_at_call 21
         refine (HH.out w4 (bthen HB.out HB4.out)).mono ?_
         rintro e w5 ⟨rfl, hb5⟩
         have HB5 := Lib.hid (bthen HB4.out hb5)
         have HO5 := Lib.hid (HO4.out.below hb5)
         clear hb5)
      | (at_builtin; refine wpList_appendL eIt (by rfl) (by rfl) w2.heap.size out4 mf _ _ (by rfl) (by rfl) HO5.out (HRF.out.below (bthen HB.out HB5.out)) (by have := HLT.out; simp [HE4.out, HE3.out]; omega) HB5.out.size ?_; intro out6 A6 c6 w6 hout6 hown6 hg6 _
         have hb6 : Below w2.heap.size w2 w6 := HB5.out.trans (grown_own hg6 HO5.out HB5.out.size)
         have HO6 := Lib.hid hown6
         have HE6 := Lib.hid hout6
         have HB6 := Lib.hid hb6
         clear hout6 hown6 hg6 hb6))
    go_ret
    have e : out6 = withI l k x := by rw [HE6.out, HE4.out, HE3.out, HW.out, HMT.out, HMF.out, List.nil_append]
    rw [← e]
    exact ⟨_, _, rfl, (RowG.own eIt HO6.out).imp (fun b hb => Nat.le_trans HB.out.size hb), bthen HB.out HB6.out⟩
end

section
set_option linter.unusedSimpArgs false
set_option linter.unusedVariables false
open Go.RowKit Go.Lib

set_option maxRecDepth 100000 in
set_option maxHeartbeats 4000000 in
theorem r12right_any (p : Pol) (w : World) :
    Calls Tryz.prog 91 #[polV p] w fun e w' => e = .returned (.bool (polB p)) ∧ Below w.heap.size w w' := by
  unfold polV
  by_cases h0 : p.mn < 0
  · have HB : Hid (polB p = false) := Lib.hid (by simp [polB]; omega)
    rw [HB.out]
    go_enter Tryz.func91, Tryz.ntmps91
    go_wp2
    go_ret
    exact ⟨rfl, balloc (Below.refl _ _) _⟩
  · have h0' : ¬ p.mn < 0 := h0
    by_cases h1 : p.mx < 1
    · have HB : Hid (polB p = false) := Lib.hid (by simp [polB]; omega)
      rw [HB.out]
      go_enter Tryz.func91, Tryz.ntmps91
      go_wp2
      go_ret
      exact ⟨rfl, balloc (Below.refl _ _) _⟩
    · have h1' : ¬ p.mx < 1 := h1
      by_cases h2 : 1073741824 < p.mx
      · have HB : Hid (polB p = false) := Lib.hid (by simp [polB]; omega)
        rw [HB.out]
        go_enter Tryz.func91, Tryz.ntmps91
        go_wp2
        go_ret
        exact ⟨rfl, balloc (Below.refl _ _) _⟩
      · have h2' : ¬ 1073741824 < p.mx := h2
        by_cases h3 : p.mx < p.mn
        · have HB : Hid (polB p = false) := Lib.hid (by simp [polB]; omega)
          rw [HB.out]
          go_enter Tryz.func91, Tryz.ntmps91
          go_wp2
          go_ret
          exact ⟨rfl, balloc (Below.refl _ _) _⟩
        · have h3' : ¬ p.mx < p.mn := h3
          by_cases h4 : 1 ≤ p.tg
          case neg =>
            have HB : Hid (polB p = false) := Lib.hid (by simp [polB]; omega)
            rw [HB.out]
            go_enter Tryz.func91, Tryz.ntmps91
            go_wp2
            go_ret
            exact ⟨rfl, balloc (Below.refl _ _) _⟩
          by_cases h5 : 0 ≤ p.tol
          case neg =>
            have HB : Hid (polB p = false) := Lib.hid (by simp [polB]; omega)
            rw [HB.out]
            go_enter Tryz.func91, Tryz.ntmps91
            go_wp2
            go_ret
            exact ⟨rfl, balloc (Below.refl _ _) _⟩
          by_cases h6 : p.tol ≤ 999
          case neg =>
            have HB : Hid (polB p = false) := Lib.hid (by simp [polB]; omega)
            rw [HB.out]
            go_enter Tryz.func91, Tryz.ntmps91
            go_wp2
            go_ret
            exact ⟨rfl, balloc (Below.refl _ _) _⟩
          by_cases h7 : 1 ≤ p.win
          case neg =>
            have HB : Hid (polB p = false) := Lib.hid (by simp [polB]; omega)
            rw [HB.out]
            go_enter Tryz.func91, Tryz.ntmps91
            go_wp2
            go_ret
            exact ⟨rfl, balloc (Below.refl _ _) _⟩
          by_cases h8 : 0 ≤ p.hold
          case neg =>
            have HB : Hid (polB p = false) := Lib.hid (by simp [polB]; omega)
            rw [HB.out]
            go_enter Tryz.func91, Tryz.ntmps91
            go_wp2
            go_ret
            exact ⟨rfl, balloc (Below.refl _ _) _⟩
          have HB : Hid (polB p = true) := Lib.hid (by simp [polB]; omega)
          rw [HB.out]
          go_enter Tryz.func91, Tryz.ntmps91
          go_wp2
          go_ret
          exact ⟨rfl, balloc (Below.refl _ _) _⟩
end

end Go.Proofs.YtfegielnmdppgaaGreat
