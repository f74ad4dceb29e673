/- StripeSorts answers true. -/
import Derived.Test.YtfegielnmdppgaaJ16
import Derived.Test.YtfegielnmdppgaaJ33
import Derived.Test.YtfegielnmdppgaaJ44
namespace Go.Proofs.Ytfegielnmdppgaa

section
set_option linter.unusedSimpArgs false
set_option linter.unusedVariables false
open Go.RowKit Go.Lib Go.Sort

/-- A node with one sample, whose tick is a place. -/
def ndI (i : Nat) : Nd := { bump nd0 with smp := [((i : Int), (0 : Int))] }
theorem put_ndI (k : Nat) : ({ bump nd0 with smp := putS nd0.smp ((1 : Nat) : Int) ((k : Int), (0 : Int)) } : Nd) = ndI k := by
  unfold ndI
  congr 1
set_option maxRecDepth 100000 in
set_option maxHeartbeats 4000000 in
theorem spl_any (N i : Nat) (fp : List Nat) (w : World) (h : NodeIn w N (ndI i) 1 1 fp) (hi : i ≤ 1000) :
    Calls Try.prog 8 #[.pointer (some ⟨N, 0, none⟩)] w fun e w' => e = .returned (.int .i64 i) ∧ Below w.heap.size w w' := by
  have HS := Lib.hid (show Calls Try.prog 25 #[.pointer (some ⟨N, 0, none⟩)] w (CloneS smpC 65 2 w [((i : Int), (0 : Int))]) from nodeSamples_any N (ndI i) 1 1 fp w h (by omega))
  clear h
  go_enter Try.func8, Try.ntmps8
  go_wp2_with (first
    | (go_at_call 25
       refine HS.out.mono ?_
       rintro e w1 ⟨A, c, fq, rfl, hr, _, hb⟩
       obtain ⟨b1, o1, rfl, hb1, hc⟩ := (hr.row eSmp).at_ (k := 0) (Nat.zero_lt_one)
       have d0 : w1.cell? ⟨b1, o1, none⟩ = some (.int .i64 i) := by have := hc 0 (.int .i64 i) rfl; rwa [Nat.zero_mul, Nat.add_zero] at this
       have HB := Lib.hid hb
       clear hr hb hc))
  go_ret
  exact ⟨rfl, HB.out⟩
/-- The nodes of entries that were made one by one. -/
def NodesAt (w : World) (v : Value) (l : List En) : Prop := ∀ i (h : i < l.length), ∃ fp, NodeIn w l[i].2 (ndI i) 1 1 fp ∧ ∀ r, v.ownBlock = some r → r ∉ fp
theorem nodes_next {wr wA w' : World} {v v' : Value} {l : List En} {base N : Nat} {p : Ky} {fp' : List Nat} {o : Obj} (hN : NodesAt wr v l) (hown : OwnL enC 36 3 base wr v l) (hb : Below wr.heap.size wr wA) (hn : NodeIn wA N (ndI l.length) 1 1 fp')
    (hfp : ∀ r ∈ fp', wr.heap.size ≤ r) (hg : (wA.alloc o).grownBy w' v.ownBlock) (hor : v'.ownBlock = v.ownBlock ∨ v'.ownBlock = some (wA.alloc o).heap.size) : NodesAt w' v' (l ++ [(p, N)]) := by
  have hk : ∀ r, r < wA.heap.size → v.ownBlock ≠ some r → w'.heap[r]? = wA.heap[r]? := fun r h1 h2 =>
    (hg.block r (by simp; omega) (fun e => h2 e.symm)).trans (Below.heap_alloc _ _ _ h1)
  have hv' : ∀ (fp : List Nat), (∀ r ∈ fp, r < wA.heap.size) → (∀ r, v.ownBlock = some r → r ∉ fp) → ∀ r, v'.ownBlock = some r → r ∉ fp := fun fp h1 h2 r hr hm => by
    rcases hor with e | e
    · exact h2 r (e ▸ hr) hm
    · rw [e] at hr
      injection hr with hr
      have := h1 r hm
      simp at hr
      omega
  intro i h
  by_cases hi : i < l.length
  · obtain ⟨fp, h1, h2⟩ := hN i hi
    have h3 := h1.below hb
    have e : (l ++ [(p, N)])[i] = l[i] := List.getElem_append_left hi
    rw [e]
    exact ⟨fp, h3.kept (fun r hr => hk r (h3.lt r hr) (fun q => h2 r q hr)), hv' fp h3.lt h2⟩
  · have hi2 : i = l.length := by simp at h; omega
    subst hi2
    have e : (l ++ [(p, N)])[l.length]'h = (p, N) := by simp
    rw [e]
    have h2 : ∀ r, v.ownBlock = some r → r ∉ fp' := fun r hr hm => by
      have := (OwnL.lt hown hr).2
      have := hfp r hm
      omega
    exact ⟨fp', hn.kept (fun r hr => hk r (hn.lt r hr) (fun q => h2 r q hr)), hv' fp' hn.lt h2⟩

set_option maxRecDepth 100000 in
set_option maxHeartbeats 16000000 in
theorem ssorts_main (v : Value) (l : List Ky) (w : World) (hv : KeysIn w v l) (hok : ∀ p ∈ l, p.ok) (hl : l.length ≤ 40) :
    Calls Try.prog 3 #[v] w fun e w' => e = .returned (.bool true) ∧ Below w.heap.size w w' := by
  obtain ⟨A, c, rfl, h0⟩ := id hv
  clear h0
  have HV := Lib.hid hv
  have HOK := Lib.hid hok
  have HL := Lib.hid hl
  have HAW := Lib.hid (awake_any w)
  have CNW := Lib.hid (show ∀ W, Calls Try.prog 5 #[.agg #[.int .i64 1, .int .i64 1, .int .i64 1, .int .i64 1]] W (NewNode W nd0 1 1) from fun W => nodeNew_any ⟨1, 1, 1, 1⟩ 1 1 W (by decide) rfl rfl (by simp [Cfg.ok, I64]))
  have CPT := Lib.hid (show ∀ (N k : Nat) (fp : List Nat) W, NodeIn W N nd0 1 1 fp → Calls Try.prog 6 #[.pointer (some ⟨N, 0, none⟩), .int .i64 k, .int .i64 0] W (NdSays W (ndI k) 1 1 (mfp nd0 fp) (fun p => .tuple #[p, .int .i64 0])) from fun N k fp W h => by
    have := nodePut_any N nd0 1 1 fp ((k : Int), (0 : Int)) W h (by omega) (by omega) (by omega) (by decide) (by simp) (by simp)
    rwa [put_ndI] at this)
  have q0 : (l.length : Int) ≤ 40 := by omega
  have q1 : ¬ (40 : Int) < (l.length : Int) := by omega
  clear hv hok hl
  go_enter Try.func3, Try.ntmps3
  go_wp2_with (first
    | (go_at_call 4
       refine HAW.out.mono ?_
       rintro e w1 ⟨rfl, hb1⟩
       have HB1 := Lib.hid hb1
       clear hb1))
  go_loopg [3, 19] l.length (fun g s3 s19 wr => ∃ ents : List En, ents.length ≤ l.length ∧ l.length - ents.length ≤ g ∧ s19 = .int .i64 ents.length ∧ Hid (ents.map (·.1) = l.take ents.length) ∧ OwnL enC 36 3 w1.heap.size wr s3 ents ∧ NodesAt wr s3 ents ∧ Below w1.heap.size w1 wr)
  case atStart => exact ⟨[], Nat.zero_le _, Nat.le_refl _, rfl, Lib.hid rfl, OwnL.nil _ _, fun i h => absurd h (by simp), Below.refl _ _⟩
  case round =>
    obtain ⟨ents, hk, hg, rfl, HME, hown, hnod, hbw⟩ := hrel
    rename World => wr
    have HBr := Lib.hid hbw
    have HN := Lib.hid hnod
    have HO := Lib.hid hown
    have HMk := Lib.hid hk
    clear hbw hnod
    by_cases hlt : ents.length < l.length
    · as_aux_lemma =>
        obtain ⟨b1, o1, rfl, hb1, c1, c2⟩ := (HV.out.below (bthen HB1.out HBr.out)).at_ hlt
        obtain ⟨B1, e1, rfl⟩ := hown.form
        have HM2 := Lib.hid (fun N : Nat => (show ((ents ++ [((l[ents.length], N) : En)]).map (fun x : En => x.1)) = l.take (ents.length + 1) by rw [List.map_append, HME.out, List.take_succ_eq_append_getElem hlt]; rfl))
        have hel : ents.length ≤ 40 := by omega
        generalize l[ents.length] = p at c1 c2 HM2
        have HEL := Lib.hid hel
        clear hown hel
        go_wp2_with (first
          | (go_at_call 5
             refine calls_named ?_
             intro W2 hW2
             have HW2 := Lib.hid (show Below wr.heap.size wr W2 by rw [hW2]; exact balloc (Below.refl _ _) _)
             have HX2 := Lib.hid (show W2.heap[wr.heap.size]? = some (.cells #[.int .u64 p.1, .int .u64 p.2] 27 (0, 0)) by rw [hW2]; exact heap_alloc_new _ _)
             clear hW2
             refine (CNW.out W2).mono ?_
             rintro e w3 ⟨N, fp, rfl, hn, hf, hb⟩
             have HN3 := Lib.hid hn
             have HF3 := Lib.hid hf
             have HB3 := Lib.hid hb
             clear hn hf hb)
          | (go_at_call 6
             refine (CPT.out N ents.length fp w3 HN3.out).mono ?_
             rintro e w4 ⟨N2, fp2, rfl, hn, hu⟩
             have HN4 := Lib.hid hn
             have HF4 := Lib.hid (show ∀ r ∈ fp2, wr.heap.size ≤ r from fun r hr => by
               rcases hu.fresh r hr with h | h
               · exact Nat.le_trans HW2.out.size (HF3.out r h)
               · exact Nat.le_trans HW2.out.size (Nat.le_trans HB3.out.size h))
             have hb4 : Below W2.heap.size w3 w4 := hu.below HB3.out.size HF3.out
             have HB4 := Lib.hid (show Below wr.heap.size wr w4 from HW2.out.trans ((HB3.out.trans hb4).mono HW2.out.size))
             obtain ⟨x1, x2, x3, x4⟩ := box_at (show Below W2.heap.size W2 w4 from HB3.out.trans hb4) HX2.out
             clear hn hu hb4 x2 x4)
          | (at_builtin
             refine wpList_appendL eEn (by rfl) (by rfl) w1.heap.size ents [(p, N2)] (.slice B1 ents.length e1) _ (by rfl) (by rfl) ((HO.out.below HB4.out).below (balloc (Below.refl _ _) _)) (RowIn.lit (n := 3) (f := enC) w4 (p, N2) _ _ _ rfl rfl) (by have := HEL.out; simp; omega) (by have := HBr.out.size; have := HB4.out.size; simp; omega) ?_
             intro out A2 c2 w5 hout hown hg hor
             have HOU := Lib.hid (show out = ents ++ [(p, N2)] from hout)
             have HB5 := Lib.hid (show Below w1.heap.size w1 w5 from (balloc (bthen HBr.out HB4.out) _).trans (grown_own hg HO.out (by have := HBr.out.size; have := HB4.out.size; simp; omega)))
             have HN5 := Lib.hid (show NodesAt w5 (.slice A2 out.length c2) out by rw [hout]; rw [hout] at hor; exact nodes_next HN.out HO.out HB4.out HN4.out HF4.out hg hor)
             have HO5 := Lib.hid hown
             clear hown hout hg hor))
        have HLN := Lib.hid (show out.length = ents.length + 1 by rw [HOU.out]; simp)
        go_roundg (l.length - (ents.length + 1))
        case measure => omega
        case rel => exact ⟨out, by rw [HLN.out]; omega, by rw [HLN.out]; exact Nat.le_refl _, by rw [HLN.out]; go_num, Lib.hid (by rw [HLN.out, HOU.out]; exact HM2.out N2), HO5.out, HN5.out, HB5.out⟩
    · as_aux_lemma =>
        have hel : ents.length = l.length := by omega
        have HEL := Lib.hid hel
        obtain ⟨B1, e1, rfl⟩ := hown.form
        have hrow := hown.row eEn
        have CSO := Lib.hid (sortE_any _ ents wr hrow (by have := HL.out; omega))
        have hME := HME.out
        rw [hel, List.take_length] at hME
        obtain ⟨pf, hpf, hnx⟩ := sort_places ents
        have hsl := sortEn_len ents
        have HSL := Lib.hid (show (sortEn ents).length = l.length from hsl.trans hel)
        -- each node's place
        have HND := Lib.hid (show ∀ W, Below wr.heap.size wr W → ∀ i (h : i < (sortEn ents).length), Calls Try.prog 8 #[.pointer (some ⟨((sortEn ents)[i]).2, 0, none⟩)] W fun e w' => e = .returned (.int .i64 (pf i : Nat)) ∧ Below W.heap.size W w' from fun W hW i h => by
          have he := hpf i h
          obtain ⟨hp, hx⟩ := List.getElem?_eq_some_iff.1 he
          obtain ⟨fp, h1, _⟩ := HN.out (pf i) hp
          rw [hx] at h1
          exact spl_any _ (pf i) fp W (h1.below hW) (by have := HL.out; omega))
        have HKY := Lib.hid (show ∀ i (h : i < (sortEn ents).length), ∃ h2 : pf i < l.length, l[pf i] = ((sortEn ents)[i]).1 from fun i h => by
          have he := hpf i h
          obtain ⟨hp, hx⟩ := List.getElem?_eq_some_iff.1 he
          refine ⟨by omega, ?_⟩
          have : l[pf i]? = some ((sortEn ents)[i]).1 := by rw [← hME, List.getElem?_map, he]; rfl
          exact (List.getElem?_eq_some_iff.1 this).2)
        have HNX := Lib.hid (show ∀ j (h0 : j < (sortEn ents).length) (h : j + 1 < (sortEn ents).length), ltK (sortEn ents)[j + 1].1 (sortEn ents)[j].1 = false ∧ ((sortEn ents)[j + 1].1 = (sortEn ents)[j].1 → pf j < pf (j + 1)) from fun j h0 h => hnx j h)
        have hLL := HL.out
        generalize sortEn ents = so at CSO HSL HND HKY HNX
        have q2 : ((so.length : Int) != (l.length : Int)) = false := by rw [HSL.out]; simp
        have q3 : (so.length : Int) ≤ 40 := by have := HSL.out; omega
        have q4 : (so.length : Int) = (l.length : Int) := by have := HSL.out; omega
        have Q4 := Lib.hid q4
        clear hown hrow hME hpf hnx hsl hel hk hg q4 hLL
        go_wp2_with (first
          | (go_at_call 7
             refine CSO.out.mono ?_
             rintro e w2 ⟨A2, c2, rfl, hown, hb⟩
             have HR2 := Lib.hid (hown.row eEn)
             have HB2 := Lib.hid hb
             clear hown hb))
        go_loopg [47] so.length (fun g s47 wx => ∃ i : Nat, i ≤ so.length ∧ so.length - i ≤ g ∧ s47 = .int .i64 i ∧ Below w2.heap.size w2 wx)
        case atStart => exact ⟨0, Nat.zero_le _, Nat.le_refl _, rfl, Below.refl _ _⟩
        case round =>
          obtain ⟨i, hi, hgi, rfl, hbx⟩ := hrel
          rename World => wx
          have HBx := Lib.hid hbx
          have HBwx := Lib.hid (show Below wr.heap.size wr wx from bthen HB2.out hbx)
          have HBall := Lib.hid (show Below w.heap.size w wx from bthen (bthen HB1.out HBr.out) (bthen HB2.out hbx))
          clear hbx
          by_cases hil : i < so.length
          · obtain ⟨b1, o1, rfl, hb1, hc⟩ := (HR2.out.below HBx.out).at_ hil
            have d0 := hc 0 _ rfl
            have d1 := hc 1 _ rfl
            have d2 := hc 2 _ rfl
            rw [Nat.add_zero] at d0
            obtain ⟨hpl, hkx⟩ := HKY.out i hil
            have CPx := Lib.hid (fun W (hW : Below wr.heap.size wr W) => HND.out W hW i hil)
            obtain ⟨b2, o2, hA2, hb2, c1, c2⟩ := (HV.out.below HBall.out).at_ hpl
            rw [hkx] at c1 c2
            have HC12 := Lib.hid (show A = some ⟨b2, o2, none⟩ ∧ b2 < wx.heap.size ∧ wx.cell? ⟨b2, o2 + pf i * 2, none⟩ = some (.int .u64 (so[i]).1.1) ∧ wx.cell? ⟨b2, o2 + pf i * 2 + 1, none⟩ = some (.int .u64 (so[i]).1.2) from ⟨hA2, hb2, c1, c2⟩)
            clear hA2 hb2 c1 c2 hkx
            have p1 : (0 : Int) ≤ (pf i : Int) := by omega
            have p2 : (pf i : Int) < (l.length : Int) := by omega
            have p3 : decide ((pf i : Int) < 0) = false := decide_eq_false (by omega)
            have p4 : decide ((l.length : Int) ≤ (pf i : Int)) = false := decide_eq_false (by omega)
            have p5 : decide (l.length ≤ pf i) = false := decide_eq_false (by omega)
            obtain ⟨hA, -, -, -⟩ := HC12.out
            subst hA
            by_cases hi0 : i = 0
            · as_aux_lemma =>
                have u0 : decide ((0 : Int) < (i : Int)) = false := decide_eq_false (by omega)
                have u0' : decide (0 < i) = false := decide_eq_false (by omega)
                clear hi0
                generalize pf i = pp at CPx HC12 p1 p2 p3 p4 p5
                have CPy := Lib.hid (show ∀ W, Below wr.heap.size wr W → Calls Try.prog 8 #[.pointer (some ⟨(so[i]).2, 0, none⟩)] W fun e w' => e = .returned (.int .i64 pp) ∧ Below W.heap.size W w' from CPx.out)
                generalize so[i] = x at d0 d1 d2 HC12 CPy
                clear hc CPx
                go_upto_region 19 with (first
                  | (go_at_call 8
                     refine calls_named ?_
                     intro W3 hW3
                     have hb3 : Below wx.heap.size wx W3 := by rw [hW3]; exact balloc (Below.refl _ _) _
                     have hx3 : W3.heap[wx.heap.size]? = some (.cells #[.int .u64 x.1.1, .int .u64 x.1.2, .pointer (some ⟨x.2, 0, none⟩)] 36 (0, 0)) := by rw [hW3]; exact heap_alloc_new _ _
                     clear hW3
                     refine (CPy.out W3 (bthen HBwx.out hb3)).mono ?_
                     rintro e w4 ⟨rfl, hb4⟩
                     have HX4 := Lib.hid ((hb4.block _ (Array.getElem?_eq_some_iff.1 hx3).1).trans hx3)
                     have HB4 := Lib.hid (bthen hb3 hb4)
                     clear hb3 hx3 hb4))
                obtain ⟨x1, x2, x3, x4⟩ := box_at (Below.refl _ _) HX4.out
                have c1 := ((bcell HB4.out).1 _ _ HC12.out.2.1).trans HC12.out.2.2.1
                have c2 := ((bcell HB4.out).1 _ _ HC12.out.2.1).trans HC12.out.2.2.2
                clear x2 x4 d0 d1 d2
                go_quiet (fail)
                go_wp2_with fail
                go_quiet (fail)
                go_wp2_with fail
                go_roundg (so.length - (i + 1))
                case measure => omega
                case rel => exact ⟨i + 1, hil, Nat.le_refl _, by go_num, below_drewN (bthen HBx.out HB4.out) _⟩
            · obtain ⟨j, rfl⟩ : ∃ j, i = j + 1 := ⟨i - 1, by omega⟩
              have hjl : j < so.length := by omega
              obtain ⟨hlk, hpk⟩ := HNX.out j (by omega) hil
              obtain ⟨b3, o3, hA3, hb3, hc3⟩ := (HR2.out.below HBx.out).at_ hjl
              injection hA3 with hA3
              injection hA3 with e1 e2 e3
              subst e1 e2
              have f0 := hc3 0 _ rfl
              have f1 := hc3 1 _ rfl
              have f2 := hc3 2 _ rfl
              rw [Nat.add_zero] at f0
              have CPy := Lib.hid (fun W (hW : Below wr.heap.size wr W) => HND.out W hW j hjl)
              have hpj : pf j < l.length := (HKY.out j hjl).1
              have hox : (so[j + 1]).1.ok := by
                obtain ⟨h2, e2⟩ := HKY.out (j + 1) hil
                rw [← e2]; exact HOK.out _ (List.getElem_mem h2)
              have hoy : (so[j]).1.ok := by
                obtain ⟨h2, e2⟩ := HKY.out j hjl
                rw [← e2]; exact HOK.out _ (List.getElem_mem h2)
              have CL := Lib.hid (show ∀ W, Calls Try.prog 9 #[.agg #[.int .u64 (so[j + 1]).1.1, .int .u64 (so[j + 1]).1.2], .agg #[.int .u64 (so[j]).1.1, .int .u64 (so[j]).1.2]] W fun e w' => e = .returned (.bool false) ∧ Below W.heap.size W w' from fun W => by have := less_any (so[j + 1]).1 (so[j]).1 W hox hoy; rwa [hlk] at this)
              have HPK := Lib.hid hpk
              have HPJ := Lib.hid hpj
              have CPz := Lib.hid (show ∀ W, Below wr.heap.size wr W → Calls Try.prog 8 #[.pointer (some ⟨(so[j + 1]).2, 0, none⟩)] W fun e w' => e = .returned (.int .i64 (pf (j + 1) : Nat)) ∧ Below W.heap.size W w' from CPx.out)
              clear hlk hpk hc hc3 hox hoy hpj CPx e3
              generalize so[j + 1] = x at d0 d1 d2 HC12 CPz CL HPK
              generalize so[j] = y at f0 f1 f2 CPy CL HPK
              generalize pf (j + 1) = pp at CPz HC12 p1 p2 p3 p4 p5 HPK hpl
              generalize pf j = pq at CPy HPK HPJ
              have u1 : IntKind.i64.wrap (j : Int) = (j : Int) := by rw [IntKind.wrap_i64]; omega
              have u2 : (0 : Int) ≤ (j : Int) := by omega
              have u3 : (j : Int) < (so.length : Int) := by omega
              have u4 : (0 : Int) < (j : Int) + 1 := by omega
              go_upto_region 19 with (first
                | (go_at_call 8
                   refine calls_named ?_
                   intro W3 hW3
                   have hb3 : Below wx.heap.size wx W3 := by rw [hW3]; exact balloc (Below.refl _ _) _
                   have hx3 : W3.heap[wx.heap.size]? = some (.cells #[.int .u64 x.1.1, .int .u64 x.1.2, .pointer (some ⟨x.2, 0, none⟩)] 36 (0, 0)) := by rw [hW3]; exact heap_alloc_new _ _
                   clear hW3
                   refine (CPz.out W3 (bthen HBwx.out hb3)).mono ?_
                   rintro e w4 ⟨rfl, hb4⟩
                   have HX4 := Lib.hid ((hb4.block _ (Array.getElem?_eq_some_iff.1 hx3).1).trans hx3)
                   have HB34 := Lib.hid (bthen hb3 hb4)
                   clear hb3 hx3 hb4))
              refine name_world ?_
              intro W4 hW4
              have HX4 := Lib.hid (show W4.heap[wx.heap.size]? = some (.cells #[.int .u64 x.1.1, .int .u64 x.1.2, .pointer (some ⟨x.2, 0, none⟩)] 36 (0, 0)) by rw [hW4]; exact HX4.out)
              have HBx4 := Lib.hid (show Below wx.heap.size wx W4 by rw [hW4]; exact HB34.out)
              have HB4 := Lib.hid (bthen HBwx.out HBx4.out)
              have HB4r := Lib.hid (Below.refl W4.heap.size W4)
              have HPC := Lib.hid (show ∀ U, Below W4.heap.size W4 U → U.cell? ⟨b1, o1 + j * 3, none⟩ = some (.int .u64 y.1.1) ∧ U.cell? ⟨b1, o1 + j * 3 + 1, none⟩ = some (.int .u64 y.1.2) ∧ U.cell? ⟨b1, o1 + j * 3 + 2, none⟩ = some (.pointer (some ⟨y.2, 0, none⟩)) from fun U hU =>
                ⟨((bcell (bthen HBx4.out hU)).1 _ _ hb1).trans f0, ((bcell (bthen HBx4.out hU)).1 _ _ hb1).trans f1, ((bcell (bthen HBx4.out hU)).1 _ _ hb1).trans f2⟩)
              have HLC := Lib.hid (show ∀ U, Below W4.heap.size W4 U → U.cell? ⟨b2, o2 + pp * 2, none⟩ = some (.int .u64 x.1.1) ∧ U.cell? ⟨b2, o2 + pp * 2 + 1, none⟩ = some (.int .u64 x.1.2) from fun U hU =>
                ⟨((bcell (bthen HBx4.out hU)).1 _ _ HC12.out.2.1).trans HC12.out.2.2.1, ((bcell (bthen HBx4.out hU)).1 _ _ HC12.out.2.1).trans HC12.out.2.2.2⟩)
              clear hW4 d0 d1 d2 f0 f1 f2
              refine wp_region_held_drew (S := (fun U : World => Below W4.heap.size W4 U)) (by kernel_rfl) ?hS59 (fun hHeld => ?_)
              case hS59 => first | with_reducible exact HB4r.out | exact HB4r.out.drew | with_reducible exact HB6.out
              refine wpAnyH_take (i := 0) (v := ?v60) rfl (by kernel_rfl) (by kernel_rfl) (by kernel_rfl) (fun _ _ _ h => h) (Or.inl ⟨by rfl, ?hy60⟩) (by assumption) ?_
              case hy60 =>
                intro w' hSw
                (try dsimp only at hSw)
                go_simp
                try (with_reducible rfl)
              try simp only [Act.put, List.getElem_toArray, List.getElem_cons_succ, List.getElem_cons_zero, List.setIfInBounds_toArray, List.set_cons_zero, List.set_cons_succ]
              refine wpAnyH_take (i := 1) (v := ?v61) rfl (by kernel_rfl) (by kernel_rfl) (by kernel_rfl) (fun _ _ _ h => h) (Or.inl ⟨by rfl, ?hy61⟩) (by assumption) ?_
              case hy61 =>
                intro w' hSw
                (try dsimp only at hSw)
                go_simp
                try (with_reducible rfl)
              try simp only [Act.put, List.getElem_toArray, List.getElem_cons_succ, List.getElem_cons_zero, List.setIfInBounds_toArray, List.set_cons_zero, List.set_cons_succ]
              refine wpAnyH_take (i := 2) (v := ?v62) rfl (by kernel_rfl) (by kernel_rfl) (by kernel_rfl) (fun _ _ _ h => h) (Or.inl ⟨by rfl, ?hy62⟩) (by assumption) ?_
              case hy62 =>
                intro w' hSw
                (try dsimp only at hSw)
                go_simp
                try (with_reducible rfl)
              try simp only [Act.put, List.getElem_toArray, List.getElem_cons_succ, List.getElem_cons_zero, List.setIfInBounds_toArray, List.set_cons_zero, List.set_cons_succ]
              refine wpAnyH_take (i := 3) (v := ?v63) rfl (by kernel_rfl) (by kernel_rfl) (by kernel_rfl) (fun _ _ _ h => h) (Or.inl ⟨by rfl, ?hy63⟩) (by assumption) ?_
              case hy63 =>
                intro w' hSw
                (try dsimp only at hSw)
                go_simp
                try (with_reducible rfl)
              try simp only [Act.put, List.getElem_toArray, List.getElem_cons_succ, List.getElem_cons_zero, List.setIfInBounds_toArray, List.set_cons_zero, List.set_cons_succ]
              refine wpAnyH_take (i := 4) (v := ?v64) rfl (by kernel_rfl) (by kernel_rfl) (by kernel_rfl) (fun _ _ _ h => h) (Or.inl ⟨by rfl, ?hy64⟩) (by assumption) ?_
              case hy64 =>
                intro w' hSw
                (try dsimp only at hSw)
                have q1 := (box_cells hSw HX4.out).1
                go_simp
                try (with_reducible rfl)
              try simp only [Act.put, List.getElem_toArray, List.getElem_cons_succ, List.getElem_cons_zero, List.setIfInBounds_toArray, List.set_cons_zero, List.set_cons_succ]
              refine wpAnyH_take (i := 5) (v := ?v65) rfl (by kernel_rfl) (by kernel_rfl) (by kernel_rfl) (fun _ _ _ h => h) (Or.inl ⟨by rfl, ?hy65⟩) (by assumption) ?_
              case hy65 =>
                intro w' hSw
                (try dsimp only at hSw)
                go_simp
                try (with_reducible rfl)
              try simp only [Act.put, List.getElem_toArray, List.getElem_cons_succ, List.getElem_cons_zero, List.setIfInBounds_toArray, List.set_cons_zero, List.set_cons_succ]
              refine wpAnyH_take (i := 6) (v := ?v66) rfl (by kernel_rfl) (by kernel_rfl) (by kernel_rfl) (fun _ _ _ h => h) (Or.inl ⟨by rfl, ?hy66⟩) (by assumption) ?_
              case hy66 =>
                intro w' hSw
                (try dsimp only at hSw)
                go_simp
                try (with_reducible rfl)
              try simp only [Act.put, List.getElem_toArray, List.getElem_cons_succ, List.getElem_cons_zero, List.setIfInBounds_toArray, List.set_cons_zero, List.set_cons_succ]
              refine wpAnyH_take (i := 7) (v := ?v67) rfl (by kernel_rfl) (by kernel_rfl) (by kernel_rfl) (fun _ _ _ h => h) (Or.inl ⟨by rfl, ?hy67⟩) (by assumption) ?_
              case hy67 =>
                intro w' hSw
                (try dsimp only at hSw)
                go_simp
                try (with_reducible rfl)
              try simp only [Act.put, List.getElem_toArray, List.getElem_cons_succ, List.getElem_cons_zero, List.setIfInBounds_toArray, List.set_cons_zero, List.set_cons_succ]
              refine wpAnyH_take (i := 8) (v := ?v68) rfl (by kernel_rfl) (by kernel_rfl) (by kernel_rfl) (fun _ _ _ h => h) (Or.inl ⟨by rfl, ?hy68⟩) (by assumption) ?_
              case hy68 =>
                intro w' hSw
                (try dsimp only at hSw)
                go_simp
                try (with_reducible rfl)
              try simp only [Act.put, List.getElem_toArray, List.getElem_cons_succ, List.getElem_cons_zero, List.setIfInBounds_toArray, List.set_cons_zero, List.set_cons_succ]
              refine wpAnyH_take (i := 9) (v := ?v69) rfl (by kernel_rfl) (by kernel_rfl) (by kernel_rfl) (fun _ _ _ h => h) (Or.inl ⟨by rfl, ?hy69⟩) (by assumption) ?_
              case hy69 =>
                intro w' hSw
                (try dsimp only at hSw)
                go_simp
                try (with_reducible rfl)
              try simp only [Act.put, List.getElem_toArray, List.getElem_cons_succ, List.getElem_cons_zero, List.setIfInBounds_toArray, List.set_cons_zero, List.set_cons_succ]
              refine wpAnyH_take (i := 10) (v := ?v70) rfl (by kernel_rfl) (by kernel_rfl) (by kernel_rfl) (fun _ _ _ h => h) (Or.inl ⟨by rfl, ?hy70⟩) (by assumption) ?_
              case hy70 =>
                intro w' hSw
                (try dsimp only at hSw)
                have q2 := HPC.out w' hSw
                go_simp
                try (with_reducible rfl)
              try simp only [Act.put, List.getElem_toArray, List.getElem_cons_succ, List.getElem_cons_zero, List.setIfInBounds_toArray, List.set_cons_zero, List.set_cons_succ]
              refine wpAnyH_ready (rs := [11]) (by kernel_rfl) (by simp) ?_
              refine AllReadyH.cons rfl (fun K hK => ?_) AllReadyH.nil
              go_simp
              go_at_call 9
              refine calls_named ?_
              intro W5 hW5
              have hb5 : Below W4.heap.size W4 W5 := by rw [hW5]; first | exact Below.refl _ _ | exact (Below.refl _ _).drew
              clear hW5
              with_reducible refine (CL.out W5).mono ?_
              rintro e w6 ⟨rfl, hb6⟩
              have HB6 := Lib.hid (bthen hb5 hb6)
              clear hb5 hb6
              try go_simp
              refine hK.out _ _ ?hS71 (fun hHeld2 => ?_)
              case hS71 => first | with_reducible exact HB4r.out | exact HB4r.out.drew | with_reducible exact HB6.out
              clear hK K hHeld
              have hHeld := hHeld2
              clear hHeld2
              try simp only [Act.put, List.getElem_toArray, List.getElem_cons_succ, List.getElem_cons_zero, List.setIfInBounds_toArray, List.set_cons_zero, List.set_cons_succ]
              refine wpAnyH_take (i := 12) (v := ?v72) rfl (by kernel_rfl) (by kernel_rfl) (by kernel_rfl) (fun _ _ _ h => h) (Or.inl ⟨by rfl, ?hy72⟩) (by assumption) ?_
              case hy72 =>
                intro w' hSw
                (try dsimp only at hSw)
                go_simp
                try (with_reducible rfl)
              try simp only [Act.put, List.getElem_toArray, List.getElem_cons_succ, List.getElem_cons_zero, List.setIfInBounds_toArray, List.set_cons_zero, List.set_cons_succ]
              refine wpAnyH_take (i := 13) (v := ?v73) rfl (by kernel_rfl) (by kernel_rfl) (by kernel_rfl) (fun _ _ _ h => h) (Or.inl ⟨by rfl, ?hy73⟩) (by assumption) ?_
              case hy73 =>
                intro w' hSw
                (try dsimp only at hSw)
                go_simp
                try (with_reducible rfl)
              try simp only [Act.put, List.getElem_toArray, List.getElem_cons_succ, List.getElem_cons_zero, List.setIfInBounds_toArray, List.set_cons_zero, List.set_cons_succ]
              refine wpAnyH_take (i := 14) (v := ?v74) rfl (by kernel_rfl) (by kernel_rfl) (by kernel_rfl) (fun _ _ _ h => h) (Or.inl ⟨by rfl, ?hy74⟩) (by assumption) ?_
              case hy74 =>
                intro w' hSw
                (try dsimp only at hSw)
                go_simp
                try (with_reducible rfl)
              try simp only [Act.put, List.getElem_toArray, List.getElem_cons_succ, List.getElem_cons_zero, List.setIfInBounds_toArray, List.set_cons_zero, List.set_cons_succ]
              refine wpAnyH_take (i := 15) (v := ?v75) rfl (by kernel_rfl) (by kernel_rfl) (by kernel_rfl) (fun _ _ _ h => h) (Or.inl ⟨by rfl, ?hy75⟩) (by assumption) ?_
              case hy75 =>
                intro w' hSw
                (try dsimp only at hSw)
                go_simp
                try (with_reducible rfl)
              try simp only [Act.put, List.getElem_toArray, List.getElem_cons_succ, List.getElem_cons_zero, List.setIfInBounds_toArray, List.set_cons_zero, List.set_cons_succ]
              refine wpAnyH_take (i := 16) (v := ?v76) rfl (by kernel_rfl) (by kernel_rfl) (by kernel_rfl) (fun _ _ _ h => h) (Or.inl ⟨by rfl, ?hy76⟩) (by assumption) ?_
              case hy76 =>
                intro w' hSw
                (try dsimp only at hSw)
                go_simp
                try (with_reducible rfl)
              try simp only [Act.put, List.getElem_toArray, List.getElem_cons_succ, List.getElem_cons_zero, List.setIfInBounds_toArray, List.set_cons_zero, List.set_cons_succ]
              refine wpAnyH_take (i := 17) (v := ?v77) rfl (by kernel_rfl) (by kernel_rfl) (by kernel_rfl) (fun _ _ _ h => h) (Or.inl ⟨by rfl, ?hy77⟩) (by assumption) ?_
              case hy77 =>
                intro w' hSw
                (try dsimp only at hSw)
                go_simp
                try (with_reducible rfl)
              try simp only [Act.put, List.getElem_toArray, List.getElem_cons_succ, List.getElem_cons_zero, List.setIfInBounds_toArray, List.set_cons_zero, List.set_cons_succ]
              refine wpAnyH_take (i := 18) (v := ?v78) rfl (by kernel_rfl) (by kernel_rfl) (by kernel_rfl) (fun _ _ _ h => h) (Or.inl ⟨by rfl, ?hy78⟩) (by assumption) ?_
              case hy78 =>
                intro w' hSw
                (try dsimp only at hSw)
                go_simp
                try (with_reducible rfl)
              try simp only [Act.put, List.getElem_toArray, List.getElem_cons_succ, List.getElem_cons_zero, List.setIfInBounds_toArray, List.set_cons_zero, List.set_cons_succ]
              refine wpAnyH_take (i := 19) (v := ?v79) rfl (by kernel_rfl) (by kernel_rfl) (by kernel_rfl) (fun _ _ _ h => h) (Or.inl ⟨by rfl, ?hy79⟩) (by assumption) ?_
              case hy79 =>
                intro w' hSw
                (try dsimp only at hSw)
                go_simp
                try (with_reducible rfl)
              try simp only [Act.put, List.getElem_toArray, List.getElem_cons_succ, List.getElem_cons_zero, List.setIfInBounds_toArray, List.set_cons_zero, List.set_cons_succ]
              refine wpAnyH_take (i := 20) (v := ?v80) rfl (by kernel_rfl) (by kernel_rfl) (by kernel_rfl) (fun _ _ _ h => h) (Or.inl ⟨by rfl, ?hy80⟩) (by assumption) ?_
              case hy80 =>
                intro w' hSw
                (try dsimp only at hSw)
                go_simp
                try (with_reducible rfl)
              try simp only [Act.put, List.getElem_toArray, List.getElem_cons_succ, List.getElem_cons_zero, List.setIfInBounds_toArray, List.set_cons_zero, List.set_cons_succ]
              refine wpAnyH_take (i := 21) (v := ?v81) rfl (by kernel_rfl) (by kernel_rfl) (by kernel_rfl) (fun _ _ _ h => h) (Or.inl ⟨by rfl, ?hy81⟩) (by assumption) ?_
              case hy81 =>
                intro w' hSw
                (try dsimp only at hSw)
                go_simp
                try (with_reducible rfl)
              try simp only [Act.put, List.getElem_toArray, List.getElem_cons_succ, List.getElem_cons_zero, List.setIfInBounds_toArray, List.set_cons_zero, List.set_cons_succ]
              refine wpAnyH_take (i := 22) (v := ?v82) rfl (by kernel_rfl) (by kernel_rfl) (by kernel_rfl) (fun _ _ _ h => h) (Or.inl ⟨by rfl, ?hy82⟩) (by assumption) ?_
              case hy82 =>
                intro w' hSw
                (try dsimp only at hSw)
                go_simp
                try (with_reducible rfl)
              try simp only [Act.put, List.getElem_toArray, List.getElem_cons_succ, List.getElem_cons_zero, List.setIfInBounds_toArray, List.set_cons_zero, List.set_cons_succ]
              refine wpAnyH_take (i := 23) (v := ?v83) rfl (by kernel_rfl) (by kernel_rfl) (by kernel_rfl) (fun _ _ _ h => h) (Or.inl ⟨by rfl, ?hy83⟩) (by assumption) ?_
              case hy83 =>
                intro w' hSw
                (try dsimp only at hSw)
                go_simp
                try (with_reducible rfl)
              try simp only [Act.put, List.getElem_toArray, List.getElem_cons_succ, List.getElem_cons_zero, List.setIfInBounds_toArray, List.set_cons_zero, List.set_cons_succ]
              refine wpAnyH_take (i := 24) (v := ?v84) rfl (by kernel_rfl) (by kernel_rfl) (by kernel_rfl) (fun _ _ _ h => h) (Or.inl ⟨by rfl, ?hy84⟩) (by assumption) ?_
              case hy84 =>
                intro w' hSw
                (try dsimp only at hSw)
                go_simp
                try (with_reducible rfl)
              try simp only [Act.put, List.getElem_toArray, List.getElem_cons_succ, List.getElem_cons_zero, List.setIfInBounds_toArray, List.set_cons_zero, List.set_cons_succ]
              refine wpAnyH_take (i := 25) (v := ?v85) rfl (by kernel_rfl) (by kernel_rfl) (by kernel_rfl) (fun _ _ _ h => h) (Or.inl ⟨by rfl, ?hy85⟩) (by assumption) ?_
              case hy85 =>
                intro w' hSw
                (try dsimp only at hSw)
                go_simp
                try (with_reducible rfl)
              try simp only [Act.put, List.getElem_toArray, List.getElem_cons_succ, List.getElem_cons_zero, List.setIfInBounds_toArray, List.set_cons_zero, List.set_cons_succ]
              refine wpAnyH_take (i := 26) (v := ?v86) rfl (by kernel_rfl) (by kernel_rfl) (by kernel_rfl) (fun _ _ _ h => h) (Or.inl ⟨by rfl, ?hy86⟩) (by assumption) ?_
              case hy86 =>
                intro w' hSw
                (try dsimp only at hSw)
                go_simp
                try (with_reducible rfl)
              try simp only [Act.put, List.getElem_toArray, List.getElem_cons_succ, List.getElem_cons_zero, List.setIfInBounds_toArray, List.set_cons_zero, List.set_cons_succ]
              refine wpAnyH_take (i := 27) (v := ?v87) rfl (by kernel_rfl) (by kernel_rfl) (by kernel_rfl) (fun _ _ _ h => h) (Or.inl ⟨by rfl, ?hy87⟩) (by assumption) ?_
              case hy87 =>
                intro w' hSw
                (try dsimp only at hSw)
                have q3 := HLC.out w' hSw
                go_simp
                try (with_reducible rfl)
              try simp only [Act.put, List.getElem_toArray, List.getElem_cons_succ, List.getElem_cons_zero, List.setIfInBounds_toArray, List.set_cons_zero, List.set_cons_succ]
              refine wpAnyH_take (i := 28) (v := ?v88) rfl (by kernel_rfl) (by kernel_rfl) (by kernel_rfl) (fun _ _ _ h => h) (Or.inl ⟨by rfl, ?hy88⟩) (by assumption) ?_
              case hy88 =>
                intro w' hSw
                (try dsimp only at hSw)
                go_simp
                try (with_reducible rfl)
              try simp only [Act.put, List.getElem_toArray, List.getElem_cons_succ, List.getElem_cons_zero, List.setIfInBounds_toArray, List.set_cons_zero, List.set_cons_succ]
              refine wpAnyH_take (i := 29) (v := ?v89) rfl (by kernel_rfl) (by kernel_rfl) (by kernel_rfl) (fun _ _ _ h => h) (Or.inl ⟨by rfl, ?hy89⟩) (by assumption) ?_
              case hy89 =>
                intro w' hSw
                (try dsimp only at hSw)
                have q1 := (box_cells hSw HX4.out).1
                go_simp
                try (with_reducible rfl)
              try simp only [Act.put, List.getElem_toArray, List.getElem_cons_succ, List.getElem_cons_zero, List.setIfInBounds_toArray, List.set_cons_zero, List.set_cons_succ]
              refine wpAnyH_take (i := 30) (v := ?v90) rfl (by kernel_rfl) (by kernel_rfl) (by kernel_rfl) (fun _ _ _ h => h) (Or.inl ⟨by rfl, ?hy90⟩) (by assumption) ?_
              case hy90 =>
                intro w' hSw
                (try dsimp only at hSw)
                go_simp
                try (with_reducible rfl)
              try simp only [Act.put, List.getElem_toArray, List.getElem_cons_succ, List.getElem_cons_zero, List.setIfInBounds_toArray, List.set_cons_zero, List.set_cons_succ]
              refine wpAnyH_take (i := 31) (v := ?v91) rfl (by kernel_rfl) (by kernel_rfl) (by kernel_rfl) (fun _ _ _ h => h) (Or.inl ⟨by rfl, ?hy91⟩) (by assumption) ?_
              case hy91 =>
                intro w' hSw
                (try dsimp only at hSw)
                go_simp
                try (with_reducible rfl)
              try simp only [Act.put, List.getElem_toArray, List.getElem_cons_succ, List.getElem_cons_zero, List.setIfInBounds_toArray, List.set_cons_zero, List.set_cons_succ]
              refine wpAnyH_done (by kernel_rfl) ?_ _
              go_upto_region 21 with fail
              refine name_world ?_
              intro W7 hW7
              have HB7w := Lib.hid (show Below W4.heap.size W4 W7 by rw [hW7]; exact HB6.out)
              have HX7 := Lib.hid (show W7.heap[wx.heap.size]? = some (.cells #[.int .u64 x.1.1, .int .u64 x.1.2, .pointer (some ⟨x.2, 0, none⟩)] 36 (0, 0)) from (HB7w.out.block _ (Array.getElem?_eq_some_iff.1 HX4.out).1).trans HX4.out)
              have HB7 := Lib.hid (bthen HB4.out HB7w.out)
              have HB7x := Lib.hid (bthen HBx4.out HB7w.out)
              have HB7r := Lib.hid (Below.refl W7.heap.size W7)
              have HPC7 := Lib.hid (fun U (hU : Below W7.heap.size W7 U) => HPC.out U (bthen HB7w.out hU))
              clear hW7
              by_cases hxy : x.1 = y.1
              · as_aux_lemma =>
                have hlt2 := HPK.out hxy
                have CP := Lib.hid (show ∀ W, Below wr.heap.size wr W → Calls Try.prog 8 #[.pointer (some ⟨y.2, 0, none⟩)] W fun e w' => e = .returned (.int .i64 pq) ∧ Below W.heap.size W w' from CPy.out)
                have u5 : decide ((pp : Int) ≤ (pq : Int)) = false := decide_eq_false (by omega)
                have u6 : decide (pp ≤ pq) = false := decide_eq_false (by omega)
                rw [hxy] at HX7
                clear hxy hlt2
                refine wp_region_held_drew (S := (fun U : World => Below W7.heap.size W7 U)) (by kernel_rfl) ?hS34 (fun hHeld => ?_)
                case hS34 => first | with_reducible exact HB7r.out | exact HB7r.out.drew | with_reducible exact HB6.out
                refine wpAnyH_take (i := 0) (v := ?v35) rfl (by kernel_rfl) (by kernel_rfl) (by kernel_rfl) (fun _ _ _ h => h) (Or.inl ⟨by rfl, ?hy35⟩) (by assumption) ?_
                case hy35 =>
                  intro w' hSw
                  (try dsimp only at hSw)
                  go_simp
                  try (with_reducible rfl)
                try simp only [Act.put, List.getElem_toArray, List.getElem_cons_succ, List.getElem_cons_zero, List.setIfInBounds_toArray, List.set_cons_zero, List.set_cons_succ]
                refine wpAnyH_take (i := 1) (v := ?v36) rfl (by kernel_rfl) (by kernel_rfl) (by kernel_rfl) (fun _ _ _ h => h) (Or.inl ⟨by rfl, ?hy36⟩) (by assumption) ?_
                case hy36 =>
                  intro w' hSw
                  (try dsimp only at hSw)
                  go_simp
                  try (with_reducible rfl)
                try simp only [Act.put, List.getElem_toArray, List.getElem_cons_succ, List.getElem_cons_zero, List.setIfInBounds_toArray, List.set_cons_zero, List.set_cons_succ]
                refine wpAnyH_take (i := 2) (v := ?v37) rfl (by kernel_rfl) (by kernel_rfl) (by kernel_rfl) (fun _ _ _ h => h) (Or.inl ⟨by rfl, ?hy37⟩) (by assumption) ?_
                case hy37 =>
                  intro w' hSw
                  (try dsimp only at hSw)
                  go_simp
                  try (with_reducible rfl)
                try simp only [Act.put, List.getElem_toArray, List.getElem_cons_succ, List.getElem_cons_zero, List.setIfInBounds_toArray, List.set_cons_zero, List.set_cons_succ]
                refine wpAnyH_take (i := 3) (v := ?v38) rfl (by kernel_rfl) (by kernel_rfl) (by kernel_rfl) (fun _ _ _ h => h) (Or.inl ⟨by rfl, ?hy38⟩) (by assumption) ?_
                case hy38 =>
                  intro w' hSw
                  (try dsimp only at hSw)
                  go_simp
                  try (with_reducible rfl)
                try simp only [Act.put, List.getElem_toArray, List.getElem_cons_succ, List.getElem_cons_zero, List.setIfInBounds_toArray, List.set_cons_zero, List.set_cons_succ]
                refine wpAnyH_take (i := 4) (v := ?v39) rfl (by kernel_rfl) (by kernel_rfl) (by kernel_rfl) (fun _ _ _ h => h) (Or.inl ⟨by rfl, ?hy39⟩) (by assumption) ?_
                case hy39 =>
                  intro w' hSw
                  (try dsimp only at hSw)
                  have q1 := (box_cells hSw HX7.out).1
                  go_simp
                  try (with_reducible rfl)
                try simp only [Act.put, List.getElem_toArray, List.getElem_cons_succ, List.getElem_cons_zero, List.setIfInBounds_toArray, List.set_cons_zero, List.set_cons_succ]
                refine wpAnyH_take (i := 5) (v := ?v40) rfl (by kernel_rfl) (by kernel_rfl) (by kernel_rfl) (fun _ _ _ h => h) (Or.inl ⟨by rfl, ?hy40⟩) (by assumption) ?_
                case hy40 =>
                  intro w' hSw
                  (try dsimp only at hSw)
                  go_simp
                  try (with_reducible rfl)
                try simp only [Act.put, List.getElem_toArray, List.getElem_cons_succ, List.getElem_cons_zero, List.setIfInBounds_toArray, List.set_cons_zero, List.set_cons_succ]
                refine wpAnyH_take (i := 6) (v := ?v41) rfl (by kernel_rfl) (by kernel_rfl) (by kernel_rfl) (fun _ _ _ h => h) (Or.inl ⟨by rfl, ?hy41⟩) (by assumption) ?_
                case hy41 =>
                  intro w' hSw
                  (try dsimp only at hSw)
                  go_simp
                  try (with_reducible rfl)
                try simp only [Act.put, List.getElem_toArray, List.getElem_cons_succ, List.getElem_cons_zero, List.setIfInBounds_toArray, List.set_cons_zero, List.set_cons_succ]
                refine wpAnyH_take (i := 7) (v := ?v42) rfl (by kernel_rfl) (by kernel_rfl) (by kernel_rfl) (fun _ _ _ h => h) (Or.inl ⟨by rfl, ?hy42⟩) (by assumption) ?_
                case hy42 =>
                  intro w' hSw
                  (try dsimp only at hSw)
                  go_simp
                  try (with_reducible rfl)
                try simp only [Act.put, List.getElem_toArray, List.getElem_cons_succ, List.getElem_cons_zero, List.setIfInBounds_toArray, List.set_cons_zero, List.set_cons_succ]
                refine wpAnyH_take (i := 8) (v := ?v43) rfl (by kernel_rfl) (by kernel_rfl) (by kernel_rfl) (fun _ _ _ h => h) (Or.inl ⟨by rfl, ?hy43⟩) (by assumption) ?_
                case hy43 =>
                  intro w' hSw
                  (try dsimp only at hSw)
                  go_simp
                  try (with_reducible rfl)
                try simp only [Act.put, List.getElem_toArray, List.getElem_cons_succ, List.getElem_cons_zero, List.setIfInBounds_toArray, List.set_cons_zero, List.set_cons_succ]
                refine wpAnyH_take (i := 9) (v := ?v44) rfl (by kernel_rfl) (by kernel_rfl) (by kernel_rfl) (fun _ _ _ h => h) (Or.inl ⟨by rfl, ?hy44⟩) (by assumption) ?_
                case hy44 =>
                  intro w' hSw
                  (try dsimp only at hSw)
                  go_simp
                  try (with_reducible rfl)
                try simp only [Act.put, List.getElem_toArray, List.getElem_cons_succ, List.getElem_cons_zero, List.setIfInBounds_toArray, List.set_cons_zero, List.set_cons_succ]
                refine wpAnyH_take (i := 10) (v := ?v45) rfl (by kernel_rfl) (by kernel_rfl) (by kernel_rfl) (fun _ _ _ h => h) (Or.inl ⟨by rfl, ?hy45⟩) (by assumption) ?_
                case hy45 =>
                  intro w' hSw
                  (try dsimp only at hSw)
                  have q2 := HPC7.out w' hSw
                  go_simp
                  try (with_reducible rfl)
                try simp only [Act.put, List.getElem_toArray, List.getElem_cons_succ, List.getElem_cons_zero, List.setIfInBounds_toArray, List.set_cons_zero, List.set_cons_succ]
                refine wpAnyH_take (i := 11) (v := ?v46) rfl (by kernel_rfl) (by kernel_rfl) (by kernel_rfl) (fun _ _ _ h => h) (Or.inl ⟨by rfl, ?hy46⟩) (by assumption) ?_
                case hy46 =>
                  intro w' hSw
                  (try dsimp only at hSw)
                  go_simp
                  try (with_reducible rfl)
                try simp only [Act.put, List.getElem_toArray, List.getElem_cons_succ, List.getElem_cons_zero, List.setIfInBounds_toArray, List.set_cons_zero, List.set_cons_succ]
                refine wpAnyH_take (i := 12) (v := ?v47) rfl (by kernel_rfl) (by kernel_rfl) (by kernel_rfl) (fun _ _ _ h => h) (Or.inl ⟨by rfl, ?hy47⟩) (by assumption) ?_
                case hy47 =>
                  intro w' hSw
                  (try dsimp only at hSw)
                  go_simp
                  try (with_reducible rfl)
                try simp only [Act.put, List.getElem_toArray, List.getElem_cons_succ, List.getElem_cons_zero, List.setIfInBounds_toArray, List.set_cons_zero, List.set_cons_succ]
                refine wpAnyH_take (i := 13) (v := ?v48) rfl (by kernel_rfl) (by kernel_rfl) (by kernel_rfl) (fun _ _ _ h => h) (Or.inl ⟨by rfl, ?hy48⟩) (by assumption) ?_
                case hy48 =>
                  intro w' hSw
                  (try dsimp only at hSw)
                  go_simp
                  try (with_reducible rfl)
                try simp only [Act.put, List.getElem_toArray, List.getElem_cons_succ, List.getElem_cons_zero, List.setIfInBounds_toArray, List.set_cons_zero, List.set_cons_succ]
                refine wpAnyH_take (i := 14) (v := ?v49) rfl (by kernel_rfl) (by kernel_rfl) (by kernel_rfl) (fun _ _ _ h => h) (Or.inl ⟨by rfl, ?hy49⟩) (by assumption) ?_
                case hy49 =>
                  intro w' hSw
                  (try dsimp only at hSw)
                  go_simp
                  try (with_reducible rfl)
                try simp only [Act.put, List.getElem_toArray, List.getElem_cons_succ, List.getElem_cons_zero, List.setIfInBounds_toArray, List.set_cons_zero, List.set_cons_succ]
                refine wpAnyH_take (i := 15) (v := ?v50) rfl (by kernel_rfl) (by kernel_rfl) (by kernel_rfl) (fun _ _ _ h => h) (Or.inl ⟨by rfl, ?hy50⟩) (by assumption) ?_
                case hy50 =>
                  intro w' hSw
                  (try dsimp only at hSw)
                  go_simp
                  try (with_reducible rfl)
                try simp only [Act.put, List.getElem_toArray, List.getElem_cons_succ, List.getElem_cons_zero, List.setIfInBounds_toArray, List.set_cons_zero, List.set_cons_succ]
                refine wpAnyH_take (i := 16) (v := ?v51) rfl (by kernel_rfl) (by kernel_rfl) (by kernel_rfl) (fun _ _ _ h => h) (Or.inl ⟨by rfl, ?hy51⟩) (by assumption) ?_
                case hy51 =>
                  intro w' hSw
                  (try dsimp only at hSw)
                  go_simp
                  try (with_reducible rfl)
                try simp only [Act.put, List.getElem_toArray, List.getElem_cons_succ, List.getElem_cons_zero, List.setIfInBounds_toArray, List.set_cons_zero, List.set_cons_succ]
                refine wpAnyH_take (i := 17) (v := ?v52) rfl (by kernel_rfl) (by kernel_rfl) (by kernel_rfl) (fun _ _ _ h => h) (Or.inl ⟨by rfl, ?hy52⟩) (by assumption) ?_
                case hy52 =>
                  intro w' hSw
                  (try dsimp only at hSw)
                  go_simp
                  try (with_reducible rfl)
                try simp only [Act.put, List.getElem_toArray, List.getElem_cons_succ, List.getElem_cons_zero, List.setIfInBounds_toArray, List.set_cons_zero, List.set_cons_succ]
                refine wpAnyH_take (i := 18) (v := ?v53) rfl (by kernel_rfl) (by kernel_rfl) (by kernel_rfl) (fun _ _ _ h => h) (Or.inl ⟨by rfl, ?hy53⟩) (by assumption) ?_
                case hy53 =>
                  intro w' hSw
                  (try dsimp only at hSw)
                  go_simp
                  try (with_reducible rfl)
                try simp only [Act.put, List.getElem_toArray, List.getElem_cons_succ, List.getElem_cons_zero, List.setIfInBounds_toArray, List.set_cons_zero, List.set_cons_succ]
                refine wpAnyH_take (i := 19) (v := ?v54) rfl (by kernel_rfl) (by kernel_rfl) (by kernel_rfl) (fun _ _ _ h => h) (Or.inl ⟨by rfl, ?hy54⟩) (by assumption) ?_
                case hy54 =>
                  intro w' hSw
                  (try dsimp only at hSw)
                  go_simp
                  try (with_reducible rfl)
                try simp only [Act.put, List.getElem_toArray, List.getElem_cons_succ, List.getElem_cons_zero, List.setIfInBounds_toArray, List.set_cons_zero, List.set_cons_succ]
                refine wpAnyH_take (i := 20) (v := ?v55) rfl (by kernel_rfl) (by kernel_rfl) (by kernel_rfl) (fun _ _ _ h => h) (Or.inl ⟨by rfl, ?hy55⟩) (by assumption) ?_
                case hy55 =>
                  intro w' hSw
                  (try dsimp only at hSw)
                  have q2 := HPC7.out w' hSw
                  go_simp
                  try (with_reducible rfl)
                try simp only [Act.put, List.getElem_toArray, List.getElem_cons_succ, List.getElem_cons_zero, List.setIfInBounds_toArray, List.set_cons_zero, List.set_cons_succ]
                refine wpAnyH_ready (rs := [21]) (by kernel_rfl) (by simp) ?_
                refine AllReadyH.cons rfl (fun K hK => ?_) AllReadyH.nil
                go_simp
                go_at_call 8
                refine calls_named ?_
                intro W5 hW5
                have hb5 : Below W7.heap.size W7 W5 := by rw [hW5]; first | exact Below.refl _ _ | exact (Below.refl _ _).drew
                clear hW5
                with_reducible refine (CP.out W5 (bthen HB7.out hb5)).mono ?_
                rintro e w6 ⟨rfl, hb6⟩
                have HB6 := Lib.hid (bthen hb5 hb6)
                clear hb5 hb6
                try go_simp
                refine hK.out _ _ ?hS56 (fun hHeld2 => ?_)
                case hS56 => first | with_reducible exact HB7r.out | exact HB7r.out.drew | with_reducible exact HB6.out
                clear hK K hHeld
                have hHeld := hHeld2
                clear hHeld2
                try simp only [Act.put, List.getElem_toArray, List.getElem_cons_succ, List.getElem_cons_zero, List.setIfInBounds_toArray, List.set_cons_zero, List.set_cons_succ]
                refine wpAnyH_take (i := 22) (v := ?v57) rfl (by kernel_rfl) (by kernel_rfl) (by kernel_rfl) (fun _ _ _ h => h) (Or.inl ⟨by rfl, ?hy57⟩) (by assumption) ?_
                case hy57 =>
                  intro w' hSw
                  (try dsimp only at hSw)
                  go_simp
                  try (with_reducible rfl)
                try simp only [Act.put, List.getElem_toArray, List.getElem_cons_succ, List.getElem_cons_zero, List.setIfInBounds_toArray, List.set_cons_zero, List.set_cons_succ]
                refine wpAnyH_take (i := 23) (v := ?v58) rfl (by kernel_rfl) (by kernel_rfl) (by kernel_rfl) (fun _ _ _ h => h) (Or.inl ⟨by rfl, ?hy58⟩) (by assumption) ?_
                case hy58 =>
                  intro w' hSw
                  (try dsimp only at hSw)
                  go_simp
                  try (with_reducible rfl)
                try simp only [Act.put, List.getElem_toArray, List.getElem_cons_succ, List.getElem_cons_zero, List.setIfInBounds_toArray, List.set_cons_zero, List.set_cons_succ]
                refine wpAnyH_done (by kernel_rfl) ?_ _
                go_wp2_with fail
                go_roundg (so.length - (j + 1 + 1))
                case measure => omega
                case rel => exact ⟨j + 1 + 1, hil, Nat.le_refl _, by go_num, bthen HBx.out (bthen HB7x.out HB6.out)⟩
              · as_aux_lemma =>
                obtain ⟨x1, x2, x3, x4⟩ := box_at (Below.refl _ _) HX7.out
                obtain ⟨y1, y2, y3⟩ := HPC7.out W7 HB7r.out
                clear x2 x4
                by_cases hh : x.1.1 = y.1.1
                · have hq : (((x.1.2 : Nat) : Int) == ((y.1.2 : Nat) : Int)) = false := by
                    have : x.1.2 ≠ y.1.2 := fun e => hxy (Prod.ext hh e)
                    simp; omega
                  have hq1 : (((x.1.1 : Nat) : Int) == ((y.1.1 : Nat) : Int)) = true := by rw [hh]; simp
                  clear hh hxy
                  go_quiet (fail)
                  go_wp2_with fail
                  go_roundg (so.length - (j + 1 + 1))
                  case measure => omega
                  case rel => exact ⟨j + 1 + 1, hil, Nat.le_refl _, by go_num, below_drewN (bthen HBx.out HB7x.out) _⟩
                · have hq : (((x.1.1 : Nat) : Int) == ((y.1.1 : Nat) : Int)) = false := by simp; omega
                  clear hh hxy
                  go_quiet (fail)
                  go_wp2_with fail
                  go_roundg (so.length - (j + 1 + 1))
                  case measure => omega
                  case rel => exact ⟨j + 1 + 1, hil, Nat.le_refl _, by go_num, below_drewN (bthen HBx.out HB7x.out) _⟩
          · obtain rfl : i = so.length := by omega
            go_wp2_with fail
            go_ret
            exact ⟨rfl, HBall.out⟩
theorem ssorts_walk (v : Value) (l : List Ky) (w : World) (hv : KeysIn w v l) (hok : ∀ p ∈ l, p.ok) (hm : l.length ≤ maxLen) :
    Calls Try.prog 3 #[v] w fun e w' => e = .returned (.bool true) ∧ Below w.heap.size w w' := by
  by_cases hl : l.length ≤ 40
  · exact ssorts_main v l w hv hok hl
  · obtain ⟨A, c, rfl, h0⟩ := id hv
    unfold maxLen at hm
    have HAW := Lib.hid (awake_any w)
    have q1 : (40 : Int) < (l.length : Int) := by omega
    clear hv hok h0 hl
    go_enter Try.func3, Try.ntmps3
    go_wp2_with (first
      | (go_at_call 4
         refine HAW.out.mono ?_
         rintro e w1 ⟨rfl, hb1⟩
         have HB1 := Lib.hid hb1
         clear hb1))
    go_ret
    exact ⟨rfl, HB1.out⟩
end

end Go.Proofs.Ytfegielnmdppgaa
