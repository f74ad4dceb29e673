/- A cut's Keys, and what of two cuts differs. -/
import Derived.Test.YtmniiodpbebnmaaGreatJ31
import Derived.Test.YtmniiodpbebnmaaGreatJ33
import Derived.Test.YtmniiodpbebnmaaGreatJ34
import Derived.Test.YtmniiodpbebnmaaGreatJ03
namespace Go.Proofs.YtmniiodpbebnmaaGreat

section
set_option linter.unusedSimpArgs false
set_option linter.unusedVariables false
open Go.RowKit Go.Lib Go.Sort

theorem eKyC : EltOf 92 74 2 16 (.agg #[.int .u64 0, .int .u64 0]) keyC :=
  ⟨by kernel_rfl, by kernel_rfl, rfl, by decide, by decide, fun _ => rfl, fun x u hu => by
    simp only [keyC, List.mem_cons, List.not_mem_nil, or_false] at hu
    rcases hu with rfl | rfl <;> rfl⟩
theorem cellsK_row (l : List Ky) : cellsK l = cellsOfRow keyC l := by
  induction l with
  | nil => rfl
  | cons x l ih => simp [cellsK, cellsOfRow, keyC, List.flatMap_cons] at ih ⊢; try exact ih
theorem RisW.own {w w' : World} {l : List Ky} {e : Ending} (h : RisW w l e w') : ∃ A c, e = .returned (.slice A l.length c) ∧ OwnL keyC 74 2 w.heap.size w' (.slice A l.length c) l ∧ Below w.heap.size w w' := by
  obtain ⟨v, rfl, _, hb, ho⟩ := h
  rw [cellsK_row] at ho
  have ho : OwnL keyC 74 2 w.heap.size w' v l := ho
  obtain ⟨A, c, rfl⟩ := ho.form
  exact ⟨A, c, rfl, ho, hb⟩

set_option maxRecDepth 100000 in
set_option maxHeartbeats 8000000 in
theorem cutKeys_any (C : Nat) (ep : Int) (l : List En) (w : World) (h : CutIn w C ep l) (hl : l.length ≤ 1000) :
    Calls Tryz.prog 99 #[.pointer (some ⟨C, 0, none⟩)] w (RisW w (risL (l.map (·.1)))) := by
  obtain ⟨A, c, h1, h2⟩ := h
  have HX := Lib.hid h1
  have HR := Lib.hid h2
  obtain ⟨a1, a2, a3⟩ := box_cells (Below.refl _ _) h1
  have hl9 : l.length ≤ 9223372036854775807 := by omega
  clear h1 h2
  go_enter Tryz.func99, Tryz.ntmps99
  go_wp2_with fail
  clear a1 a2 a3
  go_loopg [3, 13] l.length (fun g s3 s13 wr => ∃ k : Nat, k ≤ l.length ∧ l.length - k ≤ g ∧ s13 = .int .i64 k ∧ OwnL keyC 74 2 w.heap.size wr s3 ((l.map (·.1)).take k) ∧ Below w.heap.size w wr)
  case atStart => exact ⟨0, Nat.zero_le _, Nat.le_refl _, rfl, by rw [List.take_zero]; exact OwnL.nil _ _, Below.refl _ _⟩
  case round =>
    obtain ⟨k, hk, hg, rfl, hown, hb⟩ := hrel
    rename World => wr
    obtain ⟨pre, hpre⟩ : ∃ pre, pre = (l.map (·.1)).take k := ⟨_, rfl⟩
    rw [← hpre] at hown
    obtain ⟨A5, c5, rfl⟩ := hown.form
    have hkl : pre.length = k := by rw [hpre]; simp; omega
    have HPRE := Lib.hid hpre
    have HO := Lib.hid hown
    have HKL := Lib.hid hkl
    have HB := Lib.hid hb
    clear hpre hown hkl hb
    by_cases hlt : k < l.length
    · obtain ⟨b1, o1, rfl, hb1, hc⟩ := (HR.out.below HB.out).at_ hlt
      have HTK := Lib.hid (show (l.map (·.1)).take (k + 1) = pre ++ [l[k].1] by rw [List.take_succ_eq_append_getElem (by simpa using hlt), HPRE.out]; simp)
      have z1 : (0 : Int) ≤ (k : Int) := by omega
      have z2 : (k : Int) < (l.length : Int) := by omega
      generalize l[k] = x at hc HTK
      have d0 := hc 0 _ rfl
      have d1 := hc 1 _ rfl
      have d2 := hc 2 _ rfl
      rw [Nat.add_zero] at d0
      clear hc
      go_wp2_with (first
        | (at_builtin
           refine wpList_appendL eKyC (by rfl) (by rfl) w.heap.size pre [x.1] (.slice A5 pre.length c5) _ (by rfl) (by rfl) (HO.out.below (balloc (balloc (Below.refl _ _) _) _)) (RowIn.lit _ x.1 _ _ (wr.heap.size + 1) (by simp) rfl) (by rw [HKL.out]; simp; omega) (by have := HB.out.size; simp; omega) ?_
           intro out2 A2 c2 w2 hout2 hown2 hg2 _
           have HO2 := Lib.hid hout2
           have HW2 := Lib.hid hown2
           have HB2 := Lib.hid (show Below w.heap.size w w2 from (balloc (balloc HB.out _) _).trans (grown_own hg2 HO.out (by have := HB.out.size; simp; omega)))
           clear hout2 hown2 hg2))
      go_roundg (l.length - (k + 1))
      case measure => omega
      case rel => exact ⟨k + 1, hlt, Nat.le_refl _, by go_num, by rw [HTK.out, ← HO2.out]; exact HW2.out, HB2.out⟩
    · obtain rfl : k = l.length := by omega
      have hp := HPRE.out
      rw [List.take_of_length_le (by simp)] at hp
      have HRI := Lib.hid (rising_own _ pre wr (keysIn_row (HO.out.row eKyC)) (by rw [HKL.out]; omega))
      have HP := Lib.hid hp
      clear hp
      go_wp2_with (first
        | (go_at_call 98
           refine HRI.out.mono ?_
           rintro e w3 ⟨v3, rfl, h1, h2, h3⟩
           have HK3 := Lib.hid (And.intro h1 (And.intro h2 h3))
           clear h1 h2 h3))
      go_ret
      rw [HP.out] at HK3
      refine ⟨v3, rfl, HK3.out.1, bthen HB.out HK3.out.2.1, ?_⟩
      exact own_lower HK3.out.2.2 HB.out.size

/-- The nodes of a cut's entries. -/
def NodesOf (w : World) (l : List En) (nd : En → Nd) (rs rh : Nat) : Prop := ∀ x ∈ l, ∃ fp, NodeIn w x.2 (nd x) rs rh fp
theorem NodesOf.below {w w' : World} {l : List En} {nd : En → Nd} {rs rh : Nat} (h : NodesOf w l nd rs rh) (hb : Below w.heap.size w w') : NodesOf w' l nd rs rh := fun x hx => by
  obtain ⟨fp, h⟩ := h x hx
  exact ⟨fp, h.below hb⟩
theorem findE_mem {l : List En} {k : Ky} {n : Nat} (h : findE l k = some n) : (k, n) ∈ l := by
  unfold findE at h
  obtain ⟨x, hx, rfl⟩ := Option.map_eq_some_iff.1 h
  have h1 := List.mem_of_find?_eq_some hx
  have h2 := List.find?_some hx
  simp at h2
  obtain ⟨a, b⟩ := x
  obtain rfl : a = k := h2
  exact h1
/-- Whether what two cuts found of a key is unlike. -/
def diffO (nd md : En → Nd) (k : Ky) : Option Nat → Option Nat → Bool
  | none, none => false
  | some a, some b => !alikeN (nd (k, a)) (md (k, b))
  | none, some _ => true
  | some _, none => true
/-- Whether two cuts tell unlike things of a key. -/
def diffB (l1 l2 : List En) (nd md : En → Nd) (k : Ky) : Bool := diffO nd md k (findE l1 k) (findE l2 k)

set_option maxRecDepth 100000 in
set_option maxHeartbeats 8000000 in
theorem differ_any (C1 C2 : Nat) (e1 e2 : Int) (l1 l2 : List En) (nd md : En → Nd) (rs rh : Nat) (w : World) (h1 : CutIn w C1 e1 l1) (h2 : CutIn w C2 e2 l2) (r1 : Ris l1) (r2 : Ris l2) (b1 : l1.length ≤ 500) (b2 : l2.length ≤ 500)
    (n1 : NodesOf w l1 nd rs rh) (n2 : NodesOf w l2 md rs rh) (hrs : rs ≤ 256) (hrh : rh ≤ 64) (hsz : ∀ x : En, ((nd x).smp.length ≤ 1000000 ∧ (nd x).past.length ≤ 1000000) ∧ (md x).smp.length ≤ 1000000 ∧ (md x).past.length ≤ 1000000) :
    Calls Tryz.prog 40 #[.pointer (some ⟨C1, 0, none⟩), .pointer (some ⟨C2, 0, none⟩)] w fun e w' => ∃ A c, e = .returned (.slice A ((risL (risL (l1.map (·.1)) ++ risL (l2.map (·.1)))).filter (diffB l1 l2 nd md)).length c) ∧
      OwnL keyC 74 2 w.heap.size w' (.slice A ((risL (risL (l1.map (·.1)) ++ risL (l2.map (·.1)))).filter (diffB l1 l2 nd md)).length c) ((risL (risL (l1.map (·.1)) ++ risL (l2.map (·.1)))).filter (diffB l1 l2 nd md)) ∧ Below w.heap.size w w' := by
  have K1 := Lib.hid (cutKeys_any C1 e1 l1 w h1 (by omega))
  have K2 := Lib.hid (fun W (hW : Below w.heap.size w W) => cutKeys_any C2 e2 l2 W (h2.below hW) (by omega))
  have G1 := Lib.hid (fun k W (hW : Below w.heap.size w W) => cutGet_any C1 e1 l1 k W (h1.below hW) r1 (by omega))
  have G2 := Lib.hid (fun k W (hW : Below w.heap.size w W) => cutGet_any C2 e2 l2 k W (h2.below hW) r2 (by omega))
  have AL := Lib.hid (fun (a b : Nat) (k : Ky) (ha : findE l1 k = some a) (hb : findE l2 k = some b) W (hW : Below w.heap.size w W) => (show Calls Tryz.prog 101 #[.pointer (some ⟨a, 0, none⟩), .pointer (some ⟨b, 0, none⟩)] W fun e w' => e = .returned (.bool (alikeN (nd (k, a)) (md (k, b)))) ∧ Below W.heap.size W w' by
    have ma := findE_mem ha
    have mb := findE_mem hb
    obtain ⟨f1, q1⟩ := n1 _ ma
    obtain ⟨f2, q2⟩ := n2 _ mb
    have s1 := (hsz (k, a)).1
    have s2 := (hsz (k, b)).2
    exact alike_any a b (nd (k, a)) (md (k, b)) rs rh rs rh f1 f2 W (q1.below hW) (q2.below hW) hrs hrh hrs hrh ⟨s1.1, s2.1, s1.2, s2.2⟩))
  have hn1 : (risL (l1.map (·.1))).length ≤ 500 := Nat.le_trans (len_risL _) (by simpa using b1)
  have hn2 : (risL (l2.map (·.1))).length ≤ 500 := Nat.le_trans (len_risL _) (by simpa using b2)
  have HN := Lib.hid (And.intro hn1 hn2)
  clear h1 h2 r1 r2 b1 b2 n1 n2 hrs hrh hsz hn1 hn2
  generalize hk1 : risL (l1.map (·.1)) = ks1 at K1 HN ⊢
  generalize hk2 : risL (l2.map (·.1)) = ks2 at K2 HN ⊢
  clear hk1 hk2
  have hq : (risL (ks1 ++ ks2)).length ≤ 1000 := Nat.le_trans (len_risL _) (by have := HN.out; simp; omega)
  have hq9 : (risL (ks1 ++ ks2)).length ≤ 9223372036854775807 := by omega
  have HQ := Lib.hid hq
  clear hq
  go_enter Tryz.func40, Tryz.ntmps40
  go_wp2_with (first
    | (go_at_call 99
       have h9 := HO1
       refine (K2.out w1 HB1.out).mono ?_
       intro e w2 hr
       obtain ⟨A2, c2, rfl, ho, hb⟩ := hr.own
       have HO2 := Lib.hid ho
       have HO12 := Lib.hid (HO1.out.below hb)
       have HB2 := Lib.hid (bthen HB1.out hb)
       have HS2 := Lib.hid hb.size
       clear hr ho hb h9)
    | (go_at_call 99
       refine K1.out.mono ?_
       intro e w1 hr
       obtain ⟨A1, c1, rfl, ho, hb⟩ := hr.own
       have HO1 := Lib.hid ho
       have HB1 := Lib.hid hb
       clear hr ho hb)
    | (at_builtin
       refine wpList_appendL eKyC (by rfl) (by rfl) w.heap.size ks1 ks2 (.slice A1 ks1.length c1) (.slice A2 ks2.length c2) (by rfl) (by rfl) HO12.out (HO2.out.row eKyC) (by have := HN.out; omega) HB2.out.size ?_
       intro out3 A3 c3 w3 hout hown hg _
       have HW3 := Lib.hid (show OwnL keyC 74 2 w.heap.size w3 (.slice A3 out3.length c3) out3 from hown)
       have HOU3 := Lib.hid hout
       have HB3 := Lib.hid (show Below w.heap.size w w3 from HB2.out.trans (grown_own hg HO12.out HB2.out.size))
       have HRI := Lib.hid (rising_own _ out3 w3 (keysIn_row (HW3.out.row eKyC)) (by rw [hout]; have := HN.out; simp; omega))
       clear hout hown hg)
    | (go_at_call 98
       refine HRI.out.mono ?_
       intro e w4 hr
       rw [HOU3.out] at hr
       obtain ⟨A4, c4, rfl, ho, hb⟩ := hr.own
       have HR4 := Lib.hid (ho.row eKyC)
       have HB4 := Lib.hid (bthen HB3.out hb)
       clear hr ho hb))
  obtain ⟨ks, hKS⟩ : ∃ ks, ks = risL (ks1 ++ ks2) := ⟨_, rfl⟩
  rw [← hKS] at HR4 HQ hq9 ⊢
  have HKS := Lib.hid hKS
  clear hKS
  go_loopg [5, 19] ks.length (fun g s5 s19 wr => ∃ k : Nat, k ≤ ks.length ∧ ks.length - k ≤ g ∧ s19 = .int .i64 k ∧ OwnL keyC 74 2 w4.heap.size wr s5 ((ks.take k).filter (diffB l1 l2 nd md)) ∧ Below w4.heap.size w4 wr)
  case atStart => exact ⟨0, Nat.zero_le _, Nat.le_refl _, rfl, by simp; exact OwnL.nil _ _, Below.refl _ _⟩
  case round =>
    obtain ⟨k, hk, hg, rfl, hown, hb⟩ := hrel
    rename World => wr
    obtain ⟨pre, hpre⟩ : ∃ pre, pre = (ks.take k).filter (diffB l1 l2 nd md) := ⟨_, rfl⟩
    rw [← hpre] at hown
    obtain ⟨A5, c5, rfl⟩ := hown.form
    have HPL := Lib.hid (show pre.length ≤ k by rw [hpre]; exact Nat.le_trans (List.length_filter_le ..) (by simp; omega))
    have HPRE := Lib.hid hpre
    have HO := Lib.hid hown
    have HB := Lib.hid hb
    have HBw := Lib.hid (bthen HB4.out hb)
    clear hpre hown hb
    by_cases hlt : k < ks.length
    · obtain ⟨b1, o1, rfl, hb1, hc⟩ := (HR4.out.below HB.out).at_ hlt
      have z1 : (0 : Int) ≤ (k : Int) := by omega
      have z2 : (k : Int) < (ks.length : Int) := by omega
      have HTK := Lib.hid (show (ks.take (k + 1)).filter (diffB l1 l2 nd md) = pre ++ [ks[k]].filter (diffB l1 l2 nd md) by rw [List.take_succ_eq_append_getElem hlt, List.filter_append, HPRE.out])
      generalize ks[k] = x at hc HTK
      have d0 := hc 0 _ rfl
      have d1 := hc 1 _ rfl
      rw [Nat.add_zero] at d0
      clear hc
      have HK := Lib.hid hlt
      have GX1 := Lib.hid (fun W (hW : Below w.heap.size w W) => G1.out x W hW)
      have GX2 := Lib.hid (fun W (hW : Below w.heap.size w W) => G2.out x W hW)
      have ALX := Lib.hid (fun a b ha hb => AL.out a b x ha hb)
      generalize hf1 : findE l1 x = f1 at GX1 ALX
      generalize hf2 : findE l2 x = f2 at GX2 ALX
      have HD := Lib.hid (show diffB l1 l2 nd md x = diffO nd md x f1 f2 by unfold diffB; rw [hf1, hf2])
      clear hf1 hf2
      cases f1 with
      | none =>
        have hd1 : ptr (none : Option Nat) = .pointer none := rfl
        rw [hd1] at GX1
        cases f2 with
        | none =>
          rw [hd1] at GX2
          simp only [Option.isSome_none] at GX1 GX2
          simp only [diffO] at HD
          clear ALX hd1
          as_aux_lemma =>
            go_wp2_with (first
              | (go_at_call 100
                 have h9 := HB6
                 refine (GX2.out w6 (bthen HBw.out HB6.out)).mono ?_
                 rintro e w7 ⟨rfl, hb7⟩
                 have hx7 := (hb7.block _ (Array.getElem?_eq_some_iff.1 HX6.out).1).trans HX6.out
                 obtain ⟨g1, g2, g3⟩ := box_cells (Below.refl _ _) hx7
                 have HX7 := Lib.hid hx7
                 have HB7 := Lib.hid (bthen HB6.out hb7)
                 clear hb7 hx7 h9)
              | (go_at_call 100
                 refine calls_named ?_
                 intro W5 hW5
                 have hb5 : Below wr.heap.size wr W5 := by rw [hW5]; exact balloc (Below.refl _ _) _
                 have hx1 : W5.heap[wr.heap.size]? = some (.cells #[.int .u64 x.1, .int .u64 x.2] 74 (0, 0)) := by rw [hW5]; exact heap_alloc_new _ _
                 clear hW5
                 refine (GX1.out W5 (bthen HBw.out hb5)).mono ?_
                 rintro e w6 ⟨rfl, hb6⟩
                 have hx6 := (hb6.block _ (Array.getElem?_eq_some_iff.1 hx1).1).trans hx1
                 obtain ⟨a1, a2, a3⟩ := box_cells (Below.refl _ _) hx6
                 have HX6 := Lib.hid hx6
                 have HB6 := Lib.hid (bthen hb5 hb6)
                 clear hb5 hx1 hb6 hx6))
            go_roundg (ks.length - (k + 1))
            case measure => omega
            case rel => exact ⟨k + 1, HK.out, Nat.le_refl _, by go_num, by rw [HTK.out, show [x].filter (diffB l1 l2 nd md) = [] by simp [HD.out], List.append_nil]; exact HO.out.below HB7.out, bthen HB.out HB7.out⟩
        | some b =>
          have hd2 : ptr (some b) = .pointer (some ⟨b, 0, none⟩) := rfl
          rw [hd2] at GX2
          simp only [Option.isSome_none, Option.isSome_some] at GX1 GX2
          simp only [diffO] at HD
          clear ALX hd1 hd2
          as_aux_lemma =>
            go_wp2_with (first
              | (go_at_call 100
                 have h9 := HB6
                 refine (GX2.out w6 (bthen HBw.out HB6.out)).mono ?_
                 rintro e w7 ⟨rfl, hb7⟩
                 have hx7 := (hb7.block _ (Array.getElem?_eq_some_iff.1 HX6.out).1).trans HX6.out
                 obtain ⟨g1, g2, g3⟩ := box_cells (Below.refl _ _) hx7
                 have HX7 := Lib.hid hx7
                 have HB7 := Lib.hid (bthen HB6.out hb7)
                 clear hb7 hx7 h9)
              | (go_at_call 100
                 refine calls_named ?_
                 intro W5 hW5
                 have hb5 : Below wr.heap.size wr W5 := by rw [hW5]; exact balloc (Below.refl _ _) _
                 have hx1 : W5.heap[wr.heap.size]? = some (.cells #[.int .u64 x.1, .int .u64 x.2] 74 (0, 0)) := by rw [hW5]; exact heap_alloc_new _ _
                 clear hW5
                 refine (GX1.out W5 (bthen HBw.out hb5)).mono ?_
                 rintro e w6 ⟨rfl, hb6⟩
                 have hx6 := (hb6.block _ (Array.getElem?_eq_some_iff.1 hx1).1).trans hx1
                 obtain ⟨a1, a2, a3⟩ := box_cells (Below.refl _ _) hx6
                 have HX6 := Lib.hid hx6
                 have HB6 := Lib.hid (bthen hb5 hb6)
                 clear hb5 hx1 hb6 hx6)
              | (at_builtin
                 refine wpList_appendL eKyC (by rfl) (by rfl) w4.heap.size pre [x] (.slice A5 pre.length c5) _ (by rfl) (by rfl) ((HO.out.below HB7.out).below (balloc (Below.refl _ _) _)) (RowIn.lit _ x _ _ w7.heap.size rfl rfl) (by have := HPL.out; have := HQ.out; have := HK.out; simp; omega) (by have := HB.out.size; have := HB7.out.size; simp; omega) ?_
                 intro out2 A9 c9 w9 hout2 hown2 hg2 _
                 have HO9 := Lib.hid hout2
                 have HW9 := Lib.hid hown2
                 have HB9 := Lib.hid (show Below w4.heap.size w4 w9 from (bthen HB.out (bthen HB7.out (balloc (Below.refl _ _) _))).trans (grown_own hg2 HO.out (by have := HB.out.size; have := HB7.out.size; simp; omega)))
                 clear hout2 hown2 hg2))
            go_roundg (ks.length - (k + 1))
            case measure => omega
            case rel => exact ⟨k + 1, HK.out, Nat.le_refl _, by go_num, by rw [HTK.out, show [x].filter (diffB l1 l2 nd md) = [x] by simp [HD.out], ← HO9.out]; exact HW9.out, HB9.out⟩
      | some a =>
        have hd2 : ptr (some a) = .pointer (some ⟨a, 0, none⟩) := rfl
        rw [hd2] at GX1
        cases f2 with
        | none =>
          have hd1 : ptr (none : Option Nat) = .pointer none := rfl
          rw [hd1] at GX2
          simp only [Option.isSome_none, Option.isSome_some] at GX1 GX2
          simp only [diffO] at HD
          clear ALX hd1 hd2
          as_aux_lemma =>
            go_wp2_with (first
              | (go_at_call 100
                 have h9 := HB6
                 refine (GX2.out w6 (bthen HBw.out HB6.out)).mono ?_
                 rintro e w7 ⟨rfl, hb7⟩
                 have hx7 := (hb7.block _ (Array.getElem?_eq_some_iff.1 HX6.out).1).trans HX6.out
                 obtain ⟨g1, g2, g3⟩ := box_cells (Below.refl _ _) hx7
                 have HX7 := Lib.hid hx7
                 have HB7 := Lib.hid (bthen HB6.out hb7)
                 clear hb7 hx7 h9)
              | (go_at_call 100
                 refine calls_named ?_
                 intro W5 hW5
                 have hb5 : Below wr.heap.size wr W5 := by rw [hW5]; exact balloc (Below.refl _ _) _
                 have hx1 : W5.heap[wr.heap.size]? = some (.cells #[.int .u64 x.1, .int .u64 x.2] 74 (0, 0)) := by rw [hW5]; exact heap_alloc_new _ _
                 clear hW5
                 refine (GX1.out W5 (bthen HBw.out hb5)).mono ?_
                 rintro e w6 ⟨rfl, hb6⟩
                 have hx6 := (hb6.block _ (Array.getElem?_eq_some_iff.1 hx1).1).trans hx1
                 obtain ⟨a1, a2, a3⟩ := box_cells (Below.refl _ _) hx6
                 have HX6 := Lib.hid hx6
                 have HB6 := Lib.hid (bthen hb5 hb6)
                 clear hb5 hx1 hb6 hx6)
              | (at_builtin
                 refine wpList_appendL eKyC (by rfl) (by rfl) w4.heap.size pre [x] (.slice A5 pre.length c5) _ (by rfl) (by rfl) ((HO.out.below HB7.out).below (balloc (Below.refl _ _) _)) (RowIn.lit _ x _ _ w7.heap.size rfl rfl) (by have := HPL.out; have := HQ.out; have := HK.out; simp; omega) (by have := HB.out.size; have := HB7.out.size; simp; omega) ?_
                 intro out2 A9 c9 w9 hout2 hown2 hg2 _
                 have HO9 := Lib.hid hout2
                 have HW9 := Lib.hid hown2
                 have HB9 := Lib.hid (show Below w4.heap.size w4 w9 from (bthen HB.out (bthen HB7.out (balloc (Below.refl _ _) _))).trans (grown_own hg2 HO.out (by have := HB.out.size; have := HB7.out.size; simp; omega)))
                 clear hout2 hown2 hg2))
            go_roundg (ks.length - (k + 1))
            case measure => omega
            case rel => exact ⟨k + 1, HK.out, Nat.le_refl _, by go_num, by rw [HTK.out, show [x].filter (diffB l1 l2 nd md) = [x] by simp [HD.out], ← HO9.out]; exact HW9.out, HB9.out⟩
        | some b =>
          have hd3 : ptr (some b) = .pointer (some ⟨b, 0, none⟩) := rfl
          rw [hd3] at GX2
          simp only [Option.isSome_some] at GX1 GX2
          simp only [diffO] at HD
          clear hd2 hd3
          cases hab : alikeN (nd (x, a)) (md (x, b)) with
          | true =>
            rw [hab] at HD
            have HAB := Lib.hid hab
            clear hab
            as_aux_lemma =>
              go_wp2_with (first
                | (go_at_call 100
                   have h9 := HB6
                   refine (GX2.out w6 (bthen HBw.out HB6.out)).mono ?_
                   rintro e w7 ⟨rfl, hb7⟩
                   have hx7 := (hb7.block _ (Array.getElem?_eq_some_iff.1 HX6.out).1).trans HX6.out
                   obtain ⟨g1, g2, g3⟩ := box_cells (Below.refl _ _) hx7
                   have HX7 := Lib.hid hx7
                   have HB7 := Lib.hid (bthen HB6.out hb7)
                   clear hb7 hx7 h9)
                | (go_at_call 100
                   refine calls_named ?_
                   intro W5 hW5
                   have hb5 : Below wr.heap.size wr W5 := by rw [hW5]; exact balloc (Below.refl _ _) _
                   have hx1 : W5.heap[wr.heap.size]? = some (.cells #[.int .u64 x.1, .int .u64 x.2] 74 (0, 0)) := by rw [hW5]; exact heap_alloc_new _ _
                   clear hW5
                   refine (GX1.out W5 (bthen HBw.out hb5)).mono ?_
                   rintro e w6 ⟨rfl, hb6⟩
                   have hx6 := (hb6.block _ (Array.getElem?_eq_some_iff.1 hx1).1).trans hx1
                   obtain ⟨a1, a2, a3⟩ := box_cells (Below.refl _ _) hx6
                   have HX6 := Lib.hid hx6
                   have HB6 := Lib.hid (bthen hb5 hb6)
                   clear hb5 hx1 hb6 hx6)
                | (go_at_call 101
                   refine (ALX.out a b rfl rfl w7 (bthen HBw.out HB7.out)).mono ?_
                   rw [HAB.out]
                   rintro e w8 ⟨rfl, hb8⟩
                   have hx8 := (hb8.block _ (Array.getElem?_eq_some_iff.1 HX7.out).1).trans HX7.out
                   obtain ⟨q1, q2, q3⟩ := box_cells (Below.refl _ _) hx8
                   have HB8 := Lib.hid (bthen HB7.out hb8)
                   clear hb8 hx8))
              go_roundg (ks.length - (k + 1))
              case measure => omega
              case rel => exact ⟨k + 1, HK.out, Nat.le_refl _, by go_num, by rw [HTK.out, show [x].filter (diffB l1 l2 nd md) = [] by simp [HD.out], List.append_nil]; exact HO.out.below HB8.out, bthen HB.out HB8.out⟩
          | false =>
            rw [hab] at HD
            have HAB := Lib.hid hab
            clear hab
            as_aux_lemma =>
              go_wp2_with (first
                | (go_at_call 100
                   have h9 := HB6
                   refine (GX2.out w6 (bthen HBw.out HB6.out)).mono ?_
                   rintro e w7 ⟨rfl, hb7⟩
                   have hx7 := (hb7.block _ (Array.getElem?_eq_some_iff.1 HX6.out).1).trans HX6.out
                   obtain ⟨g1, g2, g3⟩ := box_cells (Below.refl _ _) hx7
                   have HX7 := Lib.hid hx7
                   have HB7 := Lib.hid (bthen HB6.out hb7)
                   clear hb7 hx7 h9)
                | (go_at_call 100
                   refine calls_named ?_
                   intro W5 hW5
                   have hb5 : Below wr.heap.size wr W5 := by rw [hW5]; exact balloc (Below.refl _ _) _
                   have hx1 : W5.heap[wr.heap.size]? = some (.cells #[.int .u64 x.1, .int .u64 x.2] 74 (0, 0)) := by rw [hW5]; exact heap_alloc_new _ _
                   clear hW5
                   refine (GX1.out W5 (bthen HBw.out hb5)).mono ?_
                   rintro e w6 ⟨rfl, hb6⟩
                   have hx6 := (hb6.block _ (Array.getElem?_eq_some_iff.1 hx1).1).trans hx1
                   obtain ⟨a1, a2, a3⟩ := box_cells (Below.refl _ _) hx6
                   have HX6 := Lib.hid hx6
                   have HB6 := Lib.hid (bthen hb5 hb6)
                   clear hb5 hx1 hb6 hx6)
                | (go_at_call 101
                   refine (ALX.out a b rfl rfl w7 (bthen HBw.out HB7.out)).mono ?_
                   rw [HAB.out]
                   rintro e w8 ⟨rfl, hb8⟩
                   have hx8 := (hb8.block _ (Array.getElem?_eq_some_iff.1 HX7.out).1).trans HX7.out
                   obtain ⟨q1, q2, q3⟩ := box_cells (Below.refl _ _) hx8
                   have HB8 := Lib.hid (bthen HB7.out hb8)
                   clear hb8 hx8)
                | (at_builtin
                   refine wpList_appendL eKyC (by rfl) (by rfl) w4.heap.size pre [x] (.slice A5 pre.length c5) _ (by rfl) (by rfl) ((HO.out.below HB8.out).below (balloc (Below.refl _ _) _)) (RowIn.lit _ x _ _ w8.heap.size rfl rfl) (by have := HPL.out; have := HQ.out; have := HK.out; simp; omega) (by have := HB.out.size; have := HB8.out.size; simp; omega) ?_
                   intro out2 A9 c9 w9 hout2 hown2 hg2 _
                   have HO9 := Lib.hid hout2
                   have HW9 := Lib.hid hown2
                   have HB9 := Lib.hid (show Below w4.heap.size w4 w9 from (bthen HB.out (bthen HB8.out (balloc (Below.refl _ _) _))).trans (grown_own hg2 HO.out (by have := HB.out.size; have := HB8.out.size; simp; omega)))
                   clear hout2 hown2 hg2))
              go_roundg (ks.length - (k + 1))
              case measure => omega
              case rel => exact ⟨k + 1, HK.out, Nat.le_refl _, by go_num, by rw [HTK.out, show [x].filter (diffB l1 l2 nd md) = [x] by simp [HD.out], ← HO9.out]; exact HW9.out, HB9.out⟩
    · obtain rfl : k = ks.length := by omega
      have hp := HPRE.out
      rw [List.take_length] at hp
      have HP := Lib.hid hp
      have HW := Lib.hid (show OwnL keyC 74 2 w.heap.size wr (.slice A5 pre.length c5) pre from HO.out.lower HB4.out.size)
      clear hp
      go_wp2_with fail
      go_ret
      rw [← HKS.out, ← HP.out]
      exact ⟨A5, c5, rfl, HW.out, HBw.out⟩
end

end Go.Proofs.YtmniiodpbebnmaaGreat
