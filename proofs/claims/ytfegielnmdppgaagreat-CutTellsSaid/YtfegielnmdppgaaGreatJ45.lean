/- A cut's Stat and Total; A cut's Total; A stripe behind acts: all its samples are in range; What a nil cut answers; The walk of CutDiffers. -/
import Derived.Test.YtfegielnmdppgaaGreatJ39
import Derived.Test.YtfegielnmdppgaaGreatJ44
import Derived.Test.YtfegielnmdppgaaGreatJ32
import Derived.Test.YtfegielnmdppgaaGreatJ40
namespace Go.Proofs.YtfegielnmdppgaaGreat

section
set_option linter.unusedSimpArgs false
set_option linter.unusedVariables false
open Go.RowKit Go.Lib Go.Sort

/-- What a cut tells of a key. -/
def cutSt (l : List En) (nd : En → Nd) (til wd : Int) (k : Ky) : StD := match findE l k with | none => st0 | some n => statW (nd (k, n)).smp til wd
def SmpOk (l : List En) (nd : En → Nd) : Prop := ∀ x ∈ l, smpI (nd x).smp
theorem stat_ok {l : List Smp} (h : smpI l) (hl : l.length ≤ 1000000) (til wd : Int) : (statW l til wd).ok := by
  unfold statW
  exact statN_ok (vals_i64 (h.cut _ _)) (by rw [vals_len]; exact Nat.le_trans (cut_len _ _ _) hl)

set_option maxRecDepth 100000 in
set_option maxHeartbeats 4000000 in
theorem cutStat_any (C : Nat) (ep : Int) (l : List En) (nd : En → Nd) (rs rh : Nat) (k : Ky) (til wd : Int) (w : World) (h : CutIn w C ep l) (hr : Ris l) (hl : l.length ≤ 1000) (hn : NodesOf w l nd rs rh) (hs : SmpOk l nd) (hrs : rs ≤ 256) (ht : I64 til) (hw : I64 wd) :
    Calls Tryz.prog 20 #[.pointer (some ⟨C, 0, none⟩), .agg #[.int .u64 k.1, .int .u64 k.2], .int .i64 til, .int .i64 wd] w fun e w' => e = .returned (.tuple #[stV (cutSt l nd til wd k), .bool (findE l k).isSome]) ∧ Below w.heap.size w w' := by
  have CG := Lib.hid (fun W (hW : Below w.heap.size w W) => cutGet_any C ep l k W (h.below hW) hr hl)
  unfold cutSt
  cases hf : findE l k with
  | none =>
    have e0 : ptr (none : Option Nat) = .pointer none := rfl
    rw [hf, e0] at CG
    simp only [Option.isSome_none] at CG ⊢
    clear h hr hl hn hs hf e0
    go_enter Tryz.func20, Tryz.ntmps20
    go_wp2_with (first
      | (go_at_call 19
         refine calls_named ?_
         intro W1 hW1
         have hb1 : Below w.heap.size w W1 := by rw [hW1]; exact balloc (balloc (Below.refl _ _) _) _
         have hx1 : W1.heap[w.heap.size + 1]? = some (.cells #[.int .i64 0, .int .i64 0, .int .i64 0, .int .i64 0, .int .i64 0] 60 (0, 0)) := by rw [hW1]; exact box_new _ _ _
         clear hW1
         refine (CG.out W1 hb1).mono ?_
         rintro e w2 ⟨rfl, hb2⟩
         have HX2 := Lib.hid (box_below (w := w) hx1 hb2)
         obtain ⟨e1, e2, e3⟩ := box_cells (Below.refl _ _) HX2.out
         have HB2 := Lib.hid (bthen hb1 hb2)
         clear hb1 hx1 hb2))
    have hz2 := setCell_block (i := 4) (v := .int .i64 0) (setCell_block (i := 3) (v := .int .i64 0) (setCell_block (i := 2) (v := .int .i64 0) (setCell_block (i := 1) (v := .int .i64 0) (setCell_block (i := 0) (v := .int .i64 0) HX2.out))))
    obtain ⟨f1, f2, f3⟩ := box_cells (Below.refl _ _) hz2
    refine bodyPost_ret (v := .tuple #[.agg #[.int .i64 0, .int .i64 0, .int .i64 0, .int .i64 0, .int .i64 0], .bool false]) (by simp [results, Tryz.results20, go_sem, f1]) rfl ⟨rfl, ?_⟩
    exact ((((HB2.out.setCell (by simp) _).setCell (by simp) _).setCell (by simp) _).setCell (by simp) _).setCell (by simp) _
  | some n =>
    have e0 : ptr (some n) = .pointer (some ⟨n, 0, none⟩) := rfl
    rw [hf, e0] at CG
    simp only [Option.isSome_some] at CG ⊢
    have hm := findE_mem hf
    obtain ⟨fp, hnd⟩ := hn _ hm
    have hsm := hs _ hm
    have CSm := Lib.hid (fun W (hW : Below w.heap.size w W) => nodeSamples_any n (nd (k, n)) rs rh fp W (hnd.below hW) hrs)
    have hlen : (nd (k, n)).smp.length ≤ 1000000 := by have := hnd.ok.len; omega
    generalize (nd (k, n)).smp = sm at hsm CSm hlen ⊢
    have CAt := Lib.hid (fun v W (hv : RowIn 2 smpC W v sm) => winAt_any v sm til wd W hv hlen hsm ht hw)
    generalize statW sm til wd = s at CAt ⊢
    obtain ⟨s0, s1, s2, s3, s4⟩ := s
    unfold stV at CAt ⊢
    simp only at CAt ⊢
    clear h hr hl hn hs hf e0 hm hnd hsm hlen
    go_enter Tryz.func20, Tryz.ntmps20
    go_wp2_with (first
      | (go_at_call 19
         refine calls_named ?_
         intro W1 hW1
         have hb1 : Below w.heap.size w W1 := by rw [hW1]; exact balloc (balloc (Below.refl _ _) _) _
         have hx1 : W1.heap[w.heap.size + 1]? = some (.cells #[.int .i64 0, .int .i64 0, .int .i64 0, .int .i64 0, .int .i64 0] 60 (0, 0)) := by rw [hW1]; exact box_new _ _ _
         clear hW1
         refine (CG.out W1 hb1).mono ?_
         rintro e w2 ⟨rfl, hb2⟩
         have HX2 := Lib.hid (box_below (w := w) hx1 hb2)
         have HB2 := Lib.hid (bthen hb1 hb2)
         clear hb1 hx1 hb2)
      | (go_at_call 71
         refine (CSm.out w2 HB2.out).mono ?_
         rintro e w3 ⟨A, c, f, rfl, hr, _, hb3⟩
         have HR3 := Lib.hid (hr.row eSmp)
         have HX3 := Lib.hid (box_below (w := w) HX2.out hb3)
         have HB3 := Lib.hid (bthen HB2.out hb3)
         clear hr hb3)
      | (go_at_call 70
         refine (CAt.out _ w3 HR3.out).mono ?_
         rintro e w4 ⟨rfl, hb4⟩
         have HX4 := Lib.hid (box_below (w := w) HX3.out hb4)
         obtain ⟨e1, e2, e3⟩ := box_cells (Below.refl _ _) HX4.out
         have HB4 := Lib.hid (bthen HB3.out hb4)
         clear hb4))
    have hz2 := setCell_block (i := 4) (v := .int .i64 s4) (setCell_block (i := 3) (v := .int .i64 s3) (setCell_block (i := 2) (v := .int .i64 s2) (setCell_block (i := 1) (v := .int .i64 s1) (setCell_block (i := 0) (v := .int .i64 s0) HX4.out))))
    obtain ⟨f1, f2, f3⟩ := box_cells (Below.refl _ _) hz2
    refine bodyPost_ret (v := .tuple #[.agg #[.int .i64 s0, .int .i64 s1, .int .i64 s2, .int .i64 s3, .int .i64 s4], .bool true]) (by simp [results, Tryz.results20, go_sem, f1]) rfl ⟨rfl, ?_⟩
    exact ((((HB4.out.setCell (by simp) _).setCell (by simp) _).setCell (by simp) _).setCell (by simp) _).setCell (by simp) _
end

section
set_option linter.unusedSimpArgs false
set_option linter.unusedVariables false
open Go.RowKit Go.Lib Go.Sort

def totSt (f : Ky → StD) (ks : List Ky) : StD := ks.foldl (fun s k => mergeW s (f k)) st0
theorem totSt_snoc (f : Ky → StD) (ks : List Ky) (k : Ky) : totSt f (ks ++ [k]) = mergeW (totSt f ks) (f k) := by simp [totSt, List.foldl_append]
theorem totSt_ok {f : Ky → StD} (h : ∀ k, (f k).ok) (ks : List Ky) : (totSt f ks).ok := by
  unfold totSt
  have : ∀ (ks : List Ky) (s : StD), s.ok → (ks.foldl (fun s k => mergeW s (f k)) s).ok := by
    intro ks
    induction ks with
    | nil => exact fun s hs => hs
    | cons k l ih => exact fun s hs => ih _ (mergeW_ok hs (h k))
  exact this ks st0 st0_ok
theorem cutSt_ok {l : List En} {nd : En → Nd} {rs rh : Nat} {w : World} (hn : NodesOf w l nd rs rh) (hs : SmpOk l nd) (hrs : rs ≤ 256) (til wd : Int) (k : Ky) : (cutSt l nd til wd k).ok := by
  unfold cutSt
  cases hf : findE l k with
  | none => exact st0_ok
  | some n =>
    have hm := findE_mem hf
    obtain ⟨fp, hnd⟩ := hn _ hm
    exact stat_ok (hs _ hm) (by have := hnd.ok.len; omega) _ _

theorem own_setN {α : Type} {f : α → List Value} {e n base B i : Nat} {X : World} {v u : Value} {l : List α} (h : OwnL f e n base X v l) (hB : B < base) : OwnL f e n base (X.setCell ⟨B, i, none⟩ u) v l :=
  h.kept (fun r hr => Below.heap_setCell _ _ _ _ (by have := (h.lt hr).1; show r ≠ B; omega))

set_option maxRecDepth 100000 in
set_option maxHeartbeats 4000000 in
theorem cutTotal_any (C : Nat) (ep : Int) (l : List En) (nd : En → Nd) (rs rh : Nat) (til wd : Int) (w : World) (h : CutIn w C ep l) (hr : Ris l) (hl : l.length ≤ 1000) (hn : NodesOf w l nd rs rh) (hs : SmpOk l nd) (hrs : rs ≤ 256) (ht : I64 til) (hw : I64 wd) :
    Calls Tryz.prog 25 #[.pointer (some ⟨C, 0, none⟩), .int .i64 til, .int .i64 wd] w fun e w' => e = .returned (stV (totSt (cutSt l nd til wd) (risL (l.map (·.1))))) ∧ Below w.heap.size w w' := by
  have CS := Lib.hid (fun (k : Ky) W (hW : Below w.heap.size w W) => cutStat_any C ep l nd rs rh k til wd W (h.below hW) hr hl (hn.below hW) hs hrs ht hw)
  have CK := Lib.hid (fun W (hW : Below w.heap.size w W) => cutKeys_any C ep l W (h.below hW) hl)
  have HCO := Lib.hid (cutSt_ok hn hs hrs til wd)
  have hkl : (risL (l.map (·.1))).length ≤ 1000 := Nat.le_trans (len_risL _) (by simpa using hl)
  generalize risL (l.map (·.1)) = ks at CK hkl ⊢
  generalize cutSt l nd til wd = f at CS HCO ⊢
  have HTO := Lib.hid (totSt_ok HCO.out)
  have HKL := Lib.hid hkl
  have hkl9 : ks.length ≤ 9223372036854775807 := by omega
  clear h hr hl hn hs hrs ht hw hkl
  go_enter Tryz.func25, Tryz.ntmps25
  go_wp2_with (first
    | (go_at_call 24
       refine calls_named ?_
       intro W1 hW1
       have hb1 : Below w.heap.size w W1 := by rw [hW1]; exact balloc (balloc (Below.refl _ _) _) _
       have hx1 : W1.heap[w.heap.size]? = some (.cells #[.int .i64 0, .int .i64 0, .int .i64 0, .int .i64 0, .int .i64 0] 60 (0, 0)) := by rw [hW1]; exact box_old _ _ _
       have hx2 : W1.heap[w.heap.size + 1]? = some (.cells #[.int .i64 0, .int .i64 0, .int .i64 0, .int .i64 0, .int .i64 0] 60 (0, 0)) := by rw [hW1]; exact box_new _ _ _
       have hsz : w.heap.size + 2 ≤ W1.heap.size := by rw [hW1]; simp
       clear hW1
       refine (CK.out W1 hb1).mono ?_
       intro e w2 hr
       obtain ⟨A2, c2, rfl, ho, hb2⟩ := hr.own
       have HX1 := Lib.hid (box_below (w := w) hx1 hb2)
       have HX2 := Lib.hid (box_below (w := w) hx2 hb2)
       have HB2 := Lib.hid (bthen hb1 hb2)
       have HR2 := Lib.hid (show OwnL keyC 40 2 (w.heap.size + 2) w2 (.slice A2 ks.length c2) ks from ho.lower hsz)
       clear hb1 hx1 hx2 hb2 hr ho))
  go_loopg [15] ks.length (fun g s15 wr => ∃ (k : Nat) (s : StD), k ≤ ks.length ∧ ks.length - k ≤ g ∧ s15 = .int .i64 k ∧ Hid (s = totSt f (ks.take k)) ∧ Below w.heap.size w wr ∧ OwnL keyC 40 2 (w.heap.size + 2) wr (.slice A2 ks.length c2) ks ∧ wr.heap[w.heap.size]? = some (.cells #[.int .i64 0, .int .i64 0, .int .i64 0, .int .i64 0, .int .i64 0] 60 (0, 0)) ∧ wr.heap[w.heap.size + 1]? = some (.cells #[.int .i64 s.cnt, .int .i64 s.sum, .int .i64 s.least, .int .i64 s.most, .int .i64 s.mean] 60 (0, 0)))
  case atStart => exact ⟨0, st0, Nat.zero_le _, Nat.le_refl _, rfl, Lib.hid rfl, HB2.out, HR2.out, HX1.out, HX2.out⟩
  case round =>
    obtain ⟨k, s, hk, hg, rfl, HSE, hb, hrow, hz, hq⟩ := hrel
    rename World => wr
    obtain ⟨s0, s1, s2, s3, s4⟩ := s
    simp only at hq
    have HB := Lib.hid hb
    have HR := Lib.hid hrow
    have HZ := Lib.hid hz
    have HQ := Lib.hid hq
    obtain ⟨a1, a2, a3⟩ := box_cells (Below.refl _ _) hz
    obtain ⟨c1, c3, c4⟩ := box_cells (Below.refl _ _) hq
    clear hb hrow hz hq
    by_cases hlt : k < ks.length
    · obtain ⟨b1, o1, rfl, hb1, hc⟩ := (HR.out.row eKyC).at_ hlt
      have z1 : (0 : Int) ≤ (k : Int) := by omega
      have z2 : (k : Int) < (ks.length : Int) := by omega
      have HTK := Lib.hid (show totSt f (ks.take (k + 1)) = mergeW ⟨s0, s1, s2, s3, s4⟩ (f ks[k]) by rw [List.take_succ_eq_append_getElem hlt, totSt_snoc, ← HSE.out])
      have HOK := Lib.hid (show StD.ok ⟨s0, s1, s2, s3, s4⟩ by rw [HSE.out]; exact HTO.out _)
      generalize ks[k] = x at hc HTK
      have d0 := hc 0 _ rfl
      have d1 := hc 1 _ rfl
      rw [Nat.add_zero] at d0
      have HK := Lib.hid hlt
      have CX := Lib.hid (fun W => CS.out x W)
      have HFO := Lib.hid (HCO.out x)
      generalize f x = y at CX HFO HTK
      obtain ⟨y0, y1, y2, y3, y4⟩ := y
      have CM := Lib.hid (fun W => winMerge_any ⟨s0, s1, s2, s3, s4⟩ ⟨y0, y1, y2, y3, y4⟩ W HOK.out HFO.out)
      generalize mergeW ⟨s0, s1, s2, s3, s4⟩ ⟨y0, y1, y2, y3, y4⟩ = m at CM HTK
      obtain ⟨m0, m1, m2, m3, m4⟩ := m
      unfold stV at CX CM
      simp only at CX CM
      clear hc
      go_wp2_with (first
        | (go_at_call 20
           refine calls_named ?_
           intro W3 hW3
           have hb3 : Below wr.heap.size wr W3 := by rw [hW3]; exact balloc (Below.refl _ _) _
           clear hW3
           refine (CX.out W3 (bthen HB.out hb3)).mono ?_
           rintro e w4 ⟨rfl, hb4⟩
           have HZ4 := Lib.hid (box_below (w := w) HZ.out (bthen hb3 hb4))
           have HQ4 := Lib.hid (box_below (w := w) HQ.out (bthen hb3 hb4))
           have HR4 := Lib.hid (HR.out.below (bthen hb3 hb4))
           have HB4 := Lib.hid (bthen HB.out (bthen hb3 hb4))
           obtain ⟨g1, g2, g3⟩ := box_cells (Below.refl _ _) HQ4.out
           clear hb3 hb4)
        | (go_at_call 59
           refine calls_named ?_
           intro W5 hW5
           have hb5 : Below w4.heap.size w4 W5 := by rw [hW5]; exact balloc (Below.refl _ _) _
           clear hW5
           refine (CM.out W5).mono ?_
           rintro e w6 ⟨rfl, hb6⟩
           have HZ6 := Lib.hid (box_below (w := w) HZ4.out (bthen hb5 hb6))
           have HQ6 := Lib.hid (box_below (w := w) HQ4.out (bthen hb5 hb6))
           have HR6 := Lib.hid (HR4.out.below (bthen hb5 hb6))
           have HB6 := Lib.hid (bthen HB4.out (bthen hb5 hb6))
           obtain ⟨k1, k2, k3⟩ := box_cells (Below.refl _ _) HQ6.out
           clear hb5 hb6))
      go_roundg (ks.length - (k + 1))
      case measure => omega
      case rel => exact ⟨k + 1, ⟨m0, m1, m2, m3, m4⟩, HK.out, Nat.le_refl _, by go_num, Lib.hid HTK.out.symm, (((((HB6.out.setCell (by simp) _).setCell (by simp) _).setCell (by simp) _).setCell (by simp) _).setCell (by simp) _), own_setN (own_setN (own_setN (own_setN (own_setN HR6.out (by omega)) (by omega)) (by omega)) (by omega)) (by omega), heap_set_ne (heap_set_ne (heap_set_ne (heap_set_ne (heap_set_ne HZ6.out (by omega)) (by omega)) (by omega)) (by omega)) (by omega), setCell_block (setCell_block (setCell_block (setCell_block (setCell_block HQ6.out))))⟩
    · obtain rfl : k = ks.length := by omega
      have hse := HSE.out
      rw [List.take_length] at hse
      have HSE2 := Lib.hid hse
      clear hse
      go_wp2_with fail
      have hz2 := setCell_block (i := 4) (v := .int .i64 s4) (setCell_block (i := 3) (v := .int .i64 s3) (setCell_block (i := 2) (v := .int .i64 s2) (setCell_block (i := 1) (v := .int .i64 s1) (setCell_block (i := 0) (v := .int .i64 s0) HZ.out))))
      obtain ⟨f1, f2, f3⟩ := box_cells (Below.refl _ _) hz2
      refine bodyPost_ret (v := .agg #[.int .i64 s0, .int .i64 s1, .int .i64 s2, .int .i64 s3, .int .i64 s4]) (by simp [results, Tryz.results25, go_sem, f1]) rfl ⟨by rw [← HSE2.out]; rfl, ((((HB.out.setCell (Nat.le_refl _) _).setCell (Nat.le_refl _) _).setCell (Nat.le_refl _) _).setCell (Nat.le_refl _) _).setCell (Nat.le_refl _) _⟩
end

section
set_option linter.unusedSimpArgs false
set_option linter.unusedVariables false
open Go.RowKit Go.Lib Go.Sort

def AllI (S : List (KO × Nd)) : Prop := ∀ p ∈ S, smpI p.2.smp
theorem putS_sub {l : List Smp} {room : Int} {x y : Smp} (h : y ∈ putS l room x) : y = x ∨ y ∈ l := by
  unfold putS at h
  split at h
  · rcases List.mem_or_eq_of_mem_set h with h | h
    · exact Or.inr h
    · exact Or.inl h
  · have h1 : y ∈ insS l x := by
      unfold cutS at h
      split at h
      · exact List.mem_of_mem_drop h
      · exact h
    unfold insS at h1
    rw [List.mem_append, List.mem_cons] at h1
    rcases h1 with h1 | h1 | h1
    · exact Or.inr (List.mem_of_mem_take h1)
    · exact Or.inl h1
    · exact Or.inr (List.mem_of_mem_drop h1)
theorem trimN_sub {cut : Int} {x : Nd} {y : Smp} (h : y ∈ (trimN cut x).smp) : y ∈ x.smp := by
  unfold trimN at h
  split at h
  · exact h
  · exact List.mem_of_mem_drop h
theorem ndOf_all {S : List (KO × Nd)} (h : AllI S) (k : KO) : smpI (ndOf S k).smp := by
  unfold ndOf
  cases hf : findM S k with
  | none => intro s hs; simp [nd0] at hs
  | some x => exact h _ (find_mem hf)
theorem putM_all {S : List (KO × Nd)} (h : AllI S) {k : KO} {x : Nd} (hx : smpI x.smp) : AllI (putM S k x) := fun p hp => by
  rcases mem_putM hp with rfl | ⟨h1, _⟩
  · exact hx
  · exact h p h1
theorem doS_all {c : Cfg} {rs rh ver : Nat} {S : List (KO × Nd)} {k : KO} {a : Act17} (h : AllI S) (ha : I64 a.smp.1 ∧ I64 a.smp.2) : AllI (doS c rs rh ver S k a).has := by
  unfold doS
  split
  · split
    · split
      · exact h
      · refine putM_all h (fun s hs => ?_)
        rcases putS_sub hs with rfl | hs
        · exact ha
        · exact ndOf_all h k s hs
    · exact h
  · split
    · intro p hp
      simp only [trimK] at hp
      obtain ⟨q, hq, rfl⟩ := List.mem_map.1 hp
      simp only
      split
      · intro s hs
        exact h q hq s (trimN_sub hs)
      · exact h q hq
    · split
      · split
        · split
          · exact h
          · exact putM_all h (ndOf_all h k)
        · exact h
      · split
        · split
          · exact putM_all h (ndOf_all h k)
          · exact h
        · intro p hp
          obtain ⟨q, hq, rfl⟩ := List.mem_map.1 hp
          simp only
          split
          · exact h q hq
          · exact h q hq
theorem play_cdoR {w0 W : World} {T M : Nat} {c : Cfg} {rs rh n ver : Nat} {es : List (KO × NE)} {v : Value} {l : List It} (h : Play w0 W T M c rs rh n ver es v l) (hc : CfgOk c rs rh) (hn : n ≤ 100) (k : KO) (a : Act17) :
    ∃ R : DoR, R = doS c rs rh ver (ab es) k a ∧ Calls Tryz.prog 17 #[.pointer (some ⟨T, 0, none⟩), .agg (act18C k.1 a).toArray] W fun e w1 => ∃ es2, e = .returned (.tuple #[]) ∧ Half w0 w1 T M c rs rh n ver k a R es2 v l ∧ Upd W w1 (sfp T M es) (sfp T M es2) := by
  have hr := hc.room
  refine ⟨doS c rs rh ver (ab es) k a, rfl, (cdo_all T M c ver es rs rh k a W h.at_ (sok_of (W := W) (T := T) (M := M) h.grown h.ver_ hc hn) (smp_small h.at_ hr.r2)).mono ?_⟩
  rintro e w1 ⟨es2, he, h1, h2, hu, ho⟩
  exact ⟨es2, he, half_of h hn hu ho h1 h2, hu⟩

set_option maxRecDepth 100000 in
set_option maxHeartbeats 8000000 in
theorem made_19I (c : Cfg) (rs rh : Nat) (v : Value) (l : List ActK) (w : World) (hv : RowIn 16 actKC w v l) (hok : ∀ p ∈ l, p.1.ok) (hl : l.length ≤ 30) (hI : ∀ p ∈ l, I64 p.2.smp.1 ∧ I64 p.2.smp.2) (hc : CfgOk c rs rh) :
    Calls Tryz.prog 12 #[.agg #[.int .i64 c.st, .int .i64 c.sa, .int .i64 c.lo, .int .i64 c.hi], v] w fun e w' => ∃ T M ver es m A cc, e = .returned (.tuple #[.pointer (some ⟨T, 0, none⟩), .slice A m.length cc]) ∧ Play w w' T M c rs rh l.length ver es (.slice A m.length cc) m ∧ AllI (ab es) := by
  obtain ⟨A, cc, rfl⟩ := hv.form
  have HC := Lib.hid hc
  have HV := Lib.hid hv
  have HOK := Lib.hid hok
  have HL := Lib.hid hl
  have HII := Lib.hid hI
  have hR := hc.room
  have h0 : 0 ≤ c.lo := by have := hc.cfg; unfold cfgB at this; simp only [Bool.and_eq_true, decide_eq_true_eq] at this; omega
  have HR := Lib.hid hR
  have H0 := Lib.hid h0
  have HNW : Hid (∀ W, Calls Tryz.prog 49 #[.agg #[.int .i64 c.st, .int .i64 c.sa, .int .i64 c.lo, .int .i64 c.hi]] W (NewStripe W c rs rh)) := Lib.hid (fun W => stripeNew_any c rs rh W hc.cfg hc.ok)
  have hl' : l.length ≤ 9223372036854775807 := by omega
  clear hv hok hl hc hR h0 hI
  go_enter Tryz.func12, Tryz.ntmps12
  go_wp2_with (first
    | (go_at_call 49
       refine calls_named ?_
       intro W0 hW0
       have hb0 : Below w.heap.size w W0 := by rw [hW0]; exact balloc (Below.refl _ _) _
       have hxc : W0.heap[w.heap.size]? = some (.cells #[.int .i64 c.st, .int .i64 c.sa, .int .i64 c.lo, .int .i64 c.hi] 23 (0, 0)) := by rw [hW0]; exact heap_alloc_new _ _
       clear hW0
       refine (HNW.out W0).mono ?_
       intro e w3 hn
       obtain ⟨T, M, rfl, hp⟩ := play_new (Below.refl _ _) hn H0.out
       have HXC := Lib.hid hxc
       have HB0 := Lib.hid hb0
       have HP3 := Lib.hid hp
       clear hn hp hxc hb0))
  go_loopg [7, 14] l.length (fun g s7 s14 wr => ∃ (n ver : Nat) (es : List (KO × NE)) (m : List It), n ≤ l.length ∧ l.length - n ≤ g ∧ s14 = .int .i64 n ∧ Play W0 wr T M c rs rh n ver es s7 m ∧ AllI (ab es))
  case atStart => exact ⟨0, 0, [], [], Nat.zero_le _, Nat.le_refl _, rfl, HP3.out, fun p hp => by cases hp⟩
  case round =>
    obtain ⟨n, ver, es, m, hn, hg, rfl, hp, hall⟩ := hrel
    have HALL := Lib.hid hall
    clear hall
    have hbw : Below w.heap.size w wr := HB0.out.trans (hp.base.mono HB0.out.size)
    obtain ⟨Am, cm, rfl⟩ := hp.items.1.1.form
    have HP := Lib.hid hp
    clear hp
    by_cases hlt : n < l.length
    · as_aux_lemma =>
      obtain ⟨b, o, rfl, hbl, hat⟩ := (HV.out.below hbw).at_ hlt
      have hxok := HOK.out _ (List.getElem_mem hlt)
      have HXI := Lib.hid (HII.out _ (List.getElem_mem hlt))
      generalize l[n] = x at hat hxok HXI
      obtain ⟨ky, a⟩ := x
      obtain ⟨ko, rfl⟩ : ∃ ko : KO, ko.1 = ky := ⟨⟨ky, hxok⟩, rfl⟩
      have c0 := hat 0 _ rfl
      have c1 := hat 1 _ rfl
      have c2 := hat 2 _ rfl
      have c3 := hat 3 _ rfl
      have c4 := hat 4 _ rfl
      have c5 := hat 5 _ rfl
      have c6 := hat 6 _ rfl
      have c7 := hat 7 _ rfl
      have c8 := hat 8 _ rfl
      have c9 := hat 9 _ rfl
      have c10 := hat 10 _ rfl
      have c11 := hat 11 _ rfl
      have c12 := hat 12 _ rfl
      have c13 := hat 13 _ rfl
      have c14 := hat 14 _ rfl
      have c15 := hat 15 _ rfl
      rw [Nat.add_zero] at c0
      simp only at c0 c1 c2 c3 c4 c5 c6 c7 c8 c9 c10 c11 c12 c13 c14 c15 hxok
      have HBW := Lib.hid hbw
      have hn1 : (n : Int) < (l.length : Int) := by omega
      have hn0 : (0 : Int) ≤ (n : Int) := by omega
      clear hat hbw hxok
      go_wp2_with (first
        | (go_at_call 17
           refine calls_named ?_
           intro W4 hW4
           have hb4 : Below wr.heap.size wr W4 := by rw [hW4]; exact balloc (Below.refl _ _) _
           have hx4 : W4.heap[wr.heap.size]? = some (.cells #[.int .u64 ko.1.1, .int .u64 ko.1.2, .int .i64 a.kind, .int .i64 a.smp.1, .int .i64 a.smp.2, .int .i64 a.pol.mn, .int .i64 a.pol.mx, .int .i64 a.pol.tg, .int .i64 a.pol.tol, .int .i64 a.pol.win, .int .i64 a.pol.hold, .int .i64 a.adv.tick, .int .i64 a.adv.load, .int .i64 a.adv.want, .int .i64 a.adv.repl, .int .i64 a.adv.why] 50 (0, 0)) := by rw [hW4]; exact heap_alloc_new _ _
           clear hW4
           have hnew : wr.heap.size ∉ sfp T M es := fun hq => by have := HP.out.at_.sfpLt _ hq; omega
           obtain ⟨R, hRe, hdo⟩ := play_cdoR (HP.out.below hb4) HC.out (by have := HL.out; omega) ko a
           refine hdo.mono ?_
           rintro e w5 ⟨es2, rfl, hh, hu⟩
           have hx5 := (hu.block _ (Array.getElem?_eq_some_iff.1 hx4).1 hnew).trans hx4
           obtain ⟨a3, a3f, a3l⟩ := box_cells (Below.refl _ _) hx5
           obtain ⟨a4, a4f, a4l⟩ := box_cells hh.base HXC.out
           have HH := Lib.hid hh
           have HRE := Lib.hid hRe
           clear hb4 hx4 hnew hdo hh hu hx5 hRe)
        | (go_at_call 50
           refine (half_do18 HH.out HC.out (by have := HL.out; omega)).mono ?_
           rintro e w6 ⟨out, A6, c6', rfl, hp6, hb6⟩
           have HP6 := Lib.hid hp6
           clear hp6 hb6))
      go_roundg (l.length - (n + 1))
      case measure => omega
      case rel => exact ⟨n + 1, R.ver, es2, out, hlt, Nat.le_refl _, by go_num, HP6.out, by rw [HH.out.has, HRE.out]; exact doS_all HALL.out HXI.out⟩
    · obtain rfl : n = l.length := by omega
      clear hbw hg hn hlt
      go_wp2_with fail
      go_ret2
      exact ⟨T, M, ver, es, m, Am, cm, rfl, HP.out.from_ HB0.out, HALL.out⟩
end

section
set_option linter.unusedSimpArgs false
set_option linter.unusedVariables false
open Go.RowKit Go.Lib Go.Sort

theorem smpOk_fr {es : List (KO × NE)} (h : AllI (ab es)) (l : List En) : SmpOk l (ndF es) := fun x _ => by
  unfold ndF
  cases hf : es.find? (fun p => decide (p.1.1 = x.1)) with
  | none => intro s hs; simp [nd0] at hs
  | some p =>
    have hm := List.mem_of_find?_eq_some hf
    have := h (p.1, p.2.2.1) (List.mem_map.2 ⟨p, hm, rfl⟩)
    simpa [frz] using this
end

section
set_option linter.unusedSimpArgs false
set_option linter.unusedVariables false
open Go.RowKit Go.Lib Go.Sort

/-- Two stripes behind acts, and cuts of both as they were frozen. -/
def TwoCuts (w W : World) (rs rh : Nat) (C1 C2 : Nat) (es1 es2 : List (KO × NE)) (v1 v2 : Value) (l1 l2 : List It) : Prop :=
  ∃ B1 B2, CutAt B1 W C1 1 (sortEn (frL es1 l1)) ∧ CutAt B2 W C2 2 (sortEn (frL es2 l2)) ∧ FzAt (fun _ => True) W es1 rs rh v1 l1 ∧ FzAt (fun _ => True) W es2 rs rh v2 l2 ∧ Below w.heap.size w W
theorem TwoCuts.below {w W W' : World} {rs rh C1 C2 : Nat} {es1 es2 : List (KO × NE)} {v1 v2 : Value} {l1 l2 : List It} (h : TwoCuts w W rs rh C1 C2 es1 es2 v1 v2 l1 l2) (hb : Below W.heap.size W W') : TwoCuts w W' rs rh C1 C2 es1 es2 v1 v2 l1 l2 := by
  obtain ⟨B1, B2, a, b, c, d, e⟩ := h
  exact ⟨B1, B2, a.below hb, b.below hb, c.below hb, d.below hb, e.trans (hb.mono e.size)⟩
end

end Go.Proofs.YtfegielnmdppgaaGreat
