/- The reference's Has, Less, More. -/
import Derived.Test.YtfnabpmdjfejbaaKeysRead
import Derived.Test.YtfnabpmdjfejbaaKeyOwn
import Derived.Test.YtfnabpmdjfejbaaQAdd
namespace Go.Proofs.Ytfnabpmdjfejbaa
set_option linter.unusedSimpArgs false
set_option linter.unusedVariables false
open Go.RowKit Go.Lib

theorem box_one (w : World) (x : Ky) : ∀ W, W = w.alloc (.cells #[.int .u64 x.1, .int .u64 x.2] 32) → W.cell? ⟨w.heap.size, 0, none⟩ = some (.int .u64 x.1) ∧ W.cell? ⟨w.heap.size, 1, none⟩ = some (.int .u64 x.2) ∧ W.heap.size = w.heap.size + 1 ∧ Below w.heap.size w W := by
  rintro W rfl
  exact ⟨(startA w _ _).1 0, (startA w _ _).1 1, by simp, balloc (Below.refl _ _) _⟩

set_option maxRecDepth 100000 in
set_option maxHeartbeats 2000000 in
theorem has_any (v : Value) (l : List Ky) (x : Ky) (w : World) (hv : KeysIn w v l) (hl : l.length ≤ 1000000) :
    Calls Try.prog 48 #[v, .agg #[.int .u64 x.1, .int .u64 x.2]] w fun e w' => e = .returned (.bool (decide (x ∈ l))) ∧ Below w.heap.size w w' := by
  obtain ⟨A, c, rfl, h0⟩ := id hv
  clear h0
  have HV := Lib.hid hv
  clear hv
  go_enter Try.func48, Try.ntmps48
  go_wp2_with fail
  refine name_world ?_
  intro W hW
  obtain ⟨k0, k1, hs, hb⟩ := box_one w x W hW
  clear hW
  go_wp2
  go_loopg [5] l.length (fun g s5 wr => ∃ k n : Nat, k ≤ l.length ∧ l.length - k ≤ g ∧ s5 = .int .i64 k ∧ wr = W.drewN n ∧ x ∉ l.take k)
  case atStart => exact ⟨0, 0, Nat.zero_le _, Nat.le_refl _, rfl, rfl, by simp⟩
  case round =>
    obtain ⟨k, n, hk, hg, rfl, rfl, hno⟩ := hrel
    by_cases hlt : k < l.length
    · obtain ⟨b1, o1, rfl, hb1, c1, c2⟩ := (HV.out.below hb).at_ hlt
      have Hn := Lib.hid hno
      clear hno
      by_cases he : l[k] = x
      · have hin : x ∈ l := he ▸ List.getElem_mem hlt
        have Hin := Lib.hid hin
        rw [he] at c1 c2
        clear he hin
        go_wp2_with fail
        go_quiet (fail)
        go_wp2
        go_ret
        exact ⟨by simp [Hin.out], below_drewN (below_drewN hb _) _⟩
      · have hno2 : x ∉ l.take (k + 1) := by
          rw [List.take_succ_eq_append_getElem hlt, List.mem_append, List.mem_singleton]
          rintro (h | h)
          · exact Hn.out h
          · exact he h.symm
        have Hn2 := Lib.hid hno2
        by_cases h1 : (l[k]).1 = x.1
        · have h2 : (((l[k]).2 : Int) == (x.2 : Int)) = false := by
            have : (l[k]).2 ≠ x.2 := fun h2 => he (Prod.ext h1 h2)
            simp; omega
          rw [h1] at c1
          clear he h1 hno2
          go_wp2_with fail
          go_quiet (fail)
          go_wp2
          go_roundg (l.length - (k + 1))
          case measure => omega
          case rel => exact ⟨k + 1, _, hlt, Nat.le_refl _, by go_num, rfl, Hn2.out⟩
        · have h2 : (((l[k]).1 : Int) == (x.1 : Int)) = false := by simp; omega
          clear he h1 hno2
          go_wp2_with fail
          go_quiet (fail)
          go_wp2
          go_roundg (l.length - (k + 1))
          case measure => omega
          case rel => exact ⟨k + 1, _, hlt, Nat.le_refl _, by go_num, rfl, Hn2.out⟩
    · obtain rfl : k = l.length := by omega
      rw [List.take_length] at hno
      have Hn := Lib.hid hno
      clear hno
      go_wp2
      go_ret
      exact ⟨by simp [Hn.out], below_drewN hb _⟩

/-- A list without a key. -/
def lessL (l : List Ky) (x : Ky) : List Ky := l.filter fun y => ¬ y = x
theorem lessL_hit {l : List Ky} {k : Nat} {x : Ky} (h : k < l.length) (he : l[k] = x) : lessL (l.take (k + 1)) x = lessL (l.take k) x := by
  rw [List.take_succ_eq_append_getElem h]
  simp [lessL, he]
theorem lessL_miss {l : List Ky} {k : Nat} {x : Ky} (h : k < l.length) (he : ¬ l[k] = x) : lessL (l.take (k + 1)) x = lessL (l.take k) x ++ [l[k]] := by
  rw [List.take_succ_eq_append_getElem h]
  unfold lessL
  rw [List.filter_append, List.filter_cons_of_pos (by simpa using he), List.filter_nil]

/-- A list that a call lays. -/
def LaysK (w : World) (ss : List Ky) (e : Ending) (w' : World) : Prop :=
  ∃ v, e = .returned v ∧ w'.ownsRow w.heap.size 32 2 v ss.length (cellsOfRow keyC ss) ∧ Below w.heap.size w w'

theorem keyC1 (x : Ky) : ∀ u ∈ keyC x, u.oneCell' = true := by
  intro u hu
  simp only [keyC, List.mem_cons, List.not_mem_nil, or_false] at hu
  rcases hu with rfl | rfl <;> rfl
theorem news_key (w : World) (x : Ky) (T : TypeId) (B : Nat) (hB : w.heap.size = B) : ∀ j u, (keyC x)[j]? = some u → (w.alloc (.cells #[.int .u64 x.1, .int .u64 x.2] T)).cell? ((⟨B, 0, none⟩ : Addr).add j) = some u := by
  subst hB
  exact World.news_of_block (heap_alloc_new _ _)
theorem row_snoc {w : World} {base : Nat} {e : TypeId} {v : Value} {l : List Ky} {x : Ky} (h : w.ownsRow base e 2 v (l.length + 1) (cellsOfRow keyC l ++ keyC x)) : w.ownsRow base e 2 v (l ++ [x]).length (cellsOfRow keyC (l ++ [x])) := by
  have e1 : (l ++ [x]).length = l.length + 1 := by simp
  have e2 : cellsOfRow keyC (l ++ [x]) = cellsOfRow keyC l ++ keyC x := by rw [cellsOfRow_append]; simp [cellsOfRow]
  rw [e1, e2]
  exact h

set_option maxRecDepth 100000 in
set_option maxHeartbeats 2000000 in
theorem less_row (v : Value) (l : List Ky) (x : Ky) (w : World) (hv : KeysIn w v l) (hl : l.length ≤ 1000000) :
    Calls Try.prog 52 #[v, .agg #[.int .u64 x.1, .int .u64 x.2]] w (LaysK w (lessL l x)) := by
  obtain ⟨i0, hi0, hz0, hz1, hz2⟩ := info_parts key_info
  obtain ⟨A, c, rfl, h0⟩ := id hv
  clear h0
  have HV := Lib.hid hv
  clear hv
  go_enter Try.func52, Try.ntmps52
  go_wp2_with fail
  refine name_world ?_
  intro W hW
  obtain ⟨k0, k1, hs, hb⟩ := box_one w x W hW
  clear hW
  go_wp2
  go_loopg [5, 6] l.length (fun g s5 s6 wr => ∃ k : Nat, k ≤ l.length ∧ l.length - k ≤ g ∧ s6 = .int .i64 k ∧ wr.ownsRow W.heap.size 32 2 s5 (lessL (l.take k) x).length (cellsOfRow keyC (lessL (l.take k) x)) ∧ Below W.heap.size W wr)
  case atStart => exact ⟨0, Nat.zero_le _, Nat.le_refl _, rfl, ⟨rfl, .inl ⟨rfl, rfl⟩⟩, Below.refl _ _⟩
  case round =>
    obtain ⟨k, hk, hg, rfl, hown, hB⟩ := hrel
    by_cases hlt : k < l.length
    · have hsB := hB.size
      have HC := Lib.hid (fun (W' : World) (hW' : Below W.heap.size W W') => (show W'.cell? ⟨w.heap.size, 0, none⟩ = some (.int .u64 x.1) ∧ W'.cell? ⟨w.heap.size, 1, none⟩ = some (.int .u64 x.2) from ⟨(hW'.cell (p := ⟨w.heap.size, 0, none⟩) (show w.heap.size < W.heap.size by omega)).trans k0, (hW'.cell (p := ⟨w.heap.size, 1, none⟩) (show w.heap.size < W.heap.size by omega)).trans k1⟩))
      have HVK := Lib.hid (fun (W' : World) (hW' : Below W.heap.size W W') => ((HV.out.below hb).below hW').at_ hlt)
      obtain ⟨b1, o1, rfl, hb1, c1, c2⟩ := HVK.out wr hB
      have HVC := Lib.hid (fun (W' : World) (hW' : Below W.heap.size W W') => (show W'.cell? ⟨b1, o1 + k * 2, none⟩ = some (.int .u64 (l[k]).1) ∧ W'.cell? ⟨b1, o1 + k * 2 + 1, none⟩ = some (.int .u64 (l[k]).2) from by
        obtain ⟨b2, o2, e, _, d1, d2⟩ := HVK.out W' hW'
        injection e with e; injection e with e1 e2; subst e1 e2; exact ⟨d1, d2⟩))
      obtain ⟨d1, d2⟩ := HC.out wr hB
      clear k0 k1
      by_cases he : l[k] = x
      · have Hl := Lib.hid (lessL_hit hlt he)
        have Ho := Lib.hid hown
        rw [he] at c1 c2
        clear he hown
        go_wp2_with fail
        go_quiet (fail)
        go_wp2
        go_roundg (l.length - (k + 1))
        case measure => omega
        case rel => exact ⟨k + 1, hlt, Nat.le_refl _, by go_num, by rw [Hl.out]; exact own_below Ho.out (below_drewN (Below.refl _ _) _), below_drewN hB _⟩
      · have Hl := Lib.hid (lessL_miss hlt he)
        have hlen : (lessL (l.take k) x).length ≤ k := by
          refine Nat.le_trans (List.length_filter_le _ _) ?_
          rw [List.length_take]; omega
        have hq : ((((l[k]).1 : Int) == (x.1 : Int)) && (((l[k]).2 : Int) == (x.2 : Int))) = false := by
          have : ¬ ((l[k]).1 = x.1 ∧ (l[k]).2 = x.2) := fun h => he (Prod.ext h.1 h.2)
          rw [Bool.and_eq_false_iff]
          by_cases h1 : (l[k]).1 = x.1
          · right; simp; omega
          · left; simp; omega
        have Ho := Lib.hid hown
        clear he hown
        by_cases h1 : (l[k]).1 = x.1
        · have h2 : (((l[k]).2 : Int) == (x.2 : Int)) = false := by
            rw [h1] at hq; simpa using hq
          have H1 := Lib.hid h1
          rw [h1] at c1
          clear h1 hq
          go_wp2_with fail
          go_quiet (fail)
          obtain ⟨w1, hw1⟩ : ∃ w1 : World, w1 = wr.drewN nq := ⟨_, rfl⟩
          rw [← hw1]
          have hb1w : Below W.heap.size W w1 := by rw [hw1]; exact below_drewN hB _
          have hown1 := own_below Ho.out (show Below wr.heap.size wr w1 from by rw [hw1]; exact below_drewN (Below.refl _ _) _)
          clear hw1 c1 c2 d1 d2
          obtain ⟨c1, c2⟩ := HVC.out w1 hb1w
          go_wp2_with (at_builtin; refine wpList_append_own _ rfl (.tmp 19) (.tmp 24) 24 rfl W.heap.size 32 i0 _ 2 16 Try.underlying24 hi0 hz0 hz1 hz2 rfl (by decide) _ _ _ rfl (own_below hown1 (balloc (Below.refl _ _) _)) ⟨w1.heap.size, 0, none⟩ 1 1 (keyC l[k]) rfl rfl (news_key _ _ _ _ rfl) (keyC1 _) (by simp only [maxLen]; omega) (by omega) (by have := hb1w.size; simp; omega) ?_; intro v7 w7 hown7 hgrow7 _)
          go_roundg (l.length - (k + 1))
          case measure => omega
          case rel => exact ⟨k + 1, hlt, Nat.le_refl _, by go_num, by rw [Hl.out]; exact row_snoc hown7, hb1w.trans ((balloc (Below.refl _ _) _).mono hb1w.size |>.trans (grown_below hgrow7 (by have := hb1w.size; simp; omega) (fun r hr => (hown1.lt r hr).1)))⟩
        · have h2 : (((l[k]).1 : Int) == (x.1 : Int)) = false := by simp; omega
          clear h1 hq
          go_wp2_with fail
          go_quiet (fail)
          obtain ⟨w1, hw1⟩ : ∃ w1 : World, w1 = wr.drewN nq := ⟨_, rfl⟩
          rw [← hw1]
          have hb1w : Below W.heap.size W w1 := by rw [hw1]; exact below_drewN hB _
          have hown1 := own_below Ho.out (show Below wr.heap.size wr w1 from by rw [hw1]; exact below_drewN (Below.refl _ _) _)
          clear hw1 c1 c2 d1 d2
          obtain ⟨c1, c2⟩ := HVC.out w1 hb1w
          go_wp2_with (at_builtin; refine wpList_append_own _ rfl (.tmp 19) (.tmp 24) 24 rfl W.heap.size 32 i0 _ 2 16 Try.underlying24 hi0 hz0 hz1 hz2 rfl (by decide) _ _ _ rfl (own_below hown1 (balloc (Below.refl _ _) _)) ⟨w1.heap.size, 0, none⟩ 1 1 (keyC l[k]) rfl rfl (news_key _ _ _ _ rfl) (keyC1 _) (by simp only [maxLen]; omega) (by omega) (by have := hb1w.size; simp; omega) ?_; intro v7 w7 hown7 hgrow7 _)
          go_roundg (l.length - (k + 1))
          case measure => omega
          case rel => exact ⟨k + 1, hlt, Nat.le_refl _, by go_num, by rw [Hl.out]; exact row_snoc hown7, hb1w.trans ((balloc (Below.refl _ _) _).mono hb1w.size |>.trans (grown_below hgrow7 (by have := hb1w.size; simp; omega) (fun r hr => (hown1.lt r hr).1)))⟩
    · obtain rfl : k = l.length := by omega
      rw [List.take_length] at hown
      have Ho := Lib.hid hown
      clear hown
      go_wp2
      go_ret
      exact ⟨_, rfl, own_lower Ho.out (by omega), hb.trans (hB.mono (by omega))⟩

set_option maxRecDepth 100000 in
set_option maxHeartbeats 2000000 in
theorem more_row (v : Value) (l : List Ky) (x : Ky) (w : World) (hv : KeysIn w v l) (hl : l.length ≤ 1000000) :
    Calls Try.prog 53 #[v, .agg #[.int .u64 x.1, .int .u64 x.2]] w (LaysK w (l ++ [x])) := by
  obtain ⟨i0, hi0, hz0, hz1, hz2⟩ := info_parts key_info
  obtain ⟨A, c, rfl, h0⟩ := hv
  have H0 := Lib.hid h0
  clear h0
  go_enter Try.func53, Try.ntmps53
  obtain ⟨W, hW⟩ : ∃ W, W = w.alloc (.cells #[.int .u64 x.1, .int .u64 x.2] 32) := ⟨_, rfl⟩
  obtain ⟨k0, k1, hs, hb⟩ := box_one w x W hW
  have HC := Lib.hid (fun (W' : World) (hW' : Below W.heap.size W W') => (show W'.cell? ⟨w.heap.size, 0, none⟩ = some (.int .u64 x.1) ∧ W'.cell? ⟨w.heap.size, 1, none⟩ = some (.int .u64 x.2) from ⟨(hW'.cell (p := ⟨w.heap.size, 0, none⟩) (show w.heap.size < W.heap.size by omega)).trans k0, (hW'.cell (p := ⟨w.heap.size, 1, none⟩) (show w.heap.size < W.heap.size by omega)).trans k1⟩))
  clear k0 k1
  have hm0 := World.ownsRow_made (base := W.heap.size) (e := 32) (size := 2) W #[] 0 (Nat.le_refl _) (Nat.zero_le _) (by simp)
  have hm : (W.alloc (.cells #[] 32)).ownsRow W.heap.size 32 2 (.slice (some ⟨w.heap.size + 1, 0, none⟩) 0 0) 0 [] := by rw [← hs]; exact hm0
  cases A with
  | none =>
    have hl0 : l.length = 0 := by
      rcases Nat.eq_zero_or_pos l.length with h | h
      · exact h
      · obtain ⟨b, o, e, _⟩ := H0.out h; cases e
    obtain rfl : l = [] := List.eq_nil_of_length_eq_zero hl0
    clear hl0
    obtain ⟨d1, d2⟩ := HC.out (W.alloc (.cells #[] 32)) (balloc (Below.refl _ _) _)
    go_wp2_with (first
      | (at_builtin; rw [← hW]; refine wpList_append_own _ rfl (.tmp 9) (.tmp 11) 24 rfl W.heap.size 32 i0 _ 2 16 Try.underlying24 hi0 hz0 hz1 hz2 rfl (by decide) _ 0 [] rfl (own_below hm (balloc (Below.refl _ _) _)) ⟨w.heap.size + 1 + 1, 0, none⟩ 1 1 (keyC x) rfl rfl (news_key _ _ _ _ (by (try simp only [World.size_alloc]); (try omega))) (keyC1 _) (by simp only [maxLen]; omega) (by omega) (by (try simp only [World.size_alloc]); omega) ?_; intro v8 w8 hown8 hgrow8 _; obtain ⟨A8, c8, rfl⟩ := own_form hown8; have Ho8 := Lib.hid hown8; have Hg8 := Lib.hid hgrow8; clear hown8 hgrow8))
    go_ret
    exact ⟨_, rfl, own_lower (row_snoc (l := []) Ho8.out) (by omega), hb.trans (((balloc (balloc (Below.refl _ _) _) _).trans (grown_below Hg8.out (by (try simp only [World.size_alloc]); omega) (fun r hr => by cases hr; show W.heap.size ≤ w.heap.size + 1; omega))).mono (by omega))⟩
  | some ad =>
    have HN := Lib.hid (fun (W' : World) (hW' : Below W.heap.size W W') => (show ∀ j u, (cellsOfRow keyC l)[j]? = some u → W'.cell? (ad.add j) = some u from fun j u hu => by
      have hj := (List.getElem?_eq_some_iff.1 hu).1
      rw [cellsOfRow_len (n := 2) (fun _ => rfl)] at hj
      obtain ⟨b, o, e, hlt, hc⟩ := H0.out (by omega)
      injection e with e
      subst e
      rw [add_at]
      have hlt2 : b < W.heap.size := by omega
      exact (hW'.cell (p := ⟨b, o + j, none⟩) hlt2).trans ((hb.cell (p := ⟨b, o + j, none⟩) hlt).trans (hc j u hu))))
    go_wp2_with (first
      | (at_builtin; rw [← hW]; refine wpList_append_own _ rfl (.tmp 6) (.tmp 7) 24 rfl W.heap.size 32 i0 _ 2 16 Try.underlying24 hi0 hz0 hz1 hz2 rfl (by decide) _ 0 [] rfl hm ad l.length c (cellsOfRow keyC l) rfl (cellsOfRow_len (n := 2) (fun _ => rfl) l) (HN.out _ (balloc (Below.refl _ _) _)) (cellsOfRow_one keyC1 l) (by simp only [maxLen]; omega) (by omega) (by (try simp only [World.size_alloc]); omega) ?_; intro v7 w7 hown7 hgrow7 _
         rw [Nat.zero_add, List.nil_append] at hown7
         have hb7 : Below W.heap.size W w7 := (balloc (Below.refl _ _) _).trans (grown_below hgrow7 (by (try simp only [World.size_alloc]); omega) (fun r hr => by cases hr; show W.heap.size ≤ w.heap.size + 1; omega))
         obtain ⟨d1, d2⟩ := HC.out w7 hb7
         obtain ⟨A7, c7, rfl⟩ := own_form hown7
         have Ho7 := Lib.hid hown7
         clear hgrow7 hown7)
      | (at_builtin; refine wpList_append_own _ rfl (.tmp 9) (.tmp 11) 24 rfl W.heap.size 32 i0 _ 2 16 Try.underlying24 hi0 hz0 hz1 hz2 rfl (by decide) _ _ _ rfl (own_below Ho7.out (balloc (Below.refl _ _) _)) ⟨w7.heap.size, 0, none⟩ 1 1 (keyC x) rfl rfl (news_key _ _ _ _ (by (try simp only [World.size_alloc]); (try omega))) (keyC1 _) (by simp only [maxLen]; omega) (by omega) (by have := hb7.size; simp; omega) ?_; intro v8 w8 hown8 hgrow8 _; obtain ⟨A8, c8, rfl⟩ := own_form hown8; have Ho8 := Lib.hid hown8; have Hg8 := Lib.hid hgrow8; clear hown8 hgrow8))
    go_ret
    exact ⟨_, rfl, own_lower (row_snoc Ho8.out) (by omega), hb.trans ((hb7.trans (((balloc (Below.refl _ _) _).mono hb7.size).trans (grown_below Hg8.out (by have := hb7.size; simp; omega) (fun r hr => (Ho7.out.lt r hr).1)))).mono (by omega))⟩
end Go.Proofs.Ytfnabpmdjfejbaa
