/- The walk of BatchTells. -/
import Derived.Test.YtfnabpmdjfejbaaBParts
namespace Go.Proofs.Ytfnabpmdjfejbaa
set_option linter.unusedSimpArgs false
set_option linter.unusedVariables false
open Go.RowKit Go.Lib

set_option maxRecDepth 100000 in
set_option maxHeartbeats 2000000 in
theorem parts_bad (v : Value) (n : Int) (w : World) (hn : n < 1 ∨ 32 < n) :
    Calls Try.prog 31 #[v, .int .i64 n] w fun e w' => e = .returned (.slice none 0 0) ∧ Below w.heap.size w w' := by
  rcases hn with h | h
  · go_enter Try.func31, Try.ntmps31
    go_wp2
    go_ret
    exact ⟨rfl, Below.refl _ _⟩
  · have h1 : ¬ n < 1 := by omega
    go_enter Try.func31, Try.ntmps31
    go_wp2
    go_ret
    exact ⟨rfl, Below.refl _ _⟩

def aCall (t v : Int) : CallD := ⟨1, ⟨#[97]⟩, t, v, 0, ⟨0, 0, 0, 0, 0, 0⟩⟩
set_option maxRecDepth 100000 in
set_option maxHeartbeats 2000000 in
theorem ingest_any (t v : Int) (w : World) :
    Calls Try.prog 56 #[.int .i64 t, .int .i64 v] w fun e w' => e = .returned (callV (aCall t v)) ∧ Below w.heap.size w w' := by
  go_enter Try.func56, Try.ntmps56
  go_wp2
  exact bodyPost_ret (v := callV (aCall t v)) (by simp [results, Try.results56, go_sem, callV, aCall]) rfl ⟨rfl, balloc (Below.refl _ _) _⟩

theorem aCall_ok (t v : Int) (ht : I64 t) (hv : I64 v) : (aCall t v).ok := by
  refine ⟨by simp [aCall, I64], by simp only [aCall, maxLen]; decide, ht, hv, by simp [aCall, I64], by simp [aCall, Pol.ok, I64]⟩
theorem last_two : lastR [aCall 1 5, aCall 1 7] = [aCall 1 7] := by
  have f1 : fineB [aCall 1 5, aCall 1 7] = true := by decide
  rw [lastR, if_pos f1]
  rfl

set_option maxRecDepth 100000 in
set_option maxHeartbeats 2000000 in
theorem bawake_any (w : World) : Calls Try.prog 23 #[] w (RetB w true) := by
  have i1 := fun W => ingest_any 1 5 W
  have i2 := fun W => ingest_any 1 7 W
  simp only [callV, aCall] at i1 i2
  have HI1 := Lib.hid i1
  have HI2 := Lib.hid i2
  clear i1 i2
  go_enter Try.func23, Try.ntmps23
  go_wp2_with (first
    | (go_at_call_of 56 (Value.int .i64 5); refine (HI1.out _).mono ?_; rintro e w1 ⟨rfl, hb1⟩)
    | (go_at_call_of 56 (Value.int .i64 7); refine (HI2.out _).mono ?_; rintro e w2 ⟨rfl, hb2⟩)
    | (go_at_call 27; refine (last_any _ [aCall 1 5, aCall 1 7] _ (RowIn.lit2 w2 (aCall 1 5) (aCall 1 7) _ _ _ rfl (fun _ => rfl) rfl) (by intro p hp; simp only [List.mem_cons, List.not_mem_nil, or_false] at hp; rcases hp with rfl | rfl; exact aCall_ok _ _ (by simp [I64]) (by simp [I64]); exact aCall_ok _ _ (by simp [I64]) (by simp [I64])) (by simp)).mono ?_; rw [last_two]; rintro e w3 ⟨v3, rfl, ho3, hb3⟩
       obtain ⟨A3, c3, rfl⟩ := ho3.form
       obtain ⟨b3, o3, rfl, _, hc3⟩ := calls_at (ho3.row eCall) (k := 0) (by simp)
       obtain ⟨_, _, _, k3, _⟩ := hc3 w3 (Below.refl _ _)
       have k3' : w3.cell? ⟨b3, o3 + 3, none⟩ = some (.int .i64 7) := by simpa [aCall] using k3
       have hb13 : Below w.heap.size w w3 := bthen (balloc (bthen hb1 hb2) _) hb3
       clear ho3 hc3 k3)
    | (go_at_call 24; refine (fine_any _ [] _ RowIn.nil (by intro p hp; simp at hp) (by simp)).mono ?_; rw [show fineB [] = true from rfl]; rintro e w4 ⟨rfl, hb4⟩)
    | (go_at_call 31; refine (parts_bad _ _ _ (by omega)).mono ?_; rintro e w5 ⟨rfl, hb5⟩))
  go_ret
  exact ⟨rfl, bthen (bthen hb13 hb4) hb5⟩

set_option maxRecDepth 100000 in
set_option maxHeartbeats 4000000 in
theorem tells_walk (v : Value) (l : List CallD) (n : Int) (w : World) (hv : RowIn 11 callCells w v l) (hok : ∀ p ∈ l, p.ok) (hl : l.length ≤ maxLen) (hn : I64 n) :
    Calls Try.prog 6 #[v, .int .i64 n] w (RetB w true) := by
  have hl' : l.length ≤ 9223372036854775807 := hl
  obtain ⟨A, c, rfl⟩ := hv.form
  by_cases h40 : l.length ≤ 40
  · have q40 : ¬ (40 : Int) < (l.length : Int) := by omega
    have hl2 : l.length ≤ 1000000 := by omega
    have HV := Lib.hid hv
    have HO := Lib.hid hok
    clear hv hok hl
    by_cases hnn : n < 1 ∨ 32 < n
    · have hN := Lib.hid hnn
      have arm : True := trivial
      rcases hnn with h1 | h1
      · go_enter Try.func6, Try.ntmps6
        go_wp2_with (first
          | (go_at_call 23; refine (bawake_any _).mono ?_; rintro e w1 ⟨rfl, hb1⟩)
          | (go_at_call 24; refine (fine_any _ l _ (HV.out.below hb1) HO.out hl2).mono ?_; rintro e w2 ⟨rfl, hb2⟩; have hb12 := bthen hb1 hb2)
          | (go_at_call 25; refine (rfine_any _ l _ (HV.out.below hb12) HO.out hl2).mono ?_; rintro e w3 ⟨rfl, hb3⟩; have hb13 := bthen hb12 hb3)
          | (go_at_call 27; refine (last_any _ l _ (HV.out.below hb13) HO.out hl2).mono ?_; rintro e w4 ⟨v4, rfl, ho4, hb4⟩; obtain ⟨A4, c4, rfl⟩ := ho4.form; have H4 := Lib.hid (ho4.row eCall); clear ho4; have hb14 := bthen hb13 hb4)
          | (go_at_call 28; refine (rlast_any _ l _ (HV.out.below hb14) HO.out hl2).mono ?_; rintro e w5 ⟨v5, rfl, ho5, hb5⟩; obtain ⟨A5, c5, rfl⟩ := ho5.form; have H5 := Lib.hid (ho5.row eCall); clear ho5; have hb15 := bthen hb14 hb5)
          | (go_at_call_of 26 (Value.slice A4 (lastR l).length c4); refine (csame_self _ _ (lastR l) _ (H4.out.below hb5) H5.out (by have := lastR_len l; omega)).mono ?_; rintro e w6 ⟨rfl, hb6⟩; have hb16 := bthen hb15 hb6)
          | (go_at_call 29; refine (sort_any _ l _ (HV.out.below hb16) HO.out hl2).mono ?_; rintro e w7 ⟨v7, rfl, ho7, hb7⟩; obtain ⟨A7, c7, rfl⟩ := ho7.form; have H7 := Lib.hid (ho7.row eCall); clear ho7; have hb17 := bthen hb16 hb7)
          | (go_at_call 30; refine (rsort_any _ l _ (HV.out.below hb17) HO.out hl2).mono ?_; rintro e w8 ⟨v8, rfl, ho8, hb8⟩; obtain ⟨A8, c8, rfl⟩ := ho8.form; have H8 := Lib.hid (ho8.row eCall); clear ho8; have hb18 := bthen hb17 hb8)
          | (go_at_call_of 26 (Value.slice A7 (sortR l).length c7); refine (csame_self _ _ (sortR l) _ (H7.out.below hb8) H8.out (by have := sortR_len l; omega)).mono ?_; rintro e w8b ⟨rfl, hb8b⟩; have hb18b := bthen hb18 hb8b)
          | (go_at_call 31; refine (parts_bad _ _ _ hN.out).mono ?_; rintro e w9 ⟨rfl, hb9⟩; have hb19 := bthen hb18b hb9))
        go_ret
        exact ⟨rfl, hb19⟩
      · have h2 : ¬ n < 1 := by omega
        go_enter Try.func6, Try.ntmps6
        go_wp2_with (first
          | (go_at_call 23; refine (bawake_any _).mono ?_; rintro e w1 ⟨rfl, hb1⟩)
          | (go_at_call 24; refine (fine_any _ l _ (HV.out.below hb1) HO.out hl2).mono ?_; rintro e w2 ⟨rfl, hb2⟩; have hb12 := bthen hb1 hb2)
          | (go_at_call 25; refine (rfine_any _ l _ (HV.out.below hb12) HO.out hl2).mono ?_; rintro e w3 ⟨rfl, hb3⟩; have hb13 := bthen hb12 hb3)
          | (go_at_call 27; refine (last_any _ l _ (HV.out.below hb13) HO.out hl2).mono ?_; rintro e w4 ⟨v4, rfl, ho4, hb4⟩; obtain ⟨A4, c4, rfl⟩ := ho4.form; have H4 := Lib.hid (ho4.row eCall); clear ho4; have hb14 := bthen hb13 hb4)
          | (go_at_call 28; refine (rlast_any _ l _ (HV.out.below hb14) HO.out hl2).mono ?_; rintro e w5 ⟨v5, rfl, ho5, hb5⟩; obtain ⟨A5, c5, rfl⟩ := ho5.form; have H5 := Lib.hid (ho5.row eCall); clear ho5; have hb15 := bthen hb14 hb5)
          | (go_at_call_of 26 (Value.slice A4 (lastR l).length c4); refine (csame_self _ _ (lastR l) _ (H4.out.below hb5) H5.out (by have := lastR_len l; omega)).mono ?_; rintro e w6 ⟨rfl, hb6⟩; have hb16 := bthen hb15 hb6)
          | (go_at_call 29; refine (sort_any _ l _ (HV.out.below hb16) HO.out hl2).mono ?_; rintro e w7 ⟨v7, rfl, ho7, hb7⟩; obtain ⟨A7, c7, rfl⟩ := ho7.form; have H7 := Lib.hid (ho7.row eCall); clear ho7; have hb17 := bthen hb16 hb7)
          | (go_at_call 30; refine (rsort_any _ l _ (HV.out.below hb17) HO.out hl2).mono ?_; rintro e w8 ⟨v8, rfl, ho8, hb8⟩; obtain ⟨A8, c8, rfl⟩ := ho8.form; have H8 := Lib.hid (ho8.row eCall); clear ho8; have hb18 := bthen hb17 hb8)
          | (go_at_call_of 26 (Value.slice A7 (sortR l).length c7); refine (csame_self _ _ (sortR l) _ (H7.out.below hb8) H8.out (by have := sortR_len l; omega)).mono ?_; rintro e w8b ⟨rfl, hb8b⟩; have hb18b := bthen hb18 hb8b)
          | (go_at_call 31; refine (parts_bad _ _ _ hN.out).mono ?_; rintro e w9 ⟨rfl, hb9⟩; have hb19 := bthen hb18b hb9))
        go_ret
        exact ⟨rfl, hb19⟩
    · obtain ⟨m, rfl⟩ : ∃ m : Nat, n = (m : Int) := ⟨n.toNat, by omega⟩
      have hm1 : 0 < m := by omega
      have hm2 : m ≤ 32 := by omega
      have q1 : ¬ (m : Int) < 1 := by omega
      have q2 : ¬ (32 : Int) < (m : Int) := by omega
      clear hnn
      go_enter Try.func6, Try.ntmps6
      go_wp2_with (first
        | (go_at_call 23; refine (bawake_any _).mono ?_; rintro e w1 ⟨rfl, hb1⟩)
        | (go_at_call 24; refine (fine_any _ l _ (HV.out.below hb1) HO.out hl2).mono ?_; rintro e w2 ⟨rfl, hb2⟩; have hb12 := bthen hb1 hb2)
        | (go_at_call 25; refine (rfine_any _ l _ (HV.out.below hb12) HO.out hl2).mono ?_; rintro e w3 ⟨rfl, hb3⟩; have hb13 := bthen hb12 hb3)
        | (go_at_call 27; refine (last_any _ l _ (HV.out.below hb13) HO.out hl2).mono ?_; rintro e w4 ⟨v4, rfl, ho4, hb4⟩; obtain ⟨A4, c4, rfl⟩ := ho4.form; have H4 := Lib.hid (ho4.row eCall); clear ho4; have hb14 := bthen hb13 hb4)
        | (go_at_call 28; refine (rlast_any _ l _ (HV.out.below hb14) HO.out hl2).mono ?_; rintro e w5 ⟨v5, rfl, ho5, hb5⟩; obtain ⟨A5, c5, rfl⟩ := ho5.form; have H5 := Lib.hid (ho5.row eCall); clear ho5; have hb15 := bthen hb14 hb5)
        | (go_at_call_of 26 (Value.slice A4 (lastR l).length c4); refine (csame_self _ _ (lastR l) _ (H4.out.below hb5) H5.out (by have := lastR_len l; omega)).mono ?_; rintro e w6 ⟨rfl, hb6⟩; have hb16 := bthen hb15 hb6)
        | (go_at_call 29; refine (sort_any _ l _ (HV.out.below hb16) HO.out hl2).mono ?_; rintro e w7 ⟨v7, rfl, ho7, hb7⟩; obtain ⟨A7, c7, rfl⟩ := ho7.form; have H7 := Lib.hid (ho7.row eCall); clear ho7; have hb17 := bthen hb16 hb7)
        | (go_at_call 30; refine (rsort_any _ l _ (HV.out.below hb17) HO.out hl2).mono ?_; rintro e w8 ⟨v8, rfl, ho8, hb8⟩; obtain ⟨A8, c8, rfl⟩ := ho8.form; have H8 := Lib.hid (ho8.row eCall); clear ho8; have hb18 := bthen hb17 hb8)
        | (go_at_call_of 26 (Value.slice A7 (sortR l).length c7); refine (csame_self _ _ (sortR l) _ (H7.out.below hb8) H8.out (by have := sortR_len l; omega)).mono ?_; rintro e w8b ⟨rfl, hb8b⟩; have hb18b := bthen hb18 hb8b)
        | (go_at_call 31; refine (parts_any _ l m _ (HV.out.below hb18b) HO.out hl2 hm1 hm2).mono ?_; rintro e w9 ⟨H, base, vs, rfl, hP, hb9⟩; have HP := Lib.hid hP; clear hP; have hb19 := bthen hb18b hb9))
      go_loopg [52] m (fun g s52 wr => ∃ k : Nat, k ≤ m ∧ m - k ≤ g ∧ s52 = .int .i64 k ∧ Below w9.heap.size w9 wr)
      case atStart => exact ⟨0, Nat.zero_le _, Nat.le_refl _, rfl, Below.refl _ _⟩
      case round =>
        obtain ⟨k, hk, hg, rfl, hb⟩ := hrel
        have hbw : Below w.heap.size w wr := bthen hb19 hb
        by_cases hlt : k < m
        · have hP := HP.out.below hb
          obtain ⟨vk, hvk⟩ : ∃ vk, vs[k]? = some vk := ⟨vs[k]'(by rw [hP.size]; exact hlt), Array.getElem?_eq_getElem _⟩
          have hown := hP.own k vk hvk
          have hcell := hP.cell hvk
          obtain ⟨Ak, ck, rfl⟩ := hown.form
          have HW := Lib.hid (hown.row eCall)
          have hpl := partP_len (sortR l) m k (sortR l).length
          have hsl := sortR_len l
          clear hP hvk hown
          have hk0 : (0 : Int) ≤ (k : Int) := by omega
          have hk1 : (k : Int) < (m : Int) := by omega
          go_wp2_with (first
            | (go_at_call 32; refine (rpart_any _ l m k _ (HV.out.below hbw) HO.out hl2 hm1 hm2 hlt).mono ?_; rintro e w10 ⟨v10, rfl, ho10, hb10⟩; obtain ⟨A10, c10, rfl⟩ := ho10.form; have H10 := Lib.hid (ho10.row eCall); clear ho10)
            | (go_at_call 26; refine (csame_self _ _ (partL (sortR l) m k) _ (HW.out.below hb10) H10.out (by unfold partL; omega)).mono ?_; rintro e w11 ⟨rfl, hb11⟩))
          go_roundg (m - (k + 1))
          case measure => omega
          case rel => exact ⟨k + 1, hlt, Nat.le_refl _, by go_num, bthen (bthen hb hb10) hb11⟩
        · obtain rfl : k = m := by omega
          go_wp2
          go_ret
          exact ⟨rfl, hbw⟩
  · have q40 : (40 : Int) < (l.length : Int) := by omega
    clear hv hok hl
    go_enter Try.func6, Try.ntmps6
    go_wp2_with (go_at_call 23; refine (bawake_any _).mono ?_; rintro e w1 ⟨rfl, hb1⟩)
    go_ret
    exact ⟨rfl, hb1⟩
end Go.Proofs.Ytfnabpmdjfejbaa
