/- The names of keys; report.id, flywheelref43.Id, report.call. -/
import Derived.Test.YtfnabpmdjfejbaaDoorIdRef35
import Derived.Test.YtfnabpmdjfejbaaDoorIdUnpack
import Derived.Test.YtfnabpmdjfejbaaDoorJText5
namespace Go.Proofs.YtfnabpmdjfejbaaDoor
set_option linter.unusedSimpArgs false
set_option linter.unusedVariables false
open Go.RowKit Go.Lib

def nameF (hi lo : Nat) : Nat → Nat → List UInt8
  | 0, _ => []
  | g + 1, i => if atN hi lo i = 0 ∨ 39 < atN hi lo i then [] else letterN (atN hi lo i) :: nameF hi lo g (i + 1)
theorem nameF_pre (hi lo : Nat) : ∀ g i out, IdPre hi lo i out → i + g = 20 → ∃ i', i' ≤ 20 ∧ IdPre hi lo i' (out ++ nameF hi lo g i) ∧ (i' = 20 ∨ atN hi lo i' = 0 ∨ 39 < atN hi lo i')
  | 0, i, out, h, hg => ⟨i, by omega, by simpa [nameF] using h, .inl (by omega)⟩
  | g + 1, i, out, h, hg => by
    unfold nameF
    by_cases hc : atN hi lo i = 0 ∨ 39 < atN hi lo i
    · rw [if_pos hc]
      exact ⟨i, by omega, by simpa using h, .inr hc⟩
    · rw [if_neg hc]
      obtain ⟨i', h1, h2, h3⟩ := nameF_pre hi lo g (i + 1) (out ++ [letterN (atN hi lo i)]) (h.next (by omega) (by omega)) (by omega)
      exact ⟨i', h1, by simpa using h2, h3⟩
def nameS (hi lo : Nat) : ByteArray := if idL (nameF hi lo 20 0) = true ∧ hiN (nameF hi lo 20 0) = hi ∧ loN (nameF hi lo 20 0) = lo then ⟨(nameF hi lo 20 0).toArray⟩ else ⟨#[63]⟩
theorem nameS_yes {hi lo : Nat} {s : ByteArray} (h : IsKey hi lo s.data.toList) : nameS hi lo = s := by
  obtain ⟨i', h1, h2, h3⟩ := nameF_pre hi lo 20 0 [] (IdPre.start _ _) rfl
  rw [List.nil_append] at h2
  have := h2.done h1 h3 h
  unfold nameS
  rw [this, if_pos (show _ ∧ _ ∧ _ from h)]
theorem nameS_no {hi lo : Nat} (h : ∀ l, ¬ IsKey hi lo l) : nameS hi lo = ⟨#[63]⟩ := by
  unfold nameS
  exact if_neg (fun k => h (nameF hi lo 20 0) k)
theorem isKey_size {hi lo : Nat} {s : ByteArray} (h : IsKey hi lo s.data.toList) : 1 ≤ s.size ∧ s.size ≤ 20 := by
  have := (idL_iff _).1 h.1
  exact ⟨by simpa using this.1, by simpa using this.2.1⟩
theorem key_cases (hi lo : Nat) : (∃ s : ByteArray, IsKey hi lo s.data.toList) ∨ (∀ l, ¬ IsKey hi lo l) := by
  by_cases h : ∃ l, IsKey hi lo l
  · obtain ⟨l, hl⟩ := h
    exact .inl ⟨⟨l.toArray⟩, by simpa using hl⟩
  · exact .inr (fun l hl => h ⟨l, hl⟩)
theorem nameS_size (hi lo : Nat) : 1 ≤ (nameS hi lo).size ∧ (nameS hi lo).size ≤ 20 := by
  rcases key_cases hi lo with ⟨s, hs⟩ | hn
  · rw [nameS_yes hs]; exact isKey_size hs
  · rw [nameS_no hn]; decide

theorem rid35_yes (hi lo : Nat) (s : ByteArray) (w : World) (h1 : hi < 18446744073709551616) (h2 : lo < 18446744073709551616) (h : IsKey hi lo s.data.toList) :
    Calls Tryd.prog 64 #[keyV hi lo] w fun e w' => e = .returned (.string s) ∧ Below w.heap.size w w' :=
  (rid35_loop hi lo w h1 h2).mono fun e w' ⟨hp, hb⟩ => by
    rcases hp with ⟨t, ht, rfl⟩ | ⟨hn, _⟩
    · have : t = s := ByteArray.ext (Array.toList_inj.1 (ht.one h))
      rw [this]; exact ⟨rfl, hb⟩
    · exact absurd h (hn _)
theorem rid35_no (hi lo : Nat) (w : World) (h1 : hi < 18446744073709551616) (h2 : lo < 18446744073709551616) (h : ∀ l, ¬ IsKey hi lo l) :
    Calls Tryd.prog 64 #[keyV hi lo] w fun e w' => e = .returned (.string ⟨#[]⟩) ∧ Below w.heap.size w w' :=
  (rid35_loop hi lo w h1 h2).mono fun e w' ⟨hp, hb⟩ => by
    rcases hp with ⟨t, ht, rfl⟩ | ⟨_, rfl⟩
    · exact absurd ht (h _)
    · exact ⟨rfl, hb⟩

set_option maxRecDepth 100000 in
set_option maxHeartbeats 1000000 in
theorem rid43_any (hi lo : Nat) (w : World) (h1 : hi < 18446744073709551616) (h2 : lo < 18446744073709551616) :
    Calls Tryd.prog 39 #[keyV hi lo] w fun e w' => e = .returned (.string (nameS hi lo)) ∧ Below w.heap.size w w' := by
  rcases key_cases hi lo with ⟨s, hs⟩ | hn
  · rw [nameS_yes hs]
    have hz := (isKey_size hs).1
    have C := Lib.hid (fun W => rid35_yes hi lo s W h1 h2 hs)
    unfold keyV at C ⊢
    have hne : s ≠ ⟨#[]⟩ := by rintro rfl; exact absurd hz (by decide)
    have hnl : s.toList.isEmpty = false := by
      rw [ByteArray.toList_eq]
      cases hl : s.data.toList with
      | nil => exact absurd (ByteArray.ext (Array.toList_inj.1 (by simpa using hl))) hne
      | cons _ _ => rfl
    clear hs hz h1 h2 hne
    go_enter Tryd.func39, Tryd.ntmps39
    go_wp2_with (go_at_call 64; refine (C.out _).mono ?_; rintro e w1 ⟨rfl, hb1⟩)
    go_ret
    exact ⟨rfl, bthen (balloc (Below.refl _ _) _) hb1⟩
  · rw [nameS_no hn]
    have C := Lib.hid (fun W => rid35_no hi lo W h1 h2 hn)
    unfold keyV at C ⊢
    clear hn h1 h2
    go_enter Tryd.func39, Tryd.ntmps39
    go_wp2_with (go_at_call 64; refine (C.out _).mono ?_; rintro e w1 ⟨rfl, hb1⟩)
    go_ret
    exact ⟨rfl, bthen (balloc (Below.refl _ _) _) hb1⟩

set_option maxRecDepth 100000 in
set_option maxHeartbeats 1000000 in
theorem repId_any (hi lo : Nat) (w : World) (h1 : hi < 18446744073709551616) (h2 : lo < 18446744073709551616) :
    Calls Tryd.prog 41 #[keyV hi lo] w fun e w' => e = .returned (.string (nameS hi lo)) ∧ Below w.heap.size w w' := by
  rcases key_cases hi lo with ⟨s, hs⟩ | hn
  · rw [nameS_yes hs]
    have C := Lib.hid (fun W => unpack_yes hi lo s W h1 h2 hs)
    unfold keyV at C ⊢
    clear hs h1 h2
    go_enter Tryd.func41, Tryd.ntmps41
    go_wp2_with (go_at_call 65; refine (C.out _).mono ?_; rintro e w1 ⟨rfl, hb1⟩)
    go_ret
    exact ⟨rfl, bthen (balloc (Below.refl _ _) _) hb1⟩
  · rw [nameS_no hn]
    have C := Lib.hid (fun W => unpack_no hi lo W h1 h2 hn)
    unfold keyV at C ⊢
    clear hn h1 h2
    go_enter Tryd.func41, Tryd.ntmps41
    go_wp2_with (go_at_call 65; refine (C.out _).mono ?_; rintro e w1 ⟨rfl, hb1⟩)
    go_ret
    exact ⟨rfl, bthen (balloc (Below.refl _ _) _) hb1⟩

def callS (c : CallD) : ByteArray := if textE c = 0 then textS c else ⟨#[63]⟩
set_option maxRecDepth 100000 in
set_option maxHeartbeats 1000000 in
theorem repCall_any (c : CallD) (w : World) (hc : c.ok) (ht : Tab w) :
    Calls Tryd.prog 61 #[callV c] w fun e w' => e = .returned (.string (callS c)) ∧ Below w.heap.size w w' := by
  have C := Lib.hid (fun W h => ltext_any c W hc (ht.below (w' := W) h))
  unfold callS
  generalize textE c = x at C ⊢
  generalize textS c = s at C ⊢
  unfold callV at C ⊢
  clear hc ht
  by_cases hx : x = 0
  · rw [if_pos hx]
    subst hx
    go_enter Tryd.func61, Tryd.ntmps61
    go_wp2_with (go_at_call 23; refine (C.out _ (balloc (Below.refl _ _) _)).mono ?_; rintro e w1 ⟨rfl, hb1⟩)
    go_ret
    exact ⟨rfl, bthen (balloc (Below.refl _ _) _) hb1⟩
  · rw [if_neg hx]
    have q1 : (x == 0) = false := by simpa using hx
    have q2 : (x != 0) = true := by simpa using hx
    go_enter Tryd.func61, Tryd.ntmps61
    go_wp2_with (go_at_call 23; refine (C.out _ (balloc (Below.refl _ _) _)).mono ?_; rintro e w1 ⟨rfl, hb1⟩)
    go_ret
    exact ⟨rfl, bthen (balloc (Below.refl _ _) _) hb1⟩
end Go.Proofs.YtfnabpmdjfejbaaDoor
