/- line.Text; The names of keys; report.id, flywheelref43.Id, report.call; flywheelref12.Dec: a number's text. -/
import Derived.Test.YtmndhffimlkjgaaDoorJ15
import Derived.Test.YtmndhffimlkjgaaDoorJ05
import Derived.Test.YtmndhffimlkjgaaDoorJ03
namespace Go.Proofs.YtmndhffimlkjgaaDoor

section
set_option linter.unusedSimpArgs false
set_option linter.unusedVariables false
open Go.RowKit Go.Lib

def textE (c : CallD) : Int := if c.kind < 1 ∨ 8 < c.kind then 14 else if namedB c.kind = true ∧ idS c.id = false then 2 else 0
def wordsC (c : CallD) : List ByteArray :=
  verbB c.kind :: (if c.kind = 1 then [c.id, dec c.tick, dec c.val] else if c.kind = 2 then [dec c.tick] else if c.kind = 4 then [dec c.handle] else if c.kind = 5 then [dec c.handle, c.id, dec c.tick, dec c.val]
    else if c.kind = 6 then [c.id, ⟨(polText c.pol).toArray⟩] else if c.kind = 7 then [c.id] else [])
def textS (c : CallD) : ByteArray := if textE c = 0 then joinS (wordsC c) else ⟨#[]⟩
theorem textE_cases (c : CallD) : (c.kind < 1 ∨ 8 < c.kind) ∨ c.kind = 1 ∨ c.kind = 2 ∨ c.kind = 3 ∨ c.kind = 4 ∨ c.kind = 5 ∨ c.kind = 6 ∨ c.kind = 7 ∨ c.kind = 8 := by omega
theorem ltext_any (c : CallD) (w : World) (hc : c.ok) (ht : Tab w) : Calls Tryd.prog 27 #[callV c] w (TextSays w (textS c) (textE c)) := by
  obtain ⟨k, id, tick, val, handle, mn, mx, tg, tol, win, hold⟩ := c
  obtain ⟨h1, h2, h3, h4, h5, h6⟩ := hc
  dsimp only at h1 h2 h3 h4 h5 h6
  by_cases l1 : k < 1
  · have e : textE ⟨k, id, tick, val, handle, ⟨mn, mx, tg, tol, win, hold⟩⟩ = 14 := if_pos (.inl l1)
    unfold textS
    rw [e, if_neg (by decide)]
    exact ltext_lo k l1 id tick val handle mn mx tg tol win hold w
  by_cases l8 : 8 < k
  · have e : textE ⟨k, id, tick, val, handle, ⟨mn, mx, tg, tol, win, hold⟩⟩ = 14 := if_pos (.inr l8)
    unfold textS
    rw [e, if_neg (by decide)]
    exact ltext_hi k l1 l8 id tick val handle mn mx tg tol win hold w
  have hk : k = 1 ∨ k = 2 ∨ k = 3 ∨ k = 4 ∨ k = 5 ∨ k = 6 ∨ k = 7 ∨ k = 8 := by omega
  rcases hk with rfl | rfl | rfl | rfl | rfl | rfl | rfl | rfl
  · cases hid : idS id with
    | true =>
      have e : textE (⟨1, id, tick, val, handle, ⟨mn, mx, tg, tol, win, hold⟩⟩ : CallD) = 0 := by unfold textE; rw [if_neg (by dsimp only; omega), if_neg (by dsimp only; rw [hid]; simp)]
      unfold textS
      rw [e, if_pos rfl]
      exact ltext_1 id tick val handle mn mx tg tol win hold w h2 ht h3 h4 h5 h6 hid
    | false =>
      have e : textE (⟨1, id, tick, val, handle, ⟨mn, mx, tg, tol, win, hold⟩⟩ : CallD) = 2 := by unfold textE; rw [if_neg (by dsimp only; omega), if_pos ⟨rfl, hid⟩]
      unfold textS
      rw [e, if_neg (by decide)]
      exact ltext_bad_1 id tick val handle mn mx tg tol win hold w h2 ht h3 h4 h5 h6 hid
  · have e : textE (⟨2, id, tick, val, handle, ⟨mn, mx, tg, tol, win, hold⟩⟩ : CallD) = 0 := by unfold textE; rw [if_neg (by dsimp only; omega), if_neg (by rintro ⟨h, _⟩; cases h)]
    unfold textS
    rw [e, if_pos rfl]
    exact ltext_2 id tick val handle mn mx tg tol win hold w h2 ht h3 h4 h5 h6
  · have e : textE (⟨3, id, tick, val, handle, ⟨mn, mx, tg, tol, win, hold⟩⟩ : CallD) = 0 := by unfold textE; rw [if_neg (by dsimp only; omega), if_neg (by rintro ⟨h, _⟩; cases h)]
    unfold textS
    rw [e, if_pos rfl]
    exact ltext_3 id tick val handle mn mx tg tol win hold w h2 ht h3 h4 h5 h6
  · have e : textE (⟨4, id, tick, val, handle, ⟨mn, mx, tg, tol, win, hold⟩⟩ : CallD) = 0 := by unfold textE; rw [if_neg (by dsimp only; omega), if_neg (by rintro ⟨h, _⟩; cases h)]
    unfold textS
    rw [e, if_pos rfl]
    exact ltext_4 id tick val handle mn mx tg tol win hold w h2 ht h3 h4 h5 h6
  · cases hid : idS id with
    | true =>
      have e : textE (⟨5, id, tick, val, handle, ⟨mn, mx, tg, tol, win, hold⟩⟩ : CallD) = 0 := by unfold textE; rw [if_neg (by dsimp only; omega), if_neg (by dsimp only; rw [hid]; simp)]
      unfold textS
      rw [e, if_pos rfl]
      exact ltext_5 id tick val handle mn mx tg tol win hold w h2 ht h3 h4 h5 h6 hid
    | false =>
      have e : textE (⟨5, id, tick, val, handle, ⟨mn, mx, tg, tol, win, hold⟩⟩ : CallD) = 2 := by unfold textE; rw [if_neg (by dsimp only; omega), if_pos ⟨rfl, hid⟩]
      unfold textS
      rw [e, if_neg (by decide)]
      exact ltext_bad_5 id tick val handle mn mx tg tol win hold w h2 ht h3 h4 h5 h6 hid
  · cases hid : idS id with
    | true =>
      have e : textE (⟨6, id, tick, val, handle, ⟨mn, mx, tg, tol, win, hold⟩⟩ : CallD) = 0 := by unfold textE; rw [if_neg (by dsimp only; omega), if_neg (by dsimp only; rw [hid]; simp)]
      unfold textS
      rw [e, if_pos rfl]
      exact ltext_6 id tick val handle mn mx tg tol win hold w h2 ht h3 h4 h5 h6 hid
    | false =>
      have e : textE (⟨6, id, tick, val, handle, ⟨mn, mx, tg, tol, win, hold⟩⟩ : CallD) = 2 := by unfold textE; rw [if_neg (by dsimp only; omega), if_pos ⟨rfl, hid⟩]
      unfold textS
      rw [e, if_neg (by decide)]
      exact ltext_bad_6 id tick val handle mn mx tg tol win hold w h2 ht h3 h4 h5 h6 hid
  · cases hid : idS id with
    | true =>
      have e : textE (⟨7, id, tick, val, handle, ⟨mn, mx, tg, tol, win, hold⟩⟩ : CallD) = 0 := by unfold textE; rw [if_neg (by dsimp only; omega), if_neg (by dsimp only; rw [hid]; simp)]
      unfold textS
      rw [e, if_pos rfl]
      exact ltext_7 id tick val handle mn mx tg tol win hold w h2 ht h3 h4 h5 h6 hid
    | false =>
      have e : textE (⟨7, id, tick, val, handle, ⟨mn, mx, tg, tol, win, hold⟩⟩ : CallD) = 2 := by unfold textE; rw [if_neg (by dsimp only; omega), if_pos ⟨rfl, hid⟩]
      unfold textS
      rw [e, if_neg (by decide)]
      exact ltext_bad_7 id tick val handle mn mx tg tol win hold w h2 ht h3 h4 h5 h6 hid
  · have e : textE (⟨8, id, tick, val, handle, ⟨mn, mx, tg, tol, win, hold⟩⟩ : CallD) = 0 := by unfold textE; rw [if_neg (by dsimp only; omega), if_neg (by rintro ⟨h, _⟩; cases h)]
    unfold textS
    rw [e, if_pos rfl]
    exact ltext_8 id tick val handle mn mx tg tol win hold w h2 ht h3 h4 h5 h6
end

section
set_option linter.unusedSimpArgs false
set_option linter.unusedVariables false
open Go.RowKit Go.Lib

def nameF (hi lo : Nat) : Nat → Nat → List UInt8
  | 0, _ => []
  | g + 1, i => if atN hi lo i = 0 ∨ 39 < atN hi lo i then [] else letterN (atN hi lo i) :: nameF hi lo g (i + 1)
theorem nameF_pre (hi lo : Nat) : ∀ g i out, IdPre hi lo i out → i + g = 20 → ∃ i', i' ≤ 20 ∧ IdPre hi lo i' (out ++ nameF hi lo g i) ∧ (i' = 20 ∨ atN hi lo i' = 0 ∨ 39 < atN hi lo i')
  | 0, i, out, h, hg => ⟨i, by omega, by simpa [nameF] using h, .inl (by omega)⟩
  | g + 1, i, out, h, hg => by
    unfold nameF
    by_cases hc : atN hi lo i = 0 ∨ 39 < atN hi lo i
    · rw [if_pos hc]
      exact ⟨i, by omega, by simpa using h, .inr hc⟩
    · rw [if_neg hc]
      obtain ⟨i', h1, h2, h3⟩ := nameF_pre hi lo g (i + 1) (out ++ [letterN (atN hi lo i)]) (h.next (by omega) (by omega)) (by omega)
      exact ⟨i', h1, by simpa using h2, h3⟩
def nameS (hi lo : Nat) : ByteArray := if idL (nameF hi lo 20 0) = true ∧ hiN (nameF hi lo 20 0) = hi ∧ loN (nameF hi lo 20 0) = lo then ⟨(nameF hi lo 20 0).toArray⟩ else ⟨#[63]⟩
theorem nameS_yes {hi lo : Nat} {s : ByteArray} (h : IsKey hi lo s.data.toList) : nameS hi lo = s := by
  obtain ⟨i', h1, h2, h3⟩ := nameF_pre hi lo 20 0 [] (IdPre.start _ _) rfl
  rw [List.nil_append] at h2
  have := h2.done h1 h3 h
  unfold nameS
  rw [this, if_pos (show _ ∧ _ ∧ _ from h)]
theorem nameS_no {hi lo : Nat} (h : ∀ l, ¬ IsKey hi lo l) : nameS hi lo = ⟨#[63]⟩ := by
  unfold nameS
  exact if_neg (fun k => h (nameF hi lo 20 0) k)
theorem isKey_size {hi lo : Nat} {s : ByteArray} (h : IsKey hi lo s.data.toList) : 1 ≤ s.size ∧ s.size ≤ 20 := by
  have := (idL_iff _).1 h.1
  exact ⟨by simpa using this.1, by simpa using this.2.1⟩
theorem key_cases (hi lo : Nat) : (∃ s : ByteArray, IsKey hi lo s.data.toList) ∨ (∀ l, ¬ IsKey hi lo l) := by
  by_cases h : ∃ l, IsKey hi lo l
  · obtain ⟨l, hl⟩ := h
    exact .inl ⟨⟨l.toArray⟩, by simpa using hl⟩
  · exact .inr (fun l hl => h ⟨l, hl⟩)
theorem nameS_size (hi lo : Nat) : 1 ≤ (nameS hi lo).size ∧ (nameS hi lo).size ≤ 20 := by
  rcases key_cases hi lo with ⟨s, hs⟩ | hn
  · rw [nameS_yes hs]; exact isKey_size hs
  · rw [nameS_no hn]; decide

theorem rid35_yes (hi lo : Nat) (s : ByteArray) (w : World) (h1 : hi < 18446744073709551616) (h2 : lo < 18446744073709551616) (h : IsKey hi lo s.data.toList) :
    Calls Tryd.prog 37 #[keyV hi lo] w fun e w' => e = .returned (.string s) ∧ Below w.heap.size w w' :=
  (rid35_loop hi lo w h1 h2).mono fun e w' ⟨hp, hb⟩ => by
    rcases hp with ⟨t, ht, rfl⟩ | ⟨hn, _⟩
    · have : t = s := ByteArray.ext (Array.toList_inj.1 (ht.one h))
      rw [this]; exact ⟨rfl, hb⟩
    · exact absurd h (hn _)
theorem rid35_no (hi lo : Nat) (w : World) (h1 : hi < 18446744073709551616) (h2 : lo < 18446744073709551616) (h : ∀ l, ¬ IsKey hi lo l) :
    Calls Tryd.prog 37 #[keyV hi lo] w fun e w' => e = .returned (.string ⟨#[]⟩) ∧ Below w.heap.size w w' :=
  (rid35_loop hi lo w h1 h2).mono fun e w' ⟨hp, hb⟩ => by
    rcases hp with ⟨t, ht, rfl⟩ | ⟨_, rfl⟩
    · exact absurd ht (h _)
    · exact ⟨rfl, hb⟩

set_option maxRecDepth 100000 in
set_option maxHeartbeats 1000000 in
theorem rid43_any (hi lo : Nat) (w : World) (h1 : hi < 18446744073709551616) (h2 : lo < 18446744073709551616) :
    Calls Tryd.prog 22 #[keyV hi lo] w fun e w' => e = .returned (.string (nameS hi lo)) ∧ Below w.heap.size w w' := by
  rcases key_cases hi lo with ⟨s, hs⟩ | hn
  · rw [nameS_yes hs]
    have hz := (isKey_size hs).1
    have C := Lib.hid (fun W => rid35_yes hi lo s W h1 h2 hs)
    unfold keyV at C ⊢
    have hne : s ≠ ⟨#[]⟩ := by rintro rfl; exact absurd hz (by decide)
    have hnl : s.toList.isEmpty = false := by
      rw [ByteArray.toList_eq]
      cases hl : s.data.toList with
      | nil => exact absurd (ByteArray.ext (Array.toList_inj.1 (by simpa using hl))) hne
      | cons _ _ => rfl
    clear hs hz h1 h2 hne
    go_enter Tryd.func22, Tryd.ntmps22
    go_wp2_with (go_at_call 37; refine (C.out _).mono ?_; rintro e w1 ⟨rfl, hb1⟩)
    go_ret
    exact ⟨rfl, bthen (balloc (Below.refl _ _) _) hb1⟩
  · rw [nameS_no hn]
    have C := Lib.hid (fun W => rid35_no hi lo W h1 h2 hn)
    unfold keyV at C ⊢
    clear hn h1 h2
    go_enter Tryd.func22, Tryd.ntmps22
    go_wp2_with (go_at_call 37; refine (C.out _).mono ?_; rintro e w1 ⟨rfl, hb1⟩)
    go_ret
    exact ⟨rfl, bthen (balloc (Below.refl _ _) _) hb1⟩

set_option maxRecDepth 100000 in
set_option maxHeartbeats 1000000 in
theorem repId_any (hi lo : Nat) (w : World) (h1 : hi < 18446744073709551616) (h2 : lo < 18446744073709551616) :
    Calls Tryd.prog 16 #[keyV hi lo] w fun e w' => e = .returned (.string (nameS hi lo)) ∧ Below w.heap.size w w' := by
  rcases key_cases hi lo with ⟨s, hs⟩ | hn
  · rw [nameS_yes hs]
    have C := Lib.hid (fun W => unpack_yes hi lo s W h1 h2 hs)
    unfold keyV at C ⊢
    clear hs h1 h2
    go_enter Tryd.func16, Tryd.ntmps16
    go_wp2_with (go_at_call 29; refine (C.out _).mono ?_; rintro e w1 ⟨rfl, hb1⟩)
    go_ret
    exact ⟨rfl, bthen (balloc (Below.refl _ _) _) hb1⟩
  · rw [nameS_no hn]
    have C := Lib.hid (fun W => unpack_no hi lo W h1 h2 hn)
    unfold keyV at C ⊢
    clear hn h1 h2
    go_enter Tryd.func16, Tryd.ntmps16
    go_wp2_with (go_at_call 29; refine (C.out _).mono ?_; rintro e w1 ⟨rfl, hb1⟩)
    go_ret
    exact ⟨rfl, bthen (balloc (Below.refl _ _) _) hb1⟩

def callS (c : CallD) : ByteArray := if textE c = 0 then textS c else ⟨#[63]⟩
set_option maxRecDepth 100000 in
set_option maxHeartbeats 1000000 in
theorem repCall_any (c : CallD) (w : World) (hc : c.ok) (ht : Tab w) :
    Calls Tryd.prog 14 #[callV c] w fun e w' => e = .returned (.string (callS c)) ∧ Below w.heap.size w w' := by
  have C := Lib.hid (fun W h => ltext_any c W hc (ht.below (w' := W) h))
  unfold callS
  generalize textE c = x at C ⊢
  generalize textS c = s at C ⊢
  unfold callV at C ⊢
  clear hc ht
  by_cases hx : x = 0
  · rw [if_pos hx]
    subst hx
    go_enter Tryd.func14, Tryd.ntmps14
    go_wp2_with (go_at_call 27; refine (C.out _ (balloc (Below.refl _ _) _)).mono ?_; rintro e w1 ⟨rfl, hb1⟩)
    go_ret
    exact ⟨rfl, bthen (balloc (Below.refl _ _) _) hb1⟩
  · rw [if_neg hx]
    have q1 : (x == 0) = false := by simpa using hx
    have q2 : (x != 0) = true := by simpa using hx
    go_enter Tryd.func14, Tryd.ntmps14
    go_wp2_with (go_at_call 27; refine (C.out _ (balloc (Below.refl _ _) _)).mono ?_; rintro e w1 ⟨rfl, hb1⟩)
    go_ret
    exact ⟨rfl, bthen (balloc (Below.refl _ _) _) hb1⟩
end

section
set_option linter.unusedSimpArgs false
set_option linter.unusedVariables false
open Go.RowKit Go.Lib

theorem dig_ext (d : Nat) (h : d < 10) : (⟨#[48, 49, 50, 51, 52, 53, 54, 55, 56, 57]⟩ : ByteArray).extract d (d + 1) = ⟨#[UInt8.ofNat (48 + d)]⟩ := by
  match d, h with
  | 0, _ => rfl
  | 1, _ => rfl
  | 2, _ => rfl
  | 3, _ => rfl
  | 4, _ => rfl
  | 5, _ => rfl
  | 6, _ => rfl
  | 7, _ => rfl
  | 8, _ => rfl
  | 9, _ => rfl
theorem decDigits_low {m : Nat} (h : m < 10) : decDigits m = [UInt8.ofNat (48 + m)] := by rw [decDigits, dif_pos h]
theorem decDigits_high {m : Nat} (h : ¬ m < 10) : decDigits m = decDigits (m / 10) ++ [UInt8.ofNat (48 + m % 10)] := by rw [decDigits, dif_neg h]
theorem decDigits_20 {N : Nat} (h : N ≤ 9223372036854775808) : (decDigits N).length ≤ 20 := by
  have := Lib.itoa_length_le (-(N : Int)) (by omega) (by omega)
  unfold itoa at this
  by_cases h0 : N = 0
  · subst h0; rw [decDigits_low (by decide)]; simp
  · rw [if_pos (by omega), List.length_cons, Int.natAbs_neg, Int.natAbs_natCast] at this
    omega
def DecTo (N m : Nat) (out : List UInt8) : Prop := (m < 10 ∧ decDigits N = out) ∨ (¬ m < 10 ∧ decDigits N = decDigits (m / 10) ++ out)
theorem DecTo.start (N : Nat) : DecTo N N [UInt8.ofNat (48 + N % 10)] := by
  by_cases h : N < 10
  · exact .inl ⟨h, by rw [decDigits_low h, Nat.mod_eq_of_lt h]⟩
  · exact .inr ⟨h, decDigits_high h⟩
theorem DecTo.next {N m : Nat} {out : List UInt8} (h : DecTo N m out) (hm : ¬ m < 10) : DecTo N (m / 10) (UInt8.ofNat (48 + m / 10 % 10) :: out) := by
  rcases h with ⟨h, _⟩ | ⟨_, h⟩
  · exact absurd h hm
  · by_cases h2 : m / 10 < 10
    · exact .inl ⟨h2, by rw [h, decDigits_low h2, Nat.mod_eq_of_lt h2]; rfl⟩
    · exact .inr ⟨h2, by rw [h, decDigits_high h2, List.append_assoc]; rfl⟩
theorem DecTo.len {N m : Nat} {out : List UInt8} (h : DecTo N m out) (hN : N ≤ 9223372036854775808) : out.length ≤ 20 := by
  have := decDigits_20 hN
  rcases h with ⟨_, h⟩ | ⟨_, h⟩
  · rw [h] at this; exact this
  · rw [h, List.length_append] at this; omega
theorem app_one (b : UInt8) (out : List UInt8) : (⟨#[b]⟩ : ByteArray) ++ ⟨out.toArray⟩ = ⟨(b :: out).toArray⟩ := by
  have : (⟨[b].toArray⟩ : ByteArray) ++ ⟨out.toArray⟩ = ⟨([b] ++ out).toArray⟩ := by rw [ByteArray.mk_append_mk]
  exact this

set_option maxRecDepth 100000 in
set_option maxHeartbeats 4000000 in
theorem rdec_pos (N : Nat) (w : World) (hN : N ≤ 9223372036854775807) :
    Calls Tryd.prog 19 #[.int .i64 (N : Nat)] w fun e w' => e = .returned (.string ⟨(Lib.decDigits N).toArray⟩) ∧ w' = w := by
  have h0 : ¬ (N : Int) < 0 := by omega
  have hd := dig_ext (N % 10) (Nat.mod_lt _ (by decide))
  have HST := Lib.hid (DecTo.start N)
  generalize UInt8.ofNat (48 + N % 10) = b0 at hd HST
  go_enter Tryd.func19, Tryd.ntmps19
  go_wp2
  clear hd
  go_loopg [0, 5] N (fun g s0 s5 wr => ∃ (m : Nat) (out : List UInt8), m ≤ g ∧ m ≤ 9223372036854775807 ∧ s0 = .int .i64 (m : Nat) ∧ s5 = .string ⟨out.toArray⟩ ∧ DecTo N m out ∧ wr = w)
  case atStart => exact ⟨N, [b0], Nat.le_refl _, hN, rfl, rfl, HST.out, rfl⟩
  case round =>
    obtain ⟨m, out, hg, hm, rfl, rfl, hto, rfl⟩ := hrel
    have hol := hto.len (by omega)
    have HTO := Lib.hid hto
    clear hto
    by_cases hlt : m < 10
    · have q : ¬ (10 : Int) ≤ (m : Int) := by omega
      go_wp2
      go_ret
      have := HTO.out
      rcases this with ⟨_, h⟩ | ⟨h, _⟩
      · exact ⟨by rw [h]; rfl, rfl⟩
      · exact absurd hlt h
    · have q : (10 : Int) ≤ (m : Int) := by omega
      have HN := Lib.hid (HTO.out.next hlt)
      obtain ⟨m', hm'⟩ : ∃ m', m' = m / 10 := ⟨_, rfl⟩
      rw [← hm'] at HN
      have hq : (m : Int) / 10 = (m' : Nat) := by rw [hm']; simp
      have hlt' : m' < m := by omega
      have hd := dig_ext (m' % 10) (Nat.mod_lt _ (by decide))
      generalize UInt8.ofNat (48 + m' % 10) = b1 at hd HN
      have ha := app_one b1 out
      clear hm'
      go_wp2
      go_roundg m'
      case measure => omega
      case rel => exact ⟨m', _, Nat.le_refl _, by omega, rfl, rfl, HN.out, rfl⟩
end

end Go.Proofs.YtmndhffimlkjgaaDoor
