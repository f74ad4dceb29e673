/- Walks of ident's functions: each computes what the plain law says. -/
import Derived.Test.YtfnabpmdjfejbaaDoorBase
import Derived.Test.YtfnabpmdjfejbaaDoorIdPlain
namespace Go.Proofs.YtfnabpmdjfejbaaDoor
set_option linter.unusedSimpArgs false
set_option linter.unusedVariables false
open Go.RowKit Go.Lib

set_option maxHeartbeats 400000 in
theorem code_any (c : Int) (w : World) (h0 : -2147483648 ≤ c) (h1 : c ≤ 2147483647) :
    Calls Tryd.prog 70 #[.int .i32 c] w fun e w' => e = .returned (.int .u64 (codeI c)) ∧ w = w' := by
  go_enter Tryd.func70, Tryd.ntmps70
  go_wp2
  all_goals
    go_ret
    refine ⟨?_, rfl⟩
    simp_all [codeI]
    try omega

theorem mem_at (s : ByteArray) (j : Nat) (h : j < s.size) : s[j] ∈ s.data.toList := by
  have e : s[j] = s.data.toList[j]'(by simpa using h) := rfl
  rw [e]
  exact List.getElem_mem _

/-- All bytes ahead of a place are letters. -/
def OkTo (s : ByteArray) (n : Nat) : Prop := ∀ j (h : j < s.size), j < n → okB s[j] = true

theorem okTo_list (s : ByteArray) (n : Nat) (h : s.size ≤ n) : OkTo s n ↔ ∀ b ∈ s.data.toList, okB b = true := by
  constructor
  · intro hk b hb
    obtain ⟨j, hj, rfl⟩ := List.getElem_of_mem hb
    have hj' : j < s.size := by simpa using hj
    exact hk j hj' (by omega)
  · intro hk j hj _
    exact hk _ (mem_at s j hj)

theorem okTo_zero (s : ByteArray) : OkTo s 0 := fun _ _ h => absurd h (by omega)
theorem okTo_succ (s : ByteArray) (n : Nat) (h : OkTo s n) (hn : n < s.size) (hb : okB s[n] = true) : OkTo s (n + 1) := by
  intro j hj hlt
  rcases Nat.lt_or_ge j n with h1 | h1
  · exact h j hj h1
  · obtain rfl : j = n := by omega
    exact hb

def idS (s : ByteArray) : Bool := idL s.data.toList

theorem idS_len (s : ByteArray) (h : s.size < 1 ∨ 20 < s.size) : idS s = false := by
  cases hb : idS s with
  | false => rfl
  | true =>
    have := (idL_iff _).1 hb
    simp at this
    omega
theorem idS_bad (s : ByteArray) (j : Nat) (hj : j < s.size) (h : okB s[j] = false) : idS s = false := by
  cases hb : idS s with
  | false => rfl
  | true =>
    have := ((idL_iff _).1 hb).2.2 s[j] (mem_at s j hj)
    rw [h] at this
    cases this
theorem idS_all (s : ByteArray) (h1 : 1 ≤ s.size) (h2 : s.size ≤ 20) (h : OkTo s s.size) : idS s = true :=
  (idL_iff _).2 ⟨by simpa using h1, by simpa using h2, (okTo_list s s.size (Nat.le_refl _)).1 h⟩
theorem idS_okTo (s : ByteArray) (h : idS s = true) : 1 ≤ s.size ∧ s.size ≤ 20 ∧ OkTo s s.size := by
  have := (idL_iff _).1 h
  exact ⟨by simpa using this.1, by simpa using this.2.1, (okTo_list s s.size (Nat.le_refl _)).2 this.2.2⟩

def chkV (s : ByteArray) : Int := if idS s = true then 0 else 2

theorem okB_code (b : UInt8) : okB b = true → (codeI b.toNat == 0) = false := by
  intro h
  rw [codeI_cast]
  simpa [okB] using h
/-- A rune that begins with a byte that is no letter has no number. -/
theorem rune_bad (s : ByteArray) (pos : Nat) (h : pos < s.size) (hb : okB s[pos] = false) : (codeI (Utf8.decode s pos).1 == 0) = true := by
  by_cases ha : (s[pos]'h).toNat < 128
  · rw [decode_ascii s pos h ha]
    simp only [beq_iff_eq]
    have : codeB s[pos] = 0 := by simpa [okB] using hb
    rw [codeI_cast, this]; rfl
  · have := (decode_high s pos h (by omega)).1
    simp only [beq_iff_eq]
    exact codeI_high _ (by omega)

set_option maxHeartbeats 1000000 in
theorem check_any (s : ByteArray) (w : World) (hm : s.size ≤ maxLen) :
    Calls Tryd.prog 49 #[.string s] w fun e w' => e = .returned (.int .i64 (chkV s)) ∧ Below w.heap.size w w' := by
  unfold maxLen at hm
  by_cases h1 : s.size < 1
  · have hf : chkV s = 2 := by simp [chkV, idS_len s (.inl h1)]
    rw [hf]
    clear hf
    go_enter Tryd.func49, Tryd.ntmps49
    go_wp2
    go_ret
    exact ⟨rfl, Below.refl _ _⟩
  · by_cases h2 : 20 < s.size
    · have hf : chkV s = 2 := by simp [chkV, idS_len s (.inr h2)]
      rw [hf]
      clear hf
      go_enter Tryd.func49, Tryd.ntmps49
      go_wp2
      go_ret
      exact ⟨rfl, Below.refl _ _⟩
    · go_enter Tryd.func49, Tryd.ntmps49
      go_wp2
      go_loopw [4] (fun _ w' => ∃ pos : Nat, pos ≤ s.size ∧ w' = w.iter s pos ∧ OkTo s pos) (fun _ w' => s.size - w'.iterPos w.heap.size)
      case atStart => exact ⟨0, Nat.zero_le _, rfl, okTo_zero s⟩
      case round =>
        obtain ⟨pos, hp0, rfl, hok⟩ := hrel
        by_cases hp : pos < s.size
        · cases hb : okB s[pos] with
          | true =>
            have ha := okB_ascii _ hb
            have hc := okB_code _ hb
            have hok' := okTo_succ s pos hok hp hb
            have hnx : ∀ ty, (Instr.next (.pointer (some ⟨w.heap.size, 0, none⟩)) true ty).run Tryd.prog (w.iter s pos) = _ := fun ty => run_next_ascii w s pos ty hp ha
            clear hb hok
            go_wp2_with (go_at_call 70; refine (code_any _ _ (by omega) (by omega)).mono ?_; rintro e w' ⟨rfl, rfl⟩)
            go_roundw
            case rel => exact ⟨pos + 1, hp, rfl, hok'⟩
            case measure => simp; omega
          | false =>
            have hr := rune_bad s pos hp hb
            have hle := decode_le s pos
            have hf : chkV s = 2 := by simp [chkV, idS_bad s pos hp hb]
            have hnx : ∀ ty, (Instr.next (.pointer (some ⟨w.heap.size, 0, none⟩)) true ty).run Tryd.prog (w.iter s pos) = _ := fun ty => run_next_any w s pos ty hp
            clear hb hok
            have Hf := Lib.hid hf
            clear hf
            go_wp2_with (go_at_call 70; refine (code_any _ _ (by omega) (by omega)).mono ?_; rintro e w' ⟨rfl, rfl⟩)
            go_ret
            rw [Hf.out]
            exact ⟨rfl, (Below.refl _ _).alloc (Nat.le_refl _) _⟩
        · have hf : chkV s = 0 := by
            obtain rfl : pos = s.size := by omega
            simp [chkV, idS_all s (by omega) (by omega) hok]
          have Hf := Lib.hid hf
          clear hf hok
          have hnx : ∀ ty, (Instr.next (.pointer (some ⟨w.heap.size, 0, none⟩)) true ty).run Tryd.prog (w.iter s pos) = _ := fun ty => run_next_end w s pos ty hp
          go_wp2
          go_ret
          rw [Hf.out]
          exact ⟨rfl, (Below.refl _ _).alloc (Nat.le_refl _) _⟩
end Go.Proofs.YtfnabpmdjfejbaaDoor
