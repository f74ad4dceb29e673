/- Walks of ident's functions: each computes what the plain law says; Walk of ident.Pack; The walk of ident's Cmp. -/
import Derived.Test.YtmndhffimlkjgaaDoorJ01
namespace Go.Proofs.YtmndhffimlkjgaaDoor

section
set_option linter.unusedSimpArgs false
set_option linter.unusedVariables false
open Go.RowKit Go.Lib

set_option maxHeartbeats 400000 in
theorem code_any (c : Int) (w : World) (h0 : -2147483648 ≤ c) (h1 : c ≤ 2147483647) :
    Calls Tryd.prog 64 #[.int .i32 c] w fun e w' => e = .returned (.int .u64 (codeI c)) ∧ w = w' := by
  go_enter Tryd.func64, Tryd.ntmps64
  go_wp2
  all_goals
    go_ret
    refine ⟨?_, rfl⟩
    simp_all [codeI]
    try omega

theorem mem_at (s : ByteArray) (j : Nat) (h : j < s.size) : s[j] ∈ s.data.toList := by
  have e : s[j] = s.data.toList[j]'(by simpa using h) := rfl
  rw [e]
  exact List.getElem_mem _

/-- All bytes ahead of a place are letters. -/
def OkTo (s : ByteArray) (n : Nat) : Prop := ∀ j (h : j < s.size), j < n → okB s[j] = true

theorem okTo_list (s : ByteArray) (n : Nat) (h : s.size ≤ n) : OkTo s n ↔ ∀ b ∈ s.data.toList, okB b = true := by
  constructor
  · intro hk b hb
    obtain ⟨j, hj, rfl⟩ := List.getElem_of_mem hb
    have hj' : j < s.size := by simpa using hj
    exact hk j hj' (by omega)
  · intro hk j hj _
    exact hk _ (mem_at s j hj)

theorem okTo_zero (s : ByteArray) : OkTo s 0 := fun _ _ h => absurd h (by omega)
theorem okTo_succ (s : ByteArray) (n : Nat) (h : OkTo s n) (hn : n < s.size) (hb : okB s[n] = true) : OkTo s (n + 1) := by
  intro j hj hlt
  rcases Nat.lt_or_ge j n with h1 | h1
  · exact h j hj h1
  · obtain rfl : j = n := by omega
    exact hb

def idS (s : ByteArray) : Bool := idL s.data.toList

theorem idS_len (s : ByteArray) (h : s.size < 1 ∨ 20 < s.size) : idS s = false := by
  cases hb : idS s with
  | false => rfl
  | true =>
    have := (idL_iff _).1 hb
    simp at this
    omega
theorem idS_bad (s : ByteArray) (j : Nat) (hj : j < s.size) (h : okB s[j] = false) : idS s = false := by
  cases hb : idS s with
  | false => rfl
  | true =>
    have := ((idL_iff _).1 hb).2.2 s[j] (mem_at s j hj)
    rw [h] at this
    cases this
theorem idS_all (s : ByteArray) (h1 : 1 ≤ s.size) (h2 : s.size ≤ 20) (h : OkTo s s.size) : idS s = true :=
  (idL_iff _).2 ⟨by simpa using h1, by simpa using h2, (okTo_list s s.size (Nat.le_refl _)).1 h⟩
theorem idS_okTo (s : ByteArray) (h : idS s = true) : 1 ≤ s.size ∧ s.size ≤ 20 ∧ OkTo s s.size := by
  have := (idL_iff _).1 h
  exact ⟨by simpa using this.1, by simpa using this.2.1, (okTo_list s s.size (Nat.le_refl _)).2 this.2.2⟩

def chkV (s : ByteArray) : Int := if idS s = true then 0 else 2

theorem okB_code (b : UInt8) : okB b = true → (codeI b.toNat == 0) = false := by
  intro h
  rw [codeI_cast]
  simpa [okB] using h
/-- A rune that begins with a byte that is no letter has no number. -/
theorem rune_bad (s : ByteArray) (pos : Nat) (h : pos < s.size) (hb : okB s[pos] = false) : (codeI (Utf8.decode s pos).1 == 0) = true := by
  by_cases ha : (s[pos]'h).toNat < 128
  · rw [decode_ascii s pos h ha]
    simp only [beq_iff_eq]
    have : codeB s[pos] = 0 := by simpa [okB] using hb
    rw [codeI_cast, this]; rfl
  · have := (decode_high s pos h (by omega)).1
    simp only [beq_iff_eq]
    exact codeI_high _ (by omega)

set_option maxHeartbeats 1000000 in
theorem check_any (s : ByteArray) (w : World) (hm : s.size ≤ maxLen) :
    Calls Tryd.prog 45 #[.string s] w fun e w' => e = .returned (.int .i64 (chkV s)) ∧ Below w.heap.size w w' := by
  unfold maxLen at hm
  by_cases h1 : s.size < 1
  · have hf : chkV s = 2 := by simp [chkV, idS_len s (.inl h1)]
    rw [hf]
    clear hf
    go_enter Tryd.func45, Tryd.ntmps45
    go_wp2
    go_ret
    exact ⟨rfl, Below.refl _ _⟩
  · by_cases h2 : 20 < s.size
    · have hf : chkV s = 2 := by simp [chkV, idS_len s (.inr h2)]
      rw [hf]
      clear hf
      go_enter Tryd.func45, Tryd.ntmps45
      go_wp2
      go_ret
      exact ⟨rfl, Below.refl _ _⟩
    · go_enter Tryd.func45, Tryd.ntmps45
      go_wp2
      go_loopw [4] (fun _ w' => ∃ pos : Nat, pos ≤ s.size ∧ w' = w.iter s pos ∧ OkTo s pos) (fun _ w' => s.size - w'.iterPos w.heap.size)
      case atStart => exact ⟨0, Nat.zero_le _, rfl, okTo_zero s⟩
      case round =>
        obtain ⟨pos, hp0, rfl, hok⟩ := hrel
        by_cases hp : pos < s.size
        · cases hb : okB s[pos] with
          | true =>
            have ha := okB_ascii _ hb
            have hc := okB_code _ hb
            have hok' := okTo_succ s pos hok hp hb
            have hnx : ∀ ty, (Instr.next (.pointer (some ⟨w.heap.size, 0, none⟩)) true ty).run Tryd.prog (w.iter s pos) = _ := fun ty => run_next_ascii w s pos ty hp ha
            clear hb hok
            go_wp2_with (go_at_call 64; refine (code_any _ _ (by omega) (by omega)).mono ?_; rintro e w' ⟨rfl, rfl⟩)
            go_roundw
            case rel => exact ⟨pos + 1, hp, rfl, hok'⟩
            case measure => simp; omega
          | false =>
            have hr := rune_bad s pos hp hb
            have hle := decode_le s pos
            have hf : chkV s = 2 := by simp [chkV, idS_bad s pos hp hb]
            have hnx : ∀ ty, (Instr.next (.pointer (some ⟨w.heap.size, 0, none⟩)) true ty).run Tryd.prog (w.iter s pos) = _ := fun ty => run_next_any w s pos ty hp
            clear hb hok
            have Hf := Lib.hid hf
            clear hf
            go_wp2_with (go_at_call 64; refine (code_any _ _ (by omega) (by omega)).mono ?_; rintro e w' ⟨rfl, rfl⟩)
            go_ret
            rw [Hf.out]
            exact ⟨rfl, (Below.refl _ _).alloc (Nat.le_refl _) _⟩
        · have hf : chkV s = 0 := by
            obtain rfl : pos = s.size := by omega
            simp [chkV, idS_all s (by omega) (by omega) hok]
          have Hf := Lib.hid hf
          clear hf hok
          have hnx : ∀ ty, (Instr.next (.pointer (some ⟨w.heap.size, 0, none⟩)) true ty).run Tryd.prog (w.iter s pos) = _ := fun ty => run_next_end w s pos ty hp
          go_wp2
          go_ret
          rw [Hf.out]
          exact ⟨rfl, (Below.refl _ _).alloc (Nat.le_refl _) _⟩
end

section
set_option linter.unusedSimpArgs false
set_option linter.unusedVariables false
open Go.RowKit Go.Lib

def packErr : Value := .tuple #[.agg #[.int .u64 0, .int .u64 0], .int .i64 2]
def packV (s : ByteArray) : Value := if idS s = true then .tuple #[.agg #[.int .u64 (hiN s.data.toList), .int .u64 (loN s.data.toList)], .int .i64 0] else packErr

set_option maxHeartbeats 1000000 in
theorem pack_bad (s : ByteArray) (w : World) (hm : s.size ≤ maxLen) (hb : idS s = false) :
    Calls Tryd.prog 51 #[.string s] w fun e w' => e = .returned packErr ∧ Below w.heap.size w w' := by
  have hc : chkV s = 2 := by simp [chkV, hb]
  have Hc := Lib.hid hc
  clear hc hb
  go_enter Tryd.func51, Tryd.ntmps51
  go_wp2_with (go_at_call 45; refine (check_any _ _ hm).mono ?_; rw [Hc.out]; rintro e w1 ⟨rfl, hb1⟩; obtain ⟨hc1, hf1⟩ := bcell hb1; have hz1 := hb1.size; simp at hz1)
  exact bodyPost_ret (v := packErr) (by simp [packErr, results, Tryd.results51, go_sem, hc1, hf1]) rfl ⟨rfl, ((((Below.refl _ _).alloc (Nat.le_refl _) _).trans (hb1.mono (by simp))).setCell (by simp) _).setCell (by simp) _⟩

/-- One round of Pack on a word: the digit goes to its place. -/
theorem word_step (l : List UInt8) (a m pos : Nat) (hm : m < 10) (hpos : pos % 10 = m) (c : UInt8) (q : Nat) (hq : a + m = q) (hcq : dig l q = codeB c) :
    bits BinOp.or IntKind.u64 (partW l a m : Nat) (IntKind.u64.wrap (codeI (c.toNat : Int) * 2 ^ (6 * (9 - (pos : Int) % 10)).toNat)) = (partW l a (m + 1) : Nat) := by
  have hc : dig l (a + m) = codeB c := by rw [hq]; exact hcq
  have h1 := partW_lt l a m (by omega)
  have h2 := partW_succ l a m hm
  have h3 := partW_lt l a (m + 1) (by omega)
  have e : (6 * (9 - (pos : Int) % 10)).toNat = 6 * (9 - m) := by omega
  have hle : dig l (a + m) <<< (6 * (9 - m)) ≤ partW l a (m + 1) := by rw [← h2]; exact Nat.right_le_or
  rw [Nat.shiftLeft_eq, hc] at h2 hle
  rw [e, codeI_cast]
  have e2 : ((codeB c : Nat) : Int) * 2 ^ (6 * (9 - m)) = ((codeB c * 2 ^ (6 * (9 - m)) : Nat) : Int) := by
    rw [Int.natCast_mul, Int.natCast_pow]; rfl
  rw [e2, u64_wrap _ (by omega), u64_or_nat _ _ (by omega) (by omega), h2]

set_option maxHeartbeats 1000000 in
theorem pack_good (s : ByteArray) (w : World) (hm : s.size ≤ maxLen) (hb : idS s = true) :
    Calls Tryd.prog 51 #[.string s] w fun e w' => e = .returned (packV s) ∧ Below w.heap.size w w' := by
  have hc : chkV s = 0 := by simp [chkV, hb]
  have Hc := Lib.hid hc
  obtain ⟨hl1, hl2, hok⟩ := idS_okTo s hb
  have hv : packV s = .tuple #[.agg #[.int .u64 (hiN s.data.toList), .int .u64 (loN s.data.toList)], .int .i64 0] := by simp [packV, hb]
  have Hv := Lib.hid hv
  clear hc hb hv
  go_enter Tryd.func51, Tryd.ntmps51
  go_wp2_with (go_at_call 45; refine (check_any _ _ hm).mono ?_; rw [Hc.out]; rintro e w1 ⟨rfl, hb1⟩; obtain ⟨hc1, hf1⟩ := bcell hb1; have hz1 := hb1.size; simp at hz1)
  go_loopw [6, 7, 8] (fun _ _ _ w' => ∃ pos n : Nat, pos ≤ s.size ∧ w' = ((w1.alloc (.cells #[.int .u64 (partW s.data.toList 0 (min pos 10) : Nat), .int .u64 (partW s.data.toList 10 (pos - 10) : Nat)] 40)).alloc (.stringIter s pos)).drewN n) (fun _ _ _ w' => s.size - w'.iterPos (w1.heap.size + 1))
  case atStart => exact ⟨0, 0, Nat.zero_le _, by simp [partW_zero]; rfl⟩
  case round =>
    obtain ⟨pos, n, hp0, rfl⟩ := hrel
    by_cases hp : pos < s.size
    · have hbt := hok pos hp hp
      have ha := okB_ascii _ hbt
      have hnx : ∀ ty, (Instr.next (.pointer (some ⟨w1.heap.size + 1, 0, none⟩)) true ty).run Tryd.prog (((w1.alloc (.cells #[.int .u64 (partW s.data.toList 0 (min pos 10) : Nat), .int .u64 (partW s.data.toList 10 (pos - 10) : Nat)] 40)).alloc (.stringIter s pos)).drewN n) = _ := fun ty => next_ascii_n (w1.alloc _) s pos n _ ty (by simp) hp ha
      have hbd := codeI_bd (s[pos]).toNat
      have hdg : dig s.data.toList pos = codeB s[pos] := by rw [dig_at _ _ (by simpa using hp)]; rfl
      by_cases h10 : pos < 10
      · have hst := word_step s.data.toList 0 pos pos h10 (by omega) s[pos] pos (by omega) hdg
        have Hst := Lib.hid hst
        clear hbt hst hdg
        go_wp2
        go_region_with (go_at_call 64; refine (code_any _ _ (by omega) (by omega)).mono ?_; rintro e w' ⟨rfl, rfl⟩)
        all_goals
          go_roundw
          case rel =>
            (repeat apply Exists.intro)
            refine ⟨⟨pos + 1, n + 1, by omega, ?_⟩, rfl⟩
            rw [Nat.min_eq_left (Nat.le_of_lt h10), Hst.out, Nat.min_eq_left (show pos + 1 ≤ 10 by omega), show pos - 10 = pos + 1 - 10 by omega]
          case measure => rw [iterPos_n _ _ _ _ _ (by simp), iterPos_n _ _ _ _ _ (by simp)]; omega
      · have hst := word_step s.data.toList 10 (pos - 10) pos (by omega) (by omega) s[pos] pos (by omega) hdg
        have Hst := Lib.hid hst
        clear hbt hst hdg
        go_wp2
        go_region_with (go_at_call 64; refine (code_any _ _ (by omega) (by omega)).mono ?_; rintro e w' ⟨rfl, rfl⟩)
        all_goals
          go_roundw
          case rel =>
            (repeat apply Exists.intro)
            refine ⟨⟨pos + 1, n + 1, by omega, ?_⟩, rfl⟩
            rw [Hst.out, show min pos 10 = min (pos + 1) 10 by omega, show pos - 10 + 1 = pos + 1 - 10 by omega]
          case measure => rw [iterPos_n _ _ _ _ _ (by simp), iterPos_n _ _ _ _ _ (by simp)]; omega
    · have hnx : ∀ ty, (Instr.next (.pointer (some ⟨w1.heap.size + 1, 0, none⟩)) true ty).run Tryd.prog (((w1.alloc (.cells #[.int .u64 (partW s.data.toList 0 (min pos 10) : Nat), .int .u64 (partW s.data.toList 10 (pos - 10) : Nat)] 40)).alloc (.stringIter s pos)).drewN n) = _ := fun ty => next_end_n (w1.alloc _) s pos n _ ty (by simp) hp
      have hv1 : partW s.data.toList 0 (min pos 10) = hiN s.data.toList := by
        rcases Nat.lt_or_ge pos 10 with h | h
        · exact partW_all _ _ _ (by omega) (by simp; omega)
        · rw [Nat.min_eq_right h, partW_ten]; rfl
      have hv2 : partW s.data.toList 10 (pos - 10) = loN s.data.toList := partW_all _ _ _ (by omega) (by simp; omega)
      rw [← hv1, ← hv2] at Hv
      clear hv1 hv2
      have q1 : w.heap.size < w1.heap.size := by omega
      have q2 : w.heap.size < w1.heap.size + 1 := by omega
      have q3 : w.heap.size ≠ w1.heap.size := by omega
      have q4 : w.heap.size ≠ w1.heap.size + 1 := by omega
      have q5 : w1.cell? ⟨w.heap.size, 0, none⟩ = some (.int .u64 0) := by rw [hc1 _ _ (by simp)]; simp [go_sem]
      have q6 : w1.cell? ⟨w.heap.size, 1, none⟩ = some (.int .u64 0) := by rw [hc1 _ _ (by simp)]; simp [go_sem]
      have q7 : w1.frozen? ⟨w.heap.size, 0, none⟩ = false := by rw [hf1 _ _ (by simp)]; simp [go_sem]
      have q8 : w1.frozen? ⟨w.heap.size, 1, none⟩ = false := by rw [hf1 _ _ (by simp)]; simp [go_sem]
      go_wp2
      exact bodyPost_ret (v := packV s) (by rw [Hv.out]; simp [results, Tryd.results51, go_sem, q1, q5, q6, q7, q8]) rfl
        ⟨rfl, below_drewN ((((((Below.refl _ _).alloc (Nat.le_refl _) _).trans (hb1.mono (by simp))).setCell (by simp) _).setCell (by simp) _).alloc (by simp [World.setCell]; omega) _ |>.alloc (by simp [World.setCell]; omega) _) n⟩

theorem pack_any (s : ByteArray) (w : World) (hm : s.size ≤ maxLen) :
    Calls Tryd.prog 51 #[.string s] w fun e w' => e = .returned (packV s) ∧ Below w.heap.size w w' := by
  cases hb : idS s with
  | true => exact pack_good s w hm hb
  | false =>
    have : packV s = packErr := by simp [packV, hb]
    rw [this]
    exact pack_bad s w hm hb
end

section
set_option linter.unusedSimpArgs false
set_option linter.unusedVariables false
open Go.RowKit Go.Lib

def cmpI (a b c d : Nat) : Int := if a = c ∧ b = d then 0 else if a < c ∨ a = c ∧ b < d then -1 else 1

set_option maxRecDepth 100000 in
set_option maxHeartbeats 1000000 in
theorem cmp_any (a b c d : Nat) (w : World) (h1 : a < 18446744073709551616) (h2 : b < 18446744073709551616) (h3 : c < 18446744073709551616) (h4 : d < 18446744073709551616) :
    Calls Tryd.prog 40 #[keyV a b, keyV c d] w fun e w' => e = .returned (.int .i64 (cmpI a b c d)) ∧ Below w.heap.size w w' := by
  unfold keyV
  by_cases e1 : a = c
  · subst e1
    by_cases e2 : b = d
    · subst e2
      have hv : cmpI a b a b = 0 := by simp [cmpI]
      rw [hv]
      clear hv
      go_enter Tryd.func40, Tryd.ntmps40
      go_wp2
      go_ret
      exact ⟨rfl, ((Below.refl _ _).alloc (Nat.le_refl _) _).alloc (by simp) _⟩
    · have q : ((b : Int) == (d : Int)) = false := by simp; omega
      by_cases e3 : b < d
      · have hv : cmpI a b a d = -1 := by simp [cmpI, e2, e3]
        rw [hv]
        clear hv
        go_enter Tryd.func40, Tryd.ntmps40
        go_wp2
        go_ret
        exact ⟨rfl, ((Below.refl _ _).alloc (Nat.le_refl _) _).alloc (by simp) _⟩
      · have hv : cmpI a b a d = 1 := by simp [cmpI, e2, e3]
        rw [hv]
        clear hv
        go_enter Tryd.func40, Tryd.ntmps40
        go_wp2
        go_ret
        exact ⟨rfl, ((Below.refl _ _).alloc (Nat.le_refl _) _).alloc (by simp) _⟩
  · have q : ((a : Int) == (c : Int)) = false := by simp; omega
    by_cases e3 : a < c
    · have hv : cmpI a b c d = -1 := by simp [cmpI, e1, e3]
      rw [hv]
      clear hv
      go_enter Tryd.func40, Tryd.ntmps40
      go_wp2
      go_ret
      exact ⟨rfl, ((Below.refl _ _).alloc (Nat.le_refl _) _).alloc (by simp) _⟩
    · have hv : cmpI a b c d = 1 := by simp [cmpI, e1, e3]
      rw [hv]
      clear hv
      go_enter Tryd.func40, Tryd.ntmps40
      go_wp2
      go_ret
      exact ⟨rfl, ((Below.refl _ _).alloc (Nat.le_refl _) _).alloc (by simp) _⟩
end

end Go.Proofs.YtmndhffimlkjgaaDoor
