/- Walk of ident.Pack; The walk of ident's Cmp; Walks of ident's at, letter, Unpack, Right, Cmp; Walks of flywheelref03's place, Id, Key, Before. -/
import Derived.Test.YtfegielnmdppgaaGreatJ10
import Derived.Test.YtfegielnmdppgaaGreatJ01
namespace Go.Proofs.YtfegielnmdppgaaGreat

section
set_option linter.unusedSimpArgs false
set_option linter.unusedVariables false
open Go.RowKit Go.Lib

def packErr : Value := .tuple #[.agg #[.int .u64 0, .int .u64 0], .int .i64 2]
def packV (s : ByteArray) : Value := if idS s = true then .tuple #[.agg #[.int .u64 (hiN s.data.toList), .int .u64 (loN s.data.toList)], .int .i64 0] else packErr

set_option maxHeartbeats 1000000 in
theorem pack_bad (s : ByteArray) (w : World) (hm : s.size ≤ maxLen) (hb : idS s = false) :
    Calls Tryz.prog 82 #[.string s] w fun e w' => e = .returned packErr ∧ Below w.heap.size w w' := by
  have hc : chkV s = 2 := by simp [chkV, hb]
  have Hc := Lib.hid hc
  clear hc hb
  go_enter Tryz.func82, Tryz.ntmps82
  go_wp2_with (go_at_call 104; refine (check_any _ _ hm).mono ?_; rw [Hc.out]; rintro e w1 ⟨rfl, hb1⟩; obtain ⟨hc1, hf1⟩ := bcell hb1; have hz1 := hb1.size; simp at hz1)
  exact bodyPost_ret (v := packErr) (by simp [packErr, results, Tryz.results82, go_sem, hc1, hf1]) rfl ⟨rfl, ((((Below.refl _ _).alloc (Nat.le_refl _) _).trans (hb1.mono (by simp))).setCell (by simp) _).setCell (by simp) _⟩

/-- One round of Pack on a word: the digit goes to its place. -/
theorem word_step (l : List UInt8) (a m pos : Nat) (hm : m < 10) (hpos : pos % 10 = m) (c : UInt8) (q : Nat) (hq : a + m = q) (hcq : dig l q = codeB c) :
    bits BinOp.or IntKind.u64 (partW l a m : Nat) (IntKind.u64.wrap (codeI (c.toNat : Int) * 2 ^ (6 * (9 - (pos : Int) % 10)).toNat)) = (partW l a (m + 1) : Nat) := by
  have hc : dig l (a + m) = codeB c := by rw [hq]; exact hcq
  have h1 := partW_lt l a m (by omega)
  have h2 := partW_succ l a m hm
  have h3 := partW_lt l a (m + 1) (by omega)
  have e : (6 * (9 - (pos : Int) % 10)).toNat = 6 * (9 - m) := by omega
  have hle : dig l (a + m) <<< (6 * (9 - m)) ≤ partW l a (m + 1) := by rw [← h2]; exact Nat.right_le_or
  rw [Nat.shiftLeft_eq, hc] at h2 hle
  rw [e, codeI_cast]
  have e2 : ((codeB c : Nat) : Int) * 2 ^ (6 * (9 - m)) = ((codeB c * 2 ^ (6 * (9 - m)) : Nat) : Int) := by
    rw [Int.natCast_mul, Int.natCast_pow]; rfl
  rw [e2, u64_wrap _ (by omega), u64_or_nat _ _ (by omega) (by omega), h2]

set_option maxHeartbeats 1000000 in
theorem pack_good (s : ByteArray) (w : World) (hm : s.size ≤ maxLen) (hb : idS s = true) :
    Calls Tryz.prog 82 #[.string s] w fun e w' => e = .returned (packV s) ∧ Below w.heap.size w w' := by
  have hc : chkV s = 0 := by simp [chkV, hb]
  have Hc := Lib.hid hc
  obtain ⟨hl1, hl2, hok⟩ := idS_okTo s hb
  have hv : packV s = .tuple #[.agg #[.int .u64 (hiN s.data.toList), .int .u64 (loN s.data.toList)], .int .i64 0] := by simp [packV, hb]
  have Hv := Lib.hid hv
  clear hc hb hv
  go_enter Tryz.func82, Tryz.ntmps82
  go_wp2_with (go_at_call 104; refine (check_any _ _ hm).mono ?_; rw [Hc.out]; rintro e w1 ⟨rfl, hb1⟩; obtain ⟨hc1, hf1⟩ := bcell hb1; have hz1 := hb1.size; simp at hz1)
  go_loopw [6, 7, 8] (fun _ _ _ w' => ∃ pos n : Nat, pos ≤ s.size ∧ w' = ((w1.alloc (.cells #[.int .u64 (partW s.data.toList 0 (min pos 10) : Nat), .int .u64 (partW s.data.toList 10 (pos - 10) : Nat)] 40)).alloc (.stringIter s pos)).drewN n) (fun _ _ _ w' => s.size - w'.iterPos (w1.heap.size + 1))
  case atStart => exact ⟨0, 0, Nat.zero_le _, by simp [partW_zero]; rfl⟩
  case round =>
    obtain ⟨pos, n, hp0, rfl⟩ := hrel
    by_cases hp : pos < s.size
    · have hbt := hok pos hp hp
      have ha := okB_ascii _ hbt
      have hnx : ∀ ty, (Instr.next (.pointer (some ⟨w1.heap.size + 1, 0, none⟩)) true ty).run Tryz.prog (((w1.alloc (.cells #[.int .u64 (partW s.data.toList 0 (min pos 10) : Nat), .int .u64 (partW s.data.toList 10 (pos - 10) : Nat)] 40)).alloc (.stringIter s pos)).drewN n) = _ := fun ty => next_ascii_n (w1.alloc _) s pos n _ ty (by simp) hp ha
      have hbd := codeI_bd (s[pos]).toNat
      have hdg : dig s.data.toList pos = codeB s[pos] := by rw [dig_at _ _ (by simpa using hp)]; rfl
      by_cases h10 : pos < 10
      · have hst := word_step s.data.toList 0 pos pos h10 (by omega) s[pos] pos (by omega) hdg
        have Hst := Lib.hid hst
        clear hbt hst hdg
        go_wp2
        go_region_with (go_at_call 145; refine (code_any _ _ (by omega) (by omega)).mono ?_; rintro e w' ⟨rfl, rfl⟩)
        all_goals
          go_roundw
          case rel =>
            (repeat apply Exists.intro)
            refine ⟨⟨pos + 1, n + 1, by omega, ?_⟩, rfl⟩
            rw [Nat.min_eq_left (Nat.le_of_lt h10), Hst.out, Nat.min_eq_left (show pos + 1 ≤ 10 by omega), show pos - 10 = pos + 1 - 10 by omega]
          case measure => rw [iterPos_n _ _ _ _ _ (by simp), iterPos_n _ _ _ _ _ (by simp)]; omega
      · have hst := word_step s.data.toList 10 (pos - 10) pos (by omega) (by omega) s[pos] pos (by omega) hdg
        have Hst := Lib.hid hst
        clear hbt hst hdg
        go_wp2
        go_region_with (go_at_call 145; refine (code_any _ _ (by omega) (by omega)).mono ?_; rintro e w' ⟨rfl, rfl⟩)
        all_goals
          go_roundw
          case rel =>
            (repeat apply Exists.intro)
            refine ⟨⟨pos + 1, n + 1, by omega, ?_⟩, rfl⟩
            rw [Hst.out, show min pos 10 = min (pos + 1) 10 by omega, show pos - 10 + 1 = pos + 1 - 10 by omega]
          case measure => rw [iterPos_n _ _ _ _ _ (by simp), iterPos_n _ _ _ _ _ (by simp)]; omega
    · have hnx : ∀ ty, (Instr.next (.pointer (some ⟨w1.heap.size + 1, 0, none⟩)) true ty).run Tryz.prog (((w1.alloc (.cells #[.int .u64 (partW s.data.toList 0 (min pos 10) : Nat), .int .u64 (partW s.data.toList 10 (pos - 10) : Nat)] 40)).alloc (.stringIter s pos)).drewN n) = _ := fun ty => next_end_n (w1.alloc _) s pos n _ ty (by simp) hp
      have hv1 : partW s.data.toList 0 (min pos 10) = hiN s.data.toList := by
        rcases Nat.lt_or_ge pos 10 with h | h
        · exact partW_all _ _ _ (by omega) (by simp; omega)
        · rw [Nat.min_eq_right h, partW_ten]; rfl
      have hv2 : partW s.data.toList 10 (pos - 10) = loN s.data.toList := partW_all _ _ _ (by omega) (by simp; omega)
      rw [← hv1, ← hv2] at Hv
      clear hv1 hv2
      have q1 : w.heap.size < w1.heap.size := by omega
      have q2 : w.heap.size < w1.heap.size + 1 := by omega
      have q3 : w.heap.size ≠ w1.heap.size := by omega
      have q4 : w.heap.size ≠ w1.heap.size + 1 := by omega
      have q5 : w1.cell? ⟨w.heap.size, 0, none⟩ = some (.int .u64 0) := by rw [hc1 _ _ (by simp)]; simp [go_sem]
      have q6 : w1.cell? ⟨w.heap.size, 1, none⟩ = some (.int .u64 0) := by rw [hc1 _ _ (by simp)]; simp [go_sem]
      have q7 : w1.frozen? ⟨w.heap.size, 0, none⟩ = false := by rw [hf1 _ _ (by simp)]; simp [go_sem]
      have q8 : w1.frozen? ⟨w.heap.size, 1, none⟩ = false := by rw [hf1 _ _ (by simp)]; simp [go_sem]
      go_wp2
      exact bodyPost_ret (v := packV s) (by rw [Hv.out]; simp [results, Tryz.results82, go_sem, q1, q5, q6, q7, q8]) rfl
        ⟨rfl, below_drewN ((((((Below.refl _ _).alloc (Nat.le_refl _) _).trans (hb1.mono (by simp))).setCell (by simp) _).setCell (by simp) _).alloc (by simp [World.setCell]; omega) _ |>.alloc (by simp [World.setCell]; omega) _) n⟩

theorem pack_any (s : ByteArray) (w : World) (hm : s.size ≤ maxLen) :
    Calls Tryz.prog 82 #[.string s] w fun e w' => e = .returned (packV s) ∧ Below w.heap.size w w' := by
  cases hb : idS s with
  | true => exact pack_good s w hm hb
  | false =>
    have : packV s = packErr := by simp [packV, hb]
    rw [this]
    exact pack_bad s w hm hb
end

section
set_option linter.unusedSimpArgs false
set_option linter.unusedVariables false
open Go.RowKit Go.Lib

def cmpI (a b c d : Nat) : Int := if a = c ∧ b = d then 0 else if a < c ∨ a = c ∧ b < d then -1 else 1

set_option maxRecDepth 100000 in
set_option maxHeartbeats 1000000 in
theorem cmp_any (a b c d : Nat) (w : World) (h1 : a < 18446744073709551616) (h2 : b < 18446744073709551616) (h3 : c < 18446744073709551616) (h4 : d < 18446744073709551616) :
    Calls Tryz.prog 69 #[keyV a b, keyV c d] w fun e w' => e = .returned (.int .i64 (cmpI a b c d)) ∧ Below w.heap.size w w' := by
  unfold keyV
  by_cases e1 : a = c
  · subst e1
    by_cases e2 : b = d
    · subst e2
      have hv : cmpI a b a b = 0 := by simp [cmpI]
      rw [hv]
      clear hv
      go_enter Tryz.func69, Tryz.ntmps69
      go_wp2
      go_ret
      exact ⟨rfl, ((Below.refl _ _).alloc (Nat.le_refl _) _).alloc (by simp) _⟩
    · have q : ((b : Int) == (d : Int)) = false := by simp; omega
      by_cases e3 : b < d
      · have hv : cmpI a b a d = -1 := by simp [cmpI, e2, e3]
        rw [hv]
        clear hv
        go_enter Tryz.func69, Tryz.ntmps69
        go_wp2
        go_ret
        exact ⟨rfl, ((Below.refl _ _).alloc (Nat.le_refl _) _).alloc (by simp) _⟩
      · have hv : cmpI a b a d = 1 := by simp [cmpI, e2, e3]
        rw [hv]
        clear hv
        go_enter Tryz.func69, Tryz.ntmps69
        go_wp2
        go_ret
        exact ⟨rfl, ((Below.refl _ _).alloc (Nat.le_refl _) _).alloc (by simp) _⟩
  · have q : ((a : Int) == (c : Int)) = false := by simp; omega
    by_cases e3 : a < c
    · have hv : cmpI a b c d = -1 := by simp [cmpI, e1, e3]
      rw [hv]
      clear hv
      go_enter Tryz.func69, Tryz.ntmps69
      go_wp2
      go_ret
      exact ⟨rfl, ((Below.refl _ _).alloc (Nat.le_refl _) _).alloc (by simp) _⟩
    · have hv : cmpI a b c d = 1 := by simp [cmpI, e1, e3]
      rw [hv]
      clear hv
      go_enter Tryz.func69, Tryz.ntmps69
      go_wp2
      go_ret
      exact ⟨rfl, ((Below.refl _ _).alloc (Nat.le_refl _) _).alloc (by simp) _⟩
end

section
set_option linter.unusedSimpArgs false
set_option linter.unusedVariables false
open Go.RowKit Go.Lib

theorem u64_and63 (x : Nat) (h : x < 18446744073709551616) : bits BinOp.and IntKind.u64 (x : Int) 63 = ((x % 64 : Nat) : Int) := by
  have := u64_and_nat x 63 h (by decide)
  rw [show (63 : Int) = ((63 : Nat) : Int) from rfl, this, show (63 : Nat) = 2 ^ 6 - 1 from rfl, Nat.and_two_pow_sub_one_eq_mod]

theorem atN_lt (hi lo i : Nat) : atN hi lo i < 64 := by unfold atN; exact Nat.mod_lt _ (by decide)

theorem at_word (x i : Nat) (h : x < 18446744073709551616) : bits BinOp.and IntKind.u64 ((x : Int) / 2 ^ (6 * (9 - i % 10))) 63 = ((x / 64 ^ (9 - i % 10) % 64 : Nat) : Int) := by
  have e : (x : Int) / 2 ^ (6 * (9 - i % 10)) = ((x / 64 ^ (9 - i % 10) : Nat) : Int) := by
    have e2 : (2 : Int) ^ (6 * (9 - i % 10)) = ((64 ^ (9 - i % 10) : Nat) : Int) := by
      rw [show (64 : Nat) = 2 ^ 6 from rfl, ← Nat.pow_mul, Int.natCast_pow]; rfl
    rw [e2, Int.natCast_ediv]
  rw [e, u64_and63 _ (Nat.lt_of_le_of_lt (Nat.div_le_self _ _) h)]

theorem byte_info : (Tryz.prog.info? 5).map (fun i => (i.zero, i.size, i.bytes)) = some (some (.int .u8 0), 1, 1) := by kernel_rfl

def emptyS : ByteArray := { data := #[] }

/-- What Unpack answers. -/
def UnpackSays (hi lo : Nat) (e : Ending) : Prop :=
  (∃ s : ByteArray, IsKey hi lo s.data.toList ∧ e = .returned (.tuple #[.string s, .bool true])) ∨
  ((∀ l, ¬ IsKey hi lo l) ∧ e = .returned (.tuple #[.string { data := #[] }, .bool false]))

def UnpRel (W : World) (hi lo : Nat) (b : Value) (k : Nat) (l : List UInt8) (w' : World) : Prop :=
  k ≤ 20 ∧ l.length ≤ k ∧ (∀ x ∈ l, okB x = true) ∧ (∀ j, j < k → atN hi lo j = dig l j) ∧ w'.ownsRow W.heap.size 5 1 b l.length (bytesV l) ∧ Below W.heap.size W w'

/-- No list has the key: a digit that is no letter's. -/
theorem no_big {hi lo k : Nat} (hk : k < 20) (h : 39 < atN hi lo k) : ∀ l, ¬ IsKey hi lo l := by
  intro l hl
  have := hl.digs k hk
  have := dig_le l k
  omega
/-- No list has the key: a digit behind a gap. -/
theorem no_gap {hi lo k : Nat} {l : List UInt8} (hk : k < 20) (hl : l.length < k) (hdg : ∀ j, j < k → atN hi lo j = dig l j) (h : 0 < atN hi lo k) : ∀ m, ¬ IsKey hi lo m := by
  intro m hm
  have h1 := hm.digs l.length (by omega)
  rw [hdg _ hl, dig_out l _ (Nat.le_refl _)] at h1
  have hmok := ((idL_iff m).1 hm.1).2.2
  have hml : m.length ≤ l.length := by
    rcases Nat.lt_or_ge l.length m.length with h2 | h2
    · rw [dig_at m _ h2] at h1
      have := hmok _ (List.getElem_mem h2)
      simp [okB, ← h1] at this
    · exact h2
  have := hm.digs k hk
  rw [dig_out m k (by omega)] at this
  omega

theorem unp_succ_zero {hi lo k : Nat} {l : List UInt8} (hl : l.length ≤ k) (hdg : ∀ j, j < k → atN hi lo j = dig l j) (h : atN hi lo k = 0) : ∀ j, j < k + 1 → atN hi lo j = dig l j := by
  intro j hj
  rcases Nat.lt_or_ge j k with h1 | h1
  · exact hdg j h1
  · obtain rfl : j = k := by omega
    rw [h, dig_out l _ hl]
theorem unp_succ_some {hi lo k : Nat} {l : List UInt8} (hl : l.length = k) (hdg : ∀ j, j < k → atN hi lo j = dig l j) (h : 0 < atN hi lo k) (h2 : atN hi lo k < 40) :
    ∀ j, j < k + 1 → atN hi lo j = dig (l ++ [letterN (atN hi lo k)]) j := by
  intro j hj
  rcases Nat.lt_or_ge j k with h1 | h1
  · rw [hdg j h1]
    simp [dig, List.getElem?_append_left (show j < l.length by omega)]
  · obtain rfl : j = k := by omega
    rw [dig, List.getElem?_append_right (by omega)]
    simp [hl, (letter_all _ h2 h).1]

def RightB (hi lo : Nat) (b : Bool) : Prop := (b = true ∧ ∃ s : ByteArray, IsKey hi lo s.data.toList) ∨ (b = false ∧ ∀ l, ¬ IsKey hi lo l)
end

section
set_option linter.unusedSimpArgs false
set_option linter.unusedVariables false
open Go.RowKit Go.Lib

def lettersL : List UInt8 := [45, 46, 48, 49, 50, 51, 52, 53, 54, 55, 56, 57, 95, 97, 98, 99, 100, 101, 102, 103, 104, 105, 106, 107, 108, 109, 110, 111, 112, 113, 114, 115, 116, 117, 118, 119, 120, 121, 122]

theorem letters_code : ∀ i, i < 39 → codeB (lettersL.getD i 0) = i + 1 := by decide


/-- A byte that is none of the first letters has a greater number, or none. -/
theorem place_none (c : UInt8) (h : ∀ j, j < 39 → lettersL.getD j 0 ≠ c) : codeB c = 0 := by
  rcases Nat.eq_zero_or_pos (codeB c) with h0 | h0
  · exact h0
  · have hle := codeB_le c
    have e := letters_code (codeB c - 1) (by omega)
    refine absurd ?_ (h (codeB c - 1) (by omega))
    have hok : okB (lettersL.getD (codeB c - 1) 0) = true := by rw [okB, decide_eq_true_eq]; omega
    exact codeB_inj _ _ hok (by omega)

def lettersS : ByteArray := ⟨lettersL.toArray⟩
theorem lettersS_get (k : Nat) (h : k < lettersS.size) : lettersS[k] = lettersL.getD k 0 := by
  have h' : k < lettersL.length := h
  simp only [List.getD, List.getElem?_eq_getElem h', Option.getD_some]
  rfl

set_option maxRecDepth 100000 in
set_option maxHeartbeats 1000000 in
theorem place_any (c : UInt8) (w : World) :
    Calls Tryz.prog 150 #[.int .u8 (c.toNat : Nat)] w fun e w' => e = .returned (.int .u64 (codeB c : Nat)) ∧ w = w' := by
  go_enter Tryz.func150, Tryz.ntmps150
  go_wp2
  go_loop [3] (fun i => ∃ k : Nat, k ≤ 39 ∧ i = .int .i64 k ∧ ∀ j, j < k → lettersL.getD j 0 ≠ c) (fun i => 39 - (intOf i).toNat)
  case atStart => exact ⟨0, by omega, rfl, fun j hj => absurd hj (by omega)⟩
  case round =>
    obtain ⟨k, hk, rfl, hno⟩ := hrel
    by_cases hlt : k < 39
    · have Hno := Lib.hid hno
      have hsz : k < lettersS.size := hlt
      clear hno
      go_wp2
      · have hq : (((lettersS[k].toNat : Nat) : Int) == ((c.toNat : Nat) : Int)) = true := by assumption
        have hq' : lettersS[k] = c := UInt8.toNat_inj.1 (Int.ofNat.inj (beq_iff_eq.1 hq))
        rw [lettersS_get k hsz] at hq'
        go_ret
        refine ⟨ret_int ?_, rfl⟩
        rw [← hq', letters_code k hlt]
        rfl
      · have hq : (((lettersS[k].toNat : Nat) : Int) == ((c.toNat : Nat) : Int)) = false := by assumption
        have hq' : lettersS[k] ≠ c := fun e => by
          have := beq_eq_false_iff_ne.1 hq
          exact this (congrArg (fun b : UInt8 => ((b.toNat : Nat) : Int)) e)
        rw [lettersS_get k hsz] at hq'
        go_round
        case rel =>
          refine ⟨k + 1, by omega, by go_num, fun j hj => ?_⟩
          rcases Nat.lt_or_ge j k with h | h
          · exact Hno.out j h
          · obtain rfl : j = k := by omega
            exact hq'
        case measure => simp [intOf]; omega
    · obtain rfl : k = 39 := by omega
      have h0 := place_none c hno
      clear hno
      go_wp2
      go_ret
      exact ⟨rfl, rfl⟩

set_option maxRecDepth 100000 in
set_option maxHeartbeats 1000000 in
theorem id_any (s : ByteArray) (w : World) (hm : s.size ≤ maxLen) :
    Calls Tryz.prog 89 #[.string s] w fun e w' => e = .returned (.bool (idS s)) ∧ w = w' := by
  unfold maxLen at hm
  by_cases h1 : s.size < 1
  · rw [idS_len s (.inl h1)]
    go_enter Tryz.func89, Tryz.ntmps89
    go_wp2
    go_ret
    exact ⟨rfl, rfl⟩
  · by_cases h2 : 20 < s.size
    · rw [idS_len s (.inr h2)]
      go_enter Tryz.func89, Tryz.ntmps89
      go_wp2
      go_ret
      exact ⟨rfl, rfl⟩
    · go_enter Tryz.func89, Tryz.ntmps89
      go_wp2
      go_loop [3] (fun i => ∃ k : Nat, k ≤ s.size ∧ i = .int .i64 k ∧ OkTo s k) (fun i => s.size - (intOf i).toNat)
      case atStart => exact ⟨0, Nat.zero_le _, rfl, okTo_zero s⟩
      case round =>
        obtain ⟨k, hk, rfl, hok⟩ := hrel
        by_cases hlt : k < s.size
        · cases hb : okB s[k] with
          | true =>
            have hok' := okTo_succ s k hok hlt hb
            have hc : ((codeB s[k] : Int) == 0) = false := by simpa [okB] using hb
            have Hok' := Lib.hid hok'
            clear hb hok hok'
            go_wp2_with (go_at_call 150; refine (place_any _ _).mono ?_; rintro e w' ⟨rfl, rfl⟩)
            go_round
            case rel => exact ⟨k + 1, hlt, by go_num, Hok'.out⟩
            case measure => simp [intOf]; omega
          | false =>
            have hf := idS_bad s k hlt hb
            have hc : ((codeB s[k] : Int) == 0) = true := by simpa [okB] using hb
            have Hf := Lib.hid hf
            clear hb hok hf
            go_wp2_with (go_at_call 150; refine (place_any _ _).mono ?_; rintro e w' ⟨rfl, rfl⟩)
            go_ret
            rw [Hf.out]
            exact ⟨rfl, rfl⟩
        · obtain rfl : k = s.size := by omega
          have hf := idS_all s (by omega) (by omega) hok
          have Hf := Lib.hid hf
          clear hf hok
          go_wp2
          go_ret
          rw [Hf.out]
          exact ⟨rfl, rfl⟩

/-- A key as a value. -/
def keyS (s : ByteArray) : Value := keyV (hiN s.data.toList) (loN s.data.toList)

theorem keyN_lt9 (l : List UInt8) (a n : Nat) (h : n ≤ 9) : keyN l a n < 18014398509481984 :=
  Nat.lt_of_lt_of_le (keyN_lt l a n) (Nat.pow_le_pow_right (n := 64) (j := 9) (by decide) h)

set_option maxRecDepth 100000 in
set_option maxHeartbeats 1000000 in
theorem refKey_any (s : ByteArray) (w : World) (hm : s.size ≤ maxLen) (hid : idS s = true) :
    Calls Tryz.prog 155 #[.string s] w fun e w' => e = .returned (keyS s) ∧ Below w.heap.size w w' := by
  have Hid := Lib.hid hid
  unfold keyS keyV
  unfold maxLen at hm
  obtain ⟨hs1, hs2, _⟩ := idS_okTo s hid
  clear hid
  go_enter Tryz.func155, Tryz.ntmps155
  go_wp2_with (go_at_call 89; refine (id_any _ _ hm).mono ?_; rw [Hid.out]; rintro e w' ⟨rfl, rfl⟩)
  go_loopw [4, 5] (fun i _ w' => ∃ k : Nat, k ≤ 20 ∧ i = .int .i64 k ∧ w' = (w.alloc (.cells #[.int .u64 0, .int .u64 0] 40)).alloc (.cells #[.int .u64 (keyN s.data.toList 0 (min k 10) : Nat), .int .u64 (keyN s.data.toList 10 (k - 10) : Nat)] 40)) (fun i _ _ => 20 - (intOf i).toNat)
  case atStart => exact ⟨0, by omega, rfl, rfl⟩
  case round =>
    obtain ⟨k, hk, rfl, rfl⟩ := hrel
    by_cases hlt : k < 20
    · have d1 := dig_le s.data.toList k
      have hgd : ∀ h : k < s.size, dig s.data.toList k = codeB (s[k]'h) := fun h => by rw [dig_at _ _ (by simpa using h)]; rfl
      by_cases h10 : k < 10
      · have hst : keyN s.data.toList 0 (min (k + 1) 10) = keyN s.data.toList 0 (min k 10) * 64 + dig s.data.toList k := by
          rw [Nat.min_eq_left (by omega), Nat.min_eq_left (by omega), keyN, Nat.zero_add]
        have n3 := keyN_lt9 s.data.toList 0 (min k 10) (by omega)
        have e2 : k - 10 = k + 1 - 10 := by omega
        have E2 := Lib.hid e2
        clear e2
        by_cases hin : k < s.size
        · rw [hgd hin] at hst d1
          have Hst := Lib.hid hst
          clear hst hgd
          go_wp2_with (go_at_call 150; refine (place_any _ _).mono ?_; rintro e w' ⟨rfl, rfl⟩)
          go_roundw
          case rel =>
            refine ⟨k + 1, by omega, by go_num, ?_⟩
            rw [Hst.out, E2.out]
            simp
          case measure => simp [intOf]; omega
        · have hd0 : dig s.data.toList k = 0 := dig_out _ _ (by simp; omega)
          rw [hd0] at hst
          have Hst := Lib.hid hst
          clear hst hd0 hgd
          go_wp2
          go_roundw
          case rel =>
            refine ⟨k + 1, by omega, by go_num, ?_⟩
            rw [Hst.out, E2.out]
            simp
          case measure => simp [intOf]; omega
      · have hst : keyN s.data.toList 10 (k + 1 - 10) = keyN s.data.toList 10 (k - 10) * 64 + dig s.data.toList k := by
          rw [show k + 1 - 10 = (k - 10) + 1 by omega, keyN, show 10 + (k - 10) = k by omega]
        have n3 := keyN_lt9 s.data.toList 10 (k - 10) (by omega)
        have e2 : min k 10 = min (k + 1) 10 := by omega
        have E2 := Lib.hid e2
        clear e2
        by_cases hin : k < s.size
        · rw [hgd hin] at hst d1
          have Hst := Lib.hid hst
          clear hst hgd
          go_wp2_with (go_at_call 150; refine (place_any _ _).mono ?_; rintro e w' ⟨rfl, rfl⟩)
          go_roundw
          case rel =>
            refine ⟨k + 1, by omega, by go_num, ?_⟩
            rw [Hst.out, E2.out]
            simp
          case measure => simp [intOf]; omega
        · have hd0 : dig s.data.toList k = 0 := dig_out _ _ (by simp; omega)
          rw [hd0] at hst
          have Hst := Lib.hid hst
          clear hst hd0 hgd
          go_wp2
          go_roundw
          case rel =>
            refine ⟨k + 1, by omega, by go_num, ?_⟩
            rw [Hst.out, E2.out]
            simp
          case measure => simp [intOf]; omega
    · obtain rfl : k = 20 := by omega
      go_wp2
      exact bodyPost_ret (v := .agg #[.int .u64 (hiN s.data.toList : Nat), .int .u64 (loN s.data.toList : Nat)]) (by simp [results, Tryz.results155, go_sem]; exact ⟨rfl, rfl⟩) rfl
        ⟨rfl, ((Below.refl _ _).alloc (Nat.le_refl _) _).alloc (by simp) _⟩

/-! ### Before: the order of bytes -/

def beforeL : List UInt8 → List UInt8 → Bool
  | a :: l, b :: m => if a = b then beforeL l m else decide (a.toNat < b.toNat)
  | [], _ :: _ => true
  | _, [] => false

theorem beforeL_cons (a : UInt8) (l m : List UInt8) : beforeL (a :: l) (a :: m) = beforeL l m := by simp [beforeL]

theorem beforeL_drop (l m : List UInt8) : ∀ k, k ≤ l.length → k ≤ m.length → (∀ j, j < k → l[j]? = m[j]?) → beforeL l m = beforeL (l.drop k) (m.drop k) := by
  intro k
  induction k generalizing l m with
  | zero => intros; rfl
  | succ k ih =>
    intro h1 h2 h
    match l, m, h1, h2 with
    | a :: l, b :: m, h1, h2 =>
      have h0 := h 0 (by omega)
      simp at h0
      subst h0
      rw [beforeL_cons, List.drop_succ_cons, List.drop_succ_cons]
      exact ih l m (by simpa using h1) (by simpa using h2) (fun j hj => by simpa using h (j + 1) (by omega))

def beforeS (s t : ByteArray) : Bool := beforeL s.data.toList t.data.toList

def SameTo (s t : ByteArray) (k : Nat) : Prop := ∀ j, j < k → s.data.toList[j]? = t.data.toList[j]?

theorem sameTo_succ {s t : ByteArray} {k : Nat} (h : SameTo s t k) (h1 : k < s.size) (h2 : k < t.size) (e : s[k] = t[k]) : SameTo s t (k + 1) := by
  intro j hj
  rcases Nat.lt_or_ge j k with hl | hl
  · exact h j hl
  · obtain rfl : j = k := by omega
    rw [List.getElem?_eq_getElem (by simpa using h1), List.getElem?_eq_getElem (by simpa using h2)]
    exact congrArg some e

theorem before_at {s t : ByteArray} {k : Nat} (h : SameTo s t k) (h1 : k < s.size) (h2 : k < t.size) (e : s[k] ≠ t[k]) : beforeS s t = decide ((s[k]).toNat < (t[k]).toNat) := by
  have h1' : k < s.data.toList.length := by simpa using h1
  have h2' : k < t.data.toList.length := by simpa using h2
  unfold beforeS
  rw [beforeL_drop _ _ k (by omega) (by omega) h, List.drop_eq_getElem_cons h1', List.drop_eq_getElem_cons h2', beforeL]
  exact if_neg e

theorem before_end {s t : ByteArray} {k : Nat} (h : SameTo s t k) (h1 : k ≤ s.size) (h2 : k ≤ t.size) (e : k = s.size ∨ k = t.size) : beforeS s t = decide (s.size < t.size) := by
  have h1' : s.data.toList.length = s.size := by simp
  have h2' : t.data.toList.length = t.size := by simp
  unfold beforeS
  rw [beforeL_drop _ _ k (by omega) (by omega) h]
  rcases e with e | e
  · rw [List.drop_of_length_le (by omega)]
    rcases Nat.lt_or_ge k t.size with hl | hl
    · rw [List.drop_eq_getElem_cons (by omega)]
      simp [beforeL]; omega
    · rw [List.drop_of_length_le (by omega)]
      simp [beforeL]; omega
  · rw [show t.data.toList.drop k = [] from List.drop_of_length_le (by omega)]
    have hd : decide (s.size < t.size) = false := by simp; omega
    rw [hd]
    cases s.data.toList.drop k <;> rfl
end

end Go.Proofs.YtfegielnmdppgaaGreat
