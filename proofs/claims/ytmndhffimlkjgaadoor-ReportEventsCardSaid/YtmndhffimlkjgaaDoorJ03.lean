/- Walks of ident's at, letter, Unpack, Right, Cmp. -/
import Derived.Test.YtmndhffimlkjgaaDoorJ02
namespace Go.Proofs.YtmndhffimlkjgaaDoor

section
set_option linter.unusedSimpArgs false
set_option linter.unusedVariables false
open Go.RowKit Go.Lib

theorem u64_and63 (x : Nat) (h : x < 18446744073709551616) : bits BinOp.and IntKind.u64 (x : Int) 63 = ((x % 64 : Nat) : Int) := by
  have := u64_and_nat x 63 h (by decide)
  rw [show (63 : Int) = ((63 : Nat) : Int) from rfl, this, show (63 : Nat) = 2 ^ 6 - 1 from rfl, Nat.and_two_pow_sub_one_eq_mod]

theorem atN_lt (hi lo i : Nat) : atN hi lo i < 64 := by unfold atN; exact Nat.mod_lt _ (by decide)

theorem at_word (x i : Nat) (h : x < 18446744073709551616) : bits BinOp.and IntKind.u64 ((x : Int) / 2 ^ (6 * (9 - i % 10))) 63 = ((x / 64 ^ (9 - i % 10) % 64 : Nat) : Int) := by
  have e : (x : Int) / 2 ^ (6 * (9 - i % 10)) = ((x / 64 ^ (9 - i % 10) : Nat) : Int) := by
    have e2 : (2 : Int) ^ (6 * (9 - i % 10)) = ((64 ^ (9 - i % 10) : Nat) : Int) := by
      rw [show (64 : Nat) = 2 ^ 6 from rfl, ← Nat.pow_mul, Int.natCast_pow]; rfl
    rw [e2, Int.natCast_ediv]
  rw [e, u64_and63 _ (Nat.lt_of_le_of_lt (Nat.div_le_self _ _) h)]

set_option maxHeartbeats 1000000 in
theorem at_any (hi lo i : Nat) (w : World) (h1 : hi < 18446744073709551616) (h2 : lo < 18446744073709551616) (h3 : i < 20) :
    Calls Tryd.prog 49 #[keyV hi lo, .int .i64 i] w fun e w' => e = .returned (.int .u64 (atN hi lo i : Nat)) ∧ Below w.heap.size w w' := by
  unfold keyV
  by_cases h : i < 10
  · go_enter Tryd.func49, Tryd.ntmps49
    go_wp2
    go_ret
    refine ⟨ret_int ?_, (Below.refl _ _).alloc (Nat.le_refl _) _⟩
    exact (at_word hi i h1).trans (by rw [atN, if_pos h])
  · go_enter Tryd.func49, Tryd.ntmps49
    go_wp2
    go_ret
    refine ⟨ret_int ?_, (Below.refl _ _).alloc (Nat.le_refl _) _⟩
    exact (at_word lo i h2).trans (by rw [atN, if_neg h])

set_option maxHeartbeats 1000000 in
theorem letter_any (n : Nat) (w : World) (h1 : 0 < n) (h2 : n < 40) :
    Calls Tryd.prog 50 #[.int .u64 n] w fun e w' => e = .returned (.int .u8 ((letterN n).toNat : Nat)) ∧ w = w' := by
  by_cases h : n = 1
  · subst h
    go_enter Tryd.func50, Tryd.ntmps50
    go_wp2
    go_ret
    exact ⟨rfl, rfl⟩
  · by_cases h3 : n = 2
    · subst h3
      go_enter Tryd.func50, Tryd.ntmps50
      go_wp2
      go_ret
      exact ⟨rfl, rfl⟩
    · by_cases h4 : n = 13
      · subst h4
        go_enter Tryd.func50, Tryd.ntmps50
        go_wp2
        go_ret
        exact ⟨rfl, rfl⟩
      · by_cases h5 : n < 13
        · go_enter Tryd.func50, Tryd.ntmps50
          go_wp2
          go_ret
          refine ⟨ret_int ?_, rfl⟩
          rw [letterN, if_neg h, if_neg h3, if_pos h5, UInt8.toNat_ofNat']
          omega
        · go_enter Tryd.func50, Tryd.ntmps50
          go_wp2
          go_ret
          refine ⟨ret_int ?_, rfl⟩
          rw [letterN, if_neg h, if_neg h3, if_neg h5, if_neg h4, UInt8.toNat_ofNat']
          omega

theorem byte_info : (Tryd.prog.info? 5).map (fun i => (i.zero, i.size, i.bytes)) = some (some (.int .u8 0), 1, 1) := by kernel_rfl

def emptyS : ByteArray := { data := #[] }

/-- What Unpack answers. -/
def UnpackSays (hi lo : Nat) (e : Ending) : Prop :=
  (∃ s : ByteArray, IsKey hi lo s.data.toList ∧ e = .returned (.tuple #[.string s, .bool true])) ∨
  ((∀ l, ¬ IsKey hi lo l) ∧ e = .returned (.tuple #[.string { data := #[] }, .bool false]))

def UnpRel (W : World) (hi lo : Nat) (b : Value) (k : Nat) (l : List UInt8) (w' : World) : Prop :=
  k ≤ 20 ∧ l.length ≤ k ∧ (∀ x ∈ l, okB x = true) ∧ (∀ j, j < k → atN hi lo j = dig l j) ∧ w'.ownsRow W.heap.size 5 1 b l.length (bytesV l) ∧ Below W.heap.size W w'

/-- No list has the key: a digit that is no letter's. -/
theorem no_big {hi lo k : Nat} (hk : k < 20) (h : 39 < atN hi lo k) : ∀ l, ¬ IsKey hi lo l := by
  intro l hl
  have := hl.digs k hk
  have := dig_le l k
  omega
/-- No list has the key: a digit behind a gap. -/
theorem no_gap {hi lo k : Nat} {l : List UInt8} (hk : k < 20) (hl : l.length < k) (hdg : ∀ j, j < k → atN hi lo j = dig l j) (h : 0 < atN hi lo k) : ∀ m, ¬ IsKey hi lo m := by
  intro m hm
  have h1 := hm.digs l.length (by omega)
  rw [hdg _ hl, dig_out l _ (Nat.le_refl _)] at h1
  have hmok := ((idL_iff m).1 hm.1).2.2
  have hml : m.length ≤ l.length := by
    rcases Nat.lt_or_ge l.length m.length with h2 | h2
    · rw [dig_at m _ h2] at h1
      have := hmok _ (List.getElem_mem h2)
      simp [okB, ← h1] at this
    · exact h2
  have := hm.digs k hk
  rw [dig_out m k (by omega)] at this
  omega

theorem unp_succ_zero {hi lo k : Nat} {l : List UInt8} (hl : l.length ≤ k) (hdg : ∀ j, j < k → atN hi lo j = dig l j) (h : atN hi lo k = 0) : ∀ j, j < k + 1 → atN hi lo j = dig l j := by
  intro j hj
  rcases Nat.lt_or_ge j k with h1 | h1
  · exact hdg j h1
  · obtain rfl : j = k := by omega
    rw [h, dig_out l _ hl]
theorem unp_succ_some {hi lo k : Nat} {l : List UInt8} (hl : l.length = k) (hdg : ∀ j, j < k → atN hi lo j = dig l j) (h : 0 < atN hi lo k) (h2 : atN hi lo k < 40) :
    ∀ j, j < k + 1 → atN hi lo j = dig (l ++ [letterN (atN hi lo k)]) j := by
  intro j hj
  rcases Nat.lt_or_ge j k with h1 | h1
  · rw [hdg j h1]
    simp [dig, List.getElem?_append_left (show j < l.length by omega)]
  · obtain rfl : j = k := by omega
    rw [dig, List.getElem?_append_right (by omega)]
    simp [hl, (letter_all _ h2 h).1]

set_option maxRecDepth 100000 in
set_option maxHeartbeats 2000000 in
theorem unpack_any (hi lo : Nat) (w : World) (h1 : hi < 18446744073709551616) (h2 : lo < 18446744073709551616) :
    Calls Tryd.prog 29 #[keyV hi lo] w fun e w' => UnpackSays hi lo e ∧ Below w.heap.size w w' := by
  obtain ⟨i0, hi0, hz0, hz1, hz2⟩ := info_parts byte_info
  unfold keyV
  go_enter Tryd.func29, Tryd.ntmps29
  go_wp2
  go_loopw [4, 5, 6, 9] (fun b _ _ i w' => ∃ (k : Nat) (l : List UInt8), i = .int .i64 k ∧ UnpRel (w.alloc (.cells #[.int .u64 (hi : Nat), .int .u64 (lo : Nat)] 40)) hi lo b k l w') (fun _ _ _ i _ => 20 - (intOf i).toNat)
  case atStart => exact ⟨0, [], rfl, by omega, by simp, by simp, fun j hj => absurd hj (by omega), World.ownsRow_nil _ _ _ _, Below.refl _ _⟩
  case round =>
    obtain ⟨k, l, rfl, hk, hl, hok, hdg, hown, hb⟩ := hrel
    obtain ⟨A, c, rfl⟩ := own_form hown
    obtain ⟨hcb, hfb⟩ := bcell hb
    have c0 : wr.cell? ⟨w.heap.size, 0, none⟩ = some (.int .u64 (hi : Nat)) := by rw [hcb _ _ (by simp)]; simp [go_sem]
    have c1 : wr.cell? ⟨w.heap.size, 1, none⟩ = some (.int .u64 (lo : Nat)) := by rw [hcb _ _ (by simp)]; simp [go_sem]
    have hz := hb.size
    simp at hz
    clear hcb hfb
    have fin0 : ∀ w', Below wr.heap.size wr w' → Below w.heap.size w w' := fun w' h => ((Below.refl _ _).alloc (Nat.le_refl _) _).trans ((hb.trans (h.mono (by simp; omega))).mono (by simp))
    have Hfin0 := Lib.hid fin0
    clear fin0
    by_cases hk20 : k < 20
    · have Hok := Lib.hid hok
      have Hdg := Lib.hid hdg
      have Hb := Lib.hid hb
      clear hok hdg hb
      by_cases hn1 : 39 < atN hi lo k
      · clear hown
        go_wp2_with (go_at_call 49; refine (at_any hi lo k _ h1 h2 hk20).mono ?_; rintro e w2 ⟨rfl, hb2⟩)
        go_ret2
        exact ⟨.inr ⟨no_big hk20 hn1, rfl⟩, Hfin0.out _ hb2⟩
      · by_cases hn0 : 0 < atN hi lo k
        · by_cases hlk : l.length < k
          · clear hown
            go_wp2_with (go_at_call 49; refine (at_any hi lo k _ h1 h2 hk20).mono ?_; rintro e w2 ⟨rfl, hb2⟩)
            go_ret2
            exact ⟨.inr ⟨no_gap hk20 hlk Hdg.out hn0, rfl⟩, Hfin0.out _ hb2⟩
          · have hlk' : l.length = k := by omega
            have hdg' := unp_succ_some hlk' Hdg.out hn0 (by omega)
            have hok' : ∀ x ∈ l ++ [letterN (atN hi lo k)], okB x = true := by
              intro x hx
              rcases List.mem_append.1 hx with hx | hx
              · exact Hok.out x hx
              · rw [List.mem_singleton.1 hx]; exact (letter_all _ (by omega) hn0).2
            have Hdg' := Lib.hid hdg'
            have Hok' := Lib.hid hok'
            have Hlk := Lib.hid hlk'
            clear hdg' hok' hlk'
            go_wp2_with (first
              | (go_at_call 49; refine (at_any hi lo k _ h1 h2 hk20).mono ?_; rintro e w2 ⟨rfl, hb2⟩; have hown2 := own_below hown hb2; clear hown; have hsz2 := hb2.size)
              | (go_at_call 50; refine (letter_any _ _ hn0 (by omega)).mono ?_; rintro e w3 ⟨rfl, rfl⟩)
              | (at_builtin
                 refine wpList_append_own _ rfl _ _ 72 rfl _ 5 i0 (.int .u8 0) 1 1 Tryd.underlying72 hi0 hz0 hz1 hz2 rfl (by decide) (.slice A l.length c) l.length (bytesV l) rfl (hown2.alloc _) ⟨w2.heap.size, 0, none⟩ 1 1 [.int .u8 ((letterN (atN hi lo k)).toNat : Nat)] rfl rfl (cell_one_new _ _ _) (one_int _ _) (by simp only [maxLen]; omega) (by omega) (by simp; omega) ?_
                 intro v' w4 hown4 hgrow _))
            have hlt := hown2.lt
            go_roundw
            case rel =>
              rw [bytesV_snoc] at hown4
              refine ⟨k + 1, l ++ [letterN (atN hi lo k)], by go_num, by omega, by simp; omega, Hok'.out, Hdg'.out, by simpa using hown4, ?_⟩
              exact ((Hb.out.trans (hb2.mono (by simp; omega))).alloc (by simp; omega) _).grown hgrow (by simp; omega) (fun q hq => (hlt q hq).1)
            case measure => simp [intOf]; omega
        · have hn00 : atN hi lo k = 0 := by omega
          have hdg' := unp_succ_zero hl Hdg.out hn00
          have Hdg' := Lib.hid hdg'
          clear hdg' hn00
          go_wp2_with (go_at_call 49; refine (at_any hi lo k _ h1 h2 hk20).mono ?_; rintro e w2 ⟨rfl, hb2⟩)
          go_roundw
          case rel => 
            exact ⟨k + 1, l, by go_num, by omega, by omega, Hok.out, Hdg'.out, own_below hown hb2, Hb.out.trans (hb2.mono (by simp; omega))⟩
          case measure => simp [intOf]; omega
    · obtain rfl : k = 20 := by omega
      clear hk hk20
      have hconv := run_convert_own (P := Tryd.prog) Tryd.underlying72 Tryd.underlying5 Tryd.underlying9 hown
      have hsz : (⟨l.toArray⟩ : ByteArray).size ≤ maxLen := by simp [ByteArray.size, maxLen]; omega
      have Hown := Lib.hid hown
      clear hown
      cases hid : idS ⟨l.toArray⟩ with
      | false =>
        have hno : ∀ m, ¬ IsKey hi lo m := by
          intro m hm
          have hid' : idL l = false := by rw [← hid]; simp [idS]
          have hmm := (idL_iff m).1 hm.1
          obtain rfl : l = m := list_of_digs l m hok hmm.2.2 20 (by omega) hmm.2.1 (fun j hj => by rw [← hdg j hj, hm.digs j hj])
          rw [hm.1] at hid'
          cases hid'
        have hpv : packV ⟨l.toArray⟩ = packErr := by simp [packV, hid]
        have Hpv := Lib.hid hpv
        clear hid hpv hok hdg
        go_wp2_with (go_at_call 51; refine (pack_any _ _ hsz).mono ?_; rw [Hpv.out]; unfold packErr; rintro e w2 ⟨rfl, hb2⟩; have hsz2 := hb2.size)
        go_ret2
        exact ⟨.inr ⟨hno, rfl⟩, ((((Below.refl _ _).alloc (Nat.le_refl _) _).trans (hb.mono (by simp))).trans (hb2.mono (by omega))).alloc (by omega) _⟩
      | true =>
        have hidl : idL l = true := by rw [← hid]; simp [idS]
        have hpv : packV ⟨l.toArray⟩ = .tuple #[.agg #[.int .u64 (hiN l : Nat), .int .u64 (loN l : Nat)], .int .i64 0] := by simp [packV, hid]
        have Hpv := Lib.hid hpv
        clear hid hpv
        have hn1 := hiN_lt l
        have hn2 := loN_lt l
        by_cases hyes : hiN l = hi ∧ loN l = lo
        · obtain ⟨rfl, rfl⟩ := hyes
          have hyes : IsKey (hiN l) (loN l) l := ⟨hidl, rfl, rfl⟩
          clear hok hdg hidl
          go_wp2_with (go_at_call 51; refine (pack_any _ _ hsz).mono ?_; rw [Hpv.out]; rintro e w2 ⟨rfl, hb2⟩; have hsz2 := hb2.size; have d0 := (hb2.cell (p := ⟨w.heap.size, 0, none⟩) (by show w.heap.size < _; omega)).trans c0; have d1 := (hb2.cell (p := ⟨w.heap.size, 1, none⟩) (by show w.heap.size < _; omega)).trans c1; have hlt2 : w.heap.size < w2.heap.size := by omega
                       have hconv2 := fun o => run_convert_own (P := Tryd.prog) Tryd.underlying72 Tryd.underlying5 Tryd.underlying9 ((own_below Hown.out hb2).alloc o))
          go_ret2
          exact ⟨.inl ⟨⟨l.toArray⟩, by simpa using hyes, rfl⟩, ((((Below.refl _ _).alloc (Nat.le_refl _) _).trans (hb.mono (by simp))).trans (hb2.mono (by omega))).alloc (by omega) _⟩
        · have hno : ∀ m, ¬ IsKey hi lo m := by
            intro m hm
            have hmm := (idL_iff m).1 hm.1
            obtain rfl : l = m := list_of_digs l m hok hmm.2.2 20 (by omega) hmm.2.1 (fun j hj => by rw [← hdg j hj, hm.digs j hj])
            exact hyes hm.2
          by_cases hq : hiN l = hi
          · have hq2 : ((loN l : Int) == (lo : Int)) = false := by simp; omega
            subst hq
            clear hok hdg hidl hyes
            go_wp2_with (go_at_call 51; refine (pack_any _ _ hsz).mono ?_; rw [Hpv.out]; rintro e w2 ⟨rfl, hb2⟩; have hsz2 := hb2.size; have d0 := (hb2.cell (p := ⟨w.heap.size, 0, none⟩) (by show w.heap.size < _; omega)).trans c0; have d1 := (hb2.cell (p := ⟨w.heap.size, 1, none⟩) (by show w.heap.size < _; omega)).trans c1; have hlt2 : w.heap.size < w2.heap.size := by omega)
            go_ret2
            exact ⟨.inr ⟨hno, rfl⟩, ((((Below.refl _ _).alloc (Nat.le_refl _) _).trans (hb.mono (by simp))).trans (hb2.mono (by omega))).alloc (by omega) _⟩
          · have hq2 : ((hiN l : Int) == (hi : Int)) = false := by simp; omega
            clear hok hdg hidl hyes hq
            go_wp2_with (go_at_call 51; refine (pack_any _ _ hsz).mono ?_; rw [Hpv.out]; rintro e w2 ⟨rfl, hb2⟩; have hsz2 := hb2.size; have d0 := (hb2.cell (p := ⟨w.heap.size, 0, none⟩) (by show w.heap.size < _; omega)).trans c0; have d1 := (hb2.cell (p := ⟨w.heap.size, 1, none⟩) (by show w.heap.size < _; omega)).trans c1; have hlt2 : w.heap.size < w2.heap.size := by omega)
            go_ret2
            exact ⟨.inr ⟨hno, rfl⟩, ((((Below.refl _ _).alloc (Nat.le_refl _) _).trans (hb.mono (by simp))).trans (hb2.mono (by omega))).alloc (by omega) _⟩

theorem unpack_yes (hi lo : Nat) (s : ByteArray) (w : World) (h1 : hi < 18446744073709551616) (h2 : lo < 18446744073709551616) (h : IsKey hi lo s.data.toList) :
    Calls Tryd.prog 29 #[keyV hi lo] w fun e w' => e = .returned (.tuple #[.string s, .bool true]) ∧ Below w.heap.size w w' :=
  (unpack_any hi lo w h1 h2).mono fun e w' ⟨he, hb⟩ => by
    refine ⟨?_, hb⟩
    rcases he with ⟨s', h', he⟩ | ⟨h', _⟩
    · have := h.one h'
      have e2 : s' = s := by
        cases s; cases s'
        simp at this
        rw [this]
      rw [he, e2]
    · exact absurd h (h' _)

theorem unpack_no (hi lo : Nat) (w : World) (h1 : hi < 18446744073709551616) (h2 : lo < 18446744073709551616) (h : ∀ l, ¬ IsKey hi lo l) :
    Calls Tryd.prog 29 #[keyV hi lo] w fun e w' => e = .returned (.tuple #[.string { data := #[] }, .bool false]) ∧ Below w.heap.size w w' :=
  (unpack_any hi lo w h1 h2).mono fun e w' ⟨he, hb⟩ => by
    refine ⟨?_, hb⟩
    rcases he with ⟨s', h', he⟩ | ⟨_, he⟩
    · exact absurd h' (h _)
    · exact he

def RightB (hi lo : Nat) (b : Bool) : Prop := (b = true ∧ ∃ s : ByteArray, IsKey hi lo s.data.toList) ∨ (b = false ∧ ∀ l, ¬ IsKey hi lo l)
end

end Go.Proofs.YtmndhffimlkjgaaDoor
