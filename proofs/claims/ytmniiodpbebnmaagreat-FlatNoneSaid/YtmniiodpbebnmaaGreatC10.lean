/- Walks of fnv.Key, Fold and route's Bits, Of, calls.Home; The world of the reference's store (chapter 21): the plain law. -/
import Derived.Test.YtmniiodpbebnmaaGreatC09
import Derived.Test.YtmniiodpbebnmaaGreatC06
namespace Go.Proofs.YtmniiodpbebnmaaGreat

section
set_option linter.unusedSimpArgs false
set_option linter.unusedVariables false
open Go.RowKit Go.Lib

def keyNums (hi lo : Nat) : List Int := [byteI hi 72057594037927936, byteI hi 281474976710656, byteI hi 1099511627776, byteI hi 4294967296, byteI hi 16777216, byteI hi 65536, byteI hi 256, byteI hi 1, byteI lo 72057594037927936, byteI lo 281474976710656, byteI lo 1099511627776, byteI lo 4294967296, byteI lo 16777216, byteI lo 65536, byteI lo 256, byteI lo 1]
def keyStr (hi lo : Nat) : ByteArray := strOfNums (keyNums hi lo)
def fnvKey (hi lo : Nat) : Nat := sumL (keyStr hi lo).data.toList
theorem fnvKey_lt (hi lo : Nat) : fnvKey hi lo < 18446744073709551616 := sumL_lt _
theorem keyStr_size (hi lo : Nat) : (keyStr hi lo).size = 16 := by simp [keyStr, strOfNums_size, keyNums]

theorem run_convert_key {P : Program} (w : World) (hi lo T : Nat) (src e dst : TypeId) (hs : P.underlying src = some (.slice e)) (he : P.underlying e = some (.int .u8)) (hd : P.underlying dst = some .string) (H : Nat) (hH : w.heap.size = H) :
    (convert src dst (.slice (some ⟨H, 0, none⟩) 16 16)).run P (w.alloc (.cells #[.int .u8 (byteI hi 72057594037927936), .int .u8 (byteI hi 281474976710656), .int .u8 (byteI hi 1099511627776), .int .u8 (byteI hi 4294967296), .int .u8 (byteI hi 16777216), .int .u8 (byteI hi 65536), .int .u8 (byteI hi 256), .int .u8 (byteI hi 1), .int .u8 (byteI lo 72057594037927936), .int .u8 (byteI lo 281474976710656), .int .u8 (byteI lo 1099511627776), .int .u8 (byteI lo 4294967296), .int .u8 (byteI lo 16777216), .int .u8 (byteI lo 65536), .int .u8 (byteI lo 256), .int .u8 (byteI lo 1)] T)) = .ok (.string (keyStr hi lo)) (w.alloc (.cells #[.int .u8 (byteI hi 72057594037927936), .int .u8 (byteI hi 281474976710656), .int .u8 (byteI hi 1099511627776), .int .u8 (byteI hi 4294967296), .int .u8 (byteI hi 16777216), .int .u8 (byteI hi 65536), .int .u8 (byteI hi 256), .int .u8 (byteI hi 1), .int .u8 (byteI lo 72057594037927936), .int .u8 (byteI lo 281474976710656), .int .u8 (byteI lo 1099511627776), .int .u8 (byteI lo 4294967296), .int .u8 (byteI lo 16777216), .int .u8 (byteI lo 65536), .int .u8 (byteI lo 256), .int .u8 (byteI lo 1)] T)) := by
  subst hH
  exact run_convert_bytes_arg (P := P) _ src e hs he w.heap.size 0 16 16 (keyNums hi lo) rfl (fun i hlt => by
    have hc := (startA w #[.int .u8 (byteI hi 72057594037927936), .int .u8 (byteI hi 281474976710656), .int .u8 (byteI hi 1099511627776), .int .u8 (byteI hi 4294967296), .int .u8 (byteI hi 16777216), .int .u8 (byteI hi 65536), .int .u8 (byteI hi 256), .int .u8 (byteI hi 1), .int .u8 (byteI lo 72057594037927936), .int .u8 (byteI lo 281474976710656), .int .u8 (byteI lo 1099511627776), .int .u8 (byteI lo 4294967296), .int .u8 (byteI lo 16777216), .int .u8 (byteI lo 65536), .int .u8 (byteI lo 256), .int .u8 (byteI lo 1)] T).1 i
    rw [Nat.zero_add, hc]
    match i, hlt with
    | 0, _ => rfl
    | 1, _ => rfl
    | 2, _ => rfl
    | 3, _ => rfl
    | 4, _ => rfl
    | 5, _ => rfl
    | 6, _ => rfl
    | 7, _ => rfl
    | 8, _ => rfl
    | 9, _ => rfl
    | 10, _ => rfl
    | 11, _ => rfl
    | 12, _ => rfl
    | 13, _ => rfl
    | 14, _ => rfl
    | 15, _ => rfl
    | n + 16, h => exact absurd h (by omega)) dst hd

set_option maxRecDepth 100000 in
set_option maxHeartbeats 2000000 in
theorem fnvKey_any (hi lo : Nat) (w : World) (h1 : hi < 18446744073709551616) (h2 : lo < 18446744073709551616) :
    Calls Tryz.prog 159 #[keyV hi lo] w fun e w' => e = .returned (.int .u64 (fnvKey hi lo : Nat)) ∧ Below w.heap.size w w' := by
  have hsz : (keyStr hi lo).size ≤ maxLen := by rw [keyStr_size]; decide
  have Hsz := Lib.hid hsz
  clear hsz
  unfold keyV
  go_enter Tryz.func159, Tryz.ntmps159
  go_wp2_with (first
    | (go_at_call 212; refine (fnvBytes_any hi lo _ h1 h2).mono ?_; unfold bytesA; rintro e w1 ⟨rfl, hb1⟩; have hcv := run_convert_key (P := Tryz.prog) w1 hi lo 285 288 5 9 Tryz.underlying288 Tryz.underlying5 Tryz.underlying9 _ rfl)
    | (go_at_call 213; refine (sum64_any _ _ Hsz.out).mono ?_; rintro e w' ⟨rfl, rfl⟩))
  go_ret
  exact ⟨rfl, balloc (bthen (balloc (Below.refl _ _) _) hb1) _⟩

/-! ### Fold, Bits, Of -/
def foldN (h b : Nat) : Nat := if b < 1 ∨ 32 < b then 0 else (h ^^^ (h / 2 ^ b)) % 2 ^ b

theorem foldN_lt (h b : Nat) : foldN h b < 4294967296 := by
  unfold foldN
  split
  · omega
  · have h1 : (h ^^^ (h / 2 ^ b)) % 2 ^ b < 2 ^ b := Nat.mod_lt _ (Nat.pow_pos (by decide))
    have h2 : 2 ^ b ≤ 2 ^ 32 := Nat.pow_le_pow_right (by decide) (by omega)
    omega

theorem fold_walk (h b : Nat) (hh : h < 18446744073709551616) (hb1 : 1 ≤ b) (hb2 : b ≤ 32) :
    bits BinOp.and IntKind.u64 (bits BinOp.xor IntKind.u64 (h : Int) ((h : Int) / 2 ^ b)) (IntKind.u64.wrap (IntKind.u64.wrap (2 ^ b) - 1)) = (foldN h b : Nat) := by
  have hp : 2 ^ b ≤ 2 ^ 32 := Nat.pow_le_pow_right (by decide) hb2
  have hp0 : 0 < 2 ^ b := Nat.pow_pos (by decide)
  have e1 : (h : Int) / 2 ^ b = ((h / 2 ^ b : Nat) : Int) := by rw [Int.natCast_ediv, Int.natCast_pow]; rfl
  have hd : h / 2 ^ b ≤ h := Nat.div_le_self _ _
  have hx : h ^^^ (h / 2 ^ b) < 2 ^ 64 := Nat.xor_lt_two_pow (by omega) (by omega)
  have e2 : IntKind.u64.wrap (2 ^ b) = ((2 ^ b : Nat) : Int) := by
    have := u64_wrap (2 ^ b) (by omega)
    rw [Int.natCast_pow] at this
    exact this.trans (by rw [Int.natCast_pow])
  have e3 : ((2 ^ b : Nat) : Int) - 1 = ((2 ^ b - 1 : Nat) : Int) := by omega
  rw [e1, u64_xor_nat _ _ hh (by omega), e2, e3, u64_wrap _ (by omega), u64_and_nat _ _ (by omega) (by omega), Nat.and_two_pow_sub_one_eq_mod]
  rw [foldN, if_neg (by omega)]

set_option maxRecDepth 100000 in
set_option maxHeartbeats 1000000 in
theorem fold_any (h : Nat) (b : Nat) (w : World) (hh : h < 18446744073709551616) (hb : b ≤ 6) :
    Calls Tryz.prog 158 #[.int .u64 h, .int .i64 b] w fun e w' => e = .returned (.int .u64 (foldN h b : Nat)) ∧ w = w' := by
  by_cases h0 : b < 1
  · obtain rfl : b = 0 := by omega
    have hv : foldN h 0 = 0 := by simp [foldN]
    rw [hv]
    clear hv
    go_enter Tryz.func158, Tryz.ntmps158
    go_wp2
    go_ret
    exact ⟨rfl, rfl⟩
  · have hv := fold_walk h b hh (by omega) (by omega)
    have Hv := Lib.hid hv
    clear hv
    go_enter Tryz.func158, Tryz.ntmps158
    go_wp2
    go_ret
    exact ⟨ret_int Hv.out, rfl⟩

set_option maxRecDepth 100000 in
set_option maxHeartbeats 1000000 in
theorem routeBits_0 (w : World) :
    Calls Tryz.prog 160 #[.int .i64 1] w fun e w' => e = .returned (.int .i64 0) ∧ w = w' := by
  have hr : okSt 1 = true := by decide
  have Hr := Lib.hid hr
  clear hr
  go_enter Tryz.func160, Tryz.ntmps160
  go_wp2_with (go_at_call 110; refine (routeRight_any 1 _ (by simp [I64])).mono ?_; rw [Hr.out]; rintro e w' ⟨rfl, rfl⟩)
  refine wp_loop_rounds 1 ?_
  rw [rounds_succ]
  go_wp2
  go_ret
  exact ⟨rfl, rfl⟩

set_option maxRecDepth 100000 in
set_option maxHeartbeats 1000000 in
theorem routeBits_1 (w : World) :
    Calls Tryz.prog 160 #[.int .i64 2] w fun e w' => e = .returned (.int .i64 1) ∧ w = w' := by
  have hr : okSt 2 = true := by decide
  have Hr := Lib.hid hr
  clear hr
  go_enter Tryz.func160, Tryz.ntmps160
  go_wp2_with (go_at_call 110; refine (routeRight_any 2 _ (by simp [I64])).mono ?_; rw [Hr.out]; rintro e w' ⟨rfl, rfl⟩)
  refine wp_loop_rounds 2 ?_
  rw [rounds_succ]
  go_wp2
  rw [rounds_succ]
  go_wp2
  go_ret
  exact ⟨rfl, rfl⟩

set_option maxRecDepth 100000 in
set_option maxHeartbeats 1000000 in
theorem routeBits_2 (w : World) :
    Calls Tryz.prog 160 #[.int .i64 4] w fun e w' => e = .returned (.int .i64 2) ∧ w = w' := by
  have hr : okSt 4 = true := by decide
  have Hr := Lib.hid hr
  clear hr
  go_enter Tryz.func160, Tryz.ntmps160
  go_wp2_with (go_at_call 110; refine (routeRight_any 4 _ (by simp [I64])).mono ?_; rw [Hr.out]; rintro e w' ⟨rfl, rfl⟩)
  refine wp_loop_rounds 3 ?_
  rw [rounds_succ]
  go_wp2
  rw [rounds_succ]
  go_wp2
  rw [rounds_succ]
  go_wp2
  go_ret
  exact ⟨rfl, rfl⟩

set_option maxRecDepth 100000 in
set_option maxHeartbeats 1000000 in
theorem routeBits_3 (w : World) :
    Calls Tryz.prog 160 #[.int .i64 8] w fun e w' => e = .returned (.int .i64 3) ∧ w = w' := by
  have hr : okSt 8 = true := by decide
  have Hr := Lib.hid hr
  clear hr
  go_enter Tryz.func160, Tryz.ntmps160
  go_wp2_with (go_at_call 110; refine (routeRight_any 8 _ (by simp [I64])).mono ?_; rw [Hr.out]; rintro e w' ⟨rfl, rfl⟩)
  refine wp_loop_rounds 4 ?_
  rw [rounds_succ]
  go_wp2
  rw [rounds_succ]
  go_wp2
  rw [rounds_succ]
  go_wp2
  rw [rounds_succ]
  go_wp2
  go_ret
  exact ⟨rfl, rfl⟩

set_option maxRecDepth 100000 in
set_option maxHeartbeats 1000000 in
theorem routeBits_4 (w : World) :
    Calls Tryz.prog 160 #[.int .i64 16] w fun e w' => e = .returned (.int .i64 4) ∧ w = w' := by
  have hr : okSt 16 = true := by decide
  have Hr := Lib.hid hr
  clear hr
  go_enter Tryz.func160, Tryz.ntmps160
  go_wp2_with (go_at_call 110; refine (routeRight_any 16 _ (by simp [I64])).mono ?_; rw [Hr.out]; rintro e w' ⟨rfl, rfl⟩)
  refine wp_loop_rounds 5 ?_
  rw [rounds_succ]
  go_wp2
  rw [rounds_succ]
  go_wp2
  rw [rounds_succ]
  go_wp2
  rw [rounds_succ]
  go_wp2
  rw [rounds_succ]
  go_wp2
  go_ret
  exact ⟨rfl, rfl⟩

set_option maxRecDepth 100000 in
set_option maxHeartbeats 1000000 in
theorem routeBits_5 (w : World) :
    Calls Tryz.prog 160 #[.int .i64 32] w fun e w' => e = .returned (.int .i64 5) ∧ w = w' := by
  have hr : okSt 32 = true := by decide
  have Hr := Lib.hid hr
  clear hr
  go_enter Tryz.func160, Tryz.ntmps160
  go_wp2_with (go_at_call 110; refine (routeRight_any 32 _ (by simp [I64])).mono ?_; rw [Hr.out]; rintro e w' ⟨rfl, rfl⟩)
  refine wp_loop_rounds 6 ?_
  rw [rounds_succ]
  go_wp2
  rw [rounds_succ]
  go_wp2
  rw [rounds_succ]
  go_wp2
  rw [rounds_succ]
  go_wp2
  rw [rounds_succ]
  go_wp2
  rw [rounds_succ]
  go_wp2
  go_ret
  exact ⟨rfl, rfl⟩

set_option maxRecDepth 100000 in
set_option maxHeartbeats 1000000 in
theorem routeBits_6 (w : World) :
    Calls Tryz.prog 160 #[.int .i64 64] w fun e w' => e = .returned (.int .i64 6) ∧ w = w' := by
  have hr : okSt 64 = true := by decide
  have Hr := Lib.hid hr
  clear hr
  go_enter Tryz.func160, Tryz.ntmps160
  go_wp2_with (go_at_call 110; refine (routeRight_any 64 _ (by simp [I64])).mono ?_; rw [Hr.out]; rintro e w' ⟨rfl, rfl⟩)
  refine wp_loop_rounds 7 ?_
  rw [rounds_succ]
  go_wp2
  rw [rounds_succ]
  go_wp2
  rw [rounds_succ]
  go_wp2
  rw [rounds_succ]
  go_wp2
  rw [rounds_succ]
  go_wp2
  rw [rounds_succ]
  go_wp2
  rw [rounds_succ]
  go_wp2
  go_ret
  exact ⟨rfl, rfl⟩

theorem routeBits_any (n : Int) (w : World) (hn : okSt n = true) :
    Calls Tryz.prog 160 #[.int .i64 n] w fun e w' => e = .returned (.int .i64 (bitsI n)) ∧ w = w' := by
  rcases (okSt_iff n).1 hn with rfl | rfl | rfl | rfl | rfl | rfl | rfl
  · exact routeBits_0 w
  · exact routeBits_1 w
  · exact routeBits_2 w
  · exact routeBits_3 w
  · exact routeBits_4 w
  · exact routeBits_5 w
  · exact routeBits_6 w

/-- A key's stripe. -/
def routeI (hi lo : Nat) (n : Int) : Int := if okSt n = true then (foldN (fnvKey hi lo) (bitsI n).toNat : Nat) else -1

theorem bitsI_bd (n : Int) (h : okSt n = true) : 0 ≤ bitsI n ∧ bitsI n ≤ 6 := by
  unfold bitsI
  rcases (okSt_iff n).1 h with rfl | rfl | rfl | rfl | rfl | rfl | rfl <;> decide

set_option maxRecDepth 100000 in
set_option maxHeartbeats 1000000 in
theorem routeOf_any (hi lo : Nat) (n : Int) (w : World) (h1 : hi < 18446744073709551616) (h2 : lo < 18446744073709551616) (hn : I64 n) :
    Calls Tryz.prog 88 #[keyV hi lo, .int .i64 n] w fun e w' => e = .returned (.int .i64 (routeI hi lo n)) ∧ Below w.heap.size w w' := by
  cases hr : okSt n with
  | false =>
    have hv : routeI hi lo n = -1 := by simp [routeI, hr]
    rw [hv]
    have Hr := Lib.hid hr
    clear hr hv
    unfold keyV
    go_enter Tryz.func88, Tryz.ntmps88
    go_wp2_with (go_at_call 110; refine (routeRight_any n _ hn).mono ?_; rw [Hr.out]; rintro e w' ⟨rfl, rfl⟩)
    go_ret
    exact ⟨rfl, balloc (Below.refl _ _) _⟩
  | true =>
    have hb := bitsI_bd n hr
    obtain ⟨m, hm⟩ := Int.eq_ofNat_of_zero_le hb.1
    have hv : routeI hi lo n = (foldN (fnvKey hi lo) m : Nat) := by simp [routeI, hr, hm]
    have hf := foldN_lt (fnvKey hi lo) m
    have hk := fnvKey_lt hi lo
    have hm6 : m ≤ 6 := by omega
    rw [hv]
    have Hr := Lib.hid hr
    have Hm := Lib.hid hm
    clear hr hv hm hb
    unfold keyV
    go_enter Tryz.func88, Tryz.ntmps88
    go_wp2_with (first
      | (go_at_call 110; refine (routeRight_any n _ hn).mono ?_; rw [Hr.out]; rintro e w' ⟨rfl, rfl⟩)
      | (go_at_call 159; refine (fnvKey_any hi lo _ h1 h2).mono ?_; rintro e w1 ⟨rfl, hb1⟩)
      | (go_at_call 160; refine (routeBits_any n _ Hr.out).mono ?_; rw [Hm.out]; rintro e w' ⟨rfl, rfl⟩)
      | (go_at_call 158; refine (fold_any _ m _ hk hm6).mono ?_; rintro e w' ⟨rfl, rfl⟩))
    go_ret
    exact ⟨rfl, bthen (balloc (Below.refl _ _) _) hb1⟩
end

section
set_option linter.unusedSimpArgs false
set_option linter.unusedVariables false
open Go.RowKit Go.Lib

abbrev Itm := Ky × Nd
def atP (l : List Itm) (k : Ky) : Nat := (l.takeWhile (fun x => ltK x.1 k)).length
def hasP (l : List Itm) (k : Ky) : Bool := match l[atP l k]? with
  | none => false
  | some x => decide (x.1 = k)
def getP (l : List Itm) (k : Ky) : Nd := match l[atP l k]? with
  | none => nd0
  | some x => if x.1 = k then x.2 else nd0
def outP (l : List Itm) (k : Ky) (y : Nd) : List Itm := l.take (atP l k) ++ [(k, y)] ++ l.drop (if hasP l k = true then atP l k + 1 else atP l k)
theorem takeWhile_map_len {α β : Type} (f : α → β) (p : β → Bool) : ∀ l : List α, ((l.map f).takeWhile p).length = (l.takeWhile (fun x => p (f x))).length
  | [] => rfl
  | a :: l => by
    rw [List.map_cons, List.takeWhile_cons, List.takeWhile_cons]
    cases p (f a)
    · rfl
    · simp [takeWhile_map_len f p l]
theorem atP_abs (l : List It) (k : Ky) : atP (l.map absI) k = atI l k := takeWhile_map_len absI _ l
theorem hasP_abs (l : List It) (k : Ky) : hasP (l.map absI) k = hasI l k := by
  unfold hasP hasI
  rw [atP_abs]
  by_cases h : atI l k < l.length
  · rw [dif_pos h, List.getElem?_map, List.getElem?_eq_getElem h]
    rfl
  · rw [dif_neg h, List.getElem?_map, List.getElem?_eq_none (by omega)]
    rfl
theorem getP_abs (l : List It) (k : Ky) : getP (l.map absI) k = (getL l k).nd := by
  unfold getP getL
  rw [atP_abs]
  by_cases h : atI l k < l.length
  · rw [dif_pos h, List.getElem?_map, List.getElem?_eq_getElem h]
    by_cases h2 : l[atI l k].key = k
    · rw [if_pos h2]
      exact if_pos h2
    · rw [if_neg h2]
      exact if_neg h2
  · rw [dif_neg h, List.getElem?_map, List.getElem?_eq_none (by omega)]
    rfl
theorem outP_abs (l : List It) (k : Ky) (y : Nd) : outP (l.map absI) k y = outI l k y := by
  unfold outP outI
  rw [atP_abs, hasP_abs]
/-- One workload of a stripe. -/
def oneP (c : Cfg) (rs rh : Nat) (l : List Itm) (k : Ky) (a : Act17) : List Itm × Int :=
  let r := do17 rs rh (getP l k) a
  if r.2.1 ≠ 0 then (l, r.2.1)
  else if hasP l k = false ∧ a.kind = 3 then (l, 5)
  else if hasP l k = false ∧ c.lo ≤ (l.length : Nat) then (l, 6)
  else (outP l k r.1, 0)
/-- A reply. -/
structure RepD where
  err : Int
  ep : Int
  hd : Int
  st : StD
  adv : Adv
def repC (r : RepD) : List Value := [.int .i64 r.err, .int .i64 r.ep, .int .i64 r.hd, .int .i64 r.st.cnt, .int .i64 r.st.sum, .int .i64 r.st.least, .int .i64 r.st.most, .int .i64 r.st.mean, .int .i64 r.adv.tick, .int .i64 r.adv.load, .int .i64 r.adv.want, .int .i64 r.adv.repl, .int .i64 r.adv.why]
def repV (r : RepD) : Value := .agg (repC r).toArray
def repF (e : Int) : RepD := ⟨e, 0, 0, st0, adv0⟩
structure CutD where
  ep : Int
  items : List Itm
  freed : Bool
structure Wd where
  st : List (List Itm)
  cuts : List CutD
  ep : Int
  over : Bool
def newW (n : Nat) : Wd := ⟨List.replicate n [], [], 0, false⟩
/-- An id's key; that of what is none. -/
def keyK (s : ByteArray) : Ky := if idS s = true then (hiN s.data.toList, loN s.data.toList) else (0, 0)
theorem keyK_ok (s : ByteArray) : (keyK s).ok := by
  unfold keyK
  split
  · have h1 := hiN_lt s.data.toList
    have h2 := loN_lt s.data.toList
    exact ⟨by show hiN _ < _; omega, by show loN _ < _; omega⟩
  · exact ⟨by decide, by decide⟩
def findIt (l : List Itm) (k : Ky) : Option Nd := (l.find? fun p => decide (p.1 = k)).map (·.2)
def allW (w : Wd) : List Itm := w.st.flatten
def loadW (w : Wd) (id : ByteArray) : Option Nd := findIt (allW w) (keyK id)
def atW (c : Cfg) (id : ByteArray) : Nat := (routeI (keyK id).1 (keyK id).2 c.st).toNat
def oneW (c : Cfg) (rs rh : Nat) (w : Wd) (id : ByteArray) (a : Act17) : Wd × Int :=
  ({ w with st := w.st.set (atW c id) (oneP c rs rh (w.st.getD (atW c id) []) (keyK id) a).1 }, (oneP c rs rh (w.st.getD (atW c id) []) (keyK id) a).2)
def trimW (w : Wd) (cut : Int) : Wd := { w with st := w.st.map fun l => l.map fun p => (p.1, trimR cut p.2) }
def tabW (w : Wd) : List Int := w.cuts.map fun c => if c.freed = true then -1 else c.ep
def liveT (t : List Int) : Nat := t.countP fun n => decide (0 ≤ n)
def findT (t : List Int) (n : Int) : Int := if n < 1 ∨ (t.length : Nat) < n then 5 else match t[n.toNat - 1]? with
  | none => 5
  | some e => if e < 0 then 8 else 0
def snapW (w : Wd) : Wd × RepD :=
  if 64 ≤ liveT (tabW w) then (w, repF 6)
  else ({ w with ep := w.ep + 1, cuts := w.cuts ++ [⟨w.ep + 1, allW w, false⟩] }, ⟨0, w.ep + 1, ((w.cuts.length + 1 : Nat) : Int), st0, adv0⟩)
def freeW (w : Wd) (n : Int) : Wd × RepD :=
  if findT (tabW w) n ≠ 0 then (w, repF (findT (tabW w) n))
  else ({ w with cuts := w.cuts.set (n.toNat - 1) ⟨0, [], true⟩ }, repF 0)
def lookW (w : Wd) (x : CallD) : RepD :=
  if findT (tabW w) x.handle ≠ 0 then repF (findT (tabW w) x.handle)
  else match w.cuts[x.handle.toNat - 1]? with
    | none => repF 5
    | some c => match findIt c.items (keyK x.id) with
      | none => repF 5
      | some y => ⟨0, c.ep, 0, statW y.smp x.tick x.val, adv0⟩
def readW (w : Wd) (id : ByteArray) : RepD := match loadW w id with
  | none => repF 5
  | some y => match y.past.getLast? with
    | none => repF 0
    | some a => ⟨0, 0, 0, st0, a⟩
/-- What a call does, and is answered. -/
def doW (c : Cfg) (rs rh : Nat) (w : Wd) (x : CallD) : Wd × RepD :=
  if chkC x ≠ 0 then (w, repF (chkC x))
  else if x.kind = 1 then ((oneW c rs rh w x.id ⟨0, (x.tick, x.val), pol0, adv0⟩).1, repF (oneW c rs rh w x.id ⟨0, (x.tick, x.val), pol0, adv0⟩).2)
  else if x.kind = 2 then (trimW w x.tick, repF 0)
  else if x.kind = 3 then snapW w
  else if x.kind = 4 then freeW w x.handle
  else if x.kind = 5 then (w, lookW w x)
  else if x.kind = 6 then ((oneW c rs rh w x.id ⟨2, (0, 0), x.pol, adv0⟩).1, repF (oneW c rs rh w x.id ⟨2, (0, 0), x.pol, adv0⟩).2)
  else if x.kind = 7 then (w, readW w x.id)
  else if w.over = true then (w, repF 9)
  else ({ w with over := true }, repF 0)
def planW (w : Wd) (id : ByteArray) : Adv × Int := match loadW w id with
  | none => (adv0, 5)
  | some y => if y.ruled = true then decI y.pol y.smp y.past else (adv0, 5)
def noteW (c : Cfg) (rs rh : Nat) (w : Wd) (id : ByteArray) (a : Adv) : Wd × Bool := match loadW w id with
  | none => (w, false)
  | some _ => ((oneW c rs rh w id ⟨3, (0, 0), pol0, a⟩).1, true)
end

end Go.Proofs.YtmniiodpbebnmaaGreat
