/- The names of keys in a line: the plain law. -/
import Derived.Test.YtfnabpmdjfejbaaDoorJEvS
import Derived.Test.YtfnabpmdjfejbaaDoorKeys
import Derived.Deep.DeepCutAuto
namespace Go.Proofs.YtfnabpmdjfejbaaDoor
set_option linter.unusedSimpArgs false
set_option linter.unusedVariables false
open Go.RowKit Go.Lib

def nm (p : Ky) : ByteArray := nameS p.1 p.2
def comS (ws : List ByteArray) : ByteArray := ⟨(Lib.join (ws.map (·.data.toList)) [44]).toArray⟩
def namesS (l : List Ky) : ByteArray := if l = [] then ⟨#[45]⟩ else comS (l.map nm)
def yesS (b : Bool) : ByteArray := if b = true then ⟨#[121, 101, 115]⟩ else ⟨#[110, 111]⟩
def sumW (used opn : Int) (l : List Ky) (rest : Bool) : List ByteArray := [⟨#[117, 115, 101, 100]⟩, dec used, ⟨#[111, 112, 101, 110]⟩, dec opn, ⟨#[119, 97, 105, 116, 105, 110, 103]⟩, namesS l, ⟨#[114, 101, 115, 116]⟩, yesS rest]
def sumS (used opn : Int) (l : List Ky) (rest : Bool) : ByteArray := joinS (sumW used opn l rest)
theorem empty_app (x : ByteArray) : (⟨#[]⟩ : ByteArray) ++ x = x := by apply bytes_ext; simp [ByteArray.data_append]
theorem comS_nil : comS [] = ⟨#[]⟩ := by apply bytes_ext; simp [comS, Lib.join, List.intercalate]
theorem comS_one (x : ByteArray) : comS [x] = x := by apply bytes_ext; simp [comS, Lib.join, List.intercalate]
theorem inter_snoc (s x : List UInt8) : ∀ ws : List (List UInt8), ws ≠ [] → List.intercalate s (ws ++ [x]) = List.intercalate s ws ++ s ++ x
  | [], h => absurd rfl h
  | [a], _ => by simp [List.intercalate]
  | a :: b :: l, _ => by
    have := inter_snoc s x (b :: l) (by simp)
    simp [List.intercalate] at this ⊢
    exact this
theorem comS_snoc (ws : List ByteArray) (x : ByteArray) (h : ws ≠ []) : comS (ws ++ [x]) = comS ws ++ ⟨#[44]⟩ ++ x := by
  apply bytes_ext
  have := inter_snoc [44] x.data.toList (ws.map (·.data.toList)) (by simpa using h)
  simp [comS, Lib.join, ByteArray.data_append] at this ⊢
  simpa using this
theorem comS_size (B : Nat) (ws : List ByteArray) (h : ∀ s ∈ ws, s.size ≤ B) : (comS ws).size ≤ B * ws.length + ws.length := by
  unfold comS
  rw [bytes_size]
  cases ws with
  | nil => simp [Lib.join, List.intercalate]
  | cons x r =>
    have h1 := lens_leB B (x :: r) h
    rw [List.map_cons, Lib.join_length]
    simp only [List.map_cons, List.length_cons, List.length_map, List.length_nil] at h1 ⊢
    omega
theorem nms_size (l : List Ky) (n : Nat) (hl : l.length ≤ n) : (comS (l.map nm)).size ≤ 21 * n := by
  have := comS_size 20 (l.map nm) (fun s hs => by obtain ⟨p, _, rfl⟩ := List.mem_map.1 hs; exact (nameS_size _ _).2)
  rw [List.length_map] at this
  omega
theorem namesS_size (l : List Ky) (hl : l.length ≤ 40) : (namesS l).size ≤ 1000 := by
  unfold namesS
  split
  · decide
  · have := nms_size l 40 hl; omega
theorem sumW_size {used opn : Int} {l : List Ky} {rest : Bool} (hu : I64 used) (ho : I64 opn) (hl : l.length ≤ 40) : ∀ s ∈ sumW used opn l rest, s.size ≤ 1000 := by
  have q1 := dec_1000 hu
  have q2 := dec_1000 ho
  have q3 := namesS_size l hl
  have q4 : (yesS rest).size ≤ 1000 := by unfold yesS; split <;> decide
  intro s hs
  unfold sumW at hs
  simp only [List.mem_cons, List.not_mem_nil, or_false] at hs
  rcases hs with rfl | rfl | rfl | rfl | rfl | rfl | rfl | rfl <;> first | assumption | decide
theorem sumS_size {used opn : Int} {l : List Ky} {rest : Bool} (hu : I64 used) (ho : I64 opn) (hl : l.length ≤ 40) : (sumS used opn l rest).size ≤ 9000 := by
  have := joinS_size 1000 _ (sumW_size (rest := rest) hu ho hl)
  rw [show (sumW used opn l rest).length = 8 from rfl] at this
  exact Nat.le_trans this (by decide)
theorem sumS_cat (used opn : Int) (l : List Ky) (rest : Bool) : sumS used opn l rest = ⟨#[117, 115, 101, 100, 32]⟩ ++ dec used ++ ⟨#[32, 111, 112, 101, 110, 32]⟩ ++ dec opn ++ ⟨#[32, 119, 97, 105, 116, 105, 110, 103, 32]⟩ ++ namesS l ++ ⟨#[32, 114, 101, 115, 116, 32]⟩ ++ yesS rest := by
  apply bytes_ext; simp [sumS, sumW, joinS, Lib.join, ByteArray.data_append, List.intercalate]
theorem take_map_succ (l : List Ky) (i : Nat) (h : i < l.length) : (l.take (i + 1)).map nm = (l.take i).map nm ++ [nm l[i]] := by
  rw [List.take_succ_eq_append_getElem h, List.map_append]; rfl

set_option maxRecDepth 100000 in
set_option maxHeartbeats 4000000 in
theorem rsum_any (used opn : Int) (v : Value) (l : List Ky) (rest : Bool) (w : World) (hv : KeysIn w v l) (hok : ∀ p ∈ l, p.ok) (hl : l.length ≤ 40) (hu : I64 used) (ho : I64 opn) :
    Calls Tryd.prog 15 #[.int .i64 used, .int .i64 opn, v, .bool rest] w fun e w' => e = .returned (.string (sumS used opn l rest)) ∧ Below w.heap.size w w' := by
  obtain ⟨A, c, rfl, h0⟩ := id hv
  clear h0
  rw [sumS_cat]
  obtain ⟨c0, s0⟩ := rdec_says used hu (dec used) rfl
  obtain ⟨c1, s1⟩ := rdec_says opn ho (dec opn) rfl
  have C0 := Lib.hid c0
  have C1 := Lib.hid c1
  have HV := Lib.hid hv
  have HOK := Lib.hid hok
  have HL := Lib.hid hl
  clear c0 c1 hv hok hu ho
  go_enter Tryd.func15, Tryd.ntmps15
  go_wp2_with fail
  go_loopg [9, 10] l.length (fun g s9 s10 wr => ∃ i, i ≤ l.length ∧ l.length - i ≤ g ∧ s10 = .int .i64 (i : Nat) ∧ s9 = .string (comS ((l.take i).map nm)) ∧ Below w.heap.size w wr)
  case atStart => exact ⟨0, Nat.zero_le _, Nat.le_refl _, rfl, by rw [List.take_zero, List.map_nil, comS_nil], Below.refl _ _⟩
  case round =>
    obtain ⟨i, hi, hg, rfl, rfl, hb⟩ := hrel
    rename World => wr
    have HB := Lib.hid hb
    clear hb
    by_cases hlt : i < l.length
    · obtain ⟨b1, o1, rfl, hb1, k1, k2⟩ := (HV.out.below HB.out).at_ hlt
      have hpk := HOK.out _ (List.getElem_mem hlt)
      have hs := nms_size (l.take i) i (by rw [List.length_take]; omega)
      have HN := Lib.hid (show comS ((l.take (i + 1)).map nm) = if i = 0 then nm l[i] else comS ((l.take i).map nm) ++ ⟨#[44]⟩ ++ nm l[i] by
        rw [take_map_succ l i hlt]
        by_cases h : i = 0
        · subst h; rw [if_pos rfl, List.take_zero, List.map_nil, List.nil_append, comS_one]
        · rw [if_neg h]; exact comS_snoc _ _ (fun e => by have := congrArg List.length e; rw [List.length_map, List.length_take, List.length_nil] at this; omega))
      have hn20 := (nameS_size (l[i]).1 (l[i]).2).2
      have CI := Lib.hid (fun W => rid43_any (l[i]).1 (l[i]).2 W hpk.1 hpk.2)
      change (nm l[i]).size ≤ 20 at hn20
      change Hid (∀ W, Calls Tryd.prog 39 #[keyV (l[i]).1 (l[i]).2] W fun e w' => e = .returned (.string (nm l[i])) ∧ Below W.heap.size W w') at CI
      unfold keyV at CI
      generalize nm l[i] = x at HN hn20 CI
      generalize (l[i]).1 = p1 at k1 CI
      generalize (l[i]).2 = p2 at k2 CI
      by_cases h : i = 0
      · subst h
        rw [if_pos rfl] at HN
        have he : comS ((l.take 0).map nm) = ⟨#[]⟩ := by rw [List.take_zero, List.map_nil, comS_nil]
        rw [he] at hs ⊢
        simp only [Nat.zero_mul, Nat.add_zero] at k1 k2
        clear he hpk
        go_wp2_with (go_at_call 39; with_reducible refine (CI.out _).mono ?_; rintro e w1 ⟨rfl, hb2⟩; have HB2 := Lib.hid (bthen HB.out hb2); clear hb2)
        go_roundg (l.length - (0 + 1))
        case measure => omega
        case rel => exact ⟨0 + 1, hlt, Nat.le_refl _, by go_num, by rw [HN.out, empty_app], HB2.out⟩
      · rw [if_neg h] at HN
        have h0 : 0 < i := by omega
        generalize comS ((l.take i).map nm) = y at HN hs
        clear hpk h
        go_wp2_with (go_at_call 39; with_reducible refine (CI.out _).mono ?_; rintro e w1 ⟨rfl, hb2⟩; have HB2 := Lib.hid (bthen HB.out hb2); clear hb2)
        go_roundg (l.length - (i + 1))
        case measure => omega
        case rel => exact ⟨i + 1, hlt, Nat.le_refl _, by go_num, by rw [HN.out], HB2.out⟩
    · obtain rfl : i = l.length := by omega
      rw [List.take_length]
      have hns := namesS_size l hl
      cases l with
      | nil =>
        simp only [List.map_nil, comS_nil, List.length_nil]
        have HE := Lib.hid (show namesS [] = ⟨#[45]⟩ from rfl)
        cases rest with
        | true =>
          go_wp2_with (first | (go_at_call 37; with_reducible refine (C0.out _).mono ?_; rintro e w' ⟨rfl, rfl⟩) | (go_at_call 37; with_reducible refine (C1.out _).mono ?_; rintro e w' ⟨rfl, rfl⟩))
          go_ret
          exact ⟨by rw [HE.out]; rfl, HB.out⟩
        | false =>
          go_wp2_with (first | (go_at_call 37; with_reducible refine (C0.out _).mono ?_; rintro e w' ⟨rfl, rfl⟩) | (go_at_call 37; with_reducible refine (C1.out _).mono ?_; rintro e w' ⟨rfl, rfl⟩))
          go_ret
          exact ⟨by rw [HE.out]; rfl, HB.out⟩
      | cons p m =>
        have HE := Lib.hid (show namesS (p :: m) = comS ((p :: m).map nm) from rfl)
        rw [HE.out] at hns
        have hlen : 0 < (p :: m).length := by simp
        generalize comS ((p :: m).map nm) = y at hns HE
        generalize (p :: m).length = n at hlen
        have q1 : ((n : Int) == 0) = false := by simp; omega
        have q2 : ¬ ((n : Int) = 0) := by omega
        have q3 : ¬ n = 0 := by omega
        cases rest with
        | true =>
          go_wp2_with (first | (go_at_call 37; with_reducible refine (C0.out _).mono ?_; rintro e w' ⟨rfl, rfl⟩) | (go_at_call 37; with_reducible refine (C1.out _).mono ?_; rintro e w' ⟨rfl, rfl⟩))
          go_ret
          exact ⟨by rw [HE.out]; rfl, HB.out⟩
        | false =>
          go_wp2_with (first | (go_at_call 37; with_reducible refine (C0.out _).mono ?_; rintro e w' ⟨rfl, rfl⟩) | (go_at_call 37; with_reducible refine (C1.out _).mono ?_; rintro e w' ⟨rfl, rfl⟩))
          go_ret
          exact ⟨by rw [HE.out]; rfl, HB.out⟩
end Go.Proofs.YtfnabpmdjfejbaaDoor
