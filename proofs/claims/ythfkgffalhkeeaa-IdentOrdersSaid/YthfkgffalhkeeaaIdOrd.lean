/- The walk of IdentOrders. -/
import Derived.Test.YthfkgffalhkeeaaIdLaws
namespace Go.Proofs.Ythfkgffalhkeeaa
open Go.RowKit Go.Lib

theorem keepT {a b : World} {x y : Value} {T n : Nat} (k : Below n (a.alloc (.cells #[x, y] T)) b) (e : n = (a.alloc (.cells #[x, y] T)).heap.size := by rfl) :
    b.cell? ⟨a.heap.size, 0, none⟩ = some x ∧ b.cell? ⟨a.heap.size, 1, none⟩ = some y ∧ a.heap.size < b.heap.size := by
  subst e
  have h := k.size
  simp at h
  refine ⟨(k.cell (p := ⟨a.heap.size, 0, none⟩) (by simp)).trans (by simp [go_sem]), (k.cell (p := ⟨a.heap.size, 1, none⟩) (by simp)).trans (by simp [go_sem]), by omega⟩

theorem keepU {w a b : World} {g n : Nat} {x y : Value} {o : Obj} (h : a.cell? ⟨g, 0, none⟩ = some x ∧ a.cell? ⟨g, 1, none⟩ = some y ∧ Below w.heap.size w a ∧ g < a.heap.size) (k : Below n (a.alloc o) b) (e : n = (a.alloc o).heap.size := by rfl) :
    b.cell? ⟨g, 0, none⟩ = some x ∧ b.cell? ⟨g, 1, none⟩ = some y ∧ Below w.heap.size w b ∧ g < b.heap.size :=
  keepK (a := a.alloc o) ⟨(World.cell?_alloc_lt a o ⟨g, 0, none⟩ h.2.2.2).trans h.1, (World.cell?_alloc_lt a o ⟨g, 1, none⟩ h.2.2.2).trans h.2.1, balloc h.2.2.1 o, by simp; exact Nat.lt_succ_of_lt h.2.2.2⟩ k e

theorem keepV {a b : World} {g n : Nat} {x y : Value} (h : a.cell? ⟨g, 0, none⟩ = some x ∧ a.cell? ⟨g, 1, none⟩ = some y ∧ g < a.heap.size) (k : Below n a b) (e : n = a.heap.size := by rfl) :
    b.cell? ⟨g, 0, none⟩ = some x ∧ b.cell? ⟨g, 1, none⟩ = some y := by
  subst e
  exact ⟨(k.cell (p := ⟨g, 0, none⟩) h.2.2).trans h.1, (k.cell (p := ⟨g, 1, none⟩) h.2.2).trans h.2.1⟩

set_option maxRecDepth 100000 in
set_option maxHeartbeats 1000000 in
theorem orders_walk (s t : ByteArray) (w : World) (hs : s.size ≤ maxLen) (ht : t.size ≤ maxLen) :
    Calls Try.prog 5 #[.string s, .string t] w fun e w' => e = .returned (.bool true) ∧ Below w.heap.size w w' := by
  cases hids : idS s with
  | false =>
    have Hids := Lib.hid hids
    clear hids
    go_enter Try.func5, Try.ntmps5
    go_wp2_with (first
      | (go_at_call 8; refine (awake_any _).mono ?_; rintro e w1 ⟨rfl, hb1⟩)
      | (go_at_call 10; refine (id_any _ _ hs).mono ?_; rw [Hids.out]; rintro e w' ⟨rfl, rfl⟩))
    go_ret
    exact ⟨rfl, hb1⟩
  | true =>
    cases hidt : idS t with
    | false =>
      have Hids := Lib.hid hids
      have Hidt := Lib.hid hidt
      clear hids hidt
      go_enter Try.func5, Try.ntmps5
      go_wp2_with (first
        | (go_at_call 8; refine (awake_any _).mono ?_; rintro e w1 ⟨rfl, hb1⟩)
        | (go_at_call_of 10 (Value.string s); refine (id_any s _ hs).mono ?_; rw [Hids.out]; rintro e w' ⟨rfl, rfl⟩)
        | (go_at_call_of 10 (Value.string t); refine (id_any t _ ht).mono ?_; rw [Hidt.out]; rintro e w' ⟨rfl, rfl⟩))
      go_ret
      exact ⟨rfl, hb1⟩
    | true =>
      have hw := cmp_want s t hids hidt
      have a1 := hiN_lt s.data.toList
      have a2 := loN_lt s.data.toList
      have a3 := hiN_lt t.data.toList
      have a4 := loN_lt t.data.toList
      have hps : packV s = .tuple #[.agg #[.int .u64 (hiN s.data.toList), .int .u64 (loN s.data.toList)], .int .i64 0] := by simp [packV, hids]
      have hpt : packV t = .tuple #[.agg #[.int .u64 (hiN t.data.toList), .int .u64 (loN t.data.toList)], .int .i64 0] := by simp [packV, hidt]
      have Hids := Lib.hid hids
      have Hidt := Lib.hid hidt
      have Hps := Lib.hid hps
      have Hpt := Lib.hid hpt
      have Hw := Lib.hid hw
      clear hids hidt hps hpt hw
      cases hb : beforeS s t with
      | true =>
        have hv : wantI s t = -1 := by simp [wantI, hb]
        rw [hv] at Hw
        have Hb := Lib.hid hb
        clear hb hv
        go_enter Try.func5, Try.ntmps5
        go_wp2_with (first
          | (go_at_call 8; refine (awake_any _).mono ?_; rintro e w1 ⟨rfl, hb1⟩)
          | (go_at_call_of 10 (Value.string s); refine (id_any s _ hs).mono ?_; rw [Hids.out]; rintro e w' ⟨rfl, rfl⟩)
          | (go_at_call_of 10 (Value.string t); refine (id_any t _ ht).mono ?_; rw [Hidt.out]; rintro e w' ⟨rfl, rfl⟩)
          | (go_at_call_of 9 (Value.string s); refine (pack_any s _ hs).mono ?_; rw [Hps.out]; rintro e w2 ⟨rfl, hb2⟩)
          | (go_at_call_of 9 (Value.string t); refine (pack_any t _ ht).mono ?_; rw [Hpt.out]; rintro e w3 ⟨rfl, hb3⟩
             have hT3 := keepT hb3; have hS3 := And.intro hT3.1 (And.intro hT3.2.1 (And.intro (bthen (balloc (bthen hb1 hb2) _) hb3) hT3.2.2))
             have hz3 := hS3.2.2.2)
          | (go_at_call 15; refine (before_any s t _ hs ht).mono ?_; rw [Hb.out]; rintro e w4 ⟨rfl, hb4⟩
             have hT4 := keepT hb4
             have hS4 := keepU hS3 hb4
             have c1 := hT4.1; have c2 := hT4.2.1; have c3 := hS4.1; have c4 := hS4.2.1)
          | (go_at_call 16; refine (cmp_any _ _ _ _ _ (by omega) (by omega) (by omega) (by omega)).mono ?_; rw [Hw.out.1]; rintro e w5 ⟨rfl, hb5⟩
             have hT5 := keepV hT4 hb5
             have hS5 := keepK hS4 hb5 rfl
             have d1 := hT5.1; have d2 := hT5.2; have d3 := hS5.1; have d4 := hS5.2.1)
          | (go_at_call 16; refine (cmp_any _ _ _ _ _ (by omega) (by omega) (by omega) (by omega)).mono ?_; rw [Hw.out.2]; rintro e w6 ⟨rfl, hb6⟩))
        go_ret
        exact ⟨rfl, bthen hS5.2.2.1 hb6⟩
      | false =>
        by_cases hst : s = t
        · have hv : wantI s t = 0 := by rw [wantI, hb, if_neg (by simp), if_pos hst]
          have hq : (s.toList == t.toList) = true := by rw [hst]; simp
          rw [hv] at Hw
          have Hb := Lib.hid hb
          clear hb hv hst
          go_enter Try.func5, Try.ntmps5
          go_wp2_with (first
            | (go_at_call 8; refine (awake_any _).mono ?_; rintro e w1 ⟨rfl, hb1⟩)
            | (go_at_call_of 10 (Value.string s); refine (id_any s _ hs).mono ?_; rw [Hids.out]; rintro e w' ⟨rfl, rfl⟩)
            | (go_at_call_of 10 (Value.string t); refine (id_any t _ ht).mono ?_; rw [Hidt.out]; rintro e w' ⟨rfl, rfl⟩)
            | (go_at_call_of 9 (Value.string s); refine (pack_any s _ hs).mono ?_; rw [Hps.out]; rintro e w2 ⟨rfl, hb2⟩)
            | (go_at_call_of 9 (Value.string t); refine (pack_any t _ ht).mono ?_; rw [Hpt.out]; rintro e w3 ⟨rfl, hb3⟩
               have hT3 := keepT hb3; have hS3 := And.intro hT3.1 (And.intro hT3.2.1 (And.intro (bthen (balloc (bthen hb1 hb2) _) hb3) hT3.2.2))
               have hz3 := hS3.2.2.2)
            | (go_at_call 15; refine (before_any s t _ hs ht).mono ?_; rw [Hb.out]; rintro e w4 ⟨rfl, hb4⟩
               have hT4 := keepT hb4
               have hS4 := keepU hS3 hb4
               have c1 := hT4.1; have c2 := hT4.2.1; have c3 := hS4.1; have c4 := hS4.2.1)
            | (go_at_call 16; refine (cmp_any _ _ _ _ _ (by omega) (by omega) (by omega) (by omega)).mono ?_; rw [Hw.out.1]; rintro e w5 ⟨rfl, hb5⟩
               have hT5 := keepV hT4 hb5
               have hS5 := keepK hS4 hb5 rfl
               have d1 := hT5.1; have d2 := hT5.2; have d3 := hS5.1; have d4 := hS5.2.1)
            | (go_at_call 16; refine (cmp_any _ _ _ _ _ (by omega) (by omega) (by omega) (by omega)).mono ?_; rw [Hw.out.2]; rintro e w6 ⟨rfl, hb6⟩))
          go_ret
          exact ⟨rfl, bthen hS5.2.2.1 hb6⟩
        · have hv : wantI s t = 1 := by simp [wantI, hb, hst]
          have hq : (s.toList == t.toList) = false := by
            rw [beq_eq_false_iff_ne, ByteArray.toList_eq, ByteArray.toList_eq]
            exact fun h => hst (bytes_ext h)
          rw [hv] at Hw
          have Hb := Lib.hid hb
          clear hb hv hst
          go_enter Try.func5, Try.ntmps5
          go_wp2_with (first
            | (go_at_call 8; refine (awake_any _).mono ?_; rintro e w1 ⟨rfl, hb1⟩)
            | (go_at_call_of 10 (Value.string s); refine (id_any s _ hs).mono ?_; rw [Hids.out]; rintro e w' ⟨rfl, rfl⟩)
            | (go_at_call_of 10 (Value.string t); refine (id_any t _ ht).mono ?_; rw [Hidt.out]; rintro e w' ⟨rfl, rfl⟩)
            | (go_at_call_of 9 (Value.string s); refine (pack_any s _ hs).mono ?_; rw [Hps.out]; rintro e w2 ⟨rfl, hb2⟩)
            | (go_at_call_of 9 (Value.string t); refine (pack_any t _ ht).mono ?_; rw [Hpt.out]; rintro e w3 ⟨rfl, hb3⟩
               have hT3 := keepT hb3; have hS3 := And.intro hT3.1 (And.intro hT3.2.1 (And.intro (bthen (balloc (bthen hb1 hb2) _) hb3) hT3.2.2))
               have hz3 := hS3.2.2.2)
            | (go_at_call 15; refine (before_any s t _ hs ht).mono ?_; rw [Hb.out]; rintro e w4 ⟨rfl, hb4⟩
               have hT4 := keepT hb4
               have hS4 := keepU hS3 hb4
               have c1 := hT4.1; have c2 := hT4.2.1; have c3 := hS4.1; have c4 := hS4.2.1)
            | (go_at_call 16; refine (cmp_any _ _ _ _ _ (by omega) (by omega) (by omega) (by omega)).mono ?_; rw [Hw.out.1]; rintro e w5 ⟨rfl, hb5⟩
               have hT5 := keepV hT4 hb5
               have hS5 := keepK hS4 hb5 rfl
               have d1 := hT5.1; have d2 := hT5.2; have d3 := hS5.1; have d4 := hS5.2.1)
            | (go_at_call 16; refine (cmp_any _ _ _ _ _ (by omega) (by omega) (by omega) (by omega)).mono ?_; rw [Hw.out.2]; rintro e w6 ⟨rfl, hb6⟩))
          go_ret
          exact ⟨rfl, bthen hS5.2.2.1 hb6⟩

end Go.Proofs.Ythfkgffalhkeeaa
