/- line.Advice, flywheelref41.Advice: a decision's line. -/
import Derived.Test.YtmndhffimlkjgaaDoorJ18
namespace Go.Proofs.YtmndhffimlkjgaaDoor

section
set_option linter.unusedSimpArgs false
set_option linter.unusedVariables false
open Go.RowKit Go.Lib

def advW (tick load want repl why : Int) : List ByteArray := [(⟨#[116, 105, 99, 107]⟩ : ByteArray), dec tick, (⟨#[108, 111, 97, 100]⟩ : ByteArray), dec load, (⟨#[119, 97, 110, 116]⟩ : ByteArray), dec want, (⟨#[114, 101, 112, 108, 105, 99, 97, 115]⟩ : ByteArray), dec repl, (⟨#[119, 104, 121]⟩ : ByteArray), dec why]
def advS (tick load want repl why : Int) : ByteArray := joinS (advW tick load want repl why)
theorem advS_cat (tick load want repl why : Int) : advS tick load want repl why = ⟨#[116, 105, 99, 107, 32]⟩ ++ dec tick ++ ⟨#[32, 108, 111, 97, 100, 32]⟩ ++ dec load ++ ⟨#[32, 119, 97, 110, 116, 32]⟩ ++ dec want ++ ⟨#[32, 114, 101, 112, 108, 105, 99, 97, 115, 32]⟩ ++ dec repl ++ ⟨#[32, 119, 104, 121, 32]⟩ ++ dec why := by
  apply bytes_ext
  simp [advS, advW, joinS, Lib.join, ByteArray.data_append, List.intercalate]
theorem advW_len {tick load want repl why : Int} (i0 : I64 tick) (i1 : I64 load) (i2 : I64 want) (i3 : I64 repl) (i4 : I64 why) : ∀ s ∈ advW tick load want repl why, s.size ≤ 1000 := by
  intro s hs
  simp only [advW, List.mem_cons, List.not_mem_nil, or_false] at hs
  rcases hs with rfl | rfl | rfl | rfl | rfl | rfl | rfl | rfl | rfl | rfl
  · decide
  · rw [dec_size]; have := itoa_len i0; omega
  · decide
  · rw [dec_size]; have := itoa_len i1; omega
  · decide
  · rw [dec_size]; have := itoa_len i2; omega
  · decide
  · rw [dec_size]; have := itoa_len i3; omega
  · decide
  · rw [dec_size]; have := itoa_len i4; omega

set_option maxRecDepth 100000 in
set_option maxHeartbeats 4000000 in
theorem radv_any (tick load want repl why : Int) (w : World) (i0 : I64 tick) (i1 : I64 load) (i2 : I64 want) (i3 : I64 repl) (i4 : I64 why) :
    Calls Tryd.prog 23 #[.agg #[.int .i64 tick, .int .i64 load, .int .i64 want, .int .i64 repl, .int .i64 why]] w fun e w' => e = .returned (.string (advS tick load want repl why)) ∧ Below w.heap.size w w' := by
  rw [advS_cat]
  obtain ⟨d0, hd0⟩ : ∃ d, d = dec tick := ⟨_, rfl⟩
  rw [← hd0]
  obtain ⟨c0, s0⟩ := rdec_says tick i0 d0 hd0
  have C0 := Lib.hid c0
  clear hd0 c0 i0
  obtain ⟨d1, hd1⟩ : ∃ d, d = dec load := ⟨_, rfl⟩
  rw [← hd1]
  obtain ⟨c1, s1⟩ := rdec_says load i1 d1 hd1
  have C1 := Lib.hid c1
  clear hd1 c1 i1
  obtain ⟨d2, hd2⟩ : ∃ d, d = dec want := ⟨_, rfl⟩
  rw [← hd2]
  obtain ⟨c2, s2⟩ := rdec_says want i2 d2 hd2
  have C2 := Lib.hid c2
  clear hd2 c2 i2
  obtain ⟨d3, hd3⟩ : ∃ d, d = dec repl := ⟨_, rfl⟩
  rw [← hd3]
  obtain ⟨c3, s3⟩ := rdec_says repl i3 d3 hd3
  have C3 := Lib.hid c3
  clear hd3 c3 i3
  obtain ⟨d4, hd4⟩ : ∃ d, d = dec why := ⟨_, rfl⟩
  rw [← hd4]
  obtain ⟨c4, s4⟩ := rdec_says why i4 d4 hd4
  have C4 := Lib.hid c4
  clear hd4 c4 i4
  go_enter Tryd.func23, Tryd.ntmps23
  go_wp2
  go_quiet ((first
    | (go_at_call 19; with_reducible exact Calls.quiet_of_same (C0.out _))
    | (go_at_call 19; with_reducible exact Calls.quiet_of_same (C1.out _))
    | (go_at_call 19; with_reducible exact Calls.quiet_of_same (C2.out _))
    | (go_at_call 19; with_reducible exact Calls.quiet_of_same (C3.out _))
    | (go_at_call 19; with_reducible exact Calls.quiet_of_same (C4.out _))))
  go_wp2
  go_ret
  exact ⟨rfl, by repeat (first | exact balloc (Below.refl _ _) _ | refine below_drewN ?_ _ | refine Below.drew ?_)⟩

set_option maxRecDepth 100000 in
set_option maxHeartbeats 4000000 in
theorem adv_any (tick load want repl why : Int) (w : World) (ht : Tab w) (i0 : I64 tick) (i1 : I64 load) (i2 : I64 want) (i3 : I64 repl) (i4 : I64 why) :
    Calls Tryd.prog 17 #[.agg #[.int .i64 tick, .int .i64 load, .int .i64 want, .int .i64 repl, .int .i64 why]] w fun e w' => e = .returned (.string (advS tick load want repl why)) ∧ Below w.heap.size w w' := by
  have HT := Lib.hid ht
  have HLN := Lib.hid (advW_len i0 i1 i2 i3 i4)
  have C0 := Lib.hid (fun W h => number_any tick i0 W (ht.below (w' := W) h))
  have C1 := Lib.hid (fun W h => number_any load i1 W (ht.below (w' := W) h))
  have C2 := Lib.hid (fun W h => number_any want i2 W (ht.below (w' := W) h))
  have C3 := Lib.hid (fun W h => number_any repl i3 W (ht.below (w' := W) h))
  have C4 := Lib.hid (fun W h => number_any why i4 W (ht.below (w' := W) h))
  clear ht i0 i1 i2 i3 i4
  go_enter Tryd.func17, Tryd.ntmps17
  go_wp2
  refine name_world ?_
  intro W hW
  have hb0 : Below w.heap.size w W := by rw [hW]; exact balloc (Below.refl _ _) _
  have hx0 : W.heap[w.heap.size]? = some (.cells #[.int .i64 tick, .int .i64 load, .int .i64 want, .int .i64 repl, .int .i64 why] 35 (0, 0)) := by rw [hW]; exact heap_alloc_new _ _
  clear hW
  have HB := Lib.hid hb0
  have HX := Lib.hid hx0
  clear hb0 hx0
  refine wp_region_held_drew (S := fun U => Below W.heap.size W U) (by kernel_rfl) ?hS1 (fun hHeld => ?_)
  case hS1 => first | with_reducible exact HB9.out | with_reducible exact HB4.out | with_reducible exact HB3.out | with_reducible exact HB2.out | with_reducible exact HB1.out | with_reducible exact HB0.out | with_reducible exact balloc HB4.out _ | with_reducible exact Below.refl _ _ | with_reducible exact (Below.refl _ _).drew
  refine wpAnyH_take (i := 0) (v := ?v2) rfl (by kernel_rfl) (by kernel_rfl) (by kernel_rfl) (fun _ _ _ h => h) (Or.inl ⟨by rfl, ?hy2⟩) (by assumption) ?_
  case hy2 =>
    intro w' hSw
    (try dsimp only at hSw)
    go_simp
    try (with_reducible rfl)
  try simp only [Act.put, List.getElem_toArray, List.getElem_cons_succ, List.getElem_cons_zero, List.setIfInBounds_toArray, List.set_cons_zero, List.set_cons_succ]
  refine wpAnyH_take (i := 1) (v := ?v3) rfl (by kernel_rfl) (by kernel_rfl) (by kernel_rfl) (fun _ _ _ h => h) (Or.inl ⟨by rfl, ?hy3⟩) (by assumption) ?_
  case hy3 =>
    intro w' hSw
    (try dsimp only at hSw)
    have a0 := (box_cells hSw HX.out).1
    go_simp
    try (with_reducible rfl)
  try simp only [Act.put, List.getElem_toArray, List.getElem_cons_succ, List.getElem_cons_zero, List.setIfInBounds_toArray, List.set_cons_zero, List.set_cons_succ]
  refine wpAnyH_take (i := 3) (v := ?v4) rfl (by kernel_rfl) (by kernel_rfl) (by kernel_rfl) (fun _ _ _ h => h) (Or.inl ⟨by rfl, ?hy4⟩) (by assumption) ?_
  case hy4 =>
    intro w' hSw
    (try dsimp only at hSw)
    go_simp
    try (with_reducible rfl)
  try simp only [Act.put, List.getElem_toArray, List.getElem_cons_succ, List.getElem_cons_zero, List.setIfInBounds_toArray, List.set_cons_zero, List.set_cons_succ]
  refine wpAnyH_take (i := 4) (v := ?v5) rfl (by kernel_rfl) (by kernel_rfl) (by kernel_rfl) (fun _ _ _ h => h) (Or.inl ⟨by rfl, ?hy5⟩) (by assumption) ?_
  case hy5 =>
    intro w' hSw
    (try dsimp only at hSw)
    have a0 := (box_cells hSw HX.out).1
    go_simp
    try (with_reducible rfl)
  try simp only [Act.put, List.getElem_toArray, List.getElem_cons_succ, List.getElem_cons_zero, List.setIfInBounds_toArray, List.set_cons_zero, List.set_cons_succ]
  refine wpAnyH_take (i := 6) (v := ?v6) rfl (by kernel_rfl) (by kernel_rfl) (by kernel_rfl) (fun _ _ _ h => h) (Or.inl ⟨by rfl, ?hy6⟩) (by assumption) ?_
  case hy6 =>
    intro w' hSw
    (try dsimp only at hSw)
    go_simp
    try (with_reducible rfl)
  try simp only [Act.put, List.getElem_toArray, List.getElem_cons_succ, List.getElem_cons_zero, List.setIfInBounds_toArray, List.set_cons_zero, List.set_cons_succ]
  refine wpAnyH_take (i := 7) (v := ?v7) rfl (by kernel_rfl) (by kernel_rfl) (by kernel_rfl) (fun _ _ _ h => h) (Or.inl ⟨by rfl, ?hy7⟩) (by assumption) ?_
  case hy7 =>
    intro w' hSw
    (try dsimp only at hSw)
    have a0 := (box_cells hSw HX.out).1
    go_simp
    try (with_reducible rfl)
  try simp only [Act.put, List.getElem_toArray, List.getElem_cons_succ, List.getElem_cons_zero, List.setIfInBounds_toArray, List.set_cons_zero, List.set_cons_succ]
  refine wpAnyH_take (i := 9) (v := ?v8) rfl (by kernel_rfl) (by kernel_rfl) (by kernel_rfl) (fun _ _ _ h => h) (Or.inl ⟨by rfl, ?hy8⟩) (by assumption) ?_
  case hy8 =>
    intro w' hSw
    (try dsimp only at hSw)
    go_simp
    try (with_reducible rfl)
  try simp only [Act.put, List.getElem_toArray, List.getElem_cons_succ, List.getElem_cons_zero, List.setIfInBounds_toArray, List.set_cons_zero, List.set_cons_succ]
  refine wpAnyH_take (i := 10) (v := ?v9) rfl (by kernel_rfl) (by kernel_rfl) (by kernel_rfl) (fun _ _ _ h => h) (Or.inl ⟨by rfl, ?hy9⟩) (by assumption) ?_
  case hy9 =>
    intro w' hSw
    (try dsimp only at hSw)
    have a0 := (box_cells hSw HX.out).1
    go_simp
    try (with_reducible rfl)
  try simp only [Act.put, List.getElem_toArray, List.getElem_cons_succ, List.getElem_cons_zero, List.setIfInBounds_toArray, List.set_cons_zero, List.set_cons_succ]
  refine wpAnyH_take (i := 12) (v := ?v10) rfl (by kernel_rfl) (by kernel_rfl) (by kernel_rfl) (fun _ _ _ h => h) (Or.inl ⟨by rfl, ?hy10⟩) (by assumption) ?_
  case hy10 =>
    intro w' hSw
    (try dsimp only at hSw)
    go_simp
    try (with_reducible rfl)
  try simp only [Act.put, List.getElem_toArray, List.getElem_cons_succ, List.getElem_cons_zero, List.setIfInBounds_toArray, List.set_cons_zero, List.set_cons_succ]
  refine wpAnyH_take (i := 13) (v := ?v11) rfl (by kernel_rfl) (by kernel_rfl) (by kernel_rfl) (fun _ _ _ h => h) (Or.inl ⟨by rfl, ?hy11⟩) (by assumption) ?_
  case hy11 =>
    intro w' hSw
    (try dsimp only at hSw)
    have a0 := (box_cells hSw HX.out).1
    go_simp
    try (with_reducible rfl)
  try simp only [Act.put, List.getElem_toArray, List.getElem_cons_succ, List.getElem_cons_zero, List.setIfInBounds_toArray, List.set_cons_zero, List.set_cons_succ]
  refine wpAnyH_ready (rs := [2]) (by kernel_rfl) (by simp) ?_
  refine AllReadyH.cons rfl (fun K hK => ?_) AllReadyH.nil
  go_simp
  go_at_call 28
  refine calls_named ?_
  intro W2 hW2
  have hb2 : Below W.heap.size W W2 := by rw [hW2]; first | exact Below.refl _ _ | exact (Below.refl _ _).drew
  clear hW2
  with_reducible refine (C0.out _ (bthen HB.out hb2)).mono ?_
  rintro e n0 ⟨rfl, hb3⟩
  have HB0 := Lib.hid (bthen hb2 hb3)
  clear hb2 hb3
  try go_simp
  refine hK.out _ _ ?hS12 (fun hHeld2 => ?_)
  case hS12 => first | with_reducible exact HB9.out | with_reducible exact HB4.out | with_reducible exact HB3.out | with_reducible exact HB2.out | with_reducible exact HB1.out | with_reducible exact HB0.out | with_reducible exact balloc HB4.out _ | with_reducible exact Below.refl _ _ | with_reducible exact (Below.refl _ _).drew
  clear hK K hHeld
  have hHeld := hHeld2
  clear hHeld2
  try simp only [Act.put, List.getElem_toArray, List.getElem_cons_succ, List.getElem_cons_zero, List.setIfInBounds_toArray, List.set_cons_zero, List.set_cons_succ]
  refine wpAnyH_ready (rs := [5]) (by kernel_rfl) (by simp) ?_
  refine AllReadyH.cons rfl (fun K hK => ?_) AllReadyH.nil
  go_simp
  go_at_call 28
  refine calls_named ?_
  intro W2 hW2
  have hb2 : Below W.heap.size W W2 := by rw [hW2]; first | exact Below.refl _ _ | exact (Below.refl _ _).drew | exact HB0.out
  clear hW2
  with_reducible refine (C1.out _ (bthen HB.out hb2)).mono ?_
  rintro e n1 ⟨rfl, hb3⟩
  have HB1 := Lib.hid (bthen hb2 hb3)
  clear hb2 hb3
  try go_simp
  refine hK.out _ _ ?hS13 (fun hHeld2 => ?_)
  case hS13 => first | with_reducible exact HB9.out | with_reducible exact HB4.out | with_reducible exact HB3.out | with_reducible exact HB2.out | with_reducible exact HB1.out | with_reducible exact HB0.out | with_reducible exact balloc HB4.out _ | with_reducible exact Below.refl _ _ | with_reducible exact (Below.refl _ _).drew
  clear hK K hHeld
  have hHeld := hHeld2
  clear hHeld2
  try simp only [Act.put, List.getElem_toArray, List.getElem_cons_succ, List.getElem_cons_zero, List.setIfInBounds_toArray, List.set_cons_zero, List.set_cons_succ]
  refine wpAnyH_ready (rs := [8]) (by kernel_rfl) (by simp) ?_
  refine AllReadyH.cons rfl (fun K hK => ?_) AllReadyH.nil
  go_simp
  go_at_call 28
  refine calls_named ?_
  intro W2 hW2
  have hb2 : Below W.heap.size W W2 := by rw [hW2]; first | exact Below.refl _ _ | exact (Below.refl _ _).drew | exact HB1.out
  clear hW2
  with_reducible refine (C2.out _ (bthen HB.out hb2)).mono ?_
  rintro e n2 ⟨rfl, hb3⟩
  have HB2 := Lib.hid (bthen hb2 hb3)
  clear hb2 hb3
  try go_simp
  refine hK.out _ _ ?hS14 (fun hHeld2 => ?_)
  case hS14 => first | with_reducible exact HB9.out | with_reducible exact HB4.out | with_reducible exact HB3.out | with_reducible exact HB2.out | with_reducible exact HB1.out | with_reducible exact HB0.out | with_reducible exact balloc HB4.out _ | with_reducible exact Below.refl _ _ | with_reducible exact (Below.refl _ _).drew
  clear hK K hHeld
  have hHeld := hHeld2
  clear hHeld2
  try simp only [Act.put, List.getElem_toArray, List.getElem_cons_succ, List.getElem_cons_zero, List.setIfInBounds_toArray, List.set_cons_zero, List.set_cons_succ]
  refine wpAnyH_ready (rs := [11]) (by kernel_rfl) (by simp) ?_
  refine AllReadyH.cons rfl (fun K hK => ?_) AllReadyH.nil
  go_simp
  go_at_call 28
  refine calls_named ?_
  intro W2 hW2
  have hb2 : Below W.heap.size W W2 := by rw [hW2]; first | exact Below.refl _ _ | exact (Below.refl _ _).drew | exact HB2.out
  clear hW2
  with_reducible refine (C3.out _ (bthen HB.out hb2)).mono ?_
  rintro e n3 ⟨rfl, hb3⟩
  have HB3 := Lib.hid (bthen hb2 hb3)
  clear hb2 hb3
  try go_simp
  refine hK.out _ _ ?hS15 (fun hHeld2 => ?_)
  case hS15 => first | with_reducible exact HB9.out | with_reducible exact HB4.out | with_reducible exact HB3.out | with_reducible exact HB2.out | with_reducible exact HB1.out | with_reducible exact HB0.out | with_reducible exact balloc HB4.out _ | with_reducible exact Below.refl _ _ | with_reducible exact (Below.refl _ _).drew
  clear hK K hHeld
  have hHeld := hHeld2
  clear hHeld2
  try simp only [Act.put, List.getElem_toArray, List.getElem_cons_succ, List.getElem_cons_zero, List.setIfInBounds_toArray, List.set_cons_zero, List.set_cons_succ]
  refine wpAnyH_ready (rs := [14]) (by kernel_rfl) (by simp) ?_
  refine AllReadyH.cons rfl (fun K hK => ?_) AllReadyH.nil
  go_simp
  go_at_call 28
  refine calls_named ?_
  intro W2 hW2
  have hb2 : Below W.heap.size W W2 := by rw [hW2]; first | exact Below.refl _ _ | exact (Below.refl _ _).drew | exact HB3.out
  clear hW2
  with_reducible refine (C4.out _ (bthen HB.out hb2)).mono ?_
  rintro e n4 ⟨rfl, hb3⟩
  have HB4 := Lib.hid (bthen hb2 hb3)
  clear hb2 hb3
  try go_simp
  refine hK.out _ _ ?hS16 (fun hHeld2 => ?_)
  case hS16 => first | with_reducible exact HB9.out | with_reducible exact HB4.out | with_reducible exact HB3.out | with_reducible exact HB2.out | with_reducible exact HB1.out | with_reducible exact HB0.out | with_reducible exact balloc HB4.out _ | with_reducible exact Below.refl _ _ | with_reducible exact (Below.refl _ _).drew
  clear hK K hHeld
  have hHeld := hHeld2
  clear hHeld2
  try simp only [Act.put, List.getElem_toArray, List.getElem_cons_succ, List.getElem_cons_zero, List.setIfInBounds_toArray, List.set_cons_zero, List.set_cons_succ]
  refine wpAnyH_ready (rs := [15]) (by kernel_rfl) (by simp) ?_
  refine AllReadyH.cons rfl (fun K hK => ?_) AllReadyH.nil
  go_simp
  skip
  try go_simp
  refine hK.out _ _ ?hS17 (fun hHeld2 => ?_)
  case hS17 => first | with_reducible exact HB9.out | with_reducible exact HB4.out | with_reducible exact HB3.out | with_reducible exact HB2.out | with_reducible exact HB1.out | with_reducible exact HB0.out | with_reducible exact balloc HB4.out _ | with_reducible exact Below.refl _ _ | with_reducible exact (Below.refl _ _).drew
  clear hK K hHeld
  have hHeld := hHeld2
  clear hHeld2
  try simp only [Act.put, List.getElem_toArray, List.getElem_cons_succ, List.getElem_cons_zero, List.setIfInBounds_toArray, List.set_cons_zero, List.set_cons_succ]
  refine wpAnyH_ready (rs := [16]) (by kernel_rfl) (by simp) ?_
  refine AllReadyH.cons rfl (fun K hK => ?_) AllReadyH.nil
  go_simp
  go_at_call 18
  have ho := OwnL.lits (f := strC) (e := 9) (n := 1) W.heap.size n4 (advW tick load want repl why) _ n4.heap.size 10 rfl HB4.out.size rfl (by decide) rfl rfl
  refine (joinO_any W.heap.size (advW tick load want repl why) _ _ _ ho (by simp [advW]) HLN.out (by simp [advW])).mono ?_
  rintro e n9 ⟨rfl, hb9⟩
  have HB9 := Lib.hid ((balloc HB4.out _).trans (hb9.mono (by simp; exact Nat.le_succ_of_le HB4.out.size)))
  clear hb9 ho
  try go_simp
  refine hK.out _ _ ?hS18 (fun hHeld2 => ?_)
  case hS18 => first | with_reducible exact HB9.out | with_reducible exact HB4.out | with_reducible exact HB3.out | with_reducible exact HB2.out | with_reducible exact HB1.out | with_reducible exact HB0.out | with_reducible exact balloc HB4.out _ | with_reducible exact Below.refl _ _ | with_reducible exact (Below.refl _ _).drew
  clear hK K hHeld
  have hHeld := hHeld2
  clear hHeld2
  try simp only [Act.put, List.getElem_toArray, List.getElem_cons_succ, List.getElem_cons_zero, List.setIfInBounds_toArray, List.set_cons_zero, List.set_cons_succ]
  refine wpAnyH_take (i := 17) (v := ?v19) rfl (by kernel_rfl) (by kernel_rfl) (by kernel_rfl) (fun _ _ _ h => h) (Or.inl ⟨by rfl, ?hy19⟩) (by assumption) ?_
  case hy19 =>
    intro w' hSw
    (try dsimp only at hSw)
    go_simp
    try (with_reducible rfl)
  try simp only [Act.put, List.getElem_toArray, List.getElem_cons_succ, List.getElem_cons_zero, List.setIfInBounds_toArray, List.set_cons_zero, List.set_cons_succ]
  refine wpAnyH_done (by kernel_rfl) ?_ _
  go_wp2
  go_ret
  exact ⟨rfl, bthen HB.out HB9.out⟩
end

end Go.Proofs.YtmndhffimlkjgaaDoor
