/- flywheelref12.Text, flywheelref41.With, Text: the reference's texts. -/
import Derived.Test.YtmndhffimlkjgaaDoorJ17
import Derived.Test.YtmndhffimlkjgaaDoorJ04
namespace Go.Proofs.YtmndhffimlkjgaaDoor

section
set_option linter.unusedSimpArgs false
set_option linter.unusedVariables false
open Go.RowKit Go.Lib

theorem bytes_ext {a b : ByteArray} (h : a.data.toList = b.data.toList) : a = b := ByteArray.ext (Array.toList_inj.1 h)
theorem polText_cat (p : Pol) : (⟨(polText p).toArray⟩ : ByteArray) = ⟨#[109, 105, 110, 32]⟩ ++ dec p.mn ++ ⟨#[32, 109, 97, 120, 32]⟩ ++ dec p.mx ++ ⟨#[32, 116, 97, 114, 103, 101, 116, 32]⟩ ++ dec p.tg ++ ⟨#[32, 116, 111, 108, 101, 114, 97, 110, 99, 101, 32]⟩ ++ dec p.tol ++ ⟨#[32, 119, 105, 110, 100, 111, 119, 32]⟩ ++ dec p.win ++ ⟨#[32, 104, 111, 108, 100, 32]⟩ ++ dec p.hold := by
  apply bytes_ext
  simp [polText, polTo, dec, ByteArray.data_append, polNames, polNums]
theorem rdec_says (n : Int) (hn : I64 n) (d : ByteArray) (hd : d = dec n) : (∀ W, Calls Tryd.prog 19 #[.int .i64 n] W fun e w' => e = .returned (.string d) ∧ w' = W) ∧ d.size ≤ 21 := by
  subst hd
  exact ⟨fun W => rdec_any n W hn, by rw [dec_size]; exact itoa_len hn⟩

set_option maxRecDepth 100000 in
set_option maxHeartbeats 4000000 in
theorem rpolText_any (p : Pol) (hp : p.ok) (w : World) :
    Calls Tryd.prog 55 #[.agg #[.int .i64 p.mn, .int .i64 p.mx, .int .i64 p.tg, .int .i64 p.tol, .int .i64 p.win, .int .i64 p.hold]] w fun e w' => e = .returned (.string ⟨(polText p).toArray⟩) ∧ Below w.heap.size w w' := by
  obtain ⟨mn, mx, tg, tol, win, hold⟩ := p
  obtain ⟨h1, h2, h3, h4, h5, h6⟩ := hp
  dsimp only at h1 h2 h3 h4 h5 h6
  rw [polText_cat]
  dsimp only
  obtain ⟨d1, hd1⟩ : ∃ d, d = dec mn := ⟨_, rfl⟩
  rw [← hd1]
  obtain ⟨c1, s1⟩ := rdec_says mn h1 d1 hd1
  have C1 := Lib.hid c1
  clear hd1 c1 h1
  obtain ⟨d2, hd2⟩ : ∃ d, d = dec mx := ⟨_, rfl⟩
  rw [← hd2]
  obtain ⟨c2, s2⟩ := rdec_says mx h2 d2 hd2
  have C2 := Lib.hid c2
  clear hd2 c2 h2
  obtain ⟨d3, hd3⟩ : ∃ d, d = dec tg := ⟨_, rfl⟩
  rw [← hd3]
  obtain ⟨c3, s3⟩ := rdec_says tg h3 d3 hd3
  have C3 := Lib.hid c3
  clear hd3 c3 h3
  obtain ⟨d4, hd4⟩ : ∃ d, d = dec tol := ⟨_, rfl⟩
  rw [← hd4]
  obtain ⟨c4, s4⟩ := rdec_says tol h4 d4 hd4
  have C4 := Lib.hid c4
  clear hd4 c4 h4
  obtain ⟨d5, hd5⟩ : ∃ d, d = dec win := ⟨_, rfl⟩
  rw [← hd5]
  obtain ⟨c5, s5⟩ := rdec_says win h5 d5 hd5
  have C5 := Lib.hid c5
  clear hd5 c5 h5
  obtain ⟨d6, hd6⟩ : ∃ d, d = dec hold := ⟨_, rfl⟩
  rw [← hd6]
  obtain ⟨c6, s6⟩ := rdec_says hold h6 d6 hd6
  have C6 := Lib.hid c6
  clear hd6 c6 h6
  go_enter Tryd.func55, Tryd.ntmps55
  go_wp2
  go_quiet ((first
    | (go_at_call 19; with_reducible exact Calls.quiet_of_same (C1.out _))
    | (go_at_call 19; with_reducible exact Calls.quiet_of_same (C2.out _))
    | (go_at_call 19; with_reducible exact Calls.quiet_of_same (C3.out _))
    | (go_at_call 19; with_reducible exact Calls.quiet_of_same (C4.out _))
    | (go_at_call 19; with_reducible exact Calls.quiet_of_same (C5.out _))
    | (go_at_call 19; with_reducible exact Calls.quiet_of_same (C6.out _))))
  go_wp2
  go_ret
  exact ⟨rfl, by repeat (first | exact balloc (Below.refl _ _) _ | refine below_drewN ?_ _ | refine Below.drew ?_)⟩

theorem join_k1 (id : ByteArray) (tick val handle mn mx tg tol win hold : Int) : joinS [(⟨#[105, 110, 103, 101, 115, 116]⟩ : ByteArray), id, dec tick, dec val] = ⟨#[105, 110, 103, 101, 115, 116, 32]⟩ ++ id ++ ⟨#[32]⟩ ++ dec tick ++ ⟨#[32]⟩ ++ dec val := by
  apply bytes_ext
  simp [joinS, Lib.join, ByteArray.data_append, List.intercalate]

set_option maxRecDepth 100000 in
set_option maxHeartbeats 4000000 in
theorem rwith_1 (id : ByteArray) (tick val handle mn mx tg tol win hold : Int) (w : World) (hid : id.size ≤ 20) (i1 : I64 tick) (i2 : I64 val) (i3 : I64 handle) (ip : (Pol.mk mn mx tg tol win hold).ok) :
    Calls Tryd.prog 36 #[.agg #[.int .i64 1, .string id, .int .i64 tick, .int .i64 val, .int .i64 handle, .int .i64 mn, .int .i64 mx, .int .i64 tg, .int .i64 tol, .int .i64 win, .int .i64 hold], .string id] w fun e w' => e = .returned (.string (joinS [(⟨#[105, 110, 103, 101, 115, 116]⟩ : ByteArray), id, dec tick, dec val])) ∧ Below w.heap.size w w' := by
  rw [join_k1 id tick val handle mn mx tg tol win hold]
  obtain ⟨dh, hdh⟩ : ∃ d, d = dec handle := ⟨_, rfl⟩
  obtain ⟨ch, sh⟩ := rdec_says handle i3 dh hdh
  have CH := Lib.hid ch
  clear hdh ch
  obtain ⟨dt, hdt⟩ : ∃ d, d = dec tick := ⟨_, rfl⟩
  obtain ⟨ct, st⟩ := rdec_says tick i1 dt hdt
  have CT := Lib.hid ct
  rw [← hdt]
  clear hdt ct
  obtain ⟨dv, hdv⟩ : ∃ d, d = dec val := ⟨_, rfl⟩
  obtain ⟨cv, sv⟩ := rdec_says val i2 dv hdv
  have CV := Lib.hid cv
  rw [← hdv]
  clear hdv cv
  clear i1 i2 i3 ip
  go_enter Tryd.func36, Tryd.ntmps36
  go_wp2_with (first
    | (go_at_call 19; with_reducible refine (CH.out _).mono ?_; rintro e w1 ⟨rfl, rfl⟩))
  go_quiet ((first
    | (go_at_call 19; with_reducible exact Calls.quiet_of_same (CT.out _))
    | (go_at_call 19; with_reducible exact Calls.quiet_of_same (CV.out _))))
  go_wp2
  go_ret
  exact ⟨rfl, by repeat (first | exact balloc (Below.refl _ _) _ | refine below_drewN ?_ _ | refine Below.drew ?_)⟩

set_option maxRecDepth 100000 in
set_option maxHeartbeats 4000000 in
theorem rtext_1 (id : ByteArray) (tick val handle mn mx tg tol win hold : Int) (w : World) (hm : id.size ≤ maxLen) (i1 : I64 tick) (i2 : I64 val) (i3 : I64 handle) (ip : (Pol.mk mn mx tg tol win hold).ok) (hok : idS id = true) :
    Calls Tryd.prog 20 #[.agg #[.int .i64 1, .string id, .int .i64 tick, .int .i64 val, .int .i64 handle, .int .i64 mn, .int .i64 mx, .int .i64 tg, .int .i64 tol, .int .i64 win, .int .i64 hold]] w (TextSays w (joinS [(⟨#[105, 110, 103, 101, 115, 116]⟩ : ByteArray), id, dec tick, dec val]) 0) := by
  have HNM := Lib.hid (show ∀ W, Calls Tryd.prog 34 #[.int .i64 1] W fun e w' => e = .returned (.bool true) ∧ Below W.heap.size W w' from fun W => rnamed_any 1 W)
  have HID := Lib.hid (id_any id)
  have HM := Lib.hid hm
  rw [hok] at HID
  have HSZ := Lib.hid (idS_okTo id hok).2.1
  have HWI := Lib.hid (fun W => rwith_1 id tick val handle mn mx tg tol win hold W (idS_okTo id hok).2.1 i1 i2 i3 ip)
  clear hm i1 i2 i3 ip hok
  go_enter Tryd.func20, Tryd.ntmps20
  go_wp2_with (first
    | (go_at_call 33
       refine calls_named ?_
       intro W1 hW1
       have hb1 : Below w.heap.size w W1 := by rw [hW1]; exact balloc (Below.refl _ _) _
       have hx1 : W1.heap[w.heap.size]? = some (.cells #[.int .i64 1, .string id, .int .i64 tick, .int .i64 val, .int .i64 handle, .int .i64 mn, .int .i64 mx, .int .i64 tg, .int .i64 tol, .int .i64 win, .int .i64 hold] 30 (0, 0)) := by rw [hW1]; exact heap_alloc_new _ _
       clear hW1
       refine (rverb_1 W1).mono ?_
       rintro e w2 ⟨rfl, hb2⟩
       obtain ⟨a2, a2f, a2l, a2h⟩ := box_at hb2 hx1
       have HX2 := Lib.hid a2h
       have HB2 := Lib.hid (bthen hb1 hb2)
       clear hb1 hx1 hb2 a2h)
    | (go_at_call 34
       refine (HNM.out w2).mono ?_
       rintro e w3 ⟨rfl, hb3⟩
       obtain ⟨a3, a3f, a3l, a3h⟩ := box_at hb3 HX2.out
       have HX3 := Lib.hid a3h
       have HB3 := Lib.hid (bthen HB2.out hb3)
       clear hb3 a3h)
    | (go_at_call 35
       refine (HID.out w3 HM.out).mono ?_
       rintro e w4 ⟨rfl, rfl⟩)
    | (go_at_call 36
       refine (HWI.out _).mono ?_
       rintro e w5 ⟨rfl, hb5⟩
       have HB5 := Lib.hid (bthen HB3.out hb5)
       clear hb5)
    | go_in)
  go_ret2
  exact ⟨rfl, HB5.out⟩

set_option maxRecDepth 100000 in
set_option maxHeartbeats 4000000 in
theorem rtext_bad_1 (id : ByteArray) (tick val handle mn mx tg tol win hold : Int) (w : World) (hm : id.size ≤ maxLen) (i1 : I64 tick) (i2 : I64 val) (i3 : I64 handle) (ip : (Pol.mk mn mx tg tol win hold).ok) (hok : idS id = false) :
    Calls Tryd.prog 20 #[.agg #[.int .i64 1, .string id, .int .i64 tick, .int .i64 val, .int .i64 handle, .int .i64 mn, .int .i64 mx, .int .i64 tg, .int .i64 tol, .int .i64 win, .int .i64 hold]] w (TextSays w ⟨#[]⟩ 2) := by
  have HNM := Lib.hid (show ∀ W, Calls Tryd.prog 34 #[.int .i64 1] W fun e w' => e = .returned (.bool true) ∧ Below W.heap.size W w' from fun W => rnamed_any 1 W)
  have HID := Lib.hid (id_any id)
  have HM := Lib.hid hm
  rw [hok] at HID
  clear hm i1 i2 i3 ip hok
  go_enter Tryd.func20, Tryd.ntmps20
  go_wp2_with (first
    | (go_at_call 33
       refine calls_named ?_
       intro W1 hW1
       have hb1 : Below w.heap.size w W1 := by rw [hW1]; exact balloc (Below.refl _ _) _
       have hx1 : W1.heap[w.heap.size]? = some (.cells #[.int .i64 1, .string id, .int .i64 tick, .int .i64 val, .int .i64 handle, .int .i64 mn, .int .i64 mx, .int .i64 tg, .int .i64 tol, .int .i64 win, .int .i64 hold] 30 (0, 0)) := by rw [hW1]; exact heap_alloc_new _ _
       clear hW1
       refine (rverb_1 W1).mono ?_
       rintro e w2 ⟨rfl, hb2⟩
       obtain ⟨a2, a2f, a2l, a2h⟩ := box_at hb2 hx1
       have HX2 := Lib.hid a2h
       have HB2 := Lib.hid (bthen hb1 hb2)
       clear hb1 hx1 hb2 a2h)
    | (go_at_call 34
       refine (HNM.out w2).mono ?_
       rintro e w3 ⟨rfl, hb3⟩
       obtain ⟨a3, a3f, a3l, a3h⟩ := box_at hb3 HX2.out
       have HX3 := Lib.hid a3h
       have HB3 := Lib.hid (bthen HB2.out hb3)
       clear hb3 a3h)
    | (go_at_call 35
       refine (HID.out w3 HM.out).mono ?_
       rintro e w4 ⟨rfl, rfl⟩)
    | go_in)
  go_ret2
  exact ⟨rfl, HB3.out⟩

theorem join_k2 (id : ByteArray) (tick val handle mn mx tg tol win hold : Int) : joinS [(⟨#[116, 114, 105, 109]⟩ : ByteArray), dec tick] = ⟨#[116, 114, 105, 109, 32]⟩ ++ dec tick := by
  apply bytes_ext
  simp [joinS, Lib.join, ByteArray.data_append, List.intercalate]

set_option maxRecDepth 100000 in
set_option maxHeartbeats 4000000 in
theorem rwith_2 (id : ByteArray) (tick val handle mn mx tg tol win hold : Int) (w : World) (i1 : I64 tick) (i2 : I64 val) (i3 : I64 handle) (ip : (Pol.mk mn mx tg tol win hold).ok) :
    Calls Tryd.prog 36 #[.agg #[.int .i64 2, .string id, .int .i64 tick, .int .i64 val, .int .i64 handle, .int .i64 mn, .int .i64 mx, .int .i64 tg, .int .i64 tol, .int .i64 win, .int .i64 hold], .string id] w fun e w' => e = .returned (.string (joinS [(⟨#[116, 114, 105, 109]⟩ : ByteArray), dec tick])) ∧ Below w.heap.size w w' := by
  rw [join_k2 id tick val handle mn mx tg tol win hold]
  obtain ⟨dh, hdh⟩ : ∃ d, d = dec handle := ⟨_, rfl⟩
  obtain ⟨ch, sh⟩ := rdec_says handle i3 dh hdh
  have CH := Lib.hid ch
  clear hdh ch
  obtain ⟨dt, hdt⟩ : ∃ d, d = dec tick := ⟨_, rfl⟩
  obtain ⟨ct, st⟩ := rdec_says tick i1 dt hdt
  have CT := Lib.hid ct
  rw [← hdt]
  clear hdt ct
  clear i1 i2 i3 ip
  go_enter Tryd.func36, Tryd.ntmps36
  go_wp2_with (first
    | (go_at_call 19; with_reducible refine (CH.out _).mono ?_; rintro e w1 ⟨rfl, rfl⟩)
    | (go_at_call 19; with_reducible refine (CT.out _).mono ?_; rintro e w1 ⟨rfl, rfl⟩))
  go_ret
  exact ⟨rfl, by repeat (first | exact balloc (Below.refl _ _) _ | refine below_drewN ?_ _ | refine Below.drew ?_)⟩

set_option maxRecDepth 100000 in
set_option maxHeartbeats 4000000 in
theorem rtext_2 (id : ByteArray) (tick val handle mn mx tg tol win hold : Int) (w : World) (hm : id.size ≤ maxLen) (i1 : I64 tick) (i2 : I64 val) (i3 : I64 handle) (ip : (Pol.mk mn mx tg tol win hold).ok) :
    Calls Tryd.prog 20 #[.agg #[.int .i64 2, .string id, .int .i64 tick, .int .i64 val, .int .i64 handle, .int .i64 mn, .int .i64 mx, .int .i64 tg, .int .i64 tol, .int .i64 win, .int .i64 hold]] w (TextSays w (joinS [(⟨#[116, 114, 105, 109]⟩ : ByteArray), dec tick]) 0) := by
  have HNM := Lib.hid (show ∀ W, Calls Tryd.prog 34 #[.int .i64 2] W fun e w' => e = .returned (.bool false) ∧ Below W.heap.size W w' from fun W => rnamed_any 2 W)
  have HWI := Lib.hid (fun W => rwith_2 id tick val handle mn mx tg tol win hold W i1 i2 i3 ip)
  clear hm i1 i2 i3 ip
  go_enter Tryd.func20, Tryd.ntmps20
  go_wp2_with (first
    | (go_at_call 33
       refine calls_named ?_
       intro W1 hW1
       have hb1 : Below w.heap.size w W1 := by rw [hW1]; exact balloc (Below.refl _ _) _
       have hx1 : W1.heap[w.heap.size]? = some (.cells #[.int .i64 2, .string id, .int .i64 tick, .int .i64 val, .int .i64 handle, .int .i64 mn, .int .i64 mx, .int .i64 tg, .int .i64 tol, .int .i64 win, .int .i64 hold] 30 (0, 0)) := by rw [hW1]; exact heap_alloc_new _ _
       clear hW1
       refine (rverb_2 W1).mono ?_
       rintro e w2 ⟨rfl, hb2⟩
       obtain ⟨a2, a2f, a2l, a2h⟩ := box_at hb2 hx1
       have HX2 := Lib.hid a2h
       have HB2 := Lib.hid (bthen hb1 hb2)
       clear hb1 hx1 hb2 a2h)
    | (go_at_call 34
       refine (HNM.out w2).mono ?_
       rintro e w3 ⟨rfl, hb3⟩
       obtain ⟨a3, a3f, a3l, a3h⟩ := box_at hb3 HX2.out
       have HX3 := Lib.hid a3h
       have HB3 := Lib.hid (bthen HB2.out hb3)
       clear hb3 a3h)
    | (go_at_call 36
       refine (HWI.out _).mono ?_
       rintro e w5 ⟨rfl, hb5⟩
       have HB5 := Lib.hid (bthen HB3.out hb5)
       clear hb5)
    | go_in)
  go_ret2
  exact ⟨rfl, HB5.out⟩

theorem join_k3 (id : ByteArray) (tick val handle mn mx tg tol win hold : Int) : joinS [(⟨#[115, 110, 97, 112]⟩ : ByteArray)] = ⟨#[115, 110, 97, 112]⟩ := by
  apply bytes_ext
  simp [joinS, Lib.join, ByteArray.data_append, List.intercalate]

set_option maxRecDepth 100000 in
set_option maxHeartbeats 4000000 in
theorem rwith_3 (id : ByteArray) (tick val handle mn mx tg tol win hold : Int) (w : World) (i1 : I64 tick) (i2 : I64 val) (i3 : I64 handle) (ip : (Pol.mk mn mx tg tol win hold).ok) :
    Calls Tryd.prog 36 #[.agg #[.int .i64 3, .string id, .int .i64 tick, .int .i64 val, .int .i64 handle, .int .i64 mn, .int .i64 mx, .int .i64 tg, .int .i64 tol, .int .i64 win, .int .i64 hold], .string id] w fun e w' => e = .returned (.string (joinS [(⟨#[115, 110, 97, 112]⟩ : ByteArray)])) ∧ Below w.heap.size w w' := by
  rw [join_k3 id tick val handle mn mx tg tol win hold]
  obtain ⟨dh, hdh⟩ : ∃ d, d = dec handle := ⟨_, rfl⟩
  obtain ⟨ch, sh⟩ := rdec_says handle i3 dh hdh
  have CH := Lib.hid ch
  clear hdh ch
  clear i1 i2 i3 ip
  go_enter Tryd.func36, Tryd.ntmps36
  go_wp2_with (first
    | (go_at_call 19; with_reducible refine (CH.out _).mono ?_; rintro e w1 ⟨rfl, rfl⟩)
    | (go_at_call 33; refine (rverb_3 _).mono ?_; rintro e w1 ⟨rfl, hb1⟩))
  go_ret
  exact ⟨rfl, bthen (balloc (Below.refl _ _) _) hb1⟩

set_option maxRecDepth 100000 in
set_option maxHeartbeats 4000000 in
theorem rtext_3 (id : ByteArray) (tick val handle mn mx tg tol win hold : Int) (w : World) (hm : id.size ≤ maxLen) (i1 : I64 tick) (i2 : I64 val) (i3 : I64 handle) (ip : (Pol.mk mn mx tg tol win hold).ok) :
    Calls Tryd.prog 20 #[.agg #[.int .i64 3, .string id, .int .i64 tick, .int .i64 val, .int .i64 handle, .int .i64 mn, .int .i64 mx, .int .i64 tg, .int .i64 tol, .int .i64 win, .int .i64 hold]] w (TextSays w (joinS [(⟨#[115, 110, 97, 112]⟩ : ByteArray)]) 0) := by
  have HNM := Lib.hid (show ∀ W, Calls Tryd.prog 34 #[.int .i64 3] W fun e w' => e = .returned (.bool false) ∧ Below W.heap.size W w' from fun W => rnamed_any 3 W)
  have HWI := Lib.hid (fun W => rwith_3 id tick val handle mn mx tg tol win hold W i1 i2 i3 ip)
  clear hm i1 i2 i3 ip
  go_enter Tryd.func20, Tryd.ntmps20
  go_wp2_with (first
    | (go_at_call 33
       refine calls_named ?_
       intro W1 hW1
       have hb1 : Below w.heap.size w W1 := by rw [hW1]; exact balloc (Below.refl _ _) _
       have hx1 : W1.heap[w.heap.size]? = some (.cells #[.int .i64 3, .string id, .int .i64 tick, .int .i64 val, .int .i64 handle, .int .i64 mn, .int .i64 mx, .int .i64 tg, .int .i64 tol, .int .i64 win, .int .i64 hold] 30 (0, 0)) := by rw [hW1]; exact heap_alloc_new _ _
       clear hW1
       refine (rverb_3 W1).mono ?_
       rintro e w2 ⟨rfl, hb2⟩
       obtain ⟨a2, a2f, a2l, a2h⟩ := box_at hb2 hx1
       have HX2 := Lib.hid a2h
       have HB2 := Lib.hid (bthen hb1 hb2)
       clear hb1 hx1 hb2 a2h)
    | (go_at_call 34
       refine (HNM.out w2).mono ?_
       rintro e w3 ⟨rfl, hb3⟩
       obtain ⟨a3, a3f, a3l, a3h⟩ := box_at hb3 HX2.out
       have HX3 := Lib.hid a3h
       have HB3 := Lib.hid (bthen HB2.out hb3)
       clear hb3 a3h)
    | (go_at_call 36
       refine (HWI.out _).mono ?_
       rintro e w5 ⟨rfl, hb5⟩
       have HB5 := Lib.hid (bthen HB3.out hb5)
       clear hb5)
    | go_in)
  go_ret2
  exact ⟨rfl, HB5.out⟩

theorem join_k4 (id : ByteArray) (tick val handle mn mx tg tol win hold : Int) : joinS [(⟨#[102, 114, 101, 101]⟩ : ByteArray), dec handle] = ⟨#[102, 114, 101, 101, 32]⟩ ++ dec handle := by
  apply bytes_ext
  simp [joinS, Lib.join, ByteArray.data_append, List.intercalate]

set_option maxRecDepth 100000 in
set_option maxHeartbeats 4000000 in
theorem rwith_4 (id : ByteArray) (tick val handle mn mx tg tol win hold : Int) (w : World) (i1 : I64 tick) (i2 : I64 val) (i3 : I64 handle) (ip : (Pol.mk mn mx tg tol win hold).ok) :
    Calls Tryd.prog 36 #[.agg #[.int .i64 4, .string id, .int .i64 tick, .int .i64 val, .int .i64 handle, .int .i64 mn, .int .i64 mx, .int .i64 tg, .int .i64 tol, .int .i64 win, .int .i64 hold], .string id] w fun e w' => e = .returned (.string (joinS [(⟨#[102, 114, 101, 101]⟩ : ByteArray), dec handle])) ∧ Below w.heap.size w w' := by
  rw [join_k4 id tick val handle mn mx tg tol win hold]
  obtain ⟨dh, hdh⟩ : ∃ d, d = dec handle := ⟨_, rfl⟩
  obtain ⟨ch, sh⟩ := rdec_says handle i3 dh hdh
  have CH := Lib.hid ch
  rw [← hdh]
  clear hdh ch
  clear i1 i2 i3 ip
  go_enter Tryd.func36, Tryd.ntmps36
  go_wp2_with (first
    | (go_at_call 19; with_reducible refine (CH.out _).mono ?_; rintro e w1 ⟨rfl, rfl⟩))
  go_ret
  exact ⟨rfl, by repeat (first | exact balloc (Below.refl _ _) _ | refine below_drewN ?_ _ | refine Below.drew ?_)⟩

set_option maxRecDepth 100000 in
set_option maxHeartbeats 4000000 in
theorem rtext_4 (id : ByteArray) (tick val handle mn mx tg tol win hold : Int) (w : World) (hm : id.size ≤ maxLen) (i1 : I64 tick) (i2 : I64 val) (i3 : I64 handle) (ip : (Pol.mk mn mx tg tol win hold).ok) :
    Calls Tryd.prog 20 #[.agg #[.int .i64 4, .string id, .int .i64 tick, .int .i64 val, .int .i64 handle, .int .i64 mn, .int .i64 mx, .int .i64 tg, .int .i64 tol, .int .i64 win, .int .i64 hold]] w (TextSays w (joinS [(⟨#[102, 114, 101, 101]⟩ : ByteArray), dec handle]) 0) := by
  have HNM := Lib.hid (show ∀ W, Calls Tryd.prog 34 #[.int .i64 4] W fun e w' => e = .returned (.bool false) ∧ Below W.heap.size W w' from fun W => rnamed_any 4 W)
  have HWI := Lib.hid (fun W => rwith_4 id tick val handle mn mx tg tol win hold W i1 i2 i3 ip)
  clear hm i1 i2 i3 ip
  go_enter Tryd.func20, Tryd.ntmps20
  go_wp2_with (first
    | (go_at_call 33
       refine calls_named ?_
       intro W1 hW1
       have hb1 : Below w.heap.size w W1 := by rw [hW1]; exact balloc (Below.refl _ _) _
       have hx1 : W1.heap[w.heap.size]? = some (.cells #[.int .i64 4, .string id, .int .i64 tick, .int .i64 val, .int .i64 handle, .int .i64 mn, .int .i64 mx, .int .i64 tg, .int .i64 tol, .int .i64 win, .int .i64 hold] 30 (0, 0)) := by rw [hW1]; exact heap_alloc_new _ _
       clear hW1
       refine (rverb_4 W1).mono ?_
       rintro e w2 ⟨rfl, hb2⟩
       obtain ⟨a2, a2f, a2l, a2h⟩ := box_at hb2 hx1
       have HX2 := Lib.hid a2h
       have HB2 := Lib.hid (bthen hb1 hb2)
       clear hb1 hx1 hb2 a2h)
    | (go_at_call 34
       refine (HNM.out w2).mono ?_
       rintro e w3 ⟨rfl, hb3⟩
       obtain ⟨a3, a3f, a3l, a3h⟩ := box_at hb3 HX2.out
       have HX3 := Lib.hid a3h
       have HB3 := Lib.hid (bthen HB2.out hb3)
       clear hb3 a3h)
    | (go_at_call 36
       refine (HWI.out _).mono ?_
       rintro e w5 ⟨rfl, hb5⟩
       have HB5 := Lib.hid (bthen HB3.out hb5)
       clear hb5)
    | go_in)
  go_ret2
  exact ⟨rfl, HB5.out⟩

theorem join_k5 (id : ByteArray) (tick val handle mn mx tg tol win hold : Int) : joinS [(⟨#[108, 111, 111, 107]⟩ : ByteArray), dec handle, id, dec tick, dec val] = ⟨#[108, 111, 111, 107, 32]⟩ ++ dec handle ++ ⟨#[32]⟩ ++ id ++ ⟨#[32]⟩ ++ dec tick ++ ⟨#[32]⟩ ++ dec val := by
  apply bytes_ext
  simp [joinS, Lib.join, ByteArray.data_append, List.intercalate]

set_option maxRecDepth 100000 in
set_option maxHeartbeats 4000000 in
theorem rwith_5 (id : ByteArray) (tick val handle mn mx tg tol win hold : Int) (w : World) (hid : id.size ≤ 20) (i1 : I64 tick) (i2 : I64 val) (i3 : I64 handle) (ip : (Pol.mk mn mx tg tol win hold).ok) :
    Calls Tryd.prog 36 #[.agg #[.int .i64 5, .string id, .int .i64 tick, .int .i64 val, .int .i64 handle, .int .i64 mn, .int .i64 mx, .int .i64 tg, .int .i64 tol, .int .i64 win, .int .i64 hold], .string id] w fun e w' => e = .returned (.string (joinS [(⟨#[108, 111, 111, 107]⟩ : ByteArray), dec handle, id, dec tick, dec val])) ∧ Below w.heap.size w w' := by
  rw [join_k5 id tick val handle mn mx tg tol win hold]
  obtain ⟨dh, hdh⟩ : ∃ d, d = dec handle := ⟨_, rfl⟩
  obtain ⟨ch, sh⟩ := rdec_says handle i3 dh hdh
  have CH := Lib.hid ch
  rw [← hdh]
  clear hdh ch
  obtain ⟨dt, hdt⟩ : ∃ d, d = dec tick := ⟨_, rfl⟩
  obtain ⟨ct, st⟩ := rdec_says tick i1 dt hdt
  have CT := Lib.hid ct
  rw [← hdt]
  clear hdt ct
  obtain ⟨dv, hdv⟩ : ∃ d, d = dec val := ⟨_, rfl⟩
  obtain ⟨cv, sv⟩ := rdec_says val i2 dv hdv
  have CV := Lib.hid cv
  rw [← hdv]
  clear hdv cv
  clear i1 i2 i3 ip
  go_enter Tryd.func36, Tryd.ntmps36
  go_wp2_with (first
    | (go_at_call 19; with_reducible refine (CH.out _).mono ?_; rintro e w1 ⟨rfl, rfl⟩))
  go_quiet ((first
    | (go_at_call 19; with_reducible exact Calls.quiet_of_same (CT.out _))
    | (go_at_call 19; with_reducible exact Calls.quiet_of_same (CV.out _))))
  go_wp2
  go_ret
  exact ⟨rfl, by repeat (first | exact balloc (Below.refl _ _) _ | refine below_drewN ?_ _ | refine Below.drew ?_)⟩

set_option maxRecDepth 100000 in
set_option maxHeartbeats 4000000 in
theorem rtext_5 (id : ByteArray) (tick val handle mn mx tg tol win hold : Int) (w : World) (hm : id.size ≤ maxLen) (i1 : I64 tick) (i2 : I64 val) (i3 : I64 handle) (ip : (Pol.mk mn mx tg tol win hold).ok) (hok : idS id = true) :
    Calls Tryd.prog 20 #[.agg #[.int .i64 5, .string id, .int .i64 tick, .int .i64 val, .int .i64 handle, .int .i64 mn, .int .i64 mx, .int .i64 tg, .int .i64 tol, .int .i64 win, .int .i64 hold]] w (TextSays w (joinS [(⟨#[108, 111, 111, 107]⟩ : ByteArray), dec handle, id, dec tick, dec val]) 0) := by
  have HNM := Lib.hid (show ∀ W, Calls Tryd.prog 34 #[.int .i64 5] W fun e w' => e = .returned (.bool true) ∧ Below W.heap.size W w' from fun W => rnamed_any 5 W)
  have HID := Lib.hid (id_any id)
  have HM := Lib.hid hm
  rw [hok] at HID
  have HSZ := Lib.hid (idS_okTo id hok).2.1
  have HWI := Lib.hid (fun W => rwith_5 id tick val handle mn mx tg tol win hold W (idS_okTo id hok).2.1 i1 i2 i3 ip)
  clear hm i1 i2 i3 ip hok
  go_enter Tryd.func20, Tryd.ntmps20
  go_wp2_with (first
    | (go_at_call 33
       refine calls_named ?_
       intro W1 hW1
       have hb1 : Below w.heap.size w W1 := by rw [hW1]; exact balloc (Below.refl _ _) _
       have hx1 : W1.heap[w.heap.size]? = some (.cells #[.int .i64 5, .string id, .int .i64 tick, .int .i64 val, .int .i64 handle, .int .i64 mn, .int .i64 mx, .int .i64 tg, .int .i64 tol, .int .i64 win, .int .i64 hold] 30 (0, 0)) := by rw [hW1]; exact heap_alloc_new _ _
       clear hW1
       refine (rverb_5 W1).mono ?_
       rintro e w2 ⟨rfl, hb2⟩
       obtain ⟨a2, a2f, a2l, a2h⟩ := box_at hb2 hx1
       have HX2 := Lib.hid a2h
       have HB2 := Lib.hid (bthen hb1 hb2)
       clear hb1 hx1 hb2 a2h)
    | (go_at_call 34
       refine (HNM.out w2).mono ?_
       rintro e w3 ⟨rfl, hb3⟩
       obtain ⟨a3, a3f, a3l, a3h⟩ := box_at hb3 HX2.out
       have HX3 := Lib.hid a3h
       have HB3 := Lib.hid (bthen HB2.out hb3)
       clear hb3 a3h)
    | (go_at_call 35
       refine (HID.out w3 HM.out).mono ?_
       rintro e w4 ⟨rfl, rfl⟩)
    | (go_at_call 36
       refine (HWI.out _).mono ?_
       rintro e w5 ⟨rfl, hb5⟩
       have HB5 := Lib.hid (bthen HB3.out hb5)
       clear hb5)
    | go_in)
  go_ret2
  exact ⟨rfl, HB5.out⟩

set_option maxRecDepth 100000 in
set_option maxHeartbeats 4000000 in
theorem rtext_bad_5 (id : ByteArray) (tick val handle mn mx tg tol win hold : Int) (w : World) (hm : id.size ≤ maxLen) (i1 : I64 tick) (i2 : I64 val) (i3 : I64 handle) (ip : (Pol.mk mn mx tg tol win hold).ok) (hok : idS id = false) :
    Calls Tryd.prog 20 #[.agg #[.int .i64 5, .string id, .int .i64 tick, .int .i64 val, .int .i64 handle, .int .i64 mn, .int .i64 mx, .int .i64 tg, .int .i64 tol, .int .i64 win, .int .i64 hold]] w (TextSays w ⟨#[]⟩ 2) := by
  have HNM := Lib.hid (show ∀ W, Calls Tryd.prog 34 #[.int .i64 5] W fun e w' => e = .returned (.bool true) ∧ Below W.heap.size W w' from fun W => rnamed_any 5 W)
  have HID := Lib.hid (id_any id)
  have HM := Lib.hid hm
  rw [hok] at HID
  clear hm i1 i2 i3 ip hok
  go_enter Tryd.func20, Tryd.ntmps20
  go_wp2_with (first
    | (go_at_call 33
       refine calls_named ?_
       intro W1 hW1
       have hb1 : Below w.heap.size w W1 := by rw [hW1]; exact balloc (Below.refl _ _) _
       have hx1 : W1.heap[w.heap.size]? = some (.cells #[.int .i64 5, .string id, .int .i64 tick, .int .i64 val, .int .i64 handle, .int .i64 mn, .int .i64 mx, .int .i64 tg, .int .i64 tol, .int .i64 win, .int .i64 hold] 30 (0, 0)) := by rw [hW1]; exact heap_alloc_new _ _
       clear hW1
       refine (rverb_5 W1).mono ?_
       rintro e w2 ⟨rfl, hb2⟩
       obtain ⟨a2, a2f, a2l, a2h⟩ := box_at hb2 hx1
       have HX2 := Lib.hid a2h
       have HB2 := Lib.hid (bthen hb1 hb2)
       clear hb1 hx1 hb2 a2h)
    | (go_at_call 34
       refine (HNM.out w2).mono ?_
       rintro e w3 ⟨rfl, hb3⟩
       obtain ⟨a3, a3f, a3l, a3h⟩ := box_at hb3 HX2.out
       have HX3 := Lib.hid a3h
       have HB3 := Lib.hid (bthen HB2.out hb3)
       clear hb3 a3h)
    | (go_at_call 35
       refine (HID.out w3 HM.out).mono ?_
       rintro e w4 ⟨rfl, rfl⟩)
    | go_in)
  go_ret2
  exact ⟨rfl, HB3.out⟩

theorem join_k6 (id : ByteArray) (tick val handle mn mx tg tol win hold : Int) : joinS [(⟨#[115, 101, 116]⟩ : ByteArray), id, ⟨(polText ⟨mn, mx, tg, tol, win, hold⟩).toArray⟩] = ⟨#[115, 101, 116, 32]⟩ ++ id ++ ⟨#[32]⟩ ++ ⟨(polText ⟨mn, mx, tg, tol, win, hold⟩).toArray⟩ := by
  apply bytes_ext
  simp [joinS, Lib.join, ByteArray.data_append, List.intercalate]

set_option maxRecDepth 100000 in
set_option maxHeartbeats 4000000 in
theorem rwith_6 (id : ByteArray) (tick val handle mn mx tg tol win hold : Int) (w : World) (hid : id.size ≤ 20) (i1 : I64 tick) (i2 : I64 val) (i3 : I64 handle) (ip : (Pol.mk mn mx tg tol win hold).ok) :
    Calls Tryd.prog 36 #[.agg #[.int .i64 6, .string id, .int .i64 tick, .int .i64 val, .int .i64 handle, .int .i64 mn, .int .i64 mx, .int .i64 tg, .int .i64 tol, .int .i64 win, .int .i64 hold], .string id] w fun e w' => e = .returned (.string (joinS [(⟨#[115, 101, 116]⟩ : ByteArray), id, ⟨(polText ⟨mn, mx, tg, tol, win, hold⟩).toArray⟩])) ∧ Below w.heap.size w w' := by
  rw [join_k6 id tick val handle mn mx tg tol win hold]
  obtain ⟨dh, hdh⟩ : ∃ d, d = dec handle := ⟨_, rfl⟩
  obtain ⟨ch, sh⟩ := rdec_says handle i3 dh hdh
  have CH := Lib.hid ch
  clear hdh ch
  have hps := polS_size ip
  have CP := Lib.hid (fun W => rpolText_any ⟨mn, mx, tg, tol, win, hold⟩ ip W)
  dsimp only at CP
  obtain ⟨tp, htp⟩ : ∃ t : ByteArray, t = ⟨(polText ⟨mn, mx, tg, tol, win, hold⟩).toArray⟩ := ⟨_, rfl⟩
  rw [← htp] at CP hps
  rw [← htp]
  clear htp
  clear i1 i2 i3 ip
  go_enter Tryd.func36, Tryd.ntmps36
  go_wp2_with (first
    | (go_at_call 19; with_reducible refine (CH.out _).mono ?_; rintro e w1 ⟨rfl, rfl⟩)
    | (go_at_call 55; with_reducible refine (CP.out _).mono ?_; rintro e w1 ⟨rfl, hb1⟩))
  go_ret
  exact ⟨rfl, bthen (balloc (Below.refl _ _) _) hb1⟩

set_option maxRecDepth 100000 in
set_option maxHeartbeats 4000000 in
theorem rtext_6 (id : ByteArray) (tick val handle mn mx tg tol win hold : Int) (w : World) (hm : id.size ≤ maxLen) (i1 : I64 tick) (i2 : I64 val) (i3 : I64 handle) (ip : (Pol.mk mn mx tg tol win hold).ok) (hok : idS id = true) :
    Calls Tryd.prog 20 #[.agg #[.int .i64 6, .string id, .int .i64 tick, .int .i64 val, .int .i64 handle, .int .i64 mn, .int .i64 mx, .int .i64 tg, .int .i64 tol, .int .i64 win, .int .i64 hold]] w (TextSays w (joinS [(⟨#[115, 101, 116]⟩ : ByteArray), id, ⟨(polText ⟨mn, mx, tg, tol, win, hold⟩).toArray⟩]) 0) := by
  have HNM := Lib.hid (show ∀ W, Calls Tryd.prog 34 #[.int .i64 6] W fun e w' => e = .returned (.bool true) ∧ Below W.heap.size W w' from fun W => rnamed_any 6 W)
  have HID := Lib.hid (id_any id)
  have HM := Lib.hid hm
  rw [hok] at HID
  have HSZ := Lib.hid (idS_okTo id hok).2.1
  have HWI := Lib.hid (fun W => rwith_6 id tick val handle mn mx tg tol win hold W (idS_okTo id hok).2.1 i1 i2 i3 ip)
  clear hm i1 i2 i3 ip hok
  go_enter Tryd.func20, Tryd.ntmps20
  go_wp2_with (first
    | (go_at_call 33
       refine calls_named ?_
       intro W1 hW1
       have hb1 : Below w.heap.size w W1 := by rw [hW1]; exact balloc (Below.refl _ _) _
       have hx1 : W1.heap[w.heap.size]? = some (.cells #[.int .i64 6, .string id, .int .i64 tick, .int .i64 val, .int .i64 handle, .int .i64 mn, .int .i64 mx, .int .i64 tg, .int .i64 tol, .int .i64 win, .int .i64 hold] 30 (0, 0)) := by rw [hW1]; exact heap_alloc_new _ _
       clear hW1
       refine (rverb_6 W1).mono ?_
       rintro e w2 ⟨rfl, hb2⟩
       obtain ⟨a2, a2f, a2l, a2h⟩ := box_at hb2 hx1
       have HX2 := Lib.hid a2h
       have HB2 := Lib.hid (bthen hb1 hb2)
       clear hb1 hx1 hb2 a2h)
    | (go_at_call 34
       refine (HNM.out w2).mono ?_
       rintro e w3 ⟨rfl, hb3⟩
       obtain ⟨a3, a3f, a3l, a3h⟩ := box_at hb3 HX2.out
       have HX3 := Lib.hid a3h
       have HB3 := Lib.hid (bthen HB2.out hb3)
       clear hb3 a3h)
    | (go_at_call 35
       refine (HID.out w3 HM.out).mono ?_
       rintro e w4 ⟨rfl, rfl⟩)
    | (go_at_call 36
       refine (HWI.out _).mono ?_
       rintro e w5 ⟨rfl, hb5⟩
       have HB5 := Lib.hid (bthen HB3.out hb5)
       clear hb5)
    | go_in)
  go_ret2
  exact ⟨rfl, HB5.out⟩

set_option maxRecDepth 100000 in
set_option maxHeartbeats 4000000 in
theorem rtext_bad_6 (id : ByteArray) (tick val handle mn mx tg tol win hold : Int) (w : World) (hm : id.size ≤ maxLen) (i1 : I64 tick) (i2 : I64 val) (i3 : I64 handle) (ip : (Pol.mk mn mx tg tol win hold).ok) (hok : idS id = false) :
    Calls Tryd.prog 20 #[.agg #[.int .i64 6, .string id, .int .i64 tick, .int .i64 val, .int .i64 handle, .int .i64 mn, .int .i64 mx, .int .i64 tg, .int .i64 tol, .int .i64 win, .int .i64 hold]] w (TextSays w ⟨#[]⟩ 2) := by
  have HNM := Lib.hid (show ∀ W, Calls Tryd.prog 34 #[.int .i64 6] W fun e w' => e = .returned (.bool true) ∧ Below W.heap.size W w' from fun W => rnamed_any 6 W)
  have HID := Lib.hid (id_any id)
  have HM := Lib.hid hm
  rw [hok] at HID
  clear hm i1 i2 i3 ip hok
  go_enter Tryd.func20, Tryd.ntmps20
  go_wp2_with (first
    | (go_at_call 33
       refine calls_named ?_
       intro W1 hW1
       have hb1 : Below w.heap.size w W1 := by rw [hW1]; exact balloc (Below.refl _ _) _
       have hx1 : W1.heap[w.heap.size]? = some (.cells #[.int .i64 6, .string id, .int .i64 tick, .int .i64 val, .int .i64 handle, .int .i64 mn, .int .i64 mx, .int .i64 tg, .int .i64 tol, .int .i64 win, .int .i64 hold] 30 (0, 0)) := by rw [hW1]; exact heap_alloc_new _ _
       clear hW1
       refine (rverb_6 W1).mono ?_
       rintro e w2 ⟨rfl, hb2⟩
       obtain ⟨a2, a2f, a2l, a2h⟩ := box_at hb2 hx1
       have HX2 := Lib.hid a2h
       have HB2 := Lib.hid (bthen hb1 hb2)
       clear hb1 hx1 hb2 a2h)
    | (go_at_call 34
       refine (HNM.out w2).mono ?_
       rintro e w3 ⟨rfl, hb3⟩
       obtain ⟨a3, a3f, a3l, a3h⟩ := box_at hb3 HX2.out
       have HX3 := Lib.hid a3h
       have HB3 := Lib.hid (bthen HB2.out hb3)
       clear hb3 a3h)
    | (go_at_call 35
       refine (HID.out w3 HM.out).mono ?_
       rintro e w4 ⟨rfl, rfl⟩)
    | go_in)
  go_ret2
  exact ⟨rfl, HB3.out⟩

theorem join_k7 (id : ByteArray) (tick val handle mn mx tg tol win hold : Int) : joinS [(⟨#[114, 101, 97, 100]⟩ : ByteArray), id] = ⟨#[114, 101, 97, 100, 32]⟩ ++ id := by
  apply bytes_ext
  simp [joinS, Lib.join, ByteArray.data_append, List.intercalate]

set_option maxRecDepth 100000 in
set_option maxHeartbeats 4000000 in
theorem rwith_7 (id : ByteArray) (tick val handle mn mx tg tol win hold : Int) (w : World) (hid : id.size ≤ 20) (i1 : I64 tick) (i2 : I64 val) (i3 : I64 handle) (ip : (Pol.mk mn mx tg tol win hold).ok) :
    Calls Tryd.prog 36 #[.agg #[.int .i64 7, .string id, .int .i64 tick, .int .i64 val, .int .i64 handle, .int .i64 mn, .int .i64 mx, .int .i64 tg, .int .i64 tol, .int .i64 win, .int .i64 hold], .string id] w fun e w' => e = .returned (.string (joinS [(⟨#[114, 101, 97, 100]⟩ : ByteArray), id])) ∧ Below w.heap.size w w' := by
  rw [join_k7 id tick val handle mn mx tg tol win hold]
  obtain ⟨dh, hdh⟩ : ∃ d, d = dec handle := ⟨_, rfl⟩
  obtain ⟨ch, sh⟩ := rdec_says handle i3 dh hdh
  have CH := Lib.hid ch
  clear hdh ch
  clear i1 i2 i3 ip
  go_enter Tryd.func36, Tryd.ntmps36
  go_wp2_with (first
    | (go_at_call 19; with_reducible refine (CH.out _).mono ?_; rintro e w1 ⟨rfl, rfl⟩))
  go_ret
  exact ⟨rfl, by repeat (first | exact balloc (Below.refl _ _) _ | refine below_drewN ?_ _ | refine Below.drew ?_)⟩

set_option maxRecDepth 100000 in
set_option maxHeartbeats 4000000 in
theorem rtext_7 (id : ByteArray) (tick val handle mn mx tg tol win hold : Int) (w : World) (hm : id.size ≤ maxLen) (i1 : I64 tick) (i2 : I64 val) (i3 : I64 handle) (ip : (Pol.mk mn mx tg tol win hold).ok) (hok : idS id = true) :
    Calls Tryd.prog 20 #[.agg #[.int .i64 7, .string id, .int .i64 tick, .int .i64 val, .int .i64 handle, .int .i64 mn, .int .i64 mx, .int .i64 tg, .int .i64 tol, .int .i64 win, .int .i64 hold]] w (TextSays w (joinS [(⟨#[114, 101, 97, 100]⟩ : ByteArray), id]) 0) := by
  have HNM := Lib.hid (show ∀ W, Calls Tryd.prog 34 #[.int .i64 7] W fun e w' => e = .returned (.bool true) ∧ Below W.heap.size W w' from fun W => rnamed_any 7 W)
  have HID := Lib.hid (id_any id)
  have HM := Lib.hid hm
  rw [hok] at HID
  have HSZ := Lib.hid (idS_okTo id hok).2.1
  have HWI := Lib.hid (fun W => rwith_7 id tick val handle mn mx tg tol win hold W (idS_okTo id hok).2.1 i1 i2 i3 ip)
  clear hm i1 i2 i3 ip hok
  go_enter Tryd.func20, Tryd.ntmps20
  go_wp2_with (first
    | (go_at_call 33
       refine calls_named ?_
       intro W1 hW1
       have hb1 : Below w.heap.size w W1 := by rw [hW1]; exact balloc (Below.refl _ _) _
       have hx1 : W1.heap[w.heap.size]? = some (.cells #[.int .i64 7, .string id, .int .i64 tick, .int .i64 val, .int .i64 handle, .int .i64 mn, .int .i64 mx, .int .i64 tg, .int .i64 tol, .int .i64 win, .int .i64 hold] 30 (0, 0)) := by rw [hW1]; exact heap_alloc_new _ _
       clear hW1
       refine (rverb_7 W1).mono ?_
       rintro e w2 ⟨rfl, hb2⟩
       obtain ⟨a2, a2f, a2l, a2h⟩ := box_at hb2 hx1
       have HX2 := Lib.hid a2h
       have HB2 := Lib.hid (bthen hb1 hb2)
       clear hb1 hx1 hb2 a2h)
    | (go_at_call 34
       refine (HNM.out w2).mono ?_
       rintro e w3 ⟨rfl, hb3⟩
       obtain ⟨a3, a3f, a3l, a3h⟩ := box_at hb3 HX2.out
       have HX3 := Lib.hid a3h
       have HB3 := Lib.hid (bthen HB2.out hb3)
       clear hb3 a3h)
    | (go_at_call 35
       refine (HID.out w3 HM.out).mono ?_
       rintro e w4 ⟨rfl, rfl⟩)
    | (go_at_call 36
       refine (HWI.out _).mono ?_
       rintro e w5 ⟨rfl, hb5⟩
       have HB5 := Lib.hid (bthen HB3.out hb5)
       clear hb5)
    | go_in)
  go_ret2
  exact ⟨rfl, HB5.out⟩

set_option maxRecDepth 100000 in
set_option maxHeartbeats 4000000 in
theorem rtext_bad_7 (id : ByteArray) (tick val handle mn mx tg tol win hold : Int) (w : World) (hm : id.size ≤ maxLen) (i1 : I64 tick) (i2 : I64 val) (i3 : I64 handle) (ip : (Pol.mk mn mx tg tol win hold).ok) (hok : idS id = false) :
    Calls Tryd.prog 20 #[.agg #[.int .i64 7, .string id, .int .i64 tick, .int .i64 val, .int .i64 handle, .int .i64 mn, .int .i64 mx, .int .i64 tg, .int .i64 tol, .int .i64 win, .int .i64 hold]] w (TextSays w ⟨#[]⟩ 2) := by
  have HNM := Lib.hid (show ∀ W, Calls Tryd.prog 34 #[.int .i64 7] W fun e w' => e = .returned (.bool true) ∧ Below W.heap.size W w' from fun W => rnamed_any 7 W)
  have HID := Lib.hid (id_any id)
  have HM := Lib.hid hm
  rw [hok] at HID
  clear hm i1 i2 i3 ip hok
  go_enter Tryd.func20, Tryd.ntmps20
  go_wp2_with (first
    | (go_at_call 33
       refine calls_named ?_
       intro W1 hW1
       have hb1 : Below w.heap.size w W1 := by rw [hW1]; exact balloc (Below.refl _ _) _
       have hx1 : W1.heap[w.heap.size]? = some (.cells #[.int .i64 7, .string id, .int .i64 tick, .int .i64 val, .int .i64 handle, .int .i64 mn, .int .i64 mx, .int .i64 tg, .int .i64 tol, .int .i64 win, .int .i64 hold] 30 (0, 0)) := by rw [hW1]; exact heap_alloc_new _ _
       clear hW1
       refine (rverb_7 W1).mono ?_
       rintro e w2 ⟨rfl, hb2⟩
       obtain ⟨a2, a2f, a2l, a2h⟩ := box_at hb2 hx1
       have HX2 := Lib.hid a2h
       have HB2 := Lib.hid (bthen hb1 hb2)
       clear hb1 hx1 hb2 a2h)
    | (go_at_call 34
       refine (HNM.out w2).mono ?_
       rintro e w3 ⟨rfl, hb3⟩
       obtain ⟨a3, a3f, a3l, a3h⟩ := box_at hb3 HX2.out
       have HX3 := Lib.hid a3h
       have HB3 := Lib.hid (bthen HB2.out hb3)
       clear hb3 a3h)
    | (go_at_call 35
       refine (HID.out w3 HM.out).mono ?_
       rintro e w4 ⟨rfl, rfl⟩)
    | go_in)
  go_ret2
  exact ⟨rfl, HB3.out⟩

theorem join_k8 (id : ByteArray) (tick val handle mn mx tg tol win hold : Int) : joinS [(⟨#[115, 104, 117, 116]⟩ : ByteArray)] = ⟨#[115, 104, 117, 116]⟩ := by
  apply bytes_ext
  simp [joinS, Lib.join, ByteArray.data_append, List.intercalate]

set_option maxRecDepth 100000 in
set_option maxHeartbeats 4000000 in
theorem rwith_8 (id : ByteArray) (tick val handle mn mx tg tol win hold : Int) (w : World) (i1 : I64 tick) (i2 : I64 val) (i3 : I64 handle) (ip : (Pol.mk mn mx tg tol win hold).ok) :
    Calls Tryd.prog 36 #[.agg #[.int .i64 8, .string id, .int .i64 tick, .int .i64 val, .int .i64 handle, .int .i64 mn, .int .i64 mx, .int .i64 tg, .int .i64 tol, .int .i64 win, .int .i64 hold], .string id] w fun e w' => e = .returned (.string (joinS [(⟨#[115, 104, 117, 116]⟩ : ByteArray)])) ∧ Below w.heap.size w w' := by
  rw [join_k8 id tick val handle mn mx tg tol win hold]
  obtain ⟨dh, hdh⟩ : ∃ d, d = dec handle := ⟨_, rfl⟩
  obtain ⟨ch, sh⟩ := rdec_says handle i3 dh hdh
  have CH := Lib.hid ch
  clear hdh ch
  clear i1 i2 i3 ip
  go_enter Tryd.func36, Tryd.ntmps36
  go_wp2_with (first
    | (go_at_call 19; with_reducible refine (CH.out _).mono ?_; rintro e w1 ⟨rfl, rfl⟩)
    | (go_at_call 33; refine (rverb_8 _).mono ?_; rintro e w1 ⟨rfl, hb1⟩))
  go_ret
  exact ⟨rfl, bthen (balloc (Below.refl _ _) _) hb1⟩

set_option maxRecDepth 100000 in
set_option maxHeartbeats 4000000 in
theorem rtext_8 (id : ByteArray) (tick val handle mn mx tg tol win hold : Int) (w : World) (hm : id.size ≤ maxLen) (i1 : I64 tick) (i2 : I64 val) (i3 : I64 handle) (ip : (Pol.mk mn mx tg tol win hold).ok) :
    Calls Tryd.prog 20 #[.agg #[.int .i64 8, .string id, .int .i64 tick, .int .i64 val, .int .i64 handle, .int .i64 mn, .int .i64 mx, .int .i64 tg, .int .i64 tol, .int .i64 win, .int .i64 hold]] w (TextSays w (joinS [(⟨#[115, 104, 117, 116]⟩ : ByteArray)]) 0) := by
  have HNM := Lib.hid (show ∀ W, Calls Tryd.prog 34 #[.int .i64 8] W fun e w' => e = .returned (.bool false) ∧ Below W.heap.size W w' from fun W => rnamed_any 8 W)
  have HWI := Lib.hid (fun W => rwith_8 id tick val handle mn mx tg tol win hold W i1 i2 i3 ip)
  clear hm i1 i2 i3 ip
  go_enter Tryd.func20, Tryd.ntmps20
  go_wp2_with (first
    | (go_at_call 33
       refine calls_named ?_
       intro W1 hW1
       have hb1 : Below w.heap.size w W1 := by rw [hW1]; exact balloc (Below.refl _ _) _
       have hx1 : W1.heap[w.heap.size]? = some (.cells #[.int .i64 8, .string id, .int .i64 tick, .int .i64 val, .int .i64 handle, .int .i64 mn, .int .i64 mx, .int .i64 tg, .int .i64 tol, .int .i64 win, .int .i64 hold] 30 (0, 0)) := by rw [hW1]; exact heap_alloc_new _ _
       clear hW1
       refine (rverb_8 W1).mono ?_
       rintro e w2 ⟨rfl, hb2⟩
       obtain ⟨a2, a2f, a2l, a2h⟩ := box_at hb2 hx1
       have HX2 := Lib.hid a2h
       have HB2 := Lib.hid (bthen hb1 hb2)
       clear hb1 hx1 hb2 a2h)
    | (go_at_call 34
       refine (HNM.out w2).mono ?_
       rintro e w3 ⟨rfl, hb3⟩
       obtain ⟨a3, a3f, a3l, a3h⟩ := box_at hb3 HX2.out
       have HX3 := Lib.hid a3h
       have HB3 := Lib.hid (bthen HB2.out hb3)
       clear hb3 a3h)
    | (go_at_call 36
       refine (HWI.out _).mono ?_
       rintro e w5 ⟨rfl, hb5⟩
       have HB5 := Lib.hid (bthen HB3.out hb5)
       clear hb5)
    | go_in)
  go_ret2
  exact ⟨rfl, HB5.out⟩

set_option maxRecDepth 100000 in
set_option maxHeartbeats 4000000 in
theorem rtext_lo (k : Int) (hk : k < 1) (id : ByteArray) (tick val handle mn mx tg tol win hold : Int) (w : World) :
    Calls Tryd.prog 20 #[.agg #[.int .i64 k, .string id, .int .i64 tick, .int .i64 val, .int .i64 handle, .int .i64 mn, .int .i64 mx, .int .i64 tg, .int .i64 tol, .int .i64 win, .int .i64 hold]] w (TextSays w ⟨#[]⟩ 14) := by
  have HV := Lib.hid (fun W => rverb_lo k hk W)
  clear hk
  go_enter Tryd.func20, Tryd.ntmps20
  go_wp2_with (go_at_call 33; refine (HV.out _).mono ?_; rintro e w2 ⟨rfl, hb2⟩)
  go_ret2
  exact ⟨rfl, bthen (balloc (Below.refl _ _) _) hb2⟩

set_option maxRecDepth 100000 in
set_option maxHeartbeats 4000000 in
theorem rtext_hi (k : Int) (hk : ¬ k < 1) (hk8 : 8 < k) (id : ByteArray) (tick val handle mn mx tg tol win hold : Int) (w : World) :
    Calls Tryd.prog 20 #[.agg #[.int .i64 k, .string id, .int .i64 tick, .int .i64 val, .int .i64 handle, .int .i64 mn, .int .i64 mx, .int .i64 tg, .int .i64 tol, .int .i64 win, .int .i64 hold]] w (TextSays w ⟨#[]⟩ 14) := by
  have HV := Lib.hid (fun W => rverb_hi k hk hk8 W)
  clear hk hk8
  go_enter Tryd.func20, Tryd.ntmps20
  go_wp2_with (go_at_call 33; refine (HV.out _).mono ?_; rintro e w2 ⟨rfl, hb2⟩)
  go_ret2
  exact ⟨rfl, bthen (balloc (Below.refl _ _) _) hb2⟩

theorem rtext_any (c : CallD) (w : World) (hc : c.ok) : Calls Tryd.prog 20 #[callV c] w (TextSays w (textS c) (textE c)) := by
  obtain ⟨k, id, tick, val, handle, mn, mx, tg, tol, win, hold⟩ := c
  obtain ⟨h1, h2, h3, h4, h5, h6⟩ := hc
  dsimp only at h1 h2 h3 h4 h5 h6
  by_cases l1 : k < 1
  · have e : textE ⟨k, id, tick, val, handle, ⟨mn, mx, tg, tol, win, hold⟩⟩ = 14 := if_pos (.inl l1)
    unfold textS
    rw [e, if_neg (by decide)]
    exact rtext_lo k l1 id tick val handle mn mx tg tol win hold w
  by_cases l8 : 8 < k
  · have e : textE ⟨k, id, tick, val, handle, ⟨mn, mx, tg, tol, win, hold⟩⟩ = 14 := if_pos (.inr l8)
    unfold textS
    rw [e, if_neg (by decide)]
    exact rtext_hi k l1 l8 id tick val handle mn mx tg tol win hold w
  have hk : k = 1 ∨ k = 2 ∨ k = 3 ∨ k = 4 ∨ k = 5 ∨ k = 6 ∨ k = 7 ∨ k = 8 := by omega
  rcases hk with rfl | rfl | rfl | rfl | rfl | rfl | rfl | rfl
  · cases hid : idS id with
    | true =>
      have e : textE (⟨1, id, tick, val, handle, ⟨mn, mx, tg, tol, win, hold⟩⟩ : CallD) = 0 := by unfold textE; rw [if_neg (by dsimp only; omega), if_neg (by dsimp only; rw [hid]; simp)]
      unfold textS
      rw [e, if_pos rfl]
      exact rtext_1 id tick val handle mn mx tg tol win hold w h2 h3 h4 h5 h6 hid
    | false =>
      have e : textE (⟨1, id, tick, val, handle, ⟨mn, mx, tg, tol, win, hold⟩⟩ : CallD) = 2 := by unfold textE; rw [if_neg (by dsimp only; omega), if_pos ⟨rfl, hid⟩]
      unfold textS
      rw [e, if_neg (by decide)]
      exact rtext_bad_1 id tick val handle mn mx tg tol win hold w h2 h3 h4 h5 h6 hid
  · have e : textE (⟨2, id, tick, val, handle, ⟨mn, mx, tg, tol, win, hold⟩⟩ : CallD) = 0 := by unfold textE; rw [if_neg (by dsimp only; omega), if_neg (by rintro ⟨h, _⟩; cases h)]
    unfold textS
    rw [e, if_pos rfl]
    exact rtext_2 id tick val handle mn mx tg tol win hold w h2 h3 h4 h5 h6
  · have e : textE (⟨3, id, tick, val, handle, ⟨mn, mx, tg, tol, win, hold⟩⟩ : CallD) = 0 := by unfold textE; rw [if_neg (by dsimp only; omega), if_neg (by rintro ⟨h, _⟩; cases h)]
    unfold textS
    rw [e, if_pos rfl]
    exact rtext_3 id tick val handle mn mx tg tol win hold w h2 h3 h4 h5 h6
  · have e : textE (⟨4, id, tick, val, handle, ⟨mn, mx, tg, tol, win, hold⟩⟩ : CallD) = 0 := by unfold textE; rw [if_neg (by dsimp only; omega), if_neg (by rintro ⟨h, _⟩; cases h)]
    unfold textS
    rw [e, if_pos rfl]
    exact rtext_4 id tick val handle mn mx tg tol win hold w h2 h3 h4 h5 h6
  · cases hid : idS id with
    | true =>
      have e : textE (⟨5, id, tick, val, handle, ⟨mn, mx, tg, tol, win, hold⟩⟩ : CallD) = 0 := by unfold textE; rw [if_neg (by dsimp only; omega), if_neg (by dsimp only; rw [hid]; simp)]
      unfold textS
      rw [e, if_pos rfl]
      exact rtext_5 id tick val handle mn mx tg tol win hold w h2 h3 h4 h5 h6 hid
    | false =>
      have e : textE (⟨5, id, tick, val, handle, ⟨mn, mx, tg, tol, win, hold⟩⟩ : CallD) = 2 := by unfold textE; rw [if_neg (by dsimp only; omega), if_pos ⟨rfl, hid⟩]
      unfold textS
      rw [e, if_neg (by decide)]
      exact rtext_bad_5 id tick val handle mn mx tg tol win hold w h2 h3 h4 h5 h6 hid
  · cases hid : idS id with
    | true =>
      have e : textE (⟨6, id, tick, val, handle, ⟨mn, mx, tg, tol, win, hold⟩⟩ : CallD) = 0 := by unfold textE; rw [if_neg (by dsimp only; omega), if_neg (by dsimp only; rw [hid]; simp)]
      unfold textS
      rw [e, if_pos rfl]
      exact rtext_6 id tick val handle mn mx tg tol win hold w h2 h3 h4 h5 h6 hid
    | false =>
      have e : textE (⟨6, id, tick, val, handle, ⟨mn, mx, tg, tol, win, hold⟩⟩ : CallD) = 2 := by unfold textE; rw [if_neg (by dsimp only; omega), if_pos ⟨rfl, hid⟩]
      unfold textS
      rw [e, if_neg (by decide)]
      exact rtext_bad_6 id tick val handle mn mx tg tol win hold w h2 h3 h4 h5 h6 hid
  · cases hid : idS id with
    | true =>
      have e : textE (⟨7, id, tick, val, handle, ⟨mn, mx, tg, tol, win, hold⟩⟩ : CallD) = 0 := by unfold textE; rw [if_neg (by dsimp only; omega), if_neg (by dsimp only; rw [hid]; simp)]
      unfold textS
      rw [e, if_pos rfl]
      exact rtext_7 id tick val handle mn mx tg tol win hold w h2 h3 h4 h5 h6 hid
    | false =>
      have e : textE (⟨7, id, tick, val, handle, ⟨mn, mx, tg, tol, win, hold⟩⟩ : CallD) = 2 := by unfold textE; rw [if_neg (by dsimp only; omega), if_pos ⟨rfl, hid⟩]
      unfold textS
      rw [e, if_neg (by decide)]
      exact rtext_bad_7 id tick val handle mn mx tg tol win hold w h2 h3 h4 h5 h6 hid
  · have e : textE (⟨8, id, tick, val, handle, ⟨mn, mx, tg, tol, win, hold⟩⟩ : CallD) = 0 := by unfold textE; rw [if_neg (by dsimp only; omega), if_neg (by rintro ⟨h, _⟩; cases h)]
    unfold textS
    rw [e, if_pos rfl]
    exact rtext_8 id tick val handle mn mx tg tol win hold w h2 h3 h4 h5 h6
end

end Go.Proofs.YtmndhffimlkjgaaDoor
