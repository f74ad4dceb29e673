/- journal.Read: the calls that bytes begin with. -/
import Derived.Test.YtfnabpmdjfejbaaDoorJLaw1
import Derived.Test.YtfnabpmdjfejbaaDoorCallsIn
namespace Go.Proofs.YtfnabpmdjfejbaaDoor
set_option linter.unusedSimpArgs false
set_option linter.unusedVariables false
open Go.RowKit Go.Lib

def readZ : Nat → List UInt8 → List CallD × Nat
  | 0, _ => ([], 0)
  | f + 1, b => if (getB b).2.2 = 0 then ((getB b).1 :: (readZ f (b.drop (getB b).2.1)).1, (getB b).2.1 + (readZ f (b.drop (getB b).2.1)).2) else ([], 0)
def readB (b : List UInt8) : List CallD × Nat := readZ (b.length + 1) b
theorem readZ_fuel : ∀ (f g : Nat) (b : List UInt8), b.length < f → b.length < g → readZ f b = readZ g b := by
  intro f
  induction f with
  | zero => intro g b h _; omega
  | succ f ih =>
    intro g b h1 h2
    obtain ⟨g, rfl⟩ : ∃ k, g = k + 1 := ⟨g - 1, by omega⟩
    unfold readZ
    split
    · rename_i he
      obtain ⟨_, _, _, _, h4, h5⟩ := get_ok he
      rw [ih g _ (by simp; omega) (by simp; omega)]
    · rfl
theorem read_bad {b : List UInt8} (h : (getB b).2.2 ≠ 0) : readB b = ([], 0) := by
  unfold readB readZ
  rw [if_neg h]
theorem read_step {b : List UInt8} (h : (getB b).2.2 = 0) : readB b = ((getB b).1 :: (readB (b.drop (getB b).2.1)).1, (getB b).2.1 + (readB (b.drop (getB b).2.1)).2) := by
  obtain ⟨_, _, _, _, h4, h5⟩ := get_ok h
  unfold readB
  rw [show readZ (b.length + 1) b = ((getB b).1 :: (readZ b.length (b.drop (getB b).2.1)).1, (getB b).2.1 + (readZ b.length (b.drop (getB b).2.1)).2) by rw [readZ, if_pos h]]
  rw [readZ_fuel b.length ((b.drop (getB b).2.1).length + 1) _ (by simp; omega) (by simp)]

/-- Calls one behind the other, cut off anywhere. -/
def flatP (m : List CallD) : List UInt8 := m.flatMap putB
def cutR : List CallD → Nat → List CallD × Nat
  | [], _ => ([], 0)
  | c :: m, k => if (putB c).length ≤ k then (c :: (cutR m (k - (putB c).length)).1, (putB c).length + (cutR m (k - (putB c).length)).2) else ([], 0)
theorem read_cut : ∀ (m : List CallD) (k : Nat), (∀ c ∈ m, c.ok ∧ textE c = 0 ∧ bareC c = c) → readB ((flatP m).take k) = cutR m k := by
  intro m
  induction m with
  | nil =>
    intro k _
    rw [show (flatP []).take k = [] from by simp [flatP], read_bad (by rw [get_short (.inl rfl)]; decide)]
    rfl
  | cons c m ih =>
    intro k h
    obtain ⟨h1, h2, h3⟩ := h c (List.mem_cons_self ..)
    have e : flatP (c :: m) = putB c ++ flatP m := rfl
    unfold cutR
    by_cases hk : (putB c).length ≤ k
    · rw [if_pos hk, e, List.take_append, List.take_of_length_le hk]
      have hg := get_put h1 h2 ((flatP m).take (k - (putB c).length))
      rw [read_step (by rw [hg]), hg]
      dsimp only
      rw [List.drop_left, h3, ih _ (fun x hx => h x (List.mem_cons_of_mem _ hx))]
    · rw [if_neg hk, e, List.take_append_of_le_length (by omega), read_bad]
      rw [get_piece h1 h2 (by omega)]
      decide

def ReadSays (w : World) (r : List CallD × Nat) (e : Ending) (w' : World) : Prop :=
  ∃ A c, e = .returned (.tuple #[.slice A r.1.length c, .int .i64 (r.2 : Nat)]) ∧ OwnL callCells 25 11 w.heap.size w' (.slice A r.1.length c) r.1 ∧ Below w.heap.size w w'

set_option maxRecDepth 100000 in
set_option maxHeartbeats 4000000 in
theorem read_any (v : Value) (l : List UInt8) (w : World) (hv : RowIn 1 byteC w v l) (hl : l.length ≤ 1000000) (ht : Tab w) :
    Calls Tryd.prog 22 #[v] w (ReadSays w (readB l)) := by
  obtain ⟨A0, c0, rfl⟩ := hv.form
  have HV := Lib.hid hv
  have HT := Lib.hid ht
  have HL := Lib.hid hl
  clear hv ht
  go_enter Tryd.func22, Tryd.ntmps22
  go_wp2
  go_loopg [4, 5] l.length (fun g s4 s5 wr => ∃ (d : List CallD) (p : Nat), p ≤ l.length ∧ l.length - p ≤ g ∧ d.length ≤ p ∧ s5 = .int .i64 p ∧ OwnL callCells 25 11 w.heap.size wr s4 d ∧ readB l = (d ++ (readB (l.drop p)).1, p + (readB (l.drop p)).2) ∧ Below w.heap.size w wr)
  case atStart => exact ⟨[], 0, Nat.zero_le _, Nat.le_refl _, Nat.le_refl _, rfl, OwnL.nil _ _, by simp, Below.refl _ _⟩
  case round =>
    obtain ⟨d, p, hp, hg, hd, rfl, ho, hr, hb⟩ := hrel
    obtain ⟨A4, c4, rfl⟩ := ho.form
    obtain ⟨m, A5, c5, hm, hs5, hr5⟩ := row_from eByte HV.out p hp
    have hml : m.length = l.length - p := by rw [hm]; simp
    rw [← hm] at hr
    have HR := Lib.hid hr
    have HO := Lib.hid ho
    have HB := Lib.hid hb
    have HG := Lib.hid (jget_any (.slice A5 m.length c5) m wr (hr5.below hb) (by omega) (HT.out.below hb))
    have hgo := fun h => get_ok (b := m) h
    have hrs := fun h => read_step (b := m) h
    have hrb := fun h => read_bad (b := m) h
    have hdr : ∀ q, m.drop q = l.drop (p + q) := fun q => by rw [hm, List.drop_drop]
    unfold GetSays callV at HG
    generalize getB m = r at HG hgo hrs hrb
    obtain ⟨c, n, x⟩ := r
    dsimp only at HG hgo hrs hrb
    by_cases hx : x = 0
    · subst hx
      obtain ⟨_, _, _, _, hn4, hnl⟩ := hgo rfl
      have HRS := Lib.hid (hrs rfl)
      have HDR := Lib.hid (hdr n)
      have hpn : (p : Int) + (n : Int) = ((p + n : Nat) : Int) := by omega
      obtain ⟨p', hp'⟩ : ∃ q, q = p + n := ⟨_, rfl⟩
      rw [← hp'] at HDR hpn
      have HP := Lib.hid (show p' = p + n ∧ 4 ≤ n ∧ p' ≤ l.length from ⟨hp', by omega, by omega⟩)
      have hp9 : p' ≤ 1000000 := by omega
      clear hr ho hb hr5 hgo hrs hrb hdr hm hml hn4 hnl hp'
      go_wp2_with (first
        | (go_at_call 10
           refine HG.out.mono ?_
           rintro e w2 ⟨rfl, hb2⟩
           have HB2 := Lib.hid (bthen HB.out hb2)
           have HO2 := Lib.hid (HO.out.below hb2)
           clear hb2)
        | (at_builtin
           refine wpList_appendL eCall (by rfl) (by rfl) w.heap.size d [c] (.slice A4 d.length c4) _ (by rfl) (by rfl) ((HO2.out.below (balloc (Below.refl _ _) _)).below (balloc (Below.refl _ _) _)) (RowIn.lit (n := 11) (f := callCells) _ c _ _ (w2.heap.size + 1) (by simp) rfl) (by have := HL.out; simp; omega) (by have := HB2.out.size; simp; omega) ?_
           intro out3 A3 c3 w3 hout3 hown3 hg3 hor3
           have hb3 : Below w.heap.size w w3 := (balloc (balloc HB2.out _) _).trans (grown_own hg3 HO2.out (by have := HB2.out.size; simp; omega))
           have HO3 := Lib.hid hown3
           have HOUT3 := Lib.hid hout3
           have HB3 := Lib.hid hb3
           clear hout3 hown3 hg3 hor3 hb3))
      go_roundg (l.length - p')
      case measure => have := HP.out; omega
      case rel =>
        have e1 := HP.out
        refine ⟨out3, p', by omega, Nat.le_refl _, by rw [HOUT3.out]; simp; omega, by go_num, HO3.out, ?_, HB3.out⟩
        rw [HR.out, HRS.out, HDR.out, HOUT3.out, e1.1]
        simp
        omega
    · have HRB := Lib.hid (hrb hx)
      have qx : (x == 0) = false := by simpa using hx
      have qx2 : decide (x = 0) = false := by simpa using hx
      have qx3 : (x != 0) = true := by simpa using hx
      clear hr ho hb hr5 hgo hrs hrb hdr hm hml
      go_wp2_with (first
        | (go_at_call 10
           refine HG.out.mono ?_
           rintro e w2 ⟨rfl, hb2⟩
           have HB2 := Lib.hid (bthen HB.out hb2)
           have HO2 := Lib.hid (HO.out.below hb2)
           clear hb2))
      go_ret2
      have e1 := HR.out
      rw [HRB.out] at e1
      simp only [List.append_nil, Nat.add_zero] at e1
      rw [e1]
      exact ⟨A4, c4, rfl, HO2.out.below (balloc (Below.refl _ _) _), balloc HB2.out _⟩

/-- flywheelref50.All. -/
theorem flatP_len : ∀ (m : List CallD), (∀ c ∈ m, c.ok ∧ textE c = 0) → (flatP m).length ≤ 100 * m.length := by
  intro m
  induction m with
  | nil => intro _; simp [flatP]
  | cons c m ih =>
    intro h
    obtain ⟨h1, h2⟩ := h c (List.mem_cons_self ..)
    have h3 := ih (fun x hx => h x (List.mem_cons_of_mem _ hx))
    have h4 := putB_len c
    have h5 := bodyB_len (bareC_ok h1) (bare_id h2)
    have e : flatP (c :: m) = putB c ++ flatP m := rfl
    rw [e, List.length_append, List.length_cons]
    omega
theorem flatP_take {m : List CallD} {k : Nat} (h : k < m.length) : flatP (m.take (k + 1)) = flatP (m.take k) ++ putB m[k] := by
  unfold flatP
  rw [List.take_succ_eq_append_getElem h, List.flatMap_append]
  simp
set_option maxRecDepth 100000 in
set_option maxHeartbeats 4000000 in
theorem rall_any (v : Value) (m : List CallD) (w : World) (hv : RowIn 11 callCells w v m) (hm : ∀ c ∈ m, c.ok ∧ textE c = 0) (hl : m.length ≤ 1000) :
    Calls Tryd.prog 21 #[v] w fun e w' => ∃ A c, e = .returned (.slice A (flatP m).length c) ∧ OwnL byteC 5 1 w.heap.size w' (.slice A (flatP m).length c) (flatP m) ∧ Below w.heap.size w w' := by
  obtain ⟨A0, c0, rfl⟩ := hv.form
  have HV := Lib.hid hv
  have HM := Lib.hid hm
  have HL := Lib.hid hl
  clear hv hm
  go_enter Tryd.func21, Tryd.ntmps21
  go_wp2
  go_loopg [3, 4] m.length (fun g s3 s4 wr => ∃ (k : Nat), k ≤ m.length ∧ m.length - k ≤ g ∧ s4 = .int .i64 k ∧ OwnL byteC 5 1 w.heap.size wr s3 (flatP (m.take k)) ∧ Below w.heap.size w wr)
  case atStart => exact ⟨0, Nat.zero_le _, Nat.le_refl _, rfl, OwnL.nil _ _, Below.refl _ _⟩
  case round =>
    obtain ⟨k, hk, hg, rfl, ho, hb⟩ := hrel
    by_cases hlt : k < m.length
    · obtain ⟨b, o, rfl, hbl, hc⟩ := calls_at HV.out hlt
      obtain ⟨q0, q1, q2, q3, q4, q5, q6, q7, q8, q9, q10⟩ := hc wr hb
      have hbl' := Nat.lt_of_lt_of_le hbl hb.size
      obtain ⟨A4, c4, rfl⟩ := ho.form
      have hx := HM.out _ (List.getElem_mem hlt)
      have hll := putB_len m[k]
      have hb2 := bodyB_len (bareC_ok hx.1) (bare_id hx.2)
      have hfl := flatP_len (m.take k) (fun c hc => HM.out c (List.mem_of_mem_take hc))
      have HFT := Lib.hid (flatP_take hlt)
      have HP := Lib.hid (rput_ok m[k] · hx.1 hx.2)
      generalize m[k] = c at q0 q1 q2 q3 q4 q5 q6 q7 q8 q9 q10 HP HFT hll hb2
      obtain ⟨pl, hpl⟩ : ∃ p, p = putB c := ⟨_, rfl⟩
      have HPL := Lib.hid (show pl.length ≤ 100 by rw [hpl]; omega)
      rw [← hpl] at HP HFT
      obtain ⟨fl, hfe⟩ : ∃ f, f = flatP (m.take k) := ⟨_, rfl⟩
      rw [← hfe] at ho HFT hfl ⊢
      have HFL := Lib.hid (show fl.length ≤ 100000 by simp at hfl; omega)
      unfold PutSays callV at HP
      have HO := Lib.hid ho
      have HB := Lib.hid hb
      clear hc hx hll hb2 hfl hpl hfe ho hb
      go_wp2_with (first
        | (go_at_call 9
           refine (HP.out wr).mono ?_
           rintro e w2 ⟨A2, c2, rfl, ho2, hb2⟩
           have HB2 := Lib.hid (bthen HB.out hb2)
           have HO2 := Lib.hid (HO.out.below hb2)
           have HR2 := Lib.hid (ho2.row eByte)
           clear hb2 ho2)
        | (at_builtin
           refine wpList_appendL eByte (by rfl) (by rfl) w.heap.size fl pl _ _ (by rfl) (by rfl) HO2.out HR2.out (by have := HFL.out; have := HPL.out; omega) HB2.out.size ?_
           intro out3 A3 c3 w3 hout3 hown3 hg3 hor3
           have hb3 : Below w.heap.size w w3 := HB2.out.trans (grown_own hg3 HO2.out HB2.out.size)
           have HO3 := Lib.hid hown3
           have HOUT3 := Lib.hid hout3
           have HB3 := Lib.hid hb3
           clear hout3 hown3 hg3 hor3 hb3))
      go_roundg (m.length - (k + 1))
      case measure => omega
      case rel => exact ⟨k + 1, hlt, Nat.le_refl _, by go_num, by have := HO3.out; rw [HFT.out, ← HOUT3.out]; exact this, HB3.out⟩
    · obtain rfl : k = m.length := by omega
      rw [List.take_length] at ho
      obtain ⟨A4, c4, rfl⟩ := ho.form
      have HO := Lib.hid ho
      have HB := Lib.hid hb
      clear ho hb
      go_wp2
      go_ret
      exact ⟨A4, c4, rfl, HO.out, HB.out⟩
end Go.Proofs.YtfnabpmdjfejbaaDoor
