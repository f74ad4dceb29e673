/- journal.Log: Add, Len, Bytes. -/
import Derived.Test.YtfnabpmdjfejbaaDoorJLaw1
import Derived.Lib.SliceRun
namespace Go.Proofs.YtfnabpmdjfejbaaDoor
set_option linter.unusedSimpArgs false
set_option linter.unusedVariables false
open Go.RowKit Go.Lib

/-- Only the blocks fp may have turned. -/
structure Turn (w w' : World) (fp : List Nat) : Prop where
  os : w'.os = w.os
  tape : w'.tape = w.tape
  output : w'.output = w.output
  size : w.heap.size ≤ w'.heap.size
  block : ∀ k, k < w.heap.size → k ∉ fp → w'.heap[k]? = w.heap[k]?
theorem Turn.below {w w' : World} {fp : List Nat} (h : Turn w w' fp) {B : Nat} (hB : B ≤ w.heap.size) (hf : ∀ k ∈ fp, B ≤ k) : Below B w w' :=
  ⟨h.os, h.tape, h.output, h.size, fun k hk => h.block k (Nat.lt_of_lt_of_le hk hB) (fun hm => by have := hf k hm; omega)⟩
theorem Turn.of_below {w w' : World} (h : Below w.heap.size w w') (fp : List Nat) : Turn w w' fp := ⟨h.os, h.tape, h.output, h.size, fun k hk _ => h.block k hk⟩
theorem Turn.trans {w a b : World} {fp fq : List Nat} (h : Turn w a fp) (k : Turn a b fq) (hq : ∀ r ∈ fq, r ∈ fp ∨ w.heap.size ≤ r) : Turn w b fp :=
  ⟨k.os.trans h.os, k.tape.trans h.tape, k.output.trans h.output, Nat.le_trans h.size k.size, fun j hj hn => (k.block j (Nat.lt_of_lt_of_le hj h.size) (fun hm => (hq j hm).elim hn (fun h => by omega))).trans (h.block j hj hn)⟩
theorem Turn.grown {w w' : World} {v : Value} (h : w.grownBy w' v.ownBlock) : Turn w w' v.ownBlock.toList :=
  ⟨h.os, h.tape, h.output, h.size, fun k hk hn => h.block k hk (fun e => hn (by rw [← e]; simp))⟩
theorem Turn.set {w : World} (r i : Nat) (v : Value) (fp : List Nat) (h : r ∈ fp) : Turn w (w.setCell ⟨r, i, none⟩ v) fp :=
  ⟨rfl, rfl, rfl, Nat.le_of_eq (by simp [World.setCell]), fun k _ hn => stor_other (fun e => hn (e ▸ h))⟩

def LogAt (w : World) (J : Nat) (v : Value) (l : List UInt8) (n : Nat) : Prop :=
  w.heap[J]? = some (.cells #[v, .int .i64 (n : Nat)] 62 (0, 0)) ∧ OwnL byteC 5 1 (J + 1) w v l
theorem LogAt.below {w w' : World} {J n : Nat} {v : Value} {l : List UInt8} (h : LogAt w J v l n) (hb : Below w.heap.size w w') : LogAt w' J v l n :=
  ⟨(hb.block J (Array.getElem?_eq_some_iff.1 h.1).1).trans h.1, h.2.below hb⟩
def AddSays (w : World) (J : Nat) (v : Value) (l : List UInt8) (n : Nat) (e : Ending) (w' : World) : Prop :=
  ∃ v', e = .returned (.int .i64 0) ∧ LogAt w' J v' l n ∧ Turn w w' (J :: v.ownBlock.toList) ∧ (v'.ownBlock = v.ownBlock ∨ ∃ r, v'.ownBlock = some r ∧ w.heap.size ≤ r)

set_option maxRecDepth 100000 in
set_option maxHeartbeats 4000000 in
theorem add_ok (c : CallD) (J : Nat) (v : Value) (l : List UInt8) (n : Nat) (w : World) (hc : c.ok) (ht : Tab w) (he : textE c = 0) (hJ : LogAt w J v l n) (hl : l.length ≤ 100000) (hn : n ≤ 100000) :
    Calls Tryd.prog 18 #[.pointer (some ⟨J, 0, none⟩), callV c] w (AddSays w J v (l ++ putB c) (n + 1)) := by
  have hll := putB_len c
  have hbl := bodyB_len (bareC_ok hc) (bare_id he)
  have HLL := Lib.hid (show (putB c).length ≤ 100 by omega)
  have HP := Lib.hid (fun W h => jput_ok c W hc (ht.below (w' := W) h) he)
  obtain ⟨A, cp, rfl⟩ := hJ.2.form
  generalize putB c = m at HP HLL
  unfold PutSays callV at HP
  unfold callV
  have HJ := Lib.hid hJ
  have HL := Lib.hid hl
  have hlt : J < w.heap.size := (Array.getElem?_eq_some_iff.1 hJ.1).1
  clear hll hbl hc ht he hJ hl
  go_enter Tryd.func18, Tryd.ntmps18
  go_wp2_with (first
    | (go_at_call 8
       refine calls_named ?_
       intro W1 hW1
       have hb1 : Below w.heap.size w W1 := by rw [hW1]; exact balloc (Below.refl _ _) _
       clear hW1
       refine (HP.out W1 hb1).mono ?_
       rintro e w2 ⟨A2, c2, rfl, ho2, hb2⟩
       have hb3 := bthen hb1 hb2
       obtain ⟨a2, a2f, a2l, a2h⟩ := box_at hb3 HJ.out.1
       have HX2 := Lib.hid a2h
       have HO2 := Lib.hid (ho2.row eByte)
       have HB2 := Lib.hid hb3
       clear hb1 hb2 hb3 ho2 a2h)
    | (at_builtin
       refine wpList_appendL eByte (by rfl) (by rfl) (J + 1) l m (.slice A l.length cp) _ (by rfl) (by rfl) (HJ.out.2.below HB2.out) HO2.out (by have := HL.out; have := HLL.out; omega) (by omega) ?_
       intro out3 A3 c3 w3 hout3 hown3 hg3 hor3
       have hnJ : ∀ r, (Value.slice A l.length cp).ownBlock = some r → J + 1 ≤ r := fun r hr => (HJ.out.2.lt hr).1
       have hx3 := (hg3.block J a2l (fun e => by have := hnJ J e.symm; omega)).trans HX2.out
       obtain ⟨a3, a3f, a3l, a3h⟩ := box_at (Below.refl _ _) hx3
       have HX3 := Lib.hid a3h
       have HO3 := Lib.hid hown3
       have HOUT3 := Lib.hid hout3
       have HG3 := Lib.hid hg3
       have HOR3 := Lib.hid hor3
       clear hx3 hown3 hout3 hg3 hor3 hnJ a3h))
  refine bodyPost_ret (v := .int .i64 0) (by simp [results, Tryd.results18, go_sem]) rfl ?_
  have k1 := stor_one (i := 1) (v := .int .i64 ((n + 1 : Nat) : Int)) (stor_one (i := 0) (v := .slice A3 out3.length c3) HX3.out)
  have ht2 : Turn w2 w3 (J :: (Value.slice A l.length cp).ownBlock.toList) := ⟨HG3.out.os, HG3.out.tape, HG3.out.output, HG3.out.size, fun k hk hn => HG3.out.block k hk (fun e => hn (by rw [← e]; simp))⟩
  have hown := HO3.out
  rw [HOUT3.out] at hown
  refine ⟨.slice A3 out3.length c3, rfl, ⟨?_, ?_⟩, ?_, ?_⟩
  · exact k1
  · rw [HOUT3.out]
    refine hown.kept (fun r hr => ?_)
    have := (hown.lt hr).1
    exact (stor_other (by omega)).trans (stor_other (by omega))
  · exact (Turn.of_below HB2.out _).trans (ht2.trans ((Turn.set J 0 _ _ (by simp)).trans (Turn.set J 1 _ _ (by simp)) (fun r hr => .inl hr)) (fun r hr => .inl hr)) (fun r hr => .inl hr)
  · exact HOR3.out.elim .inl (fun e => .inr ⟨_, e, HB2.out.size⟩)
set_option maxRecDepth 100000 in
set_option maxHeartbeats 4000000 in
theorem add_bad (c : CallD) (J : Nat) (w : World) (hc : c.ok) (ht : Tab w) (he : textE c ≠ 0) (hJ : J < w.heap.size) :
    Calls Tryd.prog 18 #[.pointer (some ⟨J, 0, none⟩), callV c] w fun e w' => e = .returned (.int .i64 (textE c)) ∧ Below w.heap.size w w' := by
  have HP := Lib.hid (fun W h => jput_bad c W hc (ht.below (w' := W) h) he)
  unfold BadSays callV at HP
  unfold callV
  generalize textE c = x at HP he
  have qx : (x == 0) = false := by simpa using he
  have qx2 : decide (x = 0) = false := by simpa using he
  have qx3 : (x != 0) = true := by simpa using he
  clear hc ht
  go_enter Tryd.func18, Tryd.ntmps18
  go_wp2_with (go_at_call 8
               refine (HP.out _ (balloc (Below.refl _ _) _)).mono ?_
               rintro e w2 ⟨rfl, hb2⟩
               have HB2 := Lib.hid (bthen (balloc (Below.refl _ _) _) hb2)
               clear hb2)
  go_ret
  exact ⟨rfl, HB2.out⟩
set_option maxRecDepth 100000 in
set_option maxHeartbeats 4000000 in
theorem len_log (J : Nat) (v : Value) (l : List UInt8) (n : Nat) (w : World) (hJ : LogAt w J v l n) :
    Calls Tryd.prog 20 #[.pointer (some ⟨J, 0, none⟩)] w fun e w' => e = .returned (.int .i64 (n : Nat)) ∧ w' = w := by
  obtain ⟨a2, a2f, a2l, a2h⟩ := box_at (Below.refl _ _) hJ.1
  clear hJ a2h
  go_enter Tryd.func20, Tryd.ntmps20
  go_wp2
  go_ret
  exact ⟨rfl, rfl⟩
theorem OwnL.mk_some {A : Option Addr} {n c base : Nat} {w : World} {l : List UInt8} (h : OwnL byteC 5 1 base w (.slice A n c) l) : A = none ∧ l = [] ∨ ∃ r, A = some ⟨r, 0, none⟩ := by
  rcases h.2 with ⟨h1, h2⟩ | ⟨g, cap, cur, h1, _⟩
  · injection h1 with h3 h4 h5
    exact .inl ⟨h3, List.eq_nil_of_length_eq_zero h2⟩
  · injection h1 with h3 h4 h5
    exact .inr ⟨g, h3⟩
set_option maxRecDepth 100000 in
set_option maxHeartbeats 4000000 in
theorem cloneB_nil (w : World) : Calls Tryd.prog 47 #[.slice none 0 0] w fun e w' => e = .returned (.slice none 0 0) ∧ w' = w := by
  have hq : ∀ W, (binOp .eql 27 (.slice none 0 0) (.slice none 0 0)).run Tryd.prog W = .ok (.bool true) W := fun W => Lib.run_eql_slice_nil W _ _ none 0 0 0 0 eByte.ht
  go_enter Tryd.func47, Tryd.ntmps47
  go_wp2
  go_ret
  exact ⟨rfl, rfl⟩
set_option maxRecDepth 100000 in
set_option maxHeartbeats 4000000 in
theorem cloneB_some (a : Addr) (c : Nat) (l : List UInt8) (w : World) (hv : RowIn 1 byteC w (.slice (some a) l.length c) l) (hl : l.length ≤ 100000) :
    Calls Tryd.prog 47 #[.slice (some a) l.length c] w fun e w' => ∃ A c, e = .returned (.slice A l.length c) ∧ OwnL byteC 5 1 w.heap.size w' (.slice A l.length c) l ∧ Below w.heap.size w w' := by
  have HV := Lib.hid hv
  have HL := Lib.hid hl
  have hq : ∀ W, (binOp .eql 27 (.slice (some a) l.length c) (.slice none 0 0)).run Tryd.prog W = .ok (.bool false) W := fun W => Lib.run_eql_slice_nil W _ _ (some a) l.length c 0 0 eByte.ht
  clear hv hl
  go_enter Tryd.func47, Tryd.ntmps47
  go_wp2_with (at_builtin
               refine wpList_appendL eByte (by rfl) (by rfl) w.heap.size [] l _ _ (by rfl) (by rfl) (OwnL.lit0 _ w _ _ rfl (Nat.le_refl _)) (HV.out.below (balloc (Below.refl _ _) _)) (by have := HL.out; simp; omega) (by simp) ?_
               intro out3 A3 c3 w3 hout3 hown3 hg3 hor3
               have hb3 : Below w.heap.size w w3 := (balloc (Below.refl _ _) _).trans (grown_own hg3 (OwnL.lit0 (f := byteC) (n := 1) w.heap.size w 5 w.heap.size rfl (Nat.le_refl _)) (by simp))
               rw [List.nil_append] at hout3
               have HO3 := Lib.hid hown3
               have HOUT3 := Lib.hid hout3
               have HB3 := Lib.hid hb3
               clear hout3 hown3 hg3 hor3 hb3)
  go_ret
  have h1 := HO3.out
  rw [HOUT3.out] at h1
  exact ⟨A3, c3, by rw [HOUT3.out]; rfl, h1, HB3.out⟩
set_option maxRecDepth 100000 in
set_option maxHeartbeats 4000000 in
theorem bytes_log (J : Nat) (v : Value) (l : List UInt8) (n : Nat) (w : World) (hJ : LogAt w J v l n) (hl : l.length ≤ 100000) :
    Calls Tryd.prog 19 #[.pointer (some ⟨J, 0, none⟩)] w fun e w' => ∃ A c, e = .returned (.slice A l.length c) ∧ OwnL byteC 5 1 w.heap.size w' (.slice A l.length c) l ∧ Below w.heap.size w w' := by
  obtain ⟨a2, a2f, a2l, a2h⟩ := box_at (Below.refl _ _) hJ.1
  obtain ⟨A, cp, rfl⟩ := hJ.2.form
  have hcl : ∀ W : World, W = w → Calls Tryd.prog 47 #[.slice A l.length cp] W fun e w' => ∃ A c, e = .returned (.slice A l.length c) ∧ OwnL byteC 5 1 w.heap.size w' (.slice A l.length c) l ∧ Below w.heap.size w w' := by
    rintro W rfl
    rcases OwnL.mk_some hJ.2 with ⟨rfl, rfl⟩ | ⟨r, rfl⟩
    · have hcp : cp = 0 := by
        rcases hJ.2.2 with ⟨h1, _⟩ | ⟨g, cap, cur, h1, _⟩
        · injection h1
        · cases h1
      subst hcp
      refine (cloneB_nil W).mono ?_
      rintro e w' ⟨rfl, rfl⟩
      exact ⟨none, 0, rfl, OwnL.nil _ _, Below.refl _ _⟩
    · exact cloneB_some _ cp l W (hJ.2.row eByte) hl
  have HCL := Lib.hid hcl
  clear hJ hl hcl a2h
  go_enter Tryd.func19, Tryd.ntmps19
  go_wp2_with (go_at_call 47
               refine (HCL.out _ rfl).mono ?_
               rintro e w2 ⟨A2, c2, rfl, ho, hb⟩
               have HO := Lib.hid ho
               have HB := Lib.hid hb
               clear ho hb)
  go_ret
  exact ⟨A2, c2, rfl, HO.out, HB.out⟩
end Go.Proofs.YtfnabpmdjfejbaaDoor
