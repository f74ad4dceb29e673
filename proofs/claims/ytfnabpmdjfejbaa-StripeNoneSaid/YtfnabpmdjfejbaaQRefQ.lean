/- The reference's queue: Add, Get, Done. -/
import Derived.Test.YtfnabpmdjfejbaaQRef
namespace Go.Proofs.Ytfnabpmdjfejbaa
set_option linter.unusedSimpArgs false
set_option linter.unusedVariables false
open Go.RowKit Go.Lib

structure RQ where
  line : List Ky
  busy : List Ky
  dirty : List Ky
  over : Bool

def addR (x : RQ) (k : Ky) : RQ × Bool :=
  if x.over = true ∨ k ∈ x.dirty then (x, false)
  else if k ∈ x.busy then ({ x with dirty := x.dirty ++ [k] }, false)
  else ({ x with dirty := x.dirty ++ [k], line := x.line ++ [k] }, true)

/-- Keys in a row whose block may be. -/
def RowP (P : Nat → Prop) (w : World) (v : Value) (l : List Ky) : Prop :=
  RowIn 2 keyC w v l ∧ ∀ b o n c, v = .slice (some ⟨b, o, none⟩) n c → 0 < l.length → P b
theorem RowP.below {P : Nat → Prop} {w w' : World} {v : Value} {l : List Ky} (h : RowP P w v l) (hb : Below w.heap.size w w') : RowP P w' v l := ⟨h.1.below hb, h.2⟩
theorem RowP.keys {P : Nat → Prop} {w : World} {v : Value} {l : List Ky} (h : RowP P w v l) : KeysIn w v l := keysIn_row h.1

/-- Keys that lie outside the blocks H to H + n. -/
def KeysOff (P : Nat → Prop) (H n : Nat) (w : World) (v : Value) (l : List Ky) : Prop :=
  ∃ A c, v = .slice A l.length c ∧ l.length ≤ c ∧ (0 < l.length → ∃ b o, A = some ⟨b, o, none⟩ ∧ b < w.heap.size ∧ (P b ∧ (b < H ∨ H + n ≤ b)) ∧ ∀ j u, (cellsK l)[j]? = some u → w.cell? ⟨b, o + j, none⟩ = some u)
theorem KeysOff.keys {P : Nat → Prop} {H n : Nat} {w : World} {v : Value} {l : List Ky} (h : KeysOff P H n w v l) : KeysIn w v l := by
  obtain ⟨A, c, hv, _, h⟩ := h
  refine ⟨A, c, hv, fun hn => ?_⟩
  obtain ⟨b, o, hA, hlt, _, hc⟩ := h hn
  exact ⟨b, o, hA, hlt, hc⟩
theorem KeysOff.row {P : Nat → Prop} {H n : Nat} {w : World} {v : Value} {l : List Ky} (h : KeysOff P H n w v l) : RowP P w v l := by
  have hk := h.keys
  obtain ⟨A, c, rfl, hc, h⟩ := h
  refine ⟨row_keysIn hk hc, fun b o n' c' e hn => ?_⟩
  obtain ⟨b', o', hA, _, ⟨hP, _⟩, _⟩ := h hn
  injection e with e1 _ _
  rw [hA] at e1
  injection e1 with e1
  injection e1 with e1
  rw [← e1]
  exact hP
theorem KeysOff.below {P : Nat → Prop} {H n : Nat} {w w' : World} {v : Value} {l : List Ky} (h : KeysOff P H n w v l) (hb : Below w.heap.size w w') : KeysOff P H n w' v l := by
  obtain ⟨A, c, hv, hl, h⟩ := h
  refine ⟨A, c, hv, hl, fun hn => ?_⟩
  obtain ⟨b, o, hA, hlt, ho, hc⟩ := h hn
  exact ⟨b, o, hA, Nat.lt_of_lt_of_le hlt hb.size, ho, fun j u hu => (hb.cell (p := ⟨b, _, none⟩) hlt).trans (hc j u hu)⟩
theorem KeysOff.set {P : Nat → Prop} {H n : Nat} {w : World} {v : Value} {l : List Ky} (h : KeysOff P H n w v l) {r j : Nat} (u : Value) (hr : H ≤ r) (hr' : r < H + n) : KeysOff P H n (w.setCell ⟨r, j, none⟩ u) v l := by
  obtain ⟨A, c, hv, hl, h⟩ := h
  refine ⟨A, c, hv, hl, fun hn => ?_⟩
  obtain ⟨b, o, hA, hlt, ho, hc⟩ := h hn
  exact ⟨b, o, hA, by simpa [World.setCell] using hlt, ho, fun j u hu => (World.cell?_setCell_other _ _ _ _ (fun e => by injection e with e _ _; omega)).trans (hc j u hu)⟩
theorem KeysOff.of {P : Nat → Prop} {w W : World} {v : Value} {l : List Ky} (n : Nat) (hp : RowP P w v l) (hb : Below w.heap.size w W) : KeysOff P w.heap.size n W v l := by
  obtain ⟨h, hP⟩ := hp
  have hk := keysIn_row h
  obtain ⟨A, c, rfl, hl, _⟩ := h
  obtain ⟨A1, c1, hv, h⟩ := hk
  injection hv with e1 _ _
  subst e1
  refine ⟨A, c, rfl, hl, fun hn => ?_⟩
  obtain ⟨b, o, hA, hlt, hc⟩ := h hn
  exact ⟨b, o, hA, Nat.lt_of_lt_of_le hlt hb.size, ⟨hP b o _ _ (by rw [hA]) hn, .inl hlt⟩, fun j u hu => (hb.cell (p := ⟨b, _, none⟩) hlt).trans (hc j u hu)⟩
theorem KeysOff.own {P : Nat → Prop} {H n : Nat} {w : World} {base : Nat} {e : TypeId} {v : Value} {l : List Ky} (h : w.ownsRow base e 2 v l.length (cellsOfRow keyC l)) (hb : H + n ≤ base) (hP : ∀ b, base ≤ b → P b) : KeysOff P H n w v l := by
  obtain ⟨A0, c0, hv0, hcap, _⟩ := RowIn.own (f := keyC) (n := 2) (fun _ => rfl) h
  obtain ⟨A, c, hv, hk⟩ := KeysIn.own h
  have hcc : l.length ≤ c := by
    rw [hv] at hv0
    injection hv0 with _ _ e3
    omega
  refine ⟨A, c, hv, hcc, fun hn => ?_⟩
  obtain ⟨b, o, hA, hlt, hc⟩ := hk hn
  have hbb : base ≤ b := by
    rcases h.2 with ⟨_, h0⟩ | ⟨g, cap, cur, hv', hg, _⟩
    · omega
    · rw [hv] at hv'
      injection hv' with e1 _ _
      rw [hA] at e1
      injection e1 with e1
      injection e1 with e1
      omega
  exact ⟨b, o, hA, hlt, ⟨hP b hbb, .inr (by omega)⟩, hc⟩
theorem KeysOff.form {P : Nat → Prop} {H n : Nat} {w : World} {v : Value} {l : List Ky} (h : KeysOff P H n w v l) : ∃ A c, v = .slice A l.length c := by
  obtain ⟨A, c, hv, _⟩ := h
  exact ⟨A, c, hv⟩

/-- A reference's queue as a value. -/
def rqV (vl vb vd : Value) (ov : Bool) : Value := .agg #[vl, vb, vd, .bool ov]
structure RQAt (P : Nat → Prop) (w : World) (vl vb vd : Value) (x : RQ) : Prop where
  l : RowP P w vl x.line
  b : RowP P w vb x.busy
  d : RowP P w vd x.dirty
theorem RQAt.below {P : Nat → Prop} {w w' : World} {vl vb vd : Value} {x : RQ} (h : RQAt P w vl vb vd x) (hb : Below w.heap.size w w') : RQAt P w' vl vb vd x := ⟨h.l.below hb, h.b.below hb, h.d.below hb⟩
structure RQ.small (x : RQ) (n : Nat) : Prop where
  l : x.line.length ≤ n
  b : x.busy.length ≤ n
  d : x.dirty.length ≤ n

/-- What a call of Add says. -/
def RAddSays (P : Nat → Prop) (w : World) (x : RQ) (r : Bool) (e : Ending) (w' : World) : Prop :=
  ∃ vl vb vd, e = .returned (.tuple #[.agg #[vl, vb, vd, .bool x.over], .bool r]) ∧ RQAt P w' vl vb vd x ∧ Below w.heap.size w w'

theorem three_boxes (w : World) (o1 o2 o3 : Obj) : ∀ W, W = ((w.alloc o1).alloc o2).alloc o3 → W.heap[w.heap.size]? = some o1 ∧ W.heap[w.heap.size + 1]? = some o2 ∧ W.heap[w.heap.size + 1 + 1]? = some o3 ∧ W.heap.size = w.heap.size + 3 ∧ Below w.heap.size w W := by
  rintro W rfl
  refine ⟨?_, ?_, ?_, by simp, balloc (balloc (balloc (Below.refl _ _) _) _) _⟩
  · exact (Below.heap_alloc _ _ _ (by simp; omega)).trans ((Below.heap_alloc _ _ _ (by simp)).trans (heap_alloc_new _ _))
  · have := heap_alloc_new (w.alloc o1) o2
    rw [World.size_alloc] at this
    exact (Below.heap_alloc _ _ _ (by simp)).trans this
  · have := heap_alloc_new ((w.alloc o1).alloc o2) o3
    rw [World.size_alloc, World.size_alloc] at this
    exact this

set_option maxRecDepth 100000 in
set_option maxHeartbeats 4000000 in
theorem radd_over (P : Nat → Prop) (vl vb vd : Value) (x : RQ) (k : Ky) (w : World) (hP : ∀ b, w.heap.size ≤ b → P b) (h : RQAt P w vl vb vd x) (ho : x.over = true) :
    Calls Try.prog 20 #[.agg #[vl, vb, vd, .bool x.over], .agg #[.int .u64 k.1, .int .u64 k.2]] w (RAddSays P w x false) := by
  have HR := Lib.hid h
  obtain ⟨Al, cl, rfl, _⟩ := h.l.1
  obtain ⟨Ab, cb, rfl, _⟩ := h.b.1
  obtain ⟨Ad, cd, rfl, _⟩ := h.d.1
  have Ho := Lib.hid ho
  clear h
  rw [ho]
  clear ho
  go_enter Try.func20, Try.ntmps20
  go_wp2
  have hb : Below w.heap.size w (((w.alloc (.cells #[.slice Al x.line.length cl, .slice Ab x.busy.length cb, .slice Ad x.dirty.length cd, .bool true] 44)).alloc (.cells #[.int .u64 k.1, .int .u64 k.2] 32)).alloc (.cells #[.slice Al x.line.length cl, .slice Ab x.busy.length cb, .slice Ad x.dirty.length cd, .bool true] 44)) := balloc (balloc (balloc (Below.refl _ _) _) _) _
  exact bodyPost_ret (v := .tuple #[.agg #[.slice Al x.line.length cl, .slice Ab x.busy.length cb, .slice Ad x.dirty.length cd, .bool true], .bool false]) (by simp [results, Try.results20, go_sem]) rfl ⟨_, _, _, by rw [Ho.out], HR.out.below hb, hb⟩

theorem box_at {W w1 : World} (hb : Below W.heap.size W w1) {B : Nat} {cs : Array Value} {T : TypeId} (hB : W.heap[B]? = some (.cells cs T (0, 0))) : (∀ j, w1.cell? ⟨B, j, none⟩ = cs[j]?) ∧ (∀ j, w1.frozen? ⟨B, j, none⟩ = false) ∧ B < w1.heap.size ∧ w1.heap[B]? = some (.cells cs T (0, 0)) := by
  obtain ⟨h1, h2, h3⟩ := box_cells hb hB
  exact ⟨h1, h2, h3, (hb.block B (Array.getElem?_eq_some_iff.1 hB).1).trans hB⟩

set_option maxRecDepth 100000 in
set_option maxHeartbeats 4000000 in
theorem radd_there (P : Nat → Prop) (vl vb vd : Value) (x : RQ) (k : Ky) (w : World) (hP : ∀ b, w.heap.size ≤ b → P b) (h : RQAt P w vl vb vd x) (hs : x.small 1000000) (ho : x.over = false) (hd : k ∈ x.dirty) :
    Calls Try.prog 20 #[.agg #[vl, vb, vd, .bool x.over], .agg #[.int .u64 k.1, .int .u64 k.2]] w (RAddSays P w x false) := by
  have HR := Lib.hid h
  obtain ⟨Al, cl, rfl, _⟩ := h.l.1
  obtain ⟨Ab, cb, rfl, _⟩ := h.b.1
  obtain ⟨Ad, cd, rfl, _⟩ := h.d.1
  have Ho := Lib.hid ho
  have Hs := Lib.hid hs
  obtain ⟨W, hW⟩ : ∃ W, W = ((w.alloc (.cells #[.slice Al x.line.length cl, .slice Ab x.busy.length cb, .slice Ad x.dirty.length cd, .bool false] 44)).alloc (.cells #[.int .u64 k.1, .int .u64 k.2] 32)).alloc (.cells #[.slice none 0 0, .slice none 0 0, .slice none 0 0, .bool false] 44) := ⟨_, rfl⟩
  obtain ⟨b0, b1, b2, hsz, hbW⟩ := three_boxes _ _ _ _ W hW
  have HH := Lib.hid (has_any _ _ k W ((HR.out.d.below hbW).keys) hs.d)
  rw [decide_eq_true hd] at HH
  clear h hs hd
  rw [ho]
  clear ho
  go_enter Try.func20, Try.ntmps20
  go_wp2_with (go_at_call 48; rw [← hW]; refine HH.out.mono ?_; rintro e w1 ⟨rfl, hb1⟩; obtain ⟨k1, k2, k3, k4⟩ := box_at hb1 b0; obtain ⟨k5, k6, k7, k8⟩ := box_at hb1 b2; have hbw : Below w.heap.size w w1 := bthen hbW hb1)
  have hf : Below w.heap.size w ((((w1.setCell ⟨w.heap.size + 1 + 1, 0, none⟩ (.slice Al x.line.length cl)).setCell ⟨w.heap.size + 1 + 1, 1, none⟩ (.slice Ab x.busy.length cb)).setCell ⟨w.heap.size + 1 + 1, 2, none⟩ (.slice Ad x.dirty.length cd)).setCell ⟨w.heap.size + 1 + 1, 3, none⟩ (.bool false)) :=
    (((hbw.setCell (by show w.heap.size ≤ w.heap.size + 1 + 1; omega) _).setCell (by show w.heap.size ≤ w.heap.size + 1 + 1; omega) _).setCell (by show w.heap.size ≤ w.heap.size + 1 + 1; omega) _).setCell (by show w.heap.size ≤ w.heap.size + 1 + 1; omega) _
  exact bodyPost_ret (v := .tuple #[.agg #[.slice Al x.line.length cl, .slice Ab x.busy.length cb, .slice Ad x.dirty.length cd, .bool false], .bool false]) (by simp [results, Try.results20, go_sem, k5]) rfl ⟨_, _, _, by rw [Ho.out], HR.out.below hf, hf⟩

theorem setCell_block {w : World} {B i : Nat} {cs : Array Value} {T : TypeId} {fr : Nat × Nat} {v : Value} (h : w.heap[B]? = some (.cells cs T fr)) : (w.setCell ⟨B, i, none⟩ v).heap[B]? = some (.cells (cs.setIfInBounds i v) T fr) := by
  obtain ⟨hlt, hk⟩ := Array.getElem?_eq_some_iff.1 h
  show (w.heap.modify B _)[B]? = _
  rw [Array.getElem?_eq_getElem (by rw [Array.size_modify]; exact hlt), Array.getElem_modify_self, hk]
  simp

theorem below4 {w a : World} {B : Nat} (h : Below w.heap.size w a) (hB : w.heap.size ≤ B) (v0 v1 v2 v3 : Value) : Below w.heap.size w ((((a.setCell ⟨B, 0, none⟩ v0).setCell ⟨B, 1, none⟩ v1).setCell ⟨B, 2, none⟩ v2).setCell ⟨B, 3, none⟩ v3) :=
  (((h.setCell hB _).setCell hB _).setCell hB _).setCell hB _
theorem KeysOff.set4 {P : Nat → Prop} {H n : Nat} {w : World} {v : Value} {l : List Ky} (h : KeysOff P H n w v l) {B : Nat} (hr : H ≤ B) (hr' : B < H + n) (v0 v1 v2 v3 : Value) : KeysOff P H n ((((w.setCell ⟨B, 0, none⟩ v0).setCell ⟨B, 1, none⟩ v1).setCell ⟨B, 2, none⟩ v2).setCell ⟨B, 3, none⟩ v3) v l :=
  (((h.set v0 hr hr').set v1 hr hr').set v2 hr hr').set v3 hr hr'

/-- A field of the queue's box is written. -/
theorem box_field {w : World} {H i : Nat} {cs : Array Value} {T T' : TypeId} {v : Value} {cs' : Array Value} {B : Nat} (h : w.heap[H]? = some (.cells cs T (0, 0))) (h' : w.heap[B]? = some (.cells cs' T' (0, 0))) (hB : B ≠ H) :
    ∀ W, W = w.setCell ⟨H, i, none⟩ v → W.heap[H]? = some (.cells (cs.setIfInBounds i v) T (0, 0)) ∧ W.heap[B]? = some (.cells cs' T' (0, 0)) ∧ W.heap.size = w.heap.size := by
  rintro W rfl
  exact ⟨setCell_block h, (Below.heap_setCell _ _ _ _ hB).trans h', by simp [World.setCell]⟩

set_option maxRecDepth 100000 in
set_option maxHeartbeats 4000000 in
theorem radd_busy (P : Nat → Prop) (vl vb vd : Value) (x : RQ) (k : Ky) (w : World) (hP : ∀ b, w.heap.size ≤ b → P b) (h : RQAt P w vl vb vd x) (hs : x.small 1000000) (ho : x.over = false) (hd : k ∉ x.dirty) (hy : k ∈ x.busy) :
    Calls Try.prog 20 #[.agg #[vl, vb, vd, .bool x.over], .agg #[.int .u64 k.1, .int .u64 k.2]] w (RAddSays P w { x with dirty := x.dirty ++ [k] } false) := by
  have HR := Lib.hid h
  obtain ⟨Al, cl, rfl, _⟩ := h.l.1
  obtain ⟨Ab, cb, rfl, _⟩ := h.b.1
  obtain ⟨Ad, cd, rfl, _⟩ := h.d.1
  have Ho := Lib.hid ho
  have Hs := Lib.hid hs
  obtain ⟨W, hW⟩ : ∃ W, W = ((w.alloc (.cells #[.slice Al x.line.length cl, .slice Ab x.busy.length cb, .slice Ad x.dirty.length cd, .bool false] 44)).alloc (.cells #[.int .u64 k.1, .int .u64 k.2] 32)).alloc (.cells #[.slice none 0 0, .slice none 0 0, .slice none 0 0, .bool false] 44) := ⟨_, rfl⟩
  obtain ⟨b0, b1, b2, hsz, hbW⟩ := three_boxes _ _ _ _ W hW
  have HL := Lib.hid (KeysOff.of 3 HR.out.l hbW)
  have HB := Lib.hid (KeysOff.of 3 HR.out.b hbW)
  have HD := Lib.hid (KeysOff.of 3 HR.out.d hbW)
  have HH := Lib.hid (has_any _ _ k W ((HR.out.d.below hbW).keys) hs.d)
  rw [decide_eq_false hd] at HH
  have HY := Lib.hid (fun W' hW' => has_any _ _ k W' (KeysOff.keys (P := P) (n := 3) (H := w.heap.size) (l := x.busy) (v := .slice Ab x.busy.length cb) hW') hs.b)
  rw [decide_eq_true hy] at HY
  clear h hd hy
  rw [ho]
  clear ho
  go_enter Try.func20, Try.ntmps20
  go_wp2_with (first
    | (go_at_call 48; rw [← hW]; refine HH.out.mono ?_; rintro e w1 ⟨rfl, hb1⟩
       obtain ⟨k1, k2, k3, k4⟩ := box_at hb1 b0
       obtain ⟨k5, k6, k7, k8⟩ := box_at hb1 b1
       obtain ⟨k9, k10, k11, k12⟩ := box_at hb1 b2
       have HM := Lib.hid (more_row _ _ k w1 (HD.out.below hb1).keys hs.d)
       have hbw1 := hb1.size
       clear hW)
    | (go_at_call 53; refine HM.out.mono ?_; rintro e w2 ⟨v2, rfl, ho2, hb2⟩
       obtain ⟨A2, c2, rfl⟩ := own_form ho2
       obtain ⟨q1, q2, q3, q4⟩ := box_at hb2 k4
       obtain ⟨q7, q8, q9, q10⟩ := box_at hb2 k8
       have hbw2 := hb2.size
       have q5 := (hb2.block _ (Array.getElem?_eq_some_iff.1 k8).1).trans k8
       have q6 := (hb2.block _ (Array.getElem?_eq_some_iff.1 k12).1).trans k12
       clear k1 k2 k3 k5 k6 k7 k9 k10 k11 HM)
    | (go_at_call 48
       obtain ⟨W3, hW3⟩ : ∃ W3, W3 = w2.setCell ⟨w.heap.size, 2, none⟩ (.slice A2 (x.dirty.length + 1) c2) := ⟨_, rfl⟩
       rw [← hW3]
       obtain ⟨p1, p2, p3⟩ := box_field (i := 2) q4 q5 (by omega) W3 hW3
       obtain ⟨_, p4, _⟩ := box_field (i := 2) q4 q6 (by omega) W3 hW3
       have hB3 : KeysOff P w.heap.size 3 W3 (.slice Ab x.busy.length cb) x.busy := by rw [hW3]; exact ((HB.out.below hb1).below hb2).set _ (Nat.le_refl _) (by omega)
       have hD3 : KeysOff P w.heap.size 3 W3 (.slice A2 (x.dirty.length + 1) c2) (x.dirty ++ [k]) := by rw [hW3, show x.dirty.length + 1 = (x.dirty ++ [k]).length by simp]; exact (KeysOff.own ho2 (by omega) (fun b hb => hP b (by omega))).set _ (Nat.le_refl _) (by omega)
       have hbW3 : Below w.heap.size w W3 := by rw [hW3]; exact (bthen (bthen hbW hb1) hb2).setCell (Nat.le_refl _) _
       clear hW3 q1 q2 q3 q7 q8 q9
       refine (HY.out W3 hB3).mono ?_; rintro e w4 ⟨rfl, hb4⟩
       obtain ⟨k1, k2, k3, k4⟩ := box_at hb4 p1
       obtain ⟨k5, k6, k7, k8⟩ := box_at hb4 p2
       obtain ⟨k9, k10, k11, k12⟩ := box_at hb4 p4))
  have hbw4 : Below w.heap.size w w4 := bthen hbW3 hb4
  have hf : Below w.heap.size w ((((w4.setCell ⟨w.heap.size + 1 + 1, 0, none⟩ (.slice Al x.line.length cl)).setCell ⟨w.heap.size + 1 + 1, 1, none⟩ (.slice Ab x.busy.length cb)).setCell ⟨w.heap.size + 1 + 1, 2, none⟩ (.slice A2 (x.dirty.length + 1) c2)).setCell ⟨w.heap.size + 1 + 1, 3, none⟩ (.bool false)) :=
    (((hbw4.setCell (by show w.heap.size ≤ w.heap.size + 1 + 1; omega) _).setCell (by show w.heap.size ≤ w.heap.size + 1 + 1; omega) _).setCell (by show w.heap.size ≤ w.heap.size + 1 + 1; omega) _).setCell (by show w.heap.size ≤ w.heap.size + 1 + 1; omega) _
  have hD4 : RowP P _ (.slice A2 (x.dirty.length + 1) c2) (x.dirty ++ [k]) := (((((hD3.below hb4).set (r := w.heap.size + 1 + 1) (j := 0) (.slice Al x.line.length cl) (by omega) (by omega)).set (r := w.heap.size + 1 + 1) (j := 1) (.slice Ab x.busy.length cb) (by omega) (by omega)).set (r := w.heap.size + 1 + 1) (j := 2) (.slice A2 (x.dirty.length + 1) c2) (by omega) (by omega)).set (r := w.heap.size + 1 + 1) (j := 3) (.bool false) (by omega) (by omega)).row
  exact bodyPost_ret (v := .tuple #[.agg #[.slice Al x.line.length cl, .slice Ab x.busy.length cb, .slice A2 (x.dirty.length + 1) c2, .bool false], .bool false]) (by simp [results, Try.results20, go_sem, k9]) rfl ⟨_, _, _, rfl, ⟨HR.out.l.below hf, HR.out.b.below hf, hD4⟩, hf⟩
set_option maxRecDepth 100000 in
set_option maxHeartbeats 4000000 in
theorem radd_new (P : Nat → Prop) (vl vb vd : Value) (x : RQ) (k : Ky) (w : World) (hP : ∀ b, w.heap.size ≤ b → P b) (h : RQAt P w vl vb vd x) (hs : x.small 1000000) (ho : x.over = false) (hd : k ∉ x.dirty) (hy : k ∉ x.busy) :
    Calls Try.prog 20 #[.agg #[vl, vb, vd, .bool x.over], .agg #[.int .u64 k.1, .int .u64 k.2]] w (RAddSays P w { x with dirty := x.dirty ++ [k], line := x.line ++ [k] } true) := by
  have HR := Lib.hid h
  obtain ⟨Al, cl, rfl, _⟩ := h.l.1
  obtain ⟨Ab, cb, rfl, _⟩ := h.b.1
  obtain ⟨Ad, cd, rfl, _⟩ := h.d.1
  have Ho := Lib.hid ho
  have Hs := Lib.hid hs
  obtain ⟨W, hW⟩ : ∃ W, W = ((w.alloc (.cells #[.slice Al x.line.length cl, .slice Ab x.busy.length cb, .slice Ad x.dirty.length cd, .bool false] 44)).alloc (.cells #[.int .u64 k.1, .int .u64 k.2] 32)).alloc (.cells #[.slice none 0 0, .slice none 0 0, .slice none 0 0, .bool false] 44) := ⟨_, rfl⟩
  obtain ⟨b0, b1, b2, hsz, hbW⟩ := three_boxes _ _ _ _ W hW
  have HL := Lib.hid (KeysOff.of 3 HR.out.l hbW)
  have HB := Lib.hid (KeysOff.of 3 HR.out.b hbW)
  have HD := Lib.hid (KeysOff.of 3 HR.out.d hbW)
  have HH := Lib.hid (has_any _ _ k W ((HR.out.d.below hbW).keys) hs.d)
  rw [decide_eq_false hd] at HH
  have HY := Lib.hid (fun W' hW' => has_any _ _ k W' (KeysOff.keys (P := P) (n := 3) (H := w.heap.size) (l := x.busy) (v := .slice Ab x.busy.length cb) hW') hs.b)
  rw [decide_eq_false hy] at HY
  clear h hd hy
  rw [ho]
  clear ho
  go_enter Try.func20, Try.ntmps20
  go_wp2_with (first
    | (go_at_call 48; rw [← hW]; refine HH.out.mono ?_; rintro e w1 ⟨rfl, hb1⟩
       obtain ⟨k1, k2, k3, k4⟩ := box_at hb1 b0
       obtain ⟨k5, k6, k7, k8⟩ := box_at hb1 b1
       obtain ⟨k9, k10, k11, k12⟩ := box_at hb1 b2
       have HM := Lib.hid (more_row _ _ k w1 (HD.out.below hb1).keys hs.d)
       have hbw1 := hb1.size
       clear hW)
    | (go_at_call 53; refine HM.out.mono ?_; rintro e w2 ⟨v2, rfl, ho2, hb2⟩
       obtain ⟨A2, c2, rfl⟩ := own_form ho2
       obtain ⟨q1, q2, q3, q4⟩ := box_at hb2 k4
       obtain ⟨q7, q8, q9, q10⟩ := box_at hb2 k8
       have hbw2 := hb2.size
       have q5 := (hb2.block _ (Array.getElem?_eq_some_iff.1 k8).1).trans k8
       have q6 := (hb2.block _ (Array.getElem?_eq_some_iff.1 k12).1).trans k12
       clear k1 k2 k3 k5 k6 k7 k9 k10 k11 HM)
    | (go_at_call 48
       obtain ⟨W3, hW3⟩ : ∃ W3, W3 = w2.setCell ⟨w.heap.size, 2, none⟩ (.slice A2 (x.dirty.length + 1) c2) := ⟨_, rfl⟩
       rw [← hW3]
       obtain ⟨p1, p2, p3⟩ := box_field (i := 2) q4 q5 (by omega) W3 hW3
       obtain ⟨_, p4, _⟩ := box_field (i := 2) q4 q6 (by omega) W3 hW3
       have hB3 : KeysOff P w.heap.size 3 W3 (.slice Ab x.busy.length cb) x.busy := by rw [hW3]; exact ((HB.out.below hb1).below hb2).set _ (Nat.le_refl _) (by omega)
       have hD3 : KeysOff P w.heap.size 3 W3 (.slice A2 (x.dirty.length + 1) c2) (x.dirty ++ [k]) := by rw [hW3, show x.dirty.length + 1 = (x.dirty ++ [k]).length by simp]; exact (KeysOff.own ho2 (by omega) (fun b hb => hP b (by omega))).set _ (Nat.le_refl _) (by omega)
       have hL3 : KeysOff P w.heap.size 3 W3 (.slice Al x.line.length cl) x.line := by rw [hW3]; exact ((HL.out.below hb1).below hb2).set _ (Nat.le_refl _) (by omega)
       have hbW3 : Below w.heap.size w W3 := by rw [hW3]; exact (bthen (bthen hbW hb1) hb2).setCell (Nat.le_refl _) _
       clear hW3 q1 q2 q3 q7 q8 q9
       refine (HY.out W3 hB3).mono ?_; rintro e w4 ⟨rfl, hb4⟩
       obtain ⟨k1, k2, k3, k4⟩ := box_at hb4 p1
       obtain ⟨k5, k6, k7, k8⟩ := box_at hb4 p2
       obtain ⟨k9, k10, k11, k12⟩ := box_at hb4 p4
       have HM5 := Lib.hid (more_row _ _ k w4 (hL3.below hb4).keys hs.l)
       have hbw4 := hb4.size)
    | (go_at_call 53; refine HM5.out.mono ?_; rintro e w5 ⟨v5, rfl, ho5, hb5⟩
       obtain ⟨A5, c5, rfl⟩ := own_form ho5
       obtain ⟨r1, r2, r3, r4⟩ := box_at hb5 k4
       obtain ⟨r5, r6, r7, r8⟩ := box_at hb5 k12
       clear k1 k2 k3 k5 k6 k7 k9 k10 k11))
  have hbw5 : Below w.heap.size w w5 := bthen (bthen hbW3 hb4) hb5
  have hf0 : Below w.heap.size w (w5.setCell ⟨w.heap.size, 0, none⟩ (.slice A5 (x.line.length + 1) c5)) := hbw5.setCell (Nat.le_refl _) _
  have hf := below4 (B := w.heap.size + 1 + 1) hf0 (by omega) (.slice A5 (x.line.length + 1) c5) (.slice Ab x.busy.length cb) (.slice A2 (x.dirty.length + 1) c2) (.bool false)
  have hD5 := (((hD3.below hb4).below hb5).set (r := w.heap.size) (j := 0) (.slice A5 (x.line.length + 1) c5) (by omega) (by omega)).set4 (B := w.heap.size + 1 + 1) (by omega) (by omega) (.slice A5 (x.line.length + 1) c5) (.slice Ab x.busy.length cb) (.slice A2 (x.dirty.length + 1) c2) (.bool false)
  have hL5 : KeysOff P w.heap.size 3 w5 (.slice A5 (x.line.length + 1) c5) (x.line ++ [k]) := by rw [show x.line.length + 1 = (x.line ++ [k]).length by simp]; exact KeysOff.own ho5 (by omega) (fun b hb => hP b (by omega))
  have hL6 := (hL5.set (r := w.heap.size) (j := 0) (.slice A5 (x.line.length + 1) c5) (by omega) (by omega)).set4 (B := w.heap.size + 1 + 1) (by omega) (by omega) (.slice A5 (x.line.length + 1) c5) (.slice Ab x.busy.length cb) (.slice A2 (x.dirty.length + 1) c2) (.bool false)
  exact bodyPost_ret (v := .tuple #[.agg #[.slice A5 (x.line.length + 1) c5, .slice Ab x.busy.length cb, .slice A2 (x.dirty.length + 1) c2, .bool false], .bool true]) (by simp [results, Try.results20, go_sem, r5]) rfl ⟨_, _, _, rfl, ⟨hL6.row, HR.out.b.below hf, hD5.row⟩, hf⟩

theorem radd_any (P : Nat → Prop) (vl vb vd : Value) (x : RQ) (k : Ky) (w : World) (hP : ∀ b, w.heap.size ≤ b → P b) (h : RQAt P w vl vb vd x) (hs : x.small 1000000) :
    Calls Try.prog 20 #[.agg #[vl, vb, vd, .bool x.over], .agg #[.int .u64 k.1, .int .u64 k.2]] w (RAddSays P w (addR x k).1 (addR x k).2) := by
  unfold addR
  by_cases ho : x.over = true
  · rw [if_pos (.inl ho)]; exact radd_over P vl vb vd x k w hP h ho
  · have ho' : x.over = false := by simpa using ho
    by_cases hd : k ∈ x.dirty
    · rw [if_pos (.inr hd)]; exact radd_there P vl vb vd x k w hP h hs ho' hd
    · rw [if_neg (by simp [hd, ho])]
      by_cases hy : k ∈ x.busy
      · rw [if_pos hy]; exact radd_busy P vl vb vd x k w hP h hs ho' hd hy
      · rw [if_neg hy]; exact radd_new P vl vb vd x k w hP h hs ho' hd hy

/-! ### Done -/
def doneR (x : RQ) (k : Ky) : RQ × Bool × Bool :=
  if k ∉ x.busy then (x, false, false)
  else if k ∈ x.dirty then ({ x with busy := lessL x.busy k, line := x.line ++ [k] }, true, true)
  else ({ x with busy := lessL x.busy k }, false, true)

/-- What a call of Done says. -/
def RDoneSays (P : Nat → Prop) (w : World) (r : RQ × Bool × Bool) (e : Ending) (w' : World) : Prop :=
  ∃ vl vb vd, e = .returned (.tuple #[.agg #[vl, vb, vd, .bool r.1.over], .bool r.2.1, .bool r.2.2]) ∧ RQAt P w' vl vb vd r.1 ∧ Below w.heap.size w w'

set_option maxRecDepth 100000 in
set_option maxHeartbeats 4000000 in
theorem rdone_not (P : Nat → Prop) (vl vb vd : Value) (x : RQ) (k : Ky) (w : World) (hP : ∀ b, w.heap.size ≤ b → P b) (h : RQAt P w vl vb vd x) (hs : x.small 1000000) (hy : k ∉ x.busy) :
    Calls Try.prog 19 #[.agg #[vl, vb, vd, .bool x.over], .agg #[.int .u64 k.1, .int .u64 k.2]] w (RDoneSays P w (x, false, false)) := by
  have HR := Lib.hid h
  obtain ⟨Al, cl, rfl, _⟩ := h.l.1
  obtain ⟨Ab, cb, rfl, _⟩ := h.b.1
  obtain ⟨Ad, cd, rfl, _⟩ := h.d.1
  obtain ⟨W, hW⟩ : ∃ W, W = ((w.alloc (.cells #[.slice Al x.line.length cl, .slice Ab x.busy.length cb, .slice Ad x.dirty.length cd, .bool x.over] 44)).alloc (.cells #[.int .u64 k.1, .int .u64 k.2] 32)).alloc (.cells #[.slice none 0 0, .slice none 0 0, .slice none 0 0, .bool false] 44) := ⟨_, rfl⟩
  obtain ⟨b0, b1, b2, hsz, hbW⟩ := three_boxes _ _ _ _ W hW
  have HH := Lib.hid (has_any _ _ k W ((HR.out.b.below hbW).keys) hs.b)
  rw [decide_eq_false hy] at HH
  clear h hs hy
  go_enter Try.func19, Try.ntmps19
  go_wp2_with (go_at_call 48; rw [← hW]; refine HH.out.mono ?_; rintro e w1 ⟨rfl, hb1⟩; obtain ⟨k1, k2, k3, k4⟩ := box_at hb1 b0; obtain ⟨k5, k6, k7, k8⟩ := box_at hb1 b2; have hbw : Below w.heap.size w w1 := bthen hbW hb1)
  have hf := below4 (B := w.heap.size + 1 + 1) hbw (by omega) (.slice Al x.line.length cl) (.slice Ab x.busy.length cb) (.slice Ad x.dirty.length cd) (.bool x.over)
  exact bodyPost_ret (v := .tuple #[.agg #[.slice Al x.line.length cl, .slice Ab x.busy.length cb, .slice Ad x.dirty.length cd, .bool x.over], .bool false, .bool false]) (by simp [results, Try.results19, go_sem, k5]) rfl ⟨_, _, _, rfl, HR.out.below hf, hf⟩

set_option maxRecDepth 100000 in
set_option maxHeartbeats 4000000 in
theorem rdone_off (P : Nat → Prop) (vl vb vd : Value) (x : RQ) (k : Ky) (w : World) (hP : ∀ b, w.heap.size ≤ b → P b) (h : RQAt P w vl vb vd x) (hs : x.small 1000000) (hy : k ∈ x.busy) (hd : k ∉ x.dirty) :
    Calls Try.prog 19 #[.agg #[vl, vb, vd, .bool x.over], .agg #[.int .u64 k.1, .int .u64 k.2]] w (RDoneSays P w ({ x with busy := lessL x.busy k }, false, true)) := by
  have HR := Lib.hid h
  obtain ⟨Al, cl, rfl, _⟩ := h.l.1
  obtain ⟨Ab, cb, rfl, _⟩ := h.b.1
  obtain ⟨Ad, cd, rfl, _⟩ := h.d.1
  have Hs := Lib.hid hs
  obtain ⟨W, hW⟩ : ∃ W, W = ((w.alloc (.cells #[.slice Al x.line.length cl, .slice Ab x.busy.length cb, .slice Ad x.dirty.length cd, .bool x.over] 44)).alloc (.cells #[.int .u64 k.1, .int .u64 k.2] 32)).alloc (.cells #[.slice none 0 0, .slice none 0 0, .slice none 0 0, .bool false] 44) := ⟨_, rfl⟩
  obtain ⟨b0, b1, b2, hsz, hbW⟩ := three_boxes _ _ _ _ W hW
  have HL := Lib.hid (KeysOff.of 3 HR.out.l hbW)
  have HB := Lib.hid (KeysOff.of 3 HR.out.b hbW)
  have HD := Lib.hid (KeysOff.of 3 HR.out.d hbW)
  have HH := Lib.hid (has_any _ _ k W ((HR.out.b.below hbW).keys) hs.b)
  rw [decide_eq_true hy] at HH
  have HY := Lib.hid (fun W' hW' => has_any _ _ k W' (KeysOff.keys (P := P) (n := 3) (H := w.heap.size) (l := x.dirty) (v := .slice Ad x.dirty.length cd) hW') hs.d)
  rw [decide_eq_false hd] at HY
  clear h hd hy
  go_enter Try.func19, Try.ntmps19
  go_wp2_with (first
    | (go_at_call 48; rw [← hW]; refine HH.out.mono ?_; rintro e w1 ⟨rfl, hb1⟩
       obtain ⟨k1, k2, k3, k4⟩ := box_at hb1 b0
       obtain ⟨k5, k6, k7, k8⟩ := box_at hb1 b1
       obtain ⟨k9, k10, k11, k12⟩ := box_at hb1 b2
       have HM := Lib.hid (less_row _ _ k w1 (HB.out.below hb1).keys hs.b)
       have hbw1 := hb1.size
       clear hW)
    | (go_at_call 52; refine HM.out.mono ?_; rintro e w2 ⟨v2, rfl, ho2, hb2⟩
       obtain ⟨A2, c2, rfl⟩ := own_form ho2
       obtain ⟨q1, q2, q3, q4⟩ := box_at hb2 k4
       obtain ⟨q7, q8, q9, q10⟩ := box_at hb2 k8
       have hbw2 := hb2.size
       have q5 := (hb2.block _ (Array.getElem?_eq_some_iff.1 k8).1).trans k8
       have q6 := (hb2.block _ (Array.getElem?_eq_some_iff.1 k12).1).trans k12
       clear k1 k2 k3 k5 k6 k7 k9 k10 k11 HM)
    | (go_at_call 48
       obtain ⟨W3, hW3⟩ : ∃ W3, W3 = w2.setCell ⟨w.heap.size, 1, none⟩ (.slice A2 (lessL x.busy k).length c2) := ⟨_, rfl⟩
       rw [← hW3]
       obtain ⟨p1, p2, p3⟩ := box_field (i := 1) q4 q5 (by omega) W3 hW3
       obtain ⟨_, p4, _⟩ := box_field (i := 1) q4 q6 (by omega) W3 hW3
       have hD3 : KeysOff P w.heap.size 3 W3 (.slice Ad x.dirty.length cd) x.dirty := by rw [hW3]; exact ((HD.out.below hb1).below hb2).set _ (Nat.le_refl _) (by omega)
       have hB3 : KeysOff P w.heap.size 3 W3 (.slice A2 (lessL x.busy k).length c2) (lessL x.busy k) := by rw [hW3]; exact (KeysOff.own ho2 (by omega) (fun b hb => hP b (by omega))).set _ (Nat.le_refl _) (by omega)
       have hL3 : KeysOff P w.heap.size 3 W3 (.slice Al x.line.length cl) x.line := by rw [hW3]; exact ((HL.out.below hb1).below hb2).set _ (Nat.le_refl _) (by omega)
       have hbW3 : Below w.heap.size w W3 := by rw [hW3]; exact (bthen (bthen hbW hb1) hb2).setCell (Nat.le_refl _) _
       clear hW3 q1 q2 q3 q7 q8 q9
       refine (HY.out W3 hD3).mono ?_; rintro e w4 ⟨rfl, hb4⟩
       obtain ⟨k1, k2, k3, k4⟩ := box_at hb4 p1
       obtain ⟨k5, k6, k7, k8⟩ := box_at hb4 p2
       obtain ⟨k9, k10, k11, k12⟩ := box_at hb4 p4))
  have hbw4 : Below w.heap.size w w4 := bthen hbW3 hb4
  have hf := below4 (B := w.heap.size + 1 + 1) hbw4 (by omega) (.slice Al x.line.length cl) (.slice A2 (lessL x.busy k).length c2) (.slice Ad x.dirty.length cd) (.bool x.over)
  have hB4 := (hB3.below hb4).set4 (B := w.heap.size + 1 + 1) (by omega) (by omega) (.slice Al x.line.length cl) (.slice A2 (lessL x.busy k).length c2) (.slice Ad x.dirty.length cd) (.bool x.over)
  exact bodyPost_ret (v := .tuple #[.agg #[.slice Al x.line.length cl, .slice A2 (lessL x.busy k).length c2, .slice Ad x.dirty.length cd, .bool x.over], .bool false, .bool true]) (by simp [results, Try.results19, go_sem, k9]) rfl ⟨_, _, _, rfl, ⟨HR.out.l.below hf, hB4.row, HR.out.d.below hf⟩, hf⟩
set_option maxRecDepth 100000 in
set_option maxHeartbeats 4000000 in
theorem rdone_on (P : Nat → Prop) (vl vb vd : Value) (x : RQ) (k : Ky) (w : World) (hP : ∀ b, w.heap.size ≤ b → P b) (h : RQAt P w vl vb vd x) (hs : x.small 1000000) (hy : k ∈ x.busy) (hd : k ∈ x.dirty) :
    Calls Try.prog 19 #[.agg #[vl, vb, vd, .bool x.over], .agg #[.int .u64 k.1, .int .u64 k.2]] w (RDoneSays P w ({ x with busy := lessL x.busy k, line := x.line ++ [k] }, true, true)) := by
  have HR := Lib.hid h
  obtain ⟨Al, cl, rfl, _⟩ := h.l.1
  obtain ⟨Ab, cb, rfl, _⟩ := h.b.1
  obtain ⟨Ad, cd, rfl, _⟩ := h.d.1
  have Hs := Lib.hid hs
  obtain ⟨W, hW⟩ : ∃ W, W = ((w.alloc (.cells #[.slice Al x.line.length cl, .slice Ab x.busy.length cb, .slice Ad x.dirty.length cd, .bool x.over] 44)).alloc (.cells #[.int .u64 k.1, .int .u64 k.2] 32)).alloc (.cells #[.slice none 0 0, .slice none 0 0, .slice none 0 0, .bool false] 44) := ⟨_, rfl⟩
  obtain ⟨b0, b1, b2, hsz, hbW⟩ := three_boxes _ _ _ _ W hW
  have HL := Lib.hid (KeysOff.of 3 HR.out.l hbW)
  have HB := Lib.hid (KeysOff.of 3 HR.out.b hbW)
  have HD := Lib.hid (KeysOff.of 3 HR.out.d hbW)
  have HH := Lib.hid (has_any _ _ k W ((HR.out.b.below hbW).keys) hs.b)
  rw [decide_eq_true hy] at HH
  have HY := Lib.hid (fun W' hW' => has_any _ _ k W' (KeysOff.keys (P := P) (n := 3) (H := w.heap.size) (l := x.dirty) (v := .slice Ad x.dirty.length cd) hW') hs.d)
  rw [decide_eq_true hd] at HY
  clear h hd hy
  go_enter Try.func19, Try.ntmps19
  go_wp2_with (first
    | (go_at_call 48; rw [← hW]; refine HH.out.mono ?_; rintro e w1 ⟨rfl, hb1⟩
       obtain ⟨k1, k2, k3, k4⟩ := box_at hb1 b0
       obtain ⟨k5, k6, k7, k8⟩ := box_at hb1 b1
       obtain ⟨k9, k10, k11, k12⟩ := box_at hb1 b2
       have HM := Lib.hid (less_row _ _ k w1 (HB.out.below hb1).keys hs.b)
       have hbw1 := hb1.size
       clear hW)
    | (go_at_call 52; refine HM.out.mono ?_; rintro e w2 ⟨v2, rfl, ho2, hb2⟩
       obtain ⟨A2, c2, rfl⟩ := own_form ho2
       obtain ⟨q1, q2, q3, q4⟩ := box_at hb2 k4
       obtain ⟨q7, q8, q9, q10⟩ := box_at hb2 k8
       have hbw2 := hb2.size
       have q5 := (hb2.block _ (Array.getElem?_eq_some_iff.1 k8).1).trans k8
       have q6 := (hb2.block _ (Array.getElem?_eq_some_iff.1 k12).1).trans k12
       clear k1 k2 k3 k5 k6 k7 k9 k10 k11 HM)
    | (go_at_call 48
       obtain ⟨W3, hW3⟩ : ∃ W3, W3 = w2.setCell ⟨w.heap.size, 1, none⟩ (.slice A2 (lessL x.busy k).length c2) := ⟨_, rfl⟩
       rw [← hW3]
       obtain ⟨p1, p2, p3⟩ := box_field (i := 1) q4 q5 (by omega) W3 hW3
       obtain ⟨_, p4, _⟩ := box_field (i := 1) q4 q6 (by omega) W3 hW3
       have hD3 : KeysOff P w.heap.size 3 W3 (.slice Ad x.dirty.length cd) x.dirty := by rw [hW3]; exact ((HD.out.below hb1).below hb2).set _ (Nat.le_refl _) (by omega)
       have hB3 : KeysOff P w.heap.size 3 W3 (.slice A2 (lessL x.busy k).length c2) (lessL x.busy k) := by rw [hW3]; exact (KeysOff.own ho2 (by omega) (fun b hb => hP b (by omega))).set _ (Nat.le_refl _) (by omega)
       have hL3 : KeysOff P w.heap.size 3 W3 (.slice Al x.line.length cl) x.line := by rw [hW3]; exact ((HL.out.below hb1).below hb2).set _ (Nat.le_refl _) (by omega)
       have hbW3 : Below w.heap.size w W3 := by rw [hW3]; exact (bthen (bthen hbW hb1) hb2).setCell (Nat.le_refl _) _
       clear hW3 q1 q2 q3 q7 q8 q9
       refine (HY.out W3 hD3).mono ?_; rintro e w4 ⟨rfl, hb4⟩
       obtain ⟨k1, k2, k3, k4⟩ := box_at hb4 p1
       obtain ⟨k5, k6, k7, k8⟩ := box_at hb4 p2
       obtain ⟨k9, k10, k11, k12⟩ := box_at hb4 p4
       have HM5 := Lib.hid (more_row _ _ k w4 (hL3.below hb4).keys hs.l)
       have hbw4 := hb4.size)
    | (go_at_call 53; refine HM5.out.mono ?_; rintro e w5 ⟨v5, rfl, ho5, hb5⟩
       obtain ⟨A5, c5, rfl⟩ := own_form ho5
       obtain ⟨r1, r2, r3, r4⟩ := box_at hb5 k4
       obtain ⟨r5, r6, r7, r8⟩ := box_at hb5 k12
       clear k1 k2 k3 k5 k6 k7 k9 k10 k11))
  have hbw5 : Below w.heap.size w w5 := bthen (bthen hbW3 hb4) hb5
  have hf0 : Below w.heap.size w (w5.setCell ⟨w.heap.size, 0, none⟩ (.slice A5 (x.line.length + 1) c5)) := hbw5.setCell (Nat.le_refl _) _
  have hf := below4 (B := w.heap.size + 1 + 1) hf0 (by omega) (.slice A5 (x.line.length + 1) c5) (.slice A2 (lessL x.busy k).length c2) (.slice Ad x.dirty.length cd) (.bool x.over)
  have hB5 := (((hB3.below hb4).below hb5).set (r := w.heap.size) (j := 0) (.slice A5 (x.line.length + 1) c5) (by omega) (by omega)).set4 (B := w.heap.size + 1 + 1) (by omega) (by omega) (.slice A5 (x.line.length + 1) c5) (.slice A2 (lessL x.busy k).length c2) (.slice Ad x.dirty.length cd) (.bool x.over)
  have hL5 : KeysOff P w.heap.size 3 w5 (.slice A5 (x.line.length + 1) c5) (x.line ++ [k]) := by rw [show x.line.length + 1 = (x.line ++ [k]).length by simp]; exact KeysOff.own ho5 (by omega) (fun b hb => hP b (by omega))
  have hL6 := (hL5.set (r := w.heap.size) (j := 0) (.slice A5 (x.line.length + 1) c5) (by omega) (by omega)).set4 (B := w.heap.size + 1 + 1) (by omega) (by omega) (.slice A5 (x.line.length + 1) c5) (.slice A2 (lessL x.busy k).length c2) (.slice Ad x.dirty.length cd) (.bool x.over)
  exact bodyPost_ret (v := .tuple #[.agg #[.slice A5 (x.line.length + 1) c5, .slice A2 (lessL x.busy k).length c2, .slice Ad x.dirty.length cd, .bool x.over], .bool true, .bool true]) (by simp [results, Try.results19, go_sem, r5]) rfl ⟨_, _, _, rfl, ⟨hL6.row, hB5.row, HR.out.d.below hf⟩, hf⟩

theorem rdone_any (P : Nat → Prop) (vl vb vd : Value) (x : RQ) (k : Ky) (w : World) (hP : ∀ b, w.heap.size ≤ b → P b) (h : RQAt P w vl vb vd x) (hs : x.small 1000000) :
    Calls Try.prog 19 #[.agg #[vl, vb, vd, .bool x.over], .agg #[.int .u64 k.1, .int .u64 k.2]] w (RDoneSays P w (doneR x k)) := by
  unfold doneR
  by_cases hy : k ∈ x.busy
  · rw [if_neg (by simpa using hy)]
    by_cases hd : k ∈ x.dirty
    · rw [if_pos hd]; exact rdone_on P vl vb vd x k w hP h hs hy hd
    · rw [if_neg hd]; exact rdone_off P vl vb vd x k w hP h hs hy hd
  · rw [if_pos hy]; exact rdone_not P vl vb vd x k w hP h hs hy
end Go.Proofs.Ytfnabpmdjfejbaa
