/- The reference's queue: Add, Get, Done. -/
import Derived.Test.YtmniiodpbebnmaaGreatC04
namespace Go.Proofs.YtmniiodpbebnmaaGreat

section
set_option linter.unusedSimpArgs false
set_option linter.unusedVariables false
open Go.RowKit Go.Lib

structure RQ where
  line : List Ky
  busy : List Ky
  dirty : List Ky
  over : Bool

/-- Keys in a row whose block may be. -/
def RowP (P : Nat → Prop) (w : World) (v : Value) (l : List Ky) : Prop :=
  RowIn 2 keyC w v l ∧ ∀ b o n c, v = .slice (some ⟨b, o, none⟩) n c → 0 < l.length → P b
theorem RowP.below {P : Nat → Prop} {w w' : World} {v : Value} {l : List Ky} (h : RowP P w v l) (hb : Below w.heap.size w w') : RowP P w' v l := ⟨h.1.below hb, h.2⟩
theorem RowP.keys {P : Nat → Prop} {w : World} {v : Value} {l : List Ky} (h : RowP P w v l) : KeysIn w v l := keysIn_row h.1

/-- Keys that lie outside the blocks H to H + n. -/
def KeysOff (P : Nat → Prop) (H n : Nat) (w : World) (v : Value) (l : List Ky) : Prop :=
  ∃ A c, v = .slice A l.length c ∧ l.length ≤ c ∧ (0 < l.length → ∃ b o, A = some ⟨b, o, none⟩ ∧ b < w.heap.size ∧ (P b ∧ (b < H ∨ H + n ≤ b)) ∧ ∀ j u, (cellsK l)[j]? = some u → w.cell? ⟨b, o + j, none⟩ = some u)
theorem KeysOff.keys {P : Nat → Prop} {H n : Nat} {w : World} {v : Value} {l : List Ky} (h : KeysOff P H n w v l) : KeysIn w v l := by
  obtain ⟨A, c, hv, _, h⟩ := h
  refine ⟨A, c, hv, fun hn => ?_⟩
  obtain ⟨b, o, hA, hlt, _, hc⟩ := h hn
  exact ⟨b, o, hA, hlt, hc⟩
theorem KeysOff.row {P : Nat → Prop} {H n : Nat} {w : World} {v : Value} {l : List Ky} (h : KeysOff P H n w v l) : RowP P w v l := by
  have hk := h.keys
  obtain ⟨A, c, rfl, hc, h⟩ := h
  refine ⟨row_keysIn hk hc, fun b o n' c' e hn => ?_⟩
  obtain ⟨b', o', hA, _, ⟨hP, _⟩, _⟩ := h hn
  injection e with e1 _ _
  rw [hA] at e1
  injection e1 with e1
  injection e1 with e1
  rw [← e1]
  exact hP
theorem KeysOff.below {P : Nat → Prop} {H n : Nat} {w w' : World} {v : Value} {l : List Ky} (h : KeysOff P H n w v l) (hb : Below w.heap.size w w') : KeysOff P H n w' v l := by
  obtain ⟨A, c, hv, hl, h⟩ := h
  refine ⟨A, c, hv, hl, fun hn => ?_⟩
  obtain ⟨b, o, hA, hlt, ho, hc⟩ := h hn
  exact ⟨b, o, hA, Nat.lt_of_lt_of_le hlt hb.size, ho, fun j u hu => (hb.cell (p := ⟨b, _, none⟩) hlt).trans (hc j u hu)⟩
theorem KeysOff.set {P : Nat → Prop} {H n : Nat} {w : World} {v : Value} {l : List Ky} (h : KeysOff P H n w v l) {r j : Nat} (u : Value) (hr : H ≤ r) (hr' : r < H + n) : KeysOff P H n (w.setCell ⟨r, j, none⟩ u) v l := by
  obtain ⟨A, c, hv, hl, h⟩ := h
  refine ⟨A, c, hv, hl, fun hn => ?_⟩
  obtain ⟨b, o, hA, hlt, ho, hc⟩ := h hn
  exact ⟨b, o, hA, by simpa [World.setCell] using hlt, ho, fun j u hu => (World.cell?_setCell_other _ _ _ _ (fun e => by injection e with e _ _; omega)).trans (hc j u hu)⟩
theorem KeysOff.of {P : Nat → Prop} {w W : World} {v : Value} {l : List Ky} (n : Nat) (hp : RowP P w v l) (hb : Below w.heap.size w W) : KeysOff P w.heap.size n W v l := by
  obtain ⟨h, hP⟩ := hp
  have hk := keysIn_row h
  obtain ⟨A, c, rfl, hl, _⟩ := h
  obtain ⟨A1, c1, hv, h⟩ := hk
  injection hv with e1 _ _
  subst e1
  refine ⟨A, c, rfl, hl, fun hn => ?_⟩
  obtain ⟨b, o, hA, hlt, hc⟩ := h hn
  exact ⟨b, o, hA, Nat.lt_of_lt_of_le hlt hb.size, ⟨hP b o _ _ (by rw [hA]) hn, .inl hlt⟩, fun j u hu => (hb.cell (p := ⟨b, _, none⟩) hlt).trans (hc j u hu)⟩
theorem KeysOff.own {P : Nat → Prop} {H n : Nat} {w : World} {base : Nat} {e : TypeId} {v : Value} {l : List Ky} (h : w.ownsRow base e 2 v l.length (cellsOfRow keyC l)) (hb : H + n ≤ base) (hP : ∀ b, base ≤ b → P b) : KeysOff P H n w v l := by
  obtain ⟨A0, c0, hv0, hcap, _⟩ := RowIn.own (f := keyC) (n := 2) (fun _ => rfl) h
  obtain ⟨A, c, hv, hk⟩ := KeysIn.own h
  have hcc : l.length ≤ c := by
    rw [hv] at hv0
    injection hv0 with _ _ e3
    omega
  refine ⟨A, c, hv, hcc, fun hn => ?_⟩
  obtain ⟨b, o, hA, hlt, hc⟩ := hk hn
  have hbb : base ≤ b := by
    rcases h.2 with ⟨_, h0⟩ | ⟨g, cap, cur, hv', hg, _⟩
    · omega
    · rw [hv] at hv'
      injection hv' with e1 _ _
      rw [hA] at e1
      injection e1 with e1
      injection e1 with e1
      omega
  exact ⟨b, o, hA, hlt, ⟨hP b hbb, .inr (by omega)⟩, hc⟩
theorem KeysOff.form {P : Nat → Prop} {H n : Nat} {w : World} {v : Value} {l : List Ky} (h : KeysOff P H n w v l) : ∃ A c, v = .slice A l.length c := by
  obtain ⟨A, c, hv, _⟩ := h
  exact ⟨A, c, hv⟩

structure RQAt (P : Nat → Prop) (w : World) (vl vb vd : Value) (x : RQ) : Prop where
  l : RowP P w vl x.line
  b : RowP P w vb x.busy
  d : RowP P w vd x.dirty
theorem RQAt.below {P : Nat → Prop} {w w' : World} {vl vb vd : Value} {x : RQ} (h : RQAt P w vl vb vd x) (hb : Below w.heap.size w w') : RQAt P w' vl vb vd x := ⟨h.l.below hb, h.b.below hb, h.d.below hb⟩
structure RQ.small (x : RQ) (n : Nat) : Prop where
  l : x.line.length ≤ n
  b : x.busy.length ≤ n
  d : x.dirty.length ≤ n

theorem setCell_block {w : World} {B i : Nat} {cs : Array Value} {T : TypeId} {fr : Nat × Nat} {v : Value} (h : w.heap[B]? = some (.cells cs T fr)) : (w.setCell ⟨B, i, none⟩ v).heap[B]? = some (.cells (cs.setIfInBounds i v) T fr) := by
  obtain ⟨hlt, hk⟩ := Array.getElem?_eq_some_iff.1 h
  show (w.heap.modify B _)[B]? = _
  rw [Array.getElem?_eq_getElem (by rw [Array.size_modify]; exact hlt), Array.getElem_modify_self, hk]
  simp

theorem below4 {w a : World} {B : Nat} (h : Below w.heap.size w a) (hB : w.heap.size ≤ B) (v0 v1 v2 v3 : Value) : Below w.heap.size w ((((a.setCell ⟨B, 0, none⟩ v0).setCell ⟨B, 1, none⟩ v1).setCell ⟨B, 2, none⟩ v2).setCell ⟨B, 3, none⟩ v3) :=
  (((h.setCell hB _).setCell hB _).setCell hB _).setCell hB _
/-! ### Done -/
end

end Go.Proofs.YtmniiodpbebnmaaGreat
