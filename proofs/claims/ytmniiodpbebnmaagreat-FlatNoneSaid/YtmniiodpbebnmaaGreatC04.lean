/- workq's Queue in memory; A world gets a name; workq's Add, walked; The reference's Has, Less, More; The reference's queue: Add, Get, Done. -/
import Derived.Test.YtmniiodpbebnmaaGreatC03
import Derived.DeepKeys5
import Derived.ChangeMaps5
import Derived.Test.YtmniiodpbebnmaaGreatC01
import Derived.Test.YtmniiodpbebnmaaGreatC02
namespace Go.Proofs.YtmniiodpbebnmaaGreat

section
set_option linter.unusedSimpArgs false
set_option linter.unusedVariables false
open Go.RowKit Go.Lib
open Go.ChangeMaps (setBlock)
open Go.Maps (Keyed)

/-- A key that a word holds. -/
abbrev KO := { p : Ky // p.ok }
def koV (x : KO) : Value := .agg #[.int .u64 x.1.1, .int .u64 x.1.2]
def one1 (_ : Unit) : Value := .int .i64 1

/-! ### Sets of keys -/
def setL (l : List KO) : List (KO × Unit) := l.map fun x => (x, ())
def SetIn (w : World) (d : Nat) (l : List KO) : Prop := MapIn koV one1 w d (setL l)
/-- A set in a field: nil, or a map. -/
def SetAt (w : World) (m : Option Nat) (l : List KO) : Prop := match m with
  | none => l = []
  | some d => SetIn w d l
theorem SetIn.lt {w : World} {d : Nat} {l : List KO} (h : SetIn w d l) : d < w.heap.size := MapIn.lt h
theorem SetIn.nodup {w : World} {d : Nat} {l : List KO} (h : SetIn w d l) : l.Nodup := by
  obtain ⟨_, _, _, _, _, _, hn⟩ := h
  simpa [setL, List.map_map, Function.comp_def] using hn
theorem SetAt.nodup {w : World} {m : Option Nat} {l : List KO} (h : SetAt w m l) : l.Nodup := by
  cases m with
  | none => rw [show l = [] from h]; exact List.nodup_nil
  | some d => exact SetIn.nodup h
theorem SetAt.block {w w' : World} {m : Option Nat} {l : List KO} (h : SetAt w m l) (hb : ∀ d, m = some d → w'.heap[d]? = w.heap[d]?) : SetAt w' m l := by
  cases m with
  | none => exact h
  | some d => exact MapIn.block h (hb d rfl)
def bit (b : Bool) : Int := if b then 1 else 0
/-! ### The queue -/
structure QSt where
  front : List KO
  back : List KO
  dirty : List KO
  busy : List KO
  over : Bool
def kys (l : List KO) : List Ky := l.map (·.1)
structure QAt (w : World) (g o : Nat) (st : QSt) (vf vb : Value) (md mb : Option Nat) (B : Nat → Prop) : Prop where
  line : FIn w g o vf vb (kys st.front) (kys st.back)
  cd : w.cell? ⟨g, o + 2, none⟩ = some (.map md)
  cb : w.cell? ⟨g, o + 3, none⟩ = some (.map mb)
  co : w.cell? ⟨g, o + 4, none⟩ = some (.bool st.over)
  fd : w.frozen? ⟨g, o + 2, none⟩ = false
  fb : w.frozen? ⟨g, o + 3, none⟩ = false
  fo : w.frozen? ⟨g, o + 4, none⟩ = false
  dn : SetAt w md st.dirty
  bn : SetAt w mb st.busy
  both : md = none ↔ mb = none
  apart : ∀ d, md = some d → mb ≠ some d
  inf : ∀ r, vf.ownBlock = some r → B r
  inb : ∀ r, vb.ownBlock = some r → B r
  ind : ∀ r, md = some r → B r
  inz : ∀ r, mb = some r → B r
  low : ∀ k, B k → k < w.heap.size
  notg : ¬ B g
  mt : md = none → st.front = [] ∧ st.back = []
theorem QAt.lt {w : World} {g o : Nat} {st : QSt} {vf vb : Value} {md mb : Option Nat} {B : Nat → Prop} (h : QAt w g o st vf vb md mb B) : g < w.heap.size := h.line.lt
/-- The queue stands where its own cells and blocks do. -/
theorem QAt.keep {w w' : World} {g o : Nat} {st : QSt} {vf vb : Value} {md mb : Option Nat} {B : Nat → Prop} (h : QAt w g o st vf vb md mb B)
    (hc : ∀ j, w'.cell? ⟨g, j, none⟩ = w.cell? ⟨g, j, none⟩) (hf : ∀ j, w'.frozen? ⟨g, j, none⟩ = w.frozen? ⟨g, j, none⟩) (hb : ∀ k, B k → w'.heap[k]? = w.heap[k]?) (hs : w.heap.size ≤ w'.heap.size) : QAt w' g o st vf vb md mb B :=
  ⟨h.line.keep hc hf (fun r hr => hb r (hr.elim (h.inf r) (h.inb r))), (hc _).trans h.cd, (hc _).trans h.cb, (hc _).trans h.co, (hf _).trans h.fd, (hf _).trans h.fb, (hf _).trans h.fo,
    h.dn.block (fun d e => hb d (h.ind d e)), h.bn.block (fun d e => hb d (h.inz d e)), h.both, h.apart, h.inf, h.inb, h.ind, h.inz, fun k hk => Nat.lt_of_lt_of_le (h.low k hk) hs, h.notg, h.mt⟩
theorem QAt.below {w w' : World} {g o : Nat} {st : QSt} {vf vb : Value} {md mb : Option Nat} {B : Nat → Prop} (h : QAt w g o st vf vb md mb B) (hb : Below w.heap.size w w') : QAt w' g o st vf vb md mb B :=
  h.keep (fun j => hb.cell (p := ⟨g, j, none⟩) h.lt) (fun j => hb.frozen (p := ⟨g, j, none⟩) h.lt) (fun k hk => hb.block k (h.low k hk)) hb.size

theorem setBlock_other {w : World} {d k : Nat} {o : Obj} (h : k ≠ d) : (setBlock w d o).heap[k]? = w.heap[k]? := by
  simp [setBlock, Array.getElem?_setIfInBounds, Ne.symm h]
theorem setBlock_size {w : World} {d : Nat} {o : Obj} : (setBlock w d o).heap.size = w.heap.size := by simp [setBlock]
theorem OwnK.cells {w : World} {v : Value} {l : List Ky} (h : OwnK w v l) {r : Nat} (hr : v.ownBlock = some r) : ∃ cs e fr, w.heap[r]? = some (.cells cs e fr) := by
  rcases h.2 with ⟨hv, _⟩ | ⟨g, cap, cur, hv, _, hg, _⟩
  · rw [hv] at hr; cases hr
  · rw [hv] at hr
    obtain rfl : g = r := by simpa [Value.ownBlock] using hr
    exact ⟨_, _, _, hg⟩
theorem setCell_heap_map {w : World} {a : Addr} {v : Value} {d : Nat} (h : d ≠ a.block) : (w.setCell a v).heap[d]? = w.heap[d]? := Below.heap_setCell _ _ _ _ h
/-- Two maps are made, and laid into the fields. -/
theorem QAt.made {w : World} {g o d e : Nat} {st : QSt} {vf vb : Value} {B : Nat → Prop} (h : QAt w g o st vf vb none none B) (hd : d = w.heap.size) (he : e = w.heap.size + 1) :
    QAt ((((w.alloc (.map #[] 0)).alloc (.map #[] 0)).setCell ⟨g, o + 2, none⟩ (.map (some d))).setCell ⟨g, o + 3, none⟩ (.map (some e))) g o st vf vb (some d) (some e) (fun k => B k ∨ k = d ∨ k = e) ∧
    Moves w ((((w.alloc (.map #[] 0)).alloc (.map #[] 0)).setCell ⟨g, o + 2, none⟩ (.map (some d))).setCell ⟨g, o + 3, none⟩ (.map (some e))) g o 5 B := by
  have hg := h.lt
  have hb : Below w.heap.size w ((w.alloc (.map #[] 0)).alloc (.map #[] 0)) := balloc (balloc (Below.refl _ _) _) _
  have h0 := h.below hb
  have hcell : ∀ j, j ≠ o + 2 → j ≠ o + 3 → ((((w.alloc (.map #[] 0)).alloc (.map #[] 0)).setCell ⟨g, o + 2, none⟩ (.map (some d))).setCell ⟨g, o + 3, none⟩ (.map (some e))).cell? ⟨g, j, none⟩ = w.cell? ⟨g, j, none⟩ := fun j h2 h3 => by
    rw [World.cell?_setCell_other _ _ _ _ (fun e => by injection e with _ e _; omega), World.cell?_setCell_other _ _ _ _ (fun e => by injection e with _ e _; omega)]
    exact hb.cell (p := ⟨g, j, none⟩) hg
  have hfr : ∀ j, ((((w.alloc (.map #[] 0)).alloc (.map #[] 0)).setCell ⟨g, o + 2, none⟩ (.map (some d))).setCell ⟨g, o + 3, none⟩ (.map (some e))).frozen? ⟨g, j, none⟩ = w.frozen? ⟨g, j, none⟩ := fun j => by
    rw [World.frozen?_setCell, World.frozen?_setCell]
    exact hb.frozen (p := ⟨g, j, none⟩) hg
  have hheap : ∀ k, k ≠ g → ((((w.alloc (.map #[] 0)).alloc (.map #[] 0)).setCell ⟨g, o + 2, none⟩ (.map (some d))).setCell ⟨g, o + 3, none⟩ (.map (some e))).heap[k]? = ((w.alloc (.map #[] 0)).alloc (.map #[] 0)).heap[k]? := fun k hk => by
    rw [setCell_heap_map hk, setCell_heap_map hk]
  have hkeep : ∀ k, k < w.heap.size → k ≠ g → ((((w.alloc (.map #[] 0)).alloc (.map #[] 0)).setCell ⟨g, o + 2, none⟩ (.map (some d))).setCell ⟨g, o + 3, none⟩ (.map (some e))).heap[k]? = w.heap[k]? := fun k hk hk' => (hheap k hk').trans (hb.block k hk)
  have hsz : ((((w.alloc (.map #[] 0)).alloc (.map #[] 0)).setCell ⟨g, o + 2, none⟩ (.map (some d))).setCell ⟨g, o + 3, none⟩ (.map (some e))).heap.size = w.heap.size + 2 := by simp [World.setCell]
  have hdirty : st.dirty = [] := h.dn
  have hbusy : st.busy = [] := h.bn
  have hlo : ∀ r, vf.ownBlock = some r ∨ vb.ownBlock = some r → r < w.heap.size ∧ r ≠ g := fun r hr => ⟨hr.elim h.line.2.2.2.2.1.lt h.line.2.2.2.2.2.1.lt, fun e => by
    subst e
    exact hr.elim h.line.2.2.2.2.2.2.1 h.line.2.2.2.2.2.2.2.1⟩
  have hline : FIn ((((w.alloc (.map #[] 0)).alloc (.map #[] 0)).setCell ⟨g, o + 2, none⟩ (.map (some d))).setCell ⟨g, o + 3, none⟩ (.map (some e))) g o vf vb (kys st.front) (kys st.back) := by
    obtain ⟨h1, h2, h3, h4, h5, h6, h7⟩ := h.line
    exact ⟨(hcell _ (by omega) (by omega)).trans h1, (hcell _ (by omega) (by omega)).trans h2, (hfr _).trans h3, (hfr _).trans h4,
      h5.block fun r hr => hkeep r (hlo r (.inl hr)).1 (hlo r (.inl hr)).2, h6.block fun r hr => hkeep r (hlo r (.inr hr)).1 (hlo r (.inr hr)).2, h7⟩
  have hset : ∀ k, (k = d ∨ k = e) → SetIn ((((w.alloc (.map #[] 0)).alloc (.map #[] 0)).setCell ⟨g, o + 2, none⟩ (.map (some d))).setCell ⟨g, o + 3, none⟩ (.map (some e))) k [] := fun k hk => by
    have hkg : k ≠ g := by omega
    refine MapIn.block (w := (w.alloc (.map #[] 0)).alloc (.map #[] 0)) (es := []) ?_ (hheap k hkg)
    rcases hk with rfl | rfl
    · subst hd
      exact MapIn.below (MapIn.made w) (balloc (Below.refl _ _) _)
    · subst he
      have := MapIn.made (K := koV) (V := one1) (w.alloc (.map #[] 0))
      rwa [World.size_alloc] at this
  refine ⟨⟨hline, ?_, ?_, (hcell _ (by omega) (by omega)).trans h.co, (hfr _).trans h.fd, (hfr _).trans h.fb, (hfr _).trans h.fo, ?_, ?_, ⟨fun e => (by cases e), fun e => (by cases e)⟩, fun k hk e => ?_,
    fun r hr => .inl (h.inf r hr), fun r hr => .inl (h.inb r hr), fun r hr => .inr (.inl (by injection hr with hr; exact hr.symm)), fun r hr => .inr (.inr (by injection hr with hr; exact hr.symm)), fun k hk => ?_, fun hk => ?_, fun e => (by cases e)⟩, ?_⟩
  · rw [World.cell?_setCell_other _ _ _ _ (fun e => by injection e with _ e _; omega)]
    exact World.cell?_setCell_same' _ _ _ (by rw [h0.cd]; rfl)
  · exact World.cell?_setCell_same' _ _ _ (by rw [World.cell?_setCell_other _ _ _ _ (fun e => by injection e with _ e _; omega), h0.cb]; rfl)
  · rw [hdirty]; exact hset d (.inl rfl)
  · rw [hbusy]; exact hset e (.inr rfl)
  · injection hk with hk; injection e with e; omega
  · rw [hsz]
    rcases hk with hk | rfl | rfl
    · have := h.low k hk; omega
    · omega
    · omega
  · rcases hk with hk | hk | hk
    · exact h.notg hk
    · omega
    · omega
  · exact ((Moves.of_below hb hg).set _ (by omega) (by omega)).set _ (by omega) (by omega)

theorem Moves.wide {w w' : World} {g o n m : Nat} {R : Nat → Prop} (h : Moves w w' g o n R) (hm : n ≤ m) : Moves w w' g o m R := ⟨h.os, h.tape, h.output, h.size, h.block, fun j hj => h.cell j (by omega), h.frozen⟩
end

section
set_option linter.unusedSimpArgs false
set_option linter.unusedVariables false
open Go.RowKit Go.Lib

theorem calls_named {P : Program} {f : Nat} {args : Array Value} {w : World} {Q : Ending → World → Prop} (h : ∀ W, W = w → Calls P f args W Q) : Calls P f args w Q := h w rfl
theorem name_world {P : Program} {c : Code} {Q : Exit → Act → World → Prop} {a : Act} {w : World} (h : ∀ W, W = w → c.wp P Q a W) : c.wp P Q a w := h w rfl
end

section
set_option linter.unusedSimpArgs false
set_option linter.unusedVariables false
open Go.RowKit Go.Lib
open Go.ChangeMaps (setBlock)
end

section
set_option linter.unusedSimpArgs false
set_option linter.unusedVariables false
open Go.RowKit Go.Lib
end

section
set_option linter.unusedSimpArgs false
set_option linter.unusedVariables false
open Go.RowKit Go.Lib

structure RQ where
  line : List Ky
  busy : List Ky
  dirty : List Ky
  over : Bool

/-- Keys in a row whose block may be. -/
def RowP (P : Nat → Prop) (w : World) (v : Value) (l : List Ky) : Prop :=
  RowIn 2 keyC w v l ∧ ∀ b o n c, v = .slice (some ⟨b, o, none⟩) n c → 0 < l.length → P b
theorem RowP.below {P : Nat → Prop} {w w' : World} {v : Value} {l : List Ky} (h : RowP P w v l) (hb : Below w.heap.size w w') : RowP P w' v l := ⟨h.1.below hb, h.2⟩
theorem RowP.keys {P : Nat → Prop} {w : World} {v : Value} {l : List Ky} (h : RowP P w v l) : KeysIn w v l := keysIn_row h.1

/-- Keys that lie outside the blocks H to H + n. -/
def KeysOff (P : Nat → Prop) (H n : Nat) (w : World) (v : Value) (l : List Ky) : Prop :=
  ∃ A c, v = .slice A l.length c ∧ l.length ≤ c ∧ (0 < l.length → ∃ b o, A = some ⟨b, o, none⟩ ∧ b < w.heap.size ∧ (P b ∧ (b < H ∨ H + n ≤ b)) ∧ ∀ j u, (cellsK l)[j]? = some u → w.cell? ⟨b, o + j, none⟩ = some u)
theorem KeysOff.keys {P : Nat → Prop} {H n : Nat} {w : World} {v : Value} {l : List Ky} (h : KeysOff P H n w v l) : KeysIn w v l := by
  obtain ⟨A, c, hv, _, h⟩ := h
  refine ⟨A, c, hv, fun hn => ?_⟩
  obtain ⟨b, o, hA, hlt, _, hc⟩ := h hn
  exact ⟨b, o, hA, hlt, hc⟩
theorem KeysOff.row {P : Nat → Prop} {H n : Nat} {w : World} {v : Value} {l : List Ky} (h : KeysOff P H n w v l) : RowP P w v l := by
  have hk := h.keys
  obtain ⟨A, c, rfl, hc, h⟩ := h
  refine ⟨row_keysIn hk hc, fun b o n' c' e hn => ?_⟩
  obtain ⟨b', o', hA, _, ⟨hP, _⟩, _⟩ := h hn
  injection e with e1 _ _
  rw [hA] at e1
  injection e1 with e1
  injection e1 with e1
  rw [← e1]
  exact hP
theorem KeysOff.below {P : Nat → Prop} {H n : Nat} {w w' : World} {v : Value} {l : List Ky} (h : KeysOff P H n w v l) (hb : Below w.heap.size w w') : KeysOff P H n w' v l := by
  obtain ⟨A, c, hv, hl, h⟩ := h
  refine ⟨A, c, hv, hl, fun hn => ?_⟩
  obtain ⟨b, o, hA, hlt, ho, hc⟩ := h hn
  exact ⟨b, o, hA, Nat.lt_of_lt_of_le hlt hb.size, ho, fun j u hu => (hb.cell (p := ⟨b, _, none⟩) hlt).trans (hc j u hu)⟩
theorem KeysOff.set {P : Nat → Prop} {H n : Nat} {w : World} {v : Value} {l : List Ky} (h : KeysOff P H n w v l) {r j : Nat} (u : Value) (hr : H ≤ r) (hr' : r < H + n) : KeysOff P H n (w.setCell ⟨r, j, none⟩ u) v l := by
  obtain ⟨A, c, hv, hl, h⟩ := h
  refine ⟨A, c, hv, hl, fun hn => ?_⟩
  obtain ⟨b, o, hA, hlt, ho, hc⟩ := h hn
  exact ⟨b, o, hA, by simpa [World.setCell] using hlt, ho, fun j u hu => (World.cell?_setCell_other _ _ _ _ (fun e => by injection e with e _ _; omega)).trans (hc j u hu)⟩
theorem KeysOff.of {P : Nat → Prop} {w W : World} {v : Value} {l : List Ky} (n : Nat) (hp : RowP P w v l) (hb : Below w.heap.size w W) : KeysOff P w.heap.size n W v l := by
  obtain ⟨h, hP⟩ := hp
  have hk := keysIn_row h
  obtain ⟨A, c, rfl, hl, _⟩ := h
  obtain ⟨A1, c1, hv, h⟩ := hk
  injection hv with e1 _ _
  subst e1
  refine ⟨A, c, rfl, hl, fun hn => ?_⟩
  obtain ⟨b, o, hA, hlt, hc⟩ := h hn
  exact ⟨b, o, hA, Nat.lt_of_lt_of_le hlt hb.size, ⟨hP b o _ _ (by rw [hA]) hn, .inl hlt⟩, fun j u hu => (hb.cell (p := ⟨b, _, none⟩) hlt).trans (hc j u hu)⟩
theorem KeysOff.own {P : Nat → Prop} {H n : Nat} {w : World} {base : Nat} {e : TypeId} {v : Value} {l : List Ky} (h : w.ownsRow base e 2 v l.length (cellsOfRow keyC l)) (hb : H + n ≤ base) (hP : ∀ b, base ≤ b → P b) : KeysOff P H n w v l := by
  obtain ⟨A0, c0, hv0, hcap, _⟩ := RowIn.own (f := keyC) (n := 2) (fun _ => rfl) h
  obtain ⟨A, c, hv, hk⟩ := KeysIn.own h
  have hcc : l.length ≤ c := by
    rw [hv] at hv0
    injection hv0 with _ _ e3
    omega
  refine ⟨A, c, hv, hcc, fun hn => ?_⟩
  obtain ⟨b, o, hA, hlt, hc⟩ := hk hn
  have hbb : base ≤ b := by
    rcases h.2 with ⟨_, h0⟩ | ⟨g, cap, cur, hv', hg, _⟩
    · omega
    · rw [hv] at hv'
      injection hv' with e1 _ _
      rw [hA] at e1
      injection e1 with e1
      injection e1 with e1
      omega
  exact ⟨b, o, hA, hlt, ⟨hP b hbb, .inr (by omega)⟩, hc⟩
theorem KeysOff.form {P : Nat → Prop} {H n : Nat} {w : World} {v : Value} {l : List Ky} (h : KeysOff P H n w v l) : ∃ A c, v = .slice A l.length c := by
  obtain ⟨A, c, hv, _⟩ := h
  exact ⟨A, c, hv⟩

structure RQAt (P : Nat → Prop) (w : World) (vl vb vd : Value) (x : RQ) : Prop where
  l : RowP P w vl x.line
  b : RowP P w vb x.busy
  d : RowP P w vd x.dirty
theorem RQAt.below {P : Nat → Prop} {w w' : World} {vl vb vd : Value} {x : RQ} (h : RQAt P w vl vb vd x) (hb : Below w.heap.size w w') : RQAt P w' vl vb vd x := ⟨h.l.below hb, h.b.below hb, h.d.below hb⟩
structure RQ.small (x : RQ) (n : Nat) : Prop where
  l : x.line.length ≤ n
  b : x.busy.length ≤ n
  d : x.dirty.length ≤ n

theorem setCell_block {w : World} {B i : Nat} {cs : Array Value} {T : TypeId} {fr : Nat × Nat} {v : Value} (h : w.heap[B]? = some (.cells cs T fr)) : (w.setCell ⟨B, i, none⟩ v).heap[B]? = some (.cells (cs.setIfInBounds i v) T fr) := by
  obtain ⟨hlt, hk⟩ := Array.getElem?_eq_some_iff.1 h
  show (w.heap.modify B _)[B]? = _
  rw [Array.getElem?_eq_getElem (by rw [Array.size_modify]; exact hlt), Array.getElem_modify_self, hk]
  simp

/-! ### Done -/
end

end Go.Proofs.YtmniiodpbebnmaaGreat
