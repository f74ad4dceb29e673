/- workq's Queue in memory; A world gets a name; workq's Add, walked; The reference's Has, Less, More. -/
import Derived.Test.YtfegielnmdppgaaGreatJ04
import Derived.Test.YtfegielnmdppgaaGreatJ05
import Derived.DeepKeys5
import Derived.ChangeMaps5
import Derived.Test.YtfegielnmdppgaaGreatJ01
import Derived.Test.YtfegielnmdppgaaGreatJ03
import Derived.Test.YtfegielnmdppgaaGreatJ02
namespace Go.Proofs.YtfegielnmdppgaaGreat

section
set_option linter.unusedSimpArgs false
set_option linter.unusedVariables false
open Go.RowKit Go.Lib
open Go.ChangeMaps (setBlock)
open Go.Maps (Keyed)

/-- A key that a word holds. -/
abbrev KO := { p : Ky // p.ok }
def koV (x : KO) : Value := .agg #[.int .u64 x.1.1, .int .u64 x.1.2]
def one1 (_ : Unit) : Value := .int .i64 1

theorem laidOutQ : laidOutB Tryz.prog = true := by kernel_rfl
theorem rowKey : (40 : TypeId) < Tryz.prog.types.size := of_decide_eq_true (by kernel_rfl)
theorem deepKey : Tryz.prog.keyType 40 = true := by kernel_rfl
theorem wideKey : (match Tryz.prog.underlying 40 with | some (.array _ _) | some (.struct _) => true | _ => false) = true := by kernel_rfl
theorem manyTypes : 2 ≤ Tryz.prog.types.size := of_decide_eq_true (by kernel_rfl)
set_option maxRecDepth 100000 in
theorem lawKey : Keyed Tryz.prog 40 := Keyed.of_law (deep_law_laid laidOutQ (m := 9) (by decide) rowKey (by kernel_rfl) wideKey)
theorem keyOf_ko (x : KO) : ∃ l, keyOf Tryz.prog 40 (koV x) = some l := by
  obtain ⟨⟨a, b⟩, h1, h2⟩ := x
  simp only at h1 h2
  have hform : (koV ⟨(a, b), h1, h2⟩).formed Tryz.prog 40 = true := by simp [koV, Value.formed, Tryz.underlying40, cl_key]
  obtain ⟨d, hd⟩ : ∃ d, Tryz.prog.types.size = d + 1 := ⟨_, (Nat.sub_add_cancel (Nat.le_trans (by decide) manyTypes)).symm⟩
  have hlits : Tryz.prog.keyLits (Tryz.prog.types.size + 1) 40 [.int .u64 a, .int .u64 b] = some [.int .u64 a, .int .u64 b] := by
    have hw1 : (Lit.int .u64 (a : Int)).wf = true := by simp [Lit.wf, IntKind.min, IntKind.max, IntKind.signed, IntKind.bits]; omega
    have hw2 : (Lit.int .u64 (b : Int)).wf = true := by simp [Lit.wf, IntKind.min, IntKind.max, IntKind.signed, IntKind.bits]; omega
    simp [Program.keyLits, hd, Tryz.underlying40, Tryz.underlying38, cl_key, cl_u64, hw1, hw2]
  refine ⟨.string (keyBytes [.int .u64 a, .int .u64 b]), ?_⟩
  unfold keyOf
  simp only [Tryz.underlying40, deepKey, hform]
  show (if _ then (Tryz.prog.keyLits (Tryz.prog.types.size + 1) 40 [.int .u64 a, .int .u64 b]).map _ else none) = _
  rw [hlits]
  rfl
theorem keysBy : KeysBy Tryz.prog 40 koV where
  law := lawKey
  key := keyOf_ko
  inj x y h := by
    simp only [koV, Value.agg.injEq, Array.mk.injEq, List.cons.injEq, Value.int.injEq, and_true, true_and] at h
    exact Subtype.ext (Prod.ext (by omega) (by omega))

/-! ### Sets of keys -/
def setL (l : List KO) : List (KO × Unit) := l.map fun x => (x, ())
def insL (l : List KO) (x : KO) : List KO := if x ∈ l then l else l ++ [x]
def strikeL (l : List KO) (x : KO) : List KO := l.filter fun y => ¬ y = x
theorem hasM_setL (l : List KO) (x : KO) : hasM (setL l) x = decide (x ∈ l) := by
  rw [Bool.eq_iff_iff, hasM_iff]
  simp [setL]
theorem putM_setL (l : List KO) (x : KO) : putM (setL l) x () = setL (insL l x) := by
  unfold putM insL
  rw [hasM_setL]
  by_cases h : x ∈ l
  · rw [if_pos (by simpa using h), if_pos h]
    simp only [setL, List.map_map]
    refine List.map_congr_left fun y _ => ?_
    simp only [Function.comp]
    split
    · rename_i e; rw [e]
    · rfl
  · rw [if_neg (by simpa using h), if_neg h]
    simp [setL]
theorem delM_setL (l : List KO) (x : KO) : delM (setL l) x = setL (strikeL l x) := by
  simp [delM, setL, strikeL, List.filter_map, Function.comp_def]

def SetIn (w : World) (d : Nat) (l : List KO) : Prop := MapIn koV one1 w d (setL l)
/-- A set in a field: nil, or a map. -/
def SetAt (w : World) (m : Option Nat) (l : List KO) : Prop := match m with
  | none => l = []
  | some d => SetIn w d l
theorem SetIn.lt {w : World} {d : Nat} {l : List KO} (h : SetIn w d l) : d < w.heap.size := MapIn.lt h
theorem SetIn.nodup {w : World} {d : Nat} {l : List KO} (h : SetIn w d l) : l.Nodup := by
  obtain ⟨_, _, _, _, _, _, hn⟩ := h
  simpa [setL, List.map_map, Function.comp_def] using hn
theorem SetAt.nodup {w : World} {m : Option Nat} {l : List KO} (h : SetAt w m l) : l.Nodup := by
  cases m with
  | none => rw [show l = [] from h]; exact List.nodup_nil
  | some d => exact SetIn.nodup h
theorem SetAt.block {w w' : World} {m : Option Nat} {l : List KO} (h : SetAt w m l) (hb : ∀ d, m = some d → w'.heap[d]? = w.heap[d]?) : SetAt w' m l := by
  cases m with
  | none => exact h
  | some d => exact MapIn.block h (hb d rfl)
theorem SetIn.isMap {w : World} {d : Nat} {l : List KO} (h : SetIn w d l) : ∃ es c, w.heap[d]? = some (.map es c) := by
  obtain ⟨es, c, hb, _⟩ := h
  exact ⟨es, c, hb⟩

def bit (b : Bool) : Int := if b then 1 else 0
/-! ### The queue -/
structure QSt where
  front : List KO
  back : List KO
  dirty : List KO
  busy : List KO
  over : Bool
def kys (l : List KO) : List Ky := l.map (·.1)
theorem kys_len (l : List KO) : (kys l).length = l.length := by simp [kys]

structure QAt (w : World) (g o : Nat) (st : QSt) (vf vb : Value) (md mb : Option Nat) (B : Nat → Prop) : Prop where
  line : FIn w g o vf vb (kys st.front) (kys st.back)
  cd : w.cell? ⟨g, o + 2, none⟩ = some (.map md)
  cb : w.cell? ⟨g, o + 3, none⟩ = some (.map mb)
  co : w.cell? ⟨g, o + 4, none⟩ = some (.bool st.over)
  fd : w.frozen? ⟨g, o + 2, none⟩ = false
  fb : w.frozen? ⟨g, o + 3, none⟩ = false
  fo : w.frozen? ⟨g, o + 4, none⟩ = false
  dn : SetAt w md st.dirty
  bn : SetAt w mb st.busy
  both : md = none ↔ mb = none
  apart : ∀ d, md = some d → mb ≠ some d
  inf : ∀ r, vf.ownBlock = some r → B r
  inb : ∀ r, vb.ownBlock = some r → B r
  ind : ∀ r, md = some r → B r
  inz : ∀ r, mb = some r → B r
  low : ∀ k, B k → k < w.heap.size
  notg : ¬ B g
  mt : md = none → st.front = [] ∧ st.back = []
def QIn (w : World) (g o : Nat) (st : QSt) (B : Nat → Prop) : Prop := ∃ vf vb md mb, QAt w g o st vf vb md mb B

theorem QAt.lt {w : World} {g o : Nat} {st : QSt} {vf vb : Value} {md mb : Option Nat} {B : Nat → Prop} (h : QAt w g o st vf vb md mb B) : g < w.heap.size := h.line.lt
/-- The queue stands where its own cells and blocks do. -/
theorem QAt.keep {w w' : World} {g o : Nat} {st : QSt} {vf vb : Value} {md mb : Option Nat} {B : Nat → Prop} (h : QAt w g o st vf vb md mb B)
    (hc : ∀ j, w'.cell? ⟨g, j, none⟩ = w.cell? ⟨g, j, none⟩) (hf : ∀ j, w'.frozen? ⟨g, j, none⟩ = w.frozen? ⟨g, j, none⟩) (hb : ∀ k, B k → w'.heap[k]? = w.heap[k]?) (hs : w.heap.size ≤ w'.heap.size) : QAt w' g o st vf vb md mb B :=
  ⟨h.line.keep hc hf (fun r hr => hb r (hr.elim (h.inf r) (h.inb r))), (hc _).trans h.cd, (hc _).trans h.cb, (hc _).trans h.co, (hf _).trans h.fd, (hf _).trans h.fb, (hf _).trans h.fo,
    h.dn.block (fun d e => hb d (h.ind d e)), h.bn.block (fun d e => hb d (h.inz d e)), h.both, h.apart, h.inf, h.inb, h.ind, h.inz, fun k hk => Nat.lt_of_lt_of_le (h.low k hk) hs, h.notg, h.mt⟩
theorem QAt.below {w w' : World} {g o : Nat} {st : QSt} {vf vb : Value} {md mb : Option Nat} {B : Nat → Prop} (h : QAt w g o st vf vb md mb B) (hb : Below w.heap.size w w') : QAt w' g o st vf vb md mb B :=
  h.keep (fun j => hb.cell (p := ⟨g, j, none⟩) h.lt) (fun j => hb.frozen (p := ⟨g, j, none⟩) h.lt) (fun k hk => hb.block k (h.low k hk)) hb.size

theorem setBlock_other {w : World} {d k : Nat} {o : Obj} (h : k ≠ d) : (setBlock w d o).heap[k]? = w.heap[k]? := by
  simp [setBlock, Array.getElem?_setIfInBounds, Ne.symm h]
theorem setBlock_cell {w : World} {d g j : Nat} {o : Obj} (h : g ≠ d) : (setBlock w d o).cell? ⟨g, j, none⟩ = w.cell? ⟨g, j, none⟩ := World.cell?_of_block (setBlock_other h)
theorem setBlock_frozen {w : World} {d g j : Nat} {o : Obj} (h : g ≠ d) : (setBlock w d o).frozen? ⟨g, j, none⟩ = w.frozen? ⟨g, j, none⟩ := World.frozen?_of_block (setBlock_other h)
theorem setBlock_size {w : World} {d : Nat} {o : Obj} : (setBlock w d o).heap.size = w.heap.size := by simp [setBlock]
theorem Moves.block_ {w a : World} {g o n : Nat} {R : Nat → Prop} (h : Moves w a g o n R) {k : Nat} (x : Obj) (hk : k ≠ g) (hR : R k ∨ w.heap.size ≤ k) : Moves w (setBlock a k x) g o n R :=
  ⟨h.os, h.tape, h.output, by rw [setBlock_size]; exact h.size, fun i hi hg hr => (setBlock_other (fun e => by subst e; exact hR.elim hr (fun h' => by omega))).trans (h.block i hi hg hr),
    fun i hi => (setBlock_cell (Ne.symm hk)).trans (h.cell i hi), fun i => (setBlock_frozen (Ne.symm hk)).trans (h.frozen i)⟩
theorem OwnK.cells {w : World} {v : Value} {l : List Ky} (h : OwnK w v l) {r : Nat} (hr : v.ownBlock = some r) : ∃ cs e fr, w.heap[r]? = some (.cells cs e fr) := by
  rcases h.2 with ⟨hv, _⟩ | ⟨g, cap, cur, hv, _, hg, _⟩
  · rw [hv] at hr; cases hr
  · rw [hv] at hr
    obtain rfl : g = r := by simpa [Value.ownBlock] using hr
    exact ⟨_, _, _, hg⟩
theorem own_ne_set {w : World} {v : Value} {l : List Ky} {d : Nat} {s : List KO} (h : OwnK w v l) (hs : SetIn w d s) {r : Nat} (hr : v.ownBlock = some r) : r ≠ d := by
  intro e
  subst e
  obtain ⟨_, _, _, h1⟩ := h.cells hr
  obtain ⟨_, _, h2⟩ := hs.isMap
  rw [h1] at h2
  cases h2

theorem QAt.setDirty {w : World} {g o d : Nat} {st : QSt} {vf vb : Value} {mb : Option Nat} {B : Nat → Prop} {x : Obj} {l : List KO} (h : QAt w g o st vf vb (some d) mb B) (hs : SetIn (setBlock w d x) d l) :
    QAt (setBlock w d x) g o { st with dirty := l } vf vb (some d) mb B := by
  have hd : SetIn w d st.dirty := h.dn
  have hgd : g ≠ d := fun e => h.notg (h.ind g (by rw [e]))
  have hrow : ∀ v l, OwnK w v l → ∀ r, v.ownBlock = some r → (setBlock w d x).heap[r]? = w.heap[r]? := fun v l hv r hr => setBlock_other (own_ne_set hv hd hr)
  refine ⟨h.line.keep (fun j => setBlock_cell hgd) (fun j => setBlock_frozen hgd) (fun r hr => hr.elim (hrow _ _ h.line.2.2.2.2.1 r) (hrow _ _ h.line.2.2.2.2.2.1 r)), (setBlock_cell hgd).trans h.cd, (setBlock_cell hgd).trans h.cb, (setBlock_cell hgd).trans h.co,
    (setBlock_frozen hgd).trans h.fd, (setBlock_frozen hgd).trans h.fb, (setBlock_frozen hgd).trans h.fo, hs, h.bn.block (fun e he => setBlock_other (fun e' => h.apart d rfl (by rw [he, e']))), h.both, h.apart, h.inf, h.inb, h.ind, h.inz, fun k hk => by rw [setBlock_size]; exact h.low k hk, h.notg, fun e => (by cases e)⟩
theorem QAt.setBusy {w : World} {g o d : Nat} {st : QSt} {vf vb : Value} {md : Option Nat} {B : Nat → Prop} {x : Obj} {l : List KO} (h : QAt w g o st vf vb md (some d) B) (hs : SetIn (setBlock w d x) d l) :
    QAt (setBlock w d x) g o { st with busy := l } vf vb md (some d) B := by
  have hd : SetIn w d st.busy := h.bn
  have hgd : g ≠ d := fun e => h.notg (h.inz g (by rw [e]))
  have hrow : ∀ v l, OwnK w v l → ∀ r, v.ownBlock = some r → (setBlock w d x).heap[r]? = w.heap[r]? := fun v l hv r hr => setBlock_other (own_ne_set hv hd hr)
  refine ⟨h.line.keep (fun j => setBlock_cell hgd) (fun j => setBlock_frozen hgd) (fun r hr => hr.elim (hrow _ _ h.line.2.2.2.2.1 r) (hrow _ _ h.line.2.2.2.2.2.1 r)), (setBlock_cell hgd).trans h.cd, (setBlock_cell hgd).trans h.cb, (setBlock_cell hgd).trans h.co,
    (setBlock_frozen hgd).trans h.fd, (setBlock_frozen hgd).trans h.fb, (setBlock_frozen hgd).trans h.fo, h.dn.block (fun e he => setBlock_other (fun e' => h.apart e he (by rw [e']))), hs, h.both, h.apart, h.inf, h.inb, h.ind, h.inz, fun k hk => by rw [setBlock_size]; exact h.low k hk, h.notg, h.mt⟩

theorem setCell_heap_map {w : World} {a : Addr} {v : Value} {d : Nat} (h : d ≠ a.block) : (w.setCell a v).heap[d]? = w.heap[d]? := Below.heap_setCell _ _ _ _ h
/-- Two maps are made, and laid into the fields. -/
theorem QAt.made {w : World} {g o d e : Nat} {st : QSt} {vf vb : Value} {B : Nat → Prop} (h : QAt w g o st vf vb none none B) (hd : d = w.heap.size) (he : e = w.heap.size + 1) :
    QAt ((((w.alloc (.map #[] 0)).alloc (.map #[] 0)).setCell ⟨g, o + 2, none⟩ (.map (some d))).setCell ⟨g, o + 3, none⟩ (.map (some e))) g o st vf vb (some d) (some e) (fun k => B k ∨ k = d ∨ k = e) ∧
    Moves w ((((w.alloc (.map #[] 0)).alloc (.map #[] 0)).setCell ⟨g, o + 2, none⟩ (.map (some d))).setCell ⟨g, o + 3, none⟩ (.map (some e))) g o 5 B := by
  have hg := h.lt
  have hb : Below w.heap.size w ((w.alloc (.map #[] 0)).alloc (.map #[] 0)) := balloc (balloc (Below.refl _ _) _) _
  have h0 := h.below hb
  have hcell : ∀ j, j ≠ o + 2 → j ≠ o + 3 → ((((w.alloc (.map #[] 0)).alloc (.map #[] 0)).setCell ⟨g, o + 2, none⟩ (.map (some d))).setCell ⟨g, o + 3, none⟩ (.map (some e))).cell? ⟨g, j, none⟩ = w.cell? ⟨g, j, none⟩ := fun j h2 h3 => by
    rw [World.cell?_setCell_other _ _ _ _ (fun e => by injection e with _ e _; omega), World.cell?_setCell_other _ _ _ _ (fun e => by injection e with _ e _; omega)]
    exact hb.cell (p := ⟨g, j, none⟩) hg
  have hfr : ∀ j, ((((w.alloc (.map #[] 0)).alloc (.map #[] 0)).setCell ⟨g, o + 2, none⟩ (.map (some d))).setCell ⟨g, o + 3, none⟩ (.map (some e))).frozen? ⟨g, j, none⟩ = w.frozen? ⟨g, j, none⟩ := fun j => by
    rw [World.frozen?_setCell, World.frozen?_setCell]
    exact hb.frozen (p := ⟨g, j, none⟩) hg
  have hheap : ∀ k, k ≠ g → ((((w.alloc (.map #[] 0)).alloc (.map #[] 0)).setCell ⟨g, o + 2, none⟩ (.map (some d))).setCell ⟨g, o + 3, none⟩ (.map (some e))).heap[k]? = ((w.alloc (.map #[] 0)).alloc (.map #[] 0)).heap[k]? := fun k hk => by
    rw [setCell_heap_map hk, setCell_heap_map hk]
  have hkeep : ∀ k, k < w.heap.size → k ≠ g → ((((w.alloc (.map #[] 0)).alloc (.map #[] 0)).setCell ⟨g, o + 2, none⟩ (.map (some d))).setCell ⟨g, o + 3, none⟩ (.map (some e))).heap[k]? = w.heap[k]? := fun k hk hk' => (hheap k hk').trans (hb.block k hk)
  have hsz : ((((w.alloc (.map #[] 0)).alloc (.map #[] 0)).setCell ⟨g, o + 2, none⟩ (.map (some d))).setCell ⟨g, o + 3, none⟩ (.map (some e))).heap.size = w.heap.size + 2 := by simp [World.setCell]
  have hdirty : st.dirty = [] := h.dn
  have hbusy : st.busy = [] := h.bn
  have hlo : ∀ r, vf.ownBlock = some r ∨ vb.ownBlock = some r → r < w.heap.size ∧ r ≠ g := fun r hr => ⟨hr.elim h.line.2.2.2.2.1.lt h.line.2.2.2.2.2.1.lt, fun e => by
    subst e
    exact hr.elim h.line.2.2.2.2.2.2.1 h.line.2.2.2.2.2.2.2.1⟩
  have hline : FIn ((((w.alloc (.map #[] 0)).alloc (.map #[] 0)).setCell ⟨g, o + 2, none⟩ (.map (some d))).setCell ⟨g, o + 3, none⟩ (.map (some e))) g o vf vb (kys st.front) (kys st.back) := by
    obtain ⟨h1, h2, h3, h4, h5, h6, h7⟩ := h.line
    exact ⟨(hcell _ (by omega) (by omega)).trans h1, (hcell _ (by omega) (by omega)).trans h2, (hfr _).trans h3, (hfr _).trans h4,
      h5.block fun r hr => hkeep r (hlo r (.inl hr)).1 (hlo r (.inl hr)).2, h6.block fun r hr => hkeep r (hlo r (.inr hr)).1 (hlo r (.inr hr)).2, h7⟩
  have hset : ∀ k, (k = d ∨ k = e) → SetIn ((((w.alloc (.map #[] 0)).alloc (.map #[] 0)).setCell ⟨g, o + 2, none⟩ (.map (some d))).setCell ⟨g, o + 3, none⟩ (.map (some e))) k [] := fun k hk => by
    have hkg : k ≠ g := by omega
    refine MapIn.block (w := (w.alloc (.map #[] 0)).alloc (.map #[] 0)) (es := []) ?_ (hheap k hkg)
    rcases hk with rfl | rfl
    · subst hd
      exact MapIn.below (MapIn.made w) (balloc (Below.refl _ _) _)
    · subst he
      have := MapIn.made (K := koV) (V := one1) (w.alloc (.map #[] 0))
      rwa [World.size_alloc] at this
  refine ⟨⟨hline, ?_, ?_, (hcell _ (by omega) (by omega)).trans h.co, (hfr _).trans h.fd, (hfr _).trans h.fb, (hfr _).trans h.fo, ?_, ?_, ⟨fun e => (by cases e), fun e => (by cases e)⟩, fun k hk e => ?_,
    fun r hr => .inl (h.inf r hr), fun r hr => .inl (h.inb r hr), fun r hr => .inr (.inl (by injection hr with hr; exact hr.symm)), fun r hr => .inr (.inr (by injection hr with hr; exact hr.symm)), fun k hk => ?_, fun hk => ?_, fun e => (by cases e)⟩, ?_⟩
  · rw [World.cell?_setCell_other _ _ _ _ (fun e => by injection e with _ e _; omega)]
    exact World.cell?_setCell_same' _ _ _ (by rw [h0.cd]; rfl)
  · exact World.cell?_setCell_same' _ _ _ (by rw [World.cell?_setCell_other _ _ _ _ (fun e => by injection e with _ e _; omega), h0.cb]; rfl)
  · rw [hdirty]; exact hset d (.inl rfl)
  · rw [hbusy]; exact hset e (.inr rfl)
  · injection hk with hk; injection e with e; omega
  · rw [hsz]
    rcases hk with hk | rfl | rfl
    · have := h.low k hk; omega
    · omega
    · omega
  · rcases hk with hk | hk | hk
    · exact h.notg hk
    · omega
    · omega
  · exact ((Moves.of_below hb hg).set _ (by omega) (by omega)).set _ (by omega) (by omega)

/-- The line of a queue has moved. -/
theorem QAt.moved {w w' : World} {g o : Nat} {st : QSt} {vf vb vf' vb' : Value} {md mb : Option Nat} {B : Nat → Prop} {f b : List KO} (h : QAt w g o st vf vb md mb B) (hf : FIn w' g o vf' vb' (kys f) (kys b))
    (hm : Moves w w' g o 2 (fun k => vb.ownBlock = some k)) (hB : ∀ r, vf'.ownBlock = some r ∨ vb'.ownBlock = some r → B r ∨ w.heap.size ≤ r) (hmt : md = none → f = [] ∧ b = []) :
    QAt w' g o { st with front := f, back := b } vf' vb' md mb (fun k => B k ∨ vf'.ownBlock = some k ∨ vb'.ownBlock = some k) := by
  have hs := hm.size
  have hg := h.lt
  have hset : ∀ m l d, SetAt w m l → m = some d → B d → w'.heap[d]? = w.heap[d]? := fun m l d hs hd hBd => by
    subst hd
    exact hm.block d (h.low d hBd) (fun e => h.notg (e ▸ hBd)) (fun hr => own_ne_set h.line.2.2.2.2.2.1 hs hr rfl)
  refine ⟨hf, (hm.cell _ (.inr (by omega))).trans h.cd, (hm.cell _ (.inr (by omega))).trans h.cb, (hm.cell _ (.inr (by omega))).trans h.co, (hm.frozen _).trans h.fd, (hm.frozen _).trans h.fb, (hm.frozen _).trans h.fo,
    h.dn.block fun d e => hset _ _ d h.dn e (h.ind d e), h.bn.block fun d e => hset _ _ d h.bn e (h.inz d e), h.both, h.apart, fun r hr => .inr (.inl hr), fun r hr => .inr (.inr hr), fun r hr => .inl (h.ind r hr), fun r hr => .inl (h.inz r hr), fun k hk => ?_, fun hk => ?_, hmt⟩
  · rcases hk with hk | hk
    · have := h.low k hk; omega
    · exact hk.elim hf.2.2.2.2.1.lt hf.2.2.2.2.2.1.lt
  · rcases hk with hk | hk
    · exact h.notg hk
    · exact hk.elim hf.2.2.2.2.2.2.1 hf.2.2.2.2.2.2.2.1
theorem kys_snoc (l : List KO) (x : KO) : kys (l ++ [x]) = kys l ++ [x.1] := by simp [kys]
theorem Moves.wide {w w' : World} {g o n m : Nat} {R : Nat → Prop} (h : Moves w w' g o n R) (hm : n ≤ m) : Moves w w' g o m R := ⟨h.os, h.tape, h.output, h.size, h.block, fun j hj => h.cell j (by omega), h.frozen⟩
end

section
set_option linter.unusedSimpArgs false
set_option linter.unusedVariables false
open Go.RowKit Go.Lib

theorem calls_named {P : Program} {f : Nat} {args : Array Value} {w : World} {Q : Ending → World → Prop} (h : ∀ W, W = w → Calls P f args W Q) : Calls P f args w Q := h w rfl
theorem name_world {P : Program} {c : Code} {Q : Exit → Act → World → Prop} {a : Act} {w : World} (h : ∀ W, W = w → c.wp P Q a W) : c.wp P Q a w := h w rfl
theorem box_at {W w1 : World} (hb : Below W.heap.size W w1) {B : Nat} {cs : Array Value} {T : TypeId} (hB : W.heap[B]? = some (.cells cs T (0, 0))) : (∀ j, w1.cell? ⟨B, j, none⟩ = cs[j]?) ∧ (∀ j, w1.frozen? ⟨B, j, none⟩ = false) ∧ B < w1.heap.size ∧ w1.heap[B]? = some (.cells cs T (0, 0)) := by
  obtain ⟨h1, h2, h3⟩ := box_cells hb hB
  exact ⟨h1, h2, h3, (hb.block B (Array.getElem?_eq_some_iff.1 hB).1).trans hB⟩
end

section
set_option linter.unusedSimpArgs false
set_option linter.unusedVariables false
open Go.RowKit Go.Lib
open Go.ChangeMaps (setBlock)

def addQ (st : QSt) (x : KO) : QSt × Bool :=
  if st.over = true ∨ x ∈ st.dirty then (st, false) else
  if x ∈ st.busy then ({ st with dirty := st.dirty ++ [x] }, false) else ({ st with dirty := st.dirty ++ [x], back := st.back ++ [x] }, true)

def QSays (w : World) (g o : Nat) (B : Nat → Prop) (st' : QSt) (v : Value) (e : Ending) (w' : World) : Prop :=
  ∃ B', e = .returned v ∧ QIn w' g o st' B' ∧ Moves w w' g o 5 B ∧ (∀ k, B' k → B k ∨ w.heap.size ≤ k)

theorem says_below {w w' : World} {g o : Nat} {B : Nat → Prop} {st : QSt} {v : Value} {vf vb : Value} {md mb : Option Nat} (h : QAt w g o st vf vb md mb B) (hb : Below w.heap.size w w') : QSays w g o B st v (.returned v) w' :=
  ⟨B, rfl, ⟨_, _, _, _, h.below hb⟩, Moves.of_below hb h.lt, fun k hk => .inl hk⟩

theorem alloc_cells (w : World) (cs : Array Value) (T : TypeId) : ∀ W, W = w.alloc (.cells cs T) → W.heap[w.heap.size]? = some (.cells cs T (0, 0)) := fun W h => by rw [h]; exact heap_alloc_new _ _
end

section
set_option linter.unusedSimpArgs false
set_option linter.unusedVariables false
open Go.RowKit Go.Lib

theorem box_one (w : World) (x : Ky) : ∀ W, W = w.alloc (.cells #[.int .u64 x.1, .int .u64 x.2] 40) → W.cell? ⟨w.heap.size, 0, none⟩ = some (.int .u64 x.1) ∧ W.cell? ⟨w.heap.size, 1, none⟩ = some (.int .u64 x.2) ∧ W.heap.size = w.heap.size + 1 ∧ Below w.heap.size w W := by
  rintro W rfl
  exact ⟨(startA w _ _).1 0, (startA w _ _).1 1, by simp, balloc (Below.refl _ _) _⟩

/-- A list without a key. -/
def lessL (l : List Ky) (x : Ky) : List Ky := l.filter fun y => ¬ y = x
theorem lessL_hit {l : List Ky} {k : Nat} {x : Ky} (h : k < l.length) (he : l[k] = x) : lessL (l.take (k + 1)) x = lessL (l.take k) x := by
  rw [List.take_succ_eq_append_getElem h]
  simp [lessL, he]
theorem lessL_miss {l : List Ky} {k : Nat} {x : Ky} (h : k < l.length) (he : ¬ l[k] = x) : lessL (l.take (k + 1)) x = lessL (l.take k) x ++ [l[k]] := by
  rw [List.take_succ_eq_append_getElem h]
  unfold lessL
  rw [List.filter_append, List.filter_cons_of_pos (by simpa using he), List.filter_nil]

/-- A list that a call lays. -/
def LaysK (w : World) (ss : List Ky) (e : Ending) (w' : World) : Prop :=
  ∃ v, e = .returned v ∧ w'.ownsRow w.heap.size 40 2 v ss.length (cellsOfRow keyC ss) ∧ Below w.heap.size w w'

theorem keyC1 (x : Ky) : ∀ u ∈ keyC x, u.oneCell' = true := by
  intro u hu
  simp only [keyC, List.mem_cons, List.not_mem_nil, or_false] at hu
  rcases hu with rfl | rfl <;> rfl
theorem news_key (w : World) (x : Ky) (T : TypeId) (B : Nat) (hB : w.heap.size = B) : ∀ j u, (keyC x)[j]? = some u → (w.alloc (.cells #[.int .u64 x.1, .int .u64 x.2] T)).cell? ((⟨B, 0, none⟩ : Addr).add j) = some u := by
  subst hB
  exact World.news_of_block (heap_alloc_new _ _)
theorem row_snoc {w : World} {base : Nat} {e : TypeId} {v : Value} {l : List Ky} {x : Ky} (h : w.ownsRow base e 2 v (l.length + 1) (cellsOfRow keyC l ++ keyC x)) : w.ownsRow base e 2 v (l ++ [x]).length (cellsOfRow keyC (l ++ [x])) := by
  have e1 : (l ++ [x]).length = l.length + 1 := by simp
  have e2 : cellsOfRow keyC (l ++ [x]) = cellsOfRow keyC l ++ keyC x := by rw [cellsOfRow_append]; simp [cellsOfRow]
  rw [e1, e2]
  exact h
end

end Go.Proofs.YtfegielnmdppgaaGreat
