/- append onto a slice without room or elements; slices.Clone; rows that may be such slices; footprints; Contracts of the shelf, laid at this program (by lay-plain.mjs; numbers by name). -/
import Derived.Test.YtfegielnmdppgaaJ22
import Derived.ArgAppend
import Derived.Lib.SliceRun
import Derived.Test.YtfegielnmdppgaaJ01
import Derived.Shelf.SlSorted.Search
namespace Go.Proofs.Ytfegielnmdppgaa

section
set_option linter.unusedSimpArgs false
set_option linter.unusedVariables false
open Go.RowKit Go.Lib

section
variable {α : Type} {t e : TypeId} {n bytes : Nat} {z : Value} {f : α → List Value}
/-- A row of one's own; its footprint. -/
def SRow (f : α → List Value) (e : TypeId) (n : Nat) (w : World) (v : Value) (l : List α) (fp : List Nat) : Prop := OwnL f e n 0 w v l ∧ fp = v.ownBlock.toList
theorem SRow.form {w : World} {v : Value} {l : List α} {fp : List Nat} (h : SRow f e n w v l fp) : ∃ A c, v = .slice A l.length c := h.1.form
theorem SRow.row (E : EltOf t e n bytes z f) {w : World} {v : Value} {l : List α} {fp : List Nat} (h : SRow f e n w v l fp) : RowIn n f w v l := h.1.row E
theorem SRow.kept {w w' : World} {v : Value} {l : List α} {fp : List Nat} (h : SRow f e n w v l fp) (hb : ∀ r ∈ fp, w'.heap[r]? = w.heap[r]?) : SRow f e n w' v l fp := by
  obtain ⟨h, rfl⟩ := h
  exact ⟨h.kept (fun r hr => hb r (by rw [hr]; simp)), rfl⟩
theorem SRow.lt {w : World} {v : Value} {l : List α} {fp : List Nat} (h : SRow f e n w v l fp) : ∀ r ∈ fp, r < w.heap.size := by
  obtain ⟨h, rfl⟩ := h
  intro r hr
  have : v.ownBlock = some r := by simpa using hr
  exact (h.lt this).2
theorem SRow.below {w w' : World} {v : Value} {l : List α} {fp : List Nat} (h : SRow f e n w v l fp) (hb : Below w.heap.size w w') : SRow f e n w' v l fp := h.kept (fun r hr => hb.block r (h.lt r hr))
theorem SRow.nil (w : World) : SRow f e n w (.slice none 0 0) ([] : List α) [] := ⟨OwnL.nil _ _, rfl⟩
theorem SRow.of (w : World) {v : Value} {l : List α} {base : Nat} (h : OwnL f e n base w v l) : SRow f e n w v l v.ownBlock.toList := ⟨h.lower (Nat.zero_le _), rfl⟩
end

/-- Only the blocks fp have turned; what stands now stands in fp'. -/
structure Upd (w w' : World) (fp fp' : List Nat) : Prop where
  os : w'.os = w.os
  tape : w'.tape = w.tape
  output : w'.output = w.output
  size : w.heap.size ≤ w'.heap.size
  block : ∀ k, k < w.heap.size → k ∉ fp → w'.heap[k]? = w.heap[k]?
  fresh : ∀ k ∈ fp', k ∈ fp ∨ w.heap.size ≤ k
theorem Upd.refl (w : World) (fp : List Nat) : Upd w w fp fp := ⟨rfl, rfl, rfl, Nat.le_refl _, fun _ _ _ => rfl, fun _ h => .inl h⟩
theorem Upd.trans {w a b : World} {fp fq fr : List Nat} (h : Upd w a fp fq) (k : Upd a b fq fr) : Upd w b fp fr :=
  ⟨k.os.trans h.os, k.tape.trans h.tape, k.output.trans h.output, Nat.le_trans h.size k.size,
    fun i hi hn => (k.block i (Nat.lt_of_lt_of_le hi h.size) (fun hq => (h.fresh i hq).elim hn (fun h' => by omega))).trans (h.block i hi hn),
    fun i hi => (k.fresh i hi).elim (h.fresh i) (fun h' => .inr (Nat.le_trans h.size h'))⟩
theorem Upd.of_below {w w' : World} (h : Below w.heap.size w w') (fp : List Nat) : Upd w w' fp fp := ⟨h.os, h.tape, h.output, h.size, fun k hk _ => h.block k hk, fun _ h => .inl h⟩
theorem Upd.below {w w' : World} {fp fp' : List Nat} {B : Nat} (h : Upd w w' fp fp') (hB : B ≤ w.heap.size) (hf : ∀ k ∈ fp, B ≤ k) : Below B w w' :=
  ⟨h.os, h.tape, h.output, h.size, fun k hk => h.block k (by omega) (fun hk' => by have := hf k hk'; omega)⟩
theorem Upd.mono {w w' : World} {fp fp' fq fq' : List Nat} (h : Upd w w' fp fp') (h1 : ∀ k ∈ fp, k ∈ fq) (h2 : ∀ k ∈ fq', k ∈ fq ∨ w.heap.size ≤ k) : Upd w w' fq fq' :=
  ⟨h.os, h.tape, h.output, h.size, fun k hk hn => h.block k hk (fun hk' => hn (h1 k hk')), h2⟩
theorem Upd.set {w : World} (r i : Nat) (v : Value) (fp : List Nat) (h : r ∈ fp) : Upd w (w.setCell ⟨r, i, none⟩ v) fp fp :=
  ⟨rfl, rfl, rfl, by simp [World.setCell], fun k _ hk => Below.heap_setCell _ _ _ _ (fun e => hk (by have e' : k = r := e; rw [e']; exact h)), fun _ h => .inl h⟩

/-- What Clone says. -/
def CloneS {α : Type} (f : α → List Value) (e : TypeId) (n : Nat) (w : World) (l : List α) (en : Ending) (w' : World) : Prop :=
  ∃ A c fp, en = .returned (.slice A l.length c) ∧ SRow f e n w' (.slice A l.length c) l fp ∧ (∀ k ∈ fp, w.heap.size ≤ k) ∧ Below w.heap.size w w'

/-- A decision. -/
structure Adv where
  tick : Int
  load : Int
  want : Int
  repl : Int
  why : Int
def advC (a : Adv) : List Value := [.int .i64 a.tick, .int .i64 a.load, .int .i64 a.want, .int .i64 a.repl, .int .i64 a.why]
theorem eAdv : EltOf 93 80 5 40 (.agg #[.int .i64 0, .int .i64 0, .int .i64 0, .int .i64 0, .int .i64 0]) advC :=
  ⟨by kernel_rfl, by kernel_rfl, rfl, by decide, by decide, fun _ => rfl, fun x u hu => by
    simp only [advC, List.mem_cons, List.not_mem_nil, or_false] at hu
    rcases hu with rfl | rfl | rfl | rfl | rfl <;> rfl⟩

set_option maxRecDepth 100000 in
set_option maxHeartbeats 2000000 in
theorem cloneS_any (v : Value) (l : List Smp) (w : World) (hv : RowIn 2 smpC w v l) (hl : l.length ≤ 1000000) :
    Calls Try.prog 50 #[v] w (CloneS smpC 65 2 w l) := by
  obtain ⟨A, c, rfl⟩ := hv.form
  cases A with
  | none =>
    have h0 : l.length = 0 := by
      obtain ⟨A1, c1, e1, _, hr⟩ := hv
      injection e1 with e1 _ _
      rcases Nat.eq_zero_or_pos l.length with h | h
      · exact h
      · obtain ⟨_, _, hA, _⟩ := hr h; rw [hA] at e1; cases e1
    obtain rfl : l = [] := List.eq_nil_of_length_eq_zero h0
    have hq : ∀ W, (binOp .eql 62 (.slice none 0 c) (.slice none 0 0)).run Try.prog W = .ok (.bool true) W := fun W => Lib.run_eql_slice_nil W _ _ none 0 c 0 0 eSmp.ht
    clear hv h0
    go_enter Try.func50, Try.ntmps50
    go_wp2
    go_ret
    exact ⟨none, 0, [], rfl, SRow.nil _, fun k hk => by simp at hk, Below.refl _ _⟩
  | some ad =>
    have HV := Lib.hid hv
    have hq : ∀ W, (binOp .eql 62 (.slice (some ad) l.length c) (.slice none 0 0)).run Try.prog W = .ok (.bool false) W := fun W => Lib.run_eql_slice_nil W _ _ (some ad) l.length c 0 0 eSmp.ht
    clear hv
    go_enter Try.func50, Try.ntmps50
    go_wp2_with (at_builtin; refine wpList_appendL eSmp (by rfl) (s := .tmp 5) (x := .tmp 6) (by rfl) w.heap.size [] l _ _ (by rfl) (by rfl) (OwnL.lit0 _ w _ _ rfl (Nat.le_refl _)) (HV.out.below (balloc (Below.refl _ _) _)) (by simp; omega) (by simp) ?_; intro out A2 c2 w2 hout hown hg _; have HOUT := Lib.hid hout; have HO := Lib.hid hown; have HG := Lib.hid hg; clear hout hown hg)
    go_ret
    have e1 : out = l := by rw [HOUT.out]; rfl
    subst e1
    exact ⟨A2, c2, _, rfl, SRow.of _ HO.out, fun k hk => (HO.out.lt (by simpa using hk)).1, (balloc (Below.refl _ _) _).trans (grown_below HG.out (by simp) (fun r hr => by have hr' : some w.heap.size = some r := hr; injection hr'; omega))⟩

set_option maxRecDepth 100000 in
set_option maxHeartbeats 2000000 in
theorem cloneA_any (v : Value) (l : List Adv) (w : World) (hv : RowIn 5 advC w v l) (hl : l.length ≤ 1000000) :
    Calls Try.prog 54 #[v] w (CloneS advC 80 5 w l) := by
  obtain ⟨A, c, rfl⟩ := hv.form
  cases A with
  | none =>
    have h0 : l.length = 0 := by
      obtain ⟨A1, c1, e1, _, hr⟩ := hv
      injection e1 with e1 _ _
      rcases Nat.eq_zero_or_pos l.length with h | h
      · exact h
      · obtain ⟨_, _, hA, _⟩ := hr h; rw [hA] at e1; cases e1
    obtain rfl : l = [] := List.eq_nil_of_length_eq_zero h0
    have hq : ∀ W, (binOp .eql 93 (.slice none 0 c) (.slice none 0 0)).run Try.prog W = .ok (.bool true) W := fun W => Lib.run_eql_slice_nil W _ _ none 0 c 0 0 eAdv.ht
    clear hv h0
    go_enter Try.func54, Try.ntmps54
    go_wp2
    go_ret
    exact ⟨none, 0, [], rfl, SRow.nil _, fun k hk => by simp at hk, Below.refl _ _⟩
  | some ad =>
    have HV := Lib.hid hv
    have hq : ∀ W, (binOp .eql 93 (.slice (some ad) l.length c) (.slice none 0 0)).run Try.prog W = .ok (.bool false) W := fun W => Lib.run_eql_slice_nil W _ _ (some ad) l.length c 0 0 eAdv.ht
    clear hv
    go_enter Try.func54, Try.ntmps54
    go_wp2_with (at_builtin; refine wpList_appendL eAdv (by rfl) (s := .tmp 5) (x := .tmp 6) (by rfl) w.heap.size [] l _ _ (by rfl) (by rfl) (OwnL.lit0 _ w _ _ rfl (Nat.le_refl _)) (HV.out.below (balloc (Below.refl _ _) _)) (by simp; omega) (by simp) ?_; intro out A2 c2 w2 hout hown hg _; have HOUT := Lib.hid hout; have HO := Lib.hid hown; have HG := Lib.hid hg; clear hout hown hg)
    go_ret
    have e1 : out = l := by rw [HOUT.out]; rfl
    subst e1
    exact ⟨A2, c2, _, rfl, SRow.of _ HO.out, fun k hk => (HO.out.lt (by simpa using hk)).1, (balloc (Below.refl _ _) _).trans (grown_below HG.out (by simp) (fun r hr => by have hr' : some w.heap.size = some r := hr; injection hr'; omega))⟩
end

section
set_option linter.unusedSimpArgs false
set_option linter.unusedVariables false
open Go.Shelf
def searchS_ren : Go.Shelf.Ren := ⟨fun | 16 => 44 | n => n, fun | 3 => 3 | 35 => 74 | 4 => 4 | 38 => 107 | n => n, fun | n => n⟩
theorem searchS : Go.Proofs.SlLaysO.n16 Try.prog searchS_ren := {
  mixed := by kernel_rfl
  f16 := Try.func44.trans (congrArg some (by kernel_rfl))
  t3 := Try.underlying3
  a3 := Try.isAgg3
  z3 := Try.sizeOf3
  v3 := Try.zeroValue3
  t4 := Try.underlying4
  a4 := Try.isAgg4
  z4 := Try.sizeOf4
  v4 := Try.zeroValue4
  t35 := Try.underlying74
  a35 := Try.isAgg74
  z35 := Try.sizeOf74
  v35 := Try.zeroValue74
  t38 := Try.underlying107
  a38 := Try.isAgg107
  z38 := Try.sizeOf107
  v38 := Try.zeroValue107 }
end

end Go.Proofs.Ytfegielnmdppgaa
