/- slices.Delete of the first samples of a row of the call's own; append onto a slice without room or elements; slices.Clone; rows that may be such slices; footprints; What is told of samples, plainly: a window's first tick, the samples in it, their values; Decisions (chapters 13 to 16): the plain law; Contracts of the shelf, laid at this program (by lay-plain.mjs; numbers by name). -/
import Derived.Test.YtmniiodpbebnmaaGreatC05
import Derived.ArgAppend
import Derived.Lib.SliceRun
import Derived.Test.YtmniiodpbebnmaaGreatC02
import Derived.Test.YtmniiodpbebnmaaGreatC01
import Derived.Shelf.SlSorted.Search
namespace Go.Proofs.YtmniiodpbebnmaaGreat

section
set_option linter.unusedSimpArgs false
set_option linter.unusedVariables false
open Go.RowKit Go.Lib

section
variable {P : Program} (w : World)
theorem wp_appendN {o : Oper} {a : Act} {K : Act → World → Prop} {Q : Exit → Act → World → Prop} (d s : Operand) (t t' : TypeId)
    (ho : o.op = .call { callee := .builtin .append, args := #[d, s], argTypes := #[t, t'] }) (v u : Value) (hd : a.eval d = v) (hs : a.eval s = u) {v' : Value} {w' : World}
    (hr : (Builtin.append_ #[t, t'] o.type #[v, u]).run P w = .ok v' w') (h : K (a.put o.dst v') w') : o.wp P a w K Q := by
  unfold Oper.wp execOp
  simp only [ho, resolve, invoke, builtin, Sem.run_bind, Sem.run_pure, Result.andThen_ok, List.map_toArray, List.map_cons, List.map_nil, hd, hs, hr]
  exact h
theorem step_appendN {ops : Array Oper} {o : Oper} {a : Act} {K : Act → World → Prop} {Q : Exit → Act → World → Prop} {E : Prop} (hg : o.guard = none) (d s : Operand) (t t' : TypeId)
    (ho : o.op = .call { callee := .builtin .append, args := #[d, s], argTypes := #[t, t'] }) (v u : Value) (hd : a.eval d = v) (hs : a.eval s = u) {v' : Value} {w' : World}
    (hr : (Builtin.append_ #[t, t'] o.type #[v, u]).run P w = .ok v' w') (hK : K (a.put o.dst v') w') :
    if Region.wanted o (yielded ops a.tmps) = true then Oper.wp P o a w K Q else E := by
  have hw : Region.wanted o (yielded ops a.tmps) = true := by simp [Region.wanted, hg]
  rw [if_pos hw]
  exact wp_appendN w d s t t' ho v u hd hs hr hK

theorem run_clearN (t e ty : TypeId) (z : Value) (ht : P.underlying t = some (.slice e)) (hv : ∀ w, (zeroValue e).run P w = .ok z w) (h1 : ∀ u ∈ z.cells.toList, u.oneCell' = true) (g o n c : Nat) (cur : Array Value) (T : TypeId) (hn : 0 < n)
    (hg : w.heap[g]? = some (.cells cur T (0, 0))) (hfit : o + (Builtin.zeroCells z.cells n).size ≤ cur.size) :
    (Builtin.clear_ #[t] ty #[.slice (some ⟨g, o, none⟩) n c]).run P w = .ok (.tuple #[]) (w.setRow g (cur.toList.take o ++ (Builtin.zeroCells z.cells n).toList ++ cur.toList.drop (o + (Builtin.zeroCells z.cells n).toList.length)).toArray) := by
  have h1' : ∀ v ∈ (Builtin.zeroCells z.cells n).toList, v.oneCell' = true := by
    intro v hv'
    rw [Builtin.zeroCells, Array.toList_map] at hv'
    obtain ⟨i, hi, rfl⟩ := List.mem_map.1 hv'
    have hi2 : i < n * z.cells.size := by simpa using hi
    have hpos : 0 < z.cells.size := by
      rcases Nat.eq_zero_or_pos z.cells.size with h0 | h0
      · rw [h0] at hi2; omega
      · exact h0
    have hlt := Nat.mod_lt i hpos
    rw [getElem!_pos z.cells _ hlt]
    exact h1 _ (by simp)
  have hst := run_storeCells_at P g o T (Builtin.zeroCells z.cells n).toList 0 cur w hg (by simpa using hfit) h1'
  simp only [Nat.add_zero] at hst
  obtain ⟨m, rfl⟩ : ∃ m, n = m + 1 := ⟨n - 1, by omega⟩
  simp [Builtin.clear_, run_underlying ht, hv, hst]
end

set_option maxRecDepth 100000 in
/-- append of a list where there is room: in place. -/
theorem run_append_inplace (w : World) (ty : TypeId) (base g c : Nat) (l m : List Smp) (v2 : Value) (hown : OwnL smpC 111 2 base w (.slice (some ⟨g, 0, none⟩) l.length c) l) (hm : RowIn 2 smpC w v2 m) (hroom : l.length + m.length ≤ c) :
    ∃ w', (Builtin.append_ #[57, 57] ty #[.slice (some ⟨g, 0, none⟩) l.length c, v2]).run Tryz.prog w = .ok (.slice (some ⟨g, 0, none⟩) (l.length + m.length) c) w' ∧ OwnL smpC 111 2 base w' (.slice (some ⟨g, 0, none⟩) (l ++ m).length c) (l ++ m) ∧ w.grownBy w' (some g) := by
  obtain ⟨i0, hi0, hz0, hz1, hz2⟩ := info_parts eSmp.hi
  obtain ⟨A2, c2, rfl, hc2, hr⟩ := hm
  cases A2 with
  | none =>
    have h0 : m.length = 0 := by
      rcases Nat.eq_zero_or_pos m.length with h | h
      · exact h
      · obtain ⟨_, _, hA, _⟩ := hr h; cases hA
    obtain rfl : m = [] := List.eq_nil_of_length_eq_zero h0
    refine ⟨w, ?_, by rw [List.append_nil]; exact hown, ⟨rfl, rfl, rfl, Nat.le_refl _, fun _ _ _ => rfl⟩⟩
    exact run_append_nil (P := Tryz.prog) (w := w) base _ ty _ i0 2 c2 eSmp.ht hi0 _ _ _ hown
  | some ad =>
    obtain ⟨w', h1, h2, h3⟩ := run_append_fits (P := Tryz.prog) w base _ ty _ i0 2 eSmp.ht hi0 hz1 g l.length c _ hown ad m.length c2 (cellsOfRow smpC m) (smpRow_len m) (fun j u hu => by
      obtain ⟨y, hy, hyu⟩ := cellsOfRow_split eSmp.hn eSmp.len m j u hu
      have hml : 0 < m.length := Nat.lt_of_le_of_lt (Nat.zero_le _) (List.getElem?_eq_some_iff.1 hy).1
      obtain ⟨b, o', hA, hlt, hat⟩ := hr hml
      injection hA with hA
      subst hA
      have h := hat (j / 2) y hy (j % 2) u hyu
      rw [add_at, ← h]
      have hd : j / 2 * 2 + j % 2 = j := by omega
      rw [Nat.add_assoc, hd]) (cellsOfRow_one eSmp.one m) hroom
    refine ⟨w', h1, ?_, h3⟩
    unfold OwnL
    rw [List.length_append, cellsOfRow_append]
    exact h2

theorem own_prefix {base : Nat} {w : World} {g c : Nat} {l : List Smp} (h : OwnL smpC 111 2 base w (.slice (some ⟨g, 0, none⟩) l.length c) l) : OwnL smpC 111 2 base w (.slice (some ⟨g, 0, none⟩) 0 c) [] := by
  obtain ⟨cur, hg, h1, h3, h4, h5, h6⟩ := own_open h
  exact ⟨rfl, .inr ⟨g, c, cur, rfl, h1, hg, Nat.zero_le _, h4, h5, by simp [cellsOfRow]⟩⟩

set_option maxRecDepth 100000 in
set_option maxHeartbeats 4000000 in
theorem delete_none (base : Nat) (v : Value) (l : List Smp) (w : World) (h : OwnL smpC 111 2 base w v l) (hl : l.length ≤ 1000000) :
    Calls Tryz.prog 234 #[v, .int .i64 0, .int .i64 0] w (RowSays base w v l) := by
  obtain ⟨A, c, rfl⟩ := h.form
  have HO := Lib.hid h
  have hcl : l.length ≤ c := by obtain ⟨_, _, hv, hc, _⟩ := h.row eSmp; injection hv with _ _ e3; omega
  clear h
  go_enter Tryz.func234, Tryz.ntmps234
  go_wp2
  all_goals go_ret
  all_goals exact ⟨A, c, rfl, HO.out, ⟨rfl, rfl, rfl, Nat.le_refl _, fun _ _ _ => rfl⟩, .inl rfl⟩

set_option maxRecDepth 100000 in
set_option maxHeartbeats 4000000 in
theorem delete_some (base g c : Nat) (l : List Smp) (j : Nat) (w : World) (h : OwnL smpC 111 2 base w (.slice (some ⟨g, 0, none⟩) l.length c) l) (hj : 0 < j) (hjl : j ≤ l.length) (hl : l.length ≤ 1000000) :
    Calls Tryz.prog 234 #[.slice (some ⟨g, 0, none⟩) l.length c, .int .i64 0, .int .i64 j] w (RowSays base w (.slice (some ⟨g, 0, none⟩) l.length c) (l.drop j)) := by
  have hcl : l.length ≤ c := by obtain ⟨_, _, _, hc, _⟩ := own_open h; exact hc
  have hcm : c ≤ 9223372036854775807 := by obtain ⟨_, _, _, _, hc, _⟩ := own_open h; exact hc
  obtain ⟨i0, hi0, hz0, hz1, hz2⟩ := info_parts eSmp.hi
  have hd : OwnL smpC 111 2 base w.drew (.slice (some ⟨g, 0, none⟩) l.length c) l := h.below (Below.drew (Below.refl _ _))
  obtain ⟨m, A2, c2, hm, hrf, hRf⟩ := row_from eSmp (hd.row eSmp) j hjl
  have hml : m.length = l.length - j := by rw [hm, List.length_drop]
  have hall : ∀ ty, ∃ w', (Builtin.append_ #[57, 57] ty #[.slice (some ⟨g, 0, none⟩) 0 c, .slice A2 m.length c2]).run Tryz.prog w.drew = .ok (.slice (some ⟨g, 0, none⟩) m.length c) w' ∧ OwnL smpC 111 2 base w' (.slice (some ⟨g, 0, none⟩) m.length c) m ∧ w.drew.grownBy w' (some g) := fun ty => by
    obtain ⟨w', q1, q2, q3⟩ := run_append_inplace w.drew ty base g c [] m _ (own_prefix hd) hRf (by simp; omega)
    refine ⟨w', ?_, q2, q3⟩
    rw [List.length_nil, Nat.zero_add] at q1
    exact q1
  obtain ⟨W1, hrun, ho1, hg1⟩ := hall 57
  obtain ⟨cur, hG1, h1, h3, h4, h5, h6⟩ := own_open ho1
  have hzc : (Builtin.zeroCells (Value.agg #[.int .i64 0, .int .i64 0]).cells (l.length - m.length)).size = (l.length - m.length) * 2 := by
    rw [size_zeroCells]; rfl
  obtain ⟨W2, hW2⟩ : ∃ W2, W2 = W1.setRow g (cur.toList.take (m.length * 2) ++ (Builtin.zeroCells (Value.agg #[.int .i64 0, .int .i64 0]).cells (l.length - m.length)).toList ++ cur.toList.drop (m.length * 2 + (Builtin.zeroCells (Value.agg #[.int .i64 0, .int .i64 0]).cells (l.length - m.length)).toList.length)).toArray := ⟨_, rfl⟩
  have hclr : ∀ ty dc, (Builtin.clear_ #[57] ty #[.slice (some ⟨g, m.length * 2, none⟩) (l.length - m.length) dc]).run Tryz.prog W1 = .ok (.tuple #[]) W2 := fun ty dc => by
    rw [hW2]
    exact run_clearN W1 57 111 ty _ eSmp.ht (fun w => by simp [zeroValue, typeInfo, hi0, hz0]) (fun u hu => by simp [Value.cells] at hu; rcases hu with rfl | rfl <;> rfl) g _ _ dc cur _ (by omega) hG1 (by rw [hzc, h5]; omega)
  have HFIN : RowSays base w (.slice (some ⟨g, 0, none⟩) l.length c) (l.drop j) (.returned (.slice (some ⟨g, 0, none⟩) m.length c)) W2 := by
    rw [← hm]
    refine ⟨some ⟨g, 0, none⟩, c, rfl, ?_, ?_, .inl rfl⟩
    · have hcl2 : cur.toList.length = c * 2 := by simpa using h5
      have hzl : (Builtin.zeroCells (Value.agg #[.int .i64 0, .int .i64 0]).cells (l.length - m.length)).toList.length = (l.length - m.length) * 2 := by simpa using hzc
      refine own_close (cur := (cur.toList.take (m.length * 2) ++ (Builtin.zeroCells (Value.agg #[.int .i64 0, .int .i64 0]).cells (l.length - m.length)).toList ++ cur.toList.drop (m.length * 2 + (Builtin.zeroCells (Value.agg #[.int .i64 0, .int .i64 0]).cells (l.length - m.length)).toList.length)).toArray) ?_ h1 h3 h4 ?_ ?_
      · rw [hW2]; exact setRow_heap W1 g _ _ _ _ hG1
      · simp only [List.size_toArray, List.length_append, List.length_take, List.length_drop, hcl2, hzl]; omega
      · show List.take _ (_ ++ _ ++ _) = _
        rw [List.append_assoc, List.take_append_of_le_length (by rw [List.length_take, hcl2]; omega), List.take_take, Nat.min_self, h6]
    · rw [hW2]
      exact grownBy_trans (grownBy_trans (grownBy_below (Below.drew (Below.refl _ _))) hg1) (grown_setRow _ _ _)
  have HF := Lib.hid HFIN
  have HR := Lib.hid hrun
  have HC := Lib.hid hclr
  have hj1 : ¬ (0 : Int) = (j : Int) := by omega
  have hj0 : (0 : Int) ≤ (j : Int) := by omega
  have hj2 : (j : Int) ≤ (l.length : Int) := by omega
  have hml1 : m.length ≤ l.length := by omega
  have hne : ¬ c = m.length := by omega
  have hc0 : ¬ c = 0 := by omega
  clear HFIN hrun hclr hW2 hzc h6 h5 hG1 hg1 ho1 hd hRf hm hml h hall
  have hclr := HC.out
  go_enter Tryz.func234, Tryz.ntmps234
  go_wp2_with fail
  go_region_law (refine step_appendN _ (by rfl) (.tmp 22) (.tmp 25) 57 57 (by rfl) _ _ (by rfl) (by rfl) HR.out ?_)
  go_wp2
  go_ret
  exact HF.out

theorem delete_any (base : Nat) (v : Value) (l : List Smp) (j : Nat) (w : World) (h : OwnL smpC 111 2 base w v l) (hj : j ≤ l.length) (hl : l.length ≤ 1000000) :
    Calls Tryz.prog 234 #[v, .int .i64 0, .int .i64 j] w (RowSays base w v (l.drop j)) := by
  by_cases h0 : j = 0
  · subst h0
    exact delete_none base v l w h hl
  · rcases Go.Joins.ownsRow_forms h with ⟨rfl, hz⟩ | ⟨g, c, rfl⟩
    · omega
    · exact delete_some base g c l j w h (by omega) hj hl
end

section
set_option linter.unusedSimpArgs false
set_option linter.unusedVariables false
open Go.RowKit Go.Lib

section
variable {α : Type} {t e : TypeId} {n bytes : Nat} {z : Value} {f : α → List Value}
/-- A row of one's own; its footprint. -/
def SRow (f : α → List Value) (e : TypeId) (n : Nat) (w : World) (v : Value) (l : List α) (fp : List Nat) : Prop := OwnL f e n 0 w v l ∧ fp = v.ownBlock.toList
theorem SRow.form {w : World} {v : Value} {l : List α} {fp : List Nat} (h : SRow f e n w v l fp) : ∃ A c, v = .slice A l.length c := h.1.form
theorem SRow.row (E : EltOf t e n bytes z f) {w : World} {v : Value} {l : List α} {fp : List Nat} (h : SRow f e n w v l fp) : RowIn n f w v l := h.1.row E
theorem SRow.kept {w w' : World} {v : Value} {l : List α} {fp : List Nat} (h : SRow f e n w v l fp) (hb : ∀ r ∈ fp, w'.heap[r]? = w.heap[r]?) : SRow f e n w' v l fp := by
  obtain ⟨h, rfl⟩ := h
  exact ⟨h.kept (fun r hr => hb r (by rw [hr]; simp)), rfl⟩
theorem SRow.lt {w : World} {v : Value} {l : List α} {fp : List Nat} (h : SRow f e n w v l fp) : ∀ r ∈ fp, r < w.heap.size := by
  obtain ⟨h, rfl⟩ := h
  intro r hr
  have : v.ownBlock = some r := by simpa using hr
  exact (h.lt this).2
theorem SRow.below {w w' : World} {v : Value} {l : List α} {fp : List Nat} (h : SRow f e n w v l fp) (hb : Below w.heap.size w w') : SRow f e n w' v l fp := h.kept (fun r hr => hb.block r (h.lt r hr))
theorem SRow.nil (w : World) : SRow f e n w (.slice none 0 0) ([] : List α) [] := ⟨OwnL.nil _ _, rfl⟩
theorem SRow.of (w : World) {v : Value} {l : List α} {base : Nat} (h : OwnL f e n base w v l) : SRow f e n w v l v.ownBlock.toList := ⟨h.lower (Nat.zero_le _), rfl⟩
end

/-- Only the blocks fp have turned; what stands now stands in fp'. -/
structure Upd (w w' : World) (fp fp' : List Nat) : Prop where
  os : w'.os = w.os
  tape : w'.tape = w.tape
  output : w'.output = w.output
  size : w.heap.size ≤ w'.heap.size
  block : ∀ k, k < w.heap.size → k ∉ fp → w'.heap[k]? = w.heap[k]?
  fresh : ∀ k ∈ fp', k ∈ fp ∨ w.heap.size ≤ k
theorem Upd.refl (w : World) (fp : List Nat) : Upd w w fp fp := ⟨rfl, rfl, rfl, Nat.le_refl _, fun _ _ _ => rfl, fun _ h => .inl h⟩
theorem Upd.trans {w a b : World} {fp fq fr : List Nat} (h : Upd w a fp fq) (k : Upd a b fq fr) : Upd w b fp fr :=
  ⟨k.os.trans h.os, k.tape.trans h.tape, k.output.trans h.output, Nat.le_trans h.size k.size,
    fun i hi hn => (k.block i (Nat.lt_of_lt_of_le hi h.size) (fun hq => (h.fresh i hq).elim hn (fun h' => by omega))).trans (h.block i hi hn),
    fun i hi => (k.fresh i hi).elim (h.fresh i) (fun h' => .inr (Nat.le_trans h.size h'))⟩
theorem Upd.of_below {w w' : World} (h : Below w.heap.size w w') (fp : List Nat) : Upd w w' fp fp := ⟨h.os, h.tape, h.output, h.size, fun k hk _ => h.block k hk, fun _ h => .inl h⟩
theorem Upd.below {w w' : World} {fp fp' : List Nat} {B : Nat} (h : Upd w w' fp fp') (hB : B ≤ w.heap.size) (hf : ∀ k ∈ fp, B ≤ k) : Below B w w' :=
  ⟨h.os, h.tape, h.output, h.size, fun k hk => h.block k (by omega) (fun hk' => by have := hf k hk'; omega)⟩
theorem Upd.mono {w w' : World} {fp fp' fq fq' : List Nat} (h : Upd w w' fp fp') (h1 : ∀ k ∈ fp, k ∈ fq) (h2 : ∀ k ∈ fq', k ∈ fq ∨ w.heap.size ≤ k) : Upd w w' fq fq' :=
  ⟨h.os, h.tape, h.output, h.size, fun k hk hn => h.block k hk (fun hk' => hn (h1 k hk')), h2⟩
theorem Upd.set {w : World} (r i : Nat) (v : Value) (fp : List Nat) (h : r ∈ fp) : Upd w (w.setCell ⟨r, i, none⟩ v) fp fp :=
  ⟨rfl, rfl, rfl, by simp [World.setCell], fun k _ hk => Below.heap_setCell _ _ _ _ (fun e => hk (by have e' : k = r := e; rw [e']; exact h)), fun _ h => .inl h⟩

/-- What Clone says. -/
def CloneS {α : Type} (f : α → List Value) (e : TypeId) (n : Nat) (w : World) (l : List α) (en : Ending) (w' : World) : Prop :=
  ∃ A c fp, en = .returned (.slice A l.length c) ∧ SRow f e n w' (.slice A l.length c) l fp ∧ (∀ k ∈ fp, w.heap.size ≤ k) ∧ Below w.heap.size w w'

/-- A decision. -/
structure Adv where
  tick : Int
  load : Int
  want : Int
  repl : Int
  why : Int
def adv0 : Adv := ⟨0, 0, 0, 0, 0⟩
def advC (a : Adv) : List Value := [.int .i64 a.tick, .int .i64 a.load, .int .i64 a.want, .int .i64 a.repl, .int .i64 a.why]
theorem eAdv : EltOf 58 44 5 40 (.agg #[.int .i64 0, .int .i64 0, .int .i64 0, .int .i64 0, .int .i64 0]) advC :=
  ⟨by kernel_rfl, by kernel_rfl, rfl, by decide, by decide, fun _ => rfl, fun x u hu => by
    simp only [advC, List.mem_cons, List.not_mem_nil, or_false] at hu
    rcases hu with rfl | rfl | rfl | rfl | rfl <;> rfl⟩

set_option maxRecDepth 100000 in
set_option maxHeartbeats 2000000 in
theorem cloneS_any (v : Value) (l : List Smp) (w : World) (hv : RowIn 2 smpC w v l) (hl : l.length ≤ 1000000) :
    Calls Tryz.prog 127 #[v] w (CloneS smpC 111 2 w l) := by
  obtain ⟨A, c, rfl⟩ := hv.form
  cases A with
  | none =>
    have h0 : l.length = 0 := by
      obtain ⟨A1, c1, e1, _, hr⟩ := hv
      injection e1 with e1 _ _
      rcases Nat.eq_zero_or_pos l.length with h | h
      · exact h
      · obtain ⟨_, _, hA, _⟩ := hr h; rw [hA] at e1; cases e1
    obtain rfl : l = [] := List.eq_nil_of_length_eq_zero h0
    have hq : ∀ W, (binOp .eql 57 (.slice none 0 c) (.slice none 0 0)).run Tryz.prog W = .ok (.bool true) W := fun W => Lib.run_eql_slice_nil W _ _ none 0 c 0 0 eSmp.ht
    clear hv h0
    go_enter Tryz.func127, Tryz.ntmps127
    go_wp2
    go_ret
    exact ⟨none, 0, [], rfl, SRow.nil _, fun k hk => by simp at hk, Below.refl _ _⟩
  | some ad =>
    have HV := Lib.hid hv
    have hq : ∀ W, (binOp .eql 57 (.slice (some ad) l.length c) (.slice none 0 0)).run Tryz.prog W = .ok (.bool false) W := fun W => Lib.run_eql_slice_nil W _ _ (some ad) l.length c 0 0 eSmp.ht
    clear hv
    go_enter Tryz.func127, Tryz.ntmps127
    go_wp2_with (at_builtin; refine wpList_appendL eSmp (by rfl) (s := .tmp 5) (x := .tmp 6) (by rfl) w.heap.size [] l _ _ (by rfl) (by rfl) (OwnL.lit0 _ w _ _ rfl (Nat.le_refl _)) (HV.out.below (balloc (Below.refl _ _) _)) (by simp; omega) (by simp) ?_; intro out A2 c2 w2 hout hown hg _; have HOUT := Lib.hid hout; have HO := Lib.hid hown; have HG := Lib.hid hg; clear hout hown hg)
    go_ret
    have e1 : out = l := by rw [HOUT.out]; rfl
    subst e1
    exact ⟨A2, c2, _, rfl, SRow.of _ HO.out, fun k hk => (HO.out.lt (by simpa using hk)).1, (balloc (Below.refl _ _) _).trans (grown_below HG.out (by simp) (fun r hr => by have hr' : some w.heap.size = some r := hr; injection hr'; omega))⟩

set_option maxRecDepth 100000 in
set_option maxHeartbeats 2000000 in
theorem cloneA_any (v : Value) (l : List Adv) (w : World) (hv : RowIn 5 advC w v l) (hl : l.length ≤ 1000000) :
    Calls Tryz.prog 137 #[v] w (CloneS advC 44 5 w l) := by
  obtain ⟨A, c, rfl⟩ := hv.form
  cases A with
  | none =>
    have h0 : l.length = 0 := by
      obtain ⟨A1, c1, e1, _, hr⟩ := hv
      injection e1 with e1 _ _
      rcases Nat.eq_zero_or_pos l.length with h | h
      · exact h
      · obtain ⟨_, _, hA, _⟩ := hr h; rw [hA] at e1; cases e1
    obtain rfl : l = [] := List.eq_nil_of_length_eq_zero h0
    have hq : ∀ W, (binOp .eql 58 (.slice none 0 c) (.slice none 0 0)).run Tryz.prog W = .ok (.bool true) W := fun W => Lib.run_eql_slice_nil W _ _ none 0 c 0 0 eAdv.ht
    clear hv h0
    go_enter Tryz.func137, Tryz.ntmps137
    go_wp2
    go_ret
    exact ⟨none, 0, [], rfl, SRow.nil _, fun k hk => by simp at hk, Below.refl _ _⟩
  | some ad =>
    have HV := Lib.hid hv
    have hq : ∀ W, (binOp .eql 58 (.slice (some ad) l.length c) (.slice none 0 0)).run Tryz.prog W = .ok (.bool false) W := fun W => Lib.run_eql_slice_nil W _ _ (some ad) l.length c 0 0 eAdv.ht
    clear hv
    go_enter Tryz.func137, Tryz.ntmps137
    go_wp2_with (at_builtin; refine wpList_appendL eAdv (by rfl) (s := .tmp 5) (x := .tmp 6) (by rfl) w.heap.size [] l _ _ (by rfl) (by rfl) (OwnL.lit0 _ w _ _ rfl (Nat.le_refl _)) (HV.out.below (balloc (Below.refl _ _) _)) (by simp; omega) (by simp) ?_; intro out A2 c2 w2 hout hown hg _; have HOUT := Lib.hid hout; have HO := Lib.hid hown; have HG := Lib.hid hg; clear hout hown hg)
    go_ret
    have e1 : out = l := by rw [HOUT.out]; rfl
    subst e1
    exact ⟨A2, c2, _, rfl, SRow.of _ HO.out, fun k hk => (HO.out.lt (by simpa using hk)).1, (balloc (Below.refl _ _) _).trans (grown_below HG.out (by simp) (fun r hr => by have hr' : some w.heap.size = some r := hr; injection hr'; omega))⟩
end

section
set_option linter.unusedSimpArgs false
set_option linter.unusedVariables false
open Go.RowKit Go.Lib

def fromW (til wd : Int) : Int := endsI (endsI (til - wd) + 1)
def winC (l : List Smp) (a b : Int) : List Smp := l.filter fun s => decide (a ≤ s.1) && decide (s.1 ≤ b)
def valsW (l : List Smp) : List Int := l.map fun s => max s.2 0
def minL : List Int → Int
  | [] => 0
  | n :: l => l.foldl min n
def maxL : List Int → Int
  | [] => 0
  | n :: l => l.foldl max n
/-- What a Stat has. -/
structure StD where
  cnt : Int
  sum : Int
  least : Int
  most : Int
  mean : Int
def stV (s : StD) : Value := .agg #[.int .i64 s.cnt, .int .i64 s.sum, .int .i64 s.least, .int .i64 s.most, .int .i64 s.mean]
def st0 : StD := ⟨0, 0, 0, 0, 0⟩
def statN (v : List Int) : StD := if v = [] then st0 else ⟨v.length, sumE v 0, minL v, maxL v, meanN v⟩
def statW (l : List Smp) (til wd : Int) : StD := statN (valsW (winC l (fromW til wd) til))
def smpI (l : List Smp) : Prop := ∀ s ∈ l, I64 s.1 ∧ I64 s.2
theorem smpI.cut {l : List Smp} (h : smpI l) (a b : Int) : smpI (winC l a b) := fun s hs => h s (List.mem_filter.1 hs).1
theorem vals_i64 {l : List Smp} (h : smpI l) : ∀ n ∈ valsW l, 0 ≤ n ∧ n ≤ 9223372036854775807 := fun n hn => by
  obtain ⟨s, hs, rfl⟩ := List.mem_map.1 hn
  have := (h s hs).2
  unfold I64 at this
  omega
theorem vals_len (l : List Smp) : (valsW l).length = l.length := by simp [valsW]
theorem cut_len (l : List Smp) (a b : Int) : (winC l a b).length ≤ l.length := List.length_filter_le _ _
theorem winC_snoc (l : List Smp) (a b : Int) (s : Smp) : winC (l ++ [s]) a b = winC l a b ++ if a ≤ s.1 ∧ s.1 ≤ b then [s] else [] := by
  unfold winC
  rw [List.filter_append]
  congr 1
  by_cases h1 : a ≤ s.1 <;> by_cases h2 : s.1 ≤ b <;> simp [h1, h2]
theorem valsW_snoc (l : List Smp) (s : Smp) : valsW (l ++ [s]) = valsW l ++ [max s.2 0] := by simp [valsW]
theorem minL_snoc {l : List Int} (h : l ≠ []) (n : Int) : minL (l ++ [n]) = min (minL l) n := by
  cases l with
  | nil => exact absurd rfl h
  | cons a l => simp [minL, List.foldl_append]
theorem maxL_snoc {l : List Int} (h : l ≠ []) (n : Int) : maxL (l ++ [n]) = max (maxL l) n := by
  cases l with
  | nil => exact absurd rfl h
  | cons a l => simp [maxL, List.foldl_append]
theorem totN_snoc (l : List Int) (n : Int) : totN (l ++ [n]) = totN l + n.toNat := by rw [totN_append]; simp [totN]
def StD.ok (s : StD) : Prop := I64 s.cnt ∧ I64 s.sum ∧ I64 s.least ∧ I64 s.most ∧ I64 s.mean
theorem ceilI_ok {a b : Int} (h : I64 a) : I64 (ceilI a b) := by
  unfold ceilI I64 at *
  split
  · omega
  · rename_i hb
    split
    · have : a.tdiv b = -((-a) / b) := by rw [← Int.neg_neg a, Int.neg_tdiv, Int.tdiv_eq_ediv_of_nonneg (by omega)]; simp
      rw [this]
      have h3 : 0 ≤ (-a) / b := Int.ediv_nonneg (by omega) (by omega)
      have h4 : (-a) / b ≤ -a := Int.ediv_le_self _ (by omega)
      omega
    · rw [Int.tdiv_eq_ediv_of_nonneg (by omega)]
      have h3 : 0 ≤ (a - 1) / b := Int.ediv_nonneg (by omega) (by omega)
      have h4 : (a - 1) / b ≤ a - 1 := Int.ediv_le_self _ (by omega)
      omega
end

section
set_option linter.unusedSimpArgs false
set_option linter.unusedVariables false
open Go.RowKit Go.Lib

/-- Whether a load is about what so many want. -/
def nearI (p : Pol) (load now : Int) : Bool :=
  polB p && (decide (1 ≤ now ∧ now ≤ 1073741824) &&
    (decide (load.toNat * 1000 ≤ now.toNat * p.tg.toNat * 1000 + now.toNat * p.tg.toNat * p.tol.toNat) &&
     decide (now.toNat * p.tg.toNat * 1000 ≤ load.toNat * 1000 + now.toNat * p.tg.toNat * p.tol.toNat)))
def wantP (p : Pol) (load : Int) : Int := if polB p = true then ceilI (max load 0) p.tg else 0
def boundI (p : Pol) (n : Int) : Int := if polB p = true then clampI n p.mn p.mx else 0
def openI (p : Pol) (load now : Int) : Int := if nearI p load now = true then now else wantP p load
/-- The greatest Want of the time that is held: what is best so far, and whether there is one. -/
def highS (a b : Int) (s : Int × Bool) (x : Adv) : Int × Bool :=
  if a < x.tick ∧ x.tick ≤ b ∧ (s.2 = false ∨ s.1 < x.want) then (x.want, true) else s
def highI (l : List Adv) (tick hold : Int) : Int × Bool := l.foldl (highS (endsI (tick - hold)) tick) (0, false)
theorem highI_snoc (l : List Adv) (x : Adv) (a b : Int) (s : Int × Bool) : (l ++ [x]).foldl (highS a b) s = highS a b (l.foldl (highS a b) s) x := by simp
def steadyI (p : Pol) (tick want : Int) (past : List Adv) : Int × Bool :=
  if (highI past tick p.hold).2 = true ∧ want < (highI past tick p.hold).1 then ((highI past tick p.hold).1, true) else (want, false)
/-- The greatest tick. -/
def latestI : List Smp → Int
  | [] => 0
  | s :: l => l.foldl (fun b x => max b x.1) s.1
def nowI (p : Pol) (past : List Adv) : Int := match past.getLast? with
  | none => p.mn
  | some a => a.repl
def whyI (p : Pol) (held : Bool) (op now til : Int) : Int :=
  if held = true then 4 else if p.mx < op then 6 else if op < p.mn then 5 else if now < til then 2 else if til < now then 3 else 1
/-- A decision, and an error. -/
def decI (p : Pol) (l : List Smp) (past : List Adv) : Adv × Int :=
  if polB p = false then (adv0, 7)
  else if l = [] then (adv0, 5)
  else
    let tick := latestI l
    let load : Int := (meanN (valsW (winC l (fromW tick p.win) tick)) : Nat)
    let now := nowI p past
    let op := openI p load now
    let want := boundI p op
    let st := steadyI p tick want past
    let til := boundI p st.1
    (⟨tick, load, want, til, whyI p st.2 op now til⟩, 0)
theorem statW_mean (l : List Smp) (til wd : Int) : (statW l til wd).mean = (meanN (valsW (winC l (fromW til wd) til)) : Nat) := by
  unfold statW statN
  split
  · rename_i h; rw [h]; rfl
  · rfl
end

section
set_option linter.unusedSimpArgs false
set_option linter.unusedVariables false
open Go.Shelf
def searchS_ren : Go.Shelf.Ren := ⟨fun | 16 => 279 | n => n, fun | 3 => 3 | 35 => 185 | 4 => 4 | 38 => 233 | n => n, fun | n => n⟩
theorem searchS : Go.Proofs.SlLaysO.n16 Tryz.prog searchS_ren := {
  mixed := by kernel_rfl
  f16 := Tryz.func279.trans (congrArg some (by kernel_rfl))
  t3 := Tryz.underlying3
  a3 := Tryz.isAgg3
  z3 := Tryz.sizeOf3
  v3 := Tryz.zeroValue3
  t4 := Tryz.underlying4
  a4 := Tryz.isAgg4
  z4 := Tryz.sizeOf4
  v4 := Tryz.zeroValue4
  t35 := Tryz.underlying185
  a35 := Tryz.isAgg185
  z35 := Tryz.sizeOf185
  v35 := Tryz.zeroValue185
  t38 := Tryz.underlying233
  a38 := Tryz.isAgg233
  z38 := Tryz.sizeOf233
  v38 := Tryz.zeroValue233 }
end

end Go.Proofs.YtmniiodpbebnmaaGreat
