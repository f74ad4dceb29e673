/- series.Series in memory: New, place, List; Walk of ident.Pack; The walk of ident's Cmp; Walks of ident's at, letter, Unpack, Right, Cmp; Walks of flywheelref03's place, Id, Key, Before; Walks of what checks configs, policies, calls: route.Right, node.Right, series.Right, policy.Check, store.Check, and the references' twins. -/
import Derived.Test.YtmniiodpbebnmaaGreatC06
import Derived.Sort.Grow
import Derived.Shelf.SlSorted.Search
import Derived.Test.YtmniiodpbebnmaaGreatC01
namespace Go.Proofs.YtmniiodpbebnmaaGreat

section
set_option linter.unusedSimpArgs false
set_option linter.unusedVariables false
open Go.RowKit Go.Lib Go.Sort Go.Shelf

/-- A series at block S: its samples, its room; its footprint. -/
def SerIn (w : World) (S : Nat) (l : List Smp) (room : Int) (fp : List Nat) : Prop :=
  ∃ v fr, w.heap[S]? = some (.cells #[v, .int .i64 room] 270 (0, 0)) ∧ SRow smpC 111 2 w v l fr ∧ S ∉ fr ∧ fp = S :: fr
theorem SerIn.kept {w w' : World} {S : Nat} {l : List Smp} {room : Int} {fp : List Nat} (h : SerIn w S l room fp) (hb : ∀ r ∈ fp, w'.heap[r]? = w.heap[r]?) : SerIn w' S l room fp := by
  obtain ⟨v, fr, h1, h2, h3, rfl⟩ := h
  exact ⟨v, fr, (hb S (List.mem_cons_self ..)).trans h1, h2.kept (fun r hr => hb r (List.mem_cons_of_mem _ hr)), h3, rfl⟩
theorem SerIn.lt {w : World} {S : Nat} {l : List Smp} {room : Int} {fp : List Nat} (h : SerIn w S l room fp) : ∀ r ∈ fp, r < w.heap.size := by
  obtain ⟨v, fr, h1, h2, h3, rfl⟩ := h
  intro r hr
  rcases List.mem_cons.1 hr with rfl | hr
  · exact (Array.getElem?_eq_some_iff.1 h1).1
  · exact h2.lt r hr
theorem SerIn.below {w w' : World} {S : Nat} {l : List Smp} {room : Int} {fp : List Nat} (h : SerIn w S l room fp) (hb : Below w.heap.size w w') : SerIn w' S l room fp := h.kept (fun r hr => hb.block r (h.lt r hr))
theorem SerIn.mem {w : World} {S : Nat} {l : List Smp} {room : Int} {fp : List Nat} (h : SerIn w S l room fp) : S ∈ fp := by
  obtain ⟨_, _, _, _, _, rfl⟩ := h
  exact List.mem_cons_self ..

def risingS (l : List Smp) : Prop := l.Pairwise (fun a b => a.1 < b.1)
/-- Where a tick's sample stands, or would. -/
def placeS (l : List Smp) (t : Int) : Nat := l.countP (fun x => !decide (t ≤ x.1))
theorem placeS_le (l : List Smp) (t : Int) : placeS l t ≤ l.length := List.countP_le_length ..

set_option maxRecDepth 100000 in
set_option maxHeartbeats 2000000 in
theorem serPlace_closure (bs bt S g o c n : Nat) (t y : Int) (i : Nat) (W : World) (hi : i < n)
    (h1 : W.cell? ⟨bs, 0, none⟩ = some (.pointer (some ⟨S, 0, none⟩))) (h2 : W.cell? ⟨bt, 0, none⟩ = some (.int .i64 t)) (h3 : W.cell? ⟨S, 0, none⟩ = some (.slice (some ⟨g, o, none⟩) n c)) (h4 : W.cell? ⟨g, o + i * 2, none⟩ = some (.int .i64 y)) :
    Calls Tryz.prog 280 (#[.int .i64 i] ++ #[.pointer (some ⟨bs, 0, none⟩), .pointer (some ⟨bt, 0, none⟩)]) W fun e w' => e = .returned (.bool (decide (t ≤ y))) ∧ ∃ q, w' = W.drewN q := by
  have hi0 : (0 : Int) ≤ (i : Int) := by omega
  have hi1 : (i : Int) < (n : Int) := by omega
  go_enter Tryz.func280, Tryz.ntmps280
  go_wp2_with fail
  go_quiet (fail)
  go_wp2
  go_ret
  exact ⟨ret_bool (by first | rfl | simp), _, rfl⟩

theorem two_single (w : World) (x y : Value) (T U : TypeId) : ∀ W, W = (w.alloc (.cells #[x] T)).alloc (.cells #[y] U) → W.heap[w.heap.size]? = some (.cells #[x] T (0, 0)) ∧ W.heap[w.heap.size + 1]? = some (.cells #[y] U (0, 0)) ∧ Below w.heap.size w W ∧ W.heap.size = w.heap.size + 2 := by
  rintro W rfl
  exact ⟨box_old _ _ _, box_new _ _ _, balloc (balloc (Below.refl _ _) _) _, by simp⟩
theorem cell_gd {W : World} {a : Addr} {v : Value} (h : W.cell? a = some v) (hb : a.block < W.heap.size) (m : Nat) (os : Array Obj) : (grow (W.drewN m) os).cell? a = some v := by
  rw [← h]
  refine World.cell?_of_block ?_
  exact Array.getElem?_append_left hb
theorem below_gd (w : World) (q : Nat) (os : Array Obj) : Below w.heap.size w (grow (w.drewN q) os) := ⟨rfl, rfl, rfl, by simp [grow], fun k hk => Array.getElem?_append_left hk⟩

set_option maxRecDepth 100000 in
set_option maxHeartbeats 2000000 in
theorem serPlace_any (S : Nat) (l : List Smp) (room : Int) (fp : List Nat) (t : Int) (w : World) (h : SerIn w S l room fp) (hr : risingS l) (hl : l.length ≤ 1000000) :
    Calls Tryz.prog 232 #[.pointer (some ⟨S, 0, none⟩), .int .i64 t] w fun e w' => e = .returned (.int .i64 (placeS l t : Nat)) ∧ Below w.heap.size w w' := by
  obtain ⟨v, fr, hS, hrow, _, _⟩ := h
  have hSlt := (Array.getElem?_eq_some_iff.1 hS).1
  obtain ⟨A, c, rfl⟩ := hrow.form
  have hR := hrow.row eSmp
  obtain ⟨W, hW⟩ : ∃ W, W = (w.alloc (.cells #[.pointer (some ⟨S, 0, none⟩)] 209)).alloc (.cells #[.int .i64 t] 2) := ⟨_, rfl⟩
  obtain ⟨b1, b2, hbW, hsz⟩ := two_single w _ _ _ _ W hW
  have hS1 := (hbW.block S hSlt).trans hS
  obtain ⟨k1, k2, k3⟩ := box_cells (Below.refl _ _) hS1
  obtain ⟨k4, k5, k6⟩ := box_cells (Below.refl _ _) b1
  obtain ⟨k7, k8, k9⟩ := box_cells (Below.refl _ _) b2
  have eg : ∀ args w, (callFunc 280 args).run Tryz.prog w = .ok (.enter 280 args) w := enters_of Tryz.func280 (by kernel_rfl) rfl
  have hcall : Calls Tryz.prog 279 #[.int .i64 l.length, .func (.func 280) #[] #[.pointer (some ⟨w.heap.size, 0, none⟩), .pointer (some ⟨w.heap.size + 1, 0, none⟩)]] W fun e w' => e = .returned (.int .i64 (placeS l t : Nat)) ∧ ∃ q os, w' = grow (W.drewN q) os := by
    have hS := Any.sort_Search searchS 280 #[.pointer (some ⟨w.heap.size, 0, none⟩), .pointer (some ⟨w.heap.size + 1, 0, none⟩)] l.length (fun i => decide (t ≤ ((l.map (·.1)).toArray[i]!))) W eg (by omega)
      (fun m os i hi => by
        obtain ⟨g, o, rfl, hg, hc⟩ := (hR.below hbW).at_ hi
        have hy : (l.map (·.1)).toArray[i]! = l[i].1 := by rw [getElem!_pos _ i (by simpa using hi)]; simp
        simp only [hy]
        have := serPlace_closure w.heap.size (w.heap.size + 1) S g o c l.length t l[i].1 i (grow (W.drewN m) os) hi (cell_gd (k4 0) k6 m os) (cell_gd (k7 0) k9 m os) (cell_gd (k1 0) k3 m os) (cell_gd (hc 0 _ rfl) hg m os)
        exact this.mono fun _ _ ⟨he, q, hq⟩ => ⟨he, q, #[], by rw [hq, grow_empty]⟩)
      (fun a b hab hb h => by
        have ha : a < l.length := by omega
        have e1 : (l.map (·.1)).toArray[a]! = l[a].1 := by rw [getElem!_pos _ a (by simpa using ha)]; simp
        have e2 : (l.map (·.1)).toArray[b]! = l[b].1 := by rw [getElem!_pos _ b (by simpa using hb)]; simp
        simp only [e1, e2, decide_eq_true_eq] at h ⊢
        rcases Nat.lt_or_ge a b with hlt | hge
        · have := List.pairwise_iff_getElem.1 hr a b ha hb hlt
          omega
        · obtain rfl : a = b := by omega
          exact h)
    have hlen : l.length = (l.map (·.1)).toArray.size := by simp
    rw [show (List.range l.length).countP (fun i => !decide (t ≤ (l.map (·.1)).toArray[i]!)) = placeS l t from by
      rw [hlen, Lib.countP_range (l.map (·.1)).toArray (fun y => !decide (t ≤ y))]
      simp only [placeS, List.countP_map]
      rfl] at hS
    exact hS
  have HC := Lib.hid hcall
  have hc0 := k1 0
  have hc1 := k4 0
  simp only [List.getElem?_toArray, List.getElem?_cons_zero] at hc0 hc1
  clear hcall k1 k4 k7 hS1 hr hrow hR eg
  go_enter Tryz.func232, Tryz.ntmps232
  have q0 : w.cell? ⟨S, 0, none⟩ = some (.slice A l.length c) := by simp only [World.cell?, hS]; rfl
  go_wp2_with (go_at_call 279; rw [← hW]; refine HC.out.mono ?_; rintro e w1 ⟨rfl, q1, os1, rfl⟩)
  go_ret
  exact ⟨rfl, by rw [← hW]; exact bthen hbW (below_gd W _ _)⟩
end

section
set_option linter.unusedSimpArgs false
set_option linter.unusedVariables false
open Go.RowKit Go.Lib

def packErr : Value := .tuple #[.agg #[.int .u64 0, .int .u64 0], .int .i64 2]
def packV (s : ByteArray) : Value := if idS s = true then .tuple #[.agg #[.int .u64 (hiN s.data.toList), .int .u64 (loN s.data.toList)], .int .i64 0] else packErr

set_option maxHeartbeats 1000000 in
theorem pack_bad (s : ByteArray) (w : World) (hm : s.size ≤ maxLen) (hb : idS s = false) :
    Calls Tryz.prog 81 #[.string s] w fun e w' => e = .returned packErr ∧ Below w.heap.size w w' := by
  have hc : chkV s = 2 := by simp [chkV, hb]
  have Hc := Lib.hid hc
  clear hc hb
  go_enter Tryz.func81, Tryz.ntmps81
  go_wp2_with (go_at_call 56; refine (check_any _ _ hm).mono ?_; rw [Hc.out]; rintro e w1 ⟨rfl, hb1⟩; obtain ⟨hc1, hf1⟩ := bcell hb1; have hz1 := hb1.size; simp at hz1)
  exact bodyPost_ret (v := packErr) (by simp [packErr, results, Tryz.results81, go_sem, hc1, hf1]) rfl ⟨rfl, ((((Below.refl _ _).alloc (Nat.le_refl _) _).trans (hb1.mono (by simp))).setCell (by simp) _).setCell (by simp) _⟩

/-- One round of Pack on a word: the digit goes to its place. -/
theorem word_step (l : List UInt8) (a m pos : Nat) (hm : m < 10) (hpos : pos % 10 = m) (c : UInt8) (q : Nat) (hq : a + m = q) (hcq : dig l q = codeB c) :
    bits BinOp.or IntKind.u64 (partW l a m : Nat) (IntKind.u64.wrap (codeI (c.toNat : Int) * 2 ^ (6 * (9 - (pos : Int) % 10)).toNat)) = (partW l a (m + 1) : Nat) := by
  have hc : dig l (a + m) = codeB c := by rw [hq]; exact hcq
  have h1 := partW_lt l a m (by omega)
  have h2 := partW_succ l a m hm
  have h3 := partW_lt l a (m + 1) (by omega)
  have e : (6 * (9 - (pos : Int) % 10)).toNat = 6 * (9 - m) := by omega
  have hle : dig l (a + m) <<< (6 * (9 - m)) ≤ partW l a (m + 1) := by rw [← h2]; exact Nat.right_le_or
  rw [Nat.shiftLeft_eq, hc] at h2 hle
  rw [e, codeI_cast]
  have e2 : ((codeB c : Nat) : Int) * 2 ^ (6 * (9 - m)) = ((codeB c * 2 ^ (6 * (9 - m)) : Nat) : Int) := by
    rw [Int.natCast_mul, Int.natCast_pow]; rfl
  rw [e2, u64_wrap _ (by omega), u64_or_nat _ _ (by omega) (by omega), h2]

set_option maxHeartbeats 1000000 in
theorem pack_good (s : ByteArray) (w : World) (hm : s.size ≤ maxLen) (hb : idS s = true) :
    Calls Tryz.prog 81 #[.string s] w fun e w' => e = .returned (packV s) ∧ Below w.heap.size w w' := by
  have hc : chkV s = 0 := by simp [chkV, hb]
  have Hc := Lib.hid hc
  obtain ⟨hl1, hl2, hok⟩ := idS_okTo s hb
  have hv : packV s = .tuple #[.agg #[.int .u64 (hiN s.data.toList), .int .u64 (loN s.data.toList)], .int .i64 0] := by simp [packV, hb]
  have Hv := Lib.hid hv
  clear hc hb hv
  go_enter Tryz.func81, Tryz.ntmps81
  go_wp2_with (go_at_call 56; refine (check_any _ _ hm).mono ?_; rw [Hc.out]; rintro e w1 ⟨rfl, hb1⟩; obtain ⟨hc1, hf1⟩ := bcell hb1; have hz1 := hb1.size; simp at hz1)
  go_loopw [6, 7, 8] (fun _ _ _ w' => ∃ pos n : Nat, pos ≤ s.size ∧ w' = ((w1.alloc (.cells #[.int .u64 (partW s.data.toList 0 (min pos 10) : Nat), .int .u64 (partW s.data.toList 10 (pos - 10) : Nat)] 74)).alloc (.stringIter s pos)).drewN n) (fun _ _ _ w' => s.size - w'.iterPos (w1.heap.size + 1))
  case atStart => exact ⟨0, 0, Nat.zero_le _, by simp [partW_zero]; rfl⟩
  case round =>
    obtain ⟨pos, n, hp0, rfl⟩ := hrel
    by_cases hp : pos < s.size
    · have hbt := hok pos hp hp
      have ha := okB_ascii _ hbt
      have hnx : ∀ ty, (Instr.next (.pointer (some ⟨w1.heap.size + 1, 0, none⟩)) true ty).run Tryz.prog (((w1.alloc (.cells #[.int .u64 (partW s.data.toList 0 (min pos 10) : Nat), .int .u64 (partW s.data.toList 10 (pos - 10) : Nat)] 74)).alloc (.stringIter s pos)).drewN n) = _ := fun ty => next_ascii_n (w1.alloc _) s pos n _ ty (by simp) hp ha
      have hbd := codeI_bd (s[pos]).toNat
      have hdg : dig s.data.toList pos = codeB s[pos] := by rw [dig_at _ _ (by simpa using hp)]; rfl
      by_cases h10 : pos < 10
      · have hst := word_step s.data.toList 0 pos pos h10 (by omega) s[pos] pos (by omega) hdg
        have Hst := Lib.hid hst
        clear hbt hst hdg
        go_wp2
        go_region_with (go_at_call 124; refine (code_any _ _ (by omega) (by omega)).mono ?_; rintro e w' ⟨rfl, rfl⟩)
        all_goals
          go_roundw
          case rel =>
            (repeat apply Exists.intro)
            refine ⟨⟨pos + 1, n + 1, by omega, ?_⟩, rfl⟩
            rw [Nat.min_eq_left (Nat.le_of_lt h10), Hst.out, Nat.min_eq_left (show pos + 1 ≤ 10 by omega), show pos - 10 = pos + 1 - 10 by omega]
          case measure => rw [iterPos_n _ _ _ _ _ (by simp), iterPos_n _ _ _ _ _ (by simp)]; omega
      · have hst := word_step s.data.toList 10 (pos - 10) pos (by omega) (by omega) s[pos] pos (by omega) hdg
        have Hst := Lib.hid hst
        clear hbt hst hdg
        go_wp2
        go_region_with (go_at_call 124; refine (code_any _ _ (by omega) (by omega)).mono ?_; rintro e w' ⟨rfl, rfl⟩)
        all_goals
          go_roundw
          case rel =>
            (repeat apply Exists.intro)
            refine ⟨⟨pos + 1, n + 1, by omega, ?_⟩, rfl⟩
            rw [Hst.out, show min pos 10 = min (pos + 1) 10 by omega, show pos - 10 + 1 = pos + 1 - 10 by omega]
          case measure => rw [iterPos_n _ _ _ _ _ (by simp), iterPos_n _ _ _ _ _ (by simp)]; omega
    · have hnx : ∀ ty, (Instr.next (.pointer (some ⟨w1.heap.size + 1, 0, none⟩)) true ty).run Tryz.prog (((w1.alloc (.cells #[.int .u64 (partW s.data.toList 0 (min pos 10) : Nat), .int .u64 (partW s.data.toList 10 (pos - 10) : Nat)] 74)).alloc (.stringIter s pos)).drewN n) = _ := fun ty => next_end_n (w1.alloc _) s pos n _ ty (by simp) hp
      have hv1 : partW s.data.toList 0 (min pos 10) = hiN s.data.toList := by
        rcases Nat.lt_or_ge pos 10 with h | h
        · exact partW_all _ _ _ (by omega) (by simp; omega)
        · rw [Nat.min_eq_right h, partW_ten]; rfl
      have hv2 : partW s.data.toList 10 (pos - 10) = loN s.data.toList := partW_all _ _ _ (by omega) (by simp; omega)
      rw [← hv1, ← hv2] at Hv
      clear hv1 hv2
      have q1 : w.heap.size < w1.heap.size := by omega
      have q2 : w.heap.size < w1.heap.size + 1 := by omega
      have q3 : w.heap.size ≠ w1.heap.size := by omega
      have q4 : w.heap.size ≠ w1.heap.size + 1 := by omega
      have q5 : w1.cell? ⟨w.heap.size, 0, none⟩ = some (.int .u64 0) := by rw [hc1 _ _ (by simp)]; simp [go_sem]
      have q6 : w1.cell? ⟨w.heap.size, 1, none⟩ = some (.int .u64 0) := by rw [hc1 _ _ (by simp)]; simp [go_sem]
      have q7 : w1.frozen? ⟨w.heap.size, 0, none⟩ = false := by rw [hf1 _ _ (by simp)]; simp [go_sem]
      have q8 : w1.frozen? ⟨w.heap.size, 1, none⟩ = false := by rw [hf1 _ _ (by simp)]; simp [go_sem]
      go_wp2
      exact bodyPost_ret (v := packV s) (by rw [Hv.out]; simp [results, Tryz.results81, go_sem, q1, q5, q6, q7, q8]) rfl
        ⟨rfl, below_drewN ((((((Below.refl _ _).alloc (Nat.le_refl _) _).trans (hb1.mono (by simp))).setCell (by simp) _).setCell (by simp) _).alloc (by simp [World.setCell]; omega) _ |>.alloc (by simp [World.setCell]; omega) _) n⟩

theorem pack_any (s : ByteArray) (w : World) (hm : s.size ≤ maxLen) :
    Calls Tryz.prog 81 #[.string s] w fun e w' => e = .returned (packV s) ∧ Below w.heap.size w w' := by
  cases hb : idS s with
  | true => exact pack_good s w hm hb
  | false =>
    have : packV s = packErr := by simp [packV, hb]
    rw [this]
    exact pack_bad s w hm hb
end

section
set_option linter.unusedSimpArgs false
set_option linter.unusedVariables false
open Go.RowKit Go.Lib

def cmpI (a b c d : Nat) : Int := if a = c ∧ b = d then 0 else if a < c ∨ a = c ∧ b < d then -1 else 1
end

section
set_option linter.unusedSimpArgs false
set_option linter.unusedVariables false
open Go.RowKit Go.Lib
end

section
set_option linter.unusedSimpArgs false
set_option linter.unusedVariables false
open Go.RowKit Go.Lib

def lettersL : List UInt8 := [45, 46, 48, 49, 50, 51, 52, 53, 54, 55, 56, 57, 95, 97, 98, 99, 100, 101, 102, 103, 104, 105, 106, 107, 108, 109, 110, 111, 112, 113, 114, 115, 116, 117, 118, 119, 120, 121, 122]

theorem letters_code : ∀ i, i < 39 → codeB (lettersL.getD i 0) = i + 1 := by decide


/-- A byte that is none of the first letters has a greater number, or none. -/
theorem place_none (c : UInt8) (h : ∀ j, j < 39 → lettersL.getD j 0 ≠ c) : codeB c = 0 := by
  rcases Nat.eq_zero_or_pos (codeB c) with h0 | h0
  · exact h0
  · have hle := codeB_le c
    have e := letters_code (codeB c - 1) (by omega)
    refine absurd ?_ (h (codeB c - 1) (by omega))
    have hok : okB (lettersL.getD (codeB c - 1) 0) = true := by rw [okB, decide_eq_true_eq]; omega
    exact codeB_inj _ _ hok (by omega)

def lettersS : ByteArray := ⟨lettersL.toArray⟩
theorem lettersS_get (k : Nat) (h : k < lettersS.size) : lettersS[k] = lettersL.getD k 0 := by
  have h' : k < lettersL.length := h
  simp only [List.getD, List.getElem?_eq_getElem h', Option.getD_some]
  rfl

set_option maxRecDepth 100000 in
set_option maxHeartbeats 1000000 in
theorem place_any (c : UInt8) (w : World) :
    Calls Tryz.prog 73 #[.int .u8 (c.toNat : Nat)] w fun e w' => e = .returned (.int .u64 (codeB c : Nat)) ∧ w = w' := by
  go_enter Tryz.func73, Tryz.ntmps73
  go_wp2
  go_loop [3] (fun i => ∃ k : Nat, k ≤ 39 ∧ i = .int .i64 k ∧ ∀ j, j < k → lettersL.getD j 0 ≠ c) (fun i => 39 - (intOf i).toNat)
  case atStart => exact ⟨0, by omega, rfl, fun j hj => absurd hj (by omega)⟩
  case round =>
    obtain ⟨k, hk, rfl, hno⟩ := hrel
    by_cases hlt : k < 39
    · have Hno := Lib.hid hno
      have hsz : k < lettersS.size := hlt
      clear hno
      go_wp2
      · have hq : (((lettersS[k].toNat : Nat) : Int) == ((c.toNat : Nat) : Int)) = true := by assumption
        have hq' : lettersS[k] = c := UInt8.toNat_inj.1 (Int.ofNat.inj (beq_iff_eq.1 hq))
        rw [lettersS_get k hsz] at hq'
        go_ret
        refine ⟨ret_int ?_, rfl⟩
        rw [← hq', letters_code k hlt]
        rfl
      · have hq : (((lettersS[k].toNat : Nat) : Int) == ((c.toNat : Nat) : Int)) = false := by assumption
        have hq' : lettersS[k] ≠ c := fun e => by
          have := beq_eq_false_iff_ne.1 hq
          exact this (congrArg (fun b : UInt8 => ((b.toNat : Nat) : Int)) e)
        rw [lettersS_get k hsz] at hq'
        go_round
        case rel =>
          refine ⟨k + 1, by omega, by go_num, fun j hj => ?_⟩
          rcases Nat.lt_or_ge j k with h | h
          · exact Hno.out j h
          · obtain rfl : j = k := by omega
            exact hq'
        case measure => simp [intOf]; omega
    · obtain rfl : k = 39 := by omega
      have h0 := place_none c hno
      clear hno
      go_wp2
      go_ret
      exact ⟨rfl, rfl⟩

set_option maxRecDepth 100000 in
set_option maxHeartbeats 1000000 in
theorem id_any (s : ByteArray) (w : World) (hm : s.size ≤ maxLen) :
    Calls Tryz.prog 21 #[.string s] w fun e w' => e = .returned (.bool (idS s)) ∧ w = w' := by
  unfold maxLen at hm
  by_cases h1 : s.size < 1
  · rw [idS_len s (.inl h1)]
    go_enter Tryz.func21, Tryz.ntmps21
    go_wp2
    go_ret
    exact ⟨rfl, rfl⟩
  · by_cases h2 : 20 < s.size
    · rw [idS_len s (.inr h2)]
      go_enter Tryz.func21, Tryz.ntmps21
      go_wp2
      go_ret
      exact ⟨rfl, rfl⟩
    · go_enter Tryz.func21, Tryz.ntmps21
      go_wp2
      go_loop [3] (fun i => ∃ k : Nat, k ≤ s.size ∧ i = .int .i64 k ∧ OkTo s k) (fun i => s.size - (intOf i).toNat)
      case atStart => exact ⟨0, Nat.zero_le _, rfl, okTo_zero s⟩
      case round =>
        obtain ⟨k, hk, rfl, hok⟩ := hrel
        by_cases hlt : k < s.size
        · cases hb : okB s[k] with
          | true =>
            have hok' := okTo_succ s k hok hlt hb
            have hc : ((codeB s[k] : Int) == 0) = false := by simpa [okB] using hb
            have Hok' := Lib.hid hok'
            clear hb hok hok'
            go_wp2_with (go_at_call 73; refine (place_any _ _).mono ?_; rintro e w' ⟨rfl, rfl⟩)
            go_round
            case rel => exact ⟨k + 1, hlt, by go_num, Hok'.out⟩
            case measure => simp [intOf]; omega
          | false =>
            have hf := idS_bad s k hlt hb
            have hc : ((codeB s[k] : Int) == 0) = true := by simpa [okB] using hb
            have Hf := Lib.hid hf
            clear hb hok hf
            go_wp2_with (go_at_call 73; refine (place_any _ _).mono ?_; rintro e w' ⟨rfl, rfl⟩)
            go_ret
            rw [Hf.out]
            exact ⟨rfl, rfl⟩
        · obtain rfl : k = s.size := by omega
          have hf := idS_all s (by omega) (by omega) hok
          have Hf := Lib.hid hf
          clear hf hok
          go_wp2
          go_ret
          rw [Hf.out]
          exact ⟨rfl, rfl⟩

/-! ### Before: the order of bytes -/
end

section
set_option linter.unusedSimpArgs false
set_option linter.unusedVariables false
open Go.RowKit Go.Lib

set_option maxRecDepth 100000 in
set_option maxHeartbeats 1000000 in
theorem routeRight_any (n : Int) (w : World) (hn : I64 n) :
    Calls Tryz.prog 110 #[.int .i64 n] w fun e w' => e = .returned (.bool (okSt n)) ∧ w = w' := by
  obtain ⟨hn1, hn2⟩ := hn
  by_cases h1 : 1 ≤ n
  · by_cases h2 : n ≤ 64
    · obtain ⟨k, rfl⟩ := Int.eq_ofNat_of_zero_le (show 0 ≤ n by omega)
      have hq := st_and k (by omega) (by omega)
      generalize okSt (k : Int) = b at hq
      go_enter Tryz.func110, Tryz.ntmps110
      go_wp2
      go_ret
      exact ⟨rfl, rfl⟩
    · have hb : okSt n = false := by
        cases hb : okSt n with
        | false => rfl
        | true => exact absurd (okSt_bd n hb).2 h2
      rw [hb]
      go_enter Tryz.func110, Tryz.ntmps110
      go_wp2
      go_ret
      exact ⟨rfl, rfl⟩
  · have hb : okSt n = false := by
      cases hb : okSt n with
      | false => rfl
      | true => exact absurd (okSt_bd n hb).1 h1
    rw [hb]
    go_enter Tryz.func110, Tryz.ntmps110
    go_wp2
    go_ret
    exact ⟨rfl, rfl⟩

set_option maxRecDepth 100000 in
set_option maxHeartbeats 1000000 in
theorem nodeRight_any (c : Cfg) (w : World) (hc : c.ok) :
    Calls Tryz.prog 46 #[cfgV c] w fun e w' => e = .returned (.int .i64 (cfgE c)) ∧ Below w.heap.size w w' := by
  obtain ⟨st, sa, lo, hi⟩ := c
  obtain ⟨h1, h2, h3, h4⟩ := hc
  have H1 := Lib.hid h1
  simp only [I64] at h1 h2 h3 h4
  unfold cfgV
  cases hb : okSt st with
  | false =>
    have hf : cfgE ⟨st, sa, lo, hi⟩ = 1 := by simp [cfgE, cfgB, hb]
    rw [hf]
    have Hb := Lib.hid hb
    clear hb hf
    go_enter Tryz.func46, Tryz.ntmps46
    go_wp2_with (go_at_call 110; refine (routeRight_any _ _ H1.out).mono ?_; rw [Hb.out]; rintro e w' ⟨rfl, rfl⟩)
    all_goals
      go_ret
      exact ⟨rfl, (Below.refl _ _).alloc (Nat.le_refl _) _⟩
  | true =>
    have Hb := Lib.hid hb
    clear hb
    go_enter Tryz.func46, Tryz.ntmps46
    go_wp2_with (go_at_call 110; refine (routeRight_any _ _ H1.out).mono ?_; rw [Hb.out]; rintro e w' ⟨rfl, rfl⟩)
    all_goals
      go_ret
      refine ⟨ret_int ?_, (Below.refl _ _).alloc (Nat.le_refl _) _⟩
      simp only [cfgE, cfgB, Hb.out, Bool.true_and, decide_eq_true_eq]
      split <;> omega

set_option maxRecDepth 100000 in
set_option maxHeartbeats 1000000 in
theorem seriesRight_any (t v : Int) (w : World) :
    Calls Tryz.prog 102 #[.int .i64 t, .int .i64 v] w fun e w' => e = .returned (.int .i64 (serE t v)) ∧ w = w' := by
  go_enter Tryz.func102, Tryz.ntmps102
  go_wp2
  all_goals
    go_ret
    refine ⟨ret_int ?_, rfl⟩
    unfold serE
    repeat' split
    all_goals omega

set_option maxRecDepth 100000 in
set_option maxHeartbeats 1000000 in
theorem policyCheck_any (p : Pol) (w : World) :
    Calls Tryz.prog 103 #[polV p] w fun e w' => e = .returned (.int .i64 (polE p)) ∧ Below w.heap.size w w' := by
  obtain ⟨a, b, c, d, f, g⟩ := p
  unfold polV
  go_enter Tryz.func103, Tryz.ntmps103
  go_wp2
  all_goals
    go_ret
    refine ⟨ret_int ?_, (Below.refl _ _).alloc (Nat.le_refl _) _⟩
    simp only [polE, polB, decide_eq_true_eq]
    split <;> omega

section
variable (id : ByteArray) (tick val handle a b tg tol win hold : Int) (w : World)

end
end

end Go.Proofs.YtmniiodpbebnmaaGreat
