/- series.Series in memory: New, place, List; The plain law of ids: letters, their numbers, keys of ids, digits of keys. Nothing of the program; Walks of ident's functions: each computes what the plain law says; Configs, policies and calls as plain data; what is wrong with them; Walk of ident.Pack; The walk of ident's Cmp; Walks of ident's at, letter, Unpack, Right, Cmp; Walks of flywheelref03's place, Id, Key, Before; Walks of what checks configs, policies, calls: route.Right, node.Right, series.Right, policy.Check, store.Check, and the references' twins. -/
import Derived.Test.YtfegielnmdppgaaGreatJ07
import Derived.Sort.Grow
import Derived.Shelf.SlSorted.Search
import Derived.Test.YtfegielnmdppgaaGreatJ01
namespace Go.Proofs.YtfegielnmdppgaaGreat

section
set_option linter.unusedSimpArgs false
set_option linter.unusedVariables false
open Go.RowKit Go.Lib Go.Sort Go.Shelf

/-- A series at block S: its samples, its room; its footprint. -/
def SerIn (w : World) (S : Nat) (l : List Smp) (room : Int) (fp : List Nat) : Prop :=
  ∃ v fr, w.heap[S]? = some (.cells #[v, .int .i64 room] 220 (0, 0)) ∧ SRow smpC 42 2 w v l fr ∧ S ∉ fr ∧ fp = S :: fr
theorem SerIn.kept {w w' : World} {S : Nat} {l : List Smp} {room : Int} {fp : List Nat} (h : SerIn w S l room fp) (hb : ∀ r ∈ fp, w'.heap[r]? = w.heap[r]?) : SerIn w' S l room fp := by
  obtain ⟨v, fr, h1, h2, h3, rfl⟩ := h
  exact ⟨v, fr, (hb S (List.mem_cons_self ..)).trans h1, h2.kept (fun r hr => hb r (List.mem_cons_of_mem _ hr)), h3, rfl⟩
theorem SerIn.lt {w : World} {S : Nat} {l : List Smp} {room : Int} {fp : List Nat} (h : SerIn w S l room fp) : ∀ r ∈ fp, r < w.heap.size := by
  obtain ⟨v, fr, h1, h2, h3, rfl⟩ := h
  intro r hr
  rcases List.mem_cons.1 hr with rfl | hr
  · exact (Array.getElem?_eq_some_iff.1 h1).1
  · exact h2.lt r hr
theorem SerIn.below {w w' : World} {S : Nat} {l : List Smp} {room : Int} {fp : List Nat} (h : SerIn w S l room fp) (hb : Below w.heap.size w w') : SerIn w' S l room fp := h.kept (fun r hr => hb.block r (h.lt r hr))
theorem SerIn.mem {w : World} {S : Nat} {l : List Smp} {room : Int} {fp : List Nat} (h : SerIn w S l room fp) : S ∈ fp := by
  obtain ⟨_, _, _, _, _, rfl⟩ := h
  exact List.mem_cons_self ..

def risingS (l : List Smp) : Prop := l.Pairwise (fun a b => a.1 < b.1)
/-- Where a tick's sample stands, or would. -/
def placeS (l : List Smp) (t : Int) : Nat := l.countP (fun x => !decide (t ≤ x.1))
theorem placeS_le (l : List Smp) (t : Int) : placeS l t ≤ l.length := List.countP_le_length ..

set_option maxRecDepth 100000 in
set_option maxHeartbeats 2000000 in
theorem serPlace_closure (bs bt S g o c n : Nat) (t y : Int) (i : Nat) (W : World) (hi : i < n)
    (h1 : W.cell? ⟨bs, 0, none⟩ = some (.pointer (some ⟨S, 0, none⟩))) (h2 : W.cell? ⟨bt, 0, none⟩ = some (.int .i64 t)) (h3 : W.cell? ⟨S, 0, none⟩ = some (.slice (some ⟨g, o, none⟩) n c)) (h4 : W.cell? ⟨g, o + i * 2, none⟩ = some (.int .i64 y)) :
    Calls Tryz.prog 248 (#[.int .i64 i] ++ #[.pointer (some ⟨bs, 0, none⟩), .pointer (some ⟨bt, 0, none⟩)]) W fun e w' => e = .returned (.bool (decide (t ≤ y))) ∧ ∃ q, w' = W.drewN q := by
  have hi0 : (0 : Int) ≤ (i : Int) := by omega
  have hi1 : (i : Int) < (n : Int) := by omega
  go_enter Tryz.func248, Tryz.ntmps248
  go_wp2_with fail
  go_quiet (fail)
  go_wp2
  go_ret
  exact ⟨ret_bool (by first | rfl | simp), _, rfl⟩

theorem two_single (w : World) (x y : Value) (T U : TypeId) : ∀ W, W = (w.alloc (.cells #[x] T)).alloc (.cells #[y] U) → W.heap[w.heap.size]? = some (.cells #[x] T (0, 0)) ∧ W.heap[w.heap.size + 1]? = some (.cells #[y] U (0, 0)) ∧ Below w.heap.size w W ∧ W.heap.size = w.heap.size + 2 := by
  rintro W rfl
  exact ⟨box_old _ _ _, box_new _ _ _, balloc (balloc (Below.refl _ _) _) _, by simp⟩
theorem cell_gd {W : World} {a : Addr} {v : Value} (h : W.cell? a = some v) (hb : a.block < W.heap.size) (m : Nat) (os : Array Obj) : (grow (W.drewN m) os).cell? a = some v := by
  rw [← h]
  refine World.cell?_of_block ?_
  exact Array.getElem?_append_left hb
theorem below_gd (w : World) (q : Nat) (os : Array Obj) : Below w.heap.size w (grow (w.drewN q) os) := ⟨rfl, rfl, rfl, by simp [grow], fun k hk => Array.getElem?_append_left hk⟩

set_option maxRecDepth 100000 in
set_option maxHeartbeats 2000000 in
theorem serPlace_any (S : Nat) (l : List Smp) (room : Int) (fp : List Nat) (t : Int) (w : World) (h : SerIn w S l room fp) (hr : risingS l) (hl : l.length ≤ 1000000) :
    Calls Tryz.prog 214 #[.pointer (some ⟨S, 0, none⟩), .int .i64 t] w fun e w' => e = .returned (.int .i64 (placeS l t : Nat)) ∧ Below w.heap.size w w' := by
  obtain ⟨v, fr, hS, hrow, _, _⟩ := h
  have hSlt := (Array.getElem?_eq_some_iff.1 hS).1
  obtain ⟨A, c, rfl⟩ := hrow.form
  have hR := hrow.row eSmp
  obtain ⟨W, hW⟩ : ∃ W, W = (w.alloc (.cells #[.pointer (some ⟨S, 0, none⟩)] 138)).alloc (.cells #[.int .i64 t] 2) := ⟨_, rfl⟩
  obtain ⟨b1, b2, hbW, hsz⟩ := two_single w _ _ _ _ W hW
  have hS1 := (hbW.block S hSlt).trans hS
  obtain ⟨k1, k2, k3⟩ := box_cells (Below.refl _ _) hS1
  obtain ⟨k4, k5, k6⟩ := box_cells (Below.refl _ _) b1
  obtain ⟨k7, k8, k9⟩ := box_cells (Below.refl _ _) b2
  have eg : ∀ args w, (callFunc 248 args).run Tryz.prog w = .ok (.enter 248 args) w := enters_of Tryz.func248 (by kernel_rfl) rfl
  have hcall : Calls Tryz.prog 247 #[.int .i64 l.length, .func (.func 248) #[] #[.pointer (some ⟨w.heap.size, 0, none⟩), .pointer (some ⟨w.heap.size + 1, 0, none⟩)]] W fun e w' => e = .returned (.int .i64 (placeS l t : Nat)) ∧ ∃ q os, w' = grow (W.drewN q) os := by
    have hS := Any.sort_Search searchS 248 #[.pointer (some ⟨w.heap.size, 0, none⟩), .pointer (some ⟨w.heap.size + 1, 0, none⟩)] l.length (fun i => decide (t ≤ ((l.map (·.1)).toArray[i]!))) W eg (by omega)
      (fun m os i hi => by
        obtain ⟨g, o, rfl, hg, hc⟩ := (hR.below hbW).at_ hi
        have hy : (l.map (·.1)).toArray[i]! = l[i].1 := by rw [getElem!_pos _ i (by simpa using hi)]; simp
        simp only [hy]
        have := serPlace_closure w.heap.size (w.heap.size + 1) S g o c l.length t l[i].1 i (grow (W.drewN m) os) hi (cell_gd (k4 0) k6 m os) (cell_gd (k7 0) k9 m os) (cell_gd (k1 0) k3 m os) (cell_gd (hc 0 _ rfl) hg m os)
        exact this.mono fun _ _ ⟨he, q, hq⟩ => ⟨he, q, #[], by rw [hq, grow_empty]⟩)
      (fun a b hab hb h => by
        have ha : a < l.length := by omega
        have e1 : (l.map (·.1)).toArray[a]! = l[a].1 := by rw [getElem!_pos _ a (by simpa using ha)]; simp
        have e2 : (l.map (·.1)).toArray[b]! = l[b].1 := by rw [getElem!_pos _ b (by simpa using hb)]; simp
        simp only [e1, e2, decide_eq_true_eq] at h ⊢
        rcases Nat.lt_or_ge a b with hlt | hge
        · have := List.pairwise_iff_getElem.1 hr a b ha hb hlt
          omega
        · obtain rfl : a = b := by omega
          exact h)
    have hlen : l.length = (l.map (·.1)).toArray.size := by simp
    rw [show (List.range l.length).countP (fun i => !decide (t ≤ (l.map (·.1)).toArray[i]!)) = placeS l t from by
      rw [hlen, Lib.countP_range (l.map (·.1)).toArray (fun y => !decide (t ≤ y))]
      simp only [placeS, List.countP_map]
      rfl] at hS
    exact hS
  have HC := Lib.hid hcall
  have hc0 := k1 0
  have hc1 := k4 0
  simp only [List.getElem?_toArray, List.getElem?_cons_zero] at hc0 hc1
  clear hcall k1 k4 k7 hS1 hr hrow hR eg
  go_enter Tryz.func214, Tryz.ntmps214
  have q0 : w.cell? ⟨S, 0, none⟩ = some (.slice A l.length c) := by simp only [World.cell?, hS]; rfl
  go_wp2_with (go_at_call 247; rw [← hW]; refine HC.out.mono ?_; rintro e w1 ⟨rfl, q1, os1, rfl⟩)
  go_ret
  exact ⟨rfl, by rw [← hW]; exact bthen hbW (below_gd W _ _)⟩
end

section
set_option linter.unusedSimpArgs false
set_option linter.unusedVariables false

def codeI (c : Int) : Int :=
  if c = 45 then 1 else if c = 46 then 2 else if 48 ≤ c ∧ c ≤ 57 then c - 45 else if c = 95 then 13 else if 97 ≤ c ∧ c ≤ 122 then c - 83 else 0

theorem codeI_bd (c : Int) : 0 ≤ codeI c ∧ codeI c ≤ 39 := by
  unfold codeI
  repeat' split
  all_goals omega

def codeB (b : UInt8) : Nat := (codeI b.toNat).toNat
def okB (b : UInt8) : Bool := decide (codeB b ≠ 0)

theorem codeB_le (b : UInt8) : codeB b ≤ 39 := by
  have := codeI_bd b.toNat
  unfold codeB; omega

/-- Letters keep their order as numbers. -/
theorem codeB_lt (a b : UInt8) (ha : okB a = true) (hb : okB b = true) : codeB a < codeB b ↔ a.toNat < b.toNat := by
  have ha' : codeB a ≠ 0 := by simpa [okB] using ha
  have hb' : codeB b ≠ 0 := by simpa [okB] using hb
  unfold codeB codeI at *
  have := a.toNat_lt
  have := b.toNat_lt
  generalize a.toNat = x at *
  generalize b.toNat = y at *
  repeat' split at ha'
  all_goals repeat' split at hb'
  all_goals first | omega | (simp at ha') | (simp at hb') | skip
  all_goals (repeat' split) <;> omega

theorem codeB_inj (a b : UInt8) (ha : okB a = true) (h : codeB a = codeB b) : a = b := by
  have hb : okB b = true := by simpa [okB, ← h] using ha
  have h1 := codeB_lt a b ha hb
  have h2 := codeB_lt b a hb ha
  exact UInt8.toNat_inj.1 (by omega)

def idL (l : List UInt8) : Bool := decide (1 ≤ l.length) && (decide (l.length ≤ 20) && l.all okB)

theorem idL_iff (l : List UInt8) : idL l = true ↔ 1 ≤ l.length ∧ l.length ≤ 20 ∧ ∀ b ∈ l, okB b = true := by
  simp [idL]

def dig (l : List UInt8) (i : Nat) : Nat := ((l[i]?).map codeB).getD 0

theorem dig_le (l : List UInt8) (i : Nat) : dig l i ≤ 39 := by
  unfold dig
  cases l[i]? with
  | none => simp
  | some b => simpa using codeB_le b

theorem dig_at (l : List UInt8) (i : Nat) (h : i < l.length) : dig l i = codeB l[i] := by simp [dig, h]
theorem dig_out (l : List UInt8) (i : Nat) (h : l.length ≤ i) : dig l i = 0 := by simp [dig, h]

def keyN (l : List UInt8) (a : Nat) : Nat → Nat
  | 0 => 0
  | n + 1 => keyN l a n * 64 + dig l (a + n)

/-- The j-th digit of a key. -/
theorem keyN_dig (l : List UInt8) (a : Nat) : ∀ n j, j < n → keyN l a n / 64 ^ (n - 1 - j) % 64 = dig l (a + j) := by
  intro n
  induction n with
  | zero => intro j h; omega
  | succ n ih =>
    intro j h
    have hd := dig_le l (a + n)
    rcases Nat.lt_or_ge j n with h1 | h1
    · have e : n + 1 - 1 - j = (n - 1 - j) + 1 := by omega
      rw [e, Nat.pow_succ, Nat.mul_comm (64 ^ _) 64, ← Nat.div_div_eq_div_mul, keyN]
      rw [show (keyN l a n * 64 + dig l (a + n)) / 64 = keyN l a n by omega]
      exact ih j h1
    · have e : n + 1 - 1 - j = 0 := by omega
      obtain rfl : j = n := by omega
      rw [e, keyN]
      simp
      omega

/-- Equal digits, equal lists (of letters). -/
theorem list_of_digs (l l' : List UInt8) (hl : ∀ b ∈ l, okB b = true) (hl' : ∀ b ∈ l', okB b = true) (n : Nat) (h1 : l.length ≤ n) (h2 : l'.length ≤ n)
    (h : ∀ j, j < n → dig l j = dig l' j) : l = l' := by
  have pos : ∀ (m : List UInt8), (∀ b ∈ m, okB b = true) → ∀ i, i < m.length → dig m i ≠ 0 := by
    intro m hm i hi
    rw [dig_at m i hi]
    simpa [okB] using hm _ (List.getElem_mem hi)
  have hlen : l.length = l'.length := by
    rcases Nat.lt_trichotomy l.length l'.length with hx | hx | hx
    · have := pos l' hl' l.length hx
      rw [← h _ (by omega), dig_out l _ (Nat.le_refl _)] at this
      omega
    · exact hx
    · have := pos l hl l'.length hx
      rw [h _ (by omega), dig_out l' _ (Nat.le_refl _)] at this
      omega
  refine List.ext_getElem hlen fun i hi hi' => ?_
  have := h i (by omega)
  rw [dig_at l i hi, dig_at l' i hi'] at this
  exact codeB_inj _ _ (hl _ (List.getElem_mem hi)) this

def hiN (l : List UInt8) : Nat := keyN l 0 10
def loN (l : List UInt8) : Nat := keyN l 10 10

/-- The digit of two words at a place. -/
def atN (hi lo i : Nat) : Nat := (if i < 10 then hi else lo) / 64 ^ (9 - i % 10) % 64

theorem atN_key (l : List UInt8) (i : Nat) (h : i < 20) : atN (hiN l) (loN l) i = dig l i := by
  unfold atN hiN loN
  split
  · rename_i h1
    rw [Nat.mod_eq_of_lt h1]
    have := keyN_dig l 0 10 i h1
    simpa using this
  · rename_i h1
    have e : i % 10 = i - 10 := by omega
    rw [e]
    have := keyN_dig l 10 10 (i - 10) (by omega)
    rw [show 10 + (i - 10) = i by omega] at this
    simpa using this

def IsKey (hi lo : Nat) (l : List UInt8) : Prop := idL l = true ∧ hiN l = hi ∧ loN l = lo

theorem IsKey.digs {hi lo : Nat} {l : List UInt8} (h : IsKey hi lo l) (i : Nat) (hi20 : i < 20) : atN hi lo i = dig l i := by
  obtain ⟨_, rfl, rfl⟩ := h
  exact atN_key l i hi20

theorem IsKey.one {hi lo : Nat} {l l' : List UInt8} (h : IsKey hi lo l) (h' : IsKey hi lo l') : l = l' := by
  obtain ⟨_, h2, h3⟩ := (idL_iff l).1 h.1
  obtain ⟨_, h2', h3'⟩ := (idL_iff l').1 h'.1
  exact list_of_digs l l' h3 h3' 20 h2 h2' fun j hj => by rw [← h.digs j hj, h'.digs j hj]

/-! ### The loop of Pack: words that are filled from the top -/
end

section
set_option linter.unusedSimpArgs false
set_option linter.unusedVariables false
open Go.RowKit Go.Lib
end

section
set_option linter.unusedSimpArgs false
set_option linter.unusedVariables false
open Go.RowKit Go.Lib

structure Cfg where
  st : Int
  sa : Int
  lo : Int
  hi : Int

structure Pol where
  mn : Int
  mx : Int
  tg : Int
  tol : Int
  win : Int
  hold : Int

structure CallD where
  kind : Int
  id : ByteArray
  tick : Int
  val : Int
  handle : Int
  pol : Pol

def I64 (n : Int) : Prop := -9223372036854775808 ≤ n ∧ n ≤ 9223372036854775807

def Cfg.ok (c : Cfg) : Prop := I64 c.st ∧ I64 c.sa ∧ I64 c.lo ∧ I64 c.hi
def Pol.ok (p : Pol) : Prop := I64 p.mn ∧ I64 p.mx ∧ I64 p.tg ∧ I64 p.tol ∧ I64 p.win ∧ I64 p.hold
def CallD.ok (c : CallD) : Prop := I64 c.kind ∧ c.id.size ≤ maxLen ∧ I64 c.tick ∧ I64 c.val ∧ I64 c.handle ∧ c.pol.ok

def cfgV (c : Cfg) : Value := .agg #[.int .i64 c.st, .int .i64 c.sa, .int .i64 c.lo, .int .i64 c.hi]
def polV (p : Pol) : Value := .agg #[.int .i64 p.mn, .int .i64 p.mx, .int .i64 p.tg, .int .i64 p.tol, .int .i64 p.win, .int .i64 p.hold]
def okSt (n : Int) : Bool := n == 1 || (n == 2 || (n == 4 || (n == 8 || (n == 16 || (n == 32 || n == 64)))))
def cfgB (c : Cfg) : Bool := okSt c.st && decide (1 ≤ c.sa ∧ c.sa ≤ 256 ∧ 1 ≤ c.lo ∧ c.lo ≤ 256 ∧ 1 ≤ c.hi ∧ c.hi ≤ 64)
def cfgE (c : Cfg) : Int := if cfgB c = true then 0 else 1
def serE (t v : Int) : Int := if t < 0 then 3 else if v < 0 then 4 else 0
def polB (p : Pol) : Bool := decide (0 ≤ p.mn ∧ 1 ≤ p.mx ∧ p.mn ≤ p.mx ∧ p.mx ≤ 1073741824 ∧ 1 ≤ p.tg ∧ 0 ≤ p.tol ∧ p.tol ≤ 999 ∧ 1 ≤ p.win ∧ 0 ≤ p.hold)
def polE (p : Pol) : Int := if polB p = true then 0 else 7
theorem okSt_iff (n : Int) : okSt n = true ↔ n = 1 ∨ n = 2 ∨ n = 4 ∨ n = 8 ∨ n = 16 ∨ n = 32 ∨ n = 64 := by
  simp [okSt]

def bitsI (n : Int) : Int := if n = 1 then 0 else if n = 2 then 1 else if n = 4 then 2 else if n = 8 then 3 else if n = 16 then 4 else if n = 32 then 5 else if n = 64 then 6 else -1
theorem bitsI_ok (n : Int) : decide (0 ≤ bitsI n) = okSt n := by
  rw [Bool.eq_iff_iff, okSt_iff, decide_eq_true_eq]
  unfold bitsI
  repeat' split
  all_goals omega
theorem bitsI_pow : ∀ k, k < 7 → bitsI ((2 ^ k : Nat) : Int) = (k : Nat) := by decide
theorem bitsI_none (n : Int) (h : ∀ j, j < 7 → n ≠ ((2 ^ j : Nat) : Int)) : bitsI n = -1 := by
  have h0 := h 0 (by omega)
  have h1 := h 1 (by omega)
  have h2 := h 2 (by omega)
  have h3 := h 3 (by omega)
  have h4 := h 4 (by omega)
  have h5 := h 5 (by omega)
  have h6 := h 6 (by omega)
  simp at h0 h1 h2 h3 h4 h5 h6
  simp [bitsI, *]

theorem okSt_bd (n : Int) (h : okSt n = true) : 1 ≤ n ∧ n ≤ 64 := by
  have := (okSt_iff n).1 h
  omega

theorem st_and : ∀ k, k < 65 → 1 ≤ k → (bits BinOp.and IntKind.i64 ((k : Nat) : Int) ((k : Nat) - 1 : Int) == 0) = okSt ((k : Nat) : Int) := by decide
end

section
set_option linter.unusedSimpArgs false
set_option linter.unusedVariables false
open Go.RowKit Go.Lib
end

section
set_option linter.unusedSimpArgs false
set_option linter.unusedVariables false
open Go.RowKit Go.Lib

def cmpI (a b c d : Nat) : Int := if a = c ∧ b = d then 0 else if a < c ∨ a = c ∧ b < d then -1 else 1
end

section
set_option linter.unusedSimpArgs false
set_option linter.unusedVariables false
open Go.RowKit Go.Lib
end

section
set_option linter.unusedSimpArgs false
set_option linter.unusedVariables false
open Go.RowKit Go.Lib

/-! ### Before: the order of bytes -/
end

section
set_option linter.unusedSimpArgs false
set_option linter.unusedVariables false
open Go.RowKit Go.Lib

set_option maxRecDepth 100000 in
set_option maxHeartbeats 1000000 in
theorem routeRight_any (n : Int) (w : World) (hn : I64 n) :
    Calls Tryz.prog 132 #[.int .i64 n] w fun e w' => e = .returned (.bool (okSt n)) ∧ w = w' := by
  obtain ⟨hn1, hn2⟩ := hn
  by_cases h1 : 1 ≤ n
  · by_cases h2 : n ≤ 64
    · obtain ⟨k, rfl⟩ := Int.eq_ofNat_of_zero_le (show 0 ≤ n by omega)
      have hq := st_and k (by omega) (by omega)
      generalize okSt (k : Int) = b at hq
      go_enter Tryz.func132, Tryz.ntmps132
      go_wp2
      go_ret
      exact ⟨rfl, rfl⟩
    · have hb : okSt n = false := by
        cases hb : okSt n with
        | false => rfl
        | true => exact absurd (okSt_bd n hb).2 h2
      rw [hb]
      go_enter Tryz.func132, Tryz.ntmps132
      go_wp2
      go_ret
      exact ⟨rfl, rfl⟩
  · have hb : okSt n = false := by
      cases hb : okSt n with
      | false => rfl
      | true => exact absurd (okSt_bd n hb).1 h1
    rw [hb]
    go_enter Tryz.func132, Tryz.ntmps132
    go_wp2
    go_ret
    exact ⟨rfl, rfl⟩

set_option maxRecDepth 100000 in
set_option maxHeartbeats 1000000 in
theorem nodeRight_any (c : Cfg) (w : World) (hc : c.ok) :
    Calls Tryz.prog 64 #[cfgV c] w fun e w' => e = .returned (.int .i64 (cfgE c)) ∧ Below w.heap.size w w' := by
  obtain ⟨st, sa, lo, hi⟩ := c
  obtain ⟨h1, h2, h3, h4⟩ := hc
  have H1 := Lib.hid h1
  simp only [I64] at h1 h2 h3 h4
  unfold cfgV
  cases hb : okSt st with
  | false =>
    have hf : cfgE ⟨st, sa, lo, hi⟩ = 1 := by simp [cfgE, cfgB, hb]
    rw [hf]
    have Hb := Lib.hid hb
    clear hb hf
    go_enter Tryz.func64, Tryz.ntmps64
    go_wp2_with (go_at_call 132; refine (routeRight_any _ _ H1.out).mono ?_; rw [Hb.out]; rintro e w' ⟨rfl, rfl⟩)
    all_goals
      go_ret
      exact ⟨rfl, (Below.refl _ _).alloc (Nat.le_refl _) _⟩
  | true =>
    have Hb := Lib.hid hb
    clear hb
    go_enter Tryz.func64, Tryz.ntmps64
    go_wp2_with (go_at_call 132; refine (routeRight_any _ _ H1.out).mono ?_; rw [Hb.out]; rintro e w' ⟨rfl, rfl⟩)
    all_goals
      go_ret
      refine ⟨ret_int ?_, (Below.refl _ _).alloc (Nat.le_refl _) _⟩
      simp only [cfgE, cfgB, Hb.out, Bool.true_and, decide_eq_true_eq]
      split <;> omega

set_option maxRecDepth 100000 in
set_option maxHeartbeats 1000000 in
theorem seriesRight_any (t v : Int) (w : World) :
    Calls Tryz.prog 105 #[.int .i64 t, .int .i64 v] w fun e w' => e = .returned (.int .i64 (serE t v)) ∧ w = w' := by
  go_enter Tryz.func105, Tryz.ntmps105
  go_wp2
  all_goals
    go_ret
    refine ⟨ret_int ?_, rfl⟩
    unfold serE
    repeat' split
    all_goals omega

set_option maxRecDepth 100000 in
set_option maxHeartbeats 1000000 in
theorem policyCheck_any (p : Pol) (w : World) :
    Calls Tryz.prog 106 #[polV p] w fun e w' => e = .returned (.int .i64 (polE p)) ∧ Below w.heap.size w w' := by
  obtain ⟨a, b, c, d, f, g⟩ := p
  unfold polV
  go_enter Tryz.func106, Tryz.ntmps106
  go_wp2
  all_goals
    go_ret
    refine ⟨ret_int ?_, (Below.refl _ _).alloc (Nat.le_refl _) _⟩
    simp only [polE, polB, decide_eq_true_eq]
    split <;> omega

set_option maxRecDepth 100000 in
set_option maxHeartbeats 1000000 in
theorem ref05Bits_any (n : Int) (w : World) :
    Calls Tryz.prog 48 #[.int .i64 n] w fun e w' => e = .returned (.int .i64 (bitsI n)) ∧ w = w' := by
  go_enter Tryz.func48, Tryz.ntmps48
  go_wp2
  go_loop [3, 4] (fun p b => ∃ k : Nat, k ≤ 7 ∧ b = .int .i64 k ∧ p = .int .i64 ((2 ^ k : Nat) : Int) ∧ ∀ j, j < k → n ≠ ((2 ^ j : Nat) : Int)) (fun _ b => 7 - (intOf b).toNat)
  case atStart => exact ⟨0, by omega, rfl, rfl, fun j hj => absurd hj (by omega)⟩
  case round =>
    obtain ⟨k, hk, rfl, rfl, hno⟩ := hrel
    by_cases hlt : k < 7
    · have hp : 2 ^ k ≤ 2 ^ 6 := Nat.pow_le_pow_right (by decide) (by omega)
      by_cases he : n = ((2 ^ k : Nat) : Int)
      · have hv := bitsI_pow k hlt
        rw [← he] at hv
        have hq : (n == ((2 ^ k : Nat) : Int)) = true := by simp [he]
        have Hv := Lib.hid hv
        clear hv he hno
        generalize 2 ^ k = m at *
        go_wp2
        go_ret
        exact ⟨ret_int Hv.out.symm, rfl⟩
      · have hq : (n == ((2 ^ k : Nat) : Int)) = false := by simpa using he
        have hno' : ∀ j, j < k + 1 → n ≠ ((2 ^ j : Nat) : Int) := by
          intro j hj
          rcases Nat.lt_or_ge j k with h | h
          · exact hno j h
          · obtain rfl : j = k := by omega
            exact he
        have Hno := Lib.hid hno'
        have hm : 2 ^ (k + 1) = 2 ^ k * 2 := Nat.pow_succ 2 k
        clear he hno hno'
        generalize hx : 2 ^ k = m at *
        have Hm := Lib.hid hm
        have Hx := Lib.hid hx
        clear hm hx
        go_wp2
        go_round
        case rel => exact ⟨k + 1, by omega, by go_num, by rw [Hm.out]; simp, Hno.out⟩
        case measure => simp [intOf]; omega
    · obtain rfl : k = 7 := by omega
      have hv := bitsI_none n hno
      have Hv := Lib.hid hv
      clear hv hno hlt hk
      go_wp2
      go_ret
      exact ⟨ret_int Hv.out.symm, rfl⟩

set_option maxRecDepth 100000 in
set_option maxHeartbeats 1000000 in
theorem ref17Right_any (c : Cfg) (w : World) :
    Calls Tryz.prog 11 #[cfgV c] w fun e w' => e = .returned (.bool (cfgB c)) ∧ Below w.heap.size w w' := by
  obtain ⟨st, sa, lo, hi⟩ := c
  unfold cfgV
  have hb := bitsI_ok st
  have Hb := Lib.hid hb
  clear hb
  go_enter Tryz.func11, Tryz.ntmps11
  go_wp2_with (go_at_call 48; refine (ref05Bits_any _ _).mono ?_; generalize bitsI st = b at *; rintro e w' ⟨rfl, rfl⟩)
  all_goals
    go_ret
    refine ⟨ret_bool ?_, (Below.refl _ _).alloc (Nat.le_refl _) _⟩
    have hb := Hb.out
    simp only [cfgB]
    rw [← hb, Bool.eq_iff_iff]
    simp only [Bool.and_eq_true, decide_eq_true_eq, Bool.false_eq_true, false_iff]
    omega

section
variable (id : ByteArray) (tick val handle a b tg tol win hold : Int) (w : World)

end
end

end Go.Proofs.YtfegielnmdppgaaGreat
