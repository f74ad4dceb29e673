/- series.Series in memory: New, place, List; The plain law of ids: letters, their numbers, keys of ids, digits of keys. Nothing of the program; Walks of ident's functions: each computes what the plain law says; Configs, policies and calls as plain data; what is wrong with them. -/
import Derived.Test.YtfegielnmdppgaaGreatJ09
import Derived.Sort.Grow
import Derived.Shelf.SlSorted.Search
import Derived.Test.YtfegielnmdppgaaGreatJ01
namespace Go.Proofs.YtfegielnmdppgaaGreat

section
set_option linter.unusedSimpArgs false
set_option linter.unusedVariables false
open Go.RowKit Go.Lib Go.Sort Go.Shelf

/-- A series at block S: its samples, its room; its footprint. -/
def SerIn (w : World) (S : Nat) (l : List Smp) (room : Int) (fp : List Nat) : Prop :=
  ∃ v fr, w.heap[S]? = some (.cells #[v, .int .i64 room] 220 (0, 0)) ∧ SRow smpC 42 2 w v l fr ∧ S ∉ fr ∧ fp = S :: fr
theorem SerIn.kept {w w' : World} {S : Nat} {l : List Smp} {room : Int} {fp : List Nat} (h : SerIn w S l room fp) (hb : ∀ r ∈ fp, w'.heap[r]? = w.heap[r]?) : SerIn w' S l room fp := by
  obtain ⟨v, fr, h1, h2, h3, rfl⟩ := h
  exact ⟨v, fr, (hb S (List.mem_cons_self ..)).trans h1, h2.kept (fun r hr => hb r (List.mem_cons_of_mem _ hr)), h3, rfl⟩
theorem SerIn.lt {w : World} {S : Nat} {l : List Smp} {room : Int} {fp : List Nat} (h : SerIn w S l room fp) : ∀ r ∈ fp, r < w.heap.size := by
  obtain ⟨v, fr, h1, h2, h3, rfl⟩ := h
  intro r hr
  rcases List.mem_cons.1 hr with rfl | hr
  · exact (Array.getElem?_eq_some_iff.1 h1).1
  · exact h2.lt r hr
theorem SerIn.below {w w' : World} {S : Nat} {l : List Smp} {room : Int} {fp : List Nat} (h : SerIn w S l room fp) (hb : Below w.heap.size w w') : SerIn w' S l room fp := h.kept (fun r hr => hb.block r (h.lt r hr))
theorem SerIn.mem {w : World} {S : Nat} {l : List Smp} {room : Int} {fp : List Nat} (h : SerIn w S l room fp) : S ∈ fp := by
  obtain ⟨_, _, _, _, _, rfl⟩ := h
  exact List.mem_cons_self ..

def risingS (l : List Smp) : Prop := l.Pairwise (fun a b => a.1 < b.1)
/-- Where a tick's sample stands, or would. -/
def placeS (l : List Smp) (t : Int) : Nat := l.countP (fun x => !decide (t ≤ x.1))
theorem placeS_le (l : List Smp) (t : Int) : placeS l t ≤ l.length := List.countP_le_length ..

set_option maxRecDepth 100000 in
set_option maxHeartbeats 2000000 in
theorem serPlace_closure (bs bt S g o c n : Nat) (t y : Int) (i : Nat) (W : World) (hi : i < n)
    (h1 : W.cell? ⟨bs, 0, none⟩ = some (.pointer (some ⟨S, 0, none⟩))) (h2 : W.cell? ⟨bt, 0, none⟩ = some (.int .i64 t)) (h3 : W.cell? ⟨S, 0, none⟩ = some (.slice (some ⟨g, o, none⟩) n c)) (h4 : W.cell? ⟨g, o + i * 2, none⟩ = some (.int .i64 y)) :
    Calls Tryz.prog 248 (#[.int .i64 i] ++ #[.pointer (some ⟨bs, 0, none⟩), .pointer (some ⟨bt, 0, none⟩)]) W fun e w' => e = .returned (.bool (decide (t ≤ y))) ∧ ∃ q, w' = W.drewN q := by
  have hi0 : (0 : Int) ≤ (i : Int) := by omega
  have hi1 : (i : Int) < (n : Int) := by omega
  go_enter Tryz.func248, Tryz.ntmps248
  go_wp2_with fail
  go_quiet (fail)
  go_wp2
  go_ret
  exact ⟨ret_bool (by first | rfl | simp), _, rfl⟩

theorem two_single (w : World) (x y : Value) (T U : TypeId) : ∀ W, W = (w.alloc (.cells #[x] T)).alloc (.cells #[y] U) → W.heap[w.heap.size]? = some (.cells #[x] T (0, 0)) ∧ W.heap[w.heap.size + 1]? = some (.cells #[y] U (0, 0)) ∧ Below w.heap.size w W ∧ W.heap.size = w.heap.size + 2 := by
  rintro W rfl
  exact ⟨box_old _ _ _, box_new _ _ _, balloc (balloc (Below.refl _ _) _) _, by simp⟩
theorem cell_gd {W : World} {a : Addr} {v : Value} (h : W.cell? a = some v) (hb : a.block < W.heap.size) (m : Nat) (os : Array Obj) : (grow (W.drewN m) os).cell? a = some v := by
  rw [← h]
  refine World.cell?_of_block ?_
  exact Array.getElem?_append_left hb
theorem below_gd (w : World) (q : Nat) (os : Array Obj) : Below w.heap.size w (grow (w.drewN q) os) := ⟨rfl, rfl, rfl, by simp [grow], fun k hk => Array.getElem?_append_left hk⟩

set_option maxRecDepth 100000 in
set_option maxHeartbeats 2000000 in
theorem serPlace_any (S : Nat) (l : List Smp) (room : Int) (fp : List Nat) (t : Int) (w : World) (h : SerIn w S l room fp) (hr : risingS l) (hl : l.length ≤ 1000000) :
    Calls Tryz.prog 214 #[.pointer (some ⟨S, 0, none⟩), .int .i64 t] w fun e w' => e = .returned (.int .i64 (placeS l t : Nat)) ∧ Below w.heap.size w w' := by
  obtain ⟨v, fr, hS, hrow, _, _⟩ := h
  have hSlt := (Array.getElem?_eq_some_iff.1 hS).1
  obtain ⟨A, c, rfl⟩ := hrow.form
  have hR := hrow.row eSmp
  obtain ⟨W, hW⟩ : ∃ W, W = (w.alloc (.cells #[.pointer (some ⟨S, 0, none⟩)] 138)).alloc (.cells #[.int .i64 t] 2) := ⟨_, rfl⟩
  obtain ⟨b1, b2, hbW, hsz⟩ := two_single w _ _ _ _ W hW
  have hS1 := (hbW.block S hSlt).trans hS
  obtain ⟨k1, k2, k3⟩ := box_cells (Below.refl _ _) hS1
  obtain ⟨k4, k5, k6⟩ := box_cells (Below.refl _ _) b1
  obtain ⟨k7, k8, k9⟩ := box_cells (Below.refl _ _) b2
  have eg : ∀ args w, (callFunc 248 args).run Tryz.prog w = .ok (.enter 248 args) w := enters_of Tryz.func248 (by kernel_rfl) rfl
  have hcall : Calls Tryz.prog 247 #[.int .i64 l.length, .func (.func 248) #[] #[.pointer (some ⟨w.heap.size, 0, none⟩), .pointer (some ⟨w.heap.size + 1, 0, none⟩)]] W fun e w' => e = .returned (.int .i64 (placeS l t : Nat)) ∧ ∃ q os, w' = grow (W.drewN q) os := by
    have hS := Any.sort_Search searchS 248 #[.pointer (some ⟨w.heap.size, 0, none⟩), .pointer (some ⟨w.heap.size + 1, 0, none⟩)] l.length (fun i => decide (t ≤ ((l.map (·.1)).toArray[i]!))) W eg (by omega)
      (fun m os i hi => by
        obtain ⟨g, o, rfl, hg, hc⟩ := (hR.below hbW).at_ hi
        have hy : (l.map (·.1)).toArray[i]! = l[i].1 := by rw [getElem!_pos _ i (by simpa using hi)]; simp
        simp only [hy]
        have := serPlace_closure w.heap.size (w.heap.size + 1) S g o c l.length t l[i].1 i (grow (W.drewN m) os) hi (cell_gd (k4 0) k6 m os) (cell_gd (k7 0) k9 m os) (cell_gd (k1 0) k3 m os) (cell_gd (hc 0 _ rfl) hg m os)
        exact this.mono fun _ _ ⟨he, q, hq⟩ => ⟨he, q, #[], by rw [hq, grow_empty]⟩)
      (fun a b hab hb h => by
        have ha : a < l.length := by omega
        have e1 : (l.map (·.1)).toArray[a]! = l[a].1 := by rw [getElem!_pos _ a (by simpa using ha)]; simp
        have e2 : (l.map (·.1)).toArray[b]! = l[b].1 := by rw [getElem!_pos _ b (by simpa using hb)]; simp
        simp only [e1, e2, decide_eq_true_eq] at h ⊢
        rcases Nat.lt_or_ge a b with hlt | hge
        · have := List.pairwise_iff_getElem.1 hr a b ha hb hlt
          omega
        · obtain rfl : a = b := by omega
          exact h)
    have hlen : l.length = (l.map (·.1)).toArray.size := by simp
    rw [show (List.range l.length).countP (fun i => !decide (t ≤ (l.map (·.1)).toArray[i]!)) = placeS l t from by
      rw [hlen, Lib.countP_range (l.map (·.1)).toArray (fun y => !decide (t ≤ y))]
      simp only [placeS, List.countP_map]
      rfl] at hS
    exact hS
  have HC := Lib.hid hcall
  have hc0 := k1 0
  have hc1 := k4 0
  simp only [List.getElem?_toArray, List.getElem?_cons_zero] at hc0 hc1
  clear hcall k1 k4 k7 hS1 hr hrow hR eg
  go_enter Tryz.func214, Tryz.ntmps214
  have q0 : w.cell? ⟨S, 0, none⟩ = some (.slice A l.length c) := by simp only [World.cell?, hS]; rfl
  go_wp2_with (go_at_call 247; rw [← hW]; refine HC.out.mono ?_; rintro e w1 ⟨rfl, q1, os1, rfl⟩)
  go_ret
  exact ⟨rfl, by rw [← hW]; exact bthen hbW (below_gd W _ _)⟩
end

section
set_option linter.unusedSimpArgs false
set_option linter.unusedVariables false

def codeI (c : Int) : Int :=
  if c = 45 then 1 else if c = 46 then 2 else if 48 ≤ c ∧ c ≤ 57 then c - 45 else if c = 95 then 13 else if 97 ≤ c ∧ c ≤ 122 then c - 83 else 0

theorem codeI_bd (c : Int) : 0 ≤ codeI c ∧ codeI c ≤ 39 := by
  unfold codeI
  repeat' split
  all_goals omega

theorem codeI_high (c : Int) (h : 128 ≤ c) : codeI c = 0 := by
  unfold codeI
  repeat' split
  all_goals omega

def codeB (b : UInt8) : Nat := (codeI b.toNat).toNat
def okB (b : UInt8) : Bool := decide (codeB b ≠ 0)

theorem codeB_le (b : UInt8) : codeB b ≤ 39 := by
  have := codeI_bd b.toNat
  unfold codeB; omega

theorem codeI_cast (b : UInt8) : codeI b.toNat = (codeB b : Int) := by
  have := codeI_bd b.toNat
  unfold codeB; omega

theorem okB_ascii (b : UInt8) (h : okB b = true) : b.toNat < 128 := by
  rcases Nat.lt_or_ge b.toNat 128 with h1 | h1
  · exact h1
  · have := codeI_high b.toNat (by omega)
    simp [okB, codeB, this] at h

/-- Letters keep their order as numbers. -/
theorem codeB_lt (a b : UInt8) (ha : okB a = true) (hb : okB b = true) : codeB a < codeB b ↔ a.toNat < b.toNat := by
  have ha' : codeB a ≠ 0 := by simpa [okB] using ha
  have hb' : codeB b ≠ 0 := by simpa [okB] using hb
  unfold codeB codeI at *
  have := a.toNat_lt
  have := b.toNat_lt
  generalize a.toNat = x at *
  generalize b.toNat = y at *
  repeat' split at ha'
  all_goals repeat' split at hb'
  all_goals first | omega | (simp at ha') | (simp at hb') | skip
  all_goals (repeat' split) <;> omega

theorem codeB_inj (a b : UInt8) (ha : okB a = true) (h : codeB a = codeB b) : a = b := by
  have hb : okB b = true := by simpa [okB, ← h] using ha
  have h1 := codeB_lt a b ha hb
  have h2 := codeB_lt b a hb ha
  exact UInt8.toNat_inj.1 (by omega)

def letterN (n : Nat) : UInt8 :=
  if n = 1 then 45 else if n = 2 then 46 else if n < 13 then UInt8.ofNat (45 + n) else if n = 13 then 95 else UInt8.ofNat (83 + n)

theorem letter_all : ∀ n, n < 40 → 0 < n → codeB (letterN n) = n ∧ okB (letterN n) = true := by decide

def idL (l : List UInt8) : Bool := decide (1 ≤ l.length) && (decide (l.length ≤ 20) && l.all okB)

theorem idL_iff (l : List UInt8) : idL l = true ↔ 1 ≤ l.length ∧ l.length ≤ 20 ∧ ∀ b ∈ l, okB b = true := by
  simp [idL]

def dig (l : List UInt8) (i : Nat) : Nat := ((l[i]?).map codeB).getD 0

theorem dig_le (l : List UInt8) (i : Nat) : dig l i ≤ 39 := by
  unfold dig
  cases l[i]? with
  | none => simp
  | some b => simpa using codeB_le b

theorem dig_at (l : List UInt8) (i : Nat) (h : i < l.length) : dig l i = codeB l[i] := by simp [dig, h]
theorem dig_out (l : List UInt8) (i : Nat) (h : l.length ≤ i) : dig l i = 0 := by simp [dig, h]

def keyN (l : List UInt8) (a : Nat) : Nat → Nat
  | 0 => 0
  | n + 1 => keyN l a n * 64 + dig l (a + n)

theorem keyN_lt (l : List UInt8) (a n : Nat) : keyN l a n < 64 ^ n := by
  induction n with
  | zero => simp [keyN]
  | succ n ih =>
    have := dig_le l (a + n)
    rw [keyN, Nat.pow_succ]
    omega

/-- Where the list ends the digits are 0. -/
theorem keyN_end (l : List UInt8) (a m : Nat) (h : l.length ≤ a + m) : ∀ k, keyN l a (m + k) = keyN l a m * 64 ^ k := by
  intro k
  induction k with
  | zero => simp
  | succ k ih =>
    rw [← Nat.add_assoc, keyN, ih, dig_out l _ (by omega), Nat.pow_succ, Nat.mul_assoc]
    simp

/-- The j-th digit of a key. -/
theorem keyN_dig (l : List UInt8) (a : Nat) : ∀ n j, j < n → keyN l a n / 64 ^ (n - 1 - j) % 64 = dig l (a + j) := by
  intro n
  induction n with
  | zero => intro j h; omega
  | succ n ih =>
    intro j h
    have hd := dig_le l (a + n)
    rcases Nat.lt_or_ge j n with h1 | h1
    · have e : n + 1 - 1 - j = (n - 1 - j) + 1 := by omega
      rw [e, Nat.pow_succ, Nat.mul_comm (64 ^ _) 64, ← Nat.div_div_eq_div_mul, keyN]
      rw [show (keyN l a n * 64 + dig l (a + n)) / 64 = keyN l a n by omega]
      exact ih j h1
    · have e : n + 1 - 1 - j = 0 := by omega
      obtain rfl : j = n := by omega
      rw [e, keyN]
      simp
      omega

theorem keyN_congr (l l' : List UInt8) (a : Nat) : ∀ n, (∀ j, j < n → dig l (a + j) = dig l' (a + j)) → keyN l a n = keyN l' a n := by
  intro n
  induction n with
  | zero => intro _; rfl
  | succ n ih =>
    intro h
    rw [keyN, keyN, ih (fun j hj => h j (by omega)), h n (by omega)]

/-- Equal digits, equal lists (of letters). -/
theorem list_of_digs (l l' : List UInt8) (hl : ∀ b ∈ l, okB b = true) (hl' : ∀ b ∈ l', okB b = true) (n : Nat) (h1 : l.length ≤ n) (h2 : l'.length ≤ n)
    (h : ∀ j, j < n → dig l j = dig l' j) : l = l' := by
  have pos : ∀ (m : List UInt8), (∀ b ∈ m, okB b = true) → ∀ i, i < m.length → dig m i ≠ 0 := by
    intro m hm i hi
    rw [dig_at m i hi]
    simpa [okB] using hm _ (List.getElem_mem hi)
  have hlen : l.length = l'.length := by
    rcases Nat.lt_trichotomy l.length l'.length with hx | hx | hx
    · have := pos l' hl' l.length hx
      rw [← h _ (by omega), dig_out l _ (Nat.le_refl _)] at this
      omega
    · exact hx
    · have := pos l hl l'.length hx
      rw [h _ (by omega), dig_out l' _ (Nat.le_refl _)] at this
      omega
  refine List.ext_getElem hlen fun i hi hi' => ?_
  have := h i (by omega)
  rw [dig_at l i hi, dig_at l' i hi'] at this
  exact codeB_inj _ _ (hl _ (List.getElem_mem hi)) this

def hiN (l : List UInt8) : Nat := keyN l 0 10
def loN (l : List UInt8) : Nat := keyN l 10 10

theorem hiN_lt (l : List UInt8) : hiN l < 1152921504606846976 := keyN_lt l 0 10
theorem loN_lt (l : List UInt8) : loN l < 1152921504606846976 := keyN_lt l 10 10

/-- The digit of two words at a place. -/
def atN (hi lo i : Nat) : Nat := (if i < 10 then hi else lo) / 64 ^ (9 - i % 10) % 64

theorem atN_key (l : List UInt8) (i : Nat) (h : i < 20) : atN (hiN l) (loN l) i = dig l i := by
  unfold atN hiN loN
  split
  · rename_i h1
    rw [Nat.mod_eq_of_lt h1]
    have := keyN_dig l 0 10 i h1
    simpa using this
  · rename_i h1
    have e : i % 10 = i - 10 := by omega
    rw [e]
    have := keyN_dig l 10 10 (i - 10) (by omega)
    rw [show 10 + (i - 10) = i by omega] at this
    simpa using this

def IsKey (hi lo : Nat) (l : List UInt8) : Prop := idL l = true ∧ hiN l = hi ∧ loN l = lo

theorem IsKey.digs {hi lo : Nat} {l : List UInt8} (h : IsKey hi lo l) (i : Nat) (hi20 : i < 20) : atN hi lo i = dig l i := by
  obtain ⟨_, rfl, rfl⟩ := h
  exact atN_key l i hi20

theorem IsKey.one {hi lo : Nat} {l l' : List UInt8} (h : IsKey hi lo l) (h' : IsKey hi lo l') : l = l' := by
  obtain ⟨_, h2, h3⟩ := (idL_iff l).1 h.1
  obtain ⟨_, h2', h3'⟩ := (idL_iff l').1 h'.1
  exact list_of_digs l l' h3 h3' 20 h2 h2' fun j hj => by rw [← h.digs j hj, h'.digs j hj]

/-! ### The loop of Pack: words that are filled from the top -/

/-- The word of the first m of ten digits. -/
def partW (l : List UInt8) (a m : Nat) : Nat := keyN l a m * 64 ^ (10 - m)

theorem partW_zero (l : List UInt8) (a : Nat) : partW l a 0 = 0 := by simp [partW, keyN]
theorem partW_ten (l : List UInt8) (a : Nat) : partW l a 10 = keyN l a 10 := by simp [partW]
theorem partW_lt (l : List UInt8) (a m : Nat) (h : m ≤ 10) : partW l a m < 1152921504606846976 := by
  have h1 := keyN_lt l a m
  have e : 64 ^ m * 64 ^ (10 - m) = 1152921504606846976 := by
    rw [← Nat.pow_add, show m + (10 - m) = 10 by omega]
  unfold partW
  rw [← e]
  exact Nat.mul_lt_mul_of_pos_right h1 (Nat.pow_pos (by decide))

theorem shl_dig (d m : Nat) : d <<< (6 * (9 - m)) = d * 64 ^ (9 - m) := by
  rw [Nat.shiftLeft_eq, show (64 : Nat) = 2 ^ 6 by rfl, ← Nat.pow_mul]

theorem partW_succ (l : List UInt8) (a m : Nat) (h : m < 10) : partW l a m ||| (dig l (a + m)) <<< (6 * (9 - m)) = partW l a (m + 1) := by
  have hd := dig_le l (a + m)
  have e : 10 - m = (9 - m) + 1 := by omega
  have hlt : dig l (a + m) <<< (6 * (9 - m)) < 2 ^ (6 * (10 - m)) := by
    rw [shl_dig, e, Nat.mul_add, Nat.pow_add, Nat.pow_mul, show (2 : Nat) ^ 6 = 64 by rfl, Nat.mul_comm]
    exact Nat.mul_lt_mul_of_pos_left (by omega) (Nat.pow_pos (by decide))
  have hp : partW l a m = keyN l a m <<< (6 * (10 - m)) := by
    unfold partW
    rw [Nat.shiftLeft_eq, Nat.pow_mul, show (2 : Nat) ^ 6 = 64 by rfl]
  rw [hp, ← Nat.shiftLeft_add_eq_or_of_lt hlt, shl_dig, Nat.shiftLeft_eq, Nat.pow_mul, show (2 : Nat) ^ 6 = 64 by rfl, e, Nat.pow_succ]
  unfold partW
  rw [keyN, show 10 - (m + 1) = 9 - m by omega, Nat.add_mul, Nat.mul_assoc, Nat.mul_comm 64]

theorem partW_all (l : List UInt8) (a : Nat) (m : Nat) (hm : m ≤ 10) (h : l.length ≤ a + m) : partW l a m = keyN l a 10 := by
  have := keyN_end l a m h (10 - m)
  rw [show m + (10 - m) = 10 by omega] at this
  unfold partW
  exact this.symm
end

section
set_option linter.unusedSimpArgs false
set_option linter.unusedVariables false
open Go.RowKit Go.Lib

set_option maxHeartbeats 400000 in
theorem code_any (c : Int) (w : World) (h0 : -2147483648 ≤ c) (h1 : c ≤ 2147483647) :
    Calls Tryz.prog 145 #[.int .i32 c] w fun e w' => e = .returned (.int .u64 (codeI c)) ∧ w = w' := by
  go_enter Tryz.func145, Tryz.ntmps145
  go_wp2
  all_goals
    go_ret
    refine ⟨?_, rfl⟩
    simp_all [codeI]
    try omega

theorem mem_at (s : ByteArray) (j : Nat) (h : j < s.size) : s[j] ∈ s.data.toList := by
  have e : s[j] = s.data.toList[j]'(by simpa using h) := rfl
  rw [e]
  exact List.getElem_mem _

/-- All bytes ahead of a place are letters. -/
def OkTo (s : ByteArray) (n : Nat) : Prop := ∀ j (h : j < s.size), j < n → okB s[j] = true

theorem okTo_list (s : ByteArray) (n : Nat) (h : s.size ≤ n) : OkTo s n ↔ ∀ b ∈ s.data.toList, okB b = true := by
  constructor
  · intro hk b hb
    obtain ⟨j, hj, rfl⟩ := List.getElem_of_mem hb
    have hj' : j < s.size := by simpa using hj
    exact hk j hj' (by omega)
  · intro hk j hj _
    exact hk _ (mem_at s j hj)

theorem okTo_zero (s : ByteArray) : OkTo s 0 := fun _ _ h => absurd h (by omega)
theorem okTo_succ (s : ByteArray) (n : Nat) (h : OkTo s n) (hn : n < s.size) (hb : okB s[n] = true) : OkTo s (n + 1) := by
  intro j hj hlt
  rcases Nat.lt_or_ge j n with h1 | h1
  · exact h j hj h1
  · obtain rfl : j = n := by omega
    exact hb

def idS (s : ByteArray) : Bool := idL s.data.toList

theorem idS_len (s : ByteArray) (h : s.size < 1 ∨ 20 < s.size) : idS s = false := by
  cases hb : idS s with
  | false => rfl
  | true =>
    have := (idL_iff _).1 hb
    simp at this
    omega
theorem idS_bad (s : ByteArray) (j : Nat) (hj : j < s.size) (h : okB s[j] = false) : idS s = false := by
  cases hb : idS s with
  | false => rfl
  | true =>
    have := ((idL_iff _).1 hb).2.2 s[j] (mem_at s j hj)
    rw [h] at this
    cases this
theorem idS_all (s : ByteArray) (h1 : 1 ≤ s.size) (h2 : s.size ≤ 20) (h : OkTo s s.size) : idS s = true :=
  (idL_iff _).2 ⟨by simpa using h1, by simpa using h2, (okTo_list s s.size (Nat.le_refl _)).1 h⟩
theorem idS_okTo (s : ByteArray) (h : idS s = true) : 1 ≤ s.size ∧ s.size ≤ 20 ∧ OkTo s s.size := by
  have := (idL_iff _).1 h
  exact ⟨by simpa using this.1, by simpa using this.2.1, (okTo_list s s.size (Nat.le_refl _)).2 this.2.2⟩

def chkV (s : ByteArray) : Int := if idS s = true then 0 else 2

theorem okB_code (b : UInt8) : okB b = true → (codeI b.toNat == 0) = false := by
  intro h
  rw [codeI_cast]
  simpa [okB] using h
/-- A rune that begins with a byte that is no letter has no number. -/
theorem rune_bad (s : ByteArray) (pos : Nat) (h : pos < s.size) (hb : okB s[pos] = false) : (codeI (Utf8.decode s pos).1 == 0) = true := by
  by_cases ha : (s[pos]'h).toNat < 128
  · rw [decode_ascii s pos h ha]
    simp only [beq_iff_eq]
    have : codeB s[pos] = 0 := by simpa [okB] using hb
    rw [codeI_cast, this]; rfl
  · have := (decode_high s pos h (by omega)).1
    simp only [beq_iff_eq]
    exact codeI_high _ (by omega)

set_option maxHeartbeats 1000000 in
theorem check_any (s : ByteArray) (w : World) (hm : s.size ≤ maxLen) :
    Calls Tryz.prog 104 #[.string s] w fun e w' => e = .returned (.int .i64 (chkV s)) ∧ Below w.heap.size w w' := by
  unfold maxLen at hm
  by_cases h1 : s.size < 1
  · have hf : chkV s = 2 := by simp [chkV, idS_len s (.inl h1)]
    rw [hf]
    clear hf
    go_enter Tryz.func104, Tryz.ntmps104
    go_wp2
    go_ret
    exact ⟨rfl, Below.refl _ _⟩
  · by_cases h2 : 20 < s.size
    · have hf : chkV s = 2 := by simp [chkV, idS_len s (.inr h2)]
      rw [hf]
      clear hf
      go_enter Tryz.func104, Tryz.ntmps104
      go_wp2
      go_ret
      exact ⟨rfl, Below.refl _ _⟩
    · go_enter Tryz.func104, Tryz.ntmps104
      go_wp2
      go_loopw [4] (fun _ w' => ∃ pos : Nat, pos ≤ s.size ∧ w' = w.iter s pos ∧ OkTo s pos) (fun _ w' => s.size - w'.iterPos w.heap.size)
      case atStart => exact ⟨0, Nat.zero_le _, rfl, okTo_zero s⟩
      case round =>
        obtain ⟨pos, hp0, rfl, hok⟩ := hrel
        by_cases hp : pos < s.size
        · cases hb : okB s[pos] with
          | true =>
            have ha := okB_ascii _ hb
            have hc := okB_code _ hb
            have hok' := okTo_succ s pos hok hp hb
            have hnx : ∀ ty, (Instr.next (.pointer (some ⟨w.heap.size, 0, none⟩)) true ty).run Tryz.prog (w.iter s pos) = _ := fun ty => run_next_ascii w s pos ty hp ha
            clear hb hok
            go_wp2_with (go_at_call 145; refine (code_any _ _ (by omega) (by omega)).mono ?_; rintro e w' ⟨rfl, rfl⟩)
            go_roundw
            case rel => exact ⟨pos + 1, hp, rfl, hok'⟩
            case measure => simp; omega
          | false =>
            have hr := rune_bad s pos hp hb
            have hle := decode_le s pos
            have hf : chkV s = 2 := by simp [chkV, idS_bad s pos hp hb]
            have hnx : ∀ ty, (Instr.next (.pointer (some ⟨w.heap.size, 0, none⟩)) true ty).run Tryz.prog (w.iter s pos) = _ := fun ty => run_next_any w s pos ty hp
            clear hb hok
            have Hf := Lib.hid hf
            clear hf
            go_wp2_with (go_at_call 145; refine (code_any _ _ (by omega) (by omega)).mono ?_; rintro e w' ⟨rfl, rfl⟩)
            go_ret
            rw [Hf.out]
            exact ⟨rfl, (Below.refl _ _).alloc (Nat.le_refl _) _⟩
        · have hf : chkV s = 0 := by
            obtain rfl : pos = s.size := by omega
            simp [chkV, idS_all s (by omega) (by omega) hok]
          have Hf := Lib.hid hf
          clear hf hok
          have hnx : ∀ ty, (Instr.next (.pointer (some ⟨w.heap.size, 0, none⟩)) true ty).run Tryz.prog (w.iter s pos) = _ := fun ty => run_next_end w s pos ty hp
          go_wp2
          go_ret
          rw [Hf.out]
          exact ⟨rfl, (Below.refl _ _).alloc (Nat.le_refl _) _⟩
end

section
set_option linter.unusedSimpArgs false
set_option linter.unusedVariables false
open Go.RowKit Go.Lib

structure Cfg where
  st : Int
  sa : Int
  lo : Int
  hi : Int

structure Pol where
  mn : Int
  mx : Int
  tg : Int
  tol : Int
  win : Int
  hold : Int

structure CallD where
  kind : Int
  id : ByteArray
  tick : Int
  val : Int
  handle : Int
  pol : Pol

def I64 (n : Int) : Prop := -9223372036854775808 ≤ n ∧ n ≤ 9223372036854775807

def Cfg.ok (c : Cfg) : Prop := I64 c.st ∧ I64 c.sa ∧ I64 c.lo ∧ I64 c.hi
def Pol.ok (p : Pol) : Prop := I64 p.mn ∧ I64 p.mx ∧ I64 p.tg ∧ I64 p.tol ∧ I64 p.win ∧ I64 p.hold
def CallD.ok (c : CallD) : Prop := I64 c.kind ∧ c.id.size ≤ maxLen ∧ I64 c.tick ∧ I64 c.val ∧ I64 c.handle ∧ c.pol.ok

def cfgV (c : Cfg) : Value := .agg #[.int .i64 c.st, .int .i64 c.sa, .int .i64 c.lo, .int .i64 c.hi]
def polV (p : Pol) : Value := .agg #[.int .i64 p.mn, .int .i64 p.mx, .int .i64 p.tg, .int .i64 p.tol, .int .i64 p.win, .int .i64 p.hold]
def callCells (c : CallD) : List Value := [.int .i64 c.kind, .string c.id, .int .i64 c.tick, .int .i64 c.val, .int .i64 c.handle, .int .i64 c.pol.mn, .int .i64 c.pol.mx, .int .i64 c.pol.tg, .int .i64 c.pol.tol, .int .i64 c.pol.win, .int .i64 c.pol.hold]
def callV (c : CallD) : Value := .agg #[.int .i64 c.kind, .string c.id, .int .i64 c.tick, .int .i64 c.val, .int .i64 c.handle, .int .i64 c.pol.mn, .int .i64 c.pol.mx, .int .i64 c.pol.tg, .int .i64 c.pol.tol, .int .i64 c.pol.win, .int .i64 c.pol.hold]

def okSt (n : Int) : Bool := n == 1 || (n == 2 || (n == 4 || (n == 8 || (n == 16 || (n == 32 || n == 64)))))
def cfgB (c : Cfg) : Bool := okSt c.st && decide (1 ≤ c.sa ∧ c.sa ≤ 256 ∧ 1 ≤ c.lo ∧ c.lo ≤ 256 ∧ 1 ≤ c.hi ∧ c.hi ≤ 64)
def cfgE (c : Cfg) : Int := if cfgB c = true then 0 else 1
def serE (t v : Int) : Int := if t < 0 then 3 else if v < 0 then 4 else 0
def polB (p : Pol) : Bool := decide (0 ≤ p.mn ∧ 1 ≤ p.mx ∧ p.mn ≤ p.mx ∧ p.mx ≤ 1073741824 ∧ 1 ≤ p.tg ∧ 0 ≤ p.tol ∧ p.tol ≤ 999 ∧ 1 ≤ p.win ∧ 0 ≤ p.hold)
def polE (p : Pol) : Int := if polB p = true then 0 else 7
def chkC (c : CallD) : Int :=
  if c.kind < 1 ∨ 8 < c.kind then 14
  else if (c.kind = 1 ∨ c.kind = 5 ∨ c.kind = 6 ∨ c.kind = 7) ∧ idS c.id = false then 2
  else if c.kind = 1 then serE c.tick c.val
  else if c.kind = 2 ∧ c.tick < 0 then 3
  else if c.kind = 6 ∧ polB c.pol = false then 7
  else 0

theorem okSt_iff (n : Int) : okSt n = true ↔ n = 1 ∨ n = 2 ∨ n = 4 ∨ n = 8 ∨ n = 16 ∨ n = 32 ∨ n = 64 := by
  simp [okSt]

def bitsI (n : Int) : Int := if n = 1 then 0 else if n = 2 then 1 else if n = 4 then 2 else if n = 8 then 3 else if n = 16 then 4 else if n = 32 then 5 else if n = 64 then 6 else -1
theorem bitsI_ok (n : Int) : decide (0 ≤ bitsI n) = okSt n := by
  rw [Bool.eq_iff_iff, okSt_iff, decide_eq_true_eq]
  unfold bitsI
  repeat' split
  all_goals omega
theorem bitsI_pow : ∀ k, k < 7 → bitsI ((2 ^ k : Nat) : Int) = (k : Nat) := by decide
theorem bitsI_none (n : Int) (h : ∀ j, j < 7 → n ≠ ((2 ^ j : Nat) : Int)) : bitsI n = -1 := by
  have h0 := h 0 (by omega)
  have h1 := h 1 (by omega)
  have h2 := h 2 (by omega)
  have h3 := h 3 (by omega)
  have h4 := h 4 (by omega)
  have h5 := h 5 (by omega)
  have h6 := h 6 (by omega)
  simp at h0 h1 h2 h3 h4 h5 h6
  simp [bitsI, *]

theorem okSt_bd (n : Int) (h : okSt n = true) : 1 ≤ n ∧ n ≤ 64 := by
  have := (okSt_iff n).1 h
  omega

theorem st_and : ∀ k, k < 65 → 1 ≤ k → (bits BinOp.and IntKind.i64 ((k : Nat) : Int) ((k : Nat) - 1 : Int) == 0) = okSt ((k : Nat) : Int) := by decide

theorem chkC_bd (c : CallD) : 0 ≤ chkC c ∧ chkC c ≤ 14 := by
  unfold chkC serE
  repeat' split
  all_goals omega
end

end Go.Proofs.YtfegielnmdppgaaGreat
