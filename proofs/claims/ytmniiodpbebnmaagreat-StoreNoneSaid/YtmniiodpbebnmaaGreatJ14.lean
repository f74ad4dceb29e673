/- The reference's items of a stripe: At, Has; The reference's items of a stripe: Has, Get, With; The reference's items of a stripe: Get, With; The reference's items of a stripe: With; The reference's Right of a policy; The reference's Do of a workload; The reference's Do of a workload, its other kinds; The reference's Do of a workload: all kinds in one; The reference's Do of a stripe's items; The reference's Do of a stripe's items: what is done to one item; The reference's Trim of a stripe's items; Walk of fnv.bytes; Walks of fnv's Sum64, Key, Fold and route's Bits, Of. -/
import Derived.Test.YtmniiodpbebnmaaGreatJ13
import Derived.Test.YtmniiodpbebnmaaGreatJ11
import Derived.Test.YtmniiodpbebnmaaGreatJ02
import Derived.Deep.DeepCutAuto
import Derived.Test.YtmniiodpbebnmaaGreatJ09
namespace Go.Proofs.YtmniiodpbebnmaaGreat

section
set_option linter.unusedSimpArgs false
set_option linter.unusedVariables false
open Go.RowKit Go.Lib Go.Sort

/-- An item: its key, where its lists lie, its load. -/
structure It where
  key : Ky
  sA : Option Addr
  sc : Nat
  pA : Option Addr
  pc : Nat
  nd : Nd
def It.vs (x : It) : Value := .slice x.sA x.nd.smp.length x.sc
def itC (x : It) : List Value := [.int .u64 x.key.1, .int .u64 x.key.2, .slice x.sA x.nd.smp.length x.sc, .slice x.pA x.nd.past.length x.pc, .int .i64 x.nd.pol.mn, .int .i64 x.nd.pol.mx, .int .i64 x.nd.pol.tg, .int .i64 x.nd.pol.tol, .int .i64 x.nd.pol.win, .int .i64 x.nd.pol.hold, .bool x.nd.ruled, .int .i64 (x.nd.ver : Nat)]
def LoadIn (P : Nat → Prop) (w : World) (x : It) : Prop := RowG P 2 smpC w (.slice x.sA x.nd.smp.length x.sc) x.nd.smp ∧ RowG P 5 advC w (.slice x.pA x.nd.past.length x.pc) x.nd.past
theorem LoadIn.below {P : Nat → Prop} {w w' : World} {x : It} (h : LoadIn P w x) (hb : Below w.heap.size w w') : LoadIn P w' x := ⟨h.1.below hb, h.2.below hb⟩
theorem LoadIn.imp {P Q : Nat → Prop} {w : World} {x : It} (h : LoadIn P w x) (hi : ∀ b, P b → Q b) : LoadIn Q w x := ⟨h.1.imp hi, h.2.imp hi⟩
def ItemsIn (P : Nat → Prop) (w : World) (v : Value) (l : List It) : Prop := RowG P 12 itC w v l ∧ ∀ x ∈ l, LoadIn P w x
theorem ItemsIn.imp {P Q : Nat → Prop} {w : World} {v : Value} {l : List It} (h : ItemsIn P w v l) (hi : ∀ b, P b → Q b) : ItemsIn Q w v l := ⟨h.1.imp hi, fun x hx => (h.2 x hx).imp hi⟩
theorem ItemsIn.below {P : Nat → Prop} {w w' : World} {v : Value} {l : List It} (h : ItemsIn P w v l) (hb : Below w.heap.size w w') : ItemsIn P w' v l := ⟨h.1.below hb, fun x hx => (h.2 x hx).below hb⟩

/-- Where a key stands, or would. -/
def atI (l : List It) (k : Ky) : Nat := (l.takeWhile (fun x => ltK x.key k)).length
theorem atI_lt {l : List It} {k : Ky} : ∀ {i : Nat} (h : i < l.length), i < atI l k → ltK l[i].key k = true := by
  induction l with
  | nil => intro i h; simp at h
  | cons a l ih =>
    intro i h hi
    by_cases ha : ltK a.key k = true
    · have e : atI (a :: l) k = atI l k + 1 := by simp [atI, ha]
      rw [e] at hi
      cases i with
      | zero => exact ha
      | succ i => simpa using ih (by simpa using h) (by omega)
    · have e : atI (a :: l) k = 0 := by simp [atI, ha]
      omega
theorem atI_ge {l : List It} {k : Ky} (h : atI l k < l.length) : ltK l[atI l k].key k = false := by
  induction l with
  | nil => simp at h
  | cons a l ih =>
    by_cases ha : ltK a.key k = true
    · have e : atI (a :: l) k = atI l k + 1 := by simp [atI, ha]
      simp only [e] at h ⊢
      simp only [List.getElem_cons_succ]
      exact ih (by simpa using h)
    · have e : atI (a :: l) k = 0 := by simp [atI, ha]
      simp only [e, List.getElem_cons_zero]
      simpa using ha
end

section
set_option linter.unusedSimpArgs false
set_option linter.unusedVariables false
open Go.RowKit Go.Lib Go.Sort

def hasI (l : List It) (k : Ky) : Bool := if h : atI l k < l.length then decide (l[atI l k].key = k) else false
end

section
set_option linter.unusedSimpArgs false
set_option linter.unusedVariables false
open Go.RowKit Go.Lib Go.Sort

/-- A key's load, or an empty one. -/
def it0 : It := ⟨(0, 0), none, 0, none, 0, nd0⟩
def getL (l : List It) (k : Ky) : It := if h : atI l k < l.length then (if l[atI l k].key = k then l[atI l k] else it0) else it0
theorem getL_has {l : List It} {k : Ky} (h : hasI l k = true) : ∃ hl : atI l k < l.length, getL l k = l[atI l k] := by
  unfold hasI at h
  split at h
  · rename_i hl
    refine ⟨hl, ?_⟩
    unfold getL
    rw [dif_pos hl, if_pos (by simpa using h)]
  · cases h
theorem getL_none {l : List It} {k : Ky} (h : hasI l k = false) : getL l k = it0 := by
  unfold hasI at h
  unfold getL
  split at h
  · rename_i hl
    rw [dif_pos hl, if_neg (by simpa using h)]
  · rename_i hl
    rw [dif_neg hl]
end

section
set_option linter.unusedSimpArgs false
set_option linter.unusedVariables false
open Go.RowKit Go.Lib Go.Sort
end

section
set_option linter.unusedSimpArgs false
set_option linter.unusedVariables false
open Go.RowKit Go.Lib
end

section
set_option linter.unusedSimpArgs false
set_option linter.unusedVariables false
open Go.RowKit Go.Lib Go.Sort

structure Act17 where
  kind : Int
  smp : Smp
  pol : Pol
  adv : Adv
/-- What is done to a workload: what comes of it, an error, a number. -/
def do17 (rs rh : Nat) (x : Nd) (a : Act17) : Nd × Int × Int :=
  if a.kind = 0 then (if serE a.smp.1 a.smp.2 = 0 then ({ x with smp := putS x.smp (rs : Nat) a.smp, ver := x.ver + 1 }, 0, (x.smp.length : Int) - ((putS x.smp (rs : Nat) a.smp).length : Int)) else (x, serE a.smp.1 a.smp.2, 0))
  else if a.kind = 1 then (if placeS x.smp a.smp.1 = 0 then (x, 0, 0) else ({ x with smp := x.smp.drop (placeS x.smp a.smp.1), ver := x.ver + 1 }, 0, (placeS x.smp a.smp.1 : Nat)))
  else if a.kind = 2 then (if polB a.pol = true then ({ x with pol := a.pol, ruled := true, ver := x.ver + 1 }, 0, 0) else (x, 7, 0))
  else if a.kind = 3 then ({ x with past := pushL x.past rh a.adv, ver := x.ver + 1 }, 0, 0)
  else (x, 0, 0)
/-- A row stands where its block does. -/
theorem RowG.keepP {α : Type} {P : Nat → Prop} {n : Nat} {f : α → List Value} {w w' : World} {v : Value} {l : List α} (h : RowG P n f w v l) (hs : w.heap.size ≤ w'.heap.size) (hk : ∀ b, P b → b < w.heap.size → w'.heap[b]? = w.heap[b]?) : RowG P n f w' v l := by
  obtain ⟨⟨A, c, hv, hc, hr⟩, hp⟩ := h
  refine ⟨⟨A, c, hv, hc, fun hn => ?_⟩, hp⟩
  obtain ⟨b, o, hA, hlt, hat⟩ := hr hn
  have hb := hk b (hp b o _ _ (by rw [hv, hA]) hn) hlt
  exact ⟨b, o, hA, Nat.lt_of_lt_of_le hlt hs, fun k x hx j u hu => by
    have := hat k x hx j u hu
    simp only [World.cell?] at this ⊢
    rw [hb]
    exact this⟩
theorem RowG.and {α : Type} {P Q : Nat → Prop} {n : Nat} {f : α → List Value} {w : World} {v : Value} {l : List α} (h : RowG P n f w v l) (k : RowG Q n f w v l) : RowG (fun b => P b ∧ Q b) n f w v l :=
  ⟨h.1, fun b o m c e hn => ⟨h.2 b o m c e hn, k.2 b o m c e hn⟩⟩
/-- A row that stood ahead of a call lies below what the call makes. -/
theorem RowG.old {α : Type} {P : Nat → Prop} {n : Nat} {f : α → List Value} {w : World} {v : Value} {l : List α} (h : RowG P n f w v l) : RowG (fun b => P b ∧ b < w.heap.size) n f w v l := by
  refine ⟨h.1, fun b o m c e hn => ⟨h.2 b o m c e hn, ?_⟩⟩
  obtain ⟨⟨A, c', hv, hc, hr⟩, _⟩ := h
  obtain ⟨b', o', hA, hlt, _⟩ := hr hn
  rw [e] at hv
  injection hv with e1 _ _
  rw [hA] at e1
  injection e1 with e1
  injection e1 with e1
  omega

theorem LoadIn.old {P : Nat → Prop} {w W : World} {x : It} (h : LoadIn P w x) (hb : Below w.heap.size w W) : LoadIn (fun b => P b ∧ (b < w.heap.size ∨ w.heap.size + 5 ≤ b)) W x :=
  ⟨(h.1.old.below hb).imp (fun _ h => ⟨h.1, .inl h.2⟩), (h.2.old.below hb).imp (fun _ h => ⟨h.1, .inl h.2⟩)⟩
end

section
set_option linter.unusedSimpArgs false
set_option linter.unusedVariables false
open Go.RowKit Go.Lib Go.Sort
end

section
set_option linter.unusedSimpArgs false
set_option linter.unusedVariables false
open Go.RowKit Go.Lib Go.Sort

/-- What a load must be. -/
structure NdOk (rs rh : Nat) (x : Nd) : Prop where
  ris : risingS x.smp
  len : x.smp.length ≤ rs
  past : x.past.length ≤ rh
structure RoomOk (c : Cfg) (rs rh : Nat) : Prop where
  sa : c.sa = (rs : Nat)
  hi : c.hi = (rh : Nat)
  r1 : 1 ≤ rs
  r2 : rs ≤ 256
  h1 : 1 ≤ rh
  h2 : rh ≤ 64
end

section
set_option linter.unusedSimpArgs false
set_option linter.unusedVariables false
open Go.RowKit Go.Lib Go.Sort

def absI (x : It) : Ky × Nd := (x.key, x.nd)
def Do18Says (P : Nat → Prop) (w : World) (l' : List (Ky × Nd)) (e1 n more : Int) (e : Ending) (w' : World) : Prop :=
  ∃ out A c, e = .returned (.tuple #[.slice A out.length c, .int .i64 e1, .int .i64 n, .int .i64 more]) ∧ ItemsIn P w' (.slice A out.length c) out ∧ out.map absI = l' ∧ Below w.heap.size w w'
theorem Do18Says.same {P : Nat → Prop} {w w' : World} {l : List It} {A : Option Addr} {c : Nat} (h : ItemsIn P w (.slice A l.length c) l) (hb : Below w.heap.size w w') (e1 n more : Int) : Do18Says P w (l.map absI) e1 n more (.returned (.tuple #[.slice A l.length c, .int .i64 e1, .int .i64 n, .int .i64 more])) w' :=
  ⟨l, A, c, rfl, h.below hb, rfl, hb⟩
end

section
set_option linter.unusedSimpArgs false
set_option linter.unusedVariables false
open Go.RowKit Go.Lib Go.Sort

def outI (l : List It) (k : Ky) (y : Nd) : List (Ky × Nd) := (l.map absI).take (atI l k) ++ [(k, y)] ++ (l.map absI).drop (if hasI l k = true then atI l k + 1 else atI l k)
/-- What comes of an act on one item: the items, an error, the version's rise. -/
def one18 (c : Cfg) (rs rh : Nat) (l : List It) (k : Ky) (a : Act17) : List (Ky × Nd) × Int × Int :=
  let r := do17 rs rh (getL l k).nd a
  if r.2.1 ≠ 0 then (l.map absI, r.2.1, 0)
  else if hasI l k = false ∧ a.kind = 3 then (l.map absI, 5, 0)
  else if hasI l k = false ∧ c.lo ≤ (l.length : Nat) then (l.map absI, 6, 0)
  else (outI l k r.1, 0, 1)
end

section
set_option linter.unusedSimpArgs false
set_option linter.unusedVariables false
open Go.RowKit Go.Lib Go.Sort

def trimR (cut : Int) (x : Nd) : Nd := if placeS x.smp cut = 0 then x else { x with smp := x.smp.drop (placeS x.smp cut), ver := x.ver + 1 }
def goneI (l : List It) (cut : Int) : Nat := (l.map (fun x => placeS x.nd.smp cut)).sum
def manyI (l : List It) (cut : Int) : Nat := l.countP (fun x => 0 < placeS x.nd.smp cut)
theorem rowG_grown {α : Type} {P : Nat → Prop} {n : Nat} {f : α → List Value} {w u w4 : World} {v v' vr : Value} {l : List α} (h : RowG (fun b => P b ∧ v.ownBlock ≠ some b) n f w vr l) (hb : Below w.heap.size w u) (hg : u.grownBy w4 v.ownBlock) (hblk : v'.ownBlock = v.ownBlock ∨ v'.ownBlock = some u.heap.size) :
    RowG (fun b => P b ∧ v'.ownBlock ≠ some b) n f w4 vr l := by
  have h1 := h.old
  refine (h1.keepP (Nat.le_trans hb.size hg.size) (fun b hb' hlt => (hg.block b (Nat.lt_of_lt_of_le hlt hb.size) (Ne.symm hb'.1.2)).trans (hb.block b hlt))).imp (fun b hb' => ⟨hb'.1.1, fun e => ?_⟩)
  rcases hblk with h2 | h2
  · rw [h2] at e
    exact hb'.1.2 e
  · rw [h2] at e
    injection e with e
    have := hb.size
    have := hb'.2
    omega
end

section
set_option linter.unusedSimpArgs false
set_option linter.unusedVariables false
open Go.RowKit Go.Lib

/-- A byte of a word. -/
def byteI (x k : Nat) : Int := ((x / k % 256 : Nat) : Int)
def bytesA (hi lo : Nat) : Array Value := #[
  .int .u8 (byteI hi 72057594037927936),
  .int .u8 (byteI hi 281474976710656),
  .int .u8 (byteI hi 1099511627776),
  .int .u8 (byteI hi 4294967296),
  .int .u8 (byteI hi 16777216),
  .int .u8 (byteI hi 65536),
  .int .u8 (byteI hi 256),
  .int .u8 (byteI hi 1),
  .int .u8 (byteI lo 72057594037927936),
  .int .u8 (byteI lo 281474976710656),
  .int .u8 (byteI lo 1099511627776),
  .int .u8 (byteI lo 4294967296),
  .int .u8 (byteI lo 16777216),
  .int .u8 (byteI lo 65536),
  .int .u8 (byteI lo 256),
  .int .u8 (byteI lo 1)]

theorem byteI_mid (x k : Nat) : byteI x k = (x : Int) / (k : Int) % 256 := by unfold byteI; simp
theorem byteI_low (x : Nat) : byteI x 1 = (x : Int) % 256 := by unfold byteI; simp
theorem byteI_top (x : Nat) (h : x < 18446744073709551616) : byteI x 72057594037927936 = (x : Int) / 72057594037927936 := by unfold byteI; omega

theorem bytesA_walk (hi lo : Nat) (h1 : hi < 18446744073709551616) (h2 : lo < 18446744073709551616) : bytesA hi lo = #[.int .u8 ((hi : Int) / 72057594037927936), .int .u8 ((hi : Int) / 281474976710656 % 256), .int .u8 ((hi : Int) / 1099511627776 % 256), .int .u8 ((hi : Int) / 4294967296 % 256), .int .u8 ((hi : Int) / 16777216 % 256), .int .u8 ((hi : Int) / 65536 % 256), .int .u8 ((hi : Int) / 256 % 256), .int .u8 ((hi : Int) % 256), .int .u8 ((lo : Int) / 72057594037927936), .int .u8 ((lo : Int) / 281474976710656 % 256), .int .u8 ((lo : Int) / 1099511627776 % 256), .int .u8 ((lo : Int) / 4294967296 % 256), .int .u8 ((lo : Int) / 16777216 % 256), .int .u8 ((lo : Int) / 65536 % 256), .int .u8 ((lo : Int) / 256 % 256), .int .u8 ((lo : Int) % 256)] := by
  unfold bytesA
  rw [byteI_top hi h1, byteI_top lo h2]
  simp only [byteI_low]
  simp only [byteI_mid]
  simp

set_option maxRecDepth 100000 in
set_option maxHeartbeats 4000000 in
theorem fnvBytes_any (hi lo : Nat) (w : World) (h1 : hi < 18446744073709551616) (h2 : lo < 18446744073709551616) :
    Calls Tryz.prog 212 #[keyV hi lo] w fun e w' => e = .returned (.agg (bytesA hi lo)) ∧ Below w.heap.size w w' := by
  unfold keyV
  go_enter Tryz.func212, Tryz.ntmps212
  go_wp2
  refine wp_loop_rounds 9 ?_
  rw [rounds_succ]
  go_wp2
  rw [rounds_succ]
  go_wp2
  rw [rounds_succ]
  go_wp2
  rw [rounds_succ]
  go_wp2
  rw [rounds_succ]
  go_wp2
  rw [rounds_succ]
  go_wp2
  rw [rounds_succ]
  go_wp2
  rw [rounds_succ]
  go_wp2
  rw [rounds_succ]
  go_wp2
  rw [bytesA_walk hi lo h1 h2]
  exact bodyPost_ret (v := .agg #[.int .u8 ((hi : Int) / 72057594037927936), .int .u8 ((hi : Int) / 281474976710656 % 256), .int .u8 ((hi : Int) / 1099511627776 % 256), .int .u8 ((hi : Int) / 4294967296 % 256), .int .u8 ((hi : Int) / 16777216 % 256), .int .u8 ((hi : Int) / 65536 % 256), .int .u8 ((hi : Int) / 256 % 256), .int .u8 ((hi : Int) % 256), .int .u8 ((lo : Int) / 72057594037927936), .int .u8 ((lo : Int) / 281474976710656 % 256), .int .u8 ((lo : Int) / 1099511627776 % 256), .int .u8 ((lo : Int) / 4294967296 % 256), .int .u8 ((lo : Int) / 16777216 % 256), .int .u8 ((lo : Int) / 65536 % 256), .int .u8 ((lo : Int) / 256 % 256), .int .u8 ((lo : Int) % 256)]) (by simp [results, Tryz.results212, go_sem]) rfl ⟨rfl, balloc (balloc (balloc (Below.refl _ _) _) _) _⟩
end

section
set_option linter.unusedSimpArgs false
set_option linter.unusedVariables false
open Go.RowKit Go.Lib

/-! ### Sum64 -/
def prime64 : Nat := 1099511628211
def basis64 : Nat := 14695981039346656037
def stepH (h b : Nat) : Nat := (h ^^^ b) * prime64 % 18446744073709551616
def sumL (l : List UInt8) : Nat := l.foldl (fun h b => stepH h b.toNat) basis64

theorem stepH_lt (h b : Nat) : stepH h b < 18446744073709551616 := Nat.mod_lt _ (by decide)
theorem foldl_lt (l : List UInt8) (h : Nat) (hh : h < 18446744073709551616) : l.foldl (fun h b => stepH h b.toNat) h < 18446744073709551616 := by
  induction l generalizing h with
  | nil => exact hh
  | cons a l ih => exact ih _ (stepH_lt _ _)
theorem basis_lt : basis64 < 18446744073709551616 := by unfold basis64; omega
theorem sumL_lt (l : List UInt8) : sumL l < 18446744073709551616 := by
  unfold sumL
  exact foldl_lt l basis64 basis_lt
theorem sumL_snoc (l : List UInt8) (b : UInt8) : sumL (l ++ [b]) = stepH (sumL l) b.toNat := by
  unfold sumL
  rw [List.foldl_append, List.foldl_cons, List.foldl_nil]

theorem u64_wrap_mod (n : Nat) : IntKind.u64.wrap (n : Int) = ((n % 18446744073709551616 : Nat) : Int) := by
  have h : IntKind.u64.wrap (n : Int) = (n : Int) % 18446744073709551616 := by
    simp only [IntKind.wrap, IntKind.signed, IntKind.bits]
    simp
  rw [h]
  omega

theorem step_walk (h c : Nat) (hh : h < 18446744073709551616) (hc : c < 256) :
    IntKind.u64.wrap (bits BinOp.xor IntKind.u64 (h : Int) (c : Int) * 1099511628211) = (stepH h c : Nat) := by
  rw [u64_xor_nat h c hh (by omega)]
  have e : ((h ^^^ c : Nat) : Int) * 1099511628211 = (((h ^^^ c) * prime64 : Nat) : Int) := by
    rw [Int.natCast_mul]; rfl
  rw [e, u64_wrap_mod]
  rfl

set_option maxRecDepth 100000 in
set_option maxHeartbeats 1000000 in
theorem sum64_any (s : ByteArray) (w : World) (hm : s.size ≤ maxLen) :
    Calls Tryz.prog 213 #[.string s] w fun e w' => e = .returned (.int .u64 (sumL s.data.toList : Nat)) ∧ w = w' := by
  have hmm : s.size ≤ 9223372036854775807 := hm
  go_enter Tryz.func213, Tryz.ntmps213
  go_wp2
  go_loop [3, 4, 7] (fun h _ i => ∃ k : Nat, k ≤ s.size ∧ i = .int .i64 k ∧ h = .int .u64 (sumL (s.data.toList.take k) : Nat)) (fun _ _ i => s.size - (intOf i).toNat)
  case atStart => exact ⟨0, Nat.zero_le _, rfl, rfl⟩
  case round =>
    obtain ⟨k, hk, rfl, rfl⟩ := hrel
    by_cases hlt : k < s.size
    · have hsn : sumL (s.data.toList.take (k + 1)) = stepH (sumL (s.data.toList.take k)) (s[k]).toNat := by
        rw [List.take_succ_eq_append_getElem (by simpa using hlt), sumL_snoc]; rfl
      have hb := sumL_lt (s.data.toList.take k)
      generalize sumL (s.data.toList.take k) = h at hsn hb
      have hc : (s[k]).toNat < 256 := (s[k]).toNat_lt
      have hst := step_walk h _ hb hc
      have Hsn := Lib.hid hsn
      have Hst := Lib.hid hst
      clear hsn hst
      go_wp2
      go_round
      case rel => exact ⟨k + 1, hlt, by go_num, by rw [Hsn.out, Hst.out]⟩
      case measure => simp [intOf]; omega
    · obtain rfl : k = s.size := by omega
      go_wp2
      go_ret
      refine ⟨ret_int ?_, rfl⟩
      rw [List.take_of_length_le (by simp)]
end

end Go.Proofs.YtmniiodpbebnmaaGreat
