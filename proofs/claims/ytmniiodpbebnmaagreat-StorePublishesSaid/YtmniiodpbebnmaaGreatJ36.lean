/- Two stripes in one memory: what one's Freeze leaves of the other; what Freeze gives; flywheelref19.Keys: the keys of parts, rising; The plain law of CutDiffers; What was frozen, and the reference's items, while the stripe goes on; Frozen nodes, the items that they are, and cuts of them, where nothing turns; Chapter 19's awake: a cut of nothing; Numbers of two words: the plain law of a quotient, bit by bit. -/
import Derived.Test.YtmniiodpbebnmaaGreatJ25
import Derived.Test.YtmniiodpbebnmaaGreatJ35
import Derived.Test.YtmniiodpbebnmaaGreatJ23
import Derived.Test.YtmniiodpbebnmaaGreatJ13
import Derived.Test.YtmniiodpbebnmaaGreatJ24
import Derived.Test.YtmniiodpbebnmaaGreatJ02
namespace Go.Proofs.YtmniiodpbebnmaaGreat

section
set_option linter.unusedSimpArgs false
set_option linter.unusedVariables false
open Go.RowKit Go.Lib Go.Sort

/-- A world of which only the old blocks are left. -/
def cutW (w : World) (n : Nat) : World := { w with heap := w.heap.extract 0 n }
theorem cutW_below {w : World} {n : Nat} (hn : n ≤ w.heap.size) : (cutW w n).heap.size = n ∧ Below (cutW w n).heap.size (cutW w n) w := by
  have e : (cutW w n).heap.size = n := by simp [cutW]; omega
  refine ⟨e, ⟨rfl, rfl, rfl, by rw [e]; exact hn, fun k hk => ?_⟩⟩
  rw [e] at hk
  simp only [cutW]
  rw [Array.getElem?_extract]
  simp
  omega
/-- What lies above a bound is left by a turn of what lies below it. -/
theorem Play.turn {w0 W w1 : World} {T M : Nat} {c : Cfg} {rs rh n ver : Nat} {es : List (KO × NE)} {v : Value} {l : List It} (h : Play w0 W T M c rs rh n ver es v l) {fp fp' : List Nat} (hu : Upd W w1 fp fp') (hfp : ∀ r ∈ fp, r < w0.heap.size) :
    ∃ w2, w2.heap.size = w0.heap.size ∧ Play w2 w1 T M c rs rh n ver es v l := by
  have hk : ∀ r, w0.heap.size ≤ r → r < W.heap.size → w1.heap[r]? = W.heap[r]? := fun r h1 h2 => hu.block r h2 (fun hm => by have := hfp r hm; omega)
  obtain ⟨e, hb⟩ := cutW_below (w := w1) (n := w0.heap.size) (Nat.le_trans h.base.size hu.size)
  have hT : w0.heap.size ≤ T := h.above T (by simp [sfp])
  have hM : w0.heap.size ≤ M := h.above M (by simp [sfp])
  refine ⟨cutW w1 w0.heap.size, e, ⟨⟨(hk T hT h.at_.ltT).trans h.at_.cell, h.at_.map.block (hk M hM h.at_.map.lt), fun p hp => (h.at_.node p hp).kept (fun r hr => hk r (h.fresh p hp r hr) ((h.at_.node p hp).lt r hr)), h.at_.pair, h.at_.off, h.at_.ne⟩, ?_, h.tells, hb, ?_, ?_, h.grown, h.vers, h.ver_, h.room⟩⟩
  · rw [e]
    exact ⟨h.items.1.keepP hu.size (fun b hb hlt => hk b hb.2 hlt), fun x hx => ⟨(h.items.2 x hx).1.keepP hu.size (fun b hb hlt => hk b hb.2 hlt), (h.items.2 x hx).2.keepP hu.size (fun b hb hlt => hk b hb.2 hlt)⟩⟩
  · rw [e]; exact h.above
  · rw [e]; exact h.fresh

/-- What Freeze gives: an entry for each key, the node frozen. -/
def frL (es : List (KO × NE)) (l : List It) : List En := (keysI l).map fun q => (q, blkOf es q)
def ndF (es : List (KO × NE)) (x : En) : Nd := ((es.find? (fun p => p.1.1 = x.1)).map (fun p => frz p.2.2.1)).getD nd0
theorem blk_at {es : List (KO × NE)} {q : Ky} (h : q ∈ kyN es) : ∃ p ∈ es, p.1.1 = q ∧ es.find? (fun p => p.1.1 = q) = some p := by
  obtain ⟨p, hp, rfl⟩ := List.mem_map.1 h
  cases hf : es.find? (fun x => x.1.1 = p.1.1) with
  | none => exact absurd (List.find?_eq_none.1 hf p hp) (by simp)
  | some r => exact ⟨r, List.mem_of_find?_eq_some hf, by simpa using List.find?_some hf, rfl⟩
end

section
set_option linter.unusedSimpArgs false
set_option linter.unusedVariables false
open Go.RowKit Go.Lib Go.Sort
end

section
set_option linter.unusedSimpArgs false
set_option linter.unusedVariables false
open Go.RowKit Go.Lib Go.Sort

theorem alikeN_same {x x2 y y2 : Nd} (h1 : sameN x x2) (h2 : sameN y y2) : alikeN x y = alikeN x2 y2 := by
  obtain ⟨a1, a2, a3, a4⟩ := h1
  obtain ⟨b1, b2, b3, b4⟩ := h2
  unfold alikeN
  rw [a1, a2, a3, a4, b1, b2, b3, b4]
theorem alikeN_self (x : Nd) : alikeN x x = true := by simp [alikeN]
end

section
set_option linter.unusedSimpArgs false
set_option linter.unusedVariables false
open Go.RowKit Go.Lib Go.Sort

structure Cold (w0 W : World) (T M : Nat) (c : Cfg) (rs rh n ver : Nat) (es : List (KO × NE)) (ve : Value) (fl : List En) (v : Value) (l : List It) : Prop where
  at_ : SAt W T M c ver es rs rh
  items : ItemsIn (fun b => b ∉ sfp T M es) W v l
  rows : RowG (fun b => b ∉ sfp T M es) 3 enC W ve fl
  told : ∀ i (h : i < l.length) (h2 : i < fl.length), fl[i].1 = l[i].key ∧ ∃ y fp, NodeIn W fl[i].2 y rs rh fp ∧ y.frz = true ∧ sameN y l[i].nd ∧ ∀ r ∈ fp, r ∉ sfp T M es
  len : fl.length = l.length
  base : Below w0.heap.size w0 W
  above : ∀ r ∈ sfp T M es, w0.heap.size ≤ r
  grown : Grown n ver (ab es)
  ver_ : ver ≤ 1000 * n
theorem Cold.below {w0 W W' : World} {T M : Nat} {c : Cfg} {rs rh n ver : Nat} {es : List (KO × NE)} {ve : Value} {fl : List En} {v : Value} {l : List It} (h : Cold w0 W T M c rs rh n ver es ve fl v l) (hb : Below W.heap.size W W') : Cold w0 W' T M c rs rh n ver es ve fl v l :=
  ⟨h.at_.below hb, h.items.below hb, h.rows.below hb, fun i h1 h2 => by
    obtain ⟨a1, y, fp, a2, a3⟩ := h.told i h1 h2
    exact ⟨a1, y, fp, a2.below hb, a3⟩, h.len, bthen h.base hb, h.above, h.grown, h.ver_⟩
theorem grown_frz {n ver : Nat} {es : List (KO × NE)} (h : Grown n ver (ab es)) (K : List Ky) : Grown n ver (ab (frzE es K)) := by
  rw [ab_frzE]
  refine ⟨by simp only [List.length_map]; exact h.len, fun p hp => ?_⟩
  obtain ⟨q, hq, rfl⟩ := List.mem_map.1 hp
  have := h.vers q hq
  dsimp only
  split
  · simp only [frz]; omega
  · omega
theorem frz_all {es : List (KO × NE)} : ∀ p ∈ frzE es (risL (kyN es)), p.2.2.1.frz = true := by
  intro p hp
  obtain ⟨q, hq, rfl⟩ := List.mem_map.1 hp
  have hm : q.1.1 ∈ risL (kyN es) := (mem_risL _ _).2 (List.mem_map.2 ⟨q, hq, rfl⟩)
  dsimp only
  rw [if_pos hm]
  rfl
theorem mfp_frz {x : Nd} (h : x.frz = true) (fp : List Nat) : mfp x fp = [] := by
  unfold mfp
  rw [if_pos h]
theorem sfp_all {T M : Nat} {es : List (KO × NE)} (h : ∀ p ∈ es, p.2.2.1.frz = true) : ∀ r ∈ sfp T M es, r = T ∨ r = M := by
  intro r hr
  simp only [sfp, List.mem_cons] at hr
  rcases hr with rfl | rfl | hr
  · exact .inl rfl
  · exact .inr rfl
  · obtain ⟨p, hp, hr⟩ := mem_mfpE.1 hr
    rw [mfp_frz (h p hp)] at hr
    cases hr
theorem blk_frzE (es : List (KO × NE)) (K : List Ky) (q : Ky) : blkOf (frzE es K) q = blkOf es q := by
  unfold blkOf frzE
  rw [List.find?_map]
  simp only [Function.comp_def, Option.map_map]
end

section
set_option linter.unusedSimpArgs false
set_option linter.unusedVariables false
open Go.RowKit Go.Lib Go.Sort

theorem RowG.lt {α : Type} {P : Nat → Prop} {n : Nat} {f : α → List Value} {w : World} {v : Value} {l : List α} (h : RowG P n f w v l) : RowG (fun b => P b ∧ b < w.heap.size) n f w v l := by
  refine ⟨h.1, fun b o m c e hn => ⟨h.2 b o m c e hn, ?_⟩⟩
  obtain ⟨A, c2, rfl, hl, hx⟩ := h.1
  obtain ⟨b2, o2, rfl, hb, -⟩ := hx hn
  simp only [Value.slice.injEq, Option.some.injEq, Addr.mk.injEq, and_true] at e
  rw [← e.1.1]
  exact hb
theorem ItemsIn.lt {P : Nat → Prop} {w : World} {v : Value} {l : List It} (h : ItemsIn P w v l) : ItemsIn (fun b => P b ∧ b < w.heap.size) w v l :=
  ⟨h.1.lt, fun x hx => ⟨(h.2 x hx).1.lt, (h.2 x hx).2.lt⟩⟩
theorem ItemsIn.and {P Q : Nat → Prop} {w : World} {v : Value} {l : List It} (h : ItemsIn P w v l) (k : ItemsIn Q w v l) : ItemsIn (fun b => P b ∧ Q b) w v l :=
  ⟨⟨h.1.1, fun b o m c e hn => ⟨h.1.2 b o m c e hn, k.1.2 b o m c e hn⟩⟩, fun x hx => ⟨⟨(h.2 x hx).1.1, fun b o m c e hn => ⟨(h.2 x hx).1.2 b o m c e hn, (k.2 x hx).1.2 b o m c e hn⟩⟩, ⟨(h.2 x hx).2.1, fun b o m c e hn => ⟨(h.2 x hx).2.2 b o m c e hn, (k.2 x hx).2.2 b o m c e hn⟩⟩⟩⟩
theorem ItemsIn.keepS {P : Nat → Prop} {w w' : World} {v : Value} {l : List It} (h : ItemsIn P w v l) (hs : w.heap.size ≤ w'.heap.size) (hk : ∀ b, P b → b < w.heap.size → w'.heap[b]? = w.heap[b]?) : ItemsIn P w' v l :=
  ⟨h.1.keepP hs hk, fun x hx => ⟨(h.2 x hx).1.keepP hs hk, (h.2 x hx).2.keepP hs hk⟩⟩

/-- Frozen nodes and items, all in blocks of one kind. -/
def FzAt (S : Nat → Prop) (w : World) (es : List (KO × NE)) (rs rh : Nat) (v : Value) (l : List It) : Prop :=
  (∀ x ∈ frL es l, ∃ fp, NodeIn w x.2 (ndF es x) rs rh fp ∧ (ndF es x).frz = true ∧ ∀ r ∈ fp, S r) ∧ ItemsIn S w v l
theorem FzAt.kept {S : Nat → Prop} {w w' : World} {es : List (KO × NE)} {rs rh : Nat} {v : Value} {l : List It} (h : FzAt S w es rs rh v l) (hs : w.heap.size ≤ w'.heap.size) (hk : ∀ b, S b → b < w.heap.size → w'.heap[b]? = w.heap[b]?) : FzAt S w' es rs rh v l := by
  refine ⟨fun x hx => ?_, h.2.keepS hs hk⟩
  obtain ⟨fp, a, b, c⟩ := h.1 x hx
  exact ⟨fp, a.kept (fun r hr => hk r (c r hr) (a.lt r hr)), b, c⟩
theorem FzAt.below {S : Nat → Prop} {w w' : World} {es : List (KO × NE)} {rs rh : Nat} {v : Value} {l : List It} (h : FzAt S w es rs rh v l) (hb : Below w.heap.size w w') : FzAt S w' es rs rh v l := h.kept hb.size (fun b _ hlt => hb.block b hlt)
theorem FzAt.imp {S S' : Nat → Prop} {w : World} {es : List (KO × NE)} {rs rh : Nat} {v : Value} {l : List It} (h : FzAt S w es rs rh v l) (hi : ∀ b, S b → S' b) : FzAt S' w es rs rh v l :=
  ⟨fun x hx => by obtain ⟨fp, a, b, c⟩ := h.1 x hx; exact ⟨fp, a, b, fun r hr => hi r (c r hr)⟩, h.2.imp hi⟩
theorem FzAt.nodes {S : Nat → Prop} {w : World} {es : List (KO × NE)} {rs rh : Nat} {v : Value} {l : List It} (h : FzAt S w es rs rh v l) : NodesOf w (frL es l) (ndF es) rs rh := fun x hx => by
  obtain ⟨fp, a, _, _⟩ := h.1 x hx
  exact ⟨fp, a⟩
theorem FzAt.fz {S : Nat → Prop} {w : World} {es : List (KO × NE)} {rs rh : Nat} {v : Value} {l : List It} (h : FzAt S w es rs rh v l) : ∀ x ∈ frL es l, FzN w x.2 true := fun x hx => by
  obtain ⟨fp, a, b, _⟩ := h.1 x hx
  exact ⟨_, _, _, _, a, b⟩

/-! ### Cuts of frozen entries -/
def soE (l : List En) : List Eo := l.map fun x => (x.1, some x.2)
theorem soE_len (l : List En) : (soE l).length = l.length := by simp [soE]
theorem row_so {w : World} {v : Value} {l : List En} (h : RowIn 3 enC w v l) : RowIn 3 eoC w v (soE l) := by
  obtain ⟨A, c, rfl, hl, hc⟩ := h
  refine ⟨A, c, by simp [soE], by simpa [soE] using hl, fun hp => ?_⟩
  obtain ⟨b, o, rfl, hb, hx⟩ := hc (by simpa [soE] using hp)
  refine ⟨b, o, rfl, hb, fun k x hk j u hu => ?_⟩
  simp only [soE, List.getElem?_map, Option.map_eq_some_iff] at hk
  obtain ⟨y, hy, rfl⟩ := hk
  exact hx k y hy j u hu
theorem kept_so (l : List En) : keptE (fun _ => true) (soE l) = l := by
  induction l with
  | nil => rfl
  | cons x m ih => simp only [soE, List.map_cons, keptE, if_true] at ih ⊢; rw [ih]
theorem filter_sort (l : List En) (k : Ky) : (sortEn l).filter (fun x => decide (x.1 = k)) = l.filter (fun x => decide (x.1 = k)) := by
  have hperm : (sortEn l).Perm l := List.mergeSort_perm l _
  have hsub : (l.filter (fun x => decide (x.1 = k))).Sublist (sortEn l) := by
    unfold sortEn
    refine List.sublist_mergeSort ?_ ?_ ?_ List.filter_sublist
    · intro a b c h1 h2
      simp only [leS, ltE, Bool.not_eq_true'] at h1 h2 ⊢
      cases h3 : ltK c.1 a.1 with
      | false => rfl
      | true =>
        exfalso
        cases h4 : ltK a.1 b.1 with
        | true => rw [ltK_trans h3 h4] at h2; cases h2
        | false => rw [ltK_total h4 h1] at h3; rw [h3] at h2; cases h2
    · intro a b
      simp only [leS, ltE, Bool.or_eq_true, Bool.not_eq_true']
      cases h3 : ltK b.1 a.1 with
      | false => exact Or.inl rfl
      | true => exact Or.inr (ltK_asymm h3)
    · rw [List.pairwise_filter]
      refine List.pairwise_of_forall (fun a b ha hb => ?_)
      simp only [decide_eq_true_eq] at ha hb
      simp only [leS, ltE, ha, hb, ltK_irrefl]
      rfl
  have h2 := hsub.filter (fun x => decide (x.1 = k))
  rw [List.filter_filter] at h2
  simp only [Bool.and_self] at h2
  exact (h2.eq_of_length (by rw [(hperm.filter _).length_eq])).symm
theorem findE_filter (l : List En) (k : Ky) : findE l k = ((l.filter (fun x => decide (x.1 = k))).head?).map (·.2) := by
  unfold findE
  rw [List.head?_filter]
theorem findE_sort (l : List En) (k : Ky) : findE (sortEn l) k = findE l k := by
  rw [findE_filter, findE_filter, filter_sort]
theorem findE_append (a b : List En) (k : Ky) : findE (a ++ b) k = (findE a k).or (findE b k) := by
  unfold findE
  rw [List.find?_append]
  cases List.find? (fun x => decide (x.1 = k)) a <;> rfl
theorem mem_sortE (l : List En) (x : En) : x ∈ sortEn l ↔ x ∈ l := (List.mergeSort_perm l _).mem_iff
end

section
set_option linter.unusedSimpArgs false
set_option linter.unusedVariables false
open Go.RowKit Go.Lib Go.Sort

set_option maxRecDepth 100000 in
set_option maxHeartbeats 4000000 in
theorem cutEpoch_any (C : Nat) (ep : Int) (l : List En) (w : World) (h : CutIn w C ep l) :
    Calls Tryz.prog 39 #[.pointer (some ⟨C, 0, none⟩)] w fun e w' => e = .returned (.int .i64 ep) ∧ Below w.heap.size w w' := by
  obtain ⟨A, c, h1, h2⟩ := h
  obtain ⟨a1, a2, a3⟩ := box_cells (Below.refl _ _) h1
  clear h1 h2
  go_enter Tryz.func39, Tryz.ntmps39
  go_wp2_with fail
  go_ret
  exact ⟨rfl, Below.refl _ _⟩
end

section
set_option linter.unusedSimpArgs false
set_option linter.unusedVariables false
open Go.RowKit Go.Lib

def twoV (n : Nat) : Value := .agg #[.int .u64 ((n / 18446744073709551616 : Nat) : Int), .int .u64 ((n % 18446744073709551616 : Nat) : Int)]
theorem or_fresh {x k : Nat} (h : 2 ^ (k + 1) ∣ x) : x ||| 2 ^ k = x + 2 ^ k := by
  obtain ⟨a, rfl⟩ := h
  exact (Nat.two_pow_add_eq_or_of_lt (Nat.pow_lt_pow_right (by decide) (by omega)) a).symm
def xD (n i : Nat) : Nat := n * 2 ^ i % 340282366920938463463374607431768211456
def aD (n i : Nat) : Nat := n / 2 ^ (128 - i)
def rD (n d i : Nat) : Nat := aD n i % d
def qD (n d i : Nat) : Nat := aD n i / d * 2 ^ (128 - i)
def bD (n i : Nat) : Nat := (n.testBit (127 - i)).toNat
theorem bD_le (n i : Nat) : bD n i ≤ 1 := by unfold bD; cases n.testBit (127 - i) <;> simp
theorem aD_succ {n i : Nat} (hi : i < 128) : aD n (i + 1) = 2 * aD n i + bD n i := by
  unfold aD bD
  have h := top_bit n (127 - i)
  rw [show 127 - i + 1 = 128 - i by omega] at h
  rw [show 128 - (i + 1) = 127 - i by omega]
  exact h
theorem pow128 : (340282366920938463463374607431768211456 : Nat) = 2 ^ 128 := by decide
theorem xD_bit {n i : Nat} (hi : i < 128) : xD n i / 170141183460469231731687303715884105728 = bD n i := by
  unfold xD bD
  rw [bit_nat]
  have e : (170141183460469231731687303715884105728 : Nat) = 2 ^ i * 2 ^ (127 - i) := by rw [← Nat.pow_add, show i + (127 - i) = 127 by omega]
  have e2 : (340282366920938463463374607431768211456 : Nat) = 170141183460469231731687303715884105728 * 2 := by decide
  rw [e2, Nat.mod_mul_right_div_self, e, ← Nat.div_div_eq_div_mul, Nat.mul_div_cancel _ (Nat.two_pow_pos i)]
theorem xD_succ (n i : Nat) : xD n (i + 1) = 2 * xD n i % 340282366920938463463374607431768211456 := by
  unfold xD
  rw [Nat.pow_succ, ← Nat.mul_assoc]
  generalize n * 2 ^ i = y
  omega
theorem xD_lt (n i : Nat) : xD n i < 340282366920938463463374607431768211456 := Nat.mod_lt _ (by decide)
theorem rD_lt {n d i : Nat} (hd : 0 < d) : rD n d i < d := Nat.mod_lt _ hd
theorem div_low {n d i : Nat} (hi : i < 128) (hd : 0 < d) (h : 2 * rD n d i + bD n i < d) : rD n d (i + 1) = 2 * rD n d i + bD n i ∧ qD n d (i + 1) = qD n d i := by
  unfold rD qD at *
  rw [aD_succ hi]
  have hm := Nat.div_add_mod (aD n i) d
  generalize aD n i / d = k at *
  generalize aD n i % d = r at *
  have e : 2 * aD n i + bD n i = d * (2 * k) + (2 * r + bD n i) := by rw [← hm, Nat.mul_left_comm]; omega
  rw [e, Nat.mul_add_mod, Nat.mod_eq_of_lt h, Nat.mul_add_div hd, Nat.div_eq_of_lt h]
  refine ⟨rfl, ?_⟩
  rw [show 128 - i = 128 - (i + 1) + 1 by omega, Nat.pow_succ, Nat.add_zero, Nat.mul_comm 2 k, Nat.mul_assoc, Nat.mul_comm 2]
theorem div_high {n d i : Nat} (hi : i < 128) (hd : 0 < d) (h : d ≤ 2 * rD n d i + bD n i) : rD n d (i + 1) = 2 * rD n d i + bD n i - d ∧ qD n d (i + 1) = qD n d i + 2 ^ (127 - i) := by
  have hr := rD_lt (n := n) (i := i) hd
  have hb := bD_le n i
  unfold rD qD at *
  rw [aD_succ hi]
  have hm := Nat.div_add_mod (aD n i) d
  generalize aD n i / d = k at *
  generalize aD n i % d = r at *
  have e : 2 * aD n i + bD n i = d * (2 * k + 1) + (2 * r + bD n i - d) := by
    have e1 : d * (2 * k + 1) = 2 * (d * k) + d := by rw [Nat.mul_add, Nat.mul_one, Nat.mul_left_comm]
    rw [← hm, e1]
    omega
  have hlt : 2 * r + bD n i - d < d := by omega
  rw [e, Nat.mul_add_mod, Nat.mod_eq_of_lt hlt, Nat.mul_add_div hd, Nat.div_eq_of_lt hlt]
  refine ⟨rfl, ?_⟩
  rw [show 128 - i = 128 - (i + 1) + 1 by omega, Nat.pow_succ, Nat.add_zero, Nat.add_mul, Nat.one_mul, show 128 - (i + 1) = 127 - i by omega, Nat.mul_comm 2 k, Nat.mul_assoc, Nat.mul_comm 2]
theorem qD_dvd (n d i : Nat) : 2 ^ (128 - i) ∣ qD n d i := Nat.dvd_mul_left _ _
theorem qD_zero {n d : Nat} (hn : n < 340282366920938463463374607431768211456) : qD n d 0 = 0 ∧ rD n d 0 = 0 ∧ xD n 0 = n := by
  have h : n / 340282366920938463463374607431768211456 = 0 := Nat.div_eq_of_lt hn
  refine ⟨?_, ?_, ?_⟩
  · unfold qD aD; rw [Nat.sub_zero, ← pow128, h, Nat.zero_div, Nat.zero_mul]
  · unfold rD aD; rw [Nat.sub_zero, ← pow128, h, Nat.zero_mod]
  · unfold xD; rw [Nat.pow_zero, Nat.mul_one, Nat.mod_eq_of_lt hn]
theorem qD_end (n d : Nat) : qD n d 128 = n / d ∧ rD n d 128 = n % d := by
  unfold qD rD aD
  simp
theorem qD_lt {n d i : Nat} (hn : n < 340282366920938463463374607431768211456) (hi : i ≤ 128) : qD n d i < 340282366920938463463374607431768211456 := by
  unfold qD aD
  have h1 := Nat.div_le_self (n / 2 ^ (128 - i)) d
  have h2 := Nat.mul_le_mul_right (2 ^ (128 - i)) h1
  have h3 := Nat.div_mul_le_self n (2 ^ (128 - i))
  omega
/-- The higher word gains a bit. -/
theorem q_hi {n d i : Nat} (hi : i < 64) (hn : n < 340282366920938463463374607431768211456) :
    (qD n d i + 2 ^ (127 - i)) / 18446744073709551616 = (qD n d i / 18446744073709551616 ||| 2 ^ (63 - i)) ∧ (qD n d i + 2 ^ (127 - i)) % 18446744073709551616 = qD n d i % 18446744073709551616 := by
  obtain ⟨m, hm⟩ := qD_dvd n d i
  have e1 : 2 ^ (127 - i) = 18446744073709551616 * 2 ^ (63 - i) := by
    rw [show 127 - i = 64 + (63 - i) by omega, Nat.pow_add]
  have e2 : 2 ^ (128 - i) = 18446744073709551616 * 2 ^ (63 - i + 1) := by
    rw [show 128 - i = 64 + (63 - i + 1) by omega, Nat.pow_add]
  have e3 : qD n d i / 18446744073709551616 = 2 ^ (63 - i + 1) * m := by
    rw [hm, e2, Nat.mul_assoc, Nat.mul_div_cancel_left _ (by decide)]
  constructor
  · rw [e3, or_fresh (Nat.dvd_mul_right _ _), hm, e1, e2, Nat.mul_assoc, ← Nat.mul_add, Nat.mul_div_cancel_left _ (by decide)]
  · rw [e1, Nat.add_mul_mod_self_left]
/-- The lower word gains a bit. -/
theorem q_lo {n d i : Nat} (h64 : 64 ≤ i) (hi : i < 128) :
    (qD n d i + 2 ^ (127 - i)) / 18446744073709551616 = qD n d i / 18446744073709551616 ∧ (qD n d i + 2 ^ (127 - i)) % 18446744073709551616 = (qD n d i % 18446744073709551616 ||| 2 ^ (127 - i)) := by
  have hd : 2 ^ (128 - i) ∣ qD n d i % 18446744073709551616 := by
    rw [Nat.dvd_mod_iff]
    · exact qD_dvd n d i
    · rw [show (18446744073709551616 : Nat) = 2 ^ 64 by decide]
      exact Nat.pow_dvd_pow 2 (by omega)
  have ho : (qD n d i % 18446744073709551616 ||| 2 ^ (127 - i)) = qD n d i % 18446744073709551616 + 2 ^ (127 - i) := or_fresh (by rw [show 127 - i + 1 = 128 - i by omega]; exact hd)
  have hlt : qD n d i % 18446744073709551616 + 2 ^ (127 - i) < 18446744073709551616 := by
    obtain ⟨m, hm⟩ := hd
    have hx := Nat.mod_lt (qD n d i) (show 0 < 18446744073709551616 by decide)
    have e : 18446744073709551616 = 2 ^ (128 - i) * 2 ^ (i - 64) := by rw [← Nat.pow_add, show 128 - i + (i - 64) = 64 by omega]
    have e1 : 2 ^ (128 - i) = 2 * 2 ^ (127 - i) := by rw [show 128 - i = 127 - i + 1 by omega, Nat.pow_succ, Nat.mul_comm]
    have hp := Nat.two_pow_pos (127 - i)
    rw [hm] at hx ⊢
    have hm2 : m < 2 ^ (i - 64) := by
      rw [e] at hx
      exact Nat.lt_of_mul_lt_mul_left hx
    have hm3 : 2 ^ (128 - i) * (m + 1) ≤ 2 ^ (128 - i) * 2 ^ (i - 64) := Nat.mul_le_mul_left _ hm2
    rw [Nat.mul_add, Nat.mul_one, ← e] at hm3
    omega
  rw [ho]
  generalize qD n d i = q at *
  generalize 2 ^ (127 - i) = p at *
  omega
/-- The words of a number that is doubled. -/
theorem dbl_words (x : Nat) (hx : x < 340282366920938463463374607431768211456) :
    (2 * x % 340282366920938463463374607431768211456) / 18446744073709551616 = 2 * (x / 18446744073709551616) % 18446744073709551616 + x % 18446744073709551616 / 9223372036854775808 ∧
    (2 * x % 340282366920938463463374607431768211456) % 18446744073709551616 = 2 * (x % 18446744073709551616) % 18446744073709551616 ∧ x / 18446744073709551616 / 9223372036854775808 = x / 170141183460469231731687303715884105728 := by
  omega
end

end Go.Proofs.YtmniiodpbebnmaaGreat
