/- The reference's Rising, walked; The reference's items of a stripe: At, Has; The reference's items of a stripe: Has, Get, With. -/
import Derived.Test.YtfnabpmdjfejbaaGreatJ04
import Derived.Laws.AppendOwnNone
import Derived.Test.YtfnabpmdjfejbaaGreatJ26
namespace Go.Proofs.YtfnabpmdjfejbaaGreat

section
set_option linter.unusedSimpArgs false
set_option linter.unusedVariables false
open Go.RowKit Go.Lib

theorem ins_at (x : Ky) : ∀ (out : List Ky) (a : Nat), a ≤ out.length → (∀ j (h : j < out.length), j < a → ltK out[j] x = true) → (∀ h : a < out.length, ltK out[a] x = false) →
    insK x out = if h : a < out.length then (if out[a] = x then out else out.take a ++ (x :: out.drop a)) else out ++ [x]
  | [], a, ha, _, _ => by simp [insK]
  | b :: out, 0, _, _, h0 => by
    have := h0 (by simp)
    simp only [List.getElem_cons_zero] at this
    rw [insK, this]
    simp
  | b :: out, a + 1, ha, h1, h0 => by
    have hb := h1 0 (by simp) (by omega)
    simp only [List.getElem_cons_zero] at hb
    have ih := ins_at x out a (by simpa using ha) (fun j h hj => by have := h1 (j + 1) (by simpa using h) (by omega); simpa using this) (fun h => by have := h0 (by simpa using h); simpa using this)
    rw [insK, if_pos hb, ih]
    by_cases h : a < out.length
    · rw [dif_pos h, dif_pos (by simpa using h)]
      simp only [List.getElem_cons_succ]
      split
      · rfl
      · simp
    · rw [dif_neg h, dif_neg (by simpa using h)]
      simp

theorem risL_succ (l : List Ky) (k : Nat) (h : k < l.length) : risL (l.take (k + 1)) = insK l[k] (risL (l.take k)) := by
  unfold risL
  rw [List.take_succ_eq_append_getElem h, List.foldl_append]
  rfl

def OwnsKeys (w : World) (l : List Ky) (e : Ending) (w' : World) : Prop := ∃ v', e = .returned v' ∧ w'.ownsRow w.heap.size 32 2 v' l.length (cellsK l) ∧ Below w.heap.size w w'

/-- A part of an own row, read at an address in it. -/
theorem own_part {w : World} {base : Nat} {T : TypeId} {g n cap : Nat} {l : List Ky} (h : w.ownsRow base T 2 (.slice (some ⟨g, 0, none⟩) n cap) n (cellsK l)) (a : Nat) :
    ∀ j u, (cellsK (l.drop a))[j]? = some u → w.cell? ((⟨g, a * 2, none⟩ : Addr).add j) = some u := by
  intro j u hu
  have hl : l.length = n := by have := h.1; rw [cellsK_len] at this; omega
  rw [show (Addr.mk g (a * 2) none).add j = ⟨g, a * 2 + j, none⟩ from by unfold Addr.add; split <;> simp_all]
  have hj := (List.getElem?_eq_some_iff.1 hu).1
  rw [cellsK_len, List.length_drop] at hj
  rw [h.cellAt (a * 2 + j) (by omega), ← hu, ← cellsK_drop, List.getElem?_drop]
theorem own_head {w : World} {base : Nat} {T : TypeId} {g n cap : Nat} {l : List Ky} (h : w.ownsRow base T 2 (.slice (some ⟨g, 0, none⟩) n cap) n (cellsK l)) (a : Nat) :
    ∀ j u, (cellsK (l.take a))[j]? = some u → w.cell? ((⟨g, 0, none⟩ : Addr).add j) = some u := by
  intro j u hu
  have hl : l.length = n := by have := h.1; rw [cellsK_len] at this; omega
  rw [show (Addr.mk g 0 none).add j = ⟨g, j, none⟩ from by unfold Addr.add; split <;> simp_all]
  have hj := (List.getElem?_eq_some_iff.1 hu).1
  rw [cellsK_len, List.length_take] at hj
  rw [h.cellAt j (by omega), ← hu, ← cellsK_take, List.getElem?_take, if_pos (by omega)]

theorem keepS {wo a b : World} {n : Nat} {S : World → Prop} {p q r t : Prop} (H : ∀ W, Below wo.heap.size wo W → S W) (h : p ∧ q ∧ r ∧ t ∧ Below wo.heap.size wo a) (k : Below n a b) (e : n = a.heap.size) : S b := by
  subst e
  exact H b (bthen h.2.2.2.2 k)

theorem own_fin {w : World} {base a : Nat} {T : TypeId} {v : Value} {x : Ky} {out : List Ky} (ha : a ≤ out.length) (h : w.ownsRow base T 2 v (0 + a + 1 + (out.length - a)) ((([] ++ cellsK (out.take a)) ++ cellsK [x]) ++ cellsK (out.drop a))) :
    w.ownsRow base T 2 v (out.take a ++ (x :: out.drop a)).length (cellsK (out.take a ++ (x :: out.drop a))) := by
  have e1 : (out.take a ++ (x :: out.drop a)).length = 0 + a + 1 + (out.length - a) := by simp; omega
  have e2 : cellsK (out.take a ++ (x :: out.drop a)) = (([] ++ cellsK (out.take a)) ++ cellsK [x]) ++ cellsK (out.drop a) := by
    rw [cellsK_append, cellsK_cons]; simp [cellsK]
  rw [e1, e2]
  exact h

theorem own_fin0 {w : World} {base a : Nat} {T : TypeId} {v : Value} {x : Ky} {out : List Ky} (ha : a = out.length) (h : w.ownsRow base T 2 v (0 + a + 1 + 0) ((([] ++ cellsK (out.take a)) ++ cellsK [x]) ++ [])) :
    w.ownsRow base T 2 v (out.take a ++ (x :: out.drop a)).length (cellsK (out.take a ++ (x :: out.drop a))) := by
  refine own_fin (by omega) ?_
  rw [ha, Nat.sub_self, List.drop_length]
  rw [ha] at h
  exact h

/-- The literal of one key. -/
theorem key_new (w : World) (x : Ky) (T : TypeId) (H : Nat) (hH : w.heap.size = H) : ∀ j u, (cellsK [x])[j]? = some u → (w.alloc (.cells #[.int .u64 x.1, .int .u64 x.2] T)).cell? ((⟨H, 0, none⟩ : Addr).add j) = some u := by
  subst hH
  intro j u hu
  rw [show (Addr.mk w.heap.size 0 none).add j = ⟨w.heap.size, j, none⟩ from by unfold Addr.add; split <;> simp_all]
  rw [(startA w _ T).1 j, ← hu]
  simp [cellsK]
end

section
set_option linter.unusedSimpArgs false
set_option linter.unusedVariables false
open Go.RowKit Go.Lib Go.Sort

/-- An item: its key, where its lists lie, its load. -/
structure It where
  key : Ky
  sA : Option Addr
  sc : Nat
  pA : Option Addr
  pc : Nat
  nd : Nd
def It.vs (x : It) : Value := .slice x.sA x.nd.smp.length x.sc
def It.vp (x : It) : Value := .slice x.pA x.nd.past.length x.pc
def loadC (x : It) : List Value := [.slice x.sA x.nd.smp.length x.sc, .slice x.pA x.nd.past.length x.pc, .int .i64 x.nd.pol.mn, .int .i64 x.nd.pol.mx, .int .i64 x.nd.pol.tg, .int .i64 x.nd.pol.tol, .int .i64 x.nd.pol.win, .int .i64 x.nd.pol.hold, .bool x.nd.ruled, .int .i64 (x.nd.ver : Nat)]
def itC (x : It) : List Value := [.int .u64 x.key.1, .int .u64 x.key.2, .slice x.sA x.nd.smp.length x.sc, .slice x.pA x.nd.past.length x.pc, .int .i64 x.nd.pol.mn, .int .i64 x.nd.pol.mx, .int .i64 x.nd.pol.tg, .int .i64 x.nd.pol.tol, .int .i64 x.nd.pol.win, .int .i64 x.nd.pol.hold, .bool x.nd.ruled, .int .i64 (x.nd.ver : Nat)]
theorem eIt : EltOf 29 57 12 128 (.agg #[.int .u64 0, .int .u64 0, .slice none 0 0, .slice none 0 0, .int .i64 0, .int .i64 0, .int .i64 0, .int .i64 0, .int .i64 0, .int .i64 0, .bool false, .int .i64 0]) itC :=
  ⟨by kernel_rfl, by kernel_rfl, rfl, by decide, by decide, fun _ => rfl, fun x u hu => by
    simp only [itC, List.mem_cons, List.not_mem_nil, or_false] at hu
    rcases hu with rfl | rfl | rfl | rfl | rfl | rfl | rfl | rfl | rfl | rfl | rfl | rfl <;> rfl⟩

def LoadIn (P : Nat → Prop) (w : World) (x : It) : Prop := RowG P 2 smpC w (.slice x.sA x.nd.smp.length x.sc) x.nd.smp ∧ RowG P 5 advC w (.slice x.pA x.nd.past.length x.pc) x.nd.past
theorem LoadIn.below {P : Nat → Prop} {w w' : World} {x : It} (h : LoadIn P w x) (hb : Below w.heap.size w w') : LoadIn P w' x := ⟨h.1.below hb, h.2.below hb⟩
theorem LoadIn.imp {P Q : Nat → Prop} {w : World} {x : It} (h : LoadIn P w x) (hi : ∀ b, P b → Q b) : LoadIn Q w x := ⟨h.1.imp hi, h.2.imp hi⟩
def ItemsIn (P : Nat → Prop) (w : World) (v : Value) (l : List It) : Prop := RowG P 12 itC w v l ∧ ∀ x ∈ l, LoadIn P w x
theorem ItemsIn.below {P : Nat → Prop} {w w' : World} {v : Value} {l : List It} (h : ItemsIn P w v l) (hb : Below w.heap.size w w') : ItemsIn P w' v l := ⟨h.1.below hb, fun x hx => (h.2 x hx).below hb⟩

/-- Where a key stands, or would. -/
def atI (l : List It) (k : Ky) : Nat := (l.takeWhile (fun x => ltK x.key k)).length
theorem atI_le (l : List It) (k : Ky) : atI l k ≤ l.length := by
  unfold atI
  exact (List.takeWhile_prefix _).length_le
theorem atI_lt {l : List It} {k : Ky} : ∀ {i : Nat} (h : i < l.length), i < atI l k → ltK l[i].key k = true := by
  induction l with
  | nil => intro i h; simp at h
  | cons a l ih =>
    intro i h hi
    by_cases ha : ltK a.key k = true
    · have e : atI (a :: l) k = atI l k + 1 := by simp [atI, ha]
      rw [e] at hi
      cases i with
      | zero => exact ha
      | succ i => simpa using ih (by simpa using h) (by omega)
    · have e : atI (a :: l) k = 0 := by simp [atI, ha]
      omega
theorem atI_ge {l : List It} {k : Ky} (h : atI l k < l.length) : ltK l[atI l k].key k = false := by
  induction l with
  | nil => simp at h
  | cons a l ih =>
    by_cases ha : ltK a.key k = true
    · have e : atI (a :: l) k = atI l k + 1 := by simp [atI, ha]
      simp only [e] at h ⊢
      simp only [List.getElem_cons_succ]
      exact ih (by simpa using h)
    · have e : atI (a :: l) k = 0 := by simp [atI, ha]
      simp only [e, List.getElem_cons_zero]
      simpa using ha

set_option maxRecDepth 100000 in
set_option maxHeartbeats 4000000 in
theorem iat_any (v : Value) (l : List It) (k : Ky) (w : World) (hv : RowIn 12 itC w v l) (hl : l.length ≤ 1000000) (hok : ∀ x ∈ l, x.key.ok) (hk : k.ok) :
    Calls Tryz.prog 38 #[v, .agg #[.int .u64 k.1, .int .u64 k.2]] w fun e w' => e = .returned (.int .i64 (atI l k : Nat)) ∧ Below w.heap.size w w' := by
  obtain ⟨A, c, rfl⟩ := hv.form
  have HV := Lib.hid hv
  have HK := Lib.hid hok
  clear hv hok
  go_enter Tryz.func38, Tryz.ntmps38
  go_wp2_with fail
  refine name_world ?_
  intro W hW
  obtain ⟨k0, k1, hs, hb⟩ := box_one w k W hW
  clear hW
  go_wp2
  go_loopg [5] l.length (fun g s5 wr => ∃ a : Nat, a ≤ atI l k ∧ l.length - a ≤ g ∧ s5 = .int .i64 a ∧ Below W.heap.size W wr)
  case atStart => exact ⟨0, Nat.zero_le _, Nat.le_refl _, rfl, Below.refl _ _⟩
  case round =>
    obtain ⟨a, ha, hga, rfl, hbi⟩ := hrel
    by_cases hal : a < l.length
    · obtain ⟨b, o, rfl, hbw, hc⟩ := HV.out.at_ hal
      have c1 : w.cell? ⟨b, o + a * 12, none⟩ = some (.int .u64 l[a].key.1) := hc 0 _ rfl
      have c2 : w.cell? ⟨b, o + a * 12 + 1, none⟩ = some (.int .u64 l[a].key.2) := hc 1 _ rfl
      have hyok : l[a].key.ok := HK.out _ (List.getElem_mem hal)
      have hless : ltK l[a].key k = decide (a < atI l k) := by
        by_cases h : a < atI l k
        · rw [atI_lt hal h]; simp [h]
        · have e : a = atI l k := by omega
          subst e
          rw [atI_ge hal]; simp
      have HL := Lib.hid hless
      generalize l[a].key = y at c1 c2 hyok hless HL
      have HSB := Lib.hid (show ∀ U, Below W.heap.size W U → (U.cell? ⟨w.heap.size, 0, none⟩ = some (.int .u64 k.1) ∧ U.cell? ⟨w.heap.size, 1, none⟩ = some (.int .u64 k.2) ∧ U.cell? ⟨b, o + a * 12, none⟩ = some (.int .u64 y.1) ∧ U.cell? ⟨b, o + a * 12 + 1, none⟩ = some (.int .u64 y.2) ∧ Below W.heap.size W U) from fun U hU =>
        ⟨(hU.cell (p := ⟨w.heap.size, 0, none⟩) (by simp; omega)).trans k0, (hU.cell (p := ⟨w.heap.size, 1, none⟩) (by simp; omega)).trans k1, ((bthen hb hU).cell (p := ⟨b, _, none⟩) hbw).trans c1, ((bthen hb hU).cell (p := ⟨b, _, none⟩) hbw).trans c2, hU⟩)
      have HS0 := HSB.out _ hbi.drew
      clear hc c1 c2 hless k0 k1
      by_cases hlt : a < atI l k
      · have Hly : Hid (ltK y k = true) := Lib.hid (by rw [HL.out]; simp [hlt])
        clear HL
        go_wp2_with fail
        go_region_held3 (fun w' => w'.cell? ⟨w.heap.size, 0, none⟩ = some (.int .u64 k.1) ∧ w'.cell? ⟨w.heap.size, 1, none⟩ = some (.int .u64 k.2) ∧ w'.cell? ⟨b, o + a * 12, none⟩ = some (.int .u64 y.1) ∧ w'.cell? ⟨b, o + a * 12 + 1, none⟩ = some (.int .u64 y.2) ∧ Below W.heap.size W w')
          (first | assumption | exact keepS HSB.out (by assumption) hb1 rfl)
          (first | (go_at_call 58; refine (less_any y k _ hyok hk).mono ?_; rw [Hly.out]; rintro e w1 ⟨rfl, hb1⟩))
        obtain ⟨_, _, _, _, r5⟩ := ‹w1.cell? _ = _ ∧ _›
        go_wp2
        go_roundg (l.length - (a + 1))
        case measure => omega
        case rel => exact ⟨a + 1, hlt, Nat.le_refl _, by go_num, r5⟩
      · have Hly : Hid (ltK y k = false) := Lib.hid (by rw [HL.out]; simp [hlt])
        clear HL
        go_wp2_with fail
        go_region_held3 (fun w' => w'.cell? ⟨w.heap.size, 0, none⟩ = some (.int .u64 k.1) ∧ w'.cell? ⟨w.heap.size, 1, none⟩ = some (.int .u64 k.2) ∧ w'.cell? ⟨b, o + a * 12, none⟩ = some (.int .u64 y.1) ∧ w'.cell? ⟨b, o + a * 12 + 1, none⟩ = some (.int .u64 y.2) ∧ Below W.heap.size W w')
          (first | assumption | exact keepS HSB.out (by assumption) hb1 rfl)
          (first | (go_at_call 58; refine (less_any y k _ hyok hk).mono ?_; rw [Hly.out]; rintro e w1 ⟨rfl, hb1⟩))
        obtain ⟨_, _, _, _, r5⟩ := ‹w1.cell? _ = _ ∧ _›
        go_wp2
        go_ret
        exact ⟨by first | rfl | (rw [show a = atI l k by omega]; rfl), bthen hb r5⟩
    · have hle := atI_le l k
      obtain rfl : a = l.length := by omega
      have E := Lib.hid (show atI l k = l.length by omega)
      clear ha hle
      go_wp2_with fail
      go_quiet (fail)
      go_wp2
      go_ret
      exact ⟨by rw [E.out]; rfl, bthen hb (below_drewN hbi _)⟩
end

section
set_option linter.unusedSimpArgs false
set_option linter.unusedVariables false
open Go.RowKit Go.Lib Go.Sort

def hasI (l : List It) (k : Ky) : Bool := if h : atI l k < l.length then decide (l[atI l k].key = k) else false
def getI (l : List It) (k : Ky) : Option It := if hasI l k = true then l[atI l k]? else none

set_option maxRecDepth 100000 in
set_option maxHeartbeats 4000000 in
theorem ihas_any (v : Value) (l : List It) (k : Ky) (w : World) (hv : RowIn 12 itC w v l) (hl : l.length ≤ 1000000) (hok : ∀ x ∈ l, x.key.ok) (hk : k.ok) :
    Calls Tryz.prog 16 #[v, .agg #[.int .u64 k.1, .int .u64 k.2]] w fun e w' => e = .returned (.bool (hasI l k)) ∧ Below w.heap.size w w' := by
  obtain ⟨A, c, rfl⟩ := hv.form
  have HAT := Lib.hid (fun (W : World) (hb : Below w.heap.size w W) => iat_any _ l k W (hv.below hb) hl hok hk)
  have HV := Lib.hid hv
  unfold hasI
  clear hv
  by_cases hal : atI l k < l.length
  · rw [dif_pos hal]
    obtain ⟨b, o, rfl, hbw, hc⟩ := HV.out.at_ hal
    have c1 : w.cell? ⟨b, o + atI l k * 12, none⟩ = some (.int .u64 l[atI l k].key.1) := hc 0 _ rfl
    have c2 : w.cell? ⟨b, o + atI l k * 12 + 1, none⟩ = some (.int .u64 l[atI l k].key.2) := hc 1 _ rfl
    have hyok := hok _ (List.getElem_mem hal)
    generalize l[atI l k].key = y at c1 c2 hyok ⊢
    have HC1 := Lib.hid c1
    have HC2 := Lib.hid c2
    clear hc c1 c2 hok
    generalize ha : atI l k = a at *
    clear ha
    by_cases hyk : y = k
    · subst hyk
      rw [decide_eq_true rfl]
      go_enter Tryz.func16, Tryz.ntmps16
      go_wp2_with (first
        | (go_at_call 38
           refine calls_named ?_
           intro W1 hW1
           obtain ⟨k0, k1, hs, hb⟩ := box_one w y W1 hW1
           clear hW1
           refine (HAT.out W1 hb).mono ?_
           rintro e w2 ⟨rfl, hb2⟩
           have a1 := (hb2.cell (p := ⟨w.heap.size, 0, none⟩) (by simp; omega)).trans k0
           have a2 := (hb2.cell (p := ⟨w.heap.size, 1, none⟩) (by simp; omega)).trans k1
           have a3 := ((bthen hb hb2).cell (p := ⟨b, _, none⟩) hbw).trans HC1.out
           have a4 := ((bthen hb hb2).cell (p := ⟨b, _, none⟩) hbw).trans HC2.out
           have HB := Lib.hid (bthen hb hb2)
           clear k0 k1 hs hb hb2))
      go_quiet (fail)
      go_wp2
      go_ret
      exact ⟨rfl, below_drewN HB.out _⟩
    · rw [decide_eq_false hyk]
      by_cases h1 : y.1 = k.1
      · have hh : ((y.2 : Int) == (k.2 : Int)) = false := by
          have : y.2 ≠ k.2 := fun h2 => hyk (Prod.ext h1 h2)
          simp; omega
        rw [h1] at HC1
        clear hyk h1
        go_enter Tryz.func16, Tryz.ntmps16
        go_wp2_with (first
          | (go_at_call 38
             refine calls_named ?_
             intro W1 hW1
             obtain ⟨k0, k1, hs, hb⟩ := box_one w k W1 hW1
             clear hW1
             refine (HAT.out W1 hb).mono ?_
             rintro e w2 ⟨rfl, hb2⟩
             have a1 := (hb2.cell (p := ⟨w.heap.size, 0, none⟩) (by simp; omega)).trans k0
             have a2 := (hb2.cell (p := ⟨w.heap.size, 1, none⟩) (by simp; omega)).trans k1
             have a3 := ((bthen hb hb2).cell (p := ⟨b, _, none⟩) hbw).trans HC1.out
             have a4 := ((bthen hb hb2).cell (p := ⟨b, _, none⟩) hbw).trans HC2.out
             have HB := Lib.hid (bthen hb hb2)
             clear k0 k1 hs hb hb2))
        go_quiet (fail)
        go_wp2
        go_ret
        exact ⟨rfl, below_drewN HB.out _⟩
      · have hh : ((y.1 : Int) == (k.1 : Int)) = false := by simp; omega
        clear hyk h1
        go_enter Tryz.func16, Tryz.ntmps16
        go_wp2_with (first
          | (go_at_call 38
             refine calls_named ?_
             intro W1 hW1
             obtain ⟨k0, k1, hs, hb⟩ := box_one w k W1 hW1
             clear hW1
             refine (HAT.out W1 hb).mono ?_
             rintro e w2 ⟨rfl, hb2⟩
             have a1 := (hb2.cell (p := ⟨w.heap.size, 0, none⟩) (by simp; omega)).trans k0
             have a2 := (hb2.cell (p := ⟨w.heap.size, 1, none⟩) (by simp; omega)).trans k1
             have a3 := ((bthen hb hb2).cell (p := ⟨b, _, none⟩) hbw).trans HC1.out
             have a4 := ((bthen hb hb2).cell (p := ⟨b, _, none⟩) hbw).trans HC2.out
             have HB := Lib.hid (bthen hb hb2)
             clear k0 k1 hs hb hb2))
        go_quiet (fail)
        go_wp2
        go_ret
        exact ⟨rfl, below_drewN HB.out _⟩
  · rw [dif_neg hal]
    have hle := atI_le l k
    have e1 : atI l k = l.length := by omega
    rw [e1] at HAT
    go_enter Tryz.func16, Tryz.ntmps16
    go_wp2_with (first
      | (go_at_call 38
         refine calls_named ?_
         intro W1 hW1
         obtain ⟨k0, k1, hs, hb⟩ := box_one w k W1 hW1
         clear hW1
         refine (HAT.out W1 hb).mono ?_
         rintro e w2 ⟨rfl, hb2⟩
         have HB := Lib.hid (bthen hb hb2)
         clear k0 k1 hs hb hb2))
    go_quiet (fail)
    go_wp2
    go_ret
    exact ⟨rfl, below_drewN HB.out _⟩
end

end Go.Proofs.YtfnabpmdjfejbaaGreat
