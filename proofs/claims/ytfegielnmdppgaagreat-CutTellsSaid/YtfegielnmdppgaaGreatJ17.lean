/- The reference's items of a stripe: At, Has; The reference's items of a stripe: Has, Get, With; The reference's items of a stripe: Get, With. -/
import Derived.Test.YtfegielnmdppgaaGreatJ15
import Derived.Test.YtfegielnmdppgaaGreatJ16
namespace Go.Proofs.YtfegielnmdppgaaGreat

section
set_option linter.unusedSimpArgs false
set_option linter.unusedVariables false
open Go.RowKit Go.Lib Go.Sort

/-- An item: its key, where its lists lie, its load. -/
structure It where
  key : Ky
  sA : Option Addr
  sc : Nat
  pA : Option Addr
  pc : Nat
  nd : Nd
def It.vs (x : It) : Value := .slice x.sA x.nd.smp.length x.sc
def loadC (x : It) : List Value := [.slice x.sA x.nd.smp.length x.sc, .slice x.pA x.nd.past.length x.pc, .int .i64 x.nd.pol.mn, .int .i64 x.nd.pol.mx, .int .i64 x.nd.pol.tg, .int .i64 x.nd.pol.tol, .int .i64 x.nd.pol.win, .int .i64 x.nd.pol.hold, .bool x.nd.ruled, .int .i64 (x.nd.ver : Nat)]
def itC (x : It) : List Value := [.int .u64 x.key.1, .int .u64 x.key.2, .slice x.sA x.nd.smp.length x.sc, .slice x.pA x.nd.past.length x.pc, .int .i64 x.nd.pol.mn, .int .i64 x.nd.pol.mx, .int .i64 x.nd.pol.tg, .int .i64 x.nd.pol.tol, .int .i64 x.nd.pol.win, .int .i64 x.nd.pol.hold, .bool x.nd.ruled, .int .i64 (x.nd.ver : Nat)]
theorem eIt : EltOf 28 154 12 128 (.agg #[.int .u64 0, .int .u64 0, .slice none 0 0, .slice none 0 0, .int .i64 0, .int .i64 0, .int .i64 0, .int .i64 0, .int .i64 0, .int .i64 0, .bool false, .int .i64 0]) itC :=
  ⟨by kernel_rfl, by kernel_rfl, rfl, by decide, by decide, fun _ => rfl, fun x u hu => by
    simp only [itC, List.mem_cons, List.not_mem_nil, or_false] at hu
    rcases hu with rfl | rfl | rfl | rfl | rfl | rfl | rfl | rfl | rfl | rfl | rfl | rfl <;> rfl⟩

def LoadIn (P : Nat → Prop) (w : World) (x : It) : Prop := RowG P 2 smpC w (.slice x.sA x.nd.smp.length x.sc) x.nd.smp ∧ RowG P 5 advC w (.slice x.pA x.nd.past.length x.pc) x.nd.past
theorem LoadIn.below {P : Nat → Prop} {w w' : World} {x : It} (h : LoadIn P w x) (hb : Below w.heap.size w w') : LoadIn P w' x := ⟨h.1.below hb, h.2.below hb⟩
theorem LoadIn.imp {P Q : Nat → Prop} {w : World} {x : It} (h : LoadIn P w x) (hi : ∀ b, P b → Q b) : LoadIn Q w x := ⟨h.1.imp hi, h.2.imp hi⟩
def ItemsIn (P : Nat → Prop) (w : World) (v : Value) (l : List It) : Prop := RowG P 12 itC w v l ∧ ∀ x ∈ l, LoadIn P w x
theorem ItemsIn.below {P : Nat → Prop} {w w' : World} {v : Value} {l : List It} (h : ItemsIn P w v l) (hb : Below w.heap.size w w') : ItemsIn P w' v l := ⟨h.1.below hb, fun x hx => (h.2 x hx).below hb⟩

/-- Where a key stands, or would. -/
def atI (l : List It) (k : Ky) : Nat := (l.takeWhile (fun x => ltK x.key k)).length
theorem atI_le (l : List It) (k : Ky) : atI l k ≤ l.length := by
  unfold atI
  exact (List.takeWhile_prefix _).length_le
theorem atI_lt {l : List It} {k : Ky} : ∀ {i : Nat} (h : i < l.length), i < atI l k → ltK l[i].key k = true := by
  induction l with
  | nil => intro i h; simp at h
  | cons a l ih =>
    intro i h hi
    by_cases ha : ltK a.key k = true
    · have e : atI (a :: l) k = atI l k + 1 := by simp [atI, ha]
      rw [e] at hi
      cases i with
      | zero => exact ha
      | succ i => simpa using ih (by simpa using h) (by omega)
    · have e : atI (a :: l) k = 0 := by simp [atI, ha]
      omega
theorem atI_ge {l : List It} {k : Ky} (h : atI l k < l.length) : ltK l[atI l k].key k = false := by
  induction l with
  | nil => simp at h
  | cons a l ih =>
    by_cases ha : ltK a.key k = true
    · have e : atI (a :: l) k = atI l k + 1 := by simp [atI, ha]
      simp only [e] at h ⊢
      simp only [List.getElem_cons_succ]
      exact ih (by simpa using h)
    · have e : atI (a :: l) k = 0 := by simp [atI, ha]
      simp only [e, List.getElem_cons_zero]
      simpa using ha

set_option maxRecDepth 100000 in
set_option maxHeartbeats 4000000 in
theorem iat_any (v : Value) (l : List It) (k : Ky) (w : World) (hv : RowIn 12 itC w v l) (hl : l.length ≤ 1000000) (hok : ∀ x ∈ l, x.key.ok) (hk : k.ok) :
    Calls Tryz.prog 72 #[v, .agg #[.int .u64 k.1, .int .u64 k.2]] w fun e w' => e = .returned (.int .i64 (atI l k : Nat)) ∧ Below w.heap.size w w' := by
  obtain ⟨A, c, rfl⟩ := hv.form
  have HV := Lib.hid hv
  have HK := Lib.hid hok
  clear hv hok
  go_enter Tryz.func72, Tryz.ntmps72
  go_wp2_with fail
  refine name_world ?_
  intro W hW
  obtain ⟨k0, k1, hs, hb⟩ := box_one w k W hW
  clear hW
  go_wp2
  go_loopg [5] l.length (fun g s5 wr => ∃ a : Nat, a ≤ atI l k ∧ l.length - a ≤ g ∧ s5 = .int .i64 a ∧ Below W.heap.size W wr)
  case atStart => exact ⟨0, Nat.zero_le _, Nat.le_refl _, rfl, Below.refl _ _⟩
  case round =>
    obtain ⟨a, ha, hga, rfl, hbi⟩ := hrel
    by_cases hal : a < l.length
    · obtain ⟨b, o, rfl, hbw, hc⟩ := HV.out.at_ hal
      have c1 : w.cell? ⟨b, o + a * 12, none⟩ = some (.int .u64 l[a].key.1) := hc 0 _ rfl
      have c2 : w.cell? ⟨b, o + a * 12 + 1, none⟩ = some (.int .u64 l[a].key.2) := hc 1 _ rfl
      have hyok : l[a].key.ok := HK.out _ (List.getElem_mem hal)
      have hless : ltK l[a].key k = decide (a < atI l k) := by
        by_cases h : a < atI l k
        · rw [atI_lt hal h]; simp [h]
        · have e : a = atI l k := by omega
          subst e
          rw [atI_ge hal]; simp
      have HL := Lib.hid hless
      generalize l[a].key = y at c1 c2 hyok hless HL
      have HSB := Lib.hid (show ∀ U, Below W.heap.size W U → (U.cell? ⟨w.heap.size, 0, none⟩ = some (.int .u64 k.1) ∧ U.cell? ⟨w.heap.size, 1, none⟩ = some (.int .u64 k.2) ∧ U.cell? ⟨b, o + a * 12, none⟩ = some (.int .u64 y.1) ∧ U.cell? ⟨b, o + a * 12 + 1, none⟩ = some (.int .u64 y.2) ∧ Below W.heap.size W U) from fun U hU =>
        ⟨(hU.cell (p := ⟨w.heap.size, 0, none⟩) (by simp; omega)).trans k0, (hU.cell (p := ⟨w.heap.size, 1, none⟩) (by simp; omega)).trans k1, ((bthen hb hU).cell (p := ⟨b, _, none⟩) hbw).trans c1, ((bthen hb hU).cell (p := ⟨b, _, none⟩) hbw).trans c2, hU⟩)
      have HS0 := HSB.out _ hbi.drew
      clear hc c1 c2 hless k0 k1
      by_cases hlt : a < atI l k
      · have Hly : Hid (ltK y k = true) := Lib.hid (by rw [HL.out]; simp [hlt])
        clear HL
        go_wp2_with fail
        go_region_held3 (fun w' => w'.cell? ⟨w.heap.size, 0, none⟩ = some (.int .u64 k.1) ∧ w'.cell? ⟨w.heap.size, 1, none⟩ = some (.int .u64 k.2) ∧ w'.cell? ⟨b, o + a * 12, none⟩ = some (.int .u64 y.1) ∧ w'.cell? ⟨b, o + a * 12 + 1, none⟩ = some (.int .u64 y.2) ∧ Below W.heap.size W w')
          (first | assumption | exact keepS HSB.out (by assumption) hb1 rfl)
          (first | (go_at_call 138; refine (less_any y k _ hyok hk).mono ?_; rw [Hly.out]; rintro e w1 ⟨rfl, hb1⟩))
        obtain ⟨_, _, _, _, r5⟩ := ‹w1.cell? _ = _ ∧ _›
        go_wp2
        go_roundg (l.length - (a + 1))
        case measure => omega
        case rel => exact ⟨a + 1, hlt, Nat.le_refl _, by go_num, r5⟩
      · have Hly : Hid (ltK y k = false) := Lib.hid (by rw [HL.out]; simp [hlt])
        clear HL
        go_wp2_with fail
        go_region_held3 (fun w' => w'.cell? ⟨w.heap.size, 0, none⟩ = some (.int .u64 k.1) ∧ w'.cell? ⟨w.heap.size, 1, none⟩ = some (.int .u64 k.2) ∧ w'.cell? ⟨b, o + a * 12, none⟩ = some (.int .u64 y.1) ∧ w'.cell? ⟨b, o + a * 12 + 1, none⟩ = some (.int .u64 y.2) ∧ Below W.heap.size W w')
          (first | assumption | exact keepS HSB.out (by assumption) hb1 rfl)
          (first | (go_at_call 138; refine (less_any y k _ hyok hk).mono ?_; rw [Hly.out]; rintro e w1 ⟨rfl, hb1⟩))
        obtain ⟨_, _, _, _, r5⟩ := ‹w1.cell? _ = _ ∧ _›
        go_wp2
        go_ret
        exact ⟨by first | rfl | (rw [show a = atI l k by omega]; rfl), bthen hb r5⟩
    · have hle := atI_le l k
      obtain rfl : a = l.length := by omega
      have E := Lib.hid (show atI l k = l.length by omega)
      clear ha hle
      go_wp2_with fail
      go_quiet (fail)
      go_wp2
      go_ret
      exact ⟨by rw [E.out]; rfl, bthen hb (below_drewN hbi _)⟩
end

section
set_option linter.unusedSimpArgs false
set_option linter.unusedVariables false
open Go.RowKit Go.Lib Go.Sort

def hasI (l : List It) (k : Ky) : Bool := if h : atI l k < l.length then decide (l[atI l k].key = k) else false
set_option maxRecDepth 100000 in
set_option maxHeartbeats 4000000 in
theorem ihas_any (v : Value) (l : List It) (k : Ky) (w : World) (hv : RowIn 12 itC w v l) (hl : l.length ≤ 1000000) (hok : ∀ x ∈ l, x.key.ok) (hk : k.ok) :
    Calls Tryz.prog 21 #[v, .agg #[.int .u64 k.1, .int .u64 k.2]] w fun e w' => e = .returned (.bool (hasI l k)) ∧ Below w.heap.size w w' := by
  obtain ⟨A, c, rfl⟩ := hv.form
  have HAT := Lib.hid (fun (W : World) (hb : Below w.heap.size w W) => iat_any _ l k W (hv.below hb) hl hok hk)
  have HV := Lib.hid hv
  unfold hasI
  clear hv
  by_cases hal : atI l k < l.length
  · rw [dif_pos hal]
    obtain ⟨b, o, rfl, hbw, hc⟩ := HV.out.at_ hal
    have c1 : w.cell? ⟨b, o + atI l k * 12, none⟩ = some (.int .u64 l[atI l k].key.1) := hc 0 _ rfl
    have c2 : w.cell? ⟨b, o + atI l k * 12 + 1, none⟩ = some (.int .u64 l[atI l k].key.2) := hc 1 _ rfl
    have hyok := hok _ (List.getElem_mem hal)
    generalize l[atI l k].key = y at c1 c2 hyok ⊢
    have HC1 := Lib.hid c1
    have HC2 := Lib.hid c2
    clear hc c1 c2 hok
    generalize ha : atI l k = a at *
    clear ha
    by_cases hyk : y = k
    · subst hyk
      rw [decide_eq_true rfl]
      go_enter Tryz.func21, Tryz.ntmps21
      go_wp2_with (first
        | (go_at_call 72
           refine calls_named ?_
           intro W1 hW1
           obtain ⟨k0, k1, hs, hb⟩ := box_one w y W1 hW1
           clear hW1
           refine (HAT.out W1 hb).mono ?_
           rintro e w2 ⟨rfl, hb2⟩
           have a1 := (hb2.cell (p := ⟨w.heap.size, 0, none⟩) (by simp; omega)).trans k0
           have a2 := (hb2.cell (p := ⟨w.heap.size, 1, none⟩) (by simp; omega)).trans k1
           have a3 := ((bthen hb hb2).cell (p := ⟨b, _, none⟩) hbw).trans HC1.out
           have a4 := ((bthen hb hb2).cell (p := ⟨b, _, none⟩) hbw).trans HC2.out
           have HB := Lib.hid (bthen hb hb2)
           clear k0 k1 hs hb hb2))
      go_quiet (fail)
      go_wp2
      go_ret
      exact ⟨rfl, below_drewN HB.out _⟩
    · rw [decide_eq_false hyk]
      by_cases h1 : y.1 = k.1
      · have hh : ((y.2 : Int) == (k.2 : Int)) = false := by
          have : y.2 ≠ k.2 := fun h2 => hyk (Prod.ext h1 h2)
          simp; omega
        rw [h1] at HC1
        clear hyk h1
        go_enter Tryz.func21, Tryz.ntmps21
        go_wp2_with (first
          | (go_at_call 72
             refine calls_named ?_
             intro W1 hW1
             obtain ⟨k0, k1, hs, hb⟩ := box_one w k W1 hW1
             clear hW1
             refine (HAT.out W1 hb).mono ?_
             rintro e w2 ⟨rfl, hb2⟩
             have a1 := (hb2.cell (p := ⟨w.heap.size, 0, none⟩) (by simp; omega)).trans k0
             have a2 := (hb2.cell (p := ⟨w.heap.size, 1, none⟩) (by simp; omega)).trans k1
             have a3 := ((bthen hb hb2).cell (p := ⟨b, _, none⟩) hbw).trans HC1.out
             have a4 := ((bthen hb hb2).cell (p := ⟨b, _, none⟩) hbw).trans HC2.out
             have HB := Lib.hid (bthen hb hb2)
             clear k0 k1 hs hb hb2))
        go_quiet (fail)
        go_wp2
        go_ret
        exact ⟨rfl, below_drewN HB.out _⟩
      · have hh : ((y.1 : Int) == (k.1 : Int)) = false := by simp; omega
        clear hyk h1
        go_enter Tryz.func21, Tryz.ntmps21
        go_wp2_with (first
          | (go_at_call 72
             refine calls_named ?_
             intro W1 hW1
             obtain ⟨k0, k1, hs, hb⟩ := box_one w k W1 hW1
             clear hW1
             refine (HAT.out W1 hb).mono ?_
             rintro e w2 ⟨rfl, hb2⟩
             have a1 := (hb2.cell (p := ⟨w.heap.size, 0, none⟩) (by simp; omega)).trans k0
             have a2 := (hb2.cell (p := ⟨w.heap.size, 1, none⟩) (by simp; omega)).trans k1
             have a3 := ((bthen hb hb2).cell (p := ⟨b, _, none⟩) hbw).trans HC1.out
             have a4 := ((bthen hb hb2).cell (p := ⟨b, _, none⟩) hbw).trans HC2.out
             have HB := Lib.hid (bthen hb hb2)
             clear k0 k1 hs hb hb2))
        go_quiet (fail)
        go_wp2
        go_ret
        exact ⟨rfl, below_drewN HB.out _⟩
  · rw [dif_neg hal]
    have hle := atI_le l k
    have e1 : atI l k = l.length := by omega
    rw [e1] at HAT
    go_enter Tryz.func21, Tryz.ntmps21
    go_wp2_with (first
      | (go_at_call 72
         refine calls_named ?_
         intro W1 hW1
         obtain ⟨k0, k1, hs, hb⟩ := box_one w k W1 hW1
         clear hW1
         refine (HAT.out W1 hb).mono ?_
         rintro e w2 ⟨rfl, hb2⟩
         have HB := Lib.hid (bthen hb hb2)
         clear k0 k1 hs hb hb2))
    go_quiet (fail)
    go_wp2
    go_ret
    exact ⟨rfl, below_drewN HB.out _⟩
end

section
set_option linter.unusedSimpArgs false
set_option linter.unusedVariables false
open Go.RowKit Go.Lib Go.Sort

/-- A key's load, or an empty one. -/
def it0 : It := ⟨(0, 0), none, 0, none, 0, nd0⟩
def getL (l : List It) (k : Ky) : It := if h : atI l k < l.length then (if l[atI l k].key = k then l[atI l k] else it0) else it0
theorem getL_has {l : List It} {k : Ky} (h : hasI l k = true) : ∃ hl : atI l k < l.length, getL l k = l[atI l k] := by
  unfold hasI at h
  split at h
  · rename_i hl
    refine ⟨hl, ?_⟩
    unfold getL
    rw [dif_pos hl, if_pos (by simpa using h)]
  · cases h
theorem getL_none {l : List It} {k : Ky} (h : hasI l k = false) : getL l k = it0 := by
  unfold hasI at h
  unfold getL
  split at h
  · rename_i hl
    rw [dif_pos hl, if_neg (by simpa using h)]
  · rename_i hl
    rw [dif_neg hl]

theorem two_boxes (w : World) (o1 o2 : Obj) : ∀ W, W = (w.alloc o1).alloc o2 → W.heap[w.heap.size]? = some o1 ∧ W.heap[w.heap.size + 1]? = some o2 ∧ W.heap.size = w.heap.size + 2 ∧ Below w.heap.size w W := by
  rintro W rfl
  refine ⟨(Below.heap_alloc _ _ _ (by simp)).trans (heap_alloc_new _ _), ?_, by simp, balloc (balloc (Below.refl _ _) _) _⟩
  have := heap_alloc_new (w.alloc o1) o2
  rw [World.size_alloc] at this
  exact this

theorem post_named {P : Program} {f : Func} {Q : Ending → World → Prop} {x : Exit} {a : Act} {w : World} (h : ∀ W, W = w → bodyPost P f Q x a W) : bodyPost P f Q x a w := h w rfl
/-- A block of ten cells, written anew. -/
theorem set10 {w : World} {B : Nat} {u0 u1 u2 u3 u4 u5 u6 u7 u8 u9 : Value} {T : TypeId} (h : w.heap[B]? = some (.cells #[u0, u1, u2, u3, u4, u5, u6, u7, u8, u9] T (0, 0))) (v0 v1 v2 v3 v4 v5 v6 v7 v8 v9 : Value) : ∀ W, W = (((((((((w.setCell ⟨B, 0, none⟩ v0).setCell ⟨B, 1, none⟩ v1).setCell ⟨B, 2, none⟩ v2).setCell ⟨B, 3, none⟩ v3).setCell ⟨B, 4, none⟩ v4).setCell ⟨B, 5, none⟩ v5).setCell ⟨B, 6, none⟩ v6).setCell ⟨B, 7, none⟩ v7).setCell ⟨B, 8, none⟩ v8).setCell ⟨B, 9, none⟩ v9 →
    W.heap[B]? = some (.cells #[v0, v1, v2, v3, v4, v5, v6, v7, v8, v9] T (0, 0)) ∧ (∀ k, k ≠ B → W.heap[k]? = w.heap[k]?) ∧ W.heap.size = w.heap.size ∧ ∀ n, n ≤ B → Below n w W := by
  rintro W rfl
  refine ⟨?_, fun k hk => ?_, by simp [World.setCell], fun n hn => ?_⟩
  · have h0 : (w.setCell ⟨B, 0, none⟩ v0).heap[B]? = some (.cells #[v0, u1, u2, u3, u4, u5, u6, u7, u8, u9] T (0, 0)) := setCell_block (i := 0) (v := v0) h
    have h1 : ((w.setCell ⟨B, 0, none⟩ v0).setCell ⟨B, 1, none⟩ v1).heap[B]? = some (.cells #[v0, v1, u2, u3, u4, u5, u6, u7, u8, u9] T (0, 0)) := setCell_block (i := 1) (v := v1) h0
    have h2 : (((w.setCell ⟨B, 0, none⟩ v0).setCell ⟨B, 1, none⟩ v1).setCell ⟨B, 2, none⟩ v2).heap[B]? = some (.cells #[v0, v1, v2, u3, u4, u5, u6, u7, u8, u9] T (0, 0)) := setCell_block (i := 2) (v := v2) h1
    have h3 : ((((w.setCell ⟨B, 0, none⟩ v0).setCell ⟨B, 1, none⟩ v1).setCell ⟨B, 2, none⟩ v2).setCell ⟨B, 3, none⟩ v3).heap[B]? = some (.cells #[v0, v1, v2, v3, u4, u5, u6, u7, u8, u9] T (0, 0)) := setCell_block (i := 3) (v := v3) h2
    have h4 : (((((w.setCell ⟨B, 0, none⟩ v0).setCell ⟨B, 1, none⟩ v1).setCell ⟨B, 2, none⟩ v2).setCell ⟨B, 3, none⟩ v3).setCell ⟨B, 4, none⟩ v4).heap[B]? = some (.cells #[v0, v1, v2, v3, v4, u5, u6, u7, u8, u9] T (0, 0)) := setCell_block (i := 4) (v := v4) h3
    have h5 : ((((((w.setCell ⟨B, 0, none⟩ v0).setCell ⟨B, 1, none⟩ v1).setCell ⟨B, 2, none⟩ v2).setCell ⟨B, 3, none⟩ v3).setCell ⟨B, 4, none⟩ v4).setCell ⟨B, 5, none⟩ v5).heap[B]? = some (.cells #[v0, v1, v2, v3, v4, v5, u6, u7, u8, u9] T (0, 0)) := setCell_block (i := 5) (v := v5) h4
    have h6 : (((((((w.setCell ⟨B, 0, none⟩ v0).setCell ⟨B, 1, none⟩ v1).setCell ⟨B, 2, none⟩ v2).setCell ⟨B, 3, none⟩ v3).setCell ⟨B, 4, none⟩ v4).setCell ⟨B, 5, none⟩ v5).setCell ⟨B, 6, none⟩ v6).heap[B]? = some (.cells #[v0, v1, v2, v3, v4, v5, v6, u7, u8, u9] T (0, 0)) := setCell_block (i := 6) (v := v6) h5
    have h7 : ((((((((w.setCell ⟨B, 0, none⟩ v0).setCell ⟨B, 1, none⟩ v1).setCell ⟨B, 2, none⟩ v2).setCell ⟨B, 3, none⟩ v3).setCell ⟨B, 4, none⟩ v4).setCell ⟨B, 5, none⟩ v5).setCell ⟨B, 6, none⟩ v6).setCell ⟨B, 7, none⟩ v7).heap[B]? = some (.cells #[v0, v1, v2, v3, v4, v5, v6, v7, u8, u9] T (0, 0)) := setCell_block (i := 7) (v := v7) h6
    have h8 : (((((((((w.setCell ⟨B, 0, none⟩ v0).setCell ⟨B, 1, none⟩ v1).setCell ⟨B, 2, none⟩ v2).setCell ⟨B, 3, none⟩ v3).setCell ⟨B, 4, none⟩ v4).setCell ⟨B, 5, none⟩ v5).setCell ⟨B, 6, none⟩ v6).setCell ⟨B, 7, none⟩ v7).setCell ⟨B, 8, none⟩ v8).heap[B]? = some (.cells #[v0, v1, v2, v3, v4, v5, v6, v7, v8, u9] T (0, 0)) := setCell_block (i := 8) (v := v8) h7
    have h9 : ((((((((((w.setCell ⟨B, 0, none⟩ v0).setCell ⟨B, 1, none⟩ v1).setCell ⟨B, 2, none⟩ v2).setCell ⟨B, 3, none⟩ v3).setCell ⟨B, 4, none⟩ v4).setCell ⟨B, 5, none⟩ v5).setCell ⟨B, 6, none⟩ v6).setCell ⟨B, 7, none⟩ v7).setCell ⟨B, 8, none⟩ v8).setCell ⟨B, 9, none⟩ v9).heap[B]? = some (.cells #[v0, v1, v2, v3, v4, v5, v6, v7, v8, v9] T (0, 0)) := setCell_block (i := 9) (v := v9) h8
    exact h9
  · have e : ∀ (u : World) (i : Nat) (v : Value), (u.setCell ⟨B, i, none⟩ v).heap[k]? = u.heap[k]? := fun u i v => Below.heap_setCell _ _ _ _ hk
    rw [e, e, e, e, e, e, e, e, e, e]
  · exact (((((((((((Below.refl n w).setCell hn _).setCell hn _).setCell hn _).setCell hn _).setCell hn _).setCell hn _).setCell hn _).setCell hn _).setCell hn _).setCell hn _)

set_option maxRecDepth 100000 in
set_option maxHeartbeats 4000000 in
theorem iget_any (v : Value) (l : List It) (k : Ky) (w : World) (hv : RowIn 12 itC w v l) (hl : l.length ≤ 1000000) (hok : ∀ x ∈ l, x.key.ok) (hk : k.ok) :
    Calls Tryz.prog 23 #[v, .agg #[.int .u64 k.1, .int .u64 k.2]] w fun e w' => e = .returned (.agg (loadC (getL l k)).toArray) ∧ Below w.heap.size w w' := by
  obtain ⟨A, c, rfl⟩ := hv.form
  have HH := Lib.hid (fun (W : World) (hb : Below w.heap.size w W) => ihas_any _ l k W (hv.below hb) hl hok hk)
  have HAT := Lib.hid (fun (W : World) (hb : Below w.heap.size w W) => iat_any _ l k W (hv.below hb) hl hok hk)
  have HV := Lib.hid hv
  clear hv
  cases hh : hasI l k with
  | true =>
    obtain ⟨hal, hg⟩ := getL_has hh
    have HG := Lib.hid hg
    rw [hh] at HH
    obtain ⟨b, o, rfl, hbw, hc⟩ := HV.out.at_ hal
    generalize l[atI l k] = x at hc HG
    have HC := Lib.hid (show ∀ j u, (itC x)[j]? = some u → w.cell? ⟨b, o + atI l k * 12 + j, none⟩ = some u from hc)
    generalize ha : atI l k = a at *
    clear ha hg hc hh hok
    go_enter Tryz.func23, Tryz.ntmps23
    go_wp2_with (first
      | (go_at_call 21
         refine calls_named ?_
         intro W1 hW1
         obtain ⟨k0, k1, hs, hb⟩ := two_boxes w _ _ W1 hW1
         clear hW1
         refine (HH.out W1 hb).mono ?_
         rintro e w2 ⟨rfl, hb2⟩
         obtain ⟨a1, a2, a3, a4⟩ := box_at hb2 k0
         have HX := Lib.hid (And.intro a4 ((hb2.block _ (Array.getElem?_eq_some_iff.1 k1).1).trans k1))
         have HB := Lib.hid (bthen hb hb2)
         clear k0 k1 hs hb hb2 a4)
      | (go_at_call 72
         refine (HAT.out w2 HB.out).mono ?_
         rintro e w3 ⟨rfl, hb3⟩
         obtain ⟨b1, b2, b3⟩ := box_cells hb3 HX.out.2
         have hbb := bthen HB.out hb3
         have q0 := (hbb.cell (p := ⟨b, _, none⟩) hbw).trans (HC.out 2 _ rfl)
         have q1 := (hbb.cell (p := ⟨b, _, none⟩) hbw).trans (HC.out 3 _ rfl)
         have q2 := (hbb.cell (p := ⟨b, _, none⟩) hbw).trans (HC.out 4 _ rfl)
         have q3 := (hbb.cell (p := ⟨b, _, none⟩) hbw).trans (HC.out 5 _ rfl)
         have q4 := (hbb.cell (p := ⟨b, _, none⟩) hbw).trans (HC.out 6 _ rfl)
         have q5 := (hbb.cell (p := ⟨b, _, none⟩) hbw).trans (HC.out 7 _ rfl)
         have q6 := (hbb.cell (p := ⟨b, _, none⟩) hbw).trans (HC.out 8 _ rfl)
         have q7 := (hbb.cell (p := ⟨b, _, none⟩) hbw).trans (HC.out 9 _ rfl)
         have q8 := (hbb.cell (p := ⟨b, _, none⟩) hbw).trans (HC.out 10 _ rfl)
         have q9 := (hbb.cell (p := ⟨b, _, none⟩) hbw).trans (HC.out 11 _ rfl)
         have HB3 := Lib.hid (And.intro hbb ((hb3.block _ (Array.getElem?_eq_some_iff.1 HX.out.2).1).trans HX.out.2))
         clear hb3 hbb))
    refine post_named ?_
    intro W4 hW4
    obtain ⟨h4, h5, h6, h7⟩ := set10 HB3.out.2 _ _ _ _ _ _ _ _ _ _ W4 hW4
    obtain ⟨d1, d2, d3⟩ := box_cells (Below.refl _ _) h4
    have hb4 := HB3.out.1.trans (h7 w.heap.size (by omega))
    clear hW4
    exact bodyPost_ret (v := .agg (loadC x).toArray) (by simp [results, Tryz.results23, go_sem, loadC, d1]) rfl ⟨by rw [HG.out], hb4⟩
  | false =>
    have HG := Lib.hid (getL_none hh)
    rw [hh] at HH
    clear hh hok
    go_enter Tryz.func23, Tryz.ntmps23
    go_wp2_with (first
      | (go_at_call 21
         refine calls_named ?_
         intro W1 hW1
         obtain ⟨k0, k1, hs, hb⟩ := two_boxes w _ _ W1 hW1
         clear hW1
         refine (HH.out W1 hb).mono ?_
         rintro e w2 ⟨rfl, hb2⟩
         obtain ⟨a1, a2, a3⟩ := box_cells hb2 k0
         obtain ⟨b1, b2, b3⟩ := box_cells hb2 k1
         have HB := Lib.hid (And.intro (bthen hb hb2) ((hb2.block _ (Array.getElem?_eq_some_iff.1 k1).1).trans k1))
         clear k0 k1 hs hb hb2))
    refine post_named ?_
    intro W4 hW4
    obtain ⟨h4, h5, h6, h7⟩ := set10 HB.out.2 _ _ _ _ _ _ _ _ _ _ W4 hW4
    obtain ⟨d1, d2, d3⟩ := box_cells (Below.refl _ _) h4
    have hb4 := HB.out.1.trans (h7 w.heap.size (by omega))
    clear hW4
    exact bodyPost_ret (v := .agg (loadC it0).toArray) (by simp [results, Tryz.results23, go_sem, loadC, it0, nd0, pol0, d1]) rfl ⟨by rw [HG.out], hb4⟩
end

end Go.Proofs.YtfegielnmdppgaaGreat
