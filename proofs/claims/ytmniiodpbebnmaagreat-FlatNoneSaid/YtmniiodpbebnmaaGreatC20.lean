/- flat's copied: a workload with lists of its own; flat's Load; Walks of sat.Clamp, flywheelref01.Ceil and Clamp, control.Want and Bound, flywheelref13.Load, Want, Bound. -/
import Derived.Test.YtmniiodpbebnmaaGreatC19
import Derived.Test.YtmniiodpbebnmaaGreatC06
import Derived.Test.YtmniiodpbebnmaaGreatC09
import Derived.Test.YtmniiodpbebnmaaGreatC07
import Derived.Test.YtmniiodpbebnmaaGreatC18
namespace Go.Proofs.YtmniiodpbebnmaaGreat

section
set_option linter.unusedSimpArgs false
set_option linter.unusedVariables false
open Go.RowKit Go.Lib

/-- A workload whose lists are its own. -/
def LoadOwn (base : Nat) (w : World) (y : It) : Prop := OwnL smpC 111 2 base w (.slice y.sA y.nd.smp.length y.sc) y.nd.smp ∧ OwnL advC 44 5 base w (.slice y.pA y.nd.past.length y.pc) y.nd.past
theorem LoadOwn.load {base : Nat} {w : World} {y : It} (h : LoadOwn base w y) : LoadIn (fun b => base ≤ b) w y := ⟨RowG.own eSmp h.1, RowG.own eAdv h.2⟩
theorem own_raise {α : Type} {e : TypeId} {n base base' : Nat} {f : α → List Value} {w : World} {v : Value} {l : List α} (h : OwnL f e n base w v l) (hb : ∀ r, v.ownBlock = some r → base' ≤ r) : OwnL f e n base' w v l := by
  refine ⟨h.1, ?_⟩
  rcases h.2 with hn | ⟨g, cap, cur, hv, hg, rest⟩
  · exact .inl hn
  · exact .inr ⟨g, cap, cur, hv, hb g (by rw [hv]; rfl), rest⟩
theorem own_srow {α : Type} {e : TypeId} {n base : Nat} {f : α → List Value} {w : World} {v : Value} {l : List α} {fp : List Nat} (h : SRow f e n w v l fp) (hb : ∀ r ∈ fp, base ≤ r) : OwnL f e n base w v l :=
  own_raise h.1 (fun r hr => hb r (by rw [h.2, hr]; simp))
theorem LoadOwn.lower {base base' : Nat} {w : World} {y : It} (h : LoadOwn base w y) (hb : base' ≤ base) : LoadOwn base' w y := ⟨h.1.lower hb, h.2.lower hb⟩
theorem LoadOwn.kept {base : Nat} {w w' : World} {y : It} (h : LoadOwn base w y) (hk : ∀ r, base ≤ r → r < w.heap.size → w'.heap[r]? = w.heap[r]?) : LoadOwn base w' y :=
  ⟨h.1.kept (fun r hr => hk r (h.1.lt hr).1 (h.1.lt hr).2), h.2.kept (fun r hr => hk r (h.2.lt hr).1 (h.2.lt hr).2)⟩
theorem LoadOwn.below {base : Nat} {w w' : World} {y : It} (h : LoadOwn base w y) (hb : Below w.heap.size w w') : LoadOwn base w' y := ⟨h.1.below hb, h.2.below hb⟩
/-- A workload that goes on by itself. -/
def CopyS (w : World) (x : It) (e : Ending) (w' : World) : Prop :=
  ∃ y : It, e = .returned (ldV y) ∧ y.nd = x.nd ∧ y.key = x.key ∧ LoadOwn w.heap.size w' y ∧ Below w.heap.size w w'
set_option maxRecDepth 100000 in
set_option maxHeartbeats 4000000 in
theorem flCopied_any (P : Nat → Prop) (x : It) (w : World) (hx : LoadIn P w x) (hl1 : x.nd.smp.length ≤ 1000000) (hl2 : x.nd.past.length ≤ 1000000) :
    Calls Tryz.prog 74 #[ldV x] w (CopyS w x) := by
  have CS := Lib.hid (fun W (hW : Below w.heap.size w W) => cloneS_any _ x.nd.smp W (hx.1.1.below hW) hl1)
  have CA := Lib.hid (fun W (hW : Below w.heap.size w W) => cloneA_any _ x.nd.past W (hx.2.1.below hW) hl2)
  obtain ⟨key, sA, sc, pA, pc, nd⟩ := x
  unfold ldV ldC
  dsimp only at CS CA ⊢
  clear hx hl1 hl2
  go_enter Tryz.func74, Tryz.ntmps74
  go_upto_region 1 with fail
  refine name_world ?_
  intro W1 hW1
  have HB1 := Lib.hid (show Below w.heap.size w W1 by rw [hW1]; exact balloc (balloc (Below.refl _ _) _) _)
  have HX1 := Lib.hid (show W1.heap[w.heap.size]? = some (.cells #[.slice sA nd.smp.length sc, .slice pA nd.past.length pc, .int .i64 nd.pol.mn, .int .i64 nd.pol.mx, .int .i64 nd.pol.tg, .int .i64 nd.pol.tol, .int .i64 nd.pol.win, .int .i64 nd.pol.hold, .bool nd.ruled] 60 (0, 0)) by rw [hW1]; exact box_old _ _ _)
  have HR1 := Lib.hid (show W1.heap[w.heap.size + 1]? = some (.cells #[.slice none 0 0, .slice none 0 0, .int .i64 0, .int .i64 0, .int .i64 0, .int .i64 0, .int .i64 0, .int .i64 0, .bool false] 60 (0, 0)) by rw [hW1]; exact box_new _ _ _)
  have HS1 := Lib.hid (show w.heap.size + 2 ≤ W1.heap.size by rw [hW1]; simp)
  clear hW1
  obtain ⟨b1, b2, b3⟩ := box_cells (Below.refl _ _) HX1.out
  go_region_with (first
    | (go_at_call 127
       have h9 := HBU
       refine calls_named ?_
       intro V hV
       have hd : Below w.heap.size w V := by rw [hV]; first | exact HBU.out | exact HBU.out.drew | exact Below.setCell HBU.out (by exact Nat.le_refl _) _ | exact (Below.setCell HBU.out (by exact Nat.le_refl _) _).drew
       have hr : V.heap[w.heap.size + 1]? = some (.cells #[.slice none 0 0, .slice none 0 0, .int .i64 0, .int .i64 0, .int .i64 0, .int .i64 0, .int .i64 0, .int .i64 0, .bool false] 60 (0, 0)) := by rw [hV]; first | exact HRU.out | exact heap_set_ne HRU.out (by omega)
       have hsz : u1.heap.size ≤ V.heap.size := by rw [hV]; first | done | exact Nat.le_refl _ | simp
       have ho : ∀ k ∈ fp4, V.heap[k]? = u1.heap[k]? := fun k hk => by rw [hV]; first | done | rfl | exact heap_set_ne rfl (by have := HQ4.out.2 k hk; omega)
       (first
         | (have hx : V.heap[w.heap.size]? = some (.cells #[.slice sA nd.smp.length sc, .slice pA nd.past.length pc, .int .i64 nd.pol.mn, .int .i64 nd.pol.mx, .int .i64 nd.pol.tg, .int .i64 nd.pol.tol, .int .i64 nd.pol.win, .int .i64 nd.pol.hold, .bool nd.ruled] 60 (0, 0)) := by rw [hV]; exact HXU.out)
         | (have hx : V.heap[w.heap.size]? = some (.cells #[.slice sA nd.smp.length sc, .slice A4 nd.past.length c4, .int .i64 nd.pol.mn, .int .i64 nd.pol.mx, .int .i64 nd.pol.tg, .int .i64 nd.pol.tol, .int .i64 nd.pol.win, .int .i64 nd.pol.hold, .bool nd.ruled] 60 (0, 0)) := by rw [hV]; exact setCell_block HXU.out))
       clear hV
       have hlt := (Array.getElem?_eq_some_iff.1 hr).1
       refine (CS.out V hd).mono ?_
       rintro e u2 ⟨A3, c3, fp3, rfl, hq, hf, hb⟩
       have HBV := Lib.hid (bthen hd hb)
       have HXV := Lib.hid ((hb.block _ (Array.getElem?_eq_some_iff.1 hx).1).trans hx)
       have HRV := Lib.hid ((hb.block _ hlt).trans hr)
       have HG3 := Lib.hid (And.intro hq (show ∀ k ∈ fp3, w.heap.size + 2 ≤ k from fun k hk => Nat.le_trans hlt (hf k hk)))
       have HG4 := Lib.hid (And.intro (HQ4.out.1.kept (fun r hr9 => (hb.block r (Nat.lt_of_lt_of_le (HQ4.out.1.lt r hr9) hsz)).trans (ho r hr9))) HQ4.out.2)
       obtain ⟨x4, x5, x6⟩ := box_cells (Below.refl _ _) HXV.out
       obtain ⟨r1, r2, r3⟩ := box_cells (Below.refl _ _) HRV.out
       clear hq hf hb hd hr ho hx hlt hsz x1 x2 x3)
    | (go_at_call 137
       have h9 := HBU
       refine calls_named ?_
       intro V hV
       have hd : Below w.heap.size w V := by rw [hV]; first | exact HBU.out | exact HBU.out.drew | exact Below.setCell HBU.out (by exact Nat.le_refl _) _ | exact (Below.setCell HBU.out (by exact Nat.le_refl _) _).drew
       have hr : V.heap[w.heap.size + 1]? = some (.cells #[.slice none 0 0, .slice none 0 0, .int .i64 0, .int .i64 0, .int .i64 0, .int .i64 0, .int .i64 0, .int .i64 0, .bool false] 60 (0, 0)) := by rw [hV]; first | exact HRU.out | exact heap_set_ne HRU.out (by omega)
       have hsz : u1.heap.size ≤ V.heap.size := by rw [hV]; first | done | exact Nat.le_refl _ | simp
       have ho : ∀ k ∈ fp3, V.heap[k]? = u1.heap[k]? := fun k hk => by rw [hV]; first | done | rfl | exact heap_set_ne rfl (by have := HQ3.out.2 k hk; omega)
       (first
         | (have hx : V.heap[w.heap.size]? = some (.cells #[.slice sA nd.smp.length sc, .slice pA nd.past.length pc, .int .i64 nd.pol.mn, .int .i64 nd.pol.mx, .int .i64 nd.pol.tg, .int .i64 nd.pol.tol, .int .i64 nd.pol.win, .int .i64 nd.pol.hold, .bool nd.ruled] 60 (0, 0)) := by rw [hV]; exact HXU.out)
         | (have hx : V.heap[w.heap.size]? = some (.cells #[.slice A3 nd.smp.length c3, .slice pA nd.past.length pc, .int .i64 nd.pol.mn, .int .i64 nd.pol.mx, .int .i64 nd.pol.tg, .int .i64 nd.pol.tol, .int .i64 nd.pol.win, .int .i64 nd.pol.hold, .bool nd.ruled] 60 (0, 0)) := by rw [hV]; exact setCell_block HXU.out))
       clear hV
       have hlt := (Array.getElem?_eq_some_iff.1 hr).1
       refine (CA.out V hd).mono ?_
       rintro e u2 ⟨A4, c4, fp4, rfl, hq, hf, hb⟩
       have HBV := Lib.hid (bthen hd hb)
       have HXV := Lib.hid ((hb.block _ (Array.getElem?_eq_some_iff.1 hx).1).trans hx)
       have HRV := Lib.hid ((hb.block _ hlt).trans hr)
       have HG4 := Lib.hid (And.intro hq (show ∀ k ∈ fp4, w.heap.size + 2 ≤ k from fun k hk => Nat.le_trans hlt (hf k hk)))
       have HG3 := Lib.hid (And.intro (HQ3.out.1.kept (fun r hr9 => (hb.block r (Nat.lt_of_lt_of_le (HQ3.out.1.lt r hr9) hsz)).trans (ho r hr9))) HQ3.out.2)
       obtain ⟨x4, x5, x6⟩ := box_cells (Below.refl _ _) HXV.out
       obtain ⟨r1, r2, r3⟩ := box_cells (Below.refl _ _) HRV.out
       clear hq hf hb hd hr ho hx hlt hsz x1 x2 x3)
    | (go_at_call 127
       refine calls_named ?_
       intro V hV
       have hd : Below W1.heap.size W1 V := by rw [hV]; first | exact Below.refl _ _ | exact (Below.refl _ _).drew
       clear hV
       refine (CS.out V (bthen HB1.out hd)).mono ?_
       rintro e u1 ⟨A3, c3, fp3, rfl, hq, hf, hb⟩
       have hd1 := bthen hd hb
       have HBU := Lib.hid (bthen HB1.out hd1)
       have HXU := Lib.hid ((hd1.block _ (Array.getElem?_eq_some_iff.1 HX1.out).1).trans HX1.out)
       have HRU := Lib.hid ((hd1.block _ (Array.getElem?_eq_some_iff.1 HR1.out).1).trans HR1.out)
       have HQ3 := Lib.hid (And.intro hq (show ∀ k ∈ fp3, w.heap.size + 2 ≤ k from fun k hk => Nat.le_trans (Nat.le_trans HS1.out hd.size) (hf k hk)))
       obtain ⟨x1, x2, x3⟩ := box_cells (Below.refl _ _) HXU.out
       clear hq hf hb hd hd1 b1 b2 b3)
    | (go_at_call 137
       refine calls_named ?_
       intro V hV
       have hd : Below W1.heap.size W1 V := by rw [hV]; first | exact Below.refl _ _ | exact (Below.refl _ _).drew
       clear hV
       refine (CA.out V (bthen HB1.out hd)).mono ?_
       rintro e u1 ⟨A4, c4, fp4, rfl, hq, hf, hb⟩
       have hd1 := bthen hd hb
       have HBU := Lib.hid (bthen HB1.out hd1)
       have HXU := Lib.hid ((hd1.block _ (Array.getElem?_eq_some_iff.1 HX1.out).1).trans HX1.out)
       have HRU := Lib.hid ((hd1.block _ (Array.getElem?_eq_some_iff.1 HR1.out).1).trans HR1.out)
       have HQ4 := Lib.hid (And.intro hq (show ∀ k ∈ fp4, w.heap.size + 2 ≤ k from fun k hk => Nat.le_trans (Nat.le_trans HS1.out hd.size) (hf k hk)))
       obtain ⟨x1, x2, x3⟩ := box_cells (Below.refl _ _) HXU.out
       clear hq hf hb hd hd1 b1 b2 b3))
  all_goals
    refine then_named ?_
    intro W9 hW9
    have hx9 : W9.heap[w.heap.size]? = some (.cells #[.slice A3 nd.smp.length c3, .slice A4 nd.past.length c4, .int .i64 nd.pol.mn, .int .i64 nd.pol.mx, .int .i64 nd.pol.tg, .int .i64 nd.pol.tol, .int .i64 nd.pol.win, .int .i64 nd.pol.hold, .bool nd.ruled] 60 (0, 0)) := by rw [hW9]; first | exact setCell_block (setCell_block HXV.out) | exact setCell_block HXV.out
    have hr9 : W9.heap[w.heap.size + 1]? = some (.cells #[.slice none 0 0, .slice none 0 0, .int .i64 0, .int .i64 0, .int .i64 0, .int .i64 0, .int .i64 0, .int .i64 0, .bool false] 60 (0, 0)) := by rw [hW9]; first | exact heap_set_ne (heap_set_ne HRV.out (by omega)) (by omega) | exact heap_set_ne HRV.out (by omega)
    have hb9 : Below w.heap.size w W9 := by rw [hW9]; repeat (first | exact HBV.out | refine Below.setCell ?_ (by exact Nat.le_refl _) _)
    have hk9 : ∀ k, w.heap.size + 2 ≤ k → W9.heap[k]? = u2.heap[k]? := fun k hk => by rw [hW9]; first | exact heap_set_ne (heap_set_ne rfl (by omega)) (by omega) | exact heap_set_ne rfl (by omega)
    have HB9 := Lib.hid hb9
    have HK9 := Lib.hid hk9
    have HR9 := Lib.hid hr9
    clear hW9 hb9 hk9 x4 x5 x6 r1 r2 r3
    obtain ⟨x7, x8, x9⟩ := box_cells (Below.refl _ _) hx9
    obtain ⟨r1, r2, r3⟩ := box_cells (Below.refl _ _) hr9
    clear hx9 hr9
    go_wp2_with fail
    refine post_named ?_
    intro V9 hV9
    have hV9' : V9 = stor W9 (w.heap.size + 1) 0 [.slice A3 nd.smp.length c3, .slice A4 nd.past.length c4, .int .i64 nd.pol.mn, .int .i64 nd.pol.mx, .int .i64 nd.pol.tg, .int .i64 nd.pol.tol, .int .i64 nd.pol.win, .int .i64 nd.pol.hold, .bool nd.ruled] := hV9
    obtain ⟨t1, t2, t3, t4⟩ := stor_at HR9.out [.slice A3 nd.smp.length c3, .slice A4 nd.past.length c4, .int .i64 nd.pol.mn, .int .i64 nd.pol.mx, .int .i64 nd.pol.tg, .int .i64 nd.pol.tol, .int .i64 nd.pol.win, .int .i64 nd.pol.hold, .bool nd.ruled] rfl V9 hV9'
    obtain ⟨a9, a8, a7⟩ := box_cells (Below.refl _ _) t1
    clear hV9 hV9'
    have hk : ∀ k, w.heap.size + 2 ≤ k → V9.heap[k]? = u2.heap[k]? := fun k hk => (t2 k (by omega)).trans (HK9.out k hk)
    exact bodyPost_ret (v := .agg #[.slice A3 nd.smp.length c3, .slice A4 nd.past.length c4, .int .i64 nd.pol.mn, .int .i64 nd.pol.mx, .int .i64 nd.pol.tg, .int .i64 nd.pol.tol, .int .i64 nd.pol.win, .int .i64 nd.pol.hold, .bool nd.ruled]) (by simp [results, Tryz.results74, go_sem, a9]) rfl
      ⟨⟨key, A3, c3, A4, c4, nd⟩, rfl, rfl, rfl, ⟨own_srow (HG3.out.1.kept (fun r hr => hk r (HG3.out.2 r hr))) (fun r hr => by have := HG3.out.2 r hr; omega), own_srow (HG4.out.1.kept (fun r hr => hk r (HG4.out.2 r hr))) (fun r hr => by have := HG4.out.2 r hr; omega)⟩, HB9.out.trans (t4 _ (Nat.le_succ _))⟩
end

section
set_option linter.unusedSimpArgs false
set_option linter.unusedVariables false
open Go.RowKit Go.Lib

def it00 : It := ⟨(0, 0), none, 0, none, 0, nd0⟩
/-- What Load answers: a workload with lists of its own, or none. -/
def LoadS (w : World) (o : Option It) (e : Ending) (w' : World) : Prop :=
  ∃ y : It, e = .returned (.tuple #[ldV y, .bool o.isSome]) ∧ y.nd = (o.getD it00).nd ∧ LoadOwn w.heap.size w' y ∧ Below w.heap.size w w'

set_option maxRecDepth 100000 in
set_option maxHeartbeats 2000000 in
theorem flLoad_nil (id : ByteArray) (w : World) :
    Calls Tryz.prog 22 #[.pointer none, .string id] w fun e w' => e = .returned (.tuple #[ldV it00, .bool false]) ∧ Below w.heap.size w w' := by
  unfold ldV ldC it00 nd0 pol0
  dsimp only
  go_enter Tryz.func22, Tryz.ntmps22
  go_wp2_with (first
    | (go_at_call 57
       refine (flMade_nil _).mono ?_
       rintro e w2 ⟨rfl, rfl⟩))
  refine bodyPost_ret (v := .tuple #[.agg #[.slice none 0 0, .slice none 0 0, .int .i64 0, .int .i64 0, .int .i64 0, .int .i64 0, .int .i64 0, .int .i64 0, .bool false], .bool false]) (by simp [results, Tryz.results22, go_sem]) rfl ⟨rfl, ?_⟩
  exact balloc (Below.refl _ _) _

theorem fl_look {w : World} {L : Nat} {es : List (SK × It)} (h : MapIn skV ldV w L es) (s : SK) (cm : Bool) {W : World} (hW : W.heap[L]? = w.heap[L]?) :
    (Instr.lookup 100 (.map (some L)) (.string s.1) cm).run Tryz.prog W = .ok (if cm then .tuple #[ldV ((findM es s).getD it00), .bool (hasM es s)] else ldV ((findM es s).getD it00)) W := by
  have h1 := MapIn.look (V := ldV) (h.block hW) keysSk Tryz.underlying100 (Tryz.zeroValue60 W) cm s
  have h2 : ((findM es s).map ldV).getD (ldV it00) = ldV ((findM es s).getD it00) := by cases findM es s <;> rfl
  rw [← h2]
  exact h1
theorem isSome_has (es : List (SK × It)) (s : SK) : (findM es s).isSome = hasM es s := by
  cases h : hasM es s with
  | false => rw [findM_none h]; rfl
  | true => obtain ⟨v, hv, _⟩ := findM_some h; rw [hv]; rfl

set_option maxRecDepth 100000 in
set_option maxHeartbeats 4000000 in
theorem flLoad_any {P : Nat → Prop} {M : Nat} {c : Cfg} {rs rh n : Nat} {wd : Wd} {d : FlatD} (s : SK) (w : World) (h : FlatAt P w M c rs rh n wd d) (hl : ∀ p ∈ d.es, p.2.nd.smp.length ≤ 1000000 ∧ p.2.nd.past.length ≤ 1000000) :
    Calls Tryz.prog 22 #[.pointer (some ⟨M, 0, none⟩), .string s.1] w (LoadS w (findM d.es s)) := by
  obtain ⟨o, ho⟩ : ∃ o, o = findM d.es s := ⟨_, rfl⟩
  rw [← ho]
  have hx : LoadIn (fun b => P b ∨ False) w (o.getD it00) ∧ (o.getD it00).nd.smp.length ≤ 1000000 ∧ (o.getD it00).nd.past.length ≤ 1000000 := by
    cases hf : o with
    | none => exact ⟨⟨RowG.nil, RowG.nil⟩, by decide, by decide⟩
    | some x =>
      rw [hf] at ho
      have hm := find_mem ho.symm
      exact ⟨(h.rows _ hm).imp (fun b hb => .inl hb), (hl _ hm).1, (hl _ hm).2⟩
  have CM := Lib.hid (fun W (hW : Below w.heap.size w W) => flMade_any W (h.below hW))
  have CC := Lib.hid (fun W (hW : Below w.heap.size w W) => flCopied_any _ (o.getD it00) W (hx.1.below hW) hx.2.1 hx.2.2)
  have hlk := fun (W : World) (hW : Below w.heap.size w W) => fl_look h.map s true (hW.block d.L h.map.lt)
  rw [← ho, ← isSome_has, ← ho] at hlk
  have HC := Lib.hid h.cell
  have HLM := Lib.hid h.lt
  obtain ⟨x, hxx⟩ : ∃ x, x = o.getD it00 := ⟨_, rfl⟩
  rw [← hxx] at CC hlk
  unfold ldV ldC at CC hlk
  simp only [↓reduceIte] at hlk
  have HXX := Lib.hid hxx
  obtain ⟨ob, hob⟩ : ∃ b, b = o.isSome := ⟨_, rfl⟩
  rw [← hob] at hlk
  have HOB := Lib.hid hob.symm
  clear hob
  have HLK := Lib.hid hlk
  clear h hl hx ho hlk hxx
  go_enter Tryz.func22, Tryz.ntmps22
  go_upto_region 4 with (first
    | (go_at_call 57
       refine calls_named ?_
       intro W1 hW1
       have hb1 : Below w.heap.size w W1 := by rw [hW1]; exact balloc (Below.refl _ _) _
       have HR1 := Lib.hid (show W1.heap[w.heap.size]? = some (.cells #[.slice none 0 0, .slice none 0 0, .int .i64 0, .int .i64 0, .int .i64 0, .int .i64 0, .int .i64 0, .int .i64 0, .bool false] 60 (0, 0)) by rw [hW1]; exact heap_alloc_new _ _)
       have HB1 := Lib.hid hb1
       clear hW1 hb1
       refine (CM.out W1 HB1.out).mono ?_
       rintro e w2 ⟨rfl, rfl⟩
       obtain ⟨a1, a2, a3⟩ := box_cells HB1.out HC.out
       have hq := HLK.out w2 HB1.out))
  refine name_world ?_
  intro W3 hW3
  have hd3 : Below w2.heap.size w2 W3 := by rw [hW3]; exact balloc (Below.refl _ _) _
  have HX3 := Lib.hid (show W3.heap[w2.heap.size]? = some (.cells #[.slice x.sA x.nd.smp.length x.sc, .slice x.pA x.nd.past.length x.pc, .int .i64 x.nd.pol.mn, .int .i64 x.nd.pol.mx, .int .i64 x.nd.pol.tg, .int .i64 x.nd.pol.tol, .int .i64 x.nd.pol.win, .int .i64 x.nd.pol.hold, .bool x.nd.ruled] 60 (0, 0)) by rw [hW3]; exact heap_alloc_new _ _)
  have HR3 := Lib.hid ((hd3.block _ (Array.getElem?_eq_some_iff.1 HR1.out).1).trans HR1.out)
  have HB3 := Lib.hid (bthen HB1.out hd3)
  clear hW3 hd3 a1 a2 a3 hq
  obtain ⟨b1, b2, b3⟩ := box_cells (Below.refl _ _) HX3.out
  go_wp2_with (first
    | (go_at_call 74
       refine (CC.out W3 HB3.out).mono ?_
       rintro e w4 ⟨y, rfl, hy1, hy2, hy3, hb4⟩
       unfold ldV ldC
       have HR4 := Lib.hid ((hb4.block _ (Array.getElem?_eq_some_iff.1 HR3.out).1).trans HR3.out)
       have HB4 := Lib.hid (bthen HB3.out hb4)
       have HY1 := Lib.hid hy1
       have HY3 := Lib.hid hy3
       have HS3 := Lib.hid (show w.heap.size < W3.heap.size from (Array.getElem?_eq_some_iff.1 HR3.out).1)
       obtain ⟨r1, r2, r3⟩ := box_cells (Below.refl _ _) HR4.out
       clear hy1 hy2 hy3 hb4 b1 b2 b3))
  refine post_named ?_
  intro W9 hW9
  have hW9' : W9 = stor w4 w.heap.size 0 [.slice y.sA y.nd.smp.length y.sc, .slice y.pA y.nd.past.length y.pc, .int .i64 y.nd.pol.mn, .int .i64 y.nd.pol.mx, .int .i64 y.nd.pol.tg, .int .i64 y.nd.pol.tol, .int .i64 y.nd.pol.win, .int .i64 y.nd.pol.hold, .bool y.nd.ruled] := hW9
  obtain ⟨t1, t2, t3, t4⟩ := stor_at HR4.out [.slice y.sA y.nd.smp.length y.sc, .slice y.pA y.nd.past.length y.pc, .int .i64 y.nd.pol.mn, .int .i64 y.nd.pol.mx, .int .i64 y.nd.pol.tg, .int .i64 y.nd.pol.tol, .int .i64 y.nd.pol.win, .int .i64 y.nd.pol.hold, .bool y.nd.ruled] rfl W9 hW9'
  obtain ⟨a9, a8, a7⟩ := box_cells (Below.refl _ _) t1
  clear hW9 hW9'
  have hs3 := HS3.out
  have hk : ∀ b, W3.heap.size ≤ b → b < w4.heap.size → W9.heap[b]? = w4.heap[b]? := fun b hb _ => t2 b (by omega)
  exact bodyPost_ret (v := .tuple #[.agg #[.slice y.sA y.nd.smp.length y.sc, .slice y.pA y.nd.past.length y.pc, .int .i64 y.nd.pol.mn, .int .i64 y.nd.pol.mx, .int .i64 y.nd.pol.tg, .int .i64 y.nd.pol.tol, .int .i64 y.nd.pol.win, .int .i64 y.nd.pol.hold, .bool y.nd.ruled], .bool ob]) (by simp [results, Tryz.results22, go_sem, a9]) rfl
    ⟨y, by rw [HOB.out]; rfl, by rw [HY1.out, HXX.out], (HY3.out.kept hk).lower (by omega), HB4.out.trans (t4 _ (Nat.le_refl _))⟩
end

section
set_option linter.unusedSimpArgs false
set_option linter.unusedVariables false
open Go.RowKit Go.Lib

set_option maxRecDepth 100000 in
set_option maxHeartbeats 1000000 in
theorem satClamp_any (n lo hi : Int) (w : World) :
    Calls Tryz.prog 203 #[.int .i64 n, .int .i64 lo, .int .i64 hi] w fun e w' => e = .returned (.int .i64 (clampI n lo hi)) ∧ w = w' := by
  go_enter Tryz.func203, Tryz.ntmps203
  go_wp2
  all_goals
    go_ret
    refine ⟨ret_int ?_, rfl⟩
    unfold clampI
    repeat' split
    all_goals omega

set_option maxRecDepth 100000 in
set_option maxHeartbeats 1000000 in
theorem ctlBound_bad (p : Pol) (n : Int) (w : World) (hp : polB p = false) :
    Calls Tryz.prog 144 #[polV p, .int .i64 n] w fun e w' => e = .returned (.int .i64 0) ∧ Below w.heap.size w w' := by
  have HC := Lib.hid (policyCheck_any p)
  have HE := Lib.hid ((show polE p = 7 by unfold polE; rw [hp]; rfl))
  clear hp
  unfold polV
  unfold polV at HC
  go_enter Tryz.func144, Tryz.ntmps144
  go_wp2_with (go_at_call 103; refine (HC.out _).mono ?_; rw [HE.out]; rintro e w2 ⟨rfl, hb2⟩; have HB := Lib.hid hb2; clear hb2)
  go_ret
  exact ⟨rfl, bthen (balloc (Below.refl _ _) _) HB.out⟩

set_option maxRecDepth 100000 in
set_option maxHeartbeats 1000000 in
theorem ctlBound_ok (p : Pol) (n : Int) (w : World) (hp : polB p = true) :
    Calls Tryz.prog 144 #[polV p, .int .i64 n] w fun e w' => e = .returned (.int .i64 (clampI n p.mn p.mx)) ∧ Below w.heap.size w w' := by
  have HC := Lib.hid (policyCheck_any p)
  have HE := Lib.hid ((show polE p = 0 by unfold polE; rw [hp]; rfl))

  clear hp
  unfold polV
  unfold polV at HC
  go_enter Tryz.func144, Tryz.ntmps144
  go_wp2_with (first
    | (go_at_call 103
       refine calls_named ?_
       intro W1 hW1
       have hb1 : Below w.heap.size w W1 := by rw [hW1]; exact balloc (Below.refl _ _) _
       have hx1 : W1.heap[w.heap.size]? = some (.cells #[.int .i64 p.mn, .int .i64 p.mx, .int .i64 p.tg, .int .i64 p.tol, .int .i64 p.win, .int .i64 p.hold] 35 (0, 0)) := by rw [hW1]; exact heap_alloc_new _ _
       clear hW1
       refine (HC.out W1).mono ?_
       rw [HE.out]
       rintro e w2 ⟨rfl, hb2⟩
       have HB2 := Lib.hid (bthen hb1 hb2)
       have hx2 := (hb2.block w.heap.size (Array.getElem?_eq_some_iff.1 hx1).1).trans hx1
       obtain ⟨b1, b2, b3⟩ := box_cells (Below.refl _ _) hx2
       clear hb1 hb2 hx1 hx2)
    | (go_at_call 203
       refine (satClamp_any n p.mn p.mx _).mono ?_
       rintro e w5 ⟨rfl, rfl⟩))
  go_ret
  exact ⟨rfl, by repeat (first | exact HB2.out | refine below_drewN ?_ _ | refine Below.drew ?_)⟩

set_option maxRecDepth 100000 in
set_option maxHeartbeats 1000000 in
theorem ctlWant_bad (p : Pol) (n : Int) (w : World) (hp : polB p = false) :
    Calls Tryz.prog 140 #[polV p, .int .i64 n] w fun e w' => e = .returned (.int .i64 0) ∧ Below w.heap.size w w' := by
  have HC := Lib.hid (policyCheck_any p)
  have HE := Lib.hid ((show polE p = 7 by unfold polE; rw [hp]; rfl))
  clear hp
  unfold polV
  unfold polV at HC
  go_enter Tryz.func140, Tryz.ntmps140
  go_wp2_with (go_at_call 103; refine (HC.out _).mono ?_; rw [HE.out]; rintro e w2 ⟨rfl, hb2⟩; have HB := Lib.hid hb2; clear hb2)
  go_ret
  exact ⟨rfl, bthen (balloc (Below.refl _ _) _) HB.out⟩

set_option maxRecDepth 100000 in
set_option maxHeartbeats 1000000 in
theorem ctlWant_ok (p : Pol) (n : Int) (w : World) (hp : polB p = true) (hn : I64 n) (hq : I64 p.tg) :
    Calls Tryz.prog 140 #[polV p, .int .i64 n] w fun e w' => e = .returned (.int .i64 (ceilI (max n 0) p.tg)) ∧ Below w.heap.size w w' := by
  have HC := Lib.hid (policyCheck_any p)
  have HE := Lib.hid ((show polE p = 0 by unfold polE; rw [hp]; rfl))
  have hm : I64 (max n 0) := by unfold I64 at *; omega
  have C1 := Lib.hid (fun W => satCeil_any (max n 0) p.tg W hm hq)
  clear hn hq hm
  clear hp
  unfold polV
  unfold polV at HC
  go_enter Tryz.func140, Tryz.ntmps140
  go_wp2_with (first
    | (go_at_call 103
       refine calls_named ?_
       intro W1 hW1
       have hb1 : Below w.heap.size w W1 := by rw [hW1]; exact balloc (Below.refl _ _) _
       have hx1 : W1.heap[w.heap.size]? = some (.cells #[.int .i64 p.mn, .int .i64 p.mx, .int .i64 p.tg, .int .i64 p.tol, .int .i64 p.win, .int .i64 p.hold] 35 (0, 0)) := by rw [hW1]; exact heap_alloc_new _ _
       clear hW1
       refine (HC.out W1).mono ?_
       rw [HE.out]
       rintro e w2 ⟨rfl, hb2⟩
       have HB2 := Lib.hid (bthen hb1 hb2)
       have hx2 := (hb2.block w.heap.size (Array.getElem?_eq_some_iff.1 hx1).1).trans hx1
       obtain ⟨b1, b2, b3⟩ := box_cells (Below.refl _ _) hx2
       clear hb1 hb2 hx1 hx2)
    | (go_at_call 199
       refine (C1.out _).mono ?_
       rintro e w5 ⟨rfl, rfl⟩))
  go_ret
  exact ⟨rfl, by repeat (first | exact HB2.out | refine below_drewN ?_ _ | refine Below.drew ?_)⟩

theorem ctlBound_any (p : Pol) (n : Int) (w : World) :
    Calls Tryz.prog 144 #[polV p, .int .i64 n] w fun e w' => e = .returned (.int .i64 (boundI p n)) ∧ Below w.heap.size w w' := by
  unfold boundI
  cases hp : polB p
  · exact ctlBound_bad p n w hp
  · exact ctlBound_ok p n w hp

theorem ctlWant_any (p : Pol) (n : Int) (w : World) (hn : I64 n) (hq : I64 p.tg) :
    Calls Tryz.prog 140 #[polV p, .int .i64 n] w fun e w' => e = .returned (.int .i64 (wantP p n)) ∧ Below w.heap.size w w' := by
  unfold wantP
  cases hp : polB p
  · exact ctlWant_bad p n w hp
  · exact ctlWant_ok p n w hp hn hq
end

end Go.Proofs.YtmniiodpbebnmaaGreat
