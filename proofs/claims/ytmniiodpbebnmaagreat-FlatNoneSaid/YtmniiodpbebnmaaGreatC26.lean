/- A flat map turns; flat's Note. -/
import Derived.Test.YtmniiodpbebnmaaGreatC25
import Derived.Test.YtmniiodpbebnmaaGreatC09
import Derived.Test.YtmniiodpbebnmaaGreatC14
namespace Go.Proofs.YtmniiodpbebnmaaGreat

section
set_option linter.unusedSimpArgs false
set_option linter.unusedVariables false
open Go.RowKit Go.Lib
open Go.ChangeMaps (setBlock)

/-! ### A flat map that turns -/
theorem fl_store {w : World} {L : Nat} {es : List (SK × It)} (h : MapIn skV ldV w L es) (s : SK) (x : It) :
    ∃ o, (Instr.mapUpdate 100 (.map (some L)) (.string s.1) (ldV x)).run Tryz.prog w = .ok () (setBlock w L o) ∧ MapIn skV ldV (setBlock w L o) L (putM es s x) :=
  MapIn.store (V := ldV) h keysSk Tryz.underlying100 s x
theorem FlMem.put {P : Nat → Prop} {w w1 : World} {M : Nat} {c : Cfg} {wd : Wd} {d : FlatD} {s : SK} {x : It} {o : Obj} (h : FlMem P w M c wd d) (hb : Below w.heap.size w w1) (hm : MapIn skV ldV (setBlock w1 d.L o) d.L (putM d.es s x)) (hx : LoadIn P w1 x) :
    FlMem P (setBlock w1 d.L o) M c wd { d with es := putM d.es s x } ∧ Upd w (setBlock w1 d.L o) [M, d.L] [M, d.L] := by
  have h1 := h.below hb
  have hk : ∀ b, b ≠ d.L → (setBlock w1 d.L o).heap[b]? = w1.heap[b]? := fun b hb => setBlock_other hb
  have hsz : w1.heap.size ≤ (setBlock w1 d.L o).heap.size := by rw [setBlock_size]; exact Nat.le_refl _
  have hkP : ∀ b, P b → b < w1.heap.size → (setBlock w1 d.L o).heap[b]? = w1.heap[b]? ∧ P b := fun b hP _ => ⟨hk b (h.off b hP).2, hP⟩
  refine ⟨⟨(hk M h.ne).trans h1.cell, hm, h.ne, h.off, fun p hp => ?_, h.len, h1.row.keepG hsz hkP, fun i y q hy hq => ⟨(h1.cut i y q hy hq).1, fun hf => ?_⟩⟩, hb.os, hb.tape, hb.output, ?_, fun k hlt hn => ?_, fun k hk => .inl hk⟩
  · rcases mem_putM hp with rfl | ⟨h9, _⟩
    · exact hx.keepG hsz hkP
    · exact (h1.rows p h9).keepG hsz hkP
  · obtain ⟨h2, l, h3, h4, h5, h6, h7⟩ := (h1.cut i y q hy hq).2 hf
    exact ⟨h2, l, h3, h4, h5.block (hk l (h.off l h4).2), fun p hp => (h6 p hp).keepG hsz hkP, h7⟩
  · rw [setBlock_size]; exact hb.size
  · simp only [List.mem_cons, List.mem_nil_iff, or_false, not_or] at hn
    exact (hk k hn.2).trans (hb.block k hlt)
theorem FlMem.wd {P : Nat → Prop} {w : World} {M : Nat} {c : Cfg} {wd wd' : Wd} {d : FlatD} (h : FlMem P w M c wd d) (hc : wd'.cuts = wd.cuts) (he : wd'.ep = wd.ep) (ho : wd'.over = wd.over) : FlMem P w M c wd' d :=
  ⟨by rw [he, ho]; exact h.cell, h.map, h.ne, h.off, h.rows, by rw [hc]; exact h.len, h.row, by rw [hc]; exact h.cut⟩
/-- A flat map and what its world must be. -/
structure FW (P : Nat → Prop) (w : World) (M : Nat) (c : Cfg) (rs rh n : Nat) (wd : Wd) (d : FlatD) : Prop where
  at_ : FlatAt P w M c rs rh n wd d
  ok : WdOk c rs rh n wd
theorem FW.below {P : Nat → Prop} {w w' : World} {M : Nat} {c : Cfg} {rs rh n : Nat} {wd : Wd} {d : FlatD} (h : FW P w M c rs rh n wd d) (hb : Below w.heap.size w w') : FW P w' M c rs rh n wd d := ⟨h.at_.below hb, h.ok⟩
theorem FlatAt.any {P : Nat → Prop} {w : World} {M : Nat} {c : Cfg} {rs rh n m : Nat} {wd : Wd} {d : FlatD} (h : FlatAt P w M c rs rh n wd d) : FlatAt P w M c rs rh m wd d := ⟨h.toFlMem, h.tells⟩
theorem FW.mono {P : Nat → Prop} {w : World} {M : Nat} {c : Cfg} {rs rh n m : Nat} {wd : Wd} {d : FlatD} (h : FW P w M c rs rh n wd d) (hm : n ≤ m) : FW P w M c rs rh m wd d := ⟨h.at_.any, h.ok.mono hm⟩
def FWSays (P : Nat → Prop) (w : World) (M : Nat) (c : Cfg) (rs rh n L : Nat) (v : Value) (wd : Wd) (e : Ending) (w' : World) : Prop := ∃ d', e = .returned v ∧ FW P w' M c rs rh n wd d' ∧ d'.L = L ∧ Upd w w' [M, L] [M, L]
theorem FW.same {P : Nat → Prop} {w w' : World} {M : Nat} {c : Cfg} {rs rh n m : Nat} {wd : Wd} {d : FlatD} {v : Value} (h : FW P w M c rs rh n wd d) (hm : n ≤ m) (hb : Below w.heap.size w w') : FWSays P w M c rs rh m d.L v wd (.returned v) w' :=
  ⟨d, rfl, (h.below hb).mono hm, rfl, Upd.of_below hb _⟩
theorem CfgOk.st {c : Cfg} {rs rh : Nat} (h : CfgOk c rs rh) : okSt c.st = true := by
  have hc := h.cfg
  unfold cfgB at hc
  simp only [Bool.and_eq_true, decide_eq_true_eq] at hc
  exact hc.1
theorem FW.small {P : Nat → Prop} {w : World} {M : Nat} {c : Cfg} {rs rh n : Nat} {wd : Wd} {d : FlatD} (h : FW P w M c rs rh n wd d) (hc : CfgOk c rs rh) : ∀ p ∈ d.es, p.2.nd.smp.length ≤ 1000000 ∧ p.2.nd.past.length ≤ 1000000 := fun p hp => by
  have h1 := (h.at_.tells.it h.ok p hp).1
  have h2 := h1.len
  have h3 := h1.past
  have h4 := hc.room.r2
  have h5 := hc.room.h2
  omega
theorem own_apart {α β : Type} {e e' : TypeId} {n n' b b' : Nat} {f : α → List Value} {g : β → List Value} {w : World} {v v' : Value} {l : List α} {l' : List β} (h : OwnL f e n b w v l) (h' : OwnL g e' n' b' w v' l') (hne : e ≠ e') : ∀ r, v.ownBlock = some r → v'.ownBlock ≠ some r := by
  intro r hr hr'
  rcases h.2 with ⟨hv, _⟩ | ⟨x, cp, cur, hv, _, hx, _⟩
  · rw [hv] at hr; cases hr
  · rcases h'.2 with ⟨hv', _⟩ | ⟨y, cp', cur', hv', _, hy, _⟩
    · rw [hv'] at hr'; cases hr'
    · rw [hv] at hr
      rw [hv'] at hr'
      have e1 : x = r := by simpa [Value.ownBlock] using hr
      have e2 : y = r := by simpa [Value.ownBlock] using hr'
      rw [e1] at hx
      rw [e2, hx] at hy
      simp only [Option.some.injEq, Obj.cells.injEq] at hy
      exact hne hy.2.1

theorem RowG.ownQ {α : Type} {t e : TypeId} {n bytes : Nat} {z : Value} {f : α → List Value} (E : EltOf t e n bytes z f) {base : Nat} {w : World} {v : Value} {l : List α} {Q : Nat → Prop} (h : OwnL f e n base w v l) (hQ : ∀ r, v.ownBlock = some r → Q r) : RowG Q n f w v l :=
  ⟨h.row E, fun b o m c hv _ => hQ b (by rw [hv]; rfl)⟩

/-! ### Note -/
set_option maxRecDepth 100000 in
set_option maxHeartbeats 4000000 in
theorem flNote_none (M : Option Addr) (id : ByteArray) (av : Adv) (w : World)
    (CL : Hid (∀ W, Below w.heap.size w W → Calls Tryz.prog 22 #[.pointer M, .string id] W (LoadS W none))) :
    Calls Tryz.prog 24 #[.pointer M, .string id, .agg (advC av).toArray] w fun e w' => e = .returned (.bool false) ∧ Below w.heap.size w w' := by
  unfold LoadS at CL
  simp only [Option.isSome_none] at CL
  unfold advC
  go_enter Tryz.func24, Tryz.ntmps24
  go_wp2_with (first
    | (go_at_call 22
       refine calls_named ?_
       intro W1 hW1
       have HB1 := Lib.hid (show Below w.heap.size w W1 by rw [hW1]; exact balloc (Below.refl _ _) _)
       clear hW1
       refine (CL.out W1 HB1.out).mono ?_
       rintro e w2 ⟨y, rfl, hy1, hy3, hb2⟩
       have HB2 := Lib.hid (bthen HB1.out hb2)
       unfold ldV ldC
       clear hb2 hy3 hy1))
  go_ret
  exact ⟨rfl, balloc HB2.out _⟩

set_option maxRecDepth 100000 in
set_option maxHeartbeats 8000000 in
theorem flNote_some {P : Nat → Prop} {w : World} {M : Nat} {c : Cfg} {rs rh n : Nat} {wd : Wd} {d : FlatD} (s : SK) (av : Adv) (x0 : It) (h : FW P w M c rs rh n wd d) (hP : ∀ b, w.heap.size ≤ b → P b) (hc : CfgOk c rs rh) (hs : idS s.1 = true) (hx0 : findM d.es s = some x0) :
    Calls Tryz.prog 24 #[.pointer (some ⟨M, 0, none⟩), .string s.1, .agg (advC av).toArray] w (FWSays P w M c rs rh (n + 1) d.L (.bool true) (noteW c rs rh wd s.1 av).1) := by
  have hl := h.small hc
  have hx := (h.at_.tells.it h.ok _ (find_mem hx0)).1
  have hpl := And.intro hx.past hc.room.h1
  have hr2 := hc.room.h2
  have CL := Lib.hid (fun W (hW : Below w.heap.size w W) => flLoad_any s W (h.at_.below hW) hl)
  rw [hx0] at CL
  unfold LoadS at CL
  simp only [Option.isSome_some, Option.getD_some] at CL
  have hci := hc.hi
  have HFIN := Lib.hid (show ∀ (x : It) (W8 : World) (o : Obj), x.nd = noteF rh x0.nd av → Below w.heap.size w W8 → MapIn skV ldV (setBlock W8 d.L o) d.L (putM d.es s x) → LoadIn P W8 x →
      ∃ d', FW P (setBlock W8 d.L o) M c rs rh (n + 1) (noteW c rs rh wd s.1 av).1 d' ∧ d'.L = d.L ∧ Upd w (setBlock W8 d.L o) [M, d.L] [M, d.L] from fun x W8 o hn hb hm hi => by
    obtain ⟨h1, h2⟩ := h.at_.toFlMem.put hb hm hi
    have hn2 := h.at_.tells.note (rs := rs) hc.st s hs av x0 hx0 x hn
    refine ⟨_, ⟨⟨h1.wd ?_ ?_ ?_, hn2.2⟩, ?_⟩, rfl, h2⟩
    · unfold noteW; split <;> rfl
    · unfold noteW; split <;> rfl
    · unfold noteW; split <;> rfl
    · have hcb := hc.cfg
      unfold cfgB at hcb
      simp only [Bool.and_eq_true, decide_eq_true_eq] at hcb
      exact noteW_ok h.ok (by omega) hc.room.h1)
  have HMP := Lib.hid (show ∀ W, Below w.heap.size w W → MapIn skV ldV W d.L d.es from fun W hW => h.at_.map.below hW)
  have hcell := h.at_.cell
  rw [hci] at hcell
  have HC := Lib.hid hcell
  have HP := Lib.hid hP
  have HPL := Lib.hid hpl
  have HLT := Lib.hid (And.intro h.at_.lt h.at_.map.lt)
  generalize (noteW c rs rh wd s.1 av).1 = wd9 at HFIN ⊢
  unfold advC
  clear h hl hx hP hc hs hx0 hcell hci hpl
  go_enter Tryz.func24, Tryz.ntmps24
  go_upto_region 2 with (first
    | (go_at_call 22
       refine calls_named ?_
       intro W1 hW1
       have hb1 : Below w.heap.size w W1 := by rw [hW1]; exact balloc (Below.refl _ _) _
       have HR1 := Lib.hid (show W1.heap[w.heap.size]? = some (.cells #[.int .i64 av.tick, .int .i64 av.load, .int .i64 av.want, .int .i64 av.repl, .int .i64 av.why] 44 (0, 0)) by rw [hW1]; exact heap_alloc_new _ _)
       have HS1 := Lib.hid (show W1.heap.size = w.heap.size + 1 by rw [hW1]; simp)
       have HB1 := Lib.hid hb1
       clear hW1 hb1
       refine (CL.out W1 HB1.out).mono ?_
       rintro e w2 ⟨y, rfl, hy1, hy3, hb2⟩
       have HA2 := Lib.hid ((hb2.block _ (Array.getElem?_eq_some_iff.1 HR1.out).1).trans HR1.out)
       have HB2 := Lib.hid (bthen HB1.out hb2)
       have HY1 := Lib.hid hy1
       have HY3 := Lib.hid hy3
       have HS2 := Lib.hid hb2.size
       unfold ldV ldC
       clear hb2 hy3 hy1))
  refine name_world ?_
  intro W3 hW3
  have hd3 : Below w2.heap.size w2 W3 := by rw [hW3]; exact balloc (Below.refl _ _) _
  have HX3 := Lib.hid (show W3.heap[w2.heap.size]? = some (.cells #[.slice y.sA y.nd.smp.length y.sc, .slice y.pA y.nd.past.length y.pc, .int .i64 y.nd.pol.mn, .int .i64 y.nd.pol.mx, .int .i64 y.nd.pol.tg, .int .i64 y.nd.pol.tol, .int .i64 y.nd.pol.win, .int .i64 y.nd.pol.hold, .bool y.nd.ruled] 60 (0, 0)) by rw [hW3]; exact heap_alloc_new _ _)
  have HS3 := Lib.hid (show W3.heap.size = w2.heap.size + 1 by rw [hW3]; simp)
  have HA3 := Lib.hid ((hd3.block _ (Array.getElem?_eq_some_iff.1 HA2.out).1).trans HA2.out)
  have HB3 := Lib.hid (bthen HB2.out hd3)
  have HY4 := Lib.hid (HY3.out.below hd3)
  clear hW3 hd3
  obtain ⟨b1, b2, b3⟩ := box_cells (Below.refl _ _) HX3.out
  obtain ⟨a1, a2, a3⟩ := box_cells (Below.refl _ _) HA3.out
  have HAP := Lib.hid (own_apart HY4.out.1 HY4.out.2 (show (111 : TypeId) ≠ 44 by decide))
  have HY5 := Lib.hid (HY4.out.1.below (balloc (Below.refl W3.heap.size W3) (.cells #[.int .i64 av.tick, .int .i64 av.load, .int .i64 av.want, .int .i64 av.repl, .int .i64 av.why] 44)))
  have HPY := Lib.hid (show y.nd.past.length ≤ 64 by rw [HY1.out]; have := HPL.out.1; omega)
  go_upto_region 5 with (first
    | (at_builtin
       refine wpList_appendL eAdv (by rfl) (by rfl) W1.heap.size y.nd.past [av] (.slice y.pA y.nd.past.length y.pc) _ (by rfl) (by rfl) (HY4.out.2.below (balloc (Below.refl _ _) _)) (RowIn.lit W3 av _ _ _ rfl rfl) (by have := HPY.out; simp; omega) (by have := HS2.out; have := HS3.out; simp; omega) ?_
       intro out A5 c5 w5 hout hown hg hor
       have HX5 := Lib.hid ((hg.block w2.heap.size (by have := HS3.out; simp; omega) (fun e => by have := (HY3.out.2.lt e.symm).2; omega)).trans ((Below.heap_alloc _ _ _ (by have := HS3.out; omega)).trans HX3.out))
       have HB5 := Lib.hid ((balloc HB3.out _).trans (grown_own hg (HY4.out.2.lower (base' := w.heap.size) (by have := HS1.out; omega)) (by have := HB3.out.size; simp; omega)))
       have HSM5 := Lib.hid (HY5.out.kept (fun r hr => hg.block r (HY5.out.lt hr).2 (fun e => HAP.out r hr e.symm)))
       have HO5 := Lib.hid hown
       have HE5 := Lib.hid hout
       have HN5 := Lib.hid (show ∀ r, (Value.slice A5 out.length c5).ownBlock = some r → r ≠ w2.heap.size from fun r hr e => by
         rcases hor with h9 | h9
         · rw [h9] at hr; have := (HY3.out.2.lt hr).2; omega
         · rw [h9] at hr; injection hr with hr; have := HS3.out; simp at hr; omega)
       obtain ⟨x1, x2, x3⟩ := box_cells (Below.refl _ _) HX5.out
       clear hg hown hout hor b1 b2 b3 a1 a2 a3))
  refine name_world ?_
  intro W6 hW6
  have HX6 := Lib.hid (show W6.heap[w2.heap.size]? = some (.cells #[.slice y.sA y.nd.smp.length y.sc, .slice A5 out.length c5, .int .i64 y.nd.pol.mn, .int .i64 y.nd.pol.mx, .int .i64 y.nd.pol.tg, .int .i64 y.nd.pol.tol, .int .i64 y.nd.pol.win, .int .i64 y.nd.pol.hold, .bool y.nd.ruled] 60 (0, 0)) by rw [hW6]; exact setCell_block HX5.out)
  have HB6 := Lib.hid (show Below w.heap.size w W6 by rw [hW6]; exact Below.setCell HB5.out (by have := HB2.out.size; exact this) _)
  have HO6 := Lib.hid (show OwnL advC 44 5 W1.heap.size W6 (.slice A5 out.length c5) out from HO5.out.kept (fun r hr => by rw [hW6]; exact heap_set_ne rfl (HN5.out r hr)))
  have HSM6 := Lib.hid (show OwnL smpC 111 2 W1.heap.size W6 (.slice y.sA y.nd.smp.length y.sc) y.nd.smp from HSM5.out.kept (fun r hr => by rw [hW6]; exact heap_set_ne rfl (by have := (HY3.out.1.lt hr).2; omega)))
  clear hW6 x1 x2 x3
  have hlen5 : out.length = y.nd.past.length + 1 := by rw [HE5.out]; simp
  have HL5 := Lib.hid hlen5
  obtain ⟨ol, hol⟩ : ∃ k, k = out.length := ⟨_, rfl⟩
  have HOL := Lib.hid hol
  rw [← hol] at HX6
  obtain ⟨b1, b2, b3⟩ := box_cells (Below.refl _ _) HX6.out
  obtain ⟨m1, m2, m3⟩ := box_cells HB6.out HC.out
  have hend : ∀ (W8 : World) (past' : List Adv) (A : Option Addr) (cc : Nat), past' = pushL x0.nd.past rh av → Below w.heap.size w W8 → RowG (fun b => W1.heap.size ≤ b) 5 advC W8 (.slice A past'.length cc) past' → RowG (fun b => W1.heap.size ≤ b) 2 smpC W8 (.slice y.sA y.nd.smp.length y.sc) y.nd.smp →
      ∃ x : It, x.nd = noteF rh x0.nd av ∧ LoadIn P W8 x ∧ ldC x = [.slice y.sA y.nd.smp.length y.sc, .slice A past'.length cc, .int .i64 y.nd.pol.mn, .int .i64 y.nd.pol.mx, .int .i64 y.nd.pol.tg, .int .i64 y.nd.pol.tol, .int .i64 y.nd.pol.win, .int .i64 y.nd.pol.hold, .bool y.nd.ruled] := fun W8 past' A cc hp hb hr1 hr2 => by
    have hs1 := HS1.out
    exact ⟨⟨y.key, y.sA, y.sc, A, cc, { y.nd with past := past' }⟩, by unfold noteF; rw [hp, HY1.out], ⟨hr2.imp (fun b hb => HP.out b (by omega)), hr1.imp (fun b hb => HP.out b (by omega))⟩, rfl⟩
  have HEND := Lib.hid hend
  clear hend hlen5 hol
  by_cases hcmp : (rh : Int) < (ol : Int)
  · obtain ⟨m, A4, c4, hm, hA, hrun, hrow⟩ := row_from2 eAdv (HO6.out.row eAdv) 1 (by have := HL5.out; omega)
    rw [HOL.out.symm] at hrun
    simp only [show ((1 : Nat) : Int) = 1 from rfl] at hrun
    have hrow6 : RowG (fun b => W1.heap.size ≤ b ∧ b ≠ w2.heap.size) 5 advC W6 (.slice A4 m.length c4) m := RowG.part (RowG.ownQ eAdv HO6.out (fun r hr => ⟨(HO6.out.lt hr).1, HN5.out r hr⟩)) hA (by rw [hm]; simp) hrow
    have HM := Lib.hid hm
    have HRW := Lib.hid hrow6
    clear hm hrow hA hrow6
    go_region
    refine then_named ?_
    intro W7 hW7
    have HB7 := Lib.hid (show Below w.heap.size w W7 by rw [hW7]; exact HB6.out.drew)
    have hb67 : Below W6.heap.size W6 W7 := by rw [hW7]; exact (Below.refl _ _).drew
    have HX7 := Lib.hid ((hb67.block _ (Array.getElem?_eq_some_iff.1 HX6.out).1).trans HX6.out)
    have HSM7 := Lib.hid (HSM6.out.below hb67)
    have HO7 := Lib.hid (HO6.out.below hb67)
    have HB67 := Lib.hid hb67
    have HN6 := Lib.hid (show ∀ r, (Value.slice A5 out.length c5).ownBlock = some r → r ≠ w2.heap.size from HN5.out)
    clear hb67 hW7 b1 b2 b3 m1 m2 m3
    obtain ⟨b1, b2, b3⟩ := box_cells (Below.refl _ _) HX7.out
    go_upto_region 7 with fail
    refine name_world ?_
    intro W8 hW8
    have HX8 := Lib.hid (show W8.heap[w2.heap.size]? = some (.cells #[.slice y.sA y.nd.smp.length y.sc, .slice A4 m.length c4, .int .i64 y.nd.pol.mn, .int .i64 y.nd.pol.mx, .int .i64 y.nd.pol.tg, .int .i64 y.nd.pol.tol, .int .i64 y.nd.pol.win, .int .i64 y.nd.pol.hold, .bool y.nd.ruled] 60 (0, 0)) by rw [hW8]; exact setCell_block HX7.out)
    have HB8 := Lib.hid (show Below w.heap.size w W8 by rw [hW8]; exact Below.setCell HB7.out (by have := HB2.out.size; exact this) _)
    have hr8 : RowG (fun b => W1.heap.size ≤ b) 5 advC W8 (.slice A4 m.length c4) m := HRW.out.keepG (by rw [hW8]; exact Nat.le_trans HB67.out.size (Nat.le_of_eq (by simp [World.setCell]))) (fun b hb hlt => ⟨by rw [hW8]; exact (heap_set_ne rfl hb.2).trans (HB67.out.block b hlt), hb.1⟩)
    have hs8 : OwnL smpC 111 2 W1.heap.size W8 (.slice y.sA y.nd.smp.length y.sc) y.nd.smp := HSM7.out.kept (fun r hr => by rw [hW8]; exact heap_set_ne rfl (by have := (HY3.out.1.lt hr).2; omega))
    have hm8 : m = pushL x0.nd.past rh av := by
      have h1 := HL5.out
      have h2 := HOL.out
      have h3 := HPL.out
      rw [HM.out, HE5.out, HY1.out]
      rw [HY1.out] at h1
      unfold pushL
      rw [if_neg (by omega)]
      cases hx : x0.nd.past with
      | nil => rw [hx] at h1; simp at h1; omega
      | cons a l => simp
    obtain ⟨x, hx1, hx2, hx3⟩ := HEND.out W8 m A4 c4 hm8 HB8.out hr8 (RowG.own eSmp hs8)
    obtain ⟨o9, hs9, hm9⟩ := fl_store (HMP.out W8.drew HB8.out.drew) s x
    clear hW8 b1 b2 b3 hr8 hs8 hm8
    have hs9' : (Instr.mapUpdate 100 (.map (some d.L)) (.string s.1) (.agg #[.slice y.sA y.nd.smp.length y.sc, .slice A4 m.length c4, .int .i64 y.nd.pol.mn, .int .i64 y.nd.pol.mx, .int .i64 y.nd.pol.tg, .int .i64 y.nd.pol.tol, .int .i64 y.nd.pol.win, .int .i64 y.nd.pol.hold, .bool y.nd.ruled])).run Tryz.prog W8.drew = .ok () (setBlock W8.drew d.L o9) := by
      unfold ldV at hs9
      rw [hx3] at hs9
      exact hs9
    obtain ⟨d9, hd1, hd2, hd3⟩ := HFIN.out x W8.drew o9 hx1 HB8.out.drew hm9 (hx2.below (Below.refl _ _).drew)
    have HD1 := Lib.hid hd1
    have HD2 := Lib.hid hd2
    have HD3 := Lib.hid hd3
    clear hs9 hx1 hx2 hx3 hm9 hd1 hd2 hd3
    obtain ⟨b1, b2, b3⟩ := box_cells (Below.refl _ _) HX8.out
    obtain ⟨m1, m2, m3⟩ := box_cells HB8.out HC.out
    go_region
    go_wp2_with fail
    go_ret
    unfold FWSays
    exact ⟨d9, rfl, HD1.out, HD2.out, HD3.out⟩
  · go_region
    refine then_named ?_
    intro W7 hW7
    have HB7 := Lib.hid (show Below w.heap.size w W7 by rw [hW7]; exact HB6.out.drew)
    have hb67 : Below W6.heap.size W6 W7 := by rw [hW7]; exact (Below.refl _ _).drew
    have HX7 := Lib.hid ((hb67.block _ (Array.getElem?_eq_some_iff.1 HX6.out).1).trans HX6.out)
    have HSM7 := Lib.hid (HSM6.out.below hb67)
    have HO7 := Lib.hid (HO6.out.below hb67)
    have HB67 := Lib.hid hb67
    have HN6 := Lib.hid (show ∀ r, (Value.slice A5 out.length c5).ownBlock = some r → r ≠ w2.heap.size from HN5.out)
    clear hb67 hW7 b1 b2 b3 m1 m2 m3
    obtain ⟨b1, b2, b3⟩ := box_cells (Below.refl _ _) HX7.out
    go_upto_region 7 with fail
    refine name_world ?_
    intro W8 hW8
    subst hW8
    have HX8 := HX7
    have HB8 := HB7
    have hm8 : out = pushL x0.nd.past rh av := by
      have h1 := HL5.out
      have h2 := HOL.out
      have h3 := HPL.out
      rw [HY1.out] at h1
      rw [HE5.out, HY1.out]
      unfold pushL
      rw [if_pos (by omega)]
    obtain ⟨x, hx1, hx2, hx3⟩ := HEND.out W8 out A5 c5 hm8 HB8.out (RowG.own eAdv HO7.out) (RowG.own eSmp HSM7.out)
    rw [HOL.out.symm] at hx3
    obtain ⟨o9, hs9, hm9⟩ := fl_store (HMP.out W8.drew HB8.out.drew) s x
    clear b1 b2 b3 hm8
    have hs9' : (Instr.mapUpdate 100 (.map (some d.L)) (.string s.1) (.agg #[.slice y.sA y.nd.smp.length y.sc, .slice A5 ol c5, .int .i64 y.nd.pol.mn, .int .i64 y.nd.pol.mx, .int .i64 y.nd.pol.tg, .int .i64 y.nd.pol.tol, .int .i64 y.nd.pol.win, .int .i64 y.nd.pol.hold, .bool y.nd.ruled])).run Tryz.prog W8.drew = .ok () (setBlock W8.drew d.L o9) := by
      unfold ldV at hs9
      rw [hx3] at hs9
      exact hs9
    obtain ⟨d9, hd1, hd2, hd3⟩ := HFIN.out x W8.drew o9 hx1 HB8.out.drew hm9 (hx2.below (Below.refl _ _).drew)
    have HD1 := Lib.hid hd1
    have HD2 := Lib.hid hd2
    have HD3 := Lib.hid hd3
    clear hs9 hx1 hx2 hx3 hm9 hd1 hd2 hd3
    obtain ⟨b1, b2, b3⟩ := box_cells (Below.refl _ _) HX8.out
    obtain ⟨m1, m2, m3⟩ := box_cells HB8.out HC.out
    go_region
    go_wp2_with fail
    go_ret
    unfold FWSays
    exact ⟨d9, rfl, HD1.out, HD2.out, HD3.out⟩
end

end Go.Proofs.YtmniiodpbebnmaaGreat
