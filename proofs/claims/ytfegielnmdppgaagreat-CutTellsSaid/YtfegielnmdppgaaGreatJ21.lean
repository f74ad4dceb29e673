/- The reference's Do of a workload: all kinds in one; The reference's Do of a stripe's items. -/
import Derived.Test.YtfegielnmdppgaaGreatJ20
import Derived.Deep.DeepCutAuto
namespace Go.Proofs.YtfegielnmdppgaaGreat

section
set_option linter.unusedSimpArgs false
set_option linter.unusedVariables false
open Go.RowKit Go.Lib Go.Sort

/-- What a load must be. -/
structure NdOk (rs rh : Nat) (x : Nd) : Prop where
  ris : risingS x.smp
  len : x.smp.length ≤ rs
  past : x.past.length ≤ rh
structure RoomOk (c : Cfg) (rs rh : Nat) : Prop where
  sa : c.sa = (rs : Nat)
  hi : c.hi = (rh : Nat)
  r1 : 1 ≤ rs
  r2 : rs ≤ 256
  h1 : 1 ≤ rh
  h2 : rh ≤ 64
theorem r17_any (P : Nat → Prop) (c : Cfg) (rs rh : Nat) (x : It) (a : Act17) (w : World) (hP : ∀ b, w.heap.size ≤ b → P b) (hx : LoadIn P w x) (hc : RoomOk c rs rh) (hn : NdOk rs rh x.nd) (hv : x.nd.ver ≤ 1000000) :
    Calls Tryz.prog 110 #[cfgV c, .agg (loadC x).toArray, .agg (act17C a).toArray] w (Do17Says P w x.key (do17 rs rh x.nd a).1 (do17 rs rh x.nd a).2.1 (do17 rs rh x.nd a).2.2) := by
  unfold do17 cfgV
  by_cases h0 : a.kind = 0
  · rw [if_pos h0]
    by_cases h1 : serE a.smp.1 a.smp.2 = 0
    · rw [if_pos h1]
      exact r17_good0 P c rs rh x a w hP hx hc.sa hc.hi hn.ris hn.len hn.past hc.r1 hc.r2 hc.h1 hc.h2 hv h0 h1
    · rw [if_neg h1]
      exact r17_bad0 P c rs rh x a w hP hx hc.sa hc.hi hn.ris hn.len hn.past hc.r1 hc.r2 hc.h1 hc.h2 hv h0 h1
  rw [if_neg h0]
  by_cases h1 : a.kind = 1
  · rw [if_pos h1]
    by_cases h2 : placeS x.nd.smp a.smp.1 = 0
    · rw [if_pos h2]
      exact r17_none1 P c rs rh x a w hP hx hc.sa hc.hi hn.ris hn.len hn.past hc.r1 hc.r2 hc.h1 hc.h2 hv h1 h2
    · rw [if_neg h2]
      exact r17_some1 P c rs rh x a w hP hx hc.sa hc.hi hn.ris hn.len hn.past hc.r1 hc.r2 hc.h1 hc.h2 hv h1 (by omega)
  rw [if_neg h1]
  by_cases h2 : a.kind = 2
  · rw [if_pos h2]
    cases h3 : polB a.pol with
    | true =>
      rw [if_pos rfl]
      exact r17_good2 P c rs rh x a w hP hx hc.sa hc.hi hn.ris hn.len hn.past hc.r1 hc.r2 hc.h1 hc.h2 hv h2 h3
    | false =>
      rw [if_neg (by simp)]
      exact r17_bad2 P c rs rh x a w hP hx hc.sa hc.hi hn.ris hn.len hn.past hc.r1 hc.r2 hc.h1 hc.h2 hv h2 h3
  rw [if_neg h2]
  by_cases h3 : a.kind = 3
  · rw [if_pos h3]
    exact r17_good3 P c rs rh x a w hP hx hc.sa hc.hi hn.ris hn.len hn.past hc.r1 hc.r2 hc.h1 hc.h2 hv h3
  · rw [if_neg h3]
    exact r17_other P c rs rh x a w hP hx hc.sa hc.hi hn.ris hn.len hn.past hc.r1 hc.r2 hc.h1 hc.h2 hv h0 h1 h2 h3
end

section
set_option linter.unusedSimpArgs false
set_option linter.unusedVariables false
open Go.RowKit Go.Lib Go.Sort

def absI (x : It) : Ky × Nd := (x.key, x.nd)
def Do18Says (P : Nat → Prop) (w : World) (l' : List (Ky × Nd)) (e1 n more : Int) (e : Ending) (w' : World) : Prop :=
  ∃ out A c, e = .returned (.tuple #[.slice A out.length c, .int .i64 e1, .int .i64 n, .int .i64 more]) ∧ ItemsIn P w' (.slice A out.length c) out ∧ out.map absI = l' ∧ Below w.heap.size w w'
theorem Do18Says.same {P : Nat → Prop} {w w' : World} {l : List It} {A : Option Addr} {c : Nat} (h : ItemsIn P w (.slice A l.length c) l) (hb : Below w.heap.size w w') (e1 n more : Int) : Do18Says P w (l.map absI) e1 n more (.returned (.tuple #[.slice A l.length c, .int .i64 e1, .int .i64 n, .int .i64 more])) w' :=
  ⟨l, A, c, rfl, h.below hb, rfl, hb⟩
def act18C (k : Ky) (a : Act17) : List Value := [.int .u64 k.1, .int .u64 k.2, .int .i64 a.kind, .int .i64 a.smp.1, .int .i64 a.smp.2, .int .i64 a.pol.mn, .int .i64 a.pol.mx, .int .i64 a.pol.tg, .int .i64 a.pol.tol, .int .i64 a.pol.win, .int .i64 a.pol.hold, .int .i64 a.adv.tick, .int .i64 a.adv.load, .int .i64 a.adv.want, .int .i64 a.adv.repl, .int .i64 a.adv.why]

set_option maxRecDepth 100000 in
set_option maxHeartbeats 8000000 in
theorem r18_other (P : Nat → Prop) (c : Cfg) (v : Value) (l : List It) (k : Ky) (a : Act17) (w : World) (hx : ItemsIn P w v l) (h0 : a.kind < 0 ∨ 3 < a.kind) :
    Calls Tryz.prog 50 #[cfgV c, v, .agg (act18C k a).toArray] w (Do18Says P w (l.map absI) 0 0 0) := by
  rw [show (act18C k a).toArray = #[.int .u64 k.1, .int .u64 k.2, .int .i64 a.kind, .int .i64 a.smp.1, .int .i64 a.smp.2, .int .i64 a.pol.mn, .int .i64 a.pol.mx, .int .i64 a.pol.tg, .int .i64 a.pol.tol, .int .i64 a.pol.win, .int .i64 a.pol.hold, .int .i64 a.adv.tick, .int .i64 a.adv.load, .int .i64 a.adv.want, .int .i64 a.adv.repl, .int .i64 a.adv.why] from rfl]
  obtain ⟨A, cc, rfl⟩ := hx.1.1.form
  have HE := Lib.hid (fun w' => Do18Says.same (w' := w') hx)
  clear hx
  unfold cfgV
  have q1 : (a.kind == 1) = false := by rw [beq_eq_false_iff_ne]; omega
  by_cases h1 : a.kind < 0
  · clear h0
    go_enter Tryz.func50, Tryz.ntmps50
    go_wp2
    exact bodyPost_ret (v := .tuple #[.slice A l.length cc, .int .i64 0, .int .i64 0, .int .i64 0]) (by simp [results, Tryz.results50, go_sem]) rfl (HE.out _ (balloc (balloc (Below.refl _ _) _) _) 0 0 0)
  · have h2 : 3 < a.kind := by omega
    clear h0
    go_enter Tryz.func50, Tryz.ntmps50
    go_wp2
    exact bodyPost_ret (v := .tuple #[.slice A l.length cc, .int .i64 0, .int .i64 0, .int .i64 0]) (by simp [results, Tryz.results50, go_sem]) rfl (HE.out _ (balloc (balloc (Below.refl _ _) _) _) 0 0 0)

set_option maxRecDepth 100000 in
set_option maxHeartbeats 8000000 in
theorem r18_trim (P : Nat → Prop) (c : Cfg) (v : Value) (l : List It) (l' : List (Ky × Nd)) (n more : Int) (k : Ky) (a : Act17) (w : World) (h0 : a.kind = 1)
    (hT : ∀ W, Below w.heap.size w W → Calls Tryz.prog 109 #[cfgV c, v, .int .i64 a.smp.1] W fun e w' => ∃ out A cc, e = .returned (.tuple #[.slice A out.length cc, .int .i64 n, .int .i64 more]) ∧ ItemsIn P w' (.slice A out.length cc) out ∧ out.map absI = l' ∧ Below W.heap.size W w') :
    Calls Tryz.prog 50 #[cfgV c, v, .agg (act18C k a).toArray] w (Do18Says P w l' 0 n more) := by
  rw [show (act18C k a).toArray = #[.int .u64 k.1, .int .u64 k.2, .int .i64 a.kind, .int .i64 a.smp.1, .int .i64 a.smp.2, .int .i64 a.pol.mn, .int .i64 a.pol.mx, .int .i64 a.pol.tg, .int .i64 a.pol.tol, .int .i64 a.pol.win, .int .i64 a.pol.hold, .int .i64 a.adv.tick, .int .i64 a.adv.load, .int .i64 a.adv.want, .int .i64 a.adv.repl, .int .i64 a.adv.why] from rfl]
  have HT := Lib.hid hT
  unfold cfgV
  unfold cfgV at HT
  have q1 : (a.kind == 1) = true := by rw [h0]; rfl
  clear hT h0
  go_enter Tryz.func50, Tryz.ntmps50
  go_wp2_with (first
    | (go_at_call 109
       refine calls_named ?_
       intro W1 hW1
       have hb1 : Below w.heap.size w W1 := by rw [hW1]; exact balloc (balloc (Below.refl _ _) _) _
       clear hW1
       refine (HT.out W1 hb1).mono ?_
       rintro e w2 ⟨out, A, cc, rfl, h1, h2, h3⟩
       have HI := Lib.hid h1
       have HA := Lib.hid h2
       have HB := Lib.hid (bthen hb1 h3)
       clear h1 h2 h3 hb1))
  exact bodyPost_ret (v := .tuple #[.slice A out.length cc, .int .i64 0, .int .i64 n, .int .i64 more]) (by simp [results, Tryz.results50, go_sem]) rfl ⟨out, A, cc, rfl, HI.out, HA.out, HB.out⟩
end

end Go.Proofs.YtfegielnmdppgaaGreat
