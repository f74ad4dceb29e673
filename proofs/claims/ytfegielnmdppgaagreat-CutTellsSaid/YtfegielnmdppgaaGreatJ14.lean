/- The reference's chapters 8, 12, 14: Right; Put and Trim of samples; Put of decisions. -/
import Derived.Test.YtfegielnmdppgaaGreatJ13
namespace Go.Proofs.YtfegielnmdppgaaGreat

section
set_option linter.unusedSimpArgs false
set_option linter.unusedVariables false
open Go.RowKit Go.Lib Go.Sort

/-- A row whose block may be. -/
def RowG {α : Type} (P : Nat → Prop) (n : Nat) (f : α → List Value) (w : World) (v : Value) (l : List α) : Prop :=
  RowIn n f w v l ∧ ∀ b o m c, v = .slice (some ⟨b, o, none⟩) m c → 0 < l.length → P b
theorem RowG.below {α : Type} {P : Nat → Prop} {n : Nat} {f : α → List Value} {w w' : World} {v : Value} {l : List α} (h : RowG P n f w v l) (hb : Below w.heap.size w w') : RowG P n f w' v l := ⟨h.1.below hb, h.2⟩
theorem RowG.imp {α : Type} {P Q : Nat → Prop} {n : Nat} {f : α → List Value} {w : World} {v : Value} {l : List α} (h : RowG P n f w v l) (hi : ∀ b, P b → Q b) : RowG Q n f w v l := ⟨h.1, fun b o m c e hn => hi b (h.2 b o m c e hn)⟩
theorem RowG.nil {α : Type} {P : Nat → Prop} {n : Nat} {f : α → List Value} {w : World} {A : Option Addr} {c : Nat} : RowG P n f w (.slice A 0 c) ([] : List α) := ⟨RowIn.nil, fun _ _ _ _ _ h => absurd h (Nat.lt_irrefl _)⟩
/-- What a call of the reference gives: a row of its own. -/
def RSays {α : Type} (n : Nat) (f : α → List Value) (w : World) (l : List α) (e : Ending) (w' : World) : Prop :=
  ∃ A c, e = .returned (.slice A l.length c) ∧ RowG (fun b => w.heap.size ≤ b) n f w' (.slice A l.length c) l ∧ Below w.heap.size w w'
theorem RowG.own {α : Type} {t e : TypeId} {n bytes : Nat} {z : Value} {f : α → List Value} (E : EltOf t e n bytes z f) {base : Nat} {w : World} {v : Value} {l : List α} (h : OwnL f e n base w v l) : RowG (fun b => base ≤ b) n f w v l := by
  refine ⟨h.row E, fun b o m c e hn => ?_⟩
  rcases h.2 with ⟨_, h0⟩ | ⟨g, cap, cur, hv', hg, _⟩
  · omega
  · rw [e] at hv'
    injection hv' with e1 _ _
    injection e1 with e1
    injection e1 with e1
    omega
theorem RowG.part {α : Type} {P : Nat → Prop} {n : Nat} {f : α → List Value} {w : World} {A A2 : Option Addr} {m c c2 : Nat} {l l2 : List α} (h : RowG P n f w (.slice A m c) l) (hA : 0 < l.length → ∀ b o, A2 = some ⟨b, o, none⟩ → ∃ o', A = some ⟨b, o', none⟩) (hl : l2.length ≤ l.length) (h2 : RowIn n f w (.slice A2 l2.length c2) l2) : RowG P n f w (.slice A2 l2.length c2) l2 := by
  refine ⟨h2, fun b o m' c' e hn => ?_⟩
  injection e with e1 _ _
  obtain ⟨o', ho⟩ := hA (by omega) b o e1
  exact h.2 b o' m c (by rw [ho]) (by omega)

theorem row_from2 {α : Type} {t e : TypeId} {n bytes : Nat} {z : Value} {f : α → List Value} (E : EltOf t e n bytes z f) {w : World} {A : Option Addr} {c : Nat} {l : List α} (h : RowIn n f w (.slice A l.length c) l) (a : Nat) (ha : a ≤ l.length) :
    ∃ (m : List α) (A2 : Option Addr) (c2 : Nat), m = l.drop a ∧ (0 < l.length → ∀ b o, A2 = some ⟨b, o, none⟩ → ∃ o', A = some ⟨b, o', none⟩) ∧ (∀ w' : World, (Instr.sliceAt t (.slice A l.length c) (some (.int .i64 a)) none none).run Tryz.prog w' = .ok (.slice A2 m.length c2) w') ∧ RowIn n f w (.slice A2 m.length c2) m := by
  obtain ⟨i0, hi0, hz0, hz1, hz2⟩ := info_parts E.hi
  have hp := RowIn.part h (i := a) (j := l.length) ha (Nat.le_refl _)
  rw [List.take_length] at hp
  have hlen : (l.drop a).length = l.length - a := by simp
  have hel : Tryz.prog.elem t = e := by simp [Program.elem, E.ht]
  refine ⟨l.drop a, _, _, rfl, ?_, fun w' => ?_, by rw [hlen]; exact hp⟩
  · intro hn b o hb
    obtain ⟨A1, c1, hv, _, hr⟩ := h
    injection hv with e1 _ _
    subst e1
    obtain ⟨b1, o1, rfl, _⟩ := hr hn
    split at hb
    · exact ⟨o, hb⟩
    · rw [Option.map_some, add_at] at hb
      injection hb with hb
      injection hb with hb
      exact ⟨o1, by rw [hb]⟩
  rw [run_sliceAt_slice _ t _ _ _ _ (by rw [hel]; exact E.ht), run_slice_l _ t A l.length c (by rw [hel]; exact E.ht) _ _ (by omega) (by omega), hel]
  simp [sizeOf, typeInfo, hi0, hz1, Result.andThen, sliced, hlen]

set_option maxRecDepth 100000 in
theorem r8right_any (t v : Int) (w : World) :
    Calls Tryz.prog 90 #[.int .i64 t, .int .i64 v] w fun e w' => e = .returned (.int .i64 (serE t v)) ∧ w' = w := by
  unfold serE
  by_cases h1 : t < 0
  · rw [if_pos h1]
    go_enter Tryz.func90, Tryz.ntmps90
    go_wp2
    go_ret
    exact ⟨rfl, rfl⟩
  · rw [if_neg h1]
    by_cases h2 : v < 0
    · rw [if_pos h2]
      go_enter Tryz.func90, Tryz.ntmps90
      go_wp2
      go_ret
      exact ⟨rfl, rfl⟩
    · rw [if_neg h2]
      go_enter Tryz.func90, Tryz.ntmps90
      go_wp2
      go_ret
      exact ⟨rfl, rfl⟩

set_option maxRecDepth 100000 in
set_option maxHeartbeats 4000000 in
theorem r14put_any (v : Value) (l : List Adv) (room : Nat) (x : Adv) (w : World) (hv : RowIn 5 advC w v l) (hl : l.length ≤ room) (h1 : 1 ≤ room) (hr : room ≤ 1000000) :
    Calls Tryz.prog 165 #[v, .int .i64 (room : Nat), .agg (advC x).toArray] w (RSays 5 advC w (pushL l room x)) := by
  obtain ⟨A, c, rfl⟩ := hv.form
  have HV := Lib.hid hv
  clear hv
  rw [show (advC x).toArray = #[.int .i64 x.tick, .int .i64 x.load, .int .i64 x.want, .int .i64 x.repl, .int .i64 x.why] from rfl]
  go_enter Tryz.func165, Tryz.ntmps165
  go_wp2_with (first
    | (at_builtin; refine wpList_appendL eAdv (by rfl) (by rfl) w.heap.size [] l (.slice (some ⟨w.heap.size + 1, 0, none⟩) 0 0) _ (by rfl) (by rfl) (OwnL.lit0 _ _ _ _ (by simp) (by simp)) (HV.out.below (balloc (balloc (Below.refl _ _) _) _)) (by simp; omega) (by simp; omega) ?_; intro out2 A2 c2 w2 hout2 hown2 hg2 _
       have hb2 : Below w.heap.size w w2 := (balloc (balloc (Below.refl _ _) _) _).grown hg2 (by simp; omega) (fun r hr => by have hr' : some (w.heap.size + 1) = some r := hr; injection hr'; omega)
       have hx2 : w2.heap[w.heap.size]? = some (.cells #[.int .i64 x.tick, .int .i64 x.load, .int .i64 x.want, .int .i64 x.repl, .int .i64 x.why] 46 (0, 0)) := (hg2.block w.heap.size (by simp; omega) (fun e => absurd e (by simp [Value.ownBlock]))).trans ((Below.heap_alloc _ _ _ (by simp)).trans (heap_alloc_new _ _))
       obtain ⟨a1, a2, a3⟩ := box_cells (Below.refl _ _) hx2
       have HW2 := Lib.hid hown2
       have HO2 := Lib.hid hout2
       have HB2 := Lib.hid hb2
       clear hown2 hout2 hg2 hb2 hx2)
    | (at_builtin; refine wpList_appendL eAdv (by rfl) (by rfl) w.heap.size out2 [x] _ _ (by rfl) (by rfl) (HW2.out.below (balloc (Below.refl _ _) _)) (RowIn.lit w2 x _ _ _ rfl rfl) (by simp [HO2.out]; omega) (by have := HB2.out.size; simp; omega) ?_; intro out3 A3 c3 w3 hout3 hown3 hg3 _
       have hb3 : Below w.heap.size w w3 := (balloc HB2.out _).trans (grown_own hg3 HW2.out (by have := HB2.out.size; simp; omega))
       have hl3 : (out3.length : Int) = (l.length : Int) + 1 := by rw [hout3, HO2.out]; simp
       obtain ⟨m, A4, c4, hm, hA, hrun, hrow⟩ := row_from2 eAdv (hown3.row eAdv) 1 (by rw [hout3]; simp)
       simp only [show ((1 : Nat) : Int) = 1 from rfl] at hrun
       have HA := Lib.hid hA
       have HW3 := Lib.hid hown3
       have HO3 := Lib.hid hout3
       have HB3 := Lib.hid hb3
       have HM := Lib.hid hm
       have HR := Lib.hid hrow
       clear hown3 hout3 hg3 hb3 hm hrow hA))
  · go_ret
    have e : m = pushL l room x := by rw [HM.out, HO3.out, HO2.out]; unfold pushL; rw [if_neg (by omega)]; cases l with
      | nil => simp at *; omega
      | cons a l => simp
    have hrow := HR.out
    have hg3 := RowG.own eAdv HW3.out
    rw [← e]
    exact ⟨_, _, rfl, RowG.part hg3 HA.out (by rw [HM.out]; simp) hrow, HB3.out⟩
  · go_ret
    have e : out3 = pushL l room x := by rw [HO3.out, HO2.out]; unfold pushL; rw [if_pos (by omega)]; simp
    rw [← e]
    exact ⟨_, _, rfl, RowG.own eAdv HW3.out, HB3.out⟩

/-- Where a sample stands against a place. -/
def SortedAt (l : List Smp) (t : Int) (p : Nat) : Prop := p ≤ l.length ∧ (∀ i (h : i < l.length), i < p ↔ l[i].1 < t)

set_option maxRecDepth 100000 in
set_option maxHeartbeats 4000000 in
theorem r8trim_any (v : Value) (l : List Smp) (t : Int) (w : World) (hv : RowIn 2 smpC w v l) (hs : SortedAt l t (placeS l t)) (hl : l.length ≤ 1000000) :
    Calls Tryz.prog 164 #[v, .int .i64 t] w (RSays 2 smpC w (l.drop (placeS l t))) := by
  obtain ⟨A, c, rfl⟩ := hv.form
  have HV := Lib.hid hv
  have HS := Lib.hid hs
  clear hv hs
  generalize placeS l t = p at HS ⊢
  go_enter Tryz.func164, Tryz.ntmps164
  go_wp2
  go_loopg [5, 6] l.length (fun g s5 s6 wr => ∃ k : Nat, k ≤ l.length ∧ l.length - k ≤ g ∧ s6 = .int .i64 k ∧ OwnL smpC 42 2 w.heap.size wr s5 ((l.take k).drop p) ∧ Below w.heap.size w wr)
  case atStart => exact ⟨0, Nat.zero_le _, Nat.le_refl _, rfl, by rw [List.take_zero, List.drop_nil]; exact OwnL.nil _ _, Below.refl _ _⟩
  case round =>
    obtain ⟨k, hk, hg, rfl, hown, hb⟩ := hrel
    obtain ⟨A5, c5, rfl⟩ := hown.form
    have HO := Lib.hid hown
    clear hown
    by_cases hlt : k < l.length
    · obtain ⟨b, o, rfl, hbw, hc⟩ := HV.out.at_ hlt
      have c1 : wr.cell? ⟨b, o + k * 2, none⟩ = some (.int .i64 l[k].1) := (hb.cell (p := ⟨b, _, none⟩) hbw).trans (hc 0 _ rfl)
      have c2 : wr.cell? ⟨b, o + k * 2 + 1, none⟩ = some (.int .i64 l[k].2) := (hb.cell (p := ⟨b, _, none⟩) hbw).trans (hc 1 _ rfl)
      have hsp := HS.out.2 k hlt
      have hnext : p ≤ k → (l.take (k + 1)).drop p = (l.take k).drop p ++ [l[k]] := fun hp => by
        rw [List.take_succ_eq_append_getElem hlt, List.drop_append_of_le_length (by simp; omega)]
      have hsame : k < p → (l.take (k + 1)).drop p = (l.take k).drop p := fun hp => by
        rw [List.drop_eq_nil_of_le (by simp; omega), List.drop_eq_nil_of_le (by simp; omega)]
      have HN := Lib.hid hnext
      have HM := Lib.hid hsame
      clear hc hnext hsame
      generalize l[k] = x at c1 c2 hsp HN
      by_cases hp : k < p
      · have hlt2 : x.1 < t := hsp.1 hp
        clear hsp
        go_wp2
        go_roundg (l.length - (k + 1))
        case measure => omega
        case rel => exact ⟨k + 1, hlt, Nat.le_refl _, by go_num, by rw [HM.out hp]; exact HO.out, hb⟩
      · have hge : t ≤ x.1 := by have := mt hsp.2 hp; omega
        clear hsp
        go_wp2_with (at_builtin; refine wpList_appendL eSmp (by rfl) (by rfl) w.heap.size ((l.take k).drop p) [x] _ _ (by rfl) (by rfl) (HO.out.below (balloc (Below.refl _ _) _)) (RowIn.lit wr x _ _ _ rfl rfl) (by simp; omega) (by have := hb.size; simp; omega) ?_; intro out2 A2 c2' w2 hout2 hown2 hg2 _
                     have hb2 : Below w.heap.size w w2 := (balloc hb _).trans (grown_own hg2 HO.out (by have := hb.size; simp; omega))
                     have HW2 := Lib.hid hown2
                     have HO2 := Lib.hid hout2
                     clear hown2 hout2 hg2)
        go_roundg (l.length - (k + 1))
        case measure => omega
        case rel => exact ⟨k + 1, hlt, Nat.le_refl _, by go_num, by rw [HN.out (by omega), ← HO2.out]; exact HW2.out, hb2⟩
    · obtain rfl : k = l.length := by omega
      rw [List.take_length] at HO
      go_wp2
      go_ret
      have hlen : (l.drop p).length = (List.drop p (List.take l.length l)).length := by rw [List.take_length]
      rw [List.take_length]
      exact ⟨_, _, rfl, RowG.own eSmp HO.out, hb⟩
end

end Go.Proofs.YtfegielnmdppgaaGreat
