/- batch.Parts, walked. -/
import Derived.Test.YtfnabpmdjfejbaaBPart
import Derived.Test.YtfnabpmdjfejbaaQRefQ
import Derived.Laws.MakeOwn
import Derived.Laws.OwnMore
namespace Go.Proofs.Ytfnabpmdjfejbaa
set_option linter.unusedSimpArgs false
set_option linter.unusedVariables false
open Go.RowKit Go.Lib

/-- All that was there is as it was, but block H. -/
structure Far (H : Nat) (w w' : World) : Prop where
  os : w'.os = w.os
  tape : w'.tape = w.tape
  output : w'.output = w.output
  size : w.heap.size ≤ w'.heap.size
  block : ∀ k, k < w.heap.size → k ≠ H → w'.heap[k]? = w.heap[k]?
theorem Far.refl (H : Nat) (w : World) : Far H w w := ⟨rfl, rfl, rfl, Nat.le_refl _, fun _ _ _ => rfl⟩
theorem Far.trans {H : Nat} {w a b : World} (h : Far H w a) (k : Far H a b) : Far H w b :=
  ⟨k.os.trans h.os, k.tape.trans h.tape, k.output.trans h.output, Nat.le_trans h.size k.size, fun i hi hne => (k.block i (Nat.lt_of_lt_of_le hi h.size) hne).trans (h.block i hi hne)⟩
theorem Far.of_below {H : Nat} {w w' : World} (h : Below w.heap.size w w') : Far H w w' := ⟨h.os, h.tape, h.output, h.size, fun k hk _ => h.block k hk⟩
theorem Far.grown {H : Nat} {w a b : World} {row : Option Nat} (h : Far H w a) (hg : a.grownBy b row) (hr : ∀ r, row = some r → w.heap.size ≤ r) : Far H w b :=
  ⟨hg.os.trans h.os, hg.tape.trans h.tape, hg.output.trans h.output, Nat.le_trans h.size hg.size, fun k hk hne => (hg.block k (Nat.lt_of_lt_of_le hk h.size) (fun e => by have := hr k e.symm; omega)).trans (h.block k hk hne)⟩
theorem Far.set {H : Nat} {w a : World} (h : Far H w a) (i : Nat) (v : Value) : Far H w (a.setCell ⟨H, i, none⟩ v) :=
  ⟨h.os, h.tape, h.output, by simp [World.setCell]; exact h.size, fun k hk hne => (Below.heap_setCell _ _ _ _ hne).trans (h.block k hk hne)⟩
theorem Far.below {H : Nat} {w a b : World} {B : Nat} (h : Below B w a) (k : Far H a b) (hH : B ≤ H) (hB : B ≤ a.heap.size) : Below B w b :=
  h.trans ⟨k.os, k.tape, k.output, k.size, fun i hi => k.block i (by omega) (by omega)⟩

/-- The parts among the first k, in a block of n slices. -/
structure PartsV (w : World) (H n : Nat) (s : List CallD) (k base : Nat) (vs : Array Value) : Prop where
  size : vs.size = n
  blk : w.heap[H]? = some (.cells vs 54 (0, 0))
  lt : H < base
  own : ∀ (i : Nat) (v : Value), vs[i]? = some v → OwnL callCells 102 11 base w v (partP s n i k)
  apart : ∀ (i j : Nat) (v u : Value), i ≠ j → vs[i]? = some v → vs[j]? = some u → ∀ r, v.ownBlock = some r → u.ownBlock ≠ some r
theorem PartsV.below {w w' : World} {H n : Nat} {s : List CallD} {k base : Nat} {vs : Array Value} (h : PartsV w H n s k base vs) (hb : Below w.heap.size w w') : PartsV w' H n s k base vs :=
  ⟨h.size, (hb.block H (Array.getElem?_eq_some_iff.1 h.blk).1).trans h.blk, h.lt, fun i v hv => (h.own i v hv).below hb, h.apart⟩
theorem PartsV.cell {w : World} {H n : Nat} {s : List CallD} {k base : Nat} {vs : Array Value} (h : PartsV w H n s k base vs) {i : Nat} {v : Value} (hv : vs[i]? = some v) : w.cell? ⟨H, i, none⟩ = some v := by
  simp only [World.cell?, h.blk]; simpa using hv
theorem PartsV.unfrozen {w : World} {H n : Nat} {s : List CallD} {k base : Nat} {vs : Array Value} (h : PartsV w H n s k base vs) (i : Nat) : w.frozen? ⟨H, i, none⟩ = false := by
  simp only [World.frozen?, h.blk]; simp

theorem PartsV.step {w w0 w4 : World} {H n : Nat} {s : List CallD} {k base : Nat} {vs : Array Value} (h : PartsV w H n s k base vs) (hb : Below w.heap.size w w0) (hk : k < s.length) {i : Nat} (he : gIdx s k % n = i) {v v' : Value} (hv : vs[i]? = some v) {out : List CallD} (hout : out = partP s n i k ++ [s[k]])
    (hown : OwnL callCells 102 11 base w4 v' out) (hg : w0.grownBy w4 v.ownBlock) (hblk : v'.ownBlock = v.ownBlock ∨ v'.ownBlock = some w0.heap.size) :
    PartsV (w4.setCell ⟨H, i, none⟩ v') H n s (k + 1) base (vs.setIfInBounds i v') := by
  have hi : i < vs.size := (Array.getElem?_eq_some_iff.1 hv).1
  have hlt := (Array.getElem?_eq_some_iff.1 h.blk).1
  have h0 := h.below hb
  have hlt0 := (Array.getElem?_eq_some_iff.1 h0.blk).1
  have hHrow : some H ≠ v.ownBlock := fun e => by have := ((h.own i v hv).lt e.symm).1; have := h.lt; omega
  have hblk4 : w4.heap[H]? = some (.cells vs 54 (0, 0)) := (hg.block H hlt0 hHrow).trans h0.blk
  have hkeep : ∀ u l, OwnL callCells 102 11 base w4 u l → OwnL callCells 102 11 base (w4.setCell ⟨H, i, none⟩ v') u l := fun u l hu =>
    hu.kept (fun r hr => Below.heap_setCell _ _ _ _ (fun e => by have e' : r = H := e; have := (hu.lt hr).1; have := h.lt; omega))
  refine ⟨by simp [h.size], setCell_block hblk4, h.lt, fun j u hu => ?_, fun j1 j2 u1 u2 hne h1 h2 r hr hr2 => ?_⟩
  · rw [Array.getElem?_setIfInBounds] at hu
    by_cases hij : i = j
    · subst hij
      rw [if_pos rfl, if_pos hi] at hu
      injection hu with hu
      subst hu
      rw [partP_in hk he, ← hout]
      exact hkeep _ _ hown
    · rw [if_neg hij] at hu
      rw [partP_out hk (fun e => hij (he.symm.trans e))]
      refine hkeep _ _ ((h0.own j u hu).kept (fun r hr => hg.block r ((h0.own j u hu).lt hr).2 (fun e => ?_)))
      exact h.apart j i u v (Ne.symm hij) hu hv r hr e.symm
  · rw [Array.getElem?_setIfInBounds] at h1 h2
    have hold : ∀ (j : Nat) (u : Value), vs[j]? = some u → ∀ r, u.ownBlock = some r → r < w0.heap.size := fun j u hu r hr => ((h0.own j u hu).lt hr).2
    by_cases e1 : i = j1
    · subst e1
      rw [if_pos rfl, if_pos hi] at h1
      rw [if_neg hne] at h2
      injection h1 with h1
      subst h1
      rcases hblk with hb1 | hb1
      · rw [hb1] at hr
        exact h.apart i j2 v u2 hne hv h2 r hr hr2
      · rw [hb1] at hr
        injection hr with hr
        have := hold j2 u2 h2 r hr2
        omega
    · rw [if_neg e1] at h1
      by_cases e2 : i = j2
      · subst e2
        rw [if_pos rfl, if_pos hi] at h2
        injection h2 with h2
        subst h2
        rcases hblk with hb1 | hb1
        · rw [hb1] at hr2
          exact h.apart i j1 v u1 e1 hv h1 r hr2 hr
        · rw [hb1] at hr2
          injection hr2 with hr2
          have := hold j1 u1 h1 r hr
          omega
      · rw [if_neg e2] at h2
        exact h.apart j1 j2 u1 u2 hne h1 h2 r hr hr2
theorem parts_room {w w0 w4 : World} {H n : Nat} {s : List CallD} {k base : Nat} {vs : Array Value} {i : Nat} {v : Value} (h : PartsV w H n s k base vs) (hv : vs[i]? = some v) (hb : Below w.heap.size w w0) (hg : w0.grownBy w4 v.ownBlock) :
    w4.cell? ⟨H, i, none⟩ = some v ∧ w4.frozen? ⟨H, i, none⟩ = false := by
  have h0 := h.below hb
  have hlt0 := (Array.getElem?_eq_some_iff.1 h0.blk).1
  have hHrow : some H ≠ v.ownBlock := fun e => by have := ((h.own i v hv).lt e.symm).1; have := h.lt; omega
  exact ⟨(hg.cell_far ⟨H, i, none⟩ hlt0 hHrow).trans (h0.cell hv), (hg.frozen_far ⟨H, i, none⟩ hlt0 hHrow).trans (h0.unfrozen i)⟩
theorem PartsV.start (w : World) (H n : Nat) (s : List CallD) (base : Nat) (hH : H < base) (hb : w.heap[H]? = some (.cells (Array.replicate n (.slice none 0 0)) 54 (0, 0))) : PartsV w H n s 0 base (Array.replicate n (.slice none 0 0)) :=
  ⟨by simp, hb, hH, fun i v hv => by
    have : v = .slice none 0 0 := by rw [Array.getElem?_replicate] at hv; split at hv <;> simp_all
    subst this
    exact OwnL.nil _ _, fun i j v u _ hv _ r hr => by
    have : v = .slice none 0 0 := by rw [Array.getElem?_replicate] at hv; split at hv <;> simp_all
    subst this
    cases hr⟩

theorem lists_info : (Try.prog.info? 54).map (fun i => (i.zero, i.size, i.bytes)) = some (some (.slice none 0 0), 1, 24) := by kernel_rfl
set_option maxRecDepth 100000 in
theorem make_lists (n : Nat) (hn : n ≤ 1000) (w : World) : (Instr.makeSlice 58 (.int .i64 (n : Int)) (.int .i64 (n : Int))).run Try.prog w = .ok (.slice (some ⟨w.heap.size, 0, none⟩) n n) (w.alloc (.cells (Array.replicate n (.slice none 0 0)) 54)) := by
  obtain ⟨i0, hi0, hz0, hz1, hz2⟩ := info_parts lists_info
  have h := run_makeSlice (P := Try.prog) w 58 54 i0 _ (by kernel_rfl) hi0 hz0 .i64 .i64 n n (by omega) (Int.le_refl _) (by rw [hz1]; omega) (by rw [hz2]; omega) (by omega)
  rw [h]
  simp only [Int.toNat_natCast]
  congr 3
  rw [hz1, Nat.mul_one]
  apply Array.toList_inj.1
  rw [show (Value.slice none 0 0).cells = #[Value.slice none 0 0] from rfl, toList_madeCells_one]
  simp

/-- What Parts lays. -/
def LaysP (w : World) (n : Nat) (s : List CallD) (e : Ending) (w' : World) : Prop :=
  ∃ H base vs, e = .returned (.slice (some ⟨H, 0, none⟩) n n) ∧ PartsV w' H n s s.length base vs ∧ Below w.heap.size w w'
set_option maxRecDepth 100000 in
set_option maxHeartbeats 4000000 in
theorem parts_any (v : Value) (l : List CallD) (n : Nat) (w : World) (hv : RowIn 11 callCells w v l) (hok : ∀ p ∈ l, p.ok) (hl : l.length ≤ 1000000) (hn : 0 < n) (hn2 : n ≤ 32) :
    Calls Try.prog 31 #[v, .int .i64 n] w (LaysP w n (sortR l)) := by
  obtain ⟨A, c, rfl⟩ := hv.form
  have hlen := sortR_len l
  have hmk := make_lists n (by omega)
  have HL := Lib.hid (fun W hW => sort_any _ l W (hv.below hW) hok hl)
  generalize sortR l = s at hlen HL
  clear hv hok
  have hn0 : (0 : Int) < (n : Int) := by omega
  have hn3 : (n : Int) ≤ 32 := by omega
  have q1 : ¬ (n : Int) < 1 := by omega
  have q2 : ¬ (32 : Int) < (n : Int) := by omega
  go_enter Try.func31, Try.ntmps31
  go_wp2_with (go_at_call 29; refine (HL.out _ (balloc (Below.refl _ _) _)).mono ?_; rintro e w1 ⟨v1, rfl, ho1, hb1⟩; obtain ⟨A1, c1, rfl⟩ := ho1.form; have HV := Lib.hid ho1; clear ho1)
  clear hmk
  have hs1 := hb1.size
  simp only [World.size_alloc] at hs1
  have HP0 := Lib.hid (PartsV.start w1 w.heap.size n s w1.heap.size (by omega) ((hb1.block _ (by simp)).trans (heap_alloc_new _ _)))
  have HRD := Lib.hid (fun (W : World) (hW : Far w.heap.size w1 W) (i : Nat) (hi : i < s.length) => (show ∃ b o, A1 = some ⟨b, o, none⟩ ∧ CallIn W b (o + i * 11) s[i] from by
    have hk : OwnL callCells 102 11 (w.alloc (.cells (Array.replicate n (.slice none 0 0)) 54)).heap.size W (.slice A1 s.length c1) s := HV.out.kept (fun r hr => hW.block r (HV.out.lt hr).2 (fun e => by have := (HV.out.lt hr).1; simp at this; omega))
    obtain ⟨b, o, e, _, hc⟩ := calls_at (hk.row eCall) hi
    exact ⟨b, o, e, hc W (Below.refl _ _)⟩))
  have hb1w : Below w.heap.size w w1 := bthen (balloc (Below.refl _ _) _) hb1
  clear hb1
  go_loopg [6, 7, 21] s.length (fun g s6 s7 s21 wr => ∃ (k : Nat) (a : Int) (u : ByteArray) (vs : Array Value), k ≤ s.length ∧ s.length - k ≤ g ∧ s6 = .int .i64 a ∧ s7 = .string u ∧ (k = 0 ∧ a = -1 ∨ ∃ p, ∃ hp : p < s.length, p + 1 = k ∧ a = ((gIdx s p % n : Nat) : Int) ∧ u = (s[p]).id) ∧ s21 = .int .i64 k ∧ Far w.heap.size w1 wr ∧ PartsV wr w.heap.size n s k w1.heap.size vs)
  case atStart => exact ⟨0, -1, _, _, Nat.zero_le _, Nat.le_refl _, rfl, rfl, .inl ⟨rfl, rfl⟩, rfl, Far.refl _ _, HP0.out⟩
  case round =>
    obtain ⟨k, a, u, vs, hk, hg, rfl, rfl, hcase, rfl, hfar, hP⟩ := hrel
    have HP := Lib.hid hP
    have HFA := Lib.hid hfar
    have hsz := hfar.size
    clear hP hfar
    by_cases hlt : k < s.length
    · obtain ⟨b, o, rfl, q0, q1', q2', q3, q4, q5, q6, q7, q8, q9, q10⟩ := HRD.out wr HFA.out k hlt
      obtain ⟨X, hX⟩ : ∃ X, X = s[k] := ⟨_, rfl⟩
      have HXe := Lib.hid hX
      rw [← hX] at q0 q1' q2' q3 q4 q5 q6 q7 q8 q9 q10
      clear hX
      have hk0 : (0 : Int) ≤ (k : Int) := by omega
      have hk1 : (k : Int) < (s.length : Int) := by omega
      obtain ⟨i0, hi0e⟩ : ∃ i0, i0 = gIdx s k % n := ⟨_, rfl⟩
      have hi0 : i0 < n := by rw [hi0e]; exact Nat.mod_lt _ hn
      have HGI := Lib.hid hi0e.symm
      have hi1 : (0 : Int) ≤ (i0 : Int) := by omega
      have hi2 : (i0 : Int) < (n : Int) := by omega
      obtain ⟨vi, hvi⟩ : ∃ vi, vs[i0]? = some vi := ⟨vs[i0]'(by rw [HP.out.size]; exact hi0), Array.getElem?_eq_getElem _⟩
      have HVI := Lib.hid hvi
      have hoi := HP.out.own i0 vi hvi
      obtain ⟨Ai, ci, rfl⟩ := hoi.form
      have HOI := Lib.hid hoi
      have hpl := partP_len s n i0 k
      have z1 := HP.out.cell hvi
      have z2 := HP.out.unfrozen i0
      have hHlt : w.heap.size < wr.heap.size := by omega
      clear hoi hvi
      by_cases ha : a < 0
      · have hmod : (a + 1) % (n : Int) = (i0 : Int) := by
          rcases hcase with ⟨rfl, rfl⟩ | ⟨p, hp, _, rfl, _⟩
          · rw [hi0e, show gIdx s 0 = 0 from rfl]; simp
          · omega
        have ha2 : -1 ≤ a := by
          rcases hcase with ⟨rfl, rfl⟩ | ⟨p, hp, _, rfl, _⟩ <;> omega
        have ha3 : 0 ≤ a + 1 := by omega
        clear hcase hi0e
        go_wp2_with fail
        go_quiet (fail)
        go_wp2_with fail
        go_region_law ((
          refine step_appendL eCall (by rfl) (.tmp 44) (.tmp 46) (by rfl) w1.heap.size (partP s n i0 k) [X] _ _ (by rfl) (by rfl) (HOI.out.below (by repeat (first | exact Below.refl _ _ | refine balloc ?_ _ | refine Below.drew ?_ | refine below_drewN ?_ _))) (RowIn.lit _ X _ _ _ (by first | rfl | simp) rfl) (by simp; omega) (by simp; omega) ?_
          intro out4 A4 c4 w4 hout hown4 hg4 hblk4
          have HQ4 := Lib.hid (HP.out.step (v' := .slice A4 out4.length c4) (by repeat (first | exact Below.refl _ _ | refine balloc ?_ _ | refine Below.drew ?_ | refine below_drewN ?_ _)) hlt HGI.out HVI.out (by rw [hout, HXe.out]) hown4 hg4 hblk4)
          obtain ⟨y1, y2⟩ := parts_room HP.out HVI.out (by repeat (first | exact Below.refl _ _ | refine balloc ?_ _ | refine Below.drew ?_ | refine below_drewN ?_ _)) hg4
          have HFAR := Lib.hid ((Far.trans HFA.out (Far.of_below (by repeat (first | exact Below.refl _ _ | refine balloc ?_ _ | refine Below.drew ?_ | refine below_drewN ?_ _)))).grown hg4 (fun r hr => (HOI.out.lt hr).1))
          have hsz4 := hg4.size
          clear hout hown4 hg4 hblk4))
        all_goals go_wp2
        all_goals
          go_roundg (s.length - (k + 1))
          case measure => omega
          case rel => exact ⟨k + 1, _, _, _, hlt, Nat.le_refl _, rfl, rfl, .inr ⟨k, hlt, rfl, by rw [HGI.out], by rw [HXe.out]⟩, by go_num, HFAR.out.set _ _, HQ4.out⟩
      · by_cases e1 : X.id = u
        · have hai : a = (i0 : Int) := by
            rcases hcase with ⟨_, rfl⟩ | ⟨p, hp, hpk, rfl, hu⟩
            · omega
            · have hst := gIdx_step s hpk hlt hp
              rw [← HXe.out, ← hu, if_pos e1] at hst
              rw [hi0e, hst]; rfl
          subst hai
          subst e1
          clear hcase hi0e
          go_wp2_with fail
          go_region_law ((
            refine step_appendL eCall (by rfl) (.tmp 44) (.tmp 46) (by rfl) w1.heap.size (partP s n i0 k) [X] _ _ (by rfl) (by rfl) (HOI.out.below (by repeat (first | exact Below.refl _ _ | refine balloc ?_ _ | refine Below.drew ?_ | refine below_drewN ?_ _))) (RowIn.lit _ X _ _ _ (by first | rfl | simp) rfl) (by simp; omega) (by simp; omega) ?_
            intro out4 A4 c4 w4 hout hown4 hg4 hblk4
            have HQ4 := Lib.hid (HP.out.step (v' := .slice A4 out4.length c4) (by repeat (first | exact Below.refl _ _ | refine balloc ?_ _ | refine Below.drew ?_ | refine below_drewN ?_ _)) hlt HGI.out HVI.out (by rw [hout, HXe.out]) hown4 hg4 hblk4)
            obtain ⟨y1, y2⟩ := parts_room HP.out HVI.out (by repeat (first | exact Below.refl _ _ | refine balloc ?_ _ | refine Below.drew ?_ | refine below_drewN ?_ _)) hg4
            have HFAR := Lib.hid ((Far.trans HFA.out (Far.of_below (by repeat (first | exact Below.refl _ _ | refine balloc ?_ _ | refine Below.drew ?_ | refine below_drewN ?_ _)))).grown hg4 (fun r hr => (HOI.out.lt hr).1))
            have hsz4 := hg4.size
            clear hout hown4 hg4 hblk4))
          all_goals go_wp2
          all_goals
            go_roundg (s.length - (k + 1))
            case measure => omega
            case rel => exact ⟨k + 1, _, _, _, hlt, Nat.le_refl _, rfl, rfl, .inr ⟨k, hlt, rfl, by rw [HGI.out], by rw [HXe.out]⟩, by go_num, HFAR.out.set _ _, HQ4.out⟩
        · have hmod : (a + 1) % (n : Int) = (i0 : Int) := by
            rcases hcase with ⟨_, rfl⟩ | ⟨p, hp, hpk, rfl, hu⟩
            · omega
            · have hst := gIdx_step s hpk hlt hp
              rw [← HXe.out, ← hu, if_neg e1] at hst
              rw [hi0e, hst, ← Nat.mod_add_mod]
              simp [Int.natCast_emod]
          have ha2 : a ≤ 31 := by
            rcases hcase with ⟨_, rfl⟩ | ⟨p, hp, _, rfl, _⟩
            · omega
            · have := Nat.mod_lt (gIdx s p) hn; omega
          have ha3 : 0 ≤ a + 1 := by omega
          have e3 := str_ne e1
          have e4 : (X.id.toList != u.toList) = true := by simp [bne, e3]
          clear hcase hi0e e1
          go_wp2_with fail
          go_quiet (fail)
          go_wp2_with fail
          go_region_law ((
            refine step_appendL eCall (by rfl) (.tmp 44) (.tmp 46) (by rfl) w1.heap.size (partP s n i0 k) [X] _ _ (by rfl) (by rfl) (HOI.out.below (by repeat (first | exact Below.refl _ _ | refine balloc ?_ _ | refine Below.drew ?_ | refine below_drewN ?_ _))) (RowIn.lit _ X _ _ _ (by first | rfl | simp) rfl) (by simp; omega) (by simp; omega) ?_
            intro out4 A4 c4 w4 hout hown4 hg4 hblk4
            have HQ4 := Lib.hid (HP.out.step (v' := .slice A4 out4.length c4) (by repeat (first | exact Below.refl _ _ | refine balloc ?_ _ | refine Below.drew ?_ | refine below_drewN ?_ _)) hlt HGI.out HVI.out (by rw [hout, HXe.out]) hown4 hg4 hblk4)
            obtain ⟨y1, y2⟩ := parts_room HP.out HVI.out (by repeat (first | exact Below.refl _ _ | refine balloc ?_ _ | refine Below.drew ?_ | refine below_drewN ?_ _)) hg4
            have HFAR := Lib.hid ((Far.trans HFA.out (Far.of_below (by repeat (first | exact Below.refl _ _ | refine balloc ?_ _ | refine Below.drew ?_ | refine below_drewN ?_ _)))).grown hg4 (fun r hr => (HOI.out.lt hr).1))
            have hsz4 := hg4.size
            clear hout hown4 hg4 hblk4))
          all_goals go_wp2
          all_goals
            go_roundg (s.length - (k + 1))
            case measure => omega
            case rel => exact ⟨k + 1, _, _, _, hlt, Nat.le_refl _, rfl, rfl, .inr ⟨k, hlt, rfl, by rw [HGI.out], by rw [HXe.out]⟩, by go_num, HFAR.out.set _ _, HQ4.out⟩
    · obtain rfl : k = s.length := by omega
      go_wp2
      go_ret
      exact ⟨_, _, _, rfl, HP.out, HFA.out.below hb1w (Nat.le_refl _) hb1w.size⟩
end Go.Proofs.Ytfnabpmdjfejbaa
