/- batch.Last, walked. -/
import Derived.Test.YtfnabpmdjfejbaaBPlain
import Derived.Test.YtfnabpmdjfejbaaQState
namespace Go.Proofs.Ytfnabpmdjfejbaa
set_option linter.unusedSimpArgs false
set_option linter.unusedVariables false
open Go.RowKit Go.Lib
open Go.ChangeMaps (setBlock)
open Go.Maps (Keyed)

def plV (x : PlK) : Value := .agg #[.int .u64 (x.1.1.1 : Nat), .int .u64 (x.1.1.2 : Nat), .int .i64 x.1.2]
def intV (n : Int) : Value := .int .i64 n
theorem rowPl : (108 : TypeId) < Try.prog.types.size := of_decide_eq_true (by kernel_rfl)
theorem deepPl : Try.prog.keyType 108 = true := by kernel_rfl
theorem widePl : (match Try.prog.underlying 108 with | some (.array _ _) | some (.struct _) => true | _ => false) = true := by kernel_rfl
set_option maxRecDepth 100000 in
theorem lawPl : Keyed Try.prog 108 := Keyed.of_law (deep_law_laid laidOutQ (m := 9) (by decide) rowPl (by kernel_rfl) widePl)
theorem many3 : 3 ≤ Try.prog.types.size := of_decide_eq_true (by kernel_rfl)
theorem cl_i64b : Try.prog.cellsOf 2 = 1 := by kernel_rfl
theorem cl_pl : Try.prog.cellsOf 108 = 3 := by kernel_rfl
theorem keyOf_pl (x : PlK) : ∃ l, keyOf Try.prog 108 (plV x) = some l := by
  obtain ⟨⟨⟨a, b⟩, c⟩, h1, h2, h3⟩ := x
  simp only at h1 h2 h3
  have hform : (plV ⟨((a, b), c), h1, h2, h3⟩).formed Try.prog 108 = true := by simp [plV, Value.formed, Try.underlying108, cl_pl]
  obtain ⟨d, hd⟩ : ∃ d, Try.prog.types.size = d + 2 := ⟨Try.prog.types.size - 2, by have := many3; omega⟩
  have hlits : Try.prog.keyLits (Try.prog.types.size + 1) 108 [.int .u64 a, .int .u64 b, .int .i64 c] = some [.int .u64 a, .int .u64 b, .int .i64 c] := by
    have hw1 : (Lit.int .u64 (a : Int)).wf = true := by simp [Lit.wf, IntKind.min, IntKind.max, IntKind.signed, IntKind.bits]; omega
    have hw2 : (Lit.int .u64 (b : Int)).wf = true := by simp [Lit.wf, IntKind.min, IntKind.max, IntKind.signed, IntKind.bits]; omega
    have hw3 : (Lit.int .i64 c).wf = true := by unfold I64 at h3; simp [Lit.wf, IntKind.min, IntKind.max, IntKind.signed, IntKind.bits]; omega
    simp [Program.keyLits, hd, Try.underlying108, Try.underlying32, Try.underlying30, Try.underlying2, cl_key, cl_u64, cl_i64b, cl_pl, hw1, hw2, hw3]
    rw [if_pos (by intro i hi; rcases i with _ | _ | i; all_goals first | (simp; done) | (simp at hi; omega) | omega)]
    rfl
  refine ⟨.string (keyBytes [.int .u64 a, .int .u64 b, .int .i64 c]), ?_⟩
  unfold keyOf
  simp only [Try.underlying108, deepPl, hform]
  show (if _ then (Try.prog.keyLits (Try.prog.types.size + 1) 108 [.int .u64 a, .int .u64 b, .int .i64 c]).map _ else none) = _
  rw [hlits]
  rfl
theorem keysPl : KeysBy Try.prog 108 plV where
  law := lawPl
  key := keyOf_pl
  inj x y h := by
    simp only [plV, Value.agg.injEq, Array.mk.injEq, List.cons.injEq, Value.int.injEq, and_true, true_and] at h
    exact Subtype.ext (Prod.ext (Prod.ext (by omega) (by omega)) (by omega))

set_option maxRecDepth 100000 in
set_option maxHeartbeats 2000000 in
/-- The place of a sample. -/
theorem at_place (c : CallD) (w : World) (hok : c.ok) (hid : idS c.id = true) :
    Calls Try.prog 59 #[callV c] w fun e w' => e = .returned (plV (plOf c hok)) ∧ Below w.heap.size w w' := by
  have hv : packV c.id = .tuple #[.agg #[.int .u64 (hiN c.id.data.toList), .int .u64 (loN c.id.data.toList)], .int .i64 0] := by simp [packV, hid]
  have Hv := Lib.hid hv
  have hm := hok.2.1
  clear hv hid
  unfold callV
  go_enter Try.func59, Try.ntmps59
  go_wp2_with (go_at_call 60; refine (pack_any _ _ hm).mono ?_; rw [Hv.out]; rintro e w1 ⟨rfl, hb1⟩; obtain ⟨k1, k2, k3⟩ := box_cells hb1 (box_old w _ _); obtain ⟨k4, k5, k6⟩ := box_cells hb1 (box_new w _ _))
  refine bodyPost_ret (v := plV (plOf c hok)) (by simp [results, Try.results59, go_sem, plV, plOf, k4, k5, k6]) rfl ⟨rfl, ?_⟩
  have hb : Below w.heap.size w w1 := bthen (balloc (balloc (Below.refl _ _) _) _) hb1
  exact balloc (((hb.setCell (p := ⟨w.heap.size + 1, 0, none⟩) (Nat.le_succ _) _).setCell (p := ⟨w.heap.size + 1, 1, none⟩) (Nat.le_succ _) _).setCell (p := ⟨w.heap.size + 1, 2, none⟩) (Nat.le_succ _) _) _

/-- The map behind the first k: where each place was last. -/
def lastE (l : List CallD) (hok : ∀ p ∈ l, p.ok) : Nat → List (PlK × Int)
  | 0 => []
  | k + 1 => if h : k < l.length then putM (lastE l hok k) (plOf l[k] (hok _ (List.getElem_mem h))) (k : Int) else lastE l hok k
theorem lastE_succ {l : List CallD} {hok : ∀ p ∈ l, p.ok} {k : Nat} (h : k < l.length) : lastE l hok (k + 1) = putM (lastE l hok k) (plOf l[k] (hok _ (List.getElem_mem h))) (k : Int) := by simp [lastE, h]
theorem lastE_find (l : List CallD) (hok : ∀ p ∈ l, p.ok) (y : PlK) : ∀ m, m ≤ l.length →
    (findM (lastE l hok m) y = none ∧ ∀ j (h : j < l.length), j < m → plOf l[j] (hok _ (List.getElem_mem h)) ≠ y) ∨
    ∃ j, ∃ h : j < l.length, j < m ∧ plOf l[j] (hok _ (List.getElem_mem h)) = y ∧ findM (lastE l hok m) y = some (j : Int) ∧ ∀ j' (h : j' < l.length), j < j' → j' < m → plOf l[j'] (hok _ (List.getElem_mem h)) ≠ y
  | 0, _ => .inl ⟨rfl, fun j _ h => absurd h (Nat.not_lt_zero _)⟩
  | m + 1, hm => by
    have hlt : m < l.length := hm
    rw [lastE_succ hlt, findM_putM]
    by_cases hy : y = plOf l[m] (hok _ (List.getElem_mem hlt))
    · rw [if_pos hy]
      exact .inr ⟨m, hlt, Nat.lt_succ_self _, hy.symm, rfl, fun j' _ h1 h2 => by omega⟩
    · rw [if_neg hy]
      rcases lastE_find l hok y m (Nat.le_of_lt hlt) with ⟨h1, h2⟩ | ⟨j, hj, h1, h2, h3, h4⟩
      · refine .inl ⟨h1, fun j hj hjm => ?_⟩
        rcases Nat.lt_or_ge j m with h | h
        · exact h2 j hj h
        · obtain rfl : j = m := by omega
          exact fun e => hy e.symm
      · refine .inr ⟨j, hj, by omega, h2, h3, fun j' hj' h5 h6 => ?_⟩
        rcases Nat.lt_or_ge j' m with h | h
        · exact h4 j' hj' h5 h
        · obtain rfl : j' = m := by omega
          exact fun e => hy e.symm
theorem fine_id {l : List CallD} (hf : fineB l = true) {k : Nat} (h : k < l.length) : idS l[k].id = true := by
  unfold fineB at hf
  have := List.all_eq_true.1 hf _ (List.getElem_mem h)
  unfold fineB1 at this
  simp only [Bool.and_eq_true, decide_eq_true_eq] at this
  obtain ⟨h1, h2⟩ := this
  cases hi : idS l[k].id with
  | true => rfl
  | false =>
    exfalso
    unfold chkC at h2
    rw [if_neg (by omega), if_pos ⟨.inl h1, hi⟩] at h2
    cases h2
/-- What a lookup of an element's place tells. -/
theorem lastE_look (l : List CallD) (hok : ∀ p ∈ l, p.ok) (hf : fineB l = true) {i : Nat} (h : i < l.length) :
    ∃ j : Nat, findM (lastE l hok l.length) (plOf l[i] (hok _ (List.getElem_mem h))) = some (j : Int) ∧ decide (j = i) = !later l l[i] (i + 1) l.length := by
  rcases lastE_find l hok (plOf l[i] (hok _ (List.getElem_mem h))) l.length (Nat.le_refl _) with ⟨_, h2⟩ | ⟨j, hj, _, h2, h3, h4⟩
  · exact absurd rfl (h2 i h h)
  · refine ⟨j, h3, ?_⟩
    have hij : i ≤ j := by
      rcases Nat.lt_or_ge j i with hlt | hge
      · exact absurd rfl (h4 i h hlt h)
      · exact hge
    cases hl : later l l[i] (i + 1) l.length with
    | true =>
      obtain ⟨q, hq, h5, h6, hs⟩ := (later_iff ..).1 hl
      rw [← plOf_eq (hok _ (List.getElem_mem hq)) (hok _ (List.getElem_mem h)) (fine_id hf hq) (fine_id hf h)] at hs
      have : j ≠ i := fun e => by
        subst e
        exact h4 q hq (by omega) h6 hs
      simp [this]
    | false =>
      have : j = i := by
        rcases Nat.lt_or_ge i j with hlt | hge
        · have hs := (plOf_eq (hok _ (List.getElem_mem hj)) (hok _ (List.getElem_mem h)) (fine_id hf hj) (fine_id hf h)).1 h2
          have : later l l[i] (i + 1) l.length = true := (later_iff ..).2 ⟨j, hj, hlt, hj, hs⟩
          rw [hl] at this
          cases this
        · omega
      simp [this]

theorem below_setBlock {n : Nat} {w a : World} (h : Below n w a) {d : Nat} (o : Obj) (hd : n ≤ d) : Below n w (setBlock a d o) :=
  ⟨h.os, h.tape, h.output, by rw [setBlock_size]; exact h.size, fun k hk => (setBlock_other (by omega)).trans (h.block k hk)⟩

/-- A list of calls that a call lays. -/
def LaysC (w : World) (ss : List CallD) (e : Ending) (w' : World) : Prop :=
  ∃ v, e = .returned v ∧ OwnL callCells 102 11 w.heap.size w' v ss ∧ Below w.heap.size w w'

set_option maxRecDepth 100000 in
set_option maxHeartbeats 4000000 in
theorem last_any (v : Value) (l : List CallD) (w : World) (hv : RowIn 11 callCells w v l) (hok : ∀ p ∈ l, p.ok) (hl : l.length ≤ 1000000) :
    Calls Try.prog 27 #[v] w (LaysC w (lastR l)) := by
  obtain ⟨A, c, rfl⟩ := hv.form
  cases hf : fineB l with
  | false =>
    have HF := Lib.hid hf
    have HV := Lib.hid hv
    clear hf hv
    go_enter Try.func27, Try.ntmps27
    go_wp2_with (go_at_call 24; refine (fine_any _ l _ HV.out hok hl).mono ?_; rw [HF.out]; rintro e w1 ⟨rfl, hb1⟩)
    go_ret
    exact ⟨_, rfl, by rw [lastR, if_neg (by rw [HF.out]; simp)]; exact OwnL.nil _ _, hb1⟩
  | true =>
    have HF := Lib.hid hf
    have HV := Lib.hid hv
    have HO := Lib.hid hok
    clear hf hv
    have hmm := @run_makeMap Try.prog
    go_enter Try.func27, Try.ntmps27
    go_wp2_with (go_at_call 24; refine (fine_any _ l _ HV.out hok hl).mono ?_; rw [HF.out]; rintro e w1 ⟨rfl, hb1⟩)
    clear hmm
    clear hok
    go_loopg [16] l.length (fun g s16 wr => ∃ k : Nat, k ≤ l.length ∧ l.length - k ≤ g ∧ s16 = .int .i64 k ∧ Below w1.heap.size w1 wr ∧ MapIn plV intV wr w1.heap.size (lastE l HO.out k))
    case atStart => exact ⟨0, Nat.zero_le _, Nat.le_refl _, rfl, balloc (Below.refl _ _) _, MapIn.made _⟩
    case round =>
      obtain ⟨k, hk, hg, rfl, hb, hmap⟩ := hrel
      have HM := Lib.hid hmap
      clear hmap
      by_cases hlt : k < l.length
      · obtain ⟨b, o, rfl, hbl, hc⟩ := calls_at HV.out hlt
        have hbw : Below w.heap.size w wr := bthen hb1 hb
        obtain ⟨q0, q1, q2, q3, q4, q5, q6, q7, q8, q9, q10⟩ := hc wr hbw
        have hxok := HO.out _ (List.getElem_mem hlt)
        have C := fun W => at_place l[k] W (HO.out _ (List.getElem_mem hlt)) (fine_id HF.out hlt)
        have HS := Lib.hid (lastE_succ (hok := HO.out) hlt)
        obtain ⟨x, hx⟩ : ∃ x, x = plOf l[k] (HO.out _ (List.getElem_mem hlt)) := ⟨_, rfl⟩
        simp only [← hx] at C
        rw [← hx] at HS
        clear hc hx hxok
        generalize l[k] = c at q0 q1 q2 q3 q4 q5 q6 q7 q8 q9 q10 C
        simp only [callV, plV] at C
        have HC := Lib.hid C
        clear C
        have hk0 : (0 : Int) ≤ (k : Int) := by omega
        go_wp2_with (go_at_call 59; refine (HC.out _).mono ?_; rintro e w2 ⟨rfl, hb2⟩; obtain ⟨o2, hs2, hm3⟩ := MapIn.store ((HM.out.below (balloc (Below.refl _ _) _)).below hb2) keysPl Try.underlying106 x (k : Int); have HM3 := Lib.hid hm3; have hb3 := below_setBlock (bthen (balloc hb _) hb2) o2 (Nat.le_refl _); clear hm3; simp only [plV, intV] at hs2)
        go_roundg (l.length - (k + 1))
        case measure => omega
        case rel => exact ⟨k + 1, hlt, Nat.le_refl _, by go_num, hb3, by rw [HS.out]; exact HM3.out⟩
      · obtain rfl : k = l.length := by omega
        obtain ⟨w2, rfl⟩ : ∃ w2, w2 = wr := ⟨_, rfl⟩
        have hb12 : Below w.heap.size w w2 := bthen hb1 hb
        have hsz := HM.out.lt
        go_wp2
        go_loopg [7, 29] l.length (fun g s7 s29 wr => ∃ k : Nat, k ≤ l.length ∧ l.length - k ≤ g ∧ s29 = .int .i64 k ∧ Below w2.heap.size w2 wr ∧ OwnL callCells 102 11 w2.heap.size wr s7 (lastP l k))
        case atStart => exact ⟨0, Nat.zero_le _, Nat.le_refl _, rfl, Below.refl _ _, OwnL.nil _ _⟩
        case round =>
          obtain ⟨k, hk, hg, rfl, hb, hown⟩ := hrel
          obtain ⟨A7, c7, rfl⟩ := hown.form
          have Ho := Lib.hid hown
          have hP := lastP_len l k
          clear hown
          by_cases hlt : k < l.length
          · obtain ⟨b, o, rfl, hbl, hc⟩ := calls_at HV.out hlt
            have hbw : Below w.heap.size w wr := bthen hb12 hb
            obtain ⟨q0, q1, q2, q3, q4, q5, q6, q7, q8, q9, q10⟩ := hc wr hbw
            have C := fun W => at_place l[k] W (HO.out _ (List.getElem_mem hlt)) (fine_id HF.out hlt)
            obtain ⟨j, hj, hji⟩ := lastE_look l HO.out HF.out hlt
            have H1 := Lib.hid (fun h => lastP_skip hlt h)
            have H2 := Lib.hid (fun h => lastP_keep hlt h)
            obtain ⟨x, hx⟩ : ∃ x, x = plOf l[k] (HO.out _ (List.getElem_mem hlt)) := ⟨_, rfl⟩
            simp only [← hx] at C
            rw [← hx] at hj
            clear hc hx
            generalize hlat : later l l[k] (k + 1) l.length = lat at hji H1 H2
            clear hlat
            generalize l[k] = c at q0 q1 q2 q3 q4 q5 q6 q7 q8 q9 q10 C H1 H2
            simp only [callV, plV] at C
            have HC := Lib.hid C
            have HJ := Lib.hid hj
            clear C hj
            have hk0 : (0 : Int) ≤ (k : Int) := by omega
            have hlk : ∀ W, Below w2.heap.size w2 W → (Instr.lookup 106 (.map (some w1.heap.size)) (plV x) false).run Try.prog W = .ok (.int .i64 j) W := by
              intro W hW
              have := MapIn.look (HM.out.below hW) keysPl Try.underlying106 (Try.zeroValue3 W) false x
              rw [HJ.out] at this
              exact this
            simp only [plV] at hlk
            have HL := Lib.hid hlk
            clear hlk
            cases lat with
            | true =>
              have hjk : ((j : Int) == (k : Int)) = false := by
                have : ¬ j = k := by simpa using hji
                simp; omega
              have H3 := Lib.hid (H1.out rfl)
              clear hji
              go_wp2_with (go_at_call 59; refine (HC.out _).mono ?_; rintro e w3 ⟨rfl, hb3⟩; have hw3 := HL.out w3 (bthen (balloc hb _) hb3))
              go_roundg (l.length - (k + 1))
              case measure => omega
              case rel => exact ⟨k + 1, hlt, Nat.le_refl _, by go_num, bthen (balloc hb _) hb3, by rw [H3.out]; exact (Ho.out.below (balloc (Below.refl _ _) _)).below hb3⟩
            | false =>
              have hjk : j = k := by simpa using hji
              subst hjk
              have H3 := Lib.hid (H2.out rfl)
              clear hji
              have hq : ((j : Int) == (j : Int)) = true := by simp
              go_wp2_with (first
                | (go_at_call 59; refine (HC.out _).mono ?_; rintro e w3 ⟨rfl, hb3⟩; have hw3 := HL.out w3 (bthen (balloc hb _) hb3); obtain ⟨k1, k2, k3⟩ := box_cells hb3 (heap_alloc_new _ _); have hs3 := hb3.size; simp at hs3)
                | (at_builtin; refine wpList_appendL eCall (by rfl) (by rfl) w2.heap.size (lastP l j) [norm c] _ _ (by rfl) (by rfl) (((Ho.out.below (balloc (Below.refl _ _) _)).below hb3).below (balloc (Below.refl _ _) _)) (RowIn.lit w3 (norm c) _ _ _ rfl rfl) (by simp; omega) (by have := hb.size; simp; omega) ?_; intro out4 A4 c4 w4 hout hown4 hg4 _; have Hout := Lib.hid hout; have Ho4 := Lib.hid hown4; have Hg4 := Lib.hid hg4; clear hout hown4 hg4))
              go_roundg (l.length - (j + 1))
              case measure => omega
              case rel => exact ⟨j + 1, hlt, Nat.le_refl _, by go_num, (balloc (bthen (balloc hb _) hb3) _).trans (grown_own Hg4.out Ho.out (by have := hb.size; simp; omega)), by rw [H3.out, ← Hout.out]; exact Ho4.out⟩
          · obtain rfl : k = l.length := by omega
            go_wp2
            go_ret
            exact ⟨_, rfl, by rw [lastR, if_pos HF.out]; exact Ho.out.lower hb12.size, bthen hb12 hb⟩
end Go.Proofs.Ytfnabpmdjfejbaa
