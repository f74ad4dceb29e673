/- Lists of calls in memory; batch.Fine, the reference's Fine, Same. -/
import Derived.Test.YtfnabpmdjfejbaaSeqs
import Derived.Test.YtfnabpmdjfejbaaCallRef
import Derived.Test.YtfnabpmdjfejbaaQAdd
namespace Go.Proofs.Ytfnabpmdjfejbaa
set_option linter.unusedSimpArgs false
set_option linter.unusedVariables false
open Go.RowKit Go.Lib

theorem eCall : EltOf 54 102 11 96 (.agg #[.int .i64 0, .string ⟨#[]⟩, .int .i64 0, .int .i64 0, .int .i64 0, .int .i64 0, .int .i64 0, .int .i64 0, .int .i64 0, .int .i64 0, .int .i64 0]) callCells :=
  ⟨by kernel_rfl, by kernel_rfl, rfl, by decide, by decide, fun _ => rfl, fun x u hu => by
    simp only [callCells, List.mem_cons, List.not_mem_nil, or_false] at hu
    rcases hu with rfl | rfl | rfl | rfl | rfl | rfl | rfl | rfl | rfl | rfl | rfl <;> rfl⟩

/-- A call's cells at a place. -/
def CallIn (w : World) (b o : Nat) (x : CallD) : Prop :=
  w.cell? ⟨b, o, none⟩ = some (.int .i64 x.kind) ∧ w.cell? ⟨b, o + 1, none⟩ = some (.string x.id) ∧ w.cell? ⟨b, o + 2, none⟩ = some (.int .i64 x.tick) ∧ w.cell? ⟨b, o + 3, none⟩ = some (.int .i64 x.val) ∧ w.cell? ⟨b, o + 4, none⟩ = some (.int .i64 x.handle) ∧
  w.cell? ⟨b, o + 5, none⟩ = some (.int .i64 x.pol.mn) ∧ w.cell? ⟨b, o + 6, none⟩ = some (.int .i64 x.pol.mx) ∧ w.cell? ⟨b, o + 7, none⟩ = some (.int .i64 x.pol.tg) ∧ w.cell? ⟨b, o + 8, none⟩ = some (.int .i64 x.pol.tol) ∧ w.cell? ⟨b, o + 9, none⟩ = some (.int .i64 x.pol.win) ∧ w.cell? ⟨b, o + 10, none⟩ = some (.int .i64 x.pol.hold)

theorem calls_at {w : World} {A : Option Addr} {m c : Nat} {l : List CallD} (h : RowIn 11 callCells w (.slice A m c) l) {k : Nat} (hk : k < l.length) :
    ∃ b o, A = some ⟨b, o, none⟩ ∧ b < w.heap.size ∧ ∀ W, Below w.heap.size w W → CallIn W b (o + k * 11) l[k] := by
  obtain ⟨b, o, hA, hb, hc⟩ := h.at_ hk
  have hW : ∀ W, Below w.heap.size w W → ∀ j u, (callCells l[k])[j]? = some u → W.cell? ⟨b, o + k * 11 + j, none⟩ = some u := fun W hW j u hu => (hW.cell (p := ⟨b, _, none⟩) hb).trans (hc j u hu)
  exact ⟨b, o, hA, hb, fun W h => ⟨hW W h 0 _ rfl, hW W h 1 _ rfl, hW W h 2 _ rfl, hW W h 3 _ rfl, hW W h 4 _ rfl, hW W h 5 _ rfl, hW W h 6 _ rfl, hW W h 7 _ rfl, hW W h 8 _ rfl, hW W h 9 _ rfl, hW W h 10 _ rfl⟩⟩

def fineB1 (c : CallD) : Bool := decide (c.kind = 1) && decide (chkC c = 0)
def fineB (l : List CallD) : Bool := l.all fineB1
theorem fineB_take {l : List CallD} {k : Nat} (h : k < l.length) : fineB (l.take (k + 1)) = (fineB (l.take k) && fineB1 l[k]) := by
  unfold fineB
  rw [List.take_succ_eq_append_getElem h, List.all_append]
  simp
theorem fineB_bad {l : List CallD} {k : Nat} (h : k < l.length) (hb : fineB1 l[k] = false) : fineB l = false := by
  unfold fineB
  rw [List.all_eq_false]
  exact ⟨_, List.getElem_mem h, by simp [hb]⟩

abbrev RetB (w : World) (b : Bool) (e : Ending) (w' : World) : Prop := e = .returned (.bool b) ∧ Below w.heap.size w w'

set_option maxRecDepth 100000 in
set_option maxHeartbeats 2000000 in
theorem fine_any (v : Value) (l : List CallD) (w : World) (hv : RowIn 11 callCells w v l) (hok : ∀ p ∈ l, p.ok) (hl : l.length ≤ 1000000) :
    Calls Try.prog 24 #[v] w (RetB w (fineB l)) := by
  obtain ⟨A, c, rfl⟩ := hv.form
  have HV := Lib.hid hv
  have HO := Lib.hid hok
  clear hv hok
  go_enter Try.func24, Try.ntmps24
  go_wp2
  go_loopg [7] l.length (fun g s7 wr => ∃ k : Nat, k ≤ l.length ∧ l.length - k ≤ g ∧ s7 = .int .i64 k ∧ Below w.heap.size w wr ∧ fineB (l.take k) = true)
  case atStart => exact ⟨0, Nat.zero_le _, Nat.le_refl _, rfl, Below.refl _ _, rfl⟩
  case round =>
    obtain ⟨k, hk, hg, rfl, hb, hf⟩ := hrel
    have HF := Lib.hid hf
    clear hf
    by_cases hlt : k < l.length
    · obtain ⟨b, o, rfl, hbl, hc⟩ := calls_at HV.out hlt
      obtain ⟨q0, q1, q2, q3, q4, q5, q6, q7, q8, q9, q10⟩ := hc wr hb
      clear hc
      have hxok := HO.out _ (List.getElem_mem hlt)
      have HT := Lib.hid (fineB_take hlt)
      have HB := Lib.hid (fun h => fineB_bad hlt h)
      generalize l[k] = x at q0 q1 q2 q3 q4 q5 q6 q7 q8 q9 q10 hxok HT HB
      have hk0 : (0 : Int) ≤ (k : Int) := by omega
      by_cases e1 : x.kind = 1
      · have E1 := Lib.hid e1
        rw [e1] at q0
        have C := storeCheck_any x
        simp only [callV, e1] at C
        have HC := Lib.hid C
        clear e1 C
        by_cases e2 : chkC x = 0
        · have h1 : fineB1 x = true := by simp [fineB1, E1.out, e2]
          have H1 := Lib.hid h1
          have E2 := Lib.hid e2
          clear e2 h1
          go_wp2_with (go_at_call 57; refine (HC.out _ hxok).mono ?_; rw [E2.out]; rintro e w1 ⟨rfl, hb1⟩)
          go_roundg (l.length - (k + 1))
          case measure => omega
          case rel => exact ⟨k + 1, hlt, Nat.le_refl _, by go_num, bthen (balloc hb _) hb1, by rw [HT.out, HF.out, H1.out]; rfl⟩
        · have h1 : fineB1 x = false := by simp [fineB1, e2]
          have H1 := Lib.hid (HB.out h1)
          have e3 : (chkC x == 0) = false := by simpa using e2
          clear e2 h1
          go_wp2_with (go_at_call 57; refine (HC.out _ hxok).mono ?_; rintro e w1 ⟨rfl, hb1⟩)
          go_ret
          exact ⟨ret_bool H1.out.symm, bthen (balloc hb _) hb1⟩
      · have h1 : fineB1 x = false := by simp [fineB1, e1]
        have H1 := Lib.hid (HB.out h1)
        have e3 : (x.kind == 1) = false := by simpa using e1
        have e4 : (x.kind != 1) = true := by simpa using e1
        clear e1 h1
        go_wp2
        go_ret
        exact ⟨ret_bool H1.out.symm, balloc hb _⟩
    · obtain rfl : k = l.length := by omega
      have H1 := HF.out
      rw [List.take_length] at H1
      have HH := Lib.hid H1
      clear H1
      go_wp2
      go_ret
      exact ⟨ret_bool HH.out.symm, hb⟩

set_option maxRecDepth 100000 in
set_option maxHeartbeats 2000000 in
theorem rfine_any (v : Value) (l : List CallD) (w : World) (hv : RowIn 11 callCells w v l) (hok : ∀ p ∈ l, p.ok) (hl : l.length ≤ 1000000) :
    Calls Try.prog 25 #[v] w (RetB w (fineB l)) := by
  obtain ⟨A, c, rfl⟩ := hv.form
  have HV := Lib.hid hv
  have HO := Lib.hid hok
  clear hv hok
  go_enter Try.func25, Try.ntmps25
  go_wp2
  go_loopg [3] l.length (fun g s7 wr => ∃ k : Nat, k ≤ l.length ∧ l.length - k ≤ g ∧ s7 = .int .i64 k ∧ Below w.heap.size w wr ∧ fineB (l.take k) = true)
  case atStart => exact ⟨0, Nat.zero_le _, Nat.le_refl _, rfl, Below.refl _ _, rfl⟩
  case round =>
    obtain ⟨k, hk, hg, rfl, hb, hf⟩ := hrel
    have HF := Lib.hid hf
    clear hf
    by_cases hlt : k < l.length
    · obtain ⟨b, o, rfl, hbl, hc⟩ := calls_at HV.out hlt
      obtain ⟨q0, q1, q2, q3, q4, q5, q6, q7, q8, q9, q10⟩ := hc wr hb
      clear hc
      have hxok := HO.out _ (List.getElem_mem hlt)
      have HT := Lib.hid (fineB_take hlt)
      have HB := Lib.hid (fun h => fineB_bad hlt h)
      generalize l[k] = x at q0 q1 q2 q3 q4 q5 q6 q7 q8 q9 q10 hxok HT HB
      have hk0 : (0 : Int) ≤ (k : Int) := by omega
      by_cases e1 : x.kind = 1
      · have E1 := Lib.hid e1
        rw [e1] at q0
        have C := ref21Check_any x
        simp only [callV, e1] at C
        have HC := Lib.hid C
        clear e1 C
        by_cases e2 : chkC x = 0
        · have h1 : fineB1 x = true := by simp [fineB1, E1.out, e2]
          have H1 := Lib.hid h1
          have E2 := Lib.hid e2
          clear e2 h1
          go_wp2_with (go_at_call 58; refine (HC.out _ hxok).mono ?_; rw [E2.out]; rintro e w1 ⟨rfl, hb1⟩)
          go_roundg (l.length - (k + 1))
          case measure => omega
          case rel => exact ⟨k + 1, hlt, Nat.le_refl _, by go_num, bthen hb hb1, by rw [HT.out, HF.out, H1.out]; rfl⟩
        · have h1 : fineB1 x = false := by simp [fineB1, e2]
          have H1 := Lib.hid (HB.out h1)
          have e3 : (chkC x == 0) = false := by simpa using e2
          clear e2 h1
          go_wp2_with (go_at_call 58; refine (HC.out _ hxok).mono ?_; rintro e w1 ⟨rfl, hb1⟩)
          go_ret
          exact ⟨ret_bool H1.out.symm, bthen hb hb1⟩
      · have h1 : fineB1 x = false := by simp [fineB1, e1]
        have H1 := Lib.hid (HB.out h1)
        have e3 : (x.kind == 1) = false := by simpa using e1
        have e4 : (x.kind != 1) = true := by simpa using e1
        clear e1 h1
        go_wp2
        go_ret
        exact ⟨ret_bool H1.out.symm, hb⟩
    · obtain rfl : k = l.length := by omega
      have H1 := HF.out
      rw [List.take_length] at H1
      have HH := Lib.hid H1
      clear H1
      go_wp2
      go_ret
      exact ⟨ret_bool HH.out.symm, hb⟩

end Go.Proofs.Ytfnabpmdjfejbaa
