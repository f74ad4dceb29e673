/- The laws of JournalCuts. -/
import Derived.Test.YtfnabpmdjfejbaaDoorJLog
import Derived.Test.YtfnabpmdjfejbaaDoorJRead
namespace Go.Proofs.YtfnabpmdjfejbaaDoor
set_option linter.unusedSimpArgs false
set_option linter.unusedVariables false
open Go.RowKit Go.Lib

theorem eInt : EltOf 63 3 1 8 (.int .i64 0) numC :=
  ⟨by kernel_rfl, by kernel_rfl, rfl, by decide, by decide, fun _ => rfl, fun x u hu => by
    simp only [numC, List.mem_cons, List.not_mem_nil, or_false] at hu
    subst hu
    rfl⟩

/-- The calls that may be, Bare; their lengths. -/
def mayC (l : List CallD) : List CallD := l.flatMap fun c => if textE c = 0 then [bareC c] else []
def endsC (m : List CallD) : List Int := m.map fun c => ((putB c).length : Int)
theorem mayC_snoc (l : List CallD) (c : CallD) : mayC (l ++ [c]) = mayC l ++ (if textE c = 0 then [bareC c] else []) := by simp [mayC]
theorem mayC_take {l : List CallD} {k : Nat} (h : k < l.length) : mayC (l.take (k + 1)) = mayC (l.take k) ++ (if textE l[k] = 0 then [bareC l[k]] else []) := by
  rw [List.take_succ_eq_append_getElem h, mayC_snoc]
theorem mayC_len (l : List CallD) : (mayC l).length ≤ l.length := by
  induction l with
  | nil => simp [mayC]
  | cons c l ih =>
    have e : mayC (c :: l) = (if textE c = 0 then [bareC c] else []) ++ mayC l := rfl
    rw [e, List.length_append, List.length_cons]
    have : (if textE c = 0 then [bareC c] else []).length ≤ 1 := by split <;> simp
    omega
theorem mayC_ok {l : List CallD} (h : ∀ c ∈ l, c.ok) : ∀ c ∈ mayC l, c.ok ∧ textE c = 0 ∧ bareC c = c := by
  intro c hc
  unfold mayC at hc
  obtain ⟨d, hd, hc⟩ := List.mem_flatMap.1 hc
  split at hc
  · rename_i he
    obtain rfl := List.mem_singleton.1 hc
    exact ⟨bareC_ok (h d hd), bare_text he, bare_bare d⟩
  · cases hc
theorem endsC_len (m : List CallD) : (endsC m).length = m.length := by simp [endsC]
theorem endsC_snoc (m : List CallD) (c : CallD) : endsC (m ++ [bareC c]) = endsC m ++ [((putB c).length : Int)] := by simp [endsC, put_bare]
theorem flatP_snoc (m : List CallD) (c : CallD) : flatP (m ++ [bareC c]) = flatP m ++ putB c := by simp [flatP, put_bare]

structure CutInv (w : World) (J : Nat) (vb s6 s7 : Value) (lb : List UInt8) (n : Nat) (m : List CallD) (en : List Int) : Prop where
  log : LogAt w J vb lb n
  may : OwnL callCells 25 11 (J + 1) w s6 m
  ends : OwnL numC 3 1 (J + 1) w s7 en
  ap1 : ∀ r, vb.ownBlock = some r → s6.ownBlock ≠ some r
  ap2 : ∀ r, vb.ownBlock = some r → s7.ownBlock ≠ some r
  ap3 : ∀ r, s6.ownBlock = some r → s7.ownBlock ≠ some r
theorem CutInv.below {w w' : World} {J n : Nat} {vb s6 s7 : Value} {lb : List UInt8} {m : List CallD} {en : List Int} (h : CutInv w J vb s6 s7 lb n m en) (hb : Below w.heap.size w w') : CutInv w' J vb s6 s7 lb n m en :=
  ⟨h.log.below hb, h.may.below hb, h.ends.below hb, h.ap1, h.ap2, h.ap3⟩
theorem CutInv.add {w w' : World} {J n n' : Nat} {vb s6 s7 : Value} {lb lb' : List UInt8} {m : List CallD} {en : List Int} (h : CutInv w J vb s6 s7 lb n m en) {vb' : Value}
    (h1 : LogAt w' J vb' lb' n') (h2 : Turn w w' (J :: vb.ownBlock.toList)) (h3 : vb'.ownBlock = vb.ownBlock ∨ ∃ r, vb'.ownBlock = some r ∧ w.heap.size ≤ r) : CutInv w' J vb' s6 s7 lb' n' m en := by
  have k6 : ∀ r, s6.ownBlock = some r → w'.heap[r]? = w.heap[r]? := fun r hr => by
    have := h.may.lt hr
    refine h2.block r this.2 (fun hm => ?_)
    rcases List.mem_cons.1 hm with e | e
    · omega
    · exact h.ap1 r (by simpa using e) hr
  have k7 : ∀ r, s7.ownBlock = some r → w'.heap[r]? = w.heap[r]? := fun r hr => by
    have := h.ends.lt hr
    refine h2.block r this.2 (fun hm => ?_)
    rcases List.mem_cons.1 hm with e | e
    · omega
    · exact h.ap2 r (by simpa using e) hr
  refine ⟨h1, h.may.kept k6, h.ends.kept k7, fun r hr hr6 => ?_, fun r hr hr7 => ?_, h.ap3⟩
  · rcases h3 with e | ⟨q, e, hq⟩
    · exact h.ap1 r (by rw [← e]; exact hr) hr6
    · have := h.may.lt hr6
      rw [e] at hr
      injection hr
      omega
  · rcases h3 with e | ⟨q, e, hq⟩
    · exact h.ap2 r (by rw [← e]; exact hr) hr7
    · have := h.ends.lt hr7
      rw [e] at hr
      injection hr
      omega
theorem CutInv.grow6 {w w' : World} {J n : Nat} {vb s6 s7 : Value} {lb : List UInt8} {m m' : List CallD} {en : List Int} (h : CutInv w J vb s6 s7 lb n m en) {s6' : Value}
    (h1 : OwnL callCells 25 11 (J + 1) w' s6' m') (hg : w.grownBy w' s6.ownBlock) (h3 : s6'.ownBlock = s6.ownBlock ∨ s6'.ownBlock = some w.heap.size) : CutInv w' J vb s6' s7 lb n m' en := by
  have hJ : J < w.heap.size := (Array.getElem?_eq_some_iff.1 h.log.1).1
  have kb : ∀ r, vb.ownBlock = some r → w'.heap[r]? = w.heap[r]? := fun r hr => hg.block r (h.log.2.lt hr).2 (fun e => h.ap1 r hr e.symm)
  have k7 : ∀ r, s7.ownBlock = some r → w'.heap[r]? = w.heap[r]? := fun r hr => hg.block r (h.ends.lt hr).2 (fun e => h.ap3 r e.symm hr)
  refine ⟨⟨(hg.block J hJ (fun e => by have := h.may.lt e.symm; omega)).trans h.log.1, h.log.2.kept kb⟩, h1, h.ends.kept k7, fun r hr hr6 => ?_, h.ap2, fun r hr hr7 => ?_⟩
  · rcases h3 with e | e
    · exact h.ap1 r hr (by rw [← e]; exact hr6)
    · have := h.log.2.lt hr
      rw [e] at hr6
      injection hr6
      omega
  · rcases h3 with e | e
    · exact h.ap3 r (by rw [← e]; exact hr) hr7
    · have := h.ends.lt hr7
      rw [e] at hr
      injection hr
      omega
theorem CutInv.grow7 {w w' : World} {J n : Nat} {vb s6 s7 : Value} {lb : List UInt8} {m : List CallD} {en en' : List Int} (h : CutInv w J vb s6 s7 lb n m en) {s7' : Value}
    (h1 : OwnL numC 3 1 (J + 1) w' s7' en') (hg : w.grownBy w' s7.ownBlock) (h3 : s7'.ownBlock = s7.ownBlock ∨ s7'.ownBlock = some w.heap.size) : CutInv w' J vb s6 s7' lb n m en' := by
  have hJ : J < w.heap.size := (Array.getElem?_eq_some_iff.1 h.log.1).1
  have kb : ∀ r, vb.ownBlock = some r → w'.heap[r]? = w.heap[r]? := fun r hr => hg.block r (h.log.2.lt hr).2 (fun e => h.ap2 r hr e.symm)
  have k6 : ∀ r, s6.ownBlock = some r → w'.heap[r]? = w.heap[r]? := fun r hr => hg.block r (h.may.lt hr).2 (fun e => h.ap3 r hr e.symm)
  refine ⟨⟨(hg.block J hJ (fun e => by have := h.ends.lt e.symm; omega)).trans h.log.1, h.log.2.kept kb⟩, h.may.kept k6, h1, h.ap1, fun r hr hr7 => ?_, fun r hr hr7 => ?_⟩
  · rcases h3 with e | e
    · exact h.ap2 r hr (by rw [← e]; exact hr7)
    · have := h.log.2.lt hr
      rw [e] at hr7
      injection hr7
      omega
  · rcases h3 with e | e
    · exact h.ap3 r hr (by rw [← e]; exact hr7)
    · have := h.may.lt hr
      rw [e] at hr7
      injection hr7
      omega

/-- What was read, as far as the loop over the calls has come. -/
def CutAt (m : List CallD) (k : Nat) (got : List CallD) (n i a : Nat) : Prop :=
  a ≤ k ∧ i ≤ m.length ∧ got = m.take i ++ (cutR (m.drop i) (k - a)).1 ∧ n = a + (cutR (m.drop i) (k - a)).2
theorem CutAt.start (m : List CallD) (k : Nat) : CutAt m k (cutR m k).1 (cutR m k).2 0 0 := ⟨Nat.zero_le _, Nat.zero_le _, by simp, by simp⟩
theorem CutAt.stop {m got : List CallD} {k n i a : Nat} (h : CutAt m k got n i a) (hi : i < m.length) (hk : k < a + (putB m[i]).length) : got.length = i ∧ n = a := by
  obtain ⟨h1, h2, h3, h4⟩ := h
  rw [List.drop_eq_getElem_cons hi, cutR, if_neg (by omega)] at h3 h4
  rw [h3, h4]
  simp
  omega
theorem CutAt.next {m got : List CallD} {k n i a : Nat} (h : CutAt m k got n i a) (hi : i < m.length) (hk : ¬ k < a + (putB m[i]).length) : ∃ hg : i < got.length, got[i] = m[i] ∧ CutAt m k got n (i + 1) (a + (putB m[i]).length) := by
  obtain ⟨h1, h2, h3, h4⟩ := h
  have hx : k - a - (putB m[i]).length = k - (a + (putB m[i]).length) := by omega
  rw [List.drop_eq_getElem_cons hi, cutR, if_pos (by omega), hx] at h3 h4
  dsimp only at h3 h4
  have e1 : m.take (i + 1) = m.take i ++ [m[i]] := List.take_succ_eq_append_getElem hi
  refine ⟨by rw [h3]; simp; omega, ?_, by omega, hi, by rw [h3, e1, List.append_assoc]; rfl, by rw [h4]; omega⟩
  simp only [h3]
  rw [List.getElem_append_right (by simp; omega)]
  simp [Nat.min_eq_left (Nat.le_of_lt hi)]
theorem CutAt.done {m got : List CallD} {k n a : Nat} (h : CutAt m k got n m.length a) : got.length = m.length ∧ n = a := by
  obtain ⟨h1, h2, h3, h4⟩ := h
  rw [List.drop_length] at h3 h4
  rw [h3, h4]
  simp [cutR]
end Go.Proofs.YtfnabpmdjfejbaaDoor
