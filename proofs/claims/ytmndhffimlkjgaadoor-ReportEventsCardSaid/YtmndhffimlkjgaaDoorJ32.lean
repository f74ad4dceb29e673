/- The last decisions of keys: the plain law. -/
import Derived.Test.YtmndhffimlkjgaaDoorJ25
import Derived.Test.YtmndhffimlkjgaaDoorJ31
namespace Go.Proofs.YtmndhffimlkjgaaDoor

section
set_option linter.unusedSimpArgs false
set_option linter.unusedVariables false
open Go.RowKit Go.Lib

structure AdvD where
  tick : Int
  load : Int
  want : Int
  repl : Int
  why : Int
def AdvD.ok (a : AdvD) : Prop := I64 a.tick ∧ I64 a.load ∧ I64 a.want ∧ I64 a.repl ∧ I64 a.why
def advV (a : AdvD) : Value := .agg #[.int .i64 a.tick, .int .i64 a.load, .int .i64 a.want, .int .i64 a.repl, .int .i64 a.why]
def advT (a : AdvD) : ByteArray := advS a.tick a.load a.want a.repl a.why
def adv0 : AdvD := ⟨0, 0, 0, 0, 0⟩
theorem adv0_ok : adv0.ok := by unfold AdvD.ok I64 adv0; dsimp only; omega
def advOf (e : EvtD) : AdvD := ⟨e.ntick, e.nload, e.nwant, e.nrepl, e.nwhy⟩
def koOf (p : Ky) : KO := if h : p.1 < 18446744073709551616 ∧ p.2 < 18446744073709551616 then ⟨p, h⟩ else ⟨(0, 0), by decide, by decide⟩
theorem koOf_ok {p : Ky} (h : p.ok) : (koOf p).1 = p := by unfold koOf; rw [dif_pos (show _ ∧ _ from h)]
theorem koOf_inj {p q : Ky} (hp : p.ok) (hq : q.ok) (h : koOf p = koOf q) : p = q := by rw [← koOf_ok hp, ← koOf_ok hq, h]
/-- The decisions that were noted, by their keys, in order. -/
def notedL (es : List EvtD) : List (KO × AdvD) := es.filterMap fun e => if e.kind = 6 then some (koOf (e.hi, e.lo), advOf e) else none
def foldM (l : List (KO × AdvD)) : List (KO × AdvD) := l.foldl (fun m p => putM m p.1 p.2) []
def lastA (l : List (KO × AdvD)) (y : KO) : Option AdvD := l.foldl (fun r p => if p.1 = y then some p.2 else r) none
theorem findM_putM {α β : Type} [DecidableEq α] (es : List (α × β)) (x y : α) (v : β) : findM (putM es x v) y = if y = x then some v else findM es y := by
  unfold putM
  cases h : hasM es x with
  | false =>
    simp only [Bool.false_eq_true, if_false]
    unfold findM
    rw [List.find?_append]
    by_cases hy : y = x
    · subst hy
      rw [if_pos rfl]
      have := findM_none h
      unfold findM at this
      simp only [Option.map_eq_none_iff] at this
      rw [this]
      simp
    · rw [if_neg hy]
      have : ([(x, v)] : List (α × β)).find? (fun p => decide (p.1 = y)) = none := by simp [Ne.symm hy]
      rw [this, Option.or_none]
  | true =>
    simp only [if_true]
    unfold findM
    induction es with
    | nil => simp [hasM] at h
    | cons p es ih =>
      simp only [List.map_cons]
      by_cases hpx : p.1 = x
      · simp only [hpx, if_true]
        by_cases hy : y = x
        · subst hy; simp
        · rw [if_neg hy, List.find?_cons, List.find?_cons]
          simp only [hpx, Ne.symm hy, decide_false, Bool.false_eq_true]
          clear ih h
          induction es with
          | nil => rfl
          | cons q es ih =>
            simp only [List.map_cons]
            by_cases hqx : q.1 = x
            · simp only [hqx, if_true, List.find?_cons, Ne.symm hy, decide_false]
              exact ih
            · simp only [hqx, if_false, List.find?_cons]
              by_cases hqy : q.1 = y
              · simp [hqy]
              · simp only [hqy, decide_false]; exact ih
      · simp only [hpx, if_false, List.find?_cons]
        by_cases hpy : p.1 = y
        · have : ¬ y = x := by rw [← hpy]; exact hpx
          simp [hpy, this]
        · simp only [hpy, decide_false]
          refine ih ?_
          unfold hasM at h ⊢
          simpa [hpx] using h
theorem foldM_snoc (l : List (KO × AdvD)) (p : KO × AdvD) : foldM (l ++ [p]) = putM (foldM l) p.1 p.2 := by simp [foldM]
theorem lastA_snoc (l : List (KO × AdvD)) (p : KO × AdvD) (y : KO) : lastA (l ++ [p]) y = if p.1 = y then some p.2 else lastA l y := by simp [lastA]
theorem foldM_find (l : List (KO × AdvD)) (y : KO) : findM (foldM l) y = lastA l y := by
  have h : ∀ n (l : List (KO × AdvD)), l.length = n → findM (foldM l) y = lastA l y := by
    intro n
    induction n with
    | zero => intro l hl; rw [List.eq_nil_of_length_eq_zero hl]; rfl
    | succ n ih =>
      intro l hl
      obtain ⟨m, p, rfl⟩ : ∃ m p, l = m ++ [p] := ⟨l.dropLast, l.getLast (by intro e; simp [e] at hl), (List.dropLast_concat_getLast _).symm⟩
      rw [foldM_snoc, lastA_snoc, findM_putM, ih m (by simpa using hl)]
      by_cases e : y = p.1
      · rw [if_pos e, if_pos e.symm]
      · rw [if_neg e, if_neg (Ne.symm e)]
  exact h _ l rfl
theorem notedL_snoc (es : List EvtD) (e : EvtD) : notedL (es ++ [e]) = notedL es ++ (if e.kind = 6 then [(koOf (e.hi, e.lo), advOf e)] else []) := by
  unfold notedL
  rw [List.filterMap_append]
  congr 1
  by_cases h : e.kind = 6
  · simp [h]
  · simp [h]
theorem notedL_len (es : List EvtD) : (notedL es).length ≤ es.length := List.length_filterMap_le _ _
theorem notedL_ok (es : List EvtD) (h : ∀ e ∈ es, e.ok) : ∀ p ∈ notedL es, p.2.ok := by
  intro p hp
  obtain ⟨e, he, hq⟩ := List.mem_filterMap.1 hp
  by_cases hk : e.kind = 6
  · rw [if_pos hk] at hq
    obtain rfl := Option.some.inj hq
    exact (h e he).adv
  · rw [if_neg hk] at hq; cases hq
theorem lastA_ok {l : List (KO × AdvD)} (h : ∀ p ∈ l, p.2.ok) (y : KO) : ((lastA l y).getD adv0).ok := by
  have h2 : ∀ n (l : List (KO × AdvD)), l.length = n → (∀ p ∈ l, p.2.ok) → ((lastA l y).getD adv0).ok := by
    intro n
    induction n with
    | zero => intro l hl _; rw [List.eq_nil_of_length_eq_zero hl]; exact adv0_ok
    | succ n ih =>
      intro l hl h
      obtain ⟨m, p, rfl⟩ : ∃ m p, l = m ++ [p] := ⟨l.dropLast, l.getLast (by intro e; simp [e] at hl), (List.dropLast_concat_getLast _).symm⟩
      rw [lastA_snoc]
      by_cases e : p.1 = y
      · rw [if_pos e]; exact h p (by simp)
      · rw [if_neg e]; exact ih m (by simpa using hl) (fun q hq => h q (by simp [hq]))
  exact h2 _ l rfl h
def notedK (es : List EvtD) : List Ky := (notedL es).map (·.1.1)
def lastLn (es : List EvtD) (k : Ky) : ByteArray := nm k ++ ⟨#[32]⟩ ++ advT ((lastA (notedL es) (koOf k)).getD adv0)
/-- The last decisions' lines. -/
def lastL (es : List EvtD) : List ByteArray := (risL (notedK es)).map (lastLn es)
end

end Go.Proofs.YtmndhffimlkjgaaDoor
