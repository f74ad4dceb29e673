/- maps.Keys, slices.SortedFunc, workq's rising; Waiting, Busy, Dirty. -/
import Derived.Test.YtfegielnmdppgaaJ35
import Derived.Test.YtfegielnmdppgaaJ09
import Derived.Test.YtfegielnmdppgaaJ36
import Derived.Test.YtfegielnmdppgaaJ18
import Derived.Sort.MapsRangeIn
import Derived.RangeFuncSeq
namespace Go.Proofs.Ytfegielnmdppgaa

section
set_option linter.unusedSimpArgs false
set_option linter.unusedVariables false
open Go.RowKit Go.Lib Go.Shelf
attribute [local go_sem] Oper.semAt_some

section
variable {F : Fence} {nF : Nat} {P : Program} {ops : Array Oper} {rest : List Oper} {o : Oper} {a : Act} {w : World} {Q : Exit → Act → World → Prop}
variable {α β : Type} [DecidableEq α] {K : α → Value} {V : β → Value} {b r : Nat} {es pre : List (α × β)} {cnt : Nat}

theorem wpListIn_rangeM (hg : o.guard = none) (m : Operand) (t : TypeId) (hop : o.op = Op.range t m) (k e : TypeId) (ht : P.underlying t = some (.map k e)) (hm : a.eval m = .map (some b)) (hown : MapIn K V w b es)
    (hK : ∀ w', RangeIn K V w' b w.heap.size es [] es.length → w.grownBy w' none → w'.heap.size = w.heap.size + 1 → wpListIn F nF P ops Q rest (a.put o.dst (.pointer (some ⟨w.heap.size, 0, none⟩))) w') :
    wpListIn F nF P ops Q (o :: rest) a w := by
  refine wpListIn_plain hg fun K' hK' => ?_
  obtain ⟨w', hrun, r1, r2, r3⟩ := MapIn.range hown ht
  unfold Oper.wpIn
  refine ⟨?_, ?_⟩
  · simp [Oper.about, hop]
  · rw [Oper.semAt_plain F _ _ (by rw [hop]; intro c hc'; cases hc')]
    simp [execOp, hop, hm, hrun, Result.andThen]
    exact hK' _ _ (hK w' r1 r2 r3)

theorem wpListIn_nextM (hg : o.guard = none) (it : Operand) (hop : o.op = Op.next it false) (inj : ∀ x y, K x = K y → x = y) (hit : a.eval it = .pointer (some ⟨r, 0, none⟩)) (h : RangeIn K V w b r es pre cnt)
    (hDone : cnt = 0 → (pre.map (·.1)).Perm (es.map (·.1)) → wpListIn F nF P ops Q rest (a.put o.dst (.tuple #[.bool false])) w)
    (hMore : ∀ (p : α × β) (w' : World) (cnt' : Nat), p ∈ es → p.1 ∉ pre.map (·.1) → RangeIn K V w' b r es (pre ++ [p]) cnt' → cnt' < cnt → w.grownBy w' (some r) → w'.heap.size = w.heap.size →
      (Instr.entry (.pointer (some ⟨r, 0, none⟩))).run P w' = .ok (.tuple #[K p.1, V p.2]) w' → wpListIn F nF P ops Q rest (a.put o.dst (.tuple #[.bool true, K p.1, V p.2])) w') :
    wpListIn F nF P ops Q (o :: rest) a w := by
  refine wpListIn_plain hg fun K' hK' => ?_
  unfold Oper.wpIn
  refine ⟨by simp [Oper.about, hop], ?_⟩
  rw [Oper.semAt_plain F _ _ (by rw [hop]; intro c hc'; cases hc')]
  rcases h.next (P := P) inj o.type with ⟨h0, hl, hrun⟩ | ⟨p, w', cnt', h1, h2, hrun, hrg, hlt, hgr, hsz, hen⟩
  · simp [execOp, hop, hit, hrun, Result.andThen]
    exact hK' _ _ (hDone h0 hl)
  · simp [execOp, hop, hit, hrun, Result.andThen]
    exact hK' _ _ (hMore p w' cnt' h1 h2 hrg hlt hgr hsz hen)
end

def kyM (pre : List (KO × Unit)) : List Ky := pre.map fun p => p.1.1

set_option maxRecDepth 100000 in
set_option maxHeartbeats 2000000 in
theorem sorted_in (n : Nat) (hn : 4 ≤ n) (gf : Nat) (lb : Array Value) (eg : ∀ args w, (callFunc gf args).run Try.prog w = .ok (.enter gf args) w)
    (S Sp : List Ky → Prop) (N : Nat) (hN : N ≤ 1000000) (hS : ∀ ss, S ss → ss.length ≤ N) (w : World) (hseq : SeqStopsK Fence.wide (n - 1 - 1 - 1) Try.prog gf lb encA (Kp w.heap.size) S Sp N w) :
    CallsIn Fence.wide n Try.prog 40 #[.func (.func gf) #[] lb, .func (.func 24) #[] #[]] w fun e w' => ∃ (v : Value) (ss : List Ky), e = .returned v ∧ S ss ∧ w'.ownsRow w.heap.size 27 2 v ss.length (cellsOfRow keyC (sortL ss)) ∧ Below w.heap.size w w' := by
  have h1 : 1 ≤ n := by omega
  refine callsIn_of_wp Try.func40 rfl trivial ?_ rfl
  simp only [Try.ntmps40, List.size_toArray, List.length_cons, List.length_nil, Nat.reduceAdd, Nat.reduceSub, Array.replicate_succ, Array.replicate_zero, List.push_toArray, List.append_toArray, List.nil_append, List.cons_append]
  gi_wp2_with (first
    | (refine ⟨trivial, ?_⟩; gi_at_call 51; refine (collect_in (n - 1) (by omega) gf lb eg S Sp N hN _ hseq).mono ?_; rintro e w1 ⟨v, ss, rfl, hS1, hrow, hb⟩; obtain ⟨A, c, rfl⟩ := own_form hrow; have HR := Lib.hid hrow; clear hrow)
    | (refine ⟨trivial, ?_⟩; gi_at_call 52; refine CallsIn.mono (callsIn_wide.2 (sort_own _ _ _ HR.out (by have := hS _ hS1; omega))) ?_; rintro e w2 ⟨rfl, hrow2, hg2⟩; have HR2 := Lib.hid hrow2; clear hrow2))
  go_ret
  exact ⟨_, ss, rfl, hS1, HR2.out, hb.trans (grown_below hg2 hb.size (fun k hk => (HR.out.lt k hk).1))⟩

theorem sortL_ris {ss l : List Ky} (hp : ss.Perm l) (hn : l.Nodup) : sortL ss = risL l := by
  have hperm : (sortL ss).Perm ss := List.mergeSort_perm _ _
  refine pair_unique ?_ (risL_pair l) (fun y => by rw [mem_risL, hperm.mem_iff, hp.mem_iff])
  have h1 : (sortL ss).Pairwise (fun a b => (!ltK b a) = true) := List.pairwise_mergeSort (le := fun x y => !ltK y x) (fun a b c h1 h2 => by
    simp only [Bool.not_eq_true'] at *
    cases h : ltK c a with
    | false => rfl
    | true =>
      cases h3 : ltK a b with
      | true => rw [ltK_trans h h3] at h2; cases h2
      | false => have := ltK_total h1 h3; subst this; rw [h] at h2; cases h2) (fun a b => by
    cases h : ltK b a with
    | false => rfl
    | true => simp [ltK_asymm h]) ss
  have h2 : (sortL ss).Nodup := (hperm.trans hp).nodup_iff.2 hn
  refine (List.Pairwise.and h1 h2).imp ?_
  rintro a b ⟨h3, h4⟩
  cases h : ltK a b with
  | true => rfl
  | false => exact absurd (ltK_total h (by simpa using h3)) h4

theorem kys_nodup {l : List KO} (h : l.Nodup) : (kys l).Nodup := by
  unfold kys
  exact List.Pairwise.map _ (fun a b hab e => hab (Subtype.ext e)) h
end

end Go.Proofs.Ytfegielnmdppgaa
