/- The sort of calls: plain law, slices.SortFunc at calls, batch.Sort. -/
import Derived.Test.YtfnabpmdjfejbaaBSort
namespace Go.Proofs.Ytfnabpmdjfejbaa
set_option linter.unusedSimpArgs false
set_option linter.unusedVariables false
open Go.RowKit Go.Lib Go.Sort Go.Shelf

def insN (x : CallD) : List CallD → List CallD
  | [] => [x]
  | b :: out => if ltN b x = true then b :: insN x out else x :: b :: out
def isortN (l : List CallD) : List CallD := l.foldl (fun out x => insN x out) []
theorem isortN_succ (l : List CallD) (k : Nat) (h : k < l.length) : isortN (l.take (k + 1)) = insN l[k] (isortN (l.take k)) := by
  unfold isortN
  rw [List.take_succ_eq_append_getElem h, List.foldl_append]
  rfl
theorem mem_insN (x y : CallD) : ∀ out, y ∈ insN x out ↔ y = x ∨ y ∈ out
  | [] => by simp [insN]
  | b :: out => by
    unfold insN
    split
    · rw [List.mem_cons, mem_insN x y out, List.mem_cons]
      constructor
      · rintro (h | h | h) <;> simp [h]
      · rintro (h | h | h) <;> simp [h]
    · simp
theorem len_insN (x : CallD) : ∀ out, (insN x out).length = out.length + 1
  | [] => rfl
  | b :: out => by
    unfold insN
    split
    · simp [len_insN x out]
    · rfl
theorem foldl_insN_mem (y : CallD) : ∀ (l out : List CallD), y ∈ l.foldl (fun out x => insN x out) out ↔ y ∈ l ∨ y ∈ out
  | [], out => by simp
  | a :: l, out => by
    rw [List.foldl_cons, foldl_insN_mem y l, mem_insN, List.mem_cons]
    constructor
    · rintro (h | h | h) <;> simp [h]
    · rintro ((h | h) | h) <;> simp [h]
theorem mem_isortN (l : List CallD) (y : CallD) : y ∈ isortN l ↔ y ∈ l := by
  unfold isortN
  rw [foldl_insN_mem]
  simp
theorem foldl_insN_len : ∀ (l out : List CallD), (l.foldl (fun out x => insN x out) out).length = l.length + out.length
  | [], out => by simp
  | a :: l, out => by rw [List.foldl_cons, foldl_insN_len l, len_insN, List.length_cons]; omega
theorem len_isortN (l : List CallD) : (isortN l).length = l.length := by
  unfold isortN
  rw [foldl_insN_len]
  rfl
theorem insN_pair (x : CallD) : ∀ out : List CallD, out.Pairwise (fun a b => ltN a b = true) → (∀ y ∈ out, ltN y x = true ∨ ltN x y = true) → (insN x out).Pairwise (fun a b => ltN a b = true)
  | [], _, _ => List.pairwise_singleton _ _
  | b :: out, h, ht => by
    rw [List.pairwise_cons] at h
    unfold insN
    split
    · rename_i hb
      rw [List.pairwise_cons]
      refine ⟨fun y hy => ?_, insN_pair x out h.2 (fun y hy => ht y (List.mem_cons_of_mem _ hy))⟩
      rcases (mem_insN x y out).1 hy with rfl | hy
      · exact hb
      · exact h.1 y hy
    · rename_i hb
      have hxb : ltN x b = true := (ht b (List.mem_cons_self ..)).resolve_left hb
      rw [List.pairwise_cons, List.pairwise_cons]
      refine ⟨fun y hy => ?_, h⟩
      rcases List.mem_cons.1 hy with rfl | hy
      · exact hxb
      · exact ltN_trans hxb (h.1 y hy)
theorem foldl_insN_pair : ∀ (l out : List CallD), out.Pairwise (fun a b => ltN a b = true) → (∀ c ∈ l, FineC c) → (∀ c ∈ out, FineC c) → (out ++ l).Pairwise (fun a b => sp a b = false) → (l.foldl (fun out x => insN x out) out).Pairwise (fun a b => ltN a b = true)
  | [], out, h, _, _, _ => h
  | a :: l, out, h, hf, ho, hp => by
    rw [List.foldl_cons]
    have hp2 := List.pairwise_append.1 hp
    have hp3 := List.pairwise_cons.1 hp2.2.1
    refine foldl_insN_pair l (insN a out) (insN_pair a out h fun y hy => ?_) (fun c hc => hf c (List.mem_cons_of_mem _ hc)) (fun c hc => ?_) ?_
    · cases h1 : ltN y a with
      | true => exact .inl rfl
      | false =>
        cases h2 : ltN a y with
        | true => exact .inr rfl
        | false =>
          have h3 := hp2.2.2 y hy a (List.mem_cons_self ..)
          rw [ltN_total (ho y hy).2 (hf a (List.mem_cons_self ..)).2 h1 h2] at h3
          cases h3
    · rcases (mem_insN a c out).1 hc with rfl | hc
      · exact hf _ (List.mem_cons_self ..)
      · exact ho c hc
    · have hsym : ∀ {x y : CallD}, sp x y = false → sp y x = false := fun {x y} h => by
        cases h2 : sp y x with
        | false => rfl
        | true =>
          have := (sp_iff _ _).1 h2
          rw [(sp_iff x y).2 ⟨this.1.symm, this.2.symm⟩] at h
          cases h
      have hio : (insN a out).Pairwise (fun a b => sp a b = false) := by
        clear hp hp3 hf ho h
        have h4 := hp2.2.2
        have h5 := hp2.1
        clear hp2
        induction out with
        | nil => exact List.pairwise_singleton _ _
        | cons b out ih =>
          unfold insN
          rw [List.pairwise_cons] at h5
          split
          · rw [List.pairwise_cons]
            refine ⟨fun y hy => ?_, ih (fun x hx => h4 x (List.mem_cons_of_mem _ hx)) h5.2⟩
            rcases (mem_insN a y out).1 hy with rfl | hy
            · exact h4 b (List.mem_cons_self ..) _ (List.mem_cons_self ..)
            · exact h5.1 y hy
          · rw [List.pairwise_cons, List.pairwise_cons]
            refine ⟨fun y hy => hsym (h4 y hy a (List.mem_cons_self ..)), h5⟩
      rw [List.pairwise_append]
      refine ⟨hio, hp3.2, fun x hx y hy => ?_⟩
      rcases (mem_insN a x out).1 hx with rfl | hx
      · exact hp3.1 y hy
      · exact hp2.2.2 x hx y (List.mem_cons_of_mem _ hy)
theorem isortN_pair (l : List CallD) (hf : ∀ c ∈ l, FineC c) (hp : l.Pairwise (fun a b => sp a b = false)) : (isortN l).Pairwise (fun a b => ltN a b = true) :=
  foldl_insN_pair l [] List.Pairwise.nil hf (fun _ h => by simp at h) (by simpa using hp)

theorem pairN_unique : ∀ {l m : List CallD}, l.Pairwise (fun a b => ltN a b = true) → m.Pairwise (fun a b => ltN a b = true) → (∀ y, y ∈ l ↔ y ∈ m) → l = m
  | [], [], _, _, _ => rfl
  | [], b :: m, _, _, h => absurd ((h b).2 (by simp)) (by simp)
  | a :: l, [], _, _, h => absurd ((h a).1 (by simp)) (by simp)
  | a :: l, b :: m, h1, h2, h => by
    rw [List.pairwise_cons] at h1 h2
    have e : a = b := by
      have ha := (h a).1 (by simp)
      have hb := (h b).2 (by simp)
      rcases List.mem_cons.1 ha with e | ha
      · exact e
      · rcases List.mem_cons.1 hb with e | hb
        · exact e.symm
        · have := ltN_trans (h1.1 b hb) (h2.1 a ha)
          rw [ltN_irrefl] at this
          exact absurd this (by simp)
    subst e
    congr 1
    refine pairN_unique h1.2 h2.2 fun y => ?_
    have hy := h y
    simp only [List.mem_cons] at hy
    constructor
    · intro hm
      rcases hy.1 (.inr hm) with rfl | h'
      · have := h1.1 _ hm; rw [ltN_irrefl] at this; cases this
      · exact h'
    · intro hm
      rcases hy.2 (.inr hm) with rfl | h'
      · have := h2.1 _ hm; rw [ltN_irrefl] at this; cases this
      · exact h'

theorem insN_at (x : CallD) : ∀ (out : List CallD) (a : Nat), a ≤ out.length → (∀ j (h : j < out.length), j < a → ltN out[j] x = true) → (∀ h : a < out.length, ltN out[a] x = false) → insN x out = out.take a ++ (x :: out.drop a)
  | [], a, ha, _, _ => by
    obtain rfl : a = 0 := by simpa using ha
    rfl
  | b :: out, 0, _, _, h0 => by
    have := h0 (by simp)
    simp only [List.getElem_cons_zero] at this
    rw [insN, this]
    simp
  | b :: out, a + 1, ha, h1, h0 => by
    have hb := h1 0 (by simp) (by omega)
    simp only [List.getElem_cons_zero] at hb
    have ih := insN_at x out a (by simpa using ha) (fun j h hj => by have := h1 (j + 1) (by simpa using h) (by omega); simpa using this) (fun h => by have := h0 (by simpa using h); simpa using this)
    rw [insN, if_pos hb, ih]
    simp

/-! ### slices.SortFunc at calls -/
theorem cells_map {α β : Type} (f : β → List Value) (g : α → β) (l : List α) : cellsOfRow (fun x => f (g x)) l = cellsOfRow f (l.map g) := by
  simp [cellsOfRow, List.flatMap_map]

theorem pair_eq {L : List CallD} (hp : L.Pairwise (fun a b => sp a b = false)) {x y : CallD} (hx : x ∈ L) (hy : y ∈ L) (h : sp x y = true) : x = y := by
  induction L with
  | nil => simp at hx
  | cons a L ih =>
    rw [List.pairwise_cons] at hp
    rcases List.mem_cons.1 hx with e1 | hx1
    · rcases List.mem_cons.1 hy with e2 | hy1
      · rw [e1, e2]
      · rw [e1, hp.1 y hy1] at h; cases h
    · rcases List.mem_cons.1 hy with e2 | hy1
      · have h3 := (sp_iff _ _).1 h
        have h2 := hp.1 x hx1
        rw [← e2, (sp_iff _ _).2 ⟨h3.1.symm, h3.2.symm⟩] at h2
        cases h2
      · exact ih hp.2 hx1 hy1

theorem sort_calls {base : Nat} (v : Value) (l : List CallD) (w : World) (h : OwnL callCells 102 11 base w v l) (hl : l.length ≤ 1000000) (hf : ∀ c ∈ l, FineC c) (hp : l.Pairwise (fun a b => sp a b = false)) :
    Calls Try.prog 61 #[v, .func (.func 62) #[] #[]] w fun e w' =>
      e = .returned (.tuple #[]) ∧ OwnL callCells 102 11 base w' v (isortN l) ∧ w.grownBy w' v.ownBlock := by
  have eg : ∀ args w, (callFunc 62 args).run Try.prog w = .ok (.enter 62 args) w := enters_of Try.func62 (by kernel_rfl) rfl
  rcases Go.Joins.ownsRow_forms h with ⟨rfl, h0⟩ | ⟨g, cap, rfl⟩
  · obtain rfl : l = [] := List.eq_nil_of_length_eq_zero h0
    refine (AnyF.slices_SortFunc_none sortC none 0 (.func (.func 62) #[] #[]) w).mono ?_
    rintro e w' ⟨rfl, rfl⟩
    exact ⟨rfl, h, ⟨rfl, rfl, rfl, Nat.le_refl _, fun _ _ _ => rfl⟩⟩
  · cases l with
    | nil =>
      refine (AnyF.slices_SortFunc_none sortC (some ⟨g, 0, none⟩) cap (.func (.func 62) #[] #[]) w).mono ?_
      rintro e w' ⟨rfl, rfl⟩
      exact ⟨rfl, h, ⟨rfl, rfl, rfl, Nat.le_refl _, fun _ _ _ => rfl⟩⟩
    | cons c0 l0 =>
      obtain ⟨L, hL⟩ : ∃ L, L = c0 :: l0 := ⟨_, rfl⟩
      rw [← hL] at h hl hf hp ⊢
      have hc0 : c0 ∈ L := by rw [hL]; exact List.mem_cons_self ..
      clear hL
      letI : Inhabited { c : CallD // c ∈ L } := ⟨⟨c0, hc0⟩⟩
      let enc : { c : CallD // c ∈ L } → List Value := fun x => callCells x.1
      have hlen : L.attach.length = L.length := by simp
      have hce : cellsOfRow enc L.attach = cellsOfRow callCells L := by
        show cellsOfRow (fun x : { c : CallD // c ∈ L } => callCells x.1) L.attach = _
        rw [cells_map callCells (fun x : { c : CallD // c ∈ L } => x.1), List.attach_map_subtype_val]
      have h' : w.ownsRow base 102 11 (.slice (some ⟨g, 0, none⟩) L.attach.length cap) L.attach.length (cellsOfRow enc L.attach) := by
        rw [hce, hlen]; exact h
      have hH := holdsK_own (f := enc) (n := 11) (fun _ => rfl) (by decide) h'
      have hg := (h.lt rfl).2
      have hlt : ∀ x y : { c : CallD // c ∈ L }, ltOf (fun x y : { c : CallD // c ∈ L } => cfN x.1 y.1) x y = ltN x.1 y.1 := fun x y => ltOf_cfN x.1 y.1
      have swo : SWO (ltOf fun x y : { c : CallD // c ∈ L } => cfN x.1 y.1) := by
        refine ⟨fun x => by rw [hlt]; exact ltN_irrefl _, fun x y z h1 h2 => by rw [hlt] at h1 h2 ⊢; exact ltN_trans h1 h2, fun x y z h1 h2 => ?_⟩
        rw [hlt] at h1 h2 ⊢
        cases h3 : ltN x.1 z.1 with
        | false => rfl
        | true =>
          exfalso
          have q1 : ¬ _ := fun q => by rw [(ltN_iff x.1 y.1).2 q] at h1; cases h1
          have q2 : ¬ _ := fun q => by rw [(ltN_iff y.1 z.1).2 q] at h2; cases h2
          have q3 := (ltN_iff x.1 z.1).1 h3
          omega
      have hcmp : CmpLays Try.prog 62 #[] enc 11 (fun x y : { c : CallD // c ∈ L } => cfN x.1 y.1) g 0 L.attach.toArray.size w :=
        fun _ _ _ _ x y => before_lays x.1 y.1 _ (hf _ x.2) (hf _ y.2)
      have hone : ∀ x : { c : CallD // c ∈ L }, ∀ u ∈ enc x, u.oneCell' = true := fun x => eCall.one x.1
      have hs := AnyQ.slices_SortFunc_total sortC 11 Try.isAgg102 Try.sizeOf102 enc (fun _ => rfl) hone (fun x y : { c : CallD // c ∈ L } => cfN x.1 y.1) swo 62 #[] g 0 cap L.attach.toArray w eg hcmp hH hg (by simp; omega)
        (fun x y h1 h2 => by rw [hlt] at h1 h2; exact Subtype.ext (pair_eq hp x.2 y.2 (ltN_total (hf _ x.2).2 (hf _ y.2).2 h1 h2)))
      simp only [List.size_toArray, hlen] at hs
      refine Calls.mono hs ?_
      rintro e w' ⟨rfl, n, os, rfl⟩
      obtain ⟨M, hM⟩ : ∃ M : List { c : CallD // c ∈ L }, M = L.attach.mergeSort fun x y => !ltOf (fun x y : { c : CallD // c ∈ L } => cfN x.1 y.1) y x := ⟨_, rfl⟩
      have hperm : M.Perm L.attach := by rw [hM]; exact List.mergeSort_perm _ _
      have hMl : M.length = L.attach.length := hperm.length_eq
      obtain ⟨h1, h2⟩ := own_putRowK (f := enc) (n := 11) (m := M) (k := n) (fun _ => rfl) (by decide) h' hMl os
      have hmm : M.map (·.1) = isortN L := by
        refine pairN_unique ?_ (isortN_pair L hf hp) (fun y => ?_)
        · have k1 : M.Pairwise (fun a b => (!ltOf (fun x y : { c : CallD // c ∈ L } => cfN x.1 y.1) b a) = true) := by
            rw [hM]
            refine List.pairwise_mergeSort (le := fun x y => !ltOf (fun x y : { c : CallD // c ∈ L } => cfN x.1 y.1) y x) (fun a b c h1 h2 => ?_) (fun a b => ?_) _
            · simp only [Bool.not_eq_true'] at *
              exact swo.3 c b a h2 h1
            · cases h : ltOf (fun x y : { c : CallD // c ∈ L } => cfN x.1 y.1) b a with
              | false => rfl
              | true => rw [hlt] at h; simp only [hlt, ltN_asymm h]; rfl
          have k2 : M.Nodup := hperm.nodup_iff.2 (by
            have hn : L.Nodup := hp.imp fun {a b} hab e => by subst e; rw [(sp_iff a a).2 ⟨rfl, rfl⟩] at hab; cases hab
            exact List.Pairwise.of_map (f := fun x : { c : CallD // c ∈ L } => x.1) (S := fun a b => a ≠ b) (fun a b hab e => hab (congrArg Subtype.val e)) (by rw [List.attach_map_subtype_val]; exact hn))
          refine List.Pairwise.map _ (fun a b hab => hab) ((List.Pairwise.and k1 k2).imp ?_)
          rintro a b ⟨h3, h4⟩
          simp only [Bool.not_eq_true', hlt] at h3
          cases h : ltN a.1 b.1 with
          | true => rfl
          | false => exact absurd (Subtype.ext (pair_eq hp a.2 b.2 (ltN_total (hf _ a.2).2 (hf _ b.2).2 h h3))) h4
        · rw [mem_isortN]
          constructor
          · intro hy
            obtain ⟨x, _, rfl⟩ := List.mem_map.1 hy
            exact x.2
          · intro hy
            exact List.mem_map.2 ⟨⟨y, hy⟩, hperm.mem_iff.2 (List.mem_attach _ _), rfl⟩
      have hMlen : M.length = (isortN L).length := by rw [← hmm]; simp
      have hcm : cellsOfRow enc M = cellsOfRow callCells (isortN L) := by
        show cellsOfRow (fun x : { c : CallD // c ∈ L } => callCells x.1) M = _
        rw [cells_map callCells (fun x : { c : CallD // c ∈ L } => x.1), hmm]
      rw [hcm, hMlen, len_isortN] at h1
      rw [← hM]
      refine ⟨rfl, ?_, h2⟩
      unfold OwnL
      rw [len_isortN]
      exact h1
end Go.Proofs.Ytfnabpmdjfejbaa
