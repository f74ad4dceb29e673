/- An event's line is the reference's. -/
import Derived.Test.YtmndhffimlkjgaaDoorJ22
import Derived.Test.YtmndhffimlkjgaaDoorJ23
import Derived.Test.YtmndhffimlkjgaaDoorJ19
namespace Go.Proofs.YtmndhffimlkjgaaDoor

section
set_option linter.unusedSimpArgs false
set_option linter.unusedVariables false
open Go.RowKit Go.Lib

/-- An event. -/
structure EvtD where
  kind : Int
  task : Int
  nth : Int
  call : CallD
  err : Int
  epoch : Int
  handle : Int
  cnt : Int
  sum : Int
  least : Int
  most : Int
  mean : Int
  atick : Int
  aload : Int
  awant : Int
  arepl : Int
  awhy : Int
  hi : Nat
  lo : Nat
  ntick : Int
  nload : Int
  nwant : Int
  nrepl : Int
  nwhy : Int
def EvtD.okR (e : EvtD) : Prop := I64 e.err ∧ I64 e.epoch ∧ I64 e.handle ∧ I64 e.cnt ∧ I64 e.sum ∧ I64 e.least ∧ I64 e.most ∧ I64 e.mean ∧ I64 e.atick ∧ I64 e.aload ∧ I64 e.awant ∧ I64 e.arepl ∧ I64 e.awhy
def EvtD.okA (e : EvtD) : Prop := I64 e.ntick ∧ I64 e.nload ∧ I64 e.nwant ∧ I64 e.nrepl ∧ I64 e.nwhy
structure EvtD.ok (e : EvtD) : Prop where
  kind : I64 e.kind
  task : I64 e.task
  nth : I64 e.nth
  call : e.call.ok
  rep : e.okR
  hi : e.hi < 18446744073709551616
  lo : e.lo < 18446744073709551616
  adv : e.okA
def evC (e : EvtD) : List Value := [.int .i64 e.kind, .int .i64 e.task, .int .i64 e.nth, .int .i64 e.call.kind, .string e.call.id, .int .i64 e.call.tick, .int .i64 e.call.val, .int .i64 e.call.handle, .int .i64 e.call.pol.mn, .int .i64 e.call.pol.mx, .int .i64 e.call.pol.tg, .int .i64 e.call.pol.tol, .int .i64 e.call.pol.win, .int .i64 e.call.pol.hold, .int .i64 e.err, .int .i64 e.epoch, .int .i64 e.handle, .int .i64 e.cnt, .int .i64 e.sum, .int .i64 e.least, .int .i64 e.most, .int .i64 e.mean, .int .i64 e.atick, .int .i64 e.aload, .int .i64 e.awant, .int .i64 e.arepl, .int .i64 e.awhy, .int .u64 (e.hi : Nat), .int .u64 (e.lo : Nat), .int .i64 e.ntick, .int .i64 e.nload, .int .i64 e.nwant, .int .i64 e.nrepl, .int .i64 e.nwhy]
def evV (e : EvtD) : Value := .agg #[.int .i64 e.kind, .int .i64 e.task, .int .i64 e.nth, .int .i64 e.call.kind, .string e.call.id, .int .i64 e.call.tick, .int .i64 e.call.val, .int .i64 e.call.handle, .int .i64 e.call.pol.mn, .int .i64 e.call.pol.mx, .int .i64 e.call.pol.tg, .int .i64 e.call.pol.tol, .int .i64 e.call.pol.win, .int .i64 e.call.pol.hold, .int .i64 e.err, .int .i64 e.epoch, .int .i64 e.handle, .int .i64 e.cnt, .int .i64 e.sum, .int .i64 e.least, .int .i64 e.most, .int .i64 e.mean, .int .i64 e.atick, .int .i64 e.aload, .int .i64 e.awant, .int .i64 e.arepl, .int .i64 e.awhy, .int .u64 (e.hi : Nat), .int .u64 (e.lo : Nat), .int .i64 e.ntick, .int .i64 e.nload, .int .i64 e.nwant, .int .i64 e.nrepl, .int .i64 e.nwhy]
def repE (e : EvtD) : ByteArray := repS e.err e.epoch e.handle e.cnt e.sum e.least e.most e.mean e.atick e.aload e.awant e.arepl e.awhy
def advE (e : EvtD) : ByteArray := advS e.ntick e.nload e.nwant e.nrepl e.nwhy
def evW (e : EvtD) : List ByteArray :=
  if e.kind = 1 then [dec e.task, dec e.nth, ⟨#[99, 97, 108, 108]⟩, callS e.call]
  else if e.kind = 2 then [dec e.task, dec e.nth, ⟨#[112, 111, 105, 110, 116]⟩, repE e]
  else if e.kind = 3 then [dec e.task, dec e.nth, ⟨#[114, 101, 116, 117, 114, 110]⟩, repE e]
  else if e.kind = 4 then [dec e.task, ⟨#[116, 111, 111, 107]⟩, nameS e.hi e.lo]
  else if e.kind = 5 then [dec e.task, ⟨#[115, 97, 119]⟩, nameS e.hi e.lo]
  else if e.kind = 6 then [dec e.task, ⟨#[110, 111, 116, 101, 100]⟩, nameS e.hi e.lo, advE e]
  else if e.kind = 7 then [dec e.task, ⟨#[103, 97, 118, 101]⟩, nameS e.hi e.lo]
  else [dec e.task, ⟨#[63]⟩]
def evS (e : EvtD) : ByteArray := joinS (evW e)

theorem lens_leB (B : Nat) (ws : List ByteArray) (h : ∀ s ∈ ws, s.size ≤ B) : Lib.lens (ws.map (·.data.toList)) ≤ B * ws.length := by
  induction ws with
  | nil => simp [Lib.lens]
  | cons s ws ih =>
    have h1 := h s (List.mem_cons_self ..)
    have h2 := ih (fun t ht => h t (List.mem_cons_of_mem _ ht))
    have h3 : s.data.toList.length = s.size := by simp
    simp only [List.map_cons, Lib.lens, List.length_cons] at h2 ⊢
    simp only [List.map_cons, List.sum_cons, List.foldr_cons, List.foldl_cons] at h2 ⊢
    rw [Nat.mul_succ]
    omega
theorem joinS_size (B : Nat) (ws : List ByteArray) (h : ∀ s ∈ ws, s.size ≤ B) : (joinS ws).size ≤ B * ws.length + ws.length := by
  unfold joinS
  rw [bytes_size]
  cases ws with
  | nil => simp [Lib.join, List.intercalate]
  | cons x r =>
    have h1 := lens_leB B (x :: r) h
    rw [List.map_cons, Lib.join_length]
    simp only [List.map_cons, List.length_cons, List.length_map, List.length_nil] at h1 ⊢
    omega
theorem polS_192 {p : Pol} (h : p.ok) : (⟨(polText p).toArray⟩ : ByteArray).size ≤ 192 := by
  rw [bytes_size]
  exact polTo_len h 6
theorem dec_192 {n : Int} (h : I64 n) : (dec n).size ≤ 192 := by rw [dec_size]; have := itoa_len h; omega
theorem callS_size {c : CallD} (hc : c.ok) : (callS c).size ≤ 1000 := by
  obtain ⟨k0, k1, k2, k3, k4, k5⟩ := hc
  unfold callS
  by_cases h : textE c = 0
  · rw [if_pos h]
    unfold textS
    rw [if_pos h]
    have hid : namedB c.kind = true → c.id.size ≤ 20 := by
      intro hn
      unfold textE at h
      by_cases h1 : c.kind < 1 ∨ 8 < c.kind
      · rw [if_pos h1] at h; exact absurd h (by decide)
      · rw [if_neg h1] at h
        by_cases h2 : idS c.id = false
        · rw [if_pos ⟨hn, h2⟩] at h; exact absurd h (by decide)
        · exact (idS_okTo c.id (by simpa using h2)).2.1
    have hv : (verbB c.kind).size ≤ 192 := by unfold verbB; repeat (first | split | decide)
    have key : ∀ s ∈ wordsC c, s.size ≤ 192 := by
      intro s hs
      unfold wordsC at hs
      rcases List.mem_cons.1 hs with rfl | hs
      · exact hv
      repeat' (split at hs)
      all_goals simp only [List.mem_cons, List.not_mem_nil, or_false] at hs
      · rename_i hk; have := hid (by rw [hk]; rfl); rcases hs with rfl | rfl | rfl <;> first | exact dec_192 k2 | exact dec_192 k3 | omega
      · rcases hs with rfl; exact dec_192 k2
      · rcases hs with rfl; exact dec_192 k4
      · rename_i hk; have := hid (by rw [hk]; rfl); rcases hs with rfl | rfl | rfl | rfl <;> first | exact dec_192 k4 | exact dec_192 k2 | exact dec_192 k3 | omega
      · rename_i hk; have := hid (by rw [hk]; rfl); rcases hs with rfl | rfl <;> first | omega | exact polS_192 k5
      · rename_i hk; have := hid (by rw [hk]; rfl); rcases hs with rfl; omega
    have hl : (wordsC c).length ≤ 5 := by
      unfold wordsC
      rw [List.length_cons]
      repeat' split
      all_goals first | decide | simp | skip
    have := joinS_size 192 _ key
    have h5 : 192 * (wordsC c).length ≤ 192 * 5 := Nat.mul_le_mul_left _ hl
    omega
  · rw [if_neg h]; decide
theorem repE_size {e : EvtD} (h : e.okR) : (repE e).size ≤ 1000 := by
  obtain ⟨k0, k1, k2, k3, k4, k5, k6, k7, k8, k9, k10, k11, k12⟩ := h
  unfold repE repS
  split
  · have h1 := rep1_size k1
    have h2 := rep2_size (s := rep1 e.epoch) k2
    have h3 := rep3_size (s := rep2 (rep1 e.epoch) e.handle) k3 k4 k5 k6 k7
    have h4 := advS_size k8 k9 k10 k11 k12
    unfold rep4
    split
    · omega
    · rw [ByteArray.size_append, ByteArray.size_append]
      have : (⟨#[32]⟩ : ByteArray).size = 1 := rfl
      omega
  · rw [ByteArray.size_append]
    have := dec_192 k0
    have : (⟨#[101, 114, 114, 111, 114, 32]⟩ : ByteArray).size = 6 := rfl
    omega
theorem advE_size {e : EvtD} (h : e.okA) : (advE e).size ≤ 1000 := by
  obtain ⟨k0, k1, k2, k3, k4⟩ := h
  have := advS_size k0 k1 k2 k3 k4
  unfold advE; omega
theorem nameS_1000 (hi lo : Nat) : (nameS hi lo).size ≤ 1000 := Nat.le_trans (nameS_size hi lo).2 (by decide)
theorem evW_len (e : EvtD) : (evW e).length ≤ 4 ∧ evW e ≠ [] := by
  unfold evW
  repeat' split
  all_goals first | simp | skip
theorem evW_size {e : EvtD} (h : e.ok) : ∀ s ∈ evW e, s.size ≤ 1000 := by
  intro s hs
  unfold evW at hs
  have q0 := dec_1000 h.task
  have q1 := dec_1000 h.nth
  have q2 := callS_size h.call
  have q3 := repE_size h.rep
  have q4 := nameS_1000 e.hi e.lo
  have q5 := advE_size h.adv
  repeat' (split at hs)
  all_goals simp only [List.mem_cons, List.not_mem_nil, or_false] at hs
  · rcases hs with rfl | rfl | rfl | rfl <;> first | assumption | decide
  · rcases hs with rfl | rfl | rfl | rfl <;> first | assumption | decide
  · rcases hs with rfl | rfl | rfl | rfl <;> first | assumption | decide
  · rcases hs with rfl | rfl | rfl <;> first | assumption | decide
  · rcases hs with rfl | rfl | rfl <;> first | assumption | decide
  · rcases hs with rfl | rfl | rfl | rfl <;> first | assumption | decide
  · rcases hs with rfl | rfl | rfl <;> first | assumption | decide
  · rcases hs with rfl | rfl <;> first | assumption | decide
theorem evS_size {e : EvtD} (h : e.ok) : (evS e).size ≤ 5000 := by
  have h1 := joinS_size 1000 _ (evW_size h)
  have h2 := (evW_len e).1
  have h3 : 1000 * (evW e).length ≤ 1000 * 4 := Nat.mul_le_mul_left _ h2
  unfold evS; omega
theorem preply_any (e : EvtD) (w : World) (h : e.okR) (ht : Tab w) :
    Calls Tryd.prog 15 #[.agg #[.int .i64 e.err, .int .i64 e.epoch, .int .i64 e.handle, .int .i64 e.cnt, .int .i64 e.sum, .int .i64 e.least, .int .i64 e.most, .int .i64 e.mean, .int .i64 e.atick, .int .i64 e.aload, .int .i64 e.awant, .int .i64 e.arepl, .int .i64 e.awhy]] w fun x w' => x = .returned (.string (repE e)) ∧ Below w.heap.size w w' := by
  obtain ⟨k0, k1, k2, k3, k4, k5, k6, k7, k8, k9, k10, k11, k12⟩ := h
  unfold repE repS
  by_cases hx : e.err = 0
  · rw [if_pos hx, hx]
    exact lreply_ok _ _ _ _ _ _ _ _ _ _ _ _ w ht k1 k2 k3 k4 k5 k6 k7 k8 k9 k10 k11 k12
  · rw [if_neg hx]
    exact lreply_err _ _ _ _ _ _ _ _ _ _ _ _ _ w ht k0 hx
theorem rreply_any (e : EvtD) (w : World) (h : e.okR) :
    Calls Tryd.prog 21 #[.agg #[.int .i64 e.err, .int .i64 e.epoch, .int .i64 e.handle, .int .i64 e.cnt, .int .i64 e.sum, .int .i64 e.least, .int .i64 e.most, .int .i64 e.mean, .int .i64 e.atick, .int .i64 e.aload, .int .i64 e.awant, .int .i64 e.arepl, .int .i64 e.awhy]] w fun x w' => x = .returned (.string (repE e)) ∧ Below w.heap.size w w' := by
  obtain ⟨k0, k1, k2, k3, k4, k5, k6, k7, k8, k9, k10, k11, k12⟩ := h
  unfold repE repS
  by_cases hx : e.err = 0
  · rw [if_pos hx, hx]
    exact rreply_ok _ _ _ _ _ _ _ _ _ _ _ _ w k1 k2 k3 k4 k5 k6 k7 k8 k9 k10 k11 k12
  · rw [if_neg hx]
    exact rreply_err _ _ _ _ _ _ _ _ _ _ _ _ _ w k0 hx

theorem pevent_any (e : EvtD) (w : World) (h : e.ok) (ht : Tab w) :
    Calls Tryd.prog 6 #[evV e] w fun x w' => x = .returned (.string (evS e)) ∧ Below w.heap.size w w' := by
  have z0 := dec_1000 h.task
  have z1 := dec_1000 h.nth
  have z2 := callS_size h.call
  have z3 := repE_size h.rep
  have z4 := nameS_1000 e.hi e.lo
  have z5 := advE_size h.adv
  have CT := fun W (hb : Below w.heap.size w W) => itoaC_any e.task h.task W (ht.below hb)
  have CN := fun W (hb : Below w.heap.size w W) => itoaC_any e.nth h.nth W (ht.below hb)
  have CR := fun W (hb : Below w.heap.size w W) => preply_any e W h.rep (ht.below hb)
  have CI := fun W (hb : Below w.heap.size w W) => repId_any e.hi e.lo W h.hi h.lo
  unfold evS evW evV
  by_cases h1 : e.kind = 1
  · rw [if_pos h1, h1]
    exact pev_1 _ _ _ _ _ _ _ _ _ _ _ _ _ _ _ _ _ _ _ _ _ _ _ _ _ _ _ _ _ _ _ _ _ w _ _ _ _ CT CN (fun W hb => repCall_any e.call W h.call (ht.below hb)) z0 z1 z2 z1
  rw [if_neg h1]
  by_cases h2 : e.kind = 2
  · rw [if_pos h2, h2]
    exact pev_2 _ _ _ _ _ _ _ _ _ _ _ _ _ _ _ _ _ _ _ _ _ _ _ _ _ _ _ _ _ _ _ _ _ w _ _ _ _ CT CN CR z0 z1 z3 z1
  rw [if_neg h2]
  by_cases h3 : e.kind = 3
  · rw [if_pos h3, h3]
    exact pev_3 _ _ _ _ _ _ _ _ _ _ _ _ _ _ _ _ _ _ _ _ _ _ _ _ _ _ _ _ _ _ _ _ _ w _ _ _ _ CT CN CR z0 z1 z3 z1
  rw [if_neg h3]
  by_cases h4 : e.kind = 4
  · rw [if_pos h4, h4]
    exact pev_4 _ _ _ _ _ _ _ _ _ _ _ _ _ _ _ _ _ _ _ _ _ _ _ _ _ _ _ _ _ _ _ _ _ w _ _ _ _ CT CN CI z0 z1 z4 z1
  rw [if_neg h4]
  by_cases h5 : e.kind = 5
  · rw [if_pos h5, h5]
    exact pev_5 _ _ _ _ _ _ _ _ _ _ _ _ _ _ _ _ _ _ _ _ _ _ _ _ _ _ _ _ _ _ _ _ _ w _ _ _ _ CT CN CI z0 z1 z4 z1
  rw [if_neg h5]
  by_cases h6 : e.kind = 6
  · rw [if_pos h6, h6]
    exact pev_6 _ _ _ _ _ _ _ _ _ _ _ _ _ _ _ _ _ _ _ _ _ _ _ _ _ _ _ _ _ _ _ _ _ w _ _ _ _ CT CN CI (fun W hb => adv_any _ _ _ _ _ W (ht.below hb) h.adv.1 h.adv.2.1 h.adv.2.2.1 h.adv.2.2.2.1 h.adv.2.2.2.2) z0 z1 z4 z5
  rw [if_neg h6]
  by_cases h7 : e.kind = 7
  · rw [if_pos h7, h7]
    exact pev_7 _ _ _ _ _ _ _ _ _ _ _ _ _ _ _ _ _ _ _ _ _ _ _ _ _ _ _ _ _ _ _ _ _ w _ _ _ _ CT CN CI z0 z1 z4 z1
  rw [if_neg h7]
  exact pev_no _ _ _ _ _ _ _ _ _ _ _ _ _ _ _ _ _ _ _ _ _ _ _ _ _ _ _ _ _ _ _ _ _ _ w _ _ (nameS e.hi e.lo) (nameS e.hi e.lo) CT CN h1 h2 h3 h4 h5 h6 h7 z0 z1 z4 z4
theorem join2 (a b : ByteArray) : joinS [a, b] = a ++ ⟨#[32]⟩ ++ b := by
  apply bytes_ext; simp [joinS, Lib.join, ByteArray.data_append, List.intercalate]
theorem join3 (a b c : ByteArray) : joinS [a, b, c] = a ++ ⟨#[32]⟩ ++ b ++ ⟨#[32]⟩ ++ c := by
  apply bytes_ext; simp [joinS, Lib.join, ByteArray.data_append, List.intercalate]
theorem join4 (a b c d : ByteArray) : joinS [a, b, c, d] = a ++ ⟨#[32]⟩ ++ b ++ ⟨#[32]⟩ ++ c ++ ⟨#[32]⟩ ++ d := by
  apply bytes_ext; simp [joinS, Lib.join, ByteArray.data_append, List.intercalate]
theorem Calls.str_eq {P : Program} {f : Nat} {args : Array Value} {w : World} {s t : ByteArray} (h : Calls P f args w fun e w' => e = .returned (.string s) ∧ Below w.heap.size w w') (he : t = s) : Calls P f args w fun e w' => e = .returned (.string t) ∧ Below w.heap.size w w' := he ▸ h
theorem revent_any (e : EvtD) (w : World) (h : e.ok) :
    Calls Tryd.prog 7 #[evV e] w fun x w' => x = .returned (.string (evS e)) ∧ Below w.heap.size w w' := by
  have z0 := dec_1000 h.task
  have z1 := dec_1000 h.nth
  have z2 := callS_size h.call
  have z3 := repE_size h.rep
  have z4 := nameS_1000 e.hi e.lo
  have z5 := advE_size h.adv
  have CT := (rdec_says e.task h.task (dec e.task) rfl).1
  have CN := (rdec_says e.nth h.nth (dec e.nth) rfl).1
  have CR := fun W (hb : Below w.heap.size w W) => rreply_any e W h.rep
  have CI := fun W (hb : Below w.heap.size w W) => rid43_any e.hi e.lo W h.hi h.lo
  unfold evS evW evV
  by_cases h1 : e.kind = 1
  · rw [if_pos h1, h1, join4]
    have CC := fun W (hb : Below w.heap.size w W) => rtext_any e.call W h.call
    unfold callS
    have zs : (textS e.call).size ≤ 1000 := by
      have := callS_size h.call
      unfold callS at this
      by_cases hx : textE e.call = 0
      · rwa [if_pos hx] at this
      · unfold textS; rw [if_neg hx]; decide
    by_cases hx : textE e.call = 0
    · rw [if_pos hx]
      exact Calls.str_eq (rev_1 _ _ _ _ _ _ _ _ _ _ _ _ _ _ _ _ _ _ _ _ _ _ _ _ _ _ _ _ _ _ _ _ _ w _ _ (textS e.call) (textS e.call) CT CN _ hx CC z0 z1 zs zs) (by apply bytes_ext; simp [ByteArray.data_append])
    · rw [if_neg hx]
      exact Calls.str_eq (rev_1b _ _ _ _ _ _ _ _ _ _ _ _ _ _ _ _ _ _ _ _ _ _ _ _ _ _ _ _ _ _ _ _ _ w _ _ (textS e.call) (textS e.call) CT CN _ hx CC z0 z1 zs zs) (by apply bytes_ext; simp [ByteArray.data_append])
  rw [if_neg h1]
  by_cases h2 : e.kind = 2
  · rw [if_pos h2, h2, join4]
    exact Calls.str_eq (rev_2 _ _ _ _ _ _ _ _ _ _ _ _ _ _ _ _ _ _ _ _ _ _ _ _ _ _ _ _ _ _ _ _ _ w _ _ _ _ CT CN CR z0 z1 z3 z1) (by apply bytes_ext; simp [ByteArray.data_append])
  rw [if_neg h2]
  by_cases h3 : e.kind = 3
  · rw [if_pos h3, h3, join4]
    exact Calls.str_eq (rev_3 _ _ _ _ _ _ _ _ _ _ _ _ _ _ _ _ _ _ _ _ _ _ _ _ _ _ _ _ _ _ _ _ _ w _ _ _ _ CT CN CR z0 z1 z3 z1) (by apply bytes_ext; simp [ByteArray.data_append])
  rw [if_neg h3]
  by_cases h4 : e.kind = 4
  · rw [if_pos h4, h4, join3]
    exact Calls.str_eq (rev_4 _ _ _ _ _ _ _ _ _ _ _ _ _ _ _ _ _ _ _ _ _ _ _ _ _ _ _ _ _ _ _ _ _ w _ _ _ _ CT CN CI z0 z1 z4 z1) (by apply bytes_ext; simp [ByteArray.data_append])
  rw [if_neg h4]
  by_cases h5 : e.kind = 5
  · rw [if_pos h5, h5, join3]
    exact Calls.str_eq (rev_5 _ _ _ _ _ _ _ _ _ _ _ _ _ _ _ _ _ _ _ _ _ _ _ _ _ _ _ _ _ _ _ _ _ w _ _ _ _ CT CN CI z0 z1 z4 z1) (by apply bytes_ext; simp [ByteArray.data_append])
  rw [if_neg h5]
  by_cases h6 : e.kind = 6
  · rw [if_pos h6, h6, join4]
    exact Calls.str_eq (rev_6 _ _ _ _ _ _ _ _ _ _ _ _ _ _ _ _ _ _ _ _ _ _ _ _ _ _ _ _ _ _ _ _ _ w _ _ _ _ CT CN CI (fun W hb => radv_any _ _ _ _ _ W h.adv.1 h.adv.2.1 h.adv.2.2.1 h.adv.2.2.2.1 h.adv.2.2.2.2) z0 z1 z4 z5) (by apply bytes_ext; simp [ByteArray.data_append, advE])
  rw [if_neg h6]
  by_cases h7 : e.kind = 7
  · rw [if_pos h7, h7, join3]
    exact Calls.str_eq (rev_7 _ _ _ _ _ _ _ _ _ _ _ _ _ _ _ _ _ _ _ _ _ _ _ _ _ _ _ _ _ _ _ _ _ w _ _ _ _ CT CN CI z0 z1 z4 z1) (by apply bytes_ext; simp [ByteArray.data_append])
  rw [if_neg h7, join2]
  exact Calls.str_eq (rev_no _ _ _ _ _ _ _ _ _ _ _ _ _ _ _ _ _ _ _ _ _ _ _ _ _ _ _ _ _ _ _ _ _ _ w _ _ (nameS e.hi e.lo) (nameS e.hi e.lo) CT CN h1 h2 h3 h4 h5 h6 h7 z0 z1 z4 z4) (by apply bytes_ext; simp [ByteArray.data_append])
end

end Go.Proofs.YtmndhffimlkjgaaDoor
