/- Acts on a stripe as they come in; chapter 18's awake; The walk of StripePlays. -/
import Derived.Test.YtfegielnmdppgaaGreatJ03
import Derived.Test.YtfegielnmdppgaaGreatJ26
import Derived.Test.YtfegielnmdppgaaGreatJ33
import Derived.Test.YtfegielnmdppgaaGreatJ37
namespace Go.Proofs.YtfegielnmdppgaaGreat

section
set_option linter.unusedSimpArgs false
set_option linter.unusedVariables false
open Go.RowKit Go.Lib Go.ChangeShapes Go.WideShapes Go.Joins

theorem cl_sint : Tryz.prog.cellsOf 3 = 1 := by kernel_rfl
theorem cl_si64 : Tryz.prog.cellsOf 2 = 1 := by kernel_rfl
theorem cl_ssmp : Tryz.prog.cellsOf 42 = 2 := by kernel_rfl
theorem cl_spol : Tryz.prog.cellsOf 44 = 6 := by kernel_rfl
theorem cl_sadv : Tryz.prog.cellsOf 46 = 5 := by kernel_rfl
theorem cl_sa17 : Tryz.prog.cellsOf 48 = 14 := by kernel_rfl
theorem cl_sa18 : Tryz.prog.cellsOf 50 = 16 := by kernel_rfl

section
variable {H : Type} {enc : TypeId × Value → H} {w : World} {base : Nat} {spare : Nat → Bool} {held : Bool}

theorem sfield {fuel : Nat} {t : TypeId} (ht : Tryz.prog.underlying t = some (.int .i64)) (hc : Tryz.prog.cellsOf t = 1) {cs : List Value} {xs : List (DataW H × List MemPlace)} {i o : Nat} (hi : i < xs.length) {v : Value} (hv : cs.drop o = v :: cs.drop (o + 1))
    (h : DataW.trod enc Tryz.prog w base spare held fuel t ((cs.drop o).take (Tryz.prog.cellsOf t)) = xs[i]?) : ∃ n, v = .int .i64 n := by
  rw [hc, hv, List.take_succ_cons, List.take_zero, List.getElem?_eq_getElem hi] at h
  obtain ⟨n, hn, _, hw⟩ := DataW.trod_int ht h
  simp only [List.cons.injEq, and_true] at hn
  exact ⟨n, hn⟩

set_option maxRecDepth 100000 in
theorem ssmp_reads {fuel : Nat} {cs : List Value} {x : DataW H × List MemPlace} (h : DataW.trod enc Tryz.prog w base spare held fuel 42 cs = some x) :
    ∃ p : Smp, cs = smpC p := by
  obtain ⟨xs, n, _, _, hl, hx, hf⟩ := DataW.trod_struct Tryz.underlying42 h
  rw [cl_ssmp] at hl
  replace hx : xs.length = 2 := hx
  match cs, hl with
  | [a0, a1], _ =>
    obtain ⟨n0, rfl⟩ := sfield Tryz.underlying2 cl_si64 (i := 0) (by omega) (o := 0) rfl (hf 0 _ rfl)
    obtain ⟨n1, rfl⟩ := sfield Tryz.underlying2 cl_si64 (i := 1) (by omega) (o := 1) rfl (hf 1 _ rfl)
    exact ⟨(n0, n1), rfl⟩
set_option maxRecDepth 100000 in
theorem spol_reads {fuel : Nat} {cs : List Value} {x : DataW H × List MemPlace} (h : DataW.trod enc Tryz.prog w base spare held fuel 44 cs = some x) :
    ∃ p : Pol, cs = [.int .i64 p.mn, .int .i64 p.mx, .int .i64 p.tg, .int .i64 p.tol, .int .i64 p.win, .int .i64 p.hold] := by
  obtain ⟨xs, n, _, _, hl, hx, hf⟩ := DataW.trod_struct Tryz.underlying44 h
  rw [cl_spol] at hl
  replace hx : xs.length = 6 := hx
  match cs, hl with
  | [a0, a1, a2, a3, a4, a5], _ =>
    obtain ⟨n0, rfl⟩ := sfield Tryz.underlying2 cl_si64 (i := 0) (by omega) (o := 0) rfl (hf 0 _ rfl)
    obtain ⟨n1, rfl⟩ := sfield Tryz.underlying2 cl_si64 (i := 1) (by omega) (o := 1) rfl (hf 1 _ rfl)
    obtain ⟨n2, rfl⟩ := sfield Tryz.underlying2 cl_si64 (i := 2) (by omega) (o := 2) rfl (hf 2 _ rfl)
    obtain ⟨n3, rfl⟩ := sfield Tryz.underlying2 cl_si64 (i := 3) (by omega) (o := 3) rfl (hf 3 _ rfl)
    obtain ⟨n4, rfl⟩ := sfield Tryz.underlying2 cl_si64 (i := 4) (by omega) (o := 4) rfl (hf 4 _ rfl)
    obtain ⟨n5, rfl⟩ := sfield Tryz.underlying2 cl_si64 (i := 5) (by omega) (o := 5) rfl (hf 5 _ rfl)
    exact ⟨⟨n0, n1, n2, n3, n4, n5⟩, rfl⟩
set_option maxRecDepth 100000 in
theorem sadv_reads {fuel : Nat} {cs : List Value} {x : DataW H × List MemPlace} (h : DataW.trod enc Tryz.prog w base spare held fuel 46 cs = some x) :
    ∃ p : Adv, cs = advC p := by
  obtain ⟨xs, n, _, _, hl, hx, hf⟩ := DataW.trod_struct Tryz.underlying46 h
  rw [cl_sadv] at hl
  replace hx : xs.length = 5 := hx
  match cs, hl with
  | [a0, a1, a2, a3, a4], _ =>
    obtain ⟨n0, rfl⟩ := sfield Tryz.underlying2 cl_si64 (i := 0) (by omega) (o := 0) rfl (hf 0 _ rfl)
    obtain ⟨n1, rfl⟩ := sfield Tryz.underlying2 cl_si64 (i := 1) (by omega) (o := 1) rfl (hf 1 _ rfl)
    obtain ⟨n2, rfl⟩ := sfield Tryz.underlying2 cl_si64 (i := 2) (by omega) (o := 2) rfl (hf 2 _ rfl)
    obtain ⟨n3, rfl⟩ := sfield Tryz.underlying2 cl_si64 (i := 3) (by omega) (o := 3) rfl (hf 3 _ rfl)
    obtain ⟨n4, rfl⟩ := sfield Tryz.underlying3 cl_sint (i := 4) (by omega) (o := 4) rfl (hf 4 _ rfl)
    exact ⟨⟨n0, n1, n2, n3, n4⟩, rfl⟩
set_option maxRecDepth 100000 in
theorem a17_reads {fuel : Nat} {cs : List Value} {x : DataW H × List MemPlace} (h : DataW.trod enc Tryz.prog w base spare held fuel 48 cs = some x) :
    ∃ a : Act17, cs = act17C a := by
  obtain ⟨xs, n, _, _, hl, hx, hf⟩ := DataW.trod_struct Tryz.underlying48 h
  rw [cl_sa17] at hl
  replace hx : xs.length = 4 := hx
  match cs, hl with
  | [a0, a1, a2, a3, a4, a5, a6, a7, a8, a9, a10, a11, a12, a13], _ =>
    obtain ⟨n0, rfl⟩ := sfield Tryz.underlying3 cl_sint (i := 0) (by omega) (o := 0) rfl (hf 0 _ rfl)
    have h1 := hf 1 _ rfl
    have h2 := hf 2 _ rfl
    have h3 := hf 3 _ rfl
    rw [List.getElem?_eq_getElem (by omega)] at h1 h2 h3
    obtain ⟨s, hs⟩ := ssmp_reads h1
    obtain ⟨p, hp⟩ := spol_reads h2
    obtain ⟨v, hv⟩ := sadv_reads h3
    replace hs : ([a1, a2, a3, a4, a5, a6, a7, a8, a9, a10, a11, a12, a13] : List Value).take (Tryz.prog.cellsOf 42) = _ := hs
    replace hp : ([a3, a4, a5, a6, a7, a8, a9, a10, a11, a12, a13] : List Value).take (Tryz.prog.cellsOf 44) = _ := hp
    replace hv : ([a9, a10, a11, a12, a13] : List Value).take (Tryz.prog.cellsOf 46) = _ := hv
    rw [cl_ssmp] at hs
    rw [cl_spol] at hp
    rw [cl_sadv] at hv
    simp only [smpC, advC, List.take_succ_cons, List.take_zero, List.cons.injEq, and_true] at hs hp hv
    obtain ⟨rfl, rfl⟩ := hs
    obtain ⟨rfl, rfl, rfl, rfl, rfl, rfl⟩ := hp
    obtain ⟨rfl, rfl, rfl, rfl, rfl⟩ := hv
    exact ⟨⟨n0, s, p, v⟩, rfl⟩
set_option maxRecDepth 100000 in
theorem a18_reads {fuel : Nat} {cs : List Value} {x : DataW H × List MemPlace} (h : DataW.trod enc Tryz.prog w base spare held fuel 50 cs = some x) :
    ∃ (k : Ky) (a : Act17), k.ok ∧ cs = act18C k a := by
  obtain ⟨xs, n, _, _, hl, hx, hf⟩ := DataW.trod_struct Tryz.underlying50 h
  rw [cl_sa18] at hl
  replace hx : xs.length = 2 := hx
  match cs, hl with
  | [a0, a1, a2, a3, a4, a5, a6, a7, a8, a9, a10, a11, a12, a13, a14, a15], _ =>
    have h0 := hf 0 _ rfl
    have h1 := hf 1 _ rfl
    rw [List.getElem?_eq_getElem (by omega)] at h0 h1
    obtain ⟨k, hk, hs⟩ := key_reads h0
    obtain ⟨a, hp⟩ := a17_reads h1
    replace hs : ([a0, a1, a2, a3, a4, a5, a6, a7, a8, a9, a10, a11, a12, a13, a14, a15] : List Value).take (Tryz.prog.cellsOf 40) = _ := hs
    replace hp : ([a2, a3, a4, a5, a6, a7, a8, a9, a10, a11, a12, a13, a14, a15] : List Value).take (Tryz.prog.cellsOf 48) = _ := hp
    rw [cl_key] at hs
    rw [cl_sa17] at hp
    simp only [keyC, act17C, List.take_succ_cons, List.take_zero, List.cons.injEq, and_true] at hs hp
    obtain ⟨rfl, rfl⟩ := hs
    obtain ⟨rfl, rfl, rfl, rfl, rfl, rfl, rfl, rfl, rfl, rfl, rfl, rfl, rfl, rfl⟩ := hp
    exact ⟨k, a, hk, rfl⟩
end
end

section
set_option linter.unusedSimpArgs false
set_option linter.unusedVariables false
open Go.RowKit Go.Lib Go.Sort
open Go.ChangeMaps (setBlock)

theorem upd_own {w0 w w' : World} {T M : Nat} {es es' : List (KO × NE)} (hb : Below w0.heap.size w0 w) (hf : ∀ r ∈ sfp T M es, w0.heap.size ≤ r) (h : Upd w w' (sfp T M es) (sfp T M es')) : Below w0.heap.size w0 w' ∧ ∀ r ∈ sfp T M es', w0.heap.size ≤ r :=
  ⟨hb.trans (h.below hb.size hf), fun r hr => (h.fresh r hr).elim (hf r) (fun h' => Nat.le_trans hb.size h')⟩
theorem sfp_sub {w : World} {T M : Nat} {c : Cfg} {ver : Nat} {es : List (KO × NE)} {rs rh : Nat} (h : SAt w T M c ver es rs rh) : ∀ r ∈ sfp T M es, r ∈ T :: M :: es.flatMap (fun p => p.2.2.2) := fun r hr => by
  simp only [sfp, List.mem_cons] at hr ⊢
  rcases hr with rfl | rfl | hr
  · exact .inl rfl
  · exact .inr (.inl rfl)
  · obtain ⟨p, hp, hr⟩ := mem_mfpE.1 hr
    exact .inr (.inr (List.mem_flatMap.2 ⟨p, hp, mfp_sub _ _ r hr⟩))

def kA : KO := ⟨(1, 0), ⟨by decide, by decide⟩⟩
def kB : KO := ⟨(2, 0), ⟨by decide, by decide⟩⟩
def cfgA : Cfg := ⟨1, 4, 1, 1⟩
def ndA1 : Nd := ⟨pol0, false, 1, [(3, 1)], [], false⟩
def ndA2 : Nd := ⟨pol0, false, 2, [(3, 1), (5, 1)], [], false⟩
theorem awA1 : putM ([] : List (KO × Nd)) kA { bump (ndOf [] kA) with smp := putS (ndOf [] kA).smp ((4 : Nat) : Int) (3, 1) } = [(kA, ndA1)] := by rfl
theorem awA2 : putM [(kA, ndA1)] kA { bump (ndOf [(kA, ndA1)] kA) with smp := putS (ndOf [(kA, ndA1)] kA).smp ((4 : Nat) : Int) (5, 1) } = [(kA, ndA2)] := by rfl
theorem kyN_ab (es : List (KO × NE)) : kyN es = (ab es).map (·.1.1) := by simp [kyN, ab, List.map_map, Function.comp_def]
theorem awG : goneS [(kA, ndA2)] 5 (risL [(1, 0)]) = 1 := by rfl

theorem cfgA_ok : cfgA.ok := by simp [Cfg.ok, cfgA, I64]
theorem cfgA_b : cfgB cfgA = true := by decide
end

section
set_option linter.unusedSimpArgs false
set_option linter.unusedVariables false
open Go.RowKit Go.Lib Go.Sort

abbrev ActK := Ky × Act17
def actKC (a : ActK) : List Value := act18C a.1 a.2

/-- A new stripe, ahead of all acts. -/
theorem play_new {w0 W1 W : World} {c : Cfg} {rs rh : Nat} {e : Ending} (hb : Below w0.heap.size w0 W1) (h : NewStripe W1 c rs rh e W) (h0 : 0 ≤ c.lo) : ∃ T M, e = .returned (.pointer (some ⟨T, 0, none⟩)) ∧ Play w0 W T M c rs rh 0 0 [] (.slice none 0 0) [] := by
  obtain ⟨T, fp, rfl, h1, h2, h3⟩ := h
  obtain ⟨M, hs, hfp⟩ := h1.at_
  have hf1 : ∀ r ∈ sfp T M [], W1.heap.size ≤ r := fun r hr => h2 r (by rw [hfp]; exact sfp_sub hs r hr)
  refine ⟨T, M, rfl, hs, ⟨⟨RowIn.nil, fun _ _ _ _ _ h => absurd h (by simp)⟩, fun x hx => (by cases hx)⟩, Tells18.nil, bthen hb h3, fun r hr => Nat.le_trans hb.size (hf1 r hr), fun p hp => (by cases hp), ⟨Nat.zero_le _, fun p hp => (by cases hp)⟩, fun x hx => (by cases hx), Nat.zero_le _, h0⟩

theorem play_get {w0 W : World} {T M : Nat} {c : Cfg} {rs rh n ver : Nat} {es : List (KO × NE)} {v : Value} {l : List It} (h : Play w0 W T M c rs rh n ver es v l) (k : KO) :
    (hasI l k.1 = false ∧ ∀ U, Below W.heap.size W U → Calls Tryz.prog 108 #[.pointer (some ⟨T, 0, none⟩), .agg #[.int .u64 k.1.1, .int .u64 k.1.2]] U fun e w' => e = .returned (.pointer none) ∧ Below U.heap.size U w') ∨
    (hasI l k.1 = true ∧ ∃ b, ∀ U, Below W.heap.size W U → Calls Tryz.prog 108 #[.pointer (some ⟨T, 0, none⟩), .agg #[.int .u64 k.1.1, .int .u64 k.1.2]] U fun e w' => e = .returned (.pointer (some ⟨b, 0, none⟩)) ∧ Below U.heap.size U w') := by
  have hh := h.tells.has k
  rw [ab_has] at hh
  cases hf : findM es k with
  | none =>
    refine .inl ⟨by rw [← hh]; exact none_has hf, fun U hU => ?_⟩
    have := sget_any T M c ver es rs rh k U (h.at_.below hU)
    rw [hf] at this
    exact this
  | some b => exact .inr ⟨by rw [← hh]; exact find_has hf, b.1, fun U hU => sget_some T M c ver es rs rh k b U (h.at_.below hU) hf⟩
end

end Go.Proofs.YtfegielnmdppgaaGreat
