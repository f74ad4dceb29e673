/- A cut's Stat and Total; A store in memory, and the world of the reference that it tells: the predicate and its frame; Walks of a store's small methods and of its table's. -/
import Derived.Test.YtmniiodpbebnmaaGreatC25
import Derived.Test.YtmniiodpbebnmaaGreatC26
import Derived.Test.YtmniiodpbebnmaaGreatC27
import Derived.Test.YtmniiodpbebnmaaGreatC13
import Derived.Test.YtmniiodpbebnmaaGreatC20
import Derived.Maps.Keyed
namespace Go.Proofs.YtmniiodpbebnmaaGreat

section
set_option linter.unusedSimpArgs false
set_option linter.unusedVariables false
open Go.RowKit Go.Lib Go.Sort

/-- What a cut tells of a key. -/
def cutSt (l : List En) (nd : En → Nd) (til wd : Int) (k : Ky) : StD := match findE l k with | none => st0 | some n => statW (nd (k, n)).smp til wd
def SmpOk (l : List En) (nd : En → Nd) : Prop := ∀ x ∈ l, smpI (nd x).smp
set_option maxRecDepth 100000 in
set_option maxHeartbeats 4000000 in
theorem cutStat_any (C : Nat) (ep : Int) (l : List En) (nd : En → Nd) (rs rh : Nat) (k : Ky) (til wd : Int) (w : World) (h : CutIn w C ep l) (hr : Ris l) (hl : l.length ≤ 1000) (hn : NodesOf w l nd rs rh) (hs : SmpOk l nd) (hrs : rs ≤ 256) (ht : I64 til) (hw : I64 wd) :
    Calls Tryz.prog 155 #[.pointer (some ⟨C, 0, none⟩), .agg #[.int .u64 k.1, .int .u64 k.2], .int .i64 til, .int .i64 wd] w fun e w' => e = .returned (.tuple #[stV (cutSt l nd til wd k), .bool (findE l k).isSome]) ∧ Below w.heap.size w w' := by
  have CG := Lib.hid (fun W (hW : Below w.heap.size w W) => cutGet_any C ep l k W (h.below hW) hr hl)
  unfold cutSt
  cases hf : findE l k with
  | none =>
    have e0 : ptr (none : Option Nat) = .pointer none := rfl
    rw [hf, e0] at CG
    simp only [Option.isSome_none] at CG ⊢
    clear h hr hl hn hs hf e0
    go_enter Tryz.func155, Tryz.ntmps155
    go_wp2_with (first
      | (go_at_call 100
         refine calls_named ?_
         intro W1 hW1
         have hb1 : Below w.heap.size w W1 := by rw [hW1]; exact balloc (balloc (Below.refl _ _) _) _
         have hx1 : W1.heap[w.heap.size + 1]? = some (.cells #[.int .i64 0, .int .i64 0, .int .i64 0, .int .i64 0, .int .i64 0] 42 (0, 0)) := by rw [hW1]; exact box_new _ _ _
         clear hW1
         refine (CG.out W1 hb1).mono ?_
         rintro e w2 ⟨rfl, hb2⟩
         have HX2 := Lib.hid (box_below (w := w) hx1 hb2)
         obtain ⟨e1, e2, e3⟩ := box_cells (Below.refl _ _) HX2.out
         have HB2 := Lib.hid (bthen hb1 hb2)
         clear hb1 hx1 hb2))
    have hz2 := setCell_block (i := 4) (v := .int .i64 0) (setCell_block (i := 3) (v := .int .i64 0) (setCell_block (i := 2) (v := .int .i64 0) (setCell_block (i := 1) (v := .int .i64 0) (setCell_block (i := 0) (v := .int .i64 0) HX2.out))))
    obtain ⟨f1, f2, f3⟩ := box_cells (Below.refl _ _) hz2
    refine bodyPost_ret (v := .tuple #[.agg #[.int .i64 0, .int .i64 0, .int .i64 0, .int .i64 0, .int .i64 0], .bool false]) (by simp [results, Tryz.results155, go_sem, f1]) rfl ⟨rfl, ?_⟩
    exact ((((HB2.out.setCell (by simp) _).setCell (by simp) _).setCell (by simp) _).setCell (by simp) _).setCell (by simp) _
  | some n =>
    have e0 : ptr (some n) = .pointer (some ⟨n, 0, none⟩) := rfl
    rw [hf, e0] at CG
    simp only [Option.isSome_some] at CG ⊢
    have hm := findE_mem hf
    obtain ⟨fp, hnd⟩ := hn _ hm
    have hsm := hs _ hm
    have CSm := Lib.hid (fun W (hW : Below w.heap.size w W) => nodeSamples_any n (nd (k, n)) rs rh fp W (hnd.below hW) hrs)
    have hlen : (nd (k, n)).smp.length ≤ 1000000 := by have := hnd.ok.len; omega
    generalize (nd (k, n)).smp = sm at hsm CSm hlen ⊢
    have CAt := Lib.hid (fun v W (hv : RowIn 2 smpC W v sm) => winAt_any v sm til wd W hv hlen hsm ht hw)
    generalize statW sm til wd = s at CAt ⊢
    obtain ⟨s0, s1, s2, s3, s4⟩ := s
    unfold stV at CAt ⊢
    simp only at CAt ⊢
    clear h hr hl hn hs hf e0 hm hnd hsm hlen
    go_enter Tryz.func155, Tryz.ntmps155
    go_wp2_with (first
      | (go_at_call 100
         refine calls_named ?_
         intro W1 hW1
         have hb1 : Below w.heap.size w W1 := by rw [hW1]; exact balloc (balloc (Below.refl _ _) _) _
         have hx1 : W1.heap[w.heap.size + 1]? = some (.cells #[.int .i64 0, .int .i64 0, .int .i64 0, .int .i64 0, .int .i64 0] 42 (0, 0)) := by rw [hW1]; exact box_new _ _ _
         clear hW1
         refine (CG.out W1 hb1).mono ?_
         rintro e w2 ⟨rfl, hb2⟩
         have HX2 := Lib.hid (box_below (w := w) hx1 hb2)
         have HB2 := Lib.hid (bthen hb1 hb2)
         clear hb1 hx1 hb2)
      | (go_at_call 107
         refine (CSm.out w2 HB2.out).mono ?_
         rintro e w3 ⟨A, c, f, rfl, hr, _, hb3⟩
         have HR3 := Lib.hid (hr.row eSmp)
         have HX3 := Lib.hid (box_below (w := w) HX2.out hb3)
         have HB3 := Lib.hid (bthen HB2.out hb3)
         clear hr hb3)
      | (go_at_call 134
         refine (CAt.out _ w3 HR3.out).mono ?_
         rintro e w4 ⟨rfl, hb4⟩
         have HX4 := Lib.hid (box_below (w := w) HX3.out hb4)
         obtain ⟨e1, e2, e3⟩ := box_cells (Below.refl _ _) HX4.out
         have HB4 := Lib.hid (bthen HB3.out hb4)
         clear hb4))
    have hz2 := setCell_block (i := 4) (v := .int .i64 s4) (setCell_block (i := 3) (v := .int .i64 s3) (setCell_block (i := 2) (v := .int .i64 s2) (setCell_block (i := 1) (v := .int .i64 s1) (setCell_block (i := 0) (v := .int .i64 s0) HX4.out))))
    obtain ⟨f1, f2, f3⟩ := box_cells (Below.refl _ _) hz2
    refine bodyPost_ret (v := .tuple #[.agg #[.int .i64 s0, .int .i64 s1, .int .i64 s2, .int .i64 s3, .int .i64 s4], .bool true]) (by simp [results, Tryz.results155, go_sem, f1]) rfl ⟨rfl, ?_⟩
    exact ((((HB4.out.setCell (by simp) _).setCell (by simp) _).setCell (by simp) _).setCell (by simp) _).setCell (by simp) _
end

section
set_option linter.unusedSimpArgs false
set_option linter.unusedVariables false
open Go.RowKit Go.Lib Go.Sort

/-! ### One act on a stripe, plainly -/
def mkIt (p : Itm) : It := ⟨p.1, none, 0, none, 0, p.2⟩
theorem mkIt_abs (R : List Itm) : (R.map mkIt).map absI = R := by
  rw [List.map_map]
  exact (List.map_congr_left (fun p _ => rfl)).trans (List.map_id R)
theorem tells_one {S : List (KO × Nd)} {R : List Itm} (h : Tells18 S R) (c : Cfg) (rs rh ver : Nat) (k : KO) (a : Act17) (h0 : ¬ a.kind < 0) (h1 : a.kind ≠ 1) (h3 : ¬ 3 < a.kind) :
    Tells18 (doS c rs rh ver S k a).has (oneP c rs rh R k.1 a).1 ∧ (doS c rs rh ver S k a).err = (oneP c rs rh R k.1 a).2 := by
  have h' : Tells18 S ((R.map mkIt).map absI) := by rw [mkIt_abs]; exact h
  have ht := tells_act h' c rs rh ver k a
  rw [do18_one h1 (by omega)] at ht
  have e := oneP_abs c rs rh (R.map mkIt) k.1 a
  rw [mkIt_abs] at e
  rw [e]
  exact ⟨ht.1, ht.2.1⟩
theorem tells_trimR {S : List (KO × Nd)} {R : List Itm} (h : Tells18 S R) (c : Cfg) (rs rh ver : Nat) (k : KO) (cut : Int) :
    Tells18 (doS c rs rh ver S k ⟨1, (cut, 0), pol0, adv0⟩).has (R.map fun p => (p.1, trimR cut p.2)) := by
  have h' : Tells18 S ((R.map mkIt).map absI) := by rw [mkIt_abs]; exact h
  have ht := (tells_act h' c rs rh ver k ⟨1, (cut, 0), pol0, adv0⟩).1
  unfold do18 at ht
  rw [if_pos rfl, List.map_map] at ht
  exact ht

/-! ### Stripes in memory -/
structure St where
  T : Nat
  M : Nat
  ver : Nat
  es : List (KO × NE)
def St.all (s : St) : List Nat := s.T :: s.M :: s.es.flatMap (fun p => p.2.2.2)
def St.fp (s : St) : List Nat := sfp s.T s.M s.es
theorem St.sub (s : St) : ∀ r ∈ s.fp, r ∈ s.all := by
  intro r hr
  simp only [St.fp, sfp, List.mem_cons] at hr
  simp only [St.all, List.mem_cons, List.mem_flatMap]
  rcases hr with rfl | rfl | hr
  · exact .inl rfl
  · exact .inr (.inl rfl)
  · obtain ⟨p, hp, hr⟩ := mem_mfpE.1 hr
    exact .inr (.inr ⟨p, hp, mfp_sub _ _ r hr⟩)
structure StrOk (w : World) (c : Cfg) (rs rh n : Nat) (s : St) (R : List Itm) : Prop where
  at_ : SAt w s.T s.M c s.ver s.es rs rh
  tells : Tells18 (ab s.es) R
  grown : Grown n s.ver (ab s.es)
  ver_ : s.ver ≤ 1000 * n
theorem StrOk.lt {w : World} {c : Cfg} {rs rh n : Nat} {s : St} {R : List Itm} (h : StrOk w c rs rh n s R) : ∀ r ∈ s.all, r < w.heap.size := by
  intro r hr
  simp only [St.all, List.mem_cons, List.mem_flatMap] at hr
  rcases hr with rfl | rfl | ⟨p, hp, hr⟩
  · exact h.at_.ltT
  · exact h.at_.map.lt
  · exact (h.at_.node p hp).lt r hr
theorem StrOk.kept {w w' : World} {c : Cfg} {rs rh n : Nat} {s : St} {R : List Itm} (h : StrOk w c rs rh n s R) (hk : ∀ r ∈ s.all, w'.heap[r]? = w.heap[r]?) : StrOk w' c rs rh n s R :=
  ⟨⟨(hk s.T (by simp [St.all])).trans h.at_.cell, h.at_.map.block (hk s.M (by simp [St.all])), fun p hp => (h.at_.node p hp).kept (fun r hr => hk r (by
    simp only [St.all, List.mem_cons, List.mem_flatMap]
    exact .inr (.inr ⟨p, hp, hr⟩))), h.at_.pair, h.at_.off, h.at_.ne⟩, h.tells, h.grown, h.ver_⟩
theorem Grown.mono {n m ver : Nat} {S : List (KO × Nd)} (h : Grown n ver S) (hm : n ≤ m) : Grown m ver S := ⟨Nat.le_trans h.len hm, fun p hp => Nat.le_trans (h.vers p hp) hm⟩
theorem StrOk.mono {w : World} {c : Cfg} {rs rh n m : Nat} {s : St} {R : List Itm} (h : StrOk w c rs rh n s R) (hm : n ≤ m) : StrOk w c rs rh m s R :=
  ⟨h.at_, h.tells, h.grown.mono hm, by have := h.ver_; omega⟩

/-! ### Cuts in memory -/
/-- A cut that tells these items. -/
def CutHas (P : Nat → Prop) (w : World) (C : Nat) (rs rh : Nat) (ep : Int) (R : List Itm) : Prop :=
  ∃ (A : Option Addr) (cc : Nat) (l : List En), P C ∧ w.heap[C]? = some (.cells #[.int .i64 ep, .slice A l.length cc] 167 (0, 0)) ∧ RowG P 3 enC w (.slice A l.length cc) l ∧ Ris l ∧ l.length ≤ 400 ∧
    (∀ x ∈ l, ∃ y fp z, NodeIn w x.2 y rs rh fp ∧ (∀ r ∈ fp, P r) ∧ findIt R x.1 = some z ∧ sameN y z) ∧ ∀ k, findE l k = none → findIt R k = none
theorem CutHas.keep {P Q : Nat → Prop} {w w' : World} {C rs rh : Nat} {ep : Int} {R : List Itm} (h : CutHas P w C rs rh ep R) (hs : w.heap.size ≤ w'.heap.size) (hk : ∀ b, P b → b < w.heap.size → w'.heap[b]? = w.heap[b]? ∧ Q b) : CutHas Q w' C rs rh ep R := by
  obtain ⟨A, cc, l, h1, h2, h3, h4, h5, h6, h8⟩ := h
  have hC := (Array.getElem?_eq_some_iff.1 h2).1
  refine ⟨A, cc, l, (hk C h1 hC).2, (hk C h1 hC).1.trans h2, ?_, h4, h5, fun x hx => ?_, h8⟩
  · exact ((h3.lt.keepP hs (fun b hb hlt => (hk b hb.1 hlt).1)).imp (fun b hb => (hk b hb.1 hb.2).2))
  · obtain ⟨y, fp, z, a, b, e, f⟩ := h6 x hx
    exact ⟨y, fp, z, a.kept (fun r hr => (hk r (b r hr) (a.lt r hr)).1), fun r hr => (hk r (b r hr) (a.lt r hr)).2, e, f⟩

/-- A cut's number, as a key. -/
abbrev HN := { n : Nat // n ≤ 1000000 }
def hdl (i : Nat) : HN := ⟨min i 1000000, Nat.min_le_right ..⟩
theorem hdl_val {i : Nat} (h : i ≤ 1000000) : (hdl i).1 = i := Nat.min_eq_left h
theorem hdl_inj {i j : Nat} (hi : i ≤ 1000000) (hj : j ≤ 1000000) (h : hdl i = hdl j) : i = j := by
  have := congrArg Subtype.val h
  rwa [hdl_val hi, hdl_val hj] at this
def hdV (x : HN) : Value := .int .i64 (x.1 : Nat)
theorem keysHd : KeysBy Tryz.prog 3 hdV where
  law := Go.Maps.int_keyed Tryz.underlying3
  key x := ⟨_, Go.Maps.keyOf_int_mk Tryz.underlying3 (by have := x.2; simp [Lit.wf, IntKind.min, IntKind.max, IntKind.signed, IntKind.bits]; omega)⟩
  inj x y h := by
    simp only [hdV, Value.int.injEq, true_and] at h
    exact Subtype.ext (by omega)
def blkV (b : Nat) : Value := .pointer (some ⟨b, 0, none⟩)
def stpC (s : St) : List Value := [.pointer (some ⟨s.T, 0, none⟩)]

/-! ### A store in memory -/
structure StoD where
  A : Nat
  cp : Nat
  H : Nat
  L : Nat
  sts : List St
  live : List (HN × Nat)
def StoD.fp (S : Nat) (d : StoD) : List Nat := S :: d.H :: d.L :: d.sts.flatMap St.fp
theorem mem_fp {S : Nat} {d : StoD} {r : Nat} : r ∈ d.fp S ↔ r = S ∨ r = d.H ∨ r = d.L ∨ ∃ s ∈ d.sts, r ∈ s.fp := by
  simp [StoD.fp, List.mem_flatMap]
structure StoreAt (B : Nat → Prop) (w : World) (S : Nat) (c : Cfg) (rs rh n : Nat) (wd : Wd) (d : StoD) : Prop where
  cell : w.heap[S]? = some (.cells #[.slice (some ⟨d.A, 0, none⟩) d.sts.length d.cp, .pointer (some ⟨d.H, 0, none⟩), .int .i64 wd.ep, .bool wd.over] 148 (0, 0))
  row : RowG (fun b => b ∉ d.fp S ∧ B b) 1 stpC w (.slice (some ⟨d.A, 0, none⟩) d.sts.length d.cp) d.sts
  len : d.sts.length = wd.st.length
  str : ∀ (i : Nat) s R, d.sts[i]? = some s → wd.st[i]? = some R → StrOk w c rs rh n s R
  pair : ∀ (i j : Nat) s t, d.sts[i]? = some s → d.sts[j]? = some t → i ≠ j → apart s.all t.all
  off : ∀ s ∈ d.sts, S ∉ s.all ∧ d.H ∉ s.all ∧ d.L ∉ s.all
  ne : S ≠ d.H ∧ S ≠ d.L ∧ d.H ≠ d.L
  tab : w.heap[d.H]? = some (.cells #[.map (some d.L), .int .i64 ((wd.cuts.length + 1 : Nat) : Int)] 229 (0, 0))
  live : MapIn hdV blkV w d.L d.live
  keys : ∀ p ∈ d.live, 1 ≤ p.1.1 ∧ p.1.1 ≤ wd.cuts.length
  cut : ∀ (i : Nat) q, wd.cuts[i]? = some q → (q.freed = true ∧ findM d.live (hdl (i + 1)) = none) ∨ (q.freed = false ∧ ∃ C, findM d.live (hdl (i + 1)) = some C ∧ CutHas (fun b => b ∉ d.fp S ∧ B b) w C rs rh q.ep q.items)
  cnt : d.live.length = liveT (tabW wd)
  bS : B S ∧ B d.H ∧ B d.L
  bs : ∀ s ∈ d.sts, ∀ r ∈ s.all, B r
theorem StoreAt.ltS {B : Nat → Prop} {w : World} {S : Nat} {c : Cfg} {rs rh n : Nat} {wd : Wd} {d : StoD} (h : StoreAt B w S c rs rh n wd d) : S < w.heap.size := (Array.getElem?_eq_some_iff.1 h.cell).1
theorem StoreAt.ltH {B : Nat → Prop} {w : World} {S : Nat} {c : Cfg} {rs rh n : Nat} {wd : Wd} {d : StoD} (h : StoreAt B w S c rs rh n wd d) : d.H < w.heap.size := (Array.getElem?_eq_some_iff.1 h.tab).1
theorem StoreAt.get {B : Nat → Prop} {w : World} {S : Nat} {c : Cfg} {rs rh n : Nat} {wd : Wd} {d : StoD} (h : StoreAt B w S c rs rh n wd d) {i : Nat} {s : St} (hs : d.sts[i]? = some s) : ∃ R, wd.st[i]? = some R ∧ StrOk w c rs rh n s R := by
  have hi := (List.getElem?_eq_some_iff.1 hs).1
  rw [h.len] at hi
  exact ⟨_, List.getElem?_eq_getElem hi, h.str i s _ hs (List.getElem?_eq_getElem hi)⟩
theorem StoreAt.ltA {B : Nat → Prop} {w : World} {S : Nat} {c : Cfg} {rs rh n : Nat} {wd : Wd} {d : StoD} (h : StoreAt B w S c rs rh n wd d) : ∀ s ∈ d.sts, ∀ r ∈ s.all, r < w.heap.size := by
  intro s hs
  obtain ⟨i, hi⟩ := List.getElem?_of_mem hs
  obtain ⟨R, _, hR⟩ := h.get hi
  exact hR.lt
theorem StoreAt.fpLt {B : Nat → Prop} {w : World} {S : Nat} {c : Cfg} {rs rh n : Nat} {wd : Wd} {d : StoD} (h : StoreAt B w S c rs rh n wd d) : ∀ r ∈ d.fp S, r < w.heap.size ∧ B r := by
  intro r hr
  rcases mem_fp.1 hr with rfl | rfl | rfl | ⟨s, hs, hr⟩
  · exact ⟨h.ltS, h.bS.1⟩
  · exact ⟨h.ltH, h.bS.2.1⟩
  · exact ⟨h.live.lt, h.bS.2.2⟩
  · exact ⟨h.ltA s hs r (s.sub r hr), h.bs s hs r (s.sub r hr)⟩
/-- What others do leaves a store. -/
theorem StoreAt.keep {B B' : Nat → Prop} {w w' : World} {S : Nat} {c : Cfg} {rs rh n : Nat} {wd : Wd} {d : StoD} (h : StoreAt B w S c rs rh n wd d) (hs : w.heap.size ≤ w'.heap.size) (hk : ∀ r, B r → r < w.heap.size → w'.heap[r]? = w.heap[r]? ∧ B' r) : StoreAt B' w' S c rs rh n wd d := by
  have h1 := hk S h.bS.1 h.ltS
  have h2 := hk d.H h.bS.2.1 h.ltH
  have h3 := hk d.L h.bS.2.2 h.live.lt
  have ha : ∀ s ∈ d.sts, ∀ r ∈ s.all, w'.heap[r]? = w.heap[r]? ∧ B' r := fun s hs' r hr => hk r (h.bs s hs' r hr) (h.ltA s hs' r hr)
  refine ⟨h1.1.trans h.cell, ?_, h.len, fun i s R hs' hR => (h.str i s R hs' hR).kept (fun r hr => (ha s (List.mem_of_getElem? hs') r hr).1), h.pair, h.off, h.ne, h2.1.trans h.tab, h.live.block h3.1, h.keys, fun i q hq => ?_, h.cnt, ⟨h1.2, h2.2, h3.2⟩, fun s hs' r hr => (ha s hs' r hr).2⟩
  · exact (h.row.lt.keepP hs (fun b hb hlt => (hk b hb.1.2 hlt).1)).imp (fun b hb => ⟨hb.1.1, (hk b hb.1.2 hb.2).2⟩)
  · rcases h.cut i q hq with hf | ⟨hf, C, hC, hh⟩
    · exact .inl hf
    · exact .inr ⟨hf, C, hC, hh.keep hs (fun b hb hlt => ⟨(hk b hb.2 hlt).1, hb.1, (hk b hb.2 hlt).2⟩)⟩
theorem StoreAt.below {B : Nat → Prop} {w w' : World} {S : Nat} {c : Cfg} {rs rh n : Nat} {wd : Wd} {d : StoD} (h : StoreAt B w S c rs rh n wd d) (hb : Below w.heap.size w w') : StoreAt B w' S c rs rh n wd d :=
  h.keep hb.size (fun r hr hlt => ⟨hb.block r hlt, hr⟩)
theorem StoreAt.mono {B : Nat → Prop} {w : World} {S : Nat} {c : Cfg} {rs rh n m : Nat} {wd : Wd} {d : StoD} (h : StoreAt B w S c rs rh n wd d) (hm : n ≤ m) : StoreAt B w S c rs rh m wd d :=
  ⟨h.cell, h.row, h.len, fun i s R hs hR => (h.str i s R hs hR).mono hm, h.pair, h.off, h.ne, h.tab, h.live, h.keys, h.cut, h.cnt, h.bS, h.bs⟩

theorem Old.all {w : World} {s : St} {es' : List (KO × NE)} (ho : Old w.heap.size s.es es') (ver' : Nat) : ∀ r ∈ St.all ⟨s.T, s.M, ver', es'⟩, r ∈ s.all ∨ w.heap.size ≤ r := by
  intro r hr
  simp only [St.all, List.mem_cons, List.mem_flatMap] at hr ⊢
  rcases hr with rfl | rfl | ⟨p, hp, hr⟩
  · exact .inl (.inl rfl)
  · exact .inl (.inr (.inl rfl))
  · rcases ho p hp r hr with h9 | ⟨q, hq, hr⟩
    · exact .inr h9
    · exact .inl (.inr (.inr ⟨q, hq, hr⟩))
/-- A stripe turned. -/
theorem StoreAt.turn {B : Nat → Prop} {w w' : World} {S : Nat} {c : Cfg} {rs rh n m : Nat} {wd : Wd} {d : StoD} (h : StoreAt B w S c rs rh n wd d) {i : Nat} {s : St} {R : List Itm} (hi : d.sts[i]? = some s) (hR : wd.st[i]? = some R) {ver' : Nat} {es' : List (KO × NE)} (hB : ∀ r ∈ St.all ⟨s.T, s.M, ver', es'⟩, B r) {R' : List Itm} (hm : n ≤ m)
    (hu : Upd w w' s.fp (sfp s.T s.M es')) (ho : Old w.heap.size s.es es') (hok : StrOk w' c rs rh m ⟨s.T, s.M, ver', es'⟩ R') :
    StoreAt B w' S c rs rh m { wd with st := wd.st.set i R' } { d with sts := d.sts.set i ⟨s.T, s.M, ver', es'⟩ } ∧ Upd w w' (d.fp S) (StoD.fp S { d with sts := d.sts.set i ⟨s.T, s.M, ver', es'⟩ }) := by
  have hsm := List.mem_of_getElem? hi
  have hil := (List.getElem?_eq_some_iff.1 hi).1
  have hall := ho.all (s := s) ver'
  have hoff := h.off s hsm
  have hnot : ∀ r, r ∉ s.all → r < w.heap.size → w'.heap[r]? = w.heap[r]? := fun r hr hlt => hu.block r hlt (fun hq => hr (s.sub r hq))
  have hmem : ∀ (j : Nat) t, (d.sts.set i ⟨s.T, s.M, ver', es'⟩)[j]? = some t → (j = i ∧ t = ⟨s.T, s.M, ver', es'⟩) ∨ (j ≠ i ∧ d.sts[j]? = some t) := by
    intro j t ht
    rw [List.getElem?_set] at ht
    split at ht
    · rename_i e
      injection ht with ht
      exact .inl ⟨e.symm, ht.symm⟩
    · rename_i e
      exact .inr ⟨fun e' => e e'.symm, ht⟩
  have hother : ∀ (j : Nat) t, d.sts[j]? = some t → j ≠ i → ∀ r ∈ t.all, w'.heap[r]? = w.heap[r]? := fun j t ht hj r hr => hnot r (fun hr' => h.pair i j s t hi ht (fun e => hj e.symm) r hr' hr) (h.ltA t (List.mem_of_getElem? ht) r hr)
  have hfp : ∀ r, r ∈ StoD.fp S { d with sts := d.sts.set i ⟨s.T, s.M, ver', es'⟩ } → r ∈ d.fp S ∨ w.heap.size ≤ r := by
    intro r hr
    rcases mem_fp.1 hr with rfl | rfl | rfl | ⟨t, ht, hr⟩
    · exact .inl (mem_fp.2 (.inl rfl))
    · exact .inl (mem_fp.2 (.inr (.inl rfl)))
    · exact .inl (mem_fp.2 (.inr (.inr (.inl rfl))))
    · rcases List.mem_or_eq_of_mem_set ht with ht | rfl
      · exact .inl (mem_fp.2 (.inr (.inr (.inr ⟨t, ht, hr⟩))))
      · rcases hu.fresh r hr with h9 | h9
        · exact .inl (mem_fp.2 (.inr (.inr (.inr ⟨s, hsm, h9⟩))))
        · exact .inr h9
  have hkP : ∀ b, (b ∉ d.fp S ∧ B b) → b < w.heap.size → w'.heap[b]? = w.heap[b]? ∧ (b ∉ StoD.fp S { d with sts := d.sts.set i ⟨s.T, s.M, ver', es'⟩ } ∧ B b) := fun b hb hlt =>
    ⟨hu.block b hlt (fun hq => hb.1 (mem_fp.2 (.inr (.inr (.inr ⟨s, hsm, hq⟩))))), fun hq => (hfp b hq).elim hb.1 (fun h9 => by omega), hb.2⟩
  refine ⟨⟨?_, ?_, ?_, fun j t R1 ht hR1 => ?_, fun j k t u ht hu' hjk => ?_, fun t ht => ?_, h.ne, ?_, ?_, h.keys, fun j q hq => ?_, h.cnt, h.bS, fun t ht r hr => ?_⟩, ⟨hu.os, hu.tape, hu.output, hu.size, fun r hlt hn => hu.block r hlt (fun hq => hn (mem_fp.2 (.inr (.inr (.inr ⟨s, hsm, hq⟩))))), hfp⟩⟩
  · rw [List.length_set]
    exact (hnot S hoff.1 h.ltS).trans h.cell
  · have h1 := (h.row.lt.keepP hu.size (fun b hb hlt => (hkP b hb.1 hlt).1)).imp (Q := fun b => b ∉ StoD.fp S { d with sts := d.sts.set i ⟨s.T, s.M, ver', es'⟩ } ∧ B b) (fun b hb => (hkP b hb.1 hb.2).2)
    refine ⟨?_, fun b o m' c' e hn => h1.2 b o m' c' (by rw [List.length_set] at e; exact e) (by rw [List.length_set] at hn; exact hn)⟩
    obtain ⟨A1, c1, e1, hc1, hx⟩ := h1.1
    rw [List.length_set]
    refine ⟨A1, c1, by rw [List.length_set]; exact e1, by rw [List.length_set]; exact hc1, fun hp => ?_⟩
    rw [List.length_set] at hp
    obtain ⟨b, o, hA, hb, hx⟩ := hx hp
    refine ⟨b, o, hA, hb, fun k x hk j u hu' => ?_⟩
    rcases hmem k x hk with ⟨rfl, rfl⟩ | ⟨_, hk⟩
    · exact hx k s hi j u hu'
    · exact hx k x hk j u hu'
  · rw [List.length_set, List.length_set]; exact h.len
  · rw [List.getElem?_set] at hR1
    rcases hmem j t ht with ⟨rfl, rfl⟩ | ⟨hj, ht⟩
    · rw [if_pos rfl, if_pos (by rw [← h.len]; exact hil)] at hR1
      injection hR1 with hR1
      subst hR1
      exact hok
    · rw [if_neg (fun e => hj e.symm)] at hR1
      exact ((h.str j t R1 ht hR1).kept (hother j t ht hj)).mono hm
  · rcases hmem j t ht with ⟨e1, e2⟩ | ⟨hj, ht2⟩
    · rcases hmem k u hu' with ⟨e3, e4⟩ | ⟨hk, hu2⟩
      · exact absurd (e1.trans e3.symm) hjk
      · intro r hr hr'
        rw [e2] at hr
        rcases hall r hr with h9 | h9
        · exact h.pair i k s u hi hu2 (fun e => hk e.symm) r h9 hr'
        · have := h.ltA u (List.mem_of_getElem? hu2) r hr'; omega
    · rcases hmem k u hu' with ⟨e3, e4⟩ | ⟨hk, hu2⟩
      · intro r hr hr'
        rw [e4] at hr'
        rcases hall r hr' with h9 | h9
        · exact h.pair j i t s ht2 hi hj r hr h9
        · have := h.ltA t (List.mem_of_getElem? ht2) r hr; omega
      · exact h.pair j k t u ht2 hu2 hjk
  · rcases List.mem_or_eq_of_mem_set ht with ht | rfl
    · exact h.off t ht
    · refine ⟨fun hq => (hall _ hq).elim hoff.1 (fun h9 => ?_), fun hq => (hall _ hq).elim hoff.2.1 (fun h9 => ?_), fun hq => (hall _ hq).elim hoff.2.2 (fun h9 => ?_)⟩
      · have := h.ltS; omega
      · have := h.ltH; dsimp only at h9; omega
      · have := h.live.lt; dsimp only at h9; omega
  · exact (hnot d.H hoff.2.1 h.ltH).trans h.tab
  · exact h.live.block (hnot d.L hoff.2.2 h.live.lt)
  · rcases h.cut j q hq with hf | ⟨hf, C, hC, hh⟩
    · exact .inl hf
    · exact .inr ⟨hf, C, hC, hh.keep hu.size hkP⟩
  · rcases List.mem_or_eq_of_mem_set ht with ht | rfl
    · exact h.bs t ht r hr
    · exact hB r hr

/-- The home of what a stripe has. -/
def HomeOk (c : Cfg) (wd : Wd) : Prop := ∀ (i : Nat) R, wd.st[i]? = some R → ∀ p ∈ R, routeI p.1.1 p.1.2 c.st = (i : Int)
/-- A store. -/
def StoreIn (B : Nat → Prop) (w : World) (S : Nat) (c : Cfg) (rs rh n : Nat) (wd : Wd) (fp : List Nat) : Prop := ∃ d, StoreAt B w S c rs rh n wd d ∧ fp = d.fp S
theorem StoreIn.keep {B B' : Nat → Prop} {w w' : World} {S : Nat} {c : Cfg} {rs rh n : Nat} {wd : Wd} {fp : List Nat} (h : StoreIn B w S c rs rh n wd fp) (hs : w.heap.size ≤ w'.heap.size) (hk : ∀ r, B r → r < w.heap.size → w'.heap[r]? = w.heap[r]? ∧ B' r) : StoreIn B' w' S c rs rh n wd fp := by
  obtain ⟨d, h, rfl⟩ := h
  exact ⟨d, h.keep hs hk, rfl⟩
theorem StoreIn.below {B : Nat → Prop} {w w' : World} {S : Nat} {c : Cfg} {rs rh n : Nat} {wd : Wd} {fp : List Nat} (h : StoreIn B w S c rs rh n wd fp) (hb : Below w.heap.size w w') : StoreIn B w' S c rs rh n wd fp := by
  obtain ⟨d, h, rfl⟩ := h
  exact ⟨d, h.below hb, rfl⟩
theorem StoreIn.mono {B : Nat → Prop} {w : World} {S : Nat} {c : Cfg} {rs rh n m : Nat} {wd : Wd} {fp : List Nat} (h : StoreIn B w S c rs rh n wd fp) (hm : n ≤ m) : StoreIn B w S c rs rh m wd fp := by
  obtain ⟨d, h, rfl⟩ := h
  exact ⟨d, h.mono hm, rfl⟩
/-- What a store's method says. -/
def StoSays (B : Nat → Prop) (w : World) (S : Nat) (c : Cfg) (rs rh n : Nat) (fp : List Nat) (v : Value) (wd : Wd) (e : Ending) (w' : World) : Prop := ∃ fp', e = .returned v ∧ StoreIn B w' S c rs rh n wd fp' ∧ Upd w w' fp fp'
end

section
set_option linter.unusedSimpArgs false
set_option linter.unusedVariables false
open Go.RowKit Go.Lib Go.Sort

section
variable {B : Nat → Prop} {S : Nat} {c : Cfg} {rs rh n : Nat} {wd : Wd} {d : StoD}
set_option maxRecDepth 100000 in
set_option maxHeartbeats 1000000 in
theorem stoMade_any (w : World) (h : StoreAt B w S c rs rh n wd d) (hp : 0 < d.sts.length) :
    Calls Tryz.prog 80 #[.pointer (some ⟨S, 0, none⟩)] w fun e w' => e = .returned (.bool true) ∧ w' = w := by
  obtain ⟨a1, a2, a3⟩ := box_cells (Below.refl _ _) h.cell
  have z : (0 : Int) < (d.sts.length : Int) := by omega
  have z2 : decide (0 < d.sts.length) = true := by simpa using hp
  clear h hp
  go_enter Tryz.func80, Tryz.ntmps80
  go_wp2
  go_ret
  exact ⟨rfl, rfl⟩
set_option maxRecDepth 100000 in
set_option maxHeartbeats 1000000 in
theorem stoCount_any (w : World) (h : StoreAt B w S c rs rh n wd d) (hp : 0 < d.sts.length) :
    Calls Tryz.prog 29 #[.pointer (some ⟨S, 0, none⟩)] w fun e w' => e = .returned (.int .i64 (d.sts.length : Nat)) ∧ w' = w := by
  obtain ⟨a1, a2, a3⟩ := box_cells (Below.refl _ _) h.cell
  have HM := Lib.hid (stoMade_any w h hp)
  clear h hp
  go_enter Tryz.func29, Tryz.ntmps29
  go_wp2_with (go_at_call 80; refine HM.out.mono ?_; rintro e w' ⟨rfl, rfl⟩)
  go_ret
  exact ⟨rfl, rfl⟩
set_option maxRecDepth 100000 in
set_option maxHeartbeats 1000000 in
theorem stoStripe_any (w : World) (h : StoreAt B w S c rs rh n wd d) (i : Nat) (s : St) (hi : d.sts[i]? = some s) (hl : d.sts.length ≤ 64) :
    Calls Tryz.prog 32 #[.pointer (some ⟨S, 0, none⟩), .int .i64 (i : Nat)] w fun e w' => e = .returned (.pointer (some ⟨s.T, 0, none⟩)) ∧ w' = w := by
  obtain ⟨a1, a2, a3⟩ := box_cells (Below.refl _ _) h.cell
  obtain ⟨hil, his⟩ := List.getElem?_eq_some_iff.1 hi
  have HM := Lib.hid (stoCount_any w h (by omega))
  obtain ⟨b, o, hA, hb, hc⟩ := h.row.1.at_ hil
  injection hA with hA
  injection hA with e1 e2
  subst e1 e2
  have c1 : w.cell? ⟨d.A, i, none⟩ = some (.pointer (some ⟨s.T, 0, none⟩)) := by
    rw [his] at hc
    have := hc 0 _ rfl
    simpa using this
  have z1 : ¬ (i : Int) < 0 := by omega
  have z2 : ¬ (d.sts.length : Int) ≤ (i : Int) := by omega
  have z3 : (i : Int) < (d.sts.length : Int) := by omega
  have z4 : (0 : Int) ≤ (i : Int) := by omega
  clear h hi hil his hc hb hl
  go_enter Tryz.func32, Tryz.ntmps32
  go_wp2_with (go_at_call 29; refine HM.out.mono ?_; rintro e w' ⟨rfl, rfl⟩)
  go_ret
  exact ⟨rfl, rfl⟩
set_option maxRecDepth 100000 in
set_option maxHeartbeats 1000000 in
theorem stoHome_any (w : World) (h : StoreAt B w S c rs rh n wd d) (hp : 0 < d.sts.length) (hl : (d.sts.length : Int) = c.st) (hl2 : d.sts.length ≤ 64) (k : Ky) (hk : k.ok) :
    Calls Tryz.prog 30 #[.pointer (some ⟨S, 0, none⟩), .agg #[.int .u64 k.1, .int .u64 k.2]] w fun e w' => e = .returned (.int .i64 (routeI k.1 k.2 c.st)) ∧ Below w.heap.size w w' := by
  have HM := Lib.hid (fun W (hW : Below w.heap.size w W) => stoCount_any W (h.below hW) hp)
  have HR := Lib.hid (fun W => show Calls Tryz.prog 88 #[.agg #[.int .u64 k.1, .int .u64 k.2], .int .i64 (d.sts.length : Nat)] W fun e w' => e = .returned (.int .i64 (routeI k.1 k.2 c.st)) ∧ Below W.heap.size W w' from hl ▸ routeOf_any k.1 k.2 (d.sts.length : Nat) W hk.1 hk.2 (by unfold I64; omega))
  clear h hp hl
  go_enter Tryz.func30, Tryz.ntmps30
  go_wp2_with fail
  refine name_world ?_
  intro W hW
  have hb1 : Below w.heap.size w W := by rw [hW]; exact balloc (Below.refl _ _) _
  have hx1 : W.heap[w.heap.size]? = some (.cells #[.int .u64 k.1, .int .u64 k.2] 74 (0, 0)) := by rw [hW]; exact heap_alloc_new _ _
  clear hW
  have rk0 : ∀ U, Below W.heap.size W U → U.cell? ⟨w.heap.size, 0, none⟩ = some (.int .u64 k.1) := fun U hU => (box_cells hU hx1).1 0
  have rk1 : ∀ U, Below W.heap.size W U → U.cell? ⟨w.heap.size, 1, none⟩ = some (.int .u64 k.2) := fun U hU => (box_cells hU hx1).1 1
  have hS00 : Below W.heap.size W W := Below.refl _ _
  have hS0 : Below W.heap.size W W.drew := hS00.drew
  have HB1 := Lib.hid hb1
  clear hb1 hx1
  go_region_held3 (fun U => Below W.heap.size W U)
    (first
      | with_reducible exact hS0
      | with_reducible exact HB5.out
      | with_reducible exact hS00)
    (first
    | (go_at_call 29
       refine (HM.out _ (bthen HB1.out ‹Below W.heap.size W _›)).mono ?_
       rintro e w4 ⟨rfl, rfl⟩)
    | (go_at_call 88
       refine (HR.out _).mono ?_
       rintro e w5 ⟨rfl, hb5⟩
       have HB5 := Lib.hid (bthen ‹Below W.heap.size W _› hb5)
       clear hb5))
  all_goals
    refine then_named ?_
    intro W6 hW6
    have hb6 : Below w.heap.size w W6 := by rw [hW6]; first | exact bthen HB1.out HB5.out | exact (bthen HB1.out HB5.out).drew | exact below_drewN (bthen HB1.out HB5.out) _
    clear hW6
    go_wp2
    go_ret
    exact ⟨rfl, hb6⟩
end
end

end Go.Proofs.YtmniiodpbebnmaaGreat
