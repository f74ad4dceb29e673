/- The short ways of StripePlays; the whole walk; What was frozen, and the reference's items, while the stripe goes on. -/
import Derived.Test.YtfnabpmdjfejbaaGreatJ52
import Derived.Test.YtfnabpmdjfejbaaGreatJ51
import Derived.Test.YtfnabpmdjfejbaaGreatJ47
namespace Go.Proofs.YtfnabpmdjfejbaaGreat

section
set_option linter.unusedSimpArgs false
set_option linter.unusedVariables false
open Go.RowKit Go.Lib Go.Sort

set_option maxRecDepth 100000 in
set_option maxHeartbeats 4000000 in
theorem splays_nil (c : Cfg) (A : Option Addr) (n cc : Nat) (k : KO) (w : World)  (hok : c.ok) (hc : cfgB c = false) :
    Calls Tryz.prog 4 #[cfgV c, .slice A n cc, .agg #[.int .u64 k.1.1, .int .u64 k.1.2]] w fun e w' => e = .returned (.bool true) ∧ Below w.heap.size w w' := by
  have HNW : Hid (∀ W, Calls Tryz.prog 7 #[.agg #[.int .i64 c.st, .int .i64 c.sa, .int .i64 c.lo, .int .i64 c.hi]] W fun e w' => e = .returned (.pointer none) ∧ Below W.heap.size W w') := Lib.hid (fun W => stripeNew_nil c W hc hok)
  have HRT : Hid (∀ W, Calls Tryz.prog 6 #[.agg #[.int .i64 c.st, .int .i64 c.sa, .int .i64 c.lo, .int .i64 c.hi]] W fun e w' => e = .returned (.bool false) ∧ Below W.heap.size W w') := Lib.hid (fun W => by have := ref17Right_any c W; rw [hc] at this; exact this)
  unfold cfgV
  clear hc hok
  go_enter Tryz.func4, Tryz.ntmps4
  go_wp2_with (first
    | (go_at_call 5
       refine calls_named ?_
       intro W0 hW0
       have hb0 : Below w.heap.size w W0 := by rw [hW0]; exact balloc (balloc (Below.refl _ _) _) _
       have hxc : W0.heap[w.heap.size]? = some (.cells #[.int .i64 c.st, .int .i64 c.sa, .int .i64 c.lo, .int .i64 c.hi] 23 (0, 0)) := by rw [hW0]; exact box_old _ _ _
       have hxk : W0.heap[w.heap.size + 1]? = some (.cells #[.int .u64 k.1.1, .int .u64 k.1.2] 32 (0, 0)) := by rw [hW0]; exact box_new _ _ _
       clear hW0
       refine (awake_any W0).mono ?_
       rintro e w1 ⟨rfl, hb1⟩
       obtain ⟨hxc1, hxc1f, hxc1l⟩ := box_cells hb1 hxc
       have HHXC := Lib.hid ((hb1.block _ (Array.getElem?_eq_some_iff.1 hxc).1).trans hxc)
       obtain ⟨hxk1, hxk1f, hxk1l⟩ := box_cells hb1 hxk
       have HHXK := Lib.hid ((hb1.block _ (Array.getElem?_eq_some_iff.1 hxk).1).trans hxk)
       have HB1 := Lib.hid (bthen hb0 hb1)
       clear hb0 hxc hxk hb1)
    | (go_at_call 7
       refine (HNW.out _).mono ?_
       rintro e w2 ⟨rfl, hb⟩
       obtain ⟨hx2, hx2f, hx2l⟩ := box_cells hb HHXC.out
       have HXC2 := Lib.hid ((hb.block _ (Array.getElem?_eq_some_iff.1 HHXC.out).1).trans HHXC.out)
       have HB2 := Lib.hid (bthen HB1.out hb)
       clear hb)
    | (go_at_call 6
       refine (HRT.out _).mono ?_
       rintro e w4 ⟨rfl, hb⟩
       obtain ⟨hx4, hx4f, hx4l⟩ := box_cells hb HXC3.out
       have HXC4 := Lib.hid ((hb.block _ (Array.getElem?_eq_some_iff.1 HXC3.out).1).trans HXC3.out)
       have HB4 := Lib.hid (bthen HB3.out hb)
       clear hb)
    | (go_at_call 6
       refine (HRT.out _).mono ?_
       rintro e w3 ⟨rfl, hb⟩
       obtain ⟨hx3, hx3f, hx3l⟩ := box_cells hb HXC2.out
       have HXC3 := Lib.hid ((hb.block _ (Array.getElem?_eq_some_iff.1 HXC2.out).1).trans HXC2.out)
       have HB3 := Lib.hid (bthen HB2.out hb)
       clear hb))
  go_ret
  exact ⟨rfl, HB4.out⟩

set_option maxRecDepth 100000 in
set_option maxHeartbeats 4000000 in
theorem splays_long (c : Cfg) (A : Option Addr) (n cc : Nat) (k : KO) (w : World) (hn : 40 < n) (hok : c.ok) (hc : cfgB c = true) :
    Calls Tryz.prog 4 #[cfgV c, .slice A n cc, .agg #[.int .u64 k.1.1, .int .u64 k.1.2]] w fun e w' => e = .returned (.bool true) ∧ Below w.heap.size w w' := by
  have HNW : Hid (∀ W, Calls Tryz.prog 7 #[.agg #[.int .i64 c.st, .int .i64 c.sa, .int .i64 c.lo, .int .i64 c.hi]] W (NewStripe W c c.sa.toNat c.hi.toNat)) := Lib.hid (fun W => stripeNew_any c c.sa.toNat c.hi.toNat W hc hok)
  have HRT : Hid (∀ W, Calls Tryz.prog 6 #[.agg #[.int .i64 c.st, .int .i64 c.sa, .int .i64 c.lo, .int .i64 c.hi]] W fun e w' => e = .returned (.bool true) ∧ Below W.heap.size W w') := Lib.hid (fun W => by have := ref17Right_any c W; rw [hc] at this; exact this)
  have q40 : (40 : Int) < (n : Int) := by omega
  clear hn
  unfold cfgV
  clear hc hok
  go_enter Tryz.func4, Tryz.ntmps4
  go_wp2_with (first
    | (go_at_call 5
       refine calls_named ?_
       intro W0 hW0
       have hb0 : Below w.heap.size w W0 := by rw [hW0]; exact balloc (balloc (Below.refl _ _) _) _
       have hxc : W0.heap[w.heap.size]? = some (.cells #[.int .i64 c.st, .int .i64 c.sa, .int .i64 c.lo, .int .i64 c.hi] 23 (0, 0)) := by rw [hW0]; exact box_old _ _ _
       have hxk : W0.heap[w.heap.size + 1]? = some (.cells #[.int .u64 k.1.1, .int .u64 k.1.2] 32 (0, 0)) := by rw [hW0]; exact box_new _ _ _
       clear hW0
       refine (awake_any W0).mono ?_
       rintro e w1 ⟨rfl, hb1⟩
       obtain ⟨hxc1, hxc1f, hxc1l⟩ := box_cells hb1 hxc
       have HHXC := Lib.hid ((hb1.block _ (Array.getElem?_eq_some_iff.1 hxc).1).trans hxc)
       obtain ⟨hxk1, hxk1f, hxk1l⟩ := box_cells hb1 hxk
       have HHXK := Lib.hid ((hb1.block _ (Array.getElem?_eq_some_iff.1 hxk).1).trans hxk)
       have HB1 := Lib.hid (bthen hb0 hb1)
       clear hb0 hxc hxk hb1)
    | (go_at_call 7
       refine (HNW.out _).mono ?_
       rintro e w2 ⟨T, fp, rfl, -, -, hb⟩
       obtain ⟨hx2, hx2f, hx2l⟩ := box_cells hb HHXC.out
       have HXC2 := Lib.hid ((hb.block _ (Array.getElem?_eq_some_iff.1 HHXC.out).1).trans HHXC.out)
       have HB2 := Lib.hid (bthen HB1.out hb)
       clear hb)
    | (go_at_call 6
       refine (HRT.out _).mono ?_
       rintro e w4 ⟨rfl, hb⟩
       obtain ⟨hx4, hx4f, hx4l⟩ := box_cells hb HXC3.out
       have HXC4 := Lib.hid ((hb.block _ (Array.getElem?_eq_some_iff.1 HXC3.out).1).trans HXC3.out)
       have HB4 := Lib.hid (bthen HB3.out hb)
       clear hb)
    | (go_at_call 6
       refine (HRT.out _).mono ?_
       rintro e w3 ⟨rfl, hb⟩
       obtain ⟨hx3, hx3f, hx3l⟩ := box_cells hb HXC2.out
       have HXC3 := Lib.hid ((hb.block _ (Array.getElem?_eq_some_iff.1 HXC2.out).1).trans HXC2.out)
       have HB3 := Lib.hid (bthen HB2.out hb)
       clear hb))
  go_ret
  exact ⟨rfl, HB4.out⟩

theorem i64_of_wf {n : Int} (h : (Lit.int .i64 n).wf = true) : I64 n := by simpa [Lit.wf, IntKind.min, IntKind.max, IntKind.signed, IntKind.bits, I64] using h
theorem cfg_ok {c : Cfg} (hc : cfgB c = true) (hok : c.ok) : CfgOk c c.sa.toNat c.hi.toNat := by
  have h := hc
  unfold cfgB at h
  simp only [Bool.and_eq_true, decide_eq_true_eq] at h
  exact ⟨hc, by omega, by omega, hok⟩
theorem splays_walk (c : Cfg) (v : Value) (l : List ActK) (k : KO) (w : World) (hc : c.ok) (hv : RowIn 16 actKC w v l) (hok : ∀ p ∈ l, p.1.ok) :
    Calls Tryz.prog 4 #[cfgV c, v, .agg #[.int .u64 k.1.1, .int .u64 k.1.2]] w fun e w' => e = .returned (.bool true) ∧ Below w.heap.size w w' := by
  obtain ⟨A, cc, rfl⟩ := hv.form
  cases hb : cfgB c with
  | false => exact splays_nil c A _ cc k w hc hb
  | true =>
    by_cases hl : l.length ≤ 40
    · exact splays_main c _ _ _ l k w hv hok hl (cfg_ok hb hc)
    · exact splays_long c A _ cc k w (by omega) hc hb

open Go.ChangeShapes Go.WideShapes Go.Joins in
theorem actsK_read {H : Type} {enc : TypeId × Value → H} {w : World} {base : Nat} {spare : Nat → Bool} {held : Bool} {fuel : Nat} {cs : List Value} {x : DataW H × List MemPlace} (h : DataW.trod enc Tryz.prog w base spare held fuel 24 cs = some x) :
    ∃ (v : Value) (l : List ActK), cs = [v] ∧ (∀ p ∈ l, p.1.ok) ∧ RowIn 16 actKC w v l := by
  haveI : Inhabited ActK := ⟨((0, 0), ⟨0, (0, 0), pol0, adv0⟩)⟩
  obtain ⟨v, l, h1, _, h3, h4⟩ := row_read (ok := fun p : ActK => p.1.ok) (f := actKC) Tryz.underlying24 cl_sa18 (by decide) (fun _ _ _ h => by obtain ⟨k, a, hk, rfl⟩ := a18_reads h; exact ⟨(k, a), hk, rfl⟩) h
  exact ⟨v, l, h1, h3, h4⟩
end

section
set_option linter.unusedSimpArgs false
set_option linter.unusedVariables false
open Go.RowKit Go.Lib Go.Sort

structure Cold (w0 W : World) (T M : Nat) (c : Cfg) (rs rh n ver : Nat) (es : List (KO × NE)) (ve : Value) (fl : List En) (v : Value) (l : List It) : Prop where
  at_ : SAt W T M c ver es rs rh
  items : ItemsIn (fun b => b ∉ sfp T M es) W v l
  rows : RowG (fun b => b ∉ sfp T M es) 3 enC W ve fl
  told : ∀ i (h : i < l.length) (h2 : i < fl.length), fl[i].1 = l[i].key ∧ ∃ y fp, NodeIn W fl[i].2 y rs rh fp ∧ y.frz = true ∧ sameN y l[i].nd ∧ ∀ r ∈ fp, r ∉ sfp T M es
  len : fl.length = l.length
  base : Below w0.heap.size w0 W
  above : ∀ r ∈ sfp T M es, w0.heap.size ≤ r
  grown : Grown n ver (ab es)
  ver_ : ver ≤ 1000 * n
theorem Cold.below {w0 W W' : World} {T M : Nat} {c : Cfg} {rs rh n ver : Nat} {es : List (KO × NE)} {ve : Value} {fl : List En} {v : Value} {l : List It} (h : Cold w0 W T M c rs rh n ver es ve fl v l) (hb : Below W.heap.size W W') : Cold w0 W' T M c rs rh n ver es ve fl v l :=
  ⟨h.at_.below hb, h.items.below hb, h.rows.below hb, fun i h1 h2 => by
    obtain ⟨a1, y, fp, a2, a3⟩ := h.told i h1 h2
    exact ⟨a1, y, fp, a2.below hb, a3⟩, h.len, bthen h.base hb, h.above, h.grown, h.ver_⟩
theorem grown_frz {n ver : Nat} {es : List (KO × NE)} (h : Grown n ver (ab es)) (K : List Ky) : Grown n ver (ab (frzE es K)) := by
  rw [ab_frzE]
  refine ⟨by simp only [List.length_map]; exact h.len, fun p hp => ?_⟩
  obtain ⟨q, hq, rfl⟩ := List.mem_map.1 hp
  have := h.vers q hq
  dsimp only
  split
  · simp only [frz]; omega
  · omega
theorem frz_all {es : List (KO × NE)} : ∀ p ∈ frzE es (risL (kyN es)), p.2.2.1.frz = true := by
  intro p hp
  obtain ⟨q, hq, rfl⟩ := List.mem_map.1 hp
  have hm : q.1.1 ∈ risL (kyN es) := (mem_risL _ _).2 (List.mem_map.2 ⟨q, hq, rfl⟩)
  dsimp only
  rw [if_pos hm]
  rfl
theorem mfp_frz {x : Nd} (h : x.frz = true) (fp : List Nat) : mfp x fp = [] := by
  unfold mfp
  rw [if_pos h]
theorem sfp_all {T M : Nat} {es : List (KO × NE)} (h : ∀ p ∈ es, p.2.2.1.frz = true) : ∀ r ∈ sfp T M es, r = T ∨ r = M := by
  intro r hr
  simp only [sfp, List.mem_cons] at hr
  rcases hr with rfl | rfl | hr
  · exact .inl rfl
  · exact .inr rfl
  · obtain ⟨p, hp, hr⟩ := mem_mfpE.1 hr
    rw [mfp_frz (h p hp)] at hr
    cases hr
theorem blk_frzE (es : List (KO × NE)) (K : List Ky) (q : Ky) : blkOf (frzE es K) q = blkOf es q := by
  unfold blkOf frzE
  rw [List.find?_map]
  simp only [Function.comp_def, Option.map_map]

/-- Freeze, at a stripe that plays. -/
theorem play_freeze {w0 W : World} {T M : Nat} {c : Cfg} {rs rh n ver : Nat} {es : List (KO × NE)} {v : Value} {l : List It} (h : Play w0 W T M c rs rh n ver es v l) (hn : n ≤ 100) :
    Calls Tryz.prog 10 #[.pointer (some ⟨T, 0, none⟩)] W fun e w1 => ∃ es2 fl A cc, e = .returned (.slice A fl.length cc) ∧ Cold w0 w1 T M c rs rh n ver es2 (.slice A fl.length cc) fl v l ∧ Upd W w1 (sfp T M es) (sfp T M es2) := by
  have hl := h.len
  refine (sfreeze_any T M c ver es rs rh W h.at_ (by omega)).mono ?_
  rintro e w1 ⟨A, cc, rfl, h1, h2, hu⟩
  have hK : risL (kyN es) = keysI l := by rw [kyN_keysS, h.tells.risL, absI_keys]
  have hfrz := frz_all (es := es)
  have hsf := sfp_all (T := T) (M := M) hfrz
  have ht2 : Tells18 (ab (frzE es (risL (kyN es)))) (l.map absI) := by rw [ab_frzE]; exact tells_frz h.tells _
  have hTM : ∀ r ∈ sfp T M (frzE es (risL (kyN es))), r < W.heap.size := by
    intro r hr
    rcases hsf r hr with rfl | rfl
    · exact h.at_.ltT
    · exact h.at_.map.lt
  refine ⟨frzE es (risL (kyN es)), (risL (kyN es)).map (fun q => (q, blkOf es q)), A, cc, by rw [List.length_map], ⟨h2, h.items.turn hu, ?_, ?_, by rw [List.length_map, hK]; simp [keysI], h.base.trans (hu.below h.base.size h.above), fun r hr => ?_, grown_frz h.grown _, h.ver_⟩, hu⟩
  · rw [List.length_map]
    exact (RowG.own eEn h1).imp (fun b hb hq => by have := hTM b hq; omega)
  · intro i hi hi2
    have e1 : ((risL (kyN es)).map (fun q => (q, blkOf es q)))[i] = (l[i].key, blkOf es l[i].key) := by
      simp only [List.getElem_map]
      have : (risL (kyN es))[i]'(by rw [List.length_map] at hi2; exact hi2) = l[i].key := by
        simp only [hK, keysI, List.getElem_map]
      rw [this]
    rw [e1]
    refine ⟨rfl, ?_⟩
    obtain ⟨k, b, a1, a2, a3, a4⟩ := tells_node h2 ht2 (List.getElem_mem hi)
    have a5 := blk_find a2
    rw [blk_frzE] at a5
    have hm := find_mem a2
    dsimp only
    rw [a1, a5]
    refine ⟨b.2.1, b.2.2, a3, hfrz _ hm, a4, fun r hr hq => ?_⟩
    rcases hsf r hq with rfl | rfl
    · exact (h2.off _ hm).1 hr
    · exact (h2.off _ hm).2 hr
  · rcases hu.fresh r hr with hr | hr
    · exact h.above r hr
    · exact Nat.le_trans h.base.size hr

theorem cold_do {w0 W : World} {T M : Nat} {c : Cfg} {rs rh n ver : Nat} {es : List (KO × NE)} {ve : Value} {fl : List En} {v : Value} {l : List It} (h : Cold w0 W T M c rs rh n ver es ve fl v l) (hc : CfgOk c rs rh) (hn : n ≤ 100) (k : KO) (a : Act17) :
    Calls Tryz.prog 8 #[.pointer (some ⟨T, 0, none⟩), .agg (act18C k.1 a).toArray] W fun e w1 => ∃ (x y : Int) (ver2 : Nat) (es2 : List (KO × NE)), e = .returned (.tuple #[.int .i64 x, .int .i64 y]) ∧ Cold w0 w1 T M c rs rh (n + 1) ver2 es2 ve fl v l ∧ Upd W w1 (sfp T M es) (sfp T M es2) := by
  have hr := hc.room
  refine (sdo_all T M c ver es rs rh k a W h.at_ (sok_of (W := W) (T := T) (M := M) h.grown h.ver_ hc hn) (smp_small h.at_ hr.r2)).mono ?_
  rintro e w1 ⟨es2, he, h1, h2, hu⟩
  refine ⟨_, _, _, es2, he, ⟨h1, h.items.turn hu, h.rows.turn hu, fun i hi hi2 => ?_, h.len, h.base.trans (hu.below h.base.size h.above), fun r hr => ?_, ?_, ?_⟩, hu⟩
  · obtain ⟨a1, y, fp, a2, a3, a4, a5⟩ := h.told i hi hi2
    refine ⟨a1, y, fp, a2.kept (fun r hr => hu.block r (a2.lt r hr) (a5 r hr)), a3, a4, fun r hr hq => ?_⟩
    rcases hu.fresh r hq with hq | hq
    · exact a5 r hr hq
    · have := a2.lt r hr; omega
  · rcases hu.fresh r hr with hr | hr
    · exact h.above r hr
    · exact Nat.le_trans h.base.size hr
  · rw [h2]; exact grown_act h.grown c rs rh k a
  · have hnd : ((ab es).map (·.1)).Nodup := by
      have := h.at_.nodup
      simpa [ab, List.map_map, Function.comp_def] using this
    have hk : (risL (keysS (ab es))).length ≤ n := by rw [risL_length (keysS_nodup hnd)]; unfold keysS; rw [List.length_map]; exact h.grown.len
    have := ver_act h.grown c rs rh k a hk
    have := h.ver_
    omega
end

end Go.Proofs.YtfnabpmdjfejbaaGreat
