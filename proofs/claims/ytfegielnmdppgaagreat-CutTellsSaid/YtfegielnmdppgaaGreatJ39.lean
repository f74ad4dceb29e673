/- flywheelref19.Keys: the keys of parts, rising; The plain law of CutDiffers; What was frozen, and the reference's items, while the stripe goes on; Frozen nodes, the items that they are, and cuts of them, where nothing turns; Chapter 19's awake: a cut of nothing; Sums, differences and quotients that stop at the ends: sat's, and the reference's. -/
import Derived.Test.YtfegielnmdppgaaGreatJ38
import Derived.Test.YtfegielnmdppgaaGreatJ28
import Derived.Test.YtfegielnmdppgaaGreatJ16
import Derived.Test.YtfegielnmdppgaaGreatJ31
import Derived.Test.YtfegielnmdppgaaGreatJ30
import Derived.Test.YtfegielnmdppgaaGreatJ07
import Derived.Test.YtfegielnmdppgaaGreatJ01
namespace Go.Proofs.YtfegielnmdppgaaGreat

section
set_option linter.unusedSimpArgs false
set_option linter.unusedVariables false
open Go.RowKit Go.Lib Go.Sort

abbrev PartI := Option Addr × Nat × List It
def partIC (p : PartI) : List Value := [.slice p.1 p.2.2.length p.2.1]
theorem keysI_snoc (a b : List It) : keysI (a ++ b) = keysI a ++ keysI b := by simp [keysI]
set_option maxRecDepth 100000 in
set_option maxHeartbeats 8000000 in
theorem r19keys_any (v : Value) (ps : List PartI) (w : World) (hv : RowIn 1 partIC w v ps) (hi : ∀ p ∈ ps, RowIn 12 itC w (.slice p.1 p.2.2.length p.2.1) p.2.2) (hok : ∀ p ∈ ps, ∀ x ∈ p.2.2, x.key.ok) (hl : (ps.flatMap fun p => keysI p.2.2).length ≤ 1000) (hl2 : ps.length ≤ 1000) :
    Calls Tryz.prog 26 #[v] w (OwnsKeys w (risL (ps.flatMap fun p => keysI p.2.2))) := by
  obtain ⟨A0, c0, rfl⟩ := hv.form
  have HV := Lib.hid hv
  have HI := Lib.hid hi
  have HL := Lib.hid hl
  have HOK := Lib.hid (show ∀ k ∈ (ps.flatMap fun p => keysI p.2.2), k.ok from fun k hk => by
    obtain ⟨p, hp, hk⟩ := List.mem_flatMap.1 hk
    obtain ⟨x, hx, rfl⟩ := List.mem_map.1 hk
    exact hok p hp x hx)
  have hq : ps.length ≤ 9223372036854775807 := by omega
  clear hv hi hok hl
  go_enter Tryz.func26, Tryz.ntmps26
  go_wp2_with fail
  go_loopg [3, 4] ps.length (fun g s3 s4 wr => ∃ (i : Nat) (out : List Ky), i ≤ ps.length ∧ ps.length - i ≤ g ∧ s4 = .int .i64 i ∧ Hid (out = (ps.take i).flatMap fun p => keysI p.2.2) ∧ OwnL keyC 40 2 w.heap.size wr s3 out ∧ Below w.heap.size w wr)
  case atStart => exact ⟨0, [], Nat.zero_le _, Nat.le_refl _, rfl, Lib.hid rfl, OwnL.nil _ _, Below.refl _ _⟩
  case round =>
    obtain ⟨i, out, hi, hg, rfl, HO, hown, hb⟩ := hrel
    rename World => wr
    obtain ⟨A5, c5, rfl⟩ := hown.form
    have HW := Lib.hid hown
    have HB := Lib.hid hb
    clear hown hb
    by_cases hlt : i < ps.length
    · obtain ⟨b0, o0, rfl, hb0, hc0⟩ := HV.out.at_ hlt
      have z1 : (0 : Int) ≤ (i : Int) := by omega
      have z2 : (i : Int) < (ps.length : Int) := by omega
      have HR := Lib.hid (HI.out _ (List.getElem_mem hlt))
      have HNX := Lib.hid (show ((ps.take (i + 1)).flatMap fun p => keysI p.2.2) = out ++ keysI ps[i].2.2 by
        rw [List.take_succ_eq_append_getElem hlt, List.flatMap_append, HO.out]; simp)
      have HPL := Lib.hid (show (out ++ keysI ps[i].2.2).length ≤ 1000 by
        rw [← HNX.out]
        refine Nat.le_trans ?_ HL.out
        have e : (ps.flatMap fun p => keysI p.2.2) = ((ps.take (i + 1)).flatMap fun p => keysI p.2.2) ++ ((ps.drop (i + 1)).flatMap fun p => keysI p.2.2) := by rw [← List.flatMap_append, List.take_append_drop]
        rw [e, List.length_append]; omega)
      have d0 := hc0 0 _ rfl
      rw [Nat.mul_one, Nat.add_zero] at d0
      clear hc0
      generalize ps[i] = p at HR HNX HPL d0
      obtain ⟨Ap, cp, l⟩ := p
      simp only at HR HNX HPL d0
      have hll : l.length ≤ 1000 := by have := HPL.out; simp [keysI] at this; omega
      have hq3 : l.length ≤ 9223372036854775807 := by omega
      go_wp2_with fail
      go_loopg [3, 5] l.length (fun g s3 s5 wx => ∃ (j : Nat) (o2 : List Ky), j ≤ l.length ∧ l.length - j ≤ g ∧ s5 = .int .i64 j ∧ Hid (o2 = out ++ keysI (l.take j)) ∧ OwnL keyC 40 2 w.heap.size wx s3 o2 ∧ Below w.heap.size w wx)
      case atStart => exact ⟨0, out, Nat.zero_le _, Nat.le_refl _, rfl, Lib.hid (by simp [keysI]), HW.out, HB.out⟩
      case round =>
        obtain ⟨j, o2, hj, hgj, rfl, HO2, hown, hbx⟩ := hrel
        rename World => wx
        obtain ⟨A6, c6, rfl⟩ := hown.form
        have HWX := Lib.hid hown
        have e0 := (hbx.cell (p := ⟨b0, _, none⟩) hb0).trans d0
        have HBX := Lib.hid hbx
        clear hown hbx
        by_cases hjl : j < l.length
        · obtain ⟨b1, o1, rfl, hb1, hc1⟩ := (HR.out.below HBX.out).at_ hjl
          have y1 : (0 : Int) ≤ (j : Int) := by omega
          have y2 : (j : Int) < (l.length : Int) := by omega
          have HTK := Lib.hid (show keysI (l.take (j + 1)) = keysI (l.take j) ++ [l[j].key] by rw [List.take_succ_eq_append_getElem hjl, keysI_snoc]; rfl)
          have HLJ := Lib.hid (show o2.length + 1 ≤ 2001 by
            have := HPL.out
            rw [HO2.out]; simp [keysI] at this ⊢; omega)
          have f0 := hc1 0 _ rfl
          have f1 := hc1 1 _ rfl
          rw [Nat.add_zero] at f0
          clear hc1
          generalize l[j] = x at HTK f0 f1
          go_wp2_with (first
            | (at_builtin
               refine wpList_appendL eKyC (by rfl) (by rfl) w.heap.size o2 [x.key] (.slice A6 o2.length c6) _ (by rfl) (by rfl) (HWX.out.below (balloc (Below.refl _ _) _)) (RowIn.lit _ x.key _ _ wx.heap.size rfl rfl) (by have := HLJ.out; simp; omega) (by have := HBX.out.size; simp; omega) ?_
               intro out2 A9 c9 w9 hout2 hown2 hg2 _
               have HO9 := Lib.hid hout2
               have HW9 := Lib.hid hown2
               have HB9 := Lib.hid (show Below w.heap.size w w9 from (balloc HBX.out _).trans (grown_own hg2 HWX.out (by have := HBX.out.size; simp; omega)))
               clear hout2 hown2 hg2))
          go_roundg (l.length - (j + 1))
          case measure => omega
          case rel => exact ⟨j + 1, out2, hjl, Nat.le_refl _, by go_num, Lib.hid (by rw [HO9.out, HTK.out, HO2.out, List.append_assoc]), HW9.out, HB9.out⟩
        · obtain rfl : j = l.length := by omega
          go_wp2_with fail
          go_roundg (ps.length - (i + 1))
          case measure => omega
          case rel => exact ⟨i + 1, o2, hlt, Nat.le_refl _, by go_num, Lib.hid (by rw [HNX.out, HO2.out, List.take_length]), HWX.out, HBX.out⟩
    · obtain rfl : i = ps.length := by omega
      have ho := HO.out
      rw [List.take_length] at ho
      rw [← ho] at HL HOK
      have HOE := Lib.hid ho
      have HRI := Lib.hid (refRising_any _ out wr (keysIn_row (HW.out.row eKyC)) HOK.out (by have := HL.out; omega))
      clear ho
      go_wp2_with (first
        | (go_at_call 78
           refine HRI.out.mono ?_
           rintro e w3 ⟨v3, rfl, h1, h2⟩
           have HK3 := Lib.hid (And.intro h1 h2)
           clear h1 h2))
      go_ret
      rw [← HOE.out]
      exact ⟨v3, rfl, own_lower HK3.out.1 HB.out.size, bthen HB.out HK3.out.2⟩
end

section
set_option linter.unusedSimpArgs false
set_option linter.unusedVariables false
open Go.RowKit Go.Lib Go.Sort

theorem ndF_same {es : List (KO × NE)} {l : List It} (ht : Tells18 (ab es) (l.map absI)) {k : Ky} (hk : hasI l k = true) (n : Nat) : sameN (ndF es (k, n)) (getL l k).nd := by
  have hm : k ∈ kyN es := by
    have h1 := (hasI_iff ht.sortedI k).1 hk
    rw [← absI_keys] at h1
    rw [kyN_keysS]
    exact (ht.keys k).1 h1
  obtain ⟨p, hp, rfl, hf⟩ := blk_at hm
  have hfm : findM es p.1 = some p.2 := by
    unfold findM
    have e : (fun q : KO × NE => decide (q.1 = p.1)) = (fun q : KO × NE => decide (q.1.1 = p.1.1)) := by
      funext q
      rw [decide_eq_decide]
      exact ⟨fun h => by rw [h], fun h => Subtype.ext h⟩
    rw [e, hf]
    rfl
  have hg := ht.get p.1
  have h1 : ndOf (ab es) p.1 = p.2.2.1 := by unfold ndOf; rw [ab_find, hfm]; rfl
  have h2 : ndF es (p.1.1, n) = frz p.2.2.1 := by unfold ndF; simp only; rw [hf]; rfl
  rw [h1] at hg
  rw [h2]
  exact hg
end

section
set_option linter.unusedSimpArgs false
set_option linter.unusedVariables false
open Go.RowKit Go.Lib Go.Sort

structure Cold (w0 W : World) (T M : Nat) (c : Cfg) (rs rh n ver : Nat) (es : List (KO × NE)) (ve : Value) (fl : List En) (v : Value) (l : List It) : Prop where
  at_ : SAt W T M c ver es rs rh
  items : ItemsIn (fun b => b ∉ sfp T M es) W v l
  rows : RowG (fun b => b ∉ sfp T M es) 3 enC W ve fl
  told : ∀ i (h : i < l.length) (h2 : i < fl.length), fl[i].1 = l[i].key ∧ ∃ y fp, NodeIn W fl[i].2 y rs rh fp ∧ y.frz = true ∧ sameN y l[i].nd ∧ ∀ r ∈ fp, r ∉ sfp T M es
  len : fl.length = l.length
  base : Below w0.heap.size w0 W
  above : ∀ r ∈ sfp T M es, w0.heap.size ≤ r
  grown : Grown n ver (ab es)
  ver_ : ver ≤ 1000 * n
theorem Cold.below {w0 W W' : World} {T M : Nat} {c : Cfg} {rs rh n ver : Nat} {es : List (KO × NE)} {ve : Value} {fl : List En} {v : Value} {l : List It} (h : Cold w0 W T M c rs rh n ver es ve fl v l) (hb : Below W.heap.size W W') : Cold w0 W' T M c rs rh n ver es ve fl v l :=
  ⟨h.at_.below hb, h.items.below hb, h.rows.below hb, fun i h1 h2 => by
    obtain ⟨a1, y, fp, a2, a3⟩ := h.told i h1 h2
    exact ⟨a1, y, fp, a2.below hb, a3⟩, h.len, bthen h.base hb, h.above, h.grown, h.ver_⟩
theorem grown_frz {n ver : Nat} {es : List (KO × NE)} (h : Grown n ver (ab es)) (K : List Ky) : Grown n ver (ab (frzE es K)) := by
  rw [ab_frzE]
  refine ⟨by simp only [List.length_map]; exact h.len, fun p hp => ?_⟩
  obtain ⟨q, hq, rfl⟩ := List.mem_map.1 hp
  have := h.vers q hq
  dsimp only
  split
  · simp only [frz]; omega
  · omega
theorem frz_all {es : List (KO × NE)} : ∀ p ∈ frzE es (risL (kyN es)), p.2.2.1.frz = true := by
  intro p hp
  obtain ⟨q, hq, rfl⟩ := List.mem_map.1 hp
  have hm : q.1.1 ∈ risL (kyN es) := (mem_risL _ _).2 (List.mem_map.2 ⟨q, hq, rfl⟩)
  dsimp only
  rw [if_pos hm]
  rfl
theorem mfp_frz {x : Nd} (h : x.frz = true) (fp : List Nat) : mfp x fp = [] := by
  unfold mfp
  rw [if_pos h]
theorem sfp_all {T M : Nat} {es : List (KO × NE)} (h : ∀ p ∈ es, p.2.2.1.frz = true) : ∀ r ∈ sfp T M es, r = T ∨ r = M := by
  intro r hr
  simp only [sfp, List.mem_cons] at hr
  rcases hr with rfl | rfl | hr
  · exact .inl rfl
  · exact .inr rfl
  · obtain ⟨p, hp, hr⟩ := mem_mfpE.1 hr
    rw [mfp_frz (h p hp)] at hr
    cases hr
end

section
set_option linter.unusedSimpArgs false
set_option linter.unusedVariables false
open Go.RowKit Go.Lib Go.Sort

theorem RowG.lt {α : Type} {P : Nat → Prop} {n : Nat} {f : α → List Value} {w : World} {v : Value} {l : List α} (h : RowG P n f w v l) : RowG (fun b => P b ∧ b < w.heap.size) n f w v l := by
  refine ⟨h.1, fun b o m c e hn => ⟨h.2 b o m c e hn, ?_⟩⟩
  obtain ⟨A, c2, rfl, hl, hx⟩ := h.1
  obtain ⟨b2, o2, rfl, hb, -⟩ := hx hn
  simp only [Value.slice.injEq, Option.some.injEq, Addr.mk.injEq, and_true] at e
  rw [← e.1.1]
  exact hb
theorem ItemsIn.lt {P : Nat → Prop} {w : World} {v : Value} {l : List It} (h : ItemsIn P w v l) : ItemsIn (fun b => P b ∧ b < w.heap.size) w v l :=
  ⟨h.1.lt, fun x hx => ⟨(h.2 x hx).1.lt, (h.2 x hx).2.lt⟩⟩
theorem ItemsIn.and {P Q : Nat → Prop} {w : World} {v : Value} {l : List It} (h : ItemsIn P w v l) (k : ItemsIn Q w v l) : ItemsIn (fun b => P b ∧ Q b) w v l :=
  ⟨⟨h.1.1, fun b o m c e hn => ⟨h.1.2 b o m c e hn, k.1.2 b o m c e hn⟩⟩, fun x hx => ⟨⟨(h.2 x hx).1.1, fun b o m c e hn => ⟨(h.2 x hx).1.2 b o m c e hn, (k.2 x hx).1.2 b o m c e hn⟩⟩, ⟨(h.2 x hx).2.1, fun b o m c e hn => ⟨(h.2 x hx).2.2 b o m c e hn, (k.2 x hx).2.2 b o m c e hn⟩⟩⟩⟩
theorem ItemsIn.keepS {P : Nat → Prop} {w w' : World} {v : Value} {l : List It} (h : ItemsIn P w v l) (hs : w.heap.size ≤ w'.heap.size) (hk : ∀ b, P b → b < w.heap.size → w'.heap[b]? = w.heap[b]?) : ItemsIn P w' v l :=
  ⟨h.1.keepP hs hk, fun x hx => ⟨(h.2 x hx).1.keepP hs hk, (h.2 x hx).2.keepP hs hk⟩⟩

/-- Frozen nodes and items, all in blocks of one kind. -/
def FzAt (S : Nat → Prop) (w : World) (es : List (KO × NE)) (rs rh : Nat) (v : Value) (l : List It) : Prop :=
  (∀ x ∈ frL es l, ∃ fp, NodeIn w x.2 (ndF es x) rs rh fp ∧ (ndF es x).frz = true ∧ ∀ r ∈ fp, S r) ∧ ItemsIn S w v l
theorem FzAt.kept {S : Nat → Prop} {w w' : World} {es : List (KO × NE)} {rs rh : Nat} {v : Value} {l : List It} (h : FzAt S w es rs rh v l) (hs : w.heap.size ≤ w'.heap.size) (hk : ∀ b, S b → b < w.heap.size → w'.heap[b]? = w.heap[b]?) : FzAt S w' es rs rh v l := by
  refine ⟨fun x hx => ?_, h.2.keepS hs hk⟩
  obtain ⟨fp, a, b, c⟩ := h.1 x hx
  exact ⟨fp, a.kept (fun r hr => hk r (c r hr) (a.lt r hr)), b, c⟩
theorem FzAt.below {S : Nat → Prop} {w w' : World} {es : List (KO × NE)} {rs rh : Nat} {v : Value} {l : List It} (h : FzAt S w es rs rh v l) (hb : Below w.heap.size w w') : FzAt S w' es rs rh v l := h.kept hb.size (fun b _ hlt => hb.block b hlt)
theorem FzAt.imp {S S' : Nat → Prop} {w : World} {es : List (KO × NE)} {rs rh : Nat} {v : Value} {l : List It} (h : FzAt S w es rs rh v l) (hi : ∀ b, S b → S' b) : FzAt S' w es rs rh v l :=
  ⟨fun x hx => by obtain ⟨fp, a, b, c⟩ := h.1 x hx; exact ⟨fp, a, b, fun r hr => hi r (c r hr)⟩, h.2.imp hi⟩
theorem FzAt.nodes {S : Nat → Prop} {w : World} {es : List (KO × NE)} {rs rh : Nat} {v : Value} {l : List It} (h : FzAt S w es rs rh v l) : NodesOf w (frL es l) (ndF es) rs rh := fun x hx => by
  obtain ⟨fp, a, _, _⟩ := h.1 x hx
  exact ⟨fp, a⟩
theorem FzAt.fz {S : Nat → Prop} {w : World} {es : List (KO × NE)} {rs rh : Nat} {v : Value} {l : List It} (h : FzAt S w es rs rh v l) : ∀ x ∈ frL es l, FzN w x.2 true := fun x hx => by
  obtain ⟨fp, a, b, _⟩ := h.1 x hx
  exact ⟨_, _, _, _, a, b⟩

/-- What Freeze gives, and where it lies. -/
theorem play_freezeF {w0 W : World} {T M : Nat} {c : Cfg} {rs rh n ver : Nat} {es : List (KO × NE)} {v : Value} {l : List It} (h : Play w0 W T M c rs rh n ver es v l) (hn : n ≤ 100) (N : Nat) (hes : ∀ p ∈ es, ∀ r ∈ p.2.2.2, r < N) (hit : ItemsIn (fun b => b < N) W v l) :
    Calls Tryz.prog 14 #[.pointer (some ⟨T, 0, none⟩)] W fun e w1 => ∃ A cc, e = .returned (.slice A (frL es l).length cc) ∧ OwnL enC 56 3 W.heap.size w1 (.slice A (frL es l).length cc) (frL es l) ∧
      FzAt (fun b => b < N ∧ w0.heap.size ≤ b ∧ b ∉ sfp T M (frzE es (risL (kyN es)))) w1 es rs rh v l ∧ SAt w1 T M c ver (frzE es (risL (kyN es))) rs rh ∧ Grown n ver (ab (frzE es (risL (kyN es)))) ∧
      Upd W w1 (sfp T M es) (sfp T M (frzE es (risL (kyN es)))) := by
  have hl := h.len
  refine (sfreeze_any T M c ver es rs rh W h.at_ (by omega)).mono ?_
  rintro e w1 ⟨A, cc, rfl, h1, h2, hu⟩
  have hK : risL (kyN es) = keysI l := by rw [kyN_keysS, h.tells.risL, absI_keys]
  have e1 : (risL (kyN es)).length = (frL es l).length := by rw [hK]; simp [frL]
  have e2 : ((risL (kyN es)).map fun q => (q, blkOf es q)) = frL es l := by rw [hK]; rfl
  rw [e1, e2] at h1
  have hsf := sfp_all (T := T) (M := M) (frz_all (es := es))
  refine ⟨A, cc, by rw [e1], h1, ⟨fun x hx => ?_, ?_⟩, h2, grown_frz h.grown _, hu⟩
  · obtain ⟨q, hq, rfl⟩ := List.mem_map.1 hx
    have hqk : q ∈ kyN es := (mem_risL _ _).1 (by rw [hK]; exact hq)
    obtain ⟨p, hp, hpq, hf⟩ := blk_at hqk
    have hb : blkOf es q = p.2.1 := by unfold blkOf; rw [hf]; rfl
    have hd : ndF es (q, blkOf es q) = frz p.2.2.1 := by unfold ndF; simp only; rw [hf]; rfl
    have hm : (p.1, (p.2.1, frz p.2.2.1, p.2.2.2)) ∈ frzE es (risL (kyN es)) := List.mem_map.2 ⟨p, hp, by rw [if_pos (by rw [hK, hpq]; exact hq)]⟩
    have hnode := h2.node _ hm
    have hoff := h2.off _ hm
    simp only at hnode hoff
    refine ⟨p.2.2.2, by rw [hd]; simp only; rw [hb]; exact hnode, by rw [hd]; rfl, fun r hr => ⟨hes p hp r hr, h.fresh p hp r hr, fun hq => ?_⟩⟩
    rcases hsf r hq with rfl | rfl
    · exact hoff.1 hr
    · exact hoff.2 hr
  · refine (ItemsIn.and (ItemsIn.keepS (hit.and h.items) hu.size (fun b hb hlt => hu.block b hlt hb.2.1)) (h.items.turnB hu)).imp (fun b hb => ⟨hb.1.1, hb.2.2, hb.2.1⟩)

/-! ### Cuts of frozen entries -/
def soE (l : List En) : List Eo := l.map fun x => (x.1, some x.2)
theorem soE_len (l : List En) : (soE l).length = l.length := by simp [soE]
theorem row_so {w : World} {v : Value} {l : List En} (h : RowIn 3 enC w v l) : RowIn 3 eoC w v (soE l) := by
  obtain ⟨A, c, rfl, hl, hc⟩ := h
  refine ⟨A, c, by simp [soE], by simpa [soE] using hl, fun hp => ?_⟩
  obtain ⟨b, o, rfl, hb, hx⟩ := hc (by simpa [soE] using hp)
  refine ⟨b, o, rfl, hb, fun k x hk j u hu => ?_⟩
  simp only [soE, List.getElem?_map, Option.map_eq_some_iff] at hk
  obtain ⟨y, hy, rfl⟩ := hk
  exact hx k y hy j u hu
theorem kept_so (l : List En) : keptE (fun _ => true) (soE l) = l := by
  induction l with
  | nil => rfl
  | cons x m ih => simp only [soE, List.map_cons, keptE, if_true] at ih ⊢; rw [ih]
theorem so_fz {w : World} {l : List En} (h : ∀ x ∈ l, FzN w x.2 true) : ∀ x ∈ soE l, ∀ n, x.2 = some n → FzN w n true := fun x hx n hn => by
  obtain ⟨y, hy, rfl⟩ := List.mem_map.1 hx
  simp at hn
  subst hn
  exact h y hy
theorem filter_sort (l : List En) (k : Ky) : (sortEn l).filter (fun x => decide (x.1 = k)) = l.filter (fun x => decide (x.1 = k)) := by
  have hperm : (sortEn l).Perm l := List.mergeSort_perm l _
  have hsub : (l.filter (fun x => decide (x.1 = k))).Sublist (sortEn l) := by
    unfold sortEn
    refine List.sublist_mergeSort ?_ ?_ ?_ List.filter_sublist
    · intro a b c h1 h2
      simp only [leS, ltE, Bool.not_eq_true'] at h1 h2 ⊢
      cases h3 : ltK c.1 a.1 with
      | false => rfl
      | true =>
        exfalso
        cases h4 : ltK a.1 b.1 with
        | true => rw [ltK_trans h3 h4] at h2; cases h2
        | false => rw [ltK_total h4 h1] at h3; rw [h3] at h2; cases h2
    · intro a b
      simp only [leS, ltE, Bool.or_eq_true, Bool.not_eq_true']
      cases h3 : ltK b.1 a.1 with
      | false => exact Or.inl rfl
      | true => exact Or.inr (ltK_asymm h3)
    · rw [List.pairwise_filter]
      refine List.pairwise_of_forall (fun a b ha hb => ?_)
      simp only [decide_eq_true_eq] at ha hb
      simp only [leS, ltE, ha, hb, ltK_irrefl]
      rfl
  have h2 := hsub.filter (fun x => decide (x.1 = k))
  rw [List.filter_filter] at h2
  simp only [Bool.and_self] at h2
  exact (h2.eq_of_length (by rw [(hperm.filter _).length_eq])).symm
theorem findE_filter (l : List En) (k : Ky) : findE l k = ((l.filter (fun x => decide (x.1 = k))).head?).map (·.2) := by
  unfold findE
  rw [List.head?_filter]
theorem findE_sort (l : List En) (k : Ky) : findE (sortEn l) k = findE l k := by
  rw [findE_filter, findE_filter, filter_sort]
theorem findE_append (a b : List En) (k : Ky) : findE (a ++ b) k = (findE a k).or (findE b k) := by
  unfold findE
  rw [List.find?_append]
  cases List.find? (fun x => decide (x.1 = k)) a <;> rfl
theorem mem_sortE (l : List En) (x : En) : x ∈ sortEn l ↔ x ∈ l := (List.mergeSort_perm l _).mem_iff
theorem keys_sortE (l : List En) (q : Ky) : q ∈ (sortEn l).map (·.1) ↔ q ∈ l.map (·.1) := ((List.mergeSort_perm l _).map _).mem_iff
theorem risL_same {l m : List Ky} (h : ∀ p, p ∈ l ↔ p ∈ m) : risL l = risL m :=
  pair_unique (risL_pair l) (risL_pair m) (fun p => by rw [mem_risL, mem_risL]; exact h p)
end

section
set_option linter.unusedSimpArgs false
set_option linter.unusedVariables false
open Go.RowKit Go.Lib Go.Sort

set_option maxRecDepth 100000 in
set_option maxHeartbeats 4000000 in
theorem cutEpoch_any (C : Nat) (ep : Int) (l : List En) (w : World) (h : CutIn w C ep l) :
    Calls Tryz.prog 15 #[.pointer (some ⟨C, 0, none⟩)] w fun e w' => e = .returned (.int .i64 ep) ∧ Below w.heap.size w w' := by
  obtain ⟨A, c, h1, h2⟩ := h
  obtain ⟨a1, a2, a3⟩ := box_cells (Below.refl _ _) h1
  clear h1 h2
  go_enter Tryz.func15, Tryz.ntmps15
  go_wp2_with fail
  go_ret
  exact ⟨rfl, Below.refl _ _⟩
theorem cut_none (w : World) (C : Nat) (ep : Int) (h : CutIn w C ep []) : Calls Tryz.prog 24 #[.pointer (some ⟨C, 0, none⟩)] w fun e w' => ∃ A c, e = .returned (.slice A 0 c) ∧ Below w.heap.size w w' :=
  (cutKeys_any C ep [] w h (by simp)).mono fun e w' hr => by
    obtain ⟨A, c, rfl, _, hb⟩ := hr.own
    exact ⟨A, c, rfl, hb⟩
set_option maxRecDepth 100000 in
set_option maxHeartbeats 4000000 in
theorem cutTotal_none (C : Nat) (ep a b : Int) (w : World) (h : CutIn w C ep []) :
    Calls Tryz.prog 25 #[.pointer (some ⟨C, 0, none⟩), .int .i64 a, .int .i64 b] w fun e w' => e = .returned (.agg #[.int .i64 0, .int .i64 0, .int .i64 0, .int .i64 0, .int .i64 0]) ∧ Below w.heap.size w w' := by
  have K := Lib.hid (fun W (hW : Below w.heap.size w W) => cut_none W C ep (h.below hW))
  clear h
  go_enter Tryz.func25, Tryz.ntmps25
  go_wp2_with (first
    | (go_at_call 24
       refine calls_named ?_
       intro W1 hW1
       have hb1 : Below w.heap.size w W1 := by rw [hW1]; exact balloc (balloc (Below.refl _ _) _) _
       have hx1 : W1.heap[w.heap.size]? = some (.cells #[.int .i64 0, .int .i64 0, .int .i64 0, .int .i64 0, .int .i64 0] 60 (0, 0)) := by rw [hW1]; exact (Below.heap_alloc _ _ _ (by simp)).trans (heap_alloc_new _ _)
       have hx2 : W1.heap[w.heap.size + 1]? = some (.cells #[.int .i64 0, .int .i64 0, .int .i64 0, .int .i64 0, .int .i64 0] 60 (0, 0)) := by rw [hW1]; exact heap_alloc_new2 _ _ _
       clear hW1
       refine (K.out W1 hb1).mono ?_
       rintro e w2 ⟨A, c, rfl, hb2⟩
       have HX1 := Lib.hid ((hb2.block _ (Array.getElem?_eq_some_iff.1 hx1).1).trans hx1)
       have HX2 := Lib.hid ((hb2.block _ (Array.getElem?_eq_some_iff.1 hx2).1).trans hx2)
       have HB2 := Lib.hid (bthen hb1 hb2)
       clear hb1 hx1 hx2 hb2))
  obtain ⟨a1, a2, a3⟩ := box_cells (Below.refl _ _) HX1.out
  obtain ⟨a4, a5, a6⟩ := box_cells (Below.refl _ _) HX2.out
  go_loopg [15] 0 (fun g s15 wr => s15 = .int .i64 0 ∧ wr = w2)
  case atStart => exact ⟨rfl, rfl⟩
  case round =>
    obtain ⟨rfl, rfl⟩ := hrel
    go_wp2_with fail
    have hB := box5 (v0 := .int .i64 0) (v1 := .int .i64 0) (v2 := .int .i64 0) (v3 := .int .i64 0) (v4 := .int .i64 0) (cs := #[]) HX1.out
    have hb5 := below5 HB2.out (Nat.le_refl w.heap.size) (.int .i64 0) (.int .i64 0) (.int .i64 0) (.int .i64 0) (.int .i64 0)
    obtain ⟨b1, b2, b3⟩ := box_cells (Below.refl _ _) hB
    exact bodyPost_ret (v := .agg #[.int .i64 0, .int .i64 0, .int .i64 0, .int .i64 0, .int .i64 0]) (by simp [results, Tryz.results25, go_sem, b1]) rfl ⟨rfl, hb5⟩
set_option maxRecDepth 100000 in
set_option maxHeartbeats 4000000 in
theorem awake19_any (w : World) : Calls Tryz.prog 10 #[] w fun e w' => e = .returned (.bool true) ∧ Below w.heap.size w w' := by
  have HNW := Lib.hid (show Calls Tryz.prog 13 #[.int .i64 3, .slice none 0 0] w fun e w' => ∃ C, e = .returned (.pointer (some ⟨C, 0, none⟩)) ∧ CutIn w' C 3 [] ∧ Below w.heap.size w w' from
    (cutNew_any 3 (.slice none 0 0) [] (fun _ => false) w ⟨RowIn.nil, fun p hp => by cases hp⟩ (fun p hp => by cases hp) (by simp) (by simp) (fun p hp => by cases hp)).mono fun e w' ⟨C, h1, h2, h3⟩ => ⟨C, h1, by
      have h4 := h2.in_
      have e0 : sortEn (([] : List PartE).flatMap fun p => keptE (fun _ => false) p.2.2) = [] := by simp [sortEn]
      rw [e0] at h4
      exact h4, h3⟩)
  go_enter Tryz.func10, Tryz.ntmps10
  go_wp2_with (first
    | (go_at_call 13
       refine HNW.out.mono ?_
       rintro e w1 ⟨C, rfl, hc, hb⟩
       have HC := Lib.hid hc
       have HB1 := Lib.hid hb
       clear hc hb)
    | (go_at_call 15
       refine (cutEpoch_any C 3 [] w1 HC.out).mono ?_
       rintro e w2 ⟨rfl, hb⟩
       have HC2 := Lib.hid (HC.out.below hb)
       have HB2 := Lib.hid (bthen HB1.out hb)
       clear hb)
    | (go_at_call 24
       refine (cut_none w2 C 3 HC2.out).mono ?_
       rintro e w3 ⟨A, c, rfl, hb⟩
       have HC3 := Lib.hid (HC2.out.below hb)
       have HB3 := Lib.hid (bthen HB2.out hb)
       clear hb)
    | (go_at_call 25
       refine (cutTotal_none C 3 5 5 w3 HC3.out).mono ?_
       rintro e w4 ⟨rfl, hb⟩
       have HB4 := Lib.hid (bthen HB3.out hb)
       clear hb))
  go_ret
  exact ⟨rfl, HB4.out⟩
end

section
set_option linter.unusedSimpArgs false
set_option linter.unusedVariables false
open Go.RowKit Go.Lib

/-- A number, or the end that it is beyond. -/
def endsI (n : Int) : Int := if 9223372036854775807 < n then 9223372036854775807 else if n < -9223372036854775808 then -9223372036854775808 else n
theorem endsI_i64 (n : Int) : I64 (endsI n) := by
  unfold endsI I64
  split
  · omega
  · split <;> omega
def sumE : List Int → Int → Int
  | [], a => a
  | n :: l, a => sumE l (endsI (a + n))
theorem sumE_i64 : ∀ (l : List Int) (a : Int), I64 a → I64 (sumE l a)
  | [], a, h => h
  | n :: l, a, h => sumE_i64 l _ (endsI_i64 _)
theorem sumE_snoc : ∀ (l : List Int) (a n : Int), sumE (l ++ [n]) a = endsI (sumE l a + n)
  | [], a, n => rfl
  | m :: l, a, n => sumE_snoc l _ n
def ceilI (a b : Int) : Int := if b < 1 then 0 else if a ≤ 0 then a.tdiv b else (a - 1).tdiv b + 1
def nmC (n : Int) : List Value := [.int .i64 n]
theorem i64_0 : I64 0 := by unfold I64; omega

set_option maxRecDepth 100000 in
set_option maxHeartbeats 1000000 in
theorem satAdd_any (a b : Int) (w : World) (ha : I64 a) (hb : I64 b) :
    Calls Tryz.prog 124 #[.int .i64 a, .int .i64 b] w fun e w' => e = .returned (.int .i64 (endsI (a + b))) ∧ w = w' := by
  obtain ⟨a1, a2⟩ := ha
  obtain ⟨b1, b2⟩ := hb
  go_enter Tryz.func124, Tryz.ntmps124
  go_wp2
  all_goals
    go_ret
    refine ⟨ret_int ?_, rfl⟩
    (try unfold wrap64 at *)
    unfold endsI
    repeat' split
    all_goals omega
set_option maxRecDepth 100000 in
set_option maxHeartbeats 1000000 in
theorem refAdd_any (a b : Int) (w : World) (ha : I64 a) (hb : I64 b) :
    Calls Tryz.prog 122 #[.int .i64 a, .int .i64 b] w fun e w' => e = .returned (.int .i64 (endsI (a + b))) ∧ w = w' := by
  obtain ⟨a1, a2⟩ := ha
  obtain ⟨b1, b2⟩ := hb
  go_enter Tryz.func122, Tryz.ntmps122
  go_wp2
  all_goals
    go_ret
    refine ⟨ret_int ?_, rfl⟩
    (try unfold wrap64 at *)
    unfold endsI
    repeat' split
    all_goals omega
set_option maxRecDepth 100000 in
set_option maxHeartbeats 1000000 in
theorem refSub_any (a b : Int) (w : World) (ha : I64 a) (hb : I64 b) :
    Calls Tryz.prog 123 #[.int .i64 a, .int .i64 b] w fun e w' => e = .returned (.int .i64 (endsI (a - b))) ∧ w = w' := by
  obtain ⟨a1, a2⟩ := ha
  obtain ⟨b1, b2⟩ := hb
  go_enter Tryz.func123, Tryz.ntmps123
  go_wp2
  all_goals
    go_ret
    refine ⟨ret_int ?_, rfl⟩
    (try unfold wrap64 at *)
    unfold endsI
    repeat' split
    all_goals omega
set_option maxRecDepth 100000 in
set_option maxHeartbeats 1000000 in
theorem satBit_any (b : Bool) (w : World) :
    Calls Tryz.prog 223 #[.bool b] w fun e w' => e = .returned (.int .i64 (if b = true then 1 else 0)) ∧ w = w' := by
  cases b
  all_goals
    go_enter Tryz.func223, Tryz.ntmps223
    go_wp2
    go_ret
    exact ⟨rfl, rfl⟩
theorem sub_ends {a b : Int} (ha : I64 a) (hb : I64 b) (h : b ≠ -9223372036854775808) : endsI (a + IntKind.i64.wrap (-b)) = endsI (a - b) := by
  unfold I64 at ha hb
  rw [IntKind.wrap_i64]
  congr 1
  omega
theorem sub_end {a : Int} (ha : I64 a) (q : Bool) (hq : q = decide (a < 0)) : endsI (endsI (a + 9223372036854775807) + if q = true then 1 else 0) = endsI (a - -9223372036854775808) := by
  subst hq
  unfold I64 at ha
  by_cases h : a < 0
  · simp only [h, decide_true, if_true]
    unfold endsI
    repeat' split
    all_goals omega
  · simp only [h, decide_false]
    unfold endsI
    simp only [Bool.false_eq_true, if_false]
    repeat' split
    all_goals omega
end

end Go.Proofs.YtfegielnmdppgaaGreat
