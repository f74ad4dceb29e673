/- a stripe's Trim, walked; node.Freeze, and a stripe that is frozen. -/
import Derived.Test.YtmniiodpbebnmaaGreatJ21
import Derived.Deep.DeepCutAuto
namespace Go.Proofs.YtmniiodpbebnmaaGreat

section
set_option linter.unusedSimpArgs false
set_option linter.unusedVariables false
open Go.RowKit Go.Lib Go.Sort
open Go.ChangeMaps (setBlock)

/-- A key that is there, and what stands at it. -/
theorem TrimAt.entry {w wr : World} {T M : Nat} {c : Cfg} {ver : Nat} {es : List (KO × NE)} {rs rh : Nat} {cut : Int} {v : Value} {k : Nat} {es' : List (KO × NE)} {K : List Ky} (h : TrimAt w wr T M c ver es rs rh cut K v k es') (hK : K = risL (kyN es)) (hnd : (kyN es).Nodup) (hk : k < K.length) :
    ∃ ko x b, K[k] = ko.1 ∧ findM (ab es) ko = some x ∧ findM es' ko = some b ∧ b.2.1 = x ∧ ko.1 ∉ K.take k := by
  have hm : K[k] ∈ kyN es := by subst hK; exact mem_risL' _ _ (List.getElem_mem hk)
  obtain ⟨p, hp, he⟩ := List.mem_map.1 hm
  have hn : K.Nodup := by subst hK; exact risL_nodup hnd
  have hnk : K[k] ∉ K.take k := fun hmem => by
    obtain ⟨i, hi⟩ := List.getElem?_of_mem hmem
    have hil : i < k := by
      have := (List.getElem?_eq_some_iff.1 hi).1
      simp at this; omega
    rw [List.getElem?_take_of_lt hil] at hi
    have := nodup_inj hn hi (List.getElem?_eq_getElem hk)
    omega
  have hhas : hasM (ab es) p.1 = true := (hasM_iff _ _).2 (List.mem_map.2 ⟨(p.1, p.2.2.1), List.mem_map.2 ⟨p, hp, rfl⟩, rfl⟩)
  obtain ⟨x, hx, _⟩ := findM_some hhas
  have h2 : findM (ab es') p.1 = some x := by
    rw [h.is, trimK_find, hx]
    have : p.1.1 ∉ K.take k := by rw [he]; exact hnk
    simp [this]
  rw [ab_find] at h2
  obtain ⟨b, hb, hbx⟩ := Option.map_eq_some_iff.1 h2
  exact ⟨p.1, x, b, he.symm, hx, hb, hbx, by rw [he]; exact hnk⟩

set_option maxRecDepth 100000 in
set_option maxHeartbeats 8000000 in
theorem strim_any (T M : Nat) (c : Cfg) (ver : Nat) (es : List (KO × NE)) (rs rh : Nat) (cut : Int) (w : World) (h : SAt w T M c ver es rs rh) (hrs : rs ≤ 256) (hrh : rh ≤ 64) (hl : es.length ≤ 1000) (hv : ver ≤ 900000) (hvn : ∀ p ∈ ab es, p.2.ver ≤ 1000000) (hsl : ∀ p ∈ ab es, p.2.smp.length ≤ 256) :
    Calls Tryz.prog 83 #[.pointer (some ⟨T, 0, none⟩), .int .i64 cut] w (SSays w T M c es rs rh (.int .i64 (goneS (ab es) cut (risL (kyN es)) : Nat)) (ver + manyS (ab es) cut (risL (kyN es))) (trimK (ab es) cut (risL (kyN es)))) := by
  have hnd : (kyN es).Nodup := kyN_nodup h.map
  have hndl : ((ab es).map (·.1)).Nodup := by have := h.nodup; simpa [ab, List.map_map, Function.comp_def] using this
  obtain ⟨K, hK⟩ : ∃ K, K = risL (kyN es) := ⟨_, rfl⟩
  have hKl : K.length ≤ 1000 := by rw [hK, risL_length hnd]; simp [kyN]; exact hl
  have hgk : ∀ q, goneK (ab es) cut q ≤ 256 := fun q => by
    unfold goneK
    cases hf : (ab es).find? (fun p => decide (p.1.1 = q)) with
    | none => simp
    | some p =>
      have := hsl p (List.mem_of_find?_eq_some hf)
      have := placeS_le p.2.smp cut
      simp; omega
  have hgs : ∀ k, goneS (ab es) cut (K.take k) ≤ 256 * 1000 := fun k => by
    have h1 : ∀ ks : List Ky, goneS (ab es) cut ks ≤ 256 * ks.length := fun ks => by
      induction ks with
      | nil => simp [goneS]
      | cons a ks ih => have := hgk a; simp only [goneS, List.map_cons, List.sum_cons, List.length_cons] at ih ⊢; omega
    have h2 := h1 (K.take k)
    have h3 : (K.take k).length ≤ 1000 := by simp; omega
    omega
  have hms : ∀ k, manyS (ab es) cut (K.take k) ≤ 1000 := fun k => by
    have : manyS (ab es) cut (K.take k) ≤ (K.take k).length := List.countP_le_length ..
    have h3 : (K.take k).length ≤ 1000 := by simp; omega
    omega
  rw [← hK]
  have hk0 := skeys_any T c ver es rs rh _ w h.in_ (by omega)
  rw [← hK] at hk0
  have HK := Lib.hid hk0
  have H := Lib.hid h
  have HKK := Lib.hid hK
  have HND := Lib.hid hnd
  have HNDL := Lib.hid hndl
  have HVN := Lib.hid hvn
  have HGS := Lib.hid hgs
  have HMS := Lib.hid hms
  clear h hnd hndl hvn hsl hgk hgs hms hk0 hK
  go_enter Tryz.func83, Tryz.ntmps83
  go_wp2_with (first
    | (go_at_call 153
       refine HK.out.mono ?_
       rintro e w2 ⟨v, rfl, hrow, hb2⟩
       obtain ⟨A, cc, rfl⟩ := own_form hrow
       have hri : RowIn 2 keyC w2 (.slice A K.length cc) K := RowIn.own (n := 2) (f := keyC) (fun _ => rfl) hrow
       have hblk : ∀ b o m c', (Value.slice A K.length cc) = .slice (some ⟨b, o, none⟩) m c' → 0 < K.length → w.heap.size ≤ b ∧ b < w2.heap.size := fun b o m c' e hn => by
         rcases hrow.2 with ⟨hv', h0⟩ | ⟨g, cap, cur, hv', _⟩
         · omega
         · have hlt := hrow.lt g (by rw [hv']; rfl)
           rw [e] at hv'
           injection hv' with e1 _ _
           injection e1 with e1
           injection e1 with e1
           rw [e1]
           exact hlt
       have HRI := Lib.hid hri
       have HBL := Lib.hid hblk
       have HB2 := Lib.hid hb2
       clear hrow hri hblk hb2))
  go_loopg [5, 13] K.length (fun g s5 s13 wr => ∃ k es', k ≤ K.length ∧ K.length - k ≤ g ∧ s13 = .int .i64 (k : Nat) ∧ s5 = .int .i64 (goneS (ab es) cut (K.take k) : Nat) ∧ TrimAt w wr T M c ver es rs rh cut K (.slice A K.length cc) k es')
  case atStart =>
    refine ⟨0, es, Nat.zero_le _, Nat.le_refl _, rfl, by simp [goneS], ⟨?_, ?_, ?_, HRI.out, ?_, Old.refl _ _⟩⟩
    · have := H.out.below HB2.out
      simpa [manyS] using this
    · simp [trimK]
    · exact Upd.of_below HB2.out _
    · intro b o m c' e hn
      obtain ⟨h1, h2⟩ := HBL.out b o m c' e hn
      refine ⟨fun hm => ?_, h2⟩
      simp only [sfp, List.mem_cons] at hm
      rcases hm with rfl | rfl | hm
      · have := H.out.ltT; omega
      · have := H.out.map.lt; omega
      · obtain ⟨p, hp, hr⟩ := mem_mfpE.1 hm
        have := (H.out.node p hp).lt b (mfp_sub _ _ b hr); omega
  case round =>
    obtain ⟨k, es', hk, hg, rfl, rfl, hT⟩ := hrel
    by_cases hlt : k < K.length
    · obtain ⟨ko, x, b, hko, hx, hb, hbx, hnk⟩ := hT.entry HKK.out HND.out hlt
      obtain ⟨bb, o, rfl, hbw, hc⟩ := hT.row.at_ hlt
      have c1 : wr.cell? ⟨bb, o + k * 2, none⟩ = some (.int .u64 K[k].1) := hc 0 _ rfl
      have c2 : wr.cell? ⟨bb, o + k * 2 + 1, none⟩ = some (.int .u64 K[k].2) := hc 1 _ rfl
      rw [hko] at c1 c2
      have hS := hT.at_
      have hnode := hS.node _ (find_mem hb)
      dsimp only at hnode
      rw [hbx] at hnode
      have HN := Lib.hid hnode
      have HS := Lib.hid hS
      have HT := Lib.hid hT
      have HFB := Lib.hid hb
      have HBX := Lib.hid hbx
      have HKO := Lib.hid hko
      have HXX := Lib.hid hx
      have HNK := Lib.hid hnk
      have hgk := gone_find cut hx
      have hsn : goneS (ab es) cut (K.take (k + 1)) = goneS (ab es) cut (K.take k) + placeS x.smp cut := by
        rw [List.take_succ_eq_append_getElem hlt, hko, goneS_snoc, hgk]
      have HSN := Lib.hid hsn
      have hg0 := HGS.out k
      have hg1 := HGS.out (k + 1)
      have hxv : x.ver ≤ 1000000 := HVN.out _ (find_mem hx)
      rw [hsn] at hg1
      clear hc hT hb hbx hko hx hnk hgk hsn hnode hS
      generalize hGS : goneS (ab es) cut (K.take k) = G at *
      clear hGS
      go_wp2_with fail
      refine name_world ?_
      intro W1 hW1
      have hb1 : Below wr.heap.size wr W1 := by rw [hW1]; exact balloc (Below.refl _ _) _
      have hx1 : W1.heap[wr.heap.size]? = some (.cells #[.int .u64 ko.1.1, .int .u64 ko.1.2] 74 (0, 0)) := by rw [hW1]; exact heap_alloc_new _ _
      clear hW1 c1 c2
      have a1 : W1.cell? ⟨wr.heap.size, 0, none⟩ = some (.int .u64 ko.1.1) := by simp [World.cell?, hx1]
      have a2 : W1.cell? ⟨wr.heap.size, 1, none⟩ = some (.int .u64 ko.1.2) := by simp [World.cell?, hx1]
      have h1 := HS.out.below hb1
      have hltT := h1.ltT
      have z0 : W1.cell? ⟨T, 0, none⟩ = some (.map (some M)) := by simp only [World.cell?, h1.cell]; rfl
      have r4 : (Instr.lookup 230 (.map (some M)) (.agg #[.int .u64 ko.1.1, .int .u64 ko.1.2]) false).run Tryz.prog W1.drew = .ok (.pointer (some ⟨b.1, 0, none⟩)) W1.drew := by
        have := look_es (h1.map.below ((Below.refl _ W1).drew)) ko false
        rw [HFB.out] at this
        exact this
      have HX1 := Lib.hid hx1
      have HB1 := Lib.hid hb1
      clear hx1 hb1 h1
      rcases Nat.eq_zero_or_pos (placeS x.smp cut) with h0 | h0
      · go_region_with (first
          | (go_at_call 154
             refine calls_named ?_
             intro W2 hW2
             have hb2 : Below W1.heap.size W1 W2 := by rw [hW2]; repeat (first | exact Below.refl _ _ | refine balloc ?_ _ | refine Below.drew ?_)
             clear hW2
             refine (nodeTrim0 b.1 x rs rh b.2.2 cut W2 (HN.out.below (bthen HB1.out hb2)) hrs h0).mono ?_
             rintro e w3 ⟨rfl, hb3⟩
             have HB3 := Lib.hid (bthen (bthen HB1.out hb2) hb3)
             clear hb2 hb3))
        all_goals
          go_wp2
          go_roundg (K.length - (k + 1))
          case measure => omega
          case rel => exact ⟨k + 1, es', hlt, Nat.le_refl _, by go_num, by rw [HSN.out, h0]; rfl, HT.out.same HNDL.out hlt HKO.out HXX.out h0 HB3.out⟩
      · have hgt : (0 : Int) < (placeS x.smp cut : Nat) := by omega
        have hwr : IntKind.i64.wrap ((G : Int) + (placeS x.smp cut : Nat)) = ((G + placeS x.smp cut : Nat) : Int) := by rw [IntKind.wrap_i64]; omega
        have hvk : ver + manyS (ab es) cut (K.take k) ≤ 1000000 := by have := HMS.out k; omega
        go_region_with (first
          | (go_at_call 154
             refine calls_named ?_
             intro W2 hW2
             have hb2 : Below W1.heap.size W1 W2 := by rw [hW2]; repeat (first | exact Below.refl _ _ | refine balloc ?_ _ | refine Below.drew ?_)
             clear hW2
             refine (nodeTrim1 b.1 x rs rh b.2.2 cut W2 (HN.out.below (bthen HB1.out hb2)) hrs hrh hxv h0).mono ?_
             rintro e w3 ⟨N3, fr, rfl, hn3, hu3⟩
             have hbx : wr.heap.size ∉ mfp x b.2.2 := fun hr => by have := HN.out.lt _ (mfp_sub _ _ _ hr); omega
             have hx3 := upd_cell hu3 ((hb2.block _ (Array.getElem?_eq_some_iff.1 HX1.out).1).trans HX1.out) hbx
             obtain ⟨q1, q2, q3⟩ := box_cells (Below.refl _ _) hx3
             have hbw2 := bthen HB1.out hb2
             have hu30 : Upd wr w3 (mfp b.2.1 b.2.2) fr := by rw [HBX.out]; exact (Upd.of_below hbw2 _).trans hu3
             have hole := HS.out.hole (find_mem HFB.out) hu30
             have HN3 := Lib.hid hn3
             have HU3 := Lib.hid hu30
             have HOL := Lib.hid hole
             clear hb2 hn3 hu3 hbx hx3 hbw2 hu30 hole))
        all_goals
          go_wp2_with (first
            | (go_at_call 152
               refine (keep_any T M c _ es' rs rh ko N3 _ fr w3 HOL.out HN3.out hvk).mono ?_
               rintro e w5 ⟨rfl, h5, hu5⟩
               have HT5 := Lib.hid (HT.out.step HNDL.out hlt HKO.out HXX.out HNK.out HFB.out HBX.out h0 HU3.out h5 hu5)
               clear h5 hu5))
          go_roundg (K.length - (k + 1))
          case measure => omega
          case rel => exact ⟨k + 1, _, hlt, Nat.le_refl _, by go_num, by rw [HSN.out, Int.natCast_add], HT5.out⟩
    · obtain rfl : k = K.length := by omega
      have hT' := hT.upd
      have hat := hT.at_
      have his := hT.is
      rw [List.take_length] at hat his ⊢
      have HF := Lib.hid (show SSays w T M c es rs rh (.int .i64 (goneS (ab es) cut K : Nat)) (ver + manyS (ab es) cut K) (trimK (ab es) cut K) (.returned (.int .i64 (goneS (ab es) cut K : Nat))) wr from ⟨es', rfl, hat, his, hT', hT.old⟩)
      clear hT hT' hat his
      go_wp2
      go_ret
      exact HF.out
end

section
set_option linter.unusedSimpArgs false
set_option linter.unusedVariables false
open Go.RowKit Go.Lib Go.Sort
open Go.ChangeMaps (setBlock)

def frz (x : Nd) : Nd := { x with frz := true }
set_option maxRecDepth 100000 in
set_option maxHeartbeats 4000000 in
theorem nodeFreeze_any (N : Nat) (x : Nd) (rs rh : Nat) (fp : List Nat) (w : World) (h : NodeIn w N x rs rh fp) :
    Calls Tryz.prog 165 #[.pointer (some ⟨N, 0, none⟩)] w fun e w' => e = .returned (.pointer (some ⟨N, 0, none⟩)) ∧ NodeIn w' N (frz x) rs rh fp ∧ Upd w w' (mfp x fp) [] := by
  have HM := Lib.hid (made_any N x rs rh fp w h)
  have HN := Lib.hid h
  obtain ⟨S, fs, H, fh, h1, _⟩ := id h
  have H1 := Lib.hid h1
  clear h h1
  go_enter Tryz.func165, Tryz.ntmps165
  go_wp2_with (first
    | (go_at_call 174
       refine HM.out.mono ?_
       rintro e w2 ⟨rfl, hb2⟩
       obtain ⟨a1, a2, a3⟩ := box_cells hb2 H1.out
       have hx2 := (hb2.block N (Array.getElem?_eq_some_iff.1 H1.out).1).trans H1.out
       have HX2 := Lib.hid hx2
       have HB2 := Lib.hid hb2
       clear hb2 hx2))
  go_ret
  have hn2 := HN.out.below HB2.out
  refine ⟨rfl, node_set (i := 10) (v := .bool true) (y := frz x) hn2 (fun S H => rfl) rfl rfl, HB2.out.os, HB2.out.tape, HB2.out.output, by simp [World.setCell]; exact HB2.out.size, fun k hk hn => ?_, fun r hr => by cases hr⟩
  by_cases e : k = N
  · subst e
    have hf : x.frz = true := by
      cases hx : x.frz with
      | true => rfl
      | false =>
        exfalso
        apply hn
        unfold mfp
        rw [hx]
        exact HN.out.mem
    have hb := setCell_block (i := 10) (v := .bool true) HX2.out
    rw [hb, H1.out]
    have : (ndC x S H).setIfInBounds 10 (.bool true) = ndC x S H := by
      unfold ndC
      rw [hf]
      rfl
    rw [this]
  · exact (Below.heap_setCell _ _ _ _ e).trans (HB2.out.block k hk)

/-- The entries with those keys' nodes frozen. -/
def frzE (es : List (KO × NE)) (ks : List Ky) : List (KO × NE) := es.map fun p => (p.1, (p.2.1, (if p.1.1 ∈ ks then frz p.2.2.1 else p.2.2.1), p.2.2.2))
theorem frzE_nil (es : List (KO × NE)) : frzE es [] = es := by
  unfold frzE
  conv => rhs; rw [← List.map_id es]
  exact List.map_congr_left fun p _ => rfl
theorem frzE_mem {es : List (KO × NE)} {ks : List Ky} {p : KO × NE} (h : p ∈ frzE es ks) : ∃ q ∈ es, p = (q.1, (q.2.1, (if q.1.1 ∈ ks then frz q.2.2.1 else q.2.2.1), q.2.2.2)) := by
  obtain ⟨q, hq, rfl⟩ := List.mem_map.1 h
  exact ⟨q, hq, rfl⟩
theorem frzE_find (es : List (KO × NE)) (ks : List Ky) (k : KO) : findM (frzE es ks) k = (findM es k).map (fun b => (b.1, (if k.1 ∈ ks then frz b.2.1 else b.2.1), b.2.2)) := by
  unfold findM frzE
  rw [List.find?_map]
  simp only [Function.comp_def]
  cases h : es.find? (fun p => decide (p.1 = k)) with
  | none => simp
  | some q =>
    have := List.find?_some h
    simp at this
    simp [this]
theorem ab_frzE (es : List (KO × NE)) (ks : List Ky) : ab (frzE es ks) = (ab es).map (fun p => (p.1, if p.1.1 ∈ ks then frz p.2 else p.2)) := by
  simp [ab, frzE, List.map_map, Function.comp_def]

/-- One more node was frozen. -/
theorem SAt.freeze {w w' : World} {T M : Nat} {c : Cfg} {ver : Nat} {es : List (KO × NE)} {rs rh : Nat} {ks : List Ky} {k : KO} {b : NE} (h : SAt w T M c ver (frzE es ks) rs rh) (hb : findM (frzE es ks) k = some b)
    (hn : NodeIn w' b.1 (frz b.2.1) rs rh b.2.2) (hu : Upd w w' (mfp b.2.1 b.2.2) []) : SAt w' T M c ver (frzE es (ks ++ [k.1])) rs rh ∧ Upd w w' (sfp T M (frzE es ks)) (sfp T M (frzE es (ks ++ [k.1]))) := by
  have hm := find_mem hb
  have hnd := h.nodup
  have ho := h.off _ hm
  have hsub := mfp_sub b.2.1 b.2.2
  have hole := h.hole hm hu
  -- an entry of the one list, seen from the other
  have hent : ∀ p ∈ frzE es (ks ++ [k.1]), ∃ q ∈ frzE es ks, q.1 = p.1 ∧ q.2.1 = p.2.1 ∧ q.2.2.2 = p.2.2.2 ∧ ((p.1 = k ∧ p.2.2.1 = frz q.2.2.1) ∨ (p.1 ≠ k ∧ p.2.2.1 = q.2.2.1)) := by
    intro p hp
    obtain ⟨q, hq, rfl⟩ := frzE_mem hp
    refine ⟨_, List.mem_map.2 ⟨q, hq, rfl⟩, rfl, rfl, rfl, ?_⟩
    by_cases e : q.1 = k
    · refine .inl ⟨e, ?_⟩
      have e1 : q.1.1 = k.1 := by rw [e]
      simp only [e1, List.mem_append, List.mem_singleton, or_true, if_true]
      split
      · rfl
      · rfl
    · refine .inr ⟨e, ?_⟩
      have : ¬ q.1.1 = k.1 := fun h => e (Subtype.ext h)
      simp [this]
  have hat : ∀ q ∈ frzE es ks, q.1 = k → q.2 = b := fun q hq e => by
    have := find_of_mem hnd (show (k, q.2) ∈ frzE es ks by rw [← e]; exact hq)
    rw [hb] at this
    injection this with this
    exact this.symm
  refine ⟨⟨hole.cell, ?_, fun p hp => ?_, fun p hp q hq hpq => ?_, fun p hp => ?_, h.ne⟩, ⟨hu.os, hu.tape, hu.output, hu.size, fun r hr hnr => hu.block r hr (fun hk => hnr ?_), fun r hr => ?_⟩⟩
  · have h1 := hole.map
    unfold frzE at h1 ⊢
    obtain ⟨ents, clock, g1, g2, g3, g4, g5⟩ := h1
    refine ⟨ents, clock, g1, g2.trans ?_, g3, g4, ?_⟩
    · rw [List.map_map, List.map_map]; rfl
    · rw [List.map_map] at g5 ⊢; exact g5
  · obtain ⟨q, hq, e1, e2, e3, e4⟩ := hent p hp
    rw [← e2, ← e3]
    rcases e4 with ⟨ek, e5⟩ | ⟨ek, e5⟩
    · have := hat q hq (e1.trans ek)
      rw [e5, this]
      exact hn
    · rw [e5]
      exact hole.node q hq (by rw [e1]; exact ek)
  · obtain ⟨p', hp', e1, _, e3, _⟩ := hent p hp
    obtain ⟨q', hq', f1, _, f3, _⟩ := hent q hq
    rw [← e3, ← f3]
    exact h.pair p' hp' q' hq' (by rw [e1, f1]; exact hpq)
  · obtain ⟨p', hp', e1, _, e3, _⟩ := hent p hp
    rw [← e3]
    exact h.off p' hp'
  · simp only [sfp, List.mem_cons]
    exact .inr (.inr (mem_mfpE.2 ⟨_, hm, hk⟩))
  · simp only [sfp, List.mem_cons] at hr ⊢
    rcases hr with rfl | rfl | hr
    · exact .inl (.inl rfl)
    · exact .inl (.inr (.inl rfl))
    · obtain ⟨p, hp, hr⟩ := mem_mfpE.1 hr
      obtain ⟨q, hq, e1, _, e3, e4⟩ := hent p hp
      refine .inl (.inr (.inr (mem_mfpE.2 ⟨q, hq, ?_⟩)))
      rcases e4 with ⟨_, e5⟩ | ⟨_, e5⟩
      · rw [e5] at hr
        unfold mfp frz at hr
        simp at hr
      · rw [← e5, e3]
        exact hr
end

end Go.Proofs.YtmniiodpbebnmaaGreat
