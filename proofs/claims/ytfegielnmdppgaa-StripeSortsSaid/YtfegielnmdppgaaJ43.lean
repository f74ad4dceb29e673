/- a stripe's Trim, walked. -/
import Derived.Test.YtfegielnmdppgaaJ42
namespace Go.Proofs.Ytfegielnmdppgaa

section
set_option linter.unusedSimpArgs false
set_option linter.unusedVariables false
open Go.RowKit Go.Lib Go.Sort
open Go.ChangeMaps (setBlock)

/-- A key that is there, and what stands at it. -/
theorem TrimAt.entry {w wr : World} {T M : Nat} {c : Cfg} {ver : Nat} {es : List (KO × NE)} {rs rh : Nat} {cut : Int} {v : Value} {k : Nat} {es' : List (KO × NE)} {K : List Ky} (h : TrimAt w wr T M c ver es rs rh cut K v k es') (hK : K = risL (kyN es)) (hnd : (kyN es).Nodup) (hk : k < K.length) :
    ∃ ko x b, K[k] = ko.1 ∧ findM (ab es) ko = some x ∧ findM es' ko = some b ∧ b.2.1 = x ∧ ko.1 ∉ K.take k := by
  have hm : K[k] ∈ kyN es := by subst hK; exact mem_risL' _ _ (List.getElem_mem hk)
  obtain ⟨p, hp, he⟩ := List.mem_map.1 hm
  have hn : K.Nodup := by subst hK; exact risL_nodup hnd
  have hnk : K[k] ∉ K.take k := fun hmem => by
    obtain ⟨i, hi⟩ := List.getElem?_of_mem hmem
    have hil : i < k := by
      have := (List.getElem?_eq_some_iff.1 hi).1
      simp at this; omega
    rw [List.getElem?_take_of_lt hil] at hi
    have := nodup_inj hn hi (List.getElem?_eq_getElem hk)
    omega
  have hhas : hasM (ab es) p.1 = true := (hasM_iff _ _).2 (List.mem_map.2 ⟨(p.1, p.2.2.1), List.mem_map.2 ⟨p, hp, rfl⟩, rfl⟩)
  obtain ⟨x, hx, _⟩ := findM_some hhas
  have h2 : findM (ab es') p.1 = some x := by
    rw [h.is, trimK_find, hx]
    have : p.1.1 ∉ K.take k := by rw [he]; exact hnk
    simp [this]
  rw [ab_find] at h2
  obtain ⟨b, hb, hbx⟩ := Option.map_eq_some_iff.1 h2
  exact ⟨p.1, x, b, he.symm, hx, hb, hbx, by rw [he]; exact hnk⟩

set_option maxRecDepth 100000 in
set_option maxHeartbeats 8000000 in
theorem strim_any (T M : Nat) (c : Cfg) (ver : Nat) (es : List (KO × NE)) (rs rh : Nat) (cut : Int) (w : World) (h : SAt w T M c ver es rs rh) (hrs : rs ≤ 256) (hrh : rh ≤ 64) (hl : es.length ≤ 1000) (hv : ver ≤ 900000) (hvn : ∀ p ∈ ab es, p.2.ver ≤ 1000000) (hsl : ∀ p ∈ ab es, p.2.smp.length ≤ 256) :
    Calls Try.prog 12 #[.pointer (some ⟨T, 0, none⟩), .int .i64 cut] w (SSays w T M c es rs rh (.int .i64 (goneS (ab es) cut (risL (kyN es)) : Nat)) (ver + manyS (ab es) cut (risL (kyN es))) (trimK (ab es) cut (risL (kyN es)))) := by
  have hnd : (kyN es).Nodup := kyN_nodup h.map
  have hndl : ((ab es).map (·.1)).Nodup := by have := h.nodup; simpa [ab, List.map_map, Function.comp_def] using this
  obtain ⟨K, hK⟩ : ∃ K, K = risL (kyN es) := ⟨_, rfl⟩
  have hKl : K.length ≤ 1000 := by rw [hK, risL_length hnd]; simp [kyN]; exact hl
  have hgk : ∀ q, goneK (ab es) cut q ≤ 256 := fun q => by
    unfold goneK
    cases hf : (ab es).find? (fun p => decide (p.1.1 = q)) with
    | none => simp
    | some p =>
      have := hsl p (List.mem_of_find?_eq_some hf)
      have := placeS_le p.2.smp cut
      simp; omega
  have hgs : ∀ k, goneS (ab es) cut (K.take k) ≤ 256 * 1000 := fun k => by
    have h1 : ∀ ks : List Ky, goneS (ab es) cut ks ≤ 256 * ks.length := fun ks => by
      induction ks with
      | nil => simp [goneS]
      | cons a ks ih => have := hgk a; simp only [goneS, List.map_cons, List.sum_cons, List.length_cons] at ih ⊢; omega
    have h2 := h1 (K.take k)
    have h3 : (K.take k).length ≤ 1000 := by simp; omega
    omega
  have hms : ∀ k, manyS (ab es) cut (K.take k) ≤ 1000 := fun k => by
    have : manyS (ab es) cut (K.take k) ≤ (K.take k).length := List.countP_le_length ..
    have h3 : (K.take k).length ≤ 1000 := by simp; omega
    omega
  rw [← hK]
  have hk0 := skeys_any T c ver es rs rh _ w h.in_ (by omega)
  rw [← hK] at hk0
  have HK := Lib.hid hk0
  have H := Lib.hid h
  have HKK := Lib.hid hK
  have HND := Lib.hid hnd
  have HNDL := Lib.hid hndl
  have HVN := Lib.hid hvn
  have HGS := Lib.hid hgs
  have HMS := Lib.hid hms
  clear h hnd hndl hvn hsl hgk hgs hms hk0 hK
  go_enter Try.func12, Try.ntmps12
  go_wp2_with (first
    | (go_at_call 29
       refine HK.out.mono ?_
       rintro e w2 ⟨v, rfl, hrow, hb2⟩
       obtain ⟨A, cc, rfl⟩ := own_form hrow
       have hri : RowIn 2 keyC w2 (.slice A K.length cc) K := RowIn.own (n := 2) (f := keyC) (fun _ => rfl) hrow
       have hblk : ∀ b o m c', (Value.slice A K.length cc) = .slice (some ⟨b, o, none⟩) m c' → 0 < K.length → w.heap.size ≤ b ∧ b < w2.heap.size := fun b o m c' e hn => by
         rcases hrow.2 with ⟨hv', h0⟩ | ⟨g, cap, cur, hv', _⟩
         · omega
         · have hlt := hrow.lt g (by rw [hv']; rfl)
           rw [e] at hv'
           injection hv' with e1 _ _
           injection e1 with e1
           injection e1 with e1
           rw [e1]
           exact hlt
       have HRI := Lib.hid hri
       have HBL := Lib.hid hblk
       have HB2 := Lib.hid hb2
       clear hrow hri hblk hb2))
  go_loopg [5, 13] K.length (fun g s5 s13 wr => ∃ k es', k ≤ K.length ∧ K.length - k ≤ g ∧ s13 = .int .i64 (k : Nat) ∧ s5 = .int .i64 (goneS (ab es) cut (K.take k) : Nat) ∧ TrimAt w wr T M c ver es rs rh cut K (.slice A K.length cc) k es')
  case atStart =>
    refine ⟨0, es, Nat.zero_le _, Nat.le_refl _, rfl, by simp [goneS], ⟨?_, ?_, ?_, HRI.out, ?_⟩⟩
    · have := H.out.below HB2.out
      simpa [manyS] using this
    · simp [trimK]
    · exact Upd.of_below HB2.out _
    · intro b o m c' e hn
      obtain ⟨h1, h2⟩ := HBL.out b o m c' e hn
      refine ⟨fun hm => ?_, h2⟩
      simp only [sfp, List.mem_cons] at hm
      rcases hm with rfl | rfl | hm
      · have := H.out.ltT; omega
      · have := H.out.map.lt; omega
      · obtain ⟨p, hp, hr⟩ := mem_mfpE.1 hm
        have := (H.out.node p hp).lt b (mfp_sub _ _ b hr); omega
  case round =>
    obtain ⟨k, es', hk, hg, rfl, rfl, hT⟩ := hrel
    by_cases hlt : k < K.length
    · obtain ⟨ko, x, b, hko, hx, hb, hbx, hnk⟩ := hT.entry HKK.out HND.out hlt
      obtain ⟨bb, o, rfl, hbw, hc⟩ := hT.row.at_ hlt
      have c1 : wr.cell? ⟨bb, o + k * 2, none⟩ = some (.int .u64 K[k].1) := hc 0 _ rfl
      have c2 : wr.cell? ⟨bb, o + k * 2 + 1, none⟩ = some (.int .u64 K[k].2) := hc 1 _ rfl
      rw [hko] at c1 c2
      have hS := hT.at_
      have hnode := hS.node _ (find_mem hb)
      dsimp only at hnode
      rw [hbx] at hnode
      have HN := Lib.hid hnode
      have HS := Lib.hid hS
      have HT := Lib.hid hT
      have HFB := Lib.hid hb
      have HBX := Lib.hid hbx
      have HKO := Lib.hid hko
      have HXX := Lib.hid hx
      have HNK := Lib.hid hnk
      have hgk := gone_find cut hx
      have hsn : goneS (ab es) cut (K.take (k + 1)) = goneS (ab es) cut (K.take k) + placeS x.smp cut := by
        rw [List.take_succ_eq_append_getElem hlt, hko, goneS_snoc, hgk]
      have HSN := Lib.hid hsn
      have hg0 := HGS.out k
      have hg1 := HGS.out (k + 1)
      have hxv : x.ver ≤ 1000000 := HVN.out _ (find_mem hx)
      rw [hsn] at hg1
      clear hc hT hb hbx hko hx hnk hgk hsn hnode hS
      generalize hGS : goneS (ab es) cut (K.take k) = G at *
      clear hGS
      go_wp2_with fail
      refine name_world ?_
      intro W1 hW1
      have hb1 : Below wr.heap.size wr W1 := by rw [hW1]; exact balloc (Below.refl _ _) _
      have hx1 : W1.heap[wr.heap.size]? = some (.cells #[.int .u64 ko.1.1, .int .u64 ko.1.2] 27 (0, 0)) := by rw [hW1]; exact heap_alloc_new _ _
      clear hW1 c1 c2
      have a1 : W1.cell? ⟨wr.heap.size, 0, none⟩ = some (.int .u64 ko.1.1) := by simp [World.cell?, hx1]
      have a2 : W1.cell? ⟨wr.heap.size, 1, none⟩ = some (.int .u64 ko.1.2) := by simp [World.cell?, hx1]
      have h1 := HS.out.below hb1
      have hltT := h1.ltT
      have z0 : W1.cell? ⟨T, 0, none⟩ = some (.map (some M)) := by simp only [World.cell?, h1.cell]; rfl
      have r4 : (Instr.lookup 66 (.map (some M)) (.agg #[.int .u64 ko.1.1, .int .u64 ko.1.2]) false).run Try.prog W1.drew = .ok (.pointer (some ⟨b.1, 0, none⟩)) W1.drew := by
        have := look_es (h1.map.below ((Below.refl _ W1).drew)) ko false
        rw [HFB.out] at this
        exact this
      have HX1 := Lib.hid hx1
      have HB1 := Lib.hid hb1
      clear hx1 hb1 h1
      rcases Nat.eq_zero_or_pos (placeS x.smp cut) with h0 | h0
      · go_region_with (first
          | (go_at_call 30
             refine calls_named ?_
             intro W2 hW2
             have hb2 : Below W1.heap.size W1 W2 := by rw [hW2]; repeat (first | exact Below.refl _ _ | refine balloc ?_ _ | refine Below.drew ?_)
             clear hW2
             refine (nodeTrim0 b.1 x rs rh b.2.2 cut W2 (HN.out.below (bthen HB1.out hb2)) hrs h0).mono ?_
             rintro e w3 ⟨rfl, hb3⟩
             have HB3 := Lib.hid (bthen (bthen HB1.out hb2) hb3)
             clear hb2 hb3))
        all_goals
          go_wp2
          go_roundg (K.length - (k + 1))
          case measure => omega
          case rel => exact ⟨k + 1, es', hlt, Nat.le_refl _, by go_num, by rw [HSN.out, h0]; rfl, HT.out.same HNDL.out hlt HKO.out HXX.out h0 HB3.out⟩
      · have hgt : (0 : Int) < (placeS x.smp cut : Nat) := by omega
        have hwr : IntKind.i64.wrap ((G : Int) + (placeS x.smp cut : Nat)) = ((G + placeS x.smp cut : Nat) : Int) := by rw [IntKind.wrap_i64]; omega
        have hvk : ver + manyS (ab es) cut (K.take k) ≤ 1000000 := by have := HMS.out k; omega
        go_region_with (first
          | (go_at_call 30
             refine calls_named ?_
             intro W2 hW2
             have hb2 : Below W1.heap.size W1 W2 := by rw [hW2]; repeat (first | exact Below.refl _ _ | refine balloc ?_ _ | refine Below.drew ?_)
             clear hW2
             refine (nodeTrim1 b.1 x rs rh b.2.2 cut W2 (HN.out.below (bthen HB1.out hb2)) hrs hrh hxv h0).mono ?_
             rintro e w3 ⟨N3, fr, rfl, hn3, hu3⟩
             have hbx : wr.heap.size ∉ mfp x b.2.2 := fun hr => by have := HN.out.lt _ (mfp_sub _ _ _ hr); omega
             have hx3 := upd_cell hu3 ((hb2.block _ (Array.getElem?_eq_some_iff.1 HX1.out).1).trans HX1.out) hbx
             obtain ⟨q1, q2, q3⟩ := box_cells (Below.refl _ _) hx3
             have hbw2 := bthen HB1.out hb2
             have hu30 : Upd wr w3 (mfp b.2.1 b.2.2) fr := by rw [HBX.out]; exact (Upd.of_below hbw2 _).trans hu3
             have hole := HS.out.hole (find_mem HFB.out) hu30
             have HN3 := Lib.hid hn3
             have HU3 := Lib.hid hu30
             have HOL := Lib.hid hole
             clear hb2 hn3 hu3 hbx hx3 hbw2 hu30 hole))
        all_goals
          go_wp2_with (first
            | (go_at_call 28
               refine (keep_any T M c _ es' rs rh ko N3 _ fr w3 HOL.out HN3.out hvk).mono ?_
               rintro e w5 ⟨rfl, h5, hu5⟩
               have HT5 := Lib.hid (HT.out.step HNDL.out hlt HKO.out HXX.out HNK.out HFB.out HBX.out h0 HU3.out h5 hu5)
               clear h5 hu5))
          go_roundg (K.length - (k + 1))
          case measure => omega
          case rel => exact ⟨k + 1, _, hlt, Nat.le_refl _, by go_num, by rw [HSN.out, Int.natCast_add], HT5.out⟩
    · obtain rfl : k = K.length := by omega
      have hT' := hT.upd
      have hat := hT.at_
      have his := hT.is
      rw [List.take_length] at hat his ⊢
      have HF := Lib.hid (show SSays w T M c es rs rh (.int .i64 (goneS (ab es) cut K : Nat)) (ver + manyS (ab es) cut K) (trimK (ab es) cut K) (.returned (.int .i64 (goneS (ab es) cut K : Nat))) wr from ⟨es', rfl, hat, his, hT'⟩)
      clear hT hT' hat his
      go_wp2
      go_ret
      exact HF.out
end

end Go.Proofs.Ytfegielnmdppgaa
