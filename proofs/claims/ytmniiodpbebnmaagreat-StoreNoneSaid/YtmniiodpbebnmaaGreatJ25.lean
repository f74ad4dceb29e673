/- a stripe's Freeze, walked; chapter 18's do, on a live stripe; The plain law of a stripe: one act on both sides. -/
import Derived.Test.YtmniiodpbebnmaaGreatJ23
import Derived.Test.YtmniiodpbebnmaaGreatJ24
namespace Go.Proofs.YtmniiodpbebnmaaGreat

section
set_option linter.unusedSimpArgs false
set_option linter.unusedVariables false
open Go.RowKit Go.Lib Go.Sort
open Go.ChangeMaps (setBlock)

/-- The block of a key's node. -/
def blkOf (es : List (KO × NE)) (q : Ky) : Nat := ((es.find? (fun p => p.1.1 = q)).map (fun p => p.2.1)).getD 0
theorem blk_find {es : List (KO × NE)} {k : KO} {b : NE} (h : findM es k = some b) : blkOf es k.1 = b.1 := by
  unfold blkOf
  have e : (fun p : KO × NE => decide (p.1.1 = k.1)) = (fun p : KO × NE => decide (p.1 = k)) := by
    funext p
    rw [decide_eq_decide]
    exact ⟨fun h => Subtype.ext h, fun h => by rw [h]⟩
  rw [e]
  unfold findM at h
  obtain ⟨q, hq, rfl⟩ := Option.map_eq_some_iff.1 h
  rw [hq]
  rfl

/-- What Freeze says: the entries, in order; the stripe with all its nodes frozen. -/
def FreezeS (w : World) (T M : Nat) (c : Cfg) (ver : Nat) (es : List (KO × NE)) (rs rh : Nat) (e : Ending) (w' : World) : Prop :=
  ∃ A cc, e = .returned (.slice A (risL (kyN es)).length cc) ∧ OwnL enC 246 3 w.heap.size w' (.slice A (risL (kyN es)).length cc) ((risL (kyN es)).map fun q => (q, blkOf es q)) ∧
    SAt w' T M c ver (frzE es (risL (kyN es))) rs rh ∧ Upd w w' (sfp T M es) (sfp T M (frzE es (risL (kyN es))))

def FreezeS2 (w : World) (T M : Nat) (c : Cfg) (ver : Nat) (es : List (KO × NE)) (rs rh : Nat) (K : List Ky) (e : Ending) (w' : World) : Prop :=
  ∃ A cc, e = .returned (.slice A K.length cc) ∧ OwnL enC 246 3 w.heap.size w' (.slice A K.length cc) (K.map fun q => (q, blkOf es q)) ∧
    SAt w' T M c ver (frzE es K) rs rh ∧ Upd w w' (sfp T M es) (sfp T M (frzE es K))
theorem SAt.keptB {w w' : World} {T M : Nat} {c : Cfg} {ver : Nat} {es : List (KO × NE)} {rs rh : Nat} (h : SAt w T M c ver es rs rh) {n : Nat} (hT : T < n) (hM : M < n) (hn : ∀ p ∈ es, ∀ r ∈ p.2.2.2, r < n) (hb : Below n w w') : SAt w' T M c ver es rs rh :=
  ⟨(hb.block T hT).trans h.cell, h.map.block (hb.block M hM), fun p hp => (h.node p hp).kept (fun r hr => hb.block r (hn p hp r hr)), h.pair, h.off, h.ne⟩
theorem Upd.thenB {w a b : World} {fp fq : List Nat} (h : Upd w a fp fq) (hb : Below w.heap.size a b) : Upd w b fp fq :=
  ⟨hb.os.trans h.os, hb.tape.trans h.tape, hb.output.trans h.output, Nat.le_trans h.size hb.size, fun k hk hn => (hb.block k hk).trans (h.block k hk hn), h.fresh⟩
theorem frzE_lt {w : World} {T M : Nat} {c : Cfg} {ver : Nat} {es : List (KO × NE)} {rs rh : Nat} (h : SAt w T M c ver es rs rh) (ks : List Ky) : ∀ p ∈ frzE es ks, ∀ r ∈ p.2.2.2, r < w.heap.size := by
  intro p hp r hr
  obtain ⟨q, hq, rfl⟩ := frzE_mem hp
  exact (h.node q hq).lt r hr

set_option maxRecDepth 100000 in
set_option maxHeartbeats 8000000 in
theorem sfreeze_any (T M : Nat) (c : Cfg) (ver : Nat) (es : List (KO × NE)) (rs rh : Nat) (w : World) (h : SAt w T M c ver es rs rh) (hl : es.length ≤ 1000) :
    Calls Tryz.prog 97 #[.pointer (some ⟨T, 0, none⟩)] w (FreezeS w T M c ver es rs rh) := by
  have hnd : (kyN es).Nodup := kyN_nodup h.map
  have hnod : (es.map (·.1)).Nodup := h.nodup
  obtain ⟨K, hK⟩ : ∃ K, K = risL (kyN es) := ⟨_, rfl⟩
  have hKl : K.length ≤ 1000 := by rw [hK, risL_length hnd]; simp [kyN]; exact hl
  have hk0 := skeys_any T c ver es rs rh _ w h.in_ (by omega)
  unfold FreezeS
  rw [← hK] at hk0 ⊢
  have HK := Lib.hid hk0
  have H := Lib.hid h
  have HKK := Lib.hid hK
  have HND := Lib.hid hnd
  clear h hnd hnod hk0 hK
  go_enter Tryz.func97, Tryz.ntmps97
  go_wp2_with (first
    | (go_at_call 153
       refine HK.out.mono ?_
       rintro e w2 ⟨v, rfl, hrow, hb2⟩
       obtain ⟨A, cc, rfl⟩ := own_form hrow
       have hri : RowIn 2 keyC w2 (.slice A K.length cc) K := RowIn.own (n := 2) (f := keyC) (fun _ => rfl) hrow
       have hblk : ∀ b o m c', (Value.slice A K.length cc) = .slice (some ⟨b, o, none⟩) m c' → 0 < K.length → w.heap.size ≤ b ∧ b < w2.heap.size := fun b o m c' e hn => by
         rcases hrow.2 with ⟨hv', h0⟩ | ⟨g, cap, cur, hv', _⟩
         · omega
         · have hlt := hrow.lt g (by rw [hv']; rfl)
           rw [e] at hv'
           injection hv' with e1 _ _
           injection e1 with e1
           injection e1 with e1
           rw [e1]
           exact hlt
       have HRI := Lib.hid hri
       have HBL := Lib.hid hblk
       have HB2 := Lib.hid hb2
       clear hrow hri hblk hb2))
  go_loopg [3, 9] K.length (fun g s3 s9 wr => ∃ k, k ≤ K.length ∧ K.length - k ≤ g ∧ s9 = .int .i64 (k : Nat) ∧ OwnL enC 246 3 w2.heap.size wr s3 ((K.take k).map fun q => (q, blkOf es q)) ∧ SAt wr T M c ver (frzE es (K.take k)) rs rh ∧ Upd w wr (sfp T M es) (sfp T M (frzE es (K.take k))) ∧ RowIn 2 keyC wr (.slice A K.length cc) K ∧ w2.heap.size ≤ wr.heap.size)
  case atStart =>
    refine ⟨0, Nat.zero_le _, Nat.le_refl _, rfl, OwnL.nil _ _, ?_, ?_, HRI.out, Nat.le_refl _⟩
    · rw [List.take_zero, frzE_nil]; exact H.out.below HB2.out
    · rw [List.take_zero, frzE_nil]; exact Upd.of_below HB2.out _
  case round =>
    obtain ⟨k, hk, hg, rfl, hown, hS, hU, hrow, hsz⟩ := hrel
    by_cases hlt : k < K.length
    · have hm : K[k] ∈ kyN es := by have := HKK.out; subst this; exact mem_risL' _ _ (List.getElem_mem hlt)
      obtain ⟨pp, hp, he⟩ := List.mem_map.1 hm
      obtain ⟨ko, b⟩ := pp
      have hn : K.Nodup := by have := HKK.out; subst this; exact risL_nodup HND.out
      have hnk : K[k] ∉ K.take k := fun hmem => by
        obtain ⟨i, hi⟩ := List.getElem?_of_mem hmem
        have hil : i < k := by
          have := (List.getElem?_eq_some_iff.1 hi).1
          simp at this; omega
        rw [List.getElem?_take_of_lt hil] at hi
        have := nodup_inj hn hi (List.getElem?_eq_getElem hlt)
        omega
      have hfb := find_of_mem H.out.nodup hp
      have hff : findM (frzE es (K.take k)) ko = some b := by
        rw [frzE_find, hfb]
        have : ko.1 ∉ K.take k := by show ko.1 ∉ _; rw [show ko.1 = K[k] from he]; exact hnk
        simp [this]
      have HTK := Lib.hid (show K.take (k + 1) = K.take k ++ [ko.1] by rw [List.take_succ_eq_append_getElem hlt, ← he])
      have HBK := Lib.hid (blk_find hfb)
      obtain ⟨bb, o, rfl, hbw, hc⟩ := hrow.at_ hlt
      have c1 : wr.cell? ⟨bb, o + k * 2, none⟩ = some (.int .u64 K[k].1) := hc 0 _ rfl
      have c2 : wr.cell? ⟨bb, o + k * 2 + 1, none⟩ = some (.int .u64 K[k].2) := hc 1 _ rfl
      rw [← show ko.1 = K[k] from he] at c1 c2
      obtain ⟨A3, c3, rfl⟩ := hown.form
      have hol : ((K.take k).map fun q => (q, blkOf es q)).length = k := by simp; omega
      have HOL := Lib.hid hol
      have HOW := Lib.hid hown
      have HN := Lib.hid (hS.node _ (find_mem hff))
      have HSS := Lib.hid hS
      have HUU := Lib.hid hU
      have HRW := Lib.hid hrow
      have HFF := Lib.hid hff
      have HSZ := Lib.hid hsz
      clear hm hp he hn hnk hfb hff hol hown hS hU hrow hc hsz
      generalize hout : ((K.take k).map fun q => (q, blkOf es q)) = out at *
      have HOUT := Lib.hid hout
      clear hout
      go_wp2_with fail
      refine name_world ?_
      intro W1 hW1
      have hb1 : Below wr.heap.size wr W1 := by rw [hW1]; exact balloc (Below.refl _ _) _
      have hx1 : W1.heap[wr.heap.size]? = some (.cells #[.int .u64 ko.1.1, .int .u64 ko.1.2] 74 (0, 0)) := by rw [hW1]; exact heap_alloc_new _ _
      clear hW1 c1 c2
      have a1 : W1.cell? ⟨wr.heap.size, 0, none⟩ = some (.int .u64 ko.1.1) := by simp [World.cell?, hx1]
      have a2 : W1.cell? ⟨wr.heap.size, 1, none⟩ = some (.int .u64 ko.1.2) := by simp [World.cell?, hx1]
      have h1 := HSS.out.below hb1
      have hltT := h1.ltT
      have z0 : W1.cell? ⟨T, 0, none⟩ = some (.map (some M)) := by simp only [World.cell?, h1.cell]; rfl
      have r4 : (Instr.lookup 230 (.map (some M)) (.agg #[.int .u64 ko.1.1, .int .u64 ko.1.2]) false).run Tryz.prog W1.drew = .ok (.pointer (some ⟨b.1, 0, none⟩)) W1.drew := by
        have := look_es (h1.map.below ((Below.refl _ W1).drew)) ko false
        rw [HFF.out] at this
        exact this
      have HX1 := Lib.hid hx1
      have HB1 := Lib.hid hb1
      clear hx1 hb1 h1
      go_region_law (first
        | (refine step_appendL eEn (by rfl) (.tmp 13) (.tmp 23) (by rfl) w2.heap.size out [(ko.1, b.1)] (.slice A3 out.length c3) _ (by rfl) (by rfl) (HO4.out.below (by repeat (first | exact Below.refl _ _ | refine balloc ?_ _ | refine Below.drew ?_ | refine below_drewN ?_ _))) (RowIn.lit (n := 3) (f := enC) _ (ko.1, b.1) _ _ _ (by first | rfl | simp) rfl) (by have := HOL.out; simp; omega) (by have := HZ4.out; simp; omega) ?_
           intro out6 A6 c6 w6 hout6 hown6 hg6 hblk6
           have hb6 : Below w2.heap.size w4 w6 := ((by repeat (first | exact Below.refl _ _ | refine balloc ?_ _ | refine Below.drew ?_ | refine below_drewN ?_ _) : Below w4.heap.size w4 _).mono HZ4.out).trans (grown_own hg6 HO4.out (by have := HZ4.out; simp; omega))
           have HB6 := Lib.hid hb6
           have HO6 := Lib.hid hown6
           have HE6 := Lib.hid hout6
           clear hout6 hown6 hg6 hblk6 hb6)
        | (go_simp
           go_at_call 165
           refine calls_named ?_
           intro W2 hW2
           have hb2 : Below W1.heap.size W1 W2 := by rw [hW2]; repeat (first | exact Below.refl _ _ | refine balloc ?_ _ | refine Below.drew ?_)
           clear hW2
           have hbw2 := bthen HB1.out hb2
           refine (nodeFreeze_any b.1 b.2.1 rs rh b.2.2 W2 (HN.out.below hbw2)).mono ?_
           rintro e w4 ⟨rfl, hn4, hu4⟩
           have hsz := HSZ.out
           have hfl : ∀ r ∈ mfp b.2.1 b.2.2, r < w.heap.size := fun r hr => frzE_lt H.out _ _ (find_mem HFF.out) r (mfp_sub _ _ r hr)
           have hx4 := upd_cell hu4 ((hb2.block _ (Array.getElem?_eq_some_iff.1 HX1.out).1).trans HX1.out) (fun hr => by have := hfl _ hr; have := HB2.out.size; omega)
           obtain ⟨q1, q2, q3⟩ := box_cells (Below.refl _ _) hx4
           have hu0 : Upd wr w4 (mfp b.2.1 b.2.2) [] := (Upd.of_below hbw2 _).trans hu4
           have hfz := HSS.out.freeze HFF.out hn4 hu0
           have HO4 := Lib.hid (HOW.out.kept (fun r hr => hu0.block r (HOW.out.lt hr).2 (fun hk => by have := hfl r hk; have := (HOW.out.lt hr).1; have := HB2.out.size; omega)))
           have HR4 := Lib.hid (HRW.out.keepB hu0.size (fun b' o' m' c' e hn => hu0.block b' (by injection e with e1 _ _; injection e1 with e1; injection e1 with e1; omega) (fun hk => by
             have h1 := hfl b' hk
             have h2 := (HBL.out b' o' m' c' e hn).1
             omega)))
           have HZ4 := Lib.hid (show w2.heap.size ≤ w4.heap.size from Nat.le_trans hsz hu0.size)
           have HS4 := Lib.hid hfz.1
           have HU4 := Lib.hid (HUU.out.trans hfz.2)
           clear hb2 hbw2 hn4 hu4 hx4 hu0 hfz hfl hsz))
      all_goals
        have hw := HB2.out.size
        have H3 : Hid (OwnL enC 246 3 w2.heap.size w6 (.slice A6 out6.length c6) (out ++ [(ko.1, b.1)])) := Lib.hid (by rw [← HE6.out]; exact HO6.out)
        have H4 := Lib.hid (HS4.out.keptB (n := w2.heap.size) (Nat.lt_of_lt_of_le H.out.ltT hw) (Nat.lt_of_lt_of_le H.out.map.lt hw) (fun p hp r hr => Nat.lt_of_lt_of_le (frzE_lt H.out _ p hp r hr) hw) HB6.out)
        have H5 := Lib.hid (HU4.out.thenB (HB6.out.mono hw))
        have H6 := Lib.hid (HR4.out.keepB HB6.out.size (fun b' o' m' c' e hn => HB6.out.block b' (HBL.out b' o' m' c' e hn).2))
        have H7 := Lib.hid (Nat.le_trans HZ4.out HB6.out.size)
        clear hw
        go_wp2
        go_roundg (K.length - (k + 1))
        case measure => omega
        case rel =>
          refine ⟨k + 1, hlt, Nat.le_refl _, by go_num, ?_, ?_, ?_, H6.out, H7.out⟩
          · rw [HTK.out, List.map_append, HOUT.out, List.map_cons, List.map_nil, HBK.out]
            exact H3.out
          · rw [HTK.out]; exact H4.out
          · rw [HTK.out]; exact H5.out
    · obtain rfl : k = K.length := by omega
      obtain ⟨A3, c3, rfl⟩ := hown.form
      rw [List.take_length] at hown hS hU
      have HOW := Lib.hid hown
      have HSS := Lib.hid hS
      have HUU := Lib.hid hU
      clear hown hS hU hrow
      have hf : FreezeS2 w T M c ver es rs rh K (.returned (.slice A3 (((K.take K.length).map fun q => (q, blkOf es q))).length c3)) wr := by
        have h9 := HOW.out.lower HB2.out.size
        rw [show ((K.take K.length).map fun q => (q, blkOf es q)).length = K.length by simp]
        rw [show (K.map fun q => (q, blkOf es q)).length = K.length by simp] at h9
        exact ⟨A3, c3, rfl, by simpa using h9, HSS.out, HUU.out⟩
      have HF := Lib.hid hf
      clear hf
      go_wp2
      go_ret
      exact HF.out
end

section
set_option linter.unusedSimpArgs false
set_option linter.unusedVariables false
open Go.RowKit Go.Lib Go.Sort

structure DoR where
  err : Int
  gone : Nat
  ver : Nat
  has : List (KO × Nd)
/-- What an act comes to. -/
def doS (c : Cfg) (rs rh ver : Nat) (S : List (KO × Nd)) (k : KO) (a : Act17) : DoR :=
  if a.kind = 0 then (if serE a.smp.1 a.smp.2 = 0 then (if hasM S k = false ∧ c.lo ≤ (S.length : Nat) then ⟨6, 0, ver, S⟩ else ⟨0, 0, ver + 1, putM S k { bump (ndOf S k) with smp := putS (ndOf S k).smp (rs : Nat) a.smp }⟩) else ⟨serE a.smp.1 a.smp.2, 0, ver, S⟩)
  else if a.kind = 1 then ⟨0, goneS S a.smp.1 (risL (keysS S)), ver + manyS S a.smp.1 (risL (keysS S)), trimK S a.smp.1 (risL (keysS S))⟩
  else if a.kind = 2 then (if polB a.pol = true then (if hasM S k = false ∧ c.lo ≤ (S.length : Nat) then ⟨6, 0, ver, S⟩ else ⟨0, 0, ver + 1, putM S k { bump (ndOf S k) with pol := a.pol, ruled := true }⟩) else ⟨7, 0, ver, S⟩)
  else if a.kind = 3 then (if hasM S k = true then ⟨0, 0, ver + 1, putM S k { bump (ndOf S k) with past := pushL (ndOf S k).past rh a.adv }⟩ else ⟨5, 0, ver, S⟩)
  else ⟨0, 0, ver, S.map fun p => (p.1, if p.1.1 ∈ risL (keysS S) then frz p.2 else p.2)⟩
theorem kyN_keysS (es : List (KO × NE)) : kyN es = keysS (ab es) := by simp [kyN, keysS, ab, List.map_map, Function.comp_def]
theorem Old.frz (n : Nat) (es : List (KO × NE)) (K : List Ky) : Old n es (frzE es K) := fun p hp r hr => by
  obtain ⟨q, hq, rfl⟩ := frzE_mem hp
  exact .inr ⟨q, hq, hr⟩
/-- What a stripe must be that acts are done to it. -/
structure SOk (c : Cfg) (rs rh ver : Nat) (S : List (KO × Nd)) : Prop where
  cfg : cfgB c = true
  sa : c.sa = (rs : Nat)
  hi : c.hi = (rh : Nat)
  ok : c.ok
  len : S.length ≤ 1000
  ver_ : ver ≤ 900000
  vers : ∀ p ∈ S, p.2.ver ≤ 1000000
theorem SOk.room {c : Cfg} {rs rh ver : Nat} {S : List (KO × Nd)} (h : SOk c rs rh ver S) : rs ≤ 256 ∧ rh ≤ 64 := by
  have hc := h.cfg
  have h1 := h.sa
  have h2 := h.hi
  unfold cfgB at hc
  simp only [Bool.and_eq_true, decide_eq_true_eq] at hc
  omega

theorem none_of_has {es : List (KO × NE)} {k : KO} (h : hasM es k = false) : findM es k = none := findM_none h
theorem ingest_all (T M : Nat) (c : Cfg) (ver : Nat) (es : List (KO × NE)) (rs rh : Nat) (k : KO) (a : Act17) (w : World) (h : SAt w T M c ver es rs rh) (ho : SOk c rs rh ver (ab es)) (h0 : a.kind = 0) :
    Calls Tryz.prog 82 #[.pointer (some ⟨T, 0, none⟩), .agg #[.int .u64 k.1.1, .int .u64 k.1.2], .int .i64 a.smp.1, .int .i64 a.smp.2] w (SSays w T M c es rs rh (.int .i64 (doS c rs rh ver (ab es) k a).err) (doS c rs rh ver (ab es) k a).ver (doS c rs rh ver (ab es) k a).has) := by
  unfold doS
  rw [if_pos h0]
  by_cases hs : serE a.smp.1 a.smp.2 = 0
  · rw [if_pos hs]
    by_cases hf : hasM (ab es) k = false ∧ c.lo ≤ ((ab es).length : Nat)
    · rw [if_pos hf]
      refine singest_full T M c ver es rs rh k a.smp w h hs ?_ (by rw [← ab_len]; exact hf.2)
      have := none_of_has (by rw [← ab_has]; exact hf.1 : hasM es k = false)
      exact this
    · rw [if_neg hf]
      exact singest_ok T M c ver es rs rh k a.smp w h hs (fun hh => hf ⟨by rw [ab_has]; exact hh.1, by rw [ab_len]; exact hh.2⟩) ho.cfg ho.sa ho.hi ho.ok (by have := ho.ver_; omega) ho.vers
  · rw [if_neg hs]
    exact singest_bad T M c ver es rs rh k a.smp w h hs
theorem set_all (T M : Nat) (c : Cfg) (ver : Nat) (es : List (KO × NE)) (rs rh : Nat) (k : KO) (a : Act17) (w : World) (h : SAt w T M c ver es rs rh) (ho : SOk c rs rh ver (ab es)) (h0 : a.kind = 2) :
    Calls Tryz.prog 86 #[.pointer (some ⟨T, 0, none⟩), .agg #[.int .u64 k.1.1, .int .u64 k.1.2], polV a.pol] w (SSays w T M c es rs rh (.int .i64 (doS c rs rh ver (ab es) k a).err) (doS c rs rh ver (ab es) k a).ver (doS c rs rh ver (ab es) k a).has) := by
  unfold doS
  rw [if_neg (by omega), if_neg (by omega), if_pos h0]
  cases hs : polB a.pol with
  | true =>
    rw [if_pos rfl]
    by_cases hf : hasM (ab es) k = false ∧ c.lo ≤ ((ab es).length : Nat)
    · rw [if_pos hf]
      exact sset_full T M c ver es rs rh k a.pol w h hs (none_of_has (by rw [← ab_has]; exact hf.1)) (by rw [← ab_len]; exact hf.2)
    · rw [if_neg hf]
      exact sset_ok T M c ver es rs rh k a.pol w h hs (fun hh => hf ⟨by rw [ab_has]; exact hh.1, by rw [ab_len]; exact hh.2⟩) ho.cfg ho.sa ho.hi ho.ok (by have := ho.ver_; omega) ho.vers
  | false =>
    rw [if_neg (by simp)]
    exact sset_bad T M c ver es rs rh k a.pol w h hs
end

section
set_option linter.unusedSimpArgs false
set_option linter.unusedVariables false
open Go.RowKit Go.Lib Go.Sort

/-- What the reference's Do comes to: the items, an error, a number, the version's rise. -/
def do18 (c : Cfg) (rs rh : Nat) (l : List It) (k : Ky) (a : Act17) : List (Ky × Nd) × Int × Int × Int :=
  if a.kind = 1 then (l.map fun x => (x.key, trimR a.smp.1 x.nd), 0, (goneI l a.smp.1 : Nat), (manyI l a.smp.1 : Nat))
  else if a.kind < 0 ∨ 3 < a.kind then (l.map absI, 0, 0, 0)
  else ((one18 c rs rh l k a).1, (one18 c rs rh l k a).2.1, 0, (one18 c rs rh l k a).2.2)

theorem do18_one {c : Cfg} {rs rh : Nat} {l : List It} {k : Ky} {a : Act17} (h1 : a.kind ≠ 1) (h0 : ¬ (a.kind < 0 ∨ 3 < a.kind)) : do18 c rs rh l k a = ((one18 c rs rh l k a).1, (one18 c rs rh l k a).2.1, 0, (one18 c rs rh l k a).2.2) := by
  unfold do18
  rw [if_neg h1, if_neg h0]
theorem one18_bad {c : Cfg} {rs rh : Nat} {l : List It} {k : Ky} {a : Act17} {y : Nd} {e n : Int} (h : do17 rs rh (getL l k).nd a = (y, e, n)) (he : e ≠ 0) : one18 c rs rh l k a = (l.map absI, e, 0) := by
  unfold one18
  simp only [h]
  rw [if_pos he]
theorem one18_ok {c : Cfg} {rs rh : Nat} {l : List It} {k : Ky} {a : Act17} {y : Nd} {n : Int} (h : do17 rs rh (getL l k).nd a = (y, 0, n)) (h3 : a.kind ≠ 3) : one18 c rs rh l k a = if hasI l k = false ∧ c.lo ≤ (l.length : Nat) then (l.map absI, 6, 0) else (outI l k y, 0, 1) := by
  unfold one18
  simp only [h]
  rw [if_neg (by simp), if_neg (fun hh => h3 hh.2)]
theorem one18_note {c : Cfg} {rs rh : Nat} {l : List It} {k : Ky} {a : Act17} {y : Nd} {n : Int} (h : do17 rs rh (getL l k).nd a = (y, 0, n)) (h3 : a.kind = 3) : one18 c rs rh l k a = if hasI l k = true then (outI l k y, 0, 1) else (l.map absI, 5, 0) := by
  unfold one18
  simp only [h]
  rw [if_neg (by simp)]
  cases hh : hasI l k with
  | true => simp
  | false => simp [h3]

/-- What the two sides' answers to an act are. -/
def Same18 (ver : Nat) (r : DoR) (t : List (Ky × Nd) × Int × Int × Int) : Prop :=
  Tells18 r.has t.1 ∧ r.err = t.2.1 ∧ ((r.gone : Nat) : Int) = t.2.2.1 ∧ ((r.ver : Nat) : Int) = (ver : Int) + t.2.2.2
/-- One act on both sides: what they have tells the same, and so do their answers. -/
theorem tells_act {S : List (KO × Nd)} {l : List It} (h : Tells18 S (l.map absI)) (c : Cfg) (rs rh ver : Nat) (k : KO) (a : Act17) :
    Same18 ver (doS c rs rh ver S k a) (do18 c rs rh l k.1 a) := by
  have hhas := h.has k
  have hlen : S.length = l.length := by have := h.len; simpa using this
  obtain ⟨g1, g2, g3, g4⟩ := h.get k
  by_cases h1 : a.kind = 1
  · have e1 : doS c rs rh ver S k a = ⟨0, goneS S a.smp.1 (risL (keysS S)), ver + manyS S a.smp.1 (risL (keysS S)), trimK S a.smp.1 (risL (keysS S))⟩ := by unfold doS; rw [if_neg (by omega), if_pos h1]
    have e2 : do18 c rs rh l k.1 a = (l.map fun x => (x.key, trimR a.smp.1 x.nd), 0, ((goneI l a.smp.1 : Nat) : Int), ((manyI l a.smp.1 : Nat) : Int)) := by unfold do18; rw [if_pos h1]
    rw [e1, e2]
    have ht := h.trim a.smp.1 (K := risL (keysS S)) (fun q hq => (mem_risL _ q).2 hq)
    have hg := tells_gone h a.smp.1
    have e : (l.map absI).map (fun p => (p.1, trimR a.smp.1 p.2)) = l.map fun x => (x.key, trimR a.smp.1 x.nd) := by rw [List.map_map]; rfl
    rw [e] at ht
    exact ⟨ht, rfl, by simp only [hg.1], by simp only [hg.2]; omega⟩
  by_cases hx : a.kind < 0 ∨ 3 < a.kind
  · have e1 : doS c rs rh ver S k a = ⟨0, 0, ver, S.map fun p => (p.1, if p.1.1 ∈ risL (keysS S) then frz p.2 else p.2)⟩ := by unfold doS; rw [if_neg (by omega), if_neg h1, if_neg (by omega), if_neg (by omega)]
    have e2 : do18 c rs rh l k.1 a = (l.map absI, 0, 0, 0) := by unfold do18; rw [if_neg h1, if_pos hx]
    rw [e1, e2]
    exact ⟨tells_frz h _, rfl, rfl, by simp⟩
  rw [do18_one h1 hx]
  by_cases h0 : a.kind = 0
  · by_cases hs : serE a.smp.1 a.smp.2 = 0
    · have e17 : do17 rs rh (getL l k.1).nd a = ({ (getL l k.1).nd with smp := putS (getL l k.1).nd.smp (rs : Nat) a.smp, ver := (getL l k.1).nd.ver + 1 }, 0, ((getL l k.1).nd.smp.length : Int) - ((putS (getL l k.1).nd.smp (rs : Nat) a.smp).length : Int)) := by unfold do17; rw [if_pos h0, if_pos hs]
      have e1 : doS c rs rh ver S k a = if hasM S k = false ∧ c.lo ≤ (S.length : Nat) then ⟨6, 0, ver, S⟩ else ⟨0, 0, ver + 1, putM S k { bump (ndOf S k) with smp := putS (ndOf S k).smp (rs : Nat) a.smp }⟩ := by unfold doS; rw [if_pos h0, if_pos hs]
      rw [e1, one18_ok e17 (by omega), hhas, hlen]
      by_cases hf : hasI l k.1 = false ∧ c.lo ≤ (l.length : Nat)
      · rw [if_pos hf, if_pos hf]
        exact ⟨h, rfl, rfl, by simp⟩
      · rw [if_neg hf, if_neg hf]
        exact ⟨h.put k ⟨by simp only [g1], by simp only [bump, g2], by simp only [bump, g3], by simp only [bump, g4]⟩, rfl, rfl, by simp⟩
    · have e17 : do17 rs rh (getL l k.1).nd a = ((getL l k.1).nd, serE a.smp.1 a.smp.2, 0) := by unfold do17; rw [if_pos h0, if_neg hs]
      have e1 : doS c rs rh ver S k a = ⟨serE a.smp.1 a.smp.2, 0, ver, S⟩ := by unfold doS; rw [if_pos h0, if_neg hs]
      rw [e1, one18_bad e17 hs]
      exact ⟨h, rfl, rfl, by simp⟩
  by_cases h2 : a.kind = 2
  · cases hp : polB a.pol with
    | true =>
      have e17 : do17 rs rh (getL l k.1).nd a = ({ (getL l k.1).nd with pol := a.pol, ruled := true, ver := (getL l k.1).nd.ver + 1 }, 0, 0) := by unfold do17; rw [if_neg h0, if_neg h1, if_pos h2, if_pos hp]
      have e1 : doS c rs rh ver S k a = if hasM S k = false ∧ c.lo ≤ (S.length : Nat) then ⟨6, 0, ver, S⟩ else ⟨0, 0, ver + 1, putM S k { bump (ndOf S k) with pol := a.pol, ruled := true }⟩ := by unfold doS; rw [if_neg h0, if_neg h1, if_pos h2, if_pos hp]
      rw [e1, one18_ok e17 (by omega), hhas, hlen]
      by_cases hf : hasI l k.1 = false ∧ c.lo ≤ (l.length : Nat)
      · rw [if_pos hf, if_pos hf]
        exact ⟨h, rfl, rfl, by simp⟩
      · rw [if_neg hf, if_neg hf]
        exact ⟨h.put k ⟨by simp only [bump, g1], by simp only [bump, g2], rfl, rfl⟩, rfl, rfl, by simp⟩
    | false =>
      have e17 : do17 rs rh (getL l k.1).nd a = ((getL l k.1).nd, 7, 0) := by unfold do17; rw [if_neg h0, if_neg h1, if_pos h2, if_neg (by rw [hp]; simp)]
      have e1 : doS c rs rh ver S k a = ⟨7, 0, ver, S⟩ := by unfold doS; rw [if_neg h0, if_neg h1, if_pos h2, if_neg (by rw [hp]; simp)]
      rw [e1, one18_bad e17 (by decide)]
      exact ⟨h, rfl, rfl, by simp⟩
  have h3 : a.kind = 3 := by omega
  have e17 : do17 rs rh (getL l k.1).nd a = ({ (getL l k.1).nd with past := pushL (getL l k.1).nd.past rh a.adv, ver := (getL l k.1).nd.ver + 1 }, 0, 0) := by unfold do17; rw [if_neg h0, if_neg h1, if_neg h2, if_pos h3]
  have e1 : doS c rs rh ver S k a = if hasM S k = true then ⟨0, 0, ver + 1, putM S k { bump (ndOf S k) with past := pushL (ndOf S k).past rh a.adv }⟩ else ⟨5, 0, ver, S⟩ := by unfold doS; rw [if_neg h0, if_neg h1, if_neg h2, if_pos h3]
  rw [e1, one18_note e17 h3, hhas]
  cases hh : hasI l k.1 with
  | true =>
    rw [if_pos rfl, if_pos rfl]
    exact ⟨h.put k ⟨by simp only [bump, g1], by simp only [g2], by simp only [bump, g3], by simp only [bump, g4]⟩, rfl, rfl, by simp⟩
  | false =>
    rw [if_neg (by simp), if_neg (by simp)]
    exact ⟨h, rfl, rfl, by simp⟩
end

end Go.Proofs.YtmniiodpbebnmaaGreat
