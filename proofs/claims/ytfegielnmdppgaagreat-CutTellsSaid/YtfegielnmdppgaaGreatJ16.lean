/- The reference's Rising, walked. -/
import Derived.Test.YtfegielnmdppgaaGreatJ02
import Derived.Laws.AppendOwnNone
namespace Go.Proofs.YtfegielnmdppgaaGreat

section
set_option linter.unusedSimpArgs false
set_option linter.unusedVariables false
open Go.RowKit Go.Lib

theorem ins_at (x : Ky) : ∀ (out : List Ky) (a : Nat), a ≤ out.length → (∀ j (h : j < out.length), j < a → ltK out[j] x = true) → (∀ h : a < out.length, ltK out[a] x = false) →
    insK x out = if h : a < out.length then (if out[a] = x then out else out.take a ++ (x :: out.drop a)) else out ++ [x]
  | [], a, ha, _, _ => by simp [insK]
  | b :: out, 0, _, _, h0 => by
    have := h0 (by simp)
    simp only [List.getElem_cons_zero] at this
    rw [insK, this]
    simp
  | b :: out, a + 1, ha, h1, h0 => by
    have hb := h1 0 (by simp) (by omega)
    simp only [List.getElem_cons_zero] at hb
    have ih := ins_at x out a (by simpa using ha) (fun j h hj => by have := h1 (j + 1) (by simpa using h) (by omega); simpa using this) (fun h => by have := h0 (by simpa using h); simpa using this)
    rw [insK, if_pos hb, ih]
    by_cases h : a < out.length
    · rw [dif_pos h, dif_pos (by simpa using h)]
      simp only [List.getElem_cons_succ]
      split
      · rfl
      · simp
    · rw [dif_neg h, dif_neg (by simpa using h)]
      simp

theorem risL_succ (l : List Ky) (k : Nat) (h : k < l.length) : risL (l.take (k + 1)) = insK l[k] (risL (l.take k)) := by
  unfold risL
  rw [List.take_succ_eq_append_getElem h, List.foldl_append]
  rfl

def OwnsKeys (w : World) (l : List Ky) (e : Ending) (w' : World) : Prop := ∃ v', e = .returned v' ∧ w'.ownsRow w.heap.size 40 2 v' l.length (cellsK l) ∧ Below w.heap.size w w'

/-- A part of an own row, read at an address in it. -/
theorem own_part {w : World} {base : Nat} {T : TypeId} {g n cap : Nat} {l : List Ky} (h : w.ownsRow base T 2 (.slice (some ⟨g, 0, none⟩) n cap) n (cellsK l)) (a : Nat) :
    ∀ j u, (cellsK (l.drop a))[j]? = some u → w.cell? ((⟨g, a * 2, none⟩ : Addr).add j) = some u := by
  intro j u hu
  have hl : l.length = n := by have := h.1; rw [cellsK_len] at this; omega
  rw [show (Addr.mk g (a * 2) none).add j = ⟨g, a * 2 + j, none⟩ from by unfold Addr.add; split <;> simp_all]
  have hj := (List.getElem?_eq_some_iff.1 hu).1
  rw [cellsK_len, List.length_drop] at hj
  rw [h.cellAt (a * 2 + j) (by omega), ← hu, ← cellsK_drop, List.getElem?_drop]
theorem own_head {w : World} {base : Nat} {T : TypeId} {g n cap : Nat} {l : List Ky} (h : w.ownsRow base T 2 (.slice (some ⟨g, 0, none⟩) n cap) n (cellsK l)) (a : Nat) :
    ∀ j u, (cellsK (l.take a))[j]? = some u → w.cell? ((⟨g, 0, none⟩ : Addr).add j) = some u := by
  intro j u hu
  have hl : l.length = n := by have := h.1; rw [cellsK_len] at this; omega
  rw [show (Addr.mk g 0 none).add j = ⟨g, j, none⟩ from by unfold Addr.add; split <;> simp_all]
  have hj := (List.getElem?_eq_some_iff.1 hu).1
  rw [cellsK_len, List.length_take] at hj
  rw [h.cellAt j (by omega), ← hu, ← cellsK_take, List.getElem?_take, if_pos (by omega)]

theorem keepS {wo a b : World} {n : Nat} {S : World → Prop} {p q r t : Prop} (H : ∀ W, Below wo.heap.size wo W → S W) (h : p ∧ q ∧ r ∧ t ∧ Below wo.heap.size wo a) (k : Below n a b) (e : n = a.heap.size) : S b := by
  subst e
  exact H b (bthen h.2.2.2.2 k)

theorem own_fin {w : World} {base a : Nat} {T : TypeId} {v : Value} {x : Ky} {out : List Ky} (ha : a ≤ out.length) (h : w.ownsRow base T 2 v (0 + a + 1 + (out.length - a)) ((([] ++ cellsK (out.take a)) ++ cellsK [x]) ++ cellsK (out.drop a))) :
    w.ownsRow base T 2 v (out.take a ++ (x :: out.drop a)).length (cellsK (out.take a ++ (x :: out.drop a))) := by
  have e1 : (out.take a ++ (x :: out.drop a)).length = 0 + a + 1 + (out.length - a) := by simp; omega
  have e2 : cellsK (out.take a ++ (x :: out.drop a)) = (([] ++ cellsK (out.take a)) ++ cellsK [x]) ++ cellsK (out.drop a) := by
    rw [cellsK_append, cellsK_cons]; simp [cellsK]
  rw [e1, e2]
  exact h

theorem own_fin0 {w : World} {base a : Nat} {T : TypeId} {v : Value} {x : Ky} {out : List Ky} (ha : a = out.length) (h : w.ownsRow base T 2 v (0 + a + 1 + 0) ((([] ++ cellsK (out.take a)) ++ cellsK [x]) ++ [])) :
    w.ownsRow base T 2 v (out.take a ++ (x :: out.drop a)).length (cellsK (out.take a ++ (x :: out.drop a))) := by
  refine own_fin (by omega) ?_
  rw [ha, Nat.sub_self, List.drop_length]
  rw [ha] at h
  exact h

/-- The literal of one key. -/
theorem key_new (w : World) (x : Ky) (T : TypeId) (H : Nat) (hH : w.heap.size = H) : ∀ j u, (cellsK [x])[j]? = some u → (w.alloc (.cells #[.int .u64 x.1, .int .u64 x.2] T)).cell? ((⟨H, 0, none⟩ : Addr).add j) = some u := by
  subst hH
  intro j u hu
  rw [show (Addr.mk w.heap.size 0 none).add j = ⟨w.heap.size, j, none⟩ from by unfold Addr.add; split <;> simp_all]
  rw [(startA w _ T).1 j, ← hu]
  simp [cellsK]

set_option maxRecDepth 1000000 in
set_option maxHeartbeats 4000000 in
theorem refRising_any (v : Value) (l : List Ky) (w : World) (hv : KeysIn w v l) (hok : ∀ p ∈ l, p.ok) (hl : l.length ≤ 1000000) :
    Calls Tryz.prog 78 #[v] w (OwnsKeys w (risL l)) := by
  obtain ⟨i0, hi0, hz0, hz1, hz2⟩ := info_parts key_info
  obtain ⟨A, c, rfl, _⟩ := id hv
  have HV := Lib.hid hv
  have HK := Lib.hid hok
  clear hv hok
  go_enter Tryz.func78, Tryz.ntmps78
  go_wp2
  go_loopg [3, 4] l.length (fun g s3 s4 wr => ∃ k : Nat, k ≤ l.length ∧ l.length - k ≤ g ∧ s4 = .int .i64 k ∧ wr.ownsRow w.heap.size 40 2 s3 (risL (l.take k)).length (cellsK (risL (l.take k))) ∧ Below w.heap.size w wr)
  case atStart => exact ⟨0, Nat.zero_le _, Nat.le_refl _, rfl, ⟨rfl, .inl ⟨rfl, rfl⟩⟩, Below.refl _ _⟩
  case round =>
    obtain ⟨k, hk, hg, rfl, hown, hbel⟩ := hrel
    obtain ⟨wo, rfl⟩ : ∃ wo : World, wo = wr := ⟨_, rfl⟩
    by_cases hlt : k < l.length
    · obtain ⟨b, o, rfl, hb, c1, c2⟩ := HV.out.at_ hlt
      have hx := Lib.hid (risL_succ l k hlt)
      have hxok : (l[k]).ok := HK.out _ (List.getElem_mem hlt)
      have hn : (risL (l.take k)).length ≤ 1000000 := by have := len_risL (l.take k); rw [List.length_take] at this; omega
      have hmo : ∀ p ∈ risL (l.take k), p ∈ l := fun p hp => List.mem_of_mem_take ((mem_risL _ p).1 hp)
      have hme : l.length - (k + 1) < l.length - k := by omega
      generalize l[k] = x at c1 c2 hx hxok
      generalize risL (l.take k) = out at hown hx hn hmo
      have hcx : ∀ W, Below w.heap.size w W → W.cell? ⟨b, o + k * 2, none⟩ = some (.int .u64 x.1) ∧ W.cell? ⟨b, o + k * 2 + 1, none⟩ = some (.int .u64 x.2) :=
        fun W hW => ⟨(hW.cell (p := ⟨b, _, none⟩) hb).trans c1, (hW.cell (p := ⟨b, _, none⟩) hb).trans c2⟩
      have HCX := Lib.hid hcx
      clear hcx c1 c2
      rcases Go.Joins.ownsRow_forms hown with ⟨rfl, h0⟩ | ⟨g2, cap2, rfl⟩
      · obtain rfl : out = [] := List.eq_nil_of_length_eq_zero h0
        clear hown h0
        go_wp2
        go_loopg [5] 0 (fun g s5 wr => s5 = .int .i64 0 ∧ wr = wo)
        case atStart => exact ⟨rfl, rfl⟩
        case round =>
          obtain ⟨rfl, rfl⟩ := hrel
          go_wp2_with fail
          go_quiet (fail)
          obtain ⟨w1, hw1⟩ : ∃ w1 : World, w1 = wr.drewN nq := ⟨_, rfl⟩
          rw [← hw1]
          have hb1 : Below wr.heap.size wr w1 := by rw [hw1]; exact below_drewN (Below.refl _ _) _
          clear hw1
          go_wp2_with fail
          go_quiet (fail)
          obtain ⟨w2, hw2⟩ : ∃ w2 : World, w2 = w1.drewN nq := ⟨_, rfl⟩
          rw [← hw2]
          have hb2 : Below wr.heap.size wr w2 := by rw [hw2]; exact below_drewN hb1 _
          clear hw2
          obtain ⟨d1, d2⟩ := HCX.out (w2.alloc (.cells #[] 40)) (bthen hbel (balloc hb2 _))
          obtain ⟨d3, d4⟩ := HCX.out w2 (bthen hbel hb2)
          have hbw2 : b < w2.heap.size := by have := hbel.size; have := hb2.size; omega
          have hm := World.ownsRow_made (base := w2.heap.size) (e := 40) (size := 2) w2 #[] 0 (Nat.le_refl _) (Nat.zero_le _) (by simp)
          go_wp2_with (first
            | (at_builtin; refine wpList_append_own_none rfl (.tmp 45) (.tmp 48) 70 rfl w2.heap.size 40 i0 2 Tryz.underlying70 hi0 _ 0 [] rfl hm rfl ?_)
            | (at_builtin; refine wpList_append_own _ rfl (.tmp 50) (.tmp 55) 70 rfl w2.heap.size 40 i0 _ 2 16 Tryz.underlying70 hi0 hz0 hz1 hz2 rfl (by decide) _ 0 [] rfl (hm.alloc _) ⟨_, 0, none⟩ 1 1 (cellsK [x]) rfl rfl (key_new _ x _ _ (by simp)) (cellsK_one [x]) (by simp [maxLen]) (by omega) (by simp; omega) ?_; intro v7 w7 hown7 hgrow7 _)
            | (at_builtin; refine wpList_append_own_none rfl (.tmp 57) (.tmp 60) 70 rfl w2.heap.size 40 i0 2 Tryz.underlying70 hi0 v7 _ _ rfl hown7 rfl ?_))
          have hfin := hx.out
          have hb7 : Below wr.heap.size wr w7 := (balloc (balloc hb2 _) _).grown hgrow7 (by have := hb2.size; simp; omega) (fun k hk => by have hk' : some w2.heap.size = some k := hk; injection hk'; have := hb2.size; omega)
          go_roundg (l.length - (k + 1))
          case measure => omega
          case rel =>
            refine ⟨k + 1, hlt, Nat.le_refl _, by go_num, ?_, bthen hbel hb7⟩
            rw [hfin]
            exact own_lower hown7 (by have := hbel.size; have := hb2.size; omega)
      · have hlt2 := hown.lt g2 rfl
        have hcapn : out.length ≤ cap2 := by
          rcases hown.2 with ⟨hv, _⟩ | ⟨g', cap', cur, hv, _, _, hc', _⟩
          · cases hv
          · injection hv with _ _ e3
            omega
        have hco : ∀ W, Below wo.heap.size wo W → ∀ a (h : a < out.length), W.cell? ⟨g2, a * 2, none⟩ = some (.int .u64 (out[a]).1) ∧ W.cell? ⟨g2, a * 2 + 1, none⟩ = some (.int .u64 (out[a]).2) := by
          intro W hW a ha
          obtain ⟨h1, h2⟩ := cellsK_at out a out[a] (List.getElem?_eq_getElem ha)
          have hO := own_below hown hW
          exact ⟨(hO.cellAt _ (by omega)).trans h1, (hO.cellAt _ (by omega)).trans h2⟩
        have HCO := Lib.hid hco
        have HOW := Lib.hid hown
        have hokO : ∀ p ∈ out, p.ok := fun p hp => HK.out p (hmo p hp)
        have HOK := Lib.hid hokO
        clear hmo
        clear hco hown hokO
        go_wp2
        go_loopg [5] out.length (fun g s5 wr => ∃ a : Nat, a ≤ out.length ∧ out.length - a ≤ g ∧ s5 = .int .i64 a ∧ (∀ j (h : j < out.length), j < a → ltK out[j] x = true) ∧ Below wo.heap.size wo wr)
        case atStart => exact ⟨0, Nat.zero_le _, Nat.le_refl _, rfl, fun j h hj => absurd hj (by omega), Below.refl _ _⟩
        case round =>
          obtain ⟨a, ha, hga, rfl, hless, hbi⟩ := hrel
          have HL := Lib.hid hless
          clear hless
          by_cases hal : a < out.length
          · have hyok : (out[a]).ok := HOK.out _ (List.getElem_mem hal)
            have HY := Lib.hid (show ∃ y, y = out[a] from ⟨_, rfl⟩)
            obtain ⟨y, hy⟩ := HY.out
            have HYe := Lib.hid hy
            have HSB := Lib.hid (show ∀ W, Below wo.heap.size wo W → (W.cell? ⟨b, o + k * 2, none⟩ = some (.int .u64 x.1) ∧ W.cell? ⟨b, o + k * 2 + 1, none⟩ = some (.int .u64 x.2) ∧ W.cell? ⟨g2, a * 2, none⟩ = some (.int .u64 y.1) ∧ W.cell? ⟨g2, a * 2 + 1, none⟩ = some (.int .u64 y.2) ∧ Below wo.heap.size wo W) from fun W hW => by
              obtain ⟨h1, h2⟩ := HCX.out W (bthen hbel hW)
              obtain ⟨h3, h4⟩ := HCO.out W hW a hal
              rw [hy]
              exact ⟨h1, h2, h3, h4, hW⟩)
            rw [← hy] at hyok
            clear hy
            have HS0 := HSB.out _ hbi.drew
            cases hly : ltK y x with
            | true =>
              have Hly := Lib.hid hly
              clear hly
              go_wp2_with fail
              go_region_held3 (fun w' => w'.cell? ⟨b, o + k * 2, none⟩ = some (.int .u64 x.1) ∧ w'.cell? ⟨b, o + k * 2 + 1, none⟩ = some (.int .u64 x.2) ∧ w'.cell? ⟨g2, a * 2, none⟩ = some (.int .u64 y.1) ∧ w'.cell? ⟨g2, a * 2 + 1, none⟩ = some (.int .u64 y.2) ∧ Below wo.heap.size wo w')
                (first | assumption | exact keepS HSB.out (by assumption) hb1 rfl)
                (first | (go_at_call 138; refine (less_any y x _ hyok hxok).mono ?_; rw [Hly.out]; rintro e w1 ⟨rfl, hb1⟩))
              obtain ⟨_, _, _, _, r5⟩ := ‹w1.cell? _ = _ ∧ _›
              go_wp2
              go_roundg (out.length - (a + 1))
              case measure => omega
              case rel =>
                refine ⟨a + 1, hal, Nat.le_refl _, by go_num, fun j h hj => ?_, r5⟩
                rcases Nat.lt_or_ge j a with h1 | h1
                · exact HL.out j h h1
                · obtain rfl : j = a := by omega
                  rw [← HYe.out, Hly.out]
            | false =>
              have Hly := Lib.hid hly
              clear hly
              go_wp2_with fail
              go_region_held3 (fun w' => w'.cell? ⟨b, o + k * 2, none⟩ = some (.int .u64 x.1) ∧ w'.cell? ⟨b, o + k * 2 + 1, none⟩ = some (.int .u64 x.2) ∧ w'.cell? ⟨g2, a * 2, none⟩ = some (.int .u64 y.1) ∧ w'.cell? ⟨g2, a * 2 + 1, none⟩ = some (.int .u64 y.2) ∧ Below wo.heap.size wo w')
                (first | assumption | exact keepS HSB.out (by assumption) hb1 rfl)
                (first | (go_at_call 138; refine (less_any y x _ hyok hxok).mono ?_; rw [Hly.out]; rintro e w1 ⟨rfl, hb1⟩))
              obtain ⟨r1, r2, r3, r4, r5⟩ := ‹w1.cell? _ = _ ∧ _›
              have hins : insK x out = if y = x then out else out.take a ++ (x :: out.drop a) := by
                rw [ins_at x out a ha HL.out (fun h => by rw [← HYe.out, Hly.out]), dif_pos hal, HYe.out]
              have HI := Lib.hid hins
              clear hins
              by_cases hyx : y = x
              · subst hyx
                go_wp2_with fail
                go_quiet (fail)
                go_wp2
                go_roundg (l.length - (k + 1))
                case measure => exact Nat.lt_of_lt_of_le hme hg
                case rel =>
                  refine ⟨k + 1, hlt, Nat.le_refl _, by go_num, ?_, bthen hbel (below_drewN r5 _)⟩
                  rw [hx.out, HI.out]
                  simp only [if_true]
                  exact own_below HOW.out (below_drewN r5 _)
              · have hins : insK x out = out.take a ++ (x :: out.drop a) := by rw [HI.out, if_neg hyx]
                have HJ := Lib.hid hins
                clear hins
                by_cases h1 : y.1 = x.1
                · have hh : ((y.2 : Int) == (x.2 : Int)) = false := by
                    have : y.2 ≠ x.2 := fun h2 => hyx (Prod.ext h1 h2)
                    simp; omega
                  rw [h1] at r3
                  clear hyx h1
                  go_wp2_with fail
                  go_quiet (fail)
                  obtain ⟨w2, hw2⟩ : ∃ w2 : World, w2 = w1.drewN nq := ⟨_, rfl⟩
                  rw [← hw2]
                  have hb2 : Below wo.heap.size wo w2 := by rw [hw2]; exact below_drewN r5 _
                  clear hw2
                  obtain ⟨d1, d2⟩ := HCX.out (w2.alloc (.cells #[] 40)) (bthen hbel (balloc hb2 _))
                  obtain ⟨d3, d4⟩ := HCX.out w2 (bthen hbel hb2)
                  have hbw2 : b < w2.heap.size := by have := hbel.size; have := hb2.size; omega
                  have hwo2 := hb2.size
                  have hm := World.ownsRow_made (base := w2.heap.size) (e := 40) (size := 2) w2 #[] 0 (Nat.le_refl _) (Nat.zero_le _) (by simp)
                  have hown2 := own_head (own_below HOW.out (balloc hb2 (.cells #[] 40))) a
                  go_wp2_with (first
                    | (at_builtin; refine wpList_append_own _ rfl (.tmp 45) (.tmp 48) 70 rfl w2.heap.size 40 i0 _ 2 16 Tryz.underlying70 hi0 hz0 hz1 hz2 rfl (by decide) _ 0 [] rfl hm ⟨g2, 0, none⟩ a cap2 (cellsK (out.take a)) rfl (by rw [cellsK_len, List.length_take]; omega) hown2 (cellsK_one _) (by simp only [maxLen]; omega) (by omega) (by simp) ?_; intro v6 w6 hown6 hgrow6 _
                       have hb6 : Below wo.heap.size wo w6 := (balloc hb2 _).grown hgrow6 (by simp; omega) (fun k hk => by have hk' : some w2.heap.size = some k := hk; injection hk'; omega)
                       have hs6 := hb6.size
                       have hg6 : w2.heap.size ≤ w6.heap.size := by have := hgrow6.size; simp at this; omega
                       obtain ⟨e1, e2⟩ := HCX.out w6 (bthen hbel hb6))
                    | (at_builtin; refine wpList_append_own _ rfl (.tmp 50) (.tmp 55) 70 rfl w2.heap.size 40 i0 _ 2 16 Tryz.underlying70 hi0 hz0 hz1 hz2 rfl (by decide) v6 _ _ rfl (hown6.alloc _) ⟨_, 0, none⟩ 1 1 (cellsK [x]) rfl rfl (key_new _ x _ _ rfl) (cellsK_one [x]) (by simp only [maxLen]; omega) (by omega) (by simp; omega) ?_; intro v7 w7 hown7 hgrow7 _
                       have hb7 : Below wo.heap.size wo w7 := (balloc hb6 _).grown hgrow7 (by simp; omega) (fun k hk => Nat.le_trans hwo2 (hown6.lt k hk).1)
                       have hg7 : w2.heap.size ≤ w7.heap.size := by have := hgrow7.size; simp at this; omega
                       have hown2' := own_part (own_below HOW.out hb7) a)
                    | (at_builtin; refine wpList_append_own _ rfl (.tmp 57) (.tmp 60) 70 rfl w2.heap.size 40 i0 _ 2 16 Tryz.underlying70 hi0 hz0 hz1 hz2 rfl (by decide) v7 _ _ rfl hown7 ⟨g2, a * 2, none⟩ (out.length - a) (cap2 - a) (cellsK (out.drop a)) rfl (by rw [cellsK_len, List.length_drop]) hown2' (cellsK_one _) (by simp only [maxLen]; omega) (by omega) hg7 ?_; intro v8 w8 hown8 hgrow8 _
                       have hb8 : Below wo.heap.size wo w8 := hb7.grown hgrow8 hb7.size (fun k hk => Nat.le_trans hwo2 (hown7.lt k hk).1)))
                  have hfin := hx.out
                  rw [HJ.out] at hfin
                  go_roundg (l.length - (k + 1))
                  case measure => exact Nat.lt_of_lt_of_le hme hg
                  case rel =>
                    refine ⟨k + 1, hlt, Nat.le_refl _, by go_num, ?_, bthen hbel hb8⟩
                    rw [hfin]
                    exact own_fin ha (own_lower hown8 (by have := hbel.size; omega))
                · have hh : ((y.1 : Int) == (x.1 : Int)) = false := by simp; omega
                  clear hyx h1
                  go_wp2_with fail
                  go_quiet (fail)
                  obtain ⟨w2, hw2⟩ : ∃ w2 : World, w2 = w1.drewN nq := ⟨_, rfl⟩
                  rw [← hw2]
                  have hb2 : Below wo.heap.size wo w2 := by rw [hw2]; exact below_drewN r5 _
                  clear hw2
                  obtain ⟨d1, d2⟩ := HCX.out (w2.alloc (.cells #[] 40)) (bthen hbel (balloc hb2 _))
                  obtain ⟨d3, d4⟩ := HCX.out w2 (bthen hbel hb2)
                  have hbw2 : b < w2.heap.size := by have := hbel.size; have := hb2.size; omega
                  have hwo2 := hb2.size
                  have hm := World.ownsRow_made (base := w2.heap.size) (e := 40) (size := 2) w2 #[] 0 (Nat.le_refl _) (Nat.zero_le _) (by simp)
                  have hown2 := own_head (own_below HOW.out (balloc hb2 (.cells #[] 40))) a
                  go_wp2_with (first
                    | (at_builtin; refine wpList_append_own _ rfl (.tmp 45) (.tmp 48) 70 rfl w2.heap.size 40 i0 _ 2 16 Tryz.underlying70 hi0 hz0 hz1 hz2 rfl (by decide) _ 0 [] rfl hm ⟨g2, 0, none⟩ a cap2 (cellsK (out.take a)) rfl (by rw [cellsK_len, List.length_take]; omega) hown2 (cellsK_one _) (by simp only [maxLen]; omega) (by omega) (by simp) ?_; intro v6 w6 hown6 hgrow6 _
                       have hb6 : Below wo.heap.size wo w6 := (balloc hb2 _).grown hgrow6 (by simp; omega) (fun k hk => by have hk' : some w2.heap.size = some k := hk; injection hk'; omega)
                       have hs6 := hb6.size
                       have hg6 : w2.heap.size ≤ w6.heap.size := by have := hgrow6.size; simp at this; omega
                       obtain ⟨e1, e2⟩ := HCX.out w6 (bthen hbel hb6))
                    | (at_builtin; refine wpList_append_own _ rfl (.tmp 50) (.tmp 55) 70 rfl w2.heap.size 40 i0 _ 2 16 Tryz.underlying70 hi0 hz0 hz1 hz2 rfl (by decide) v6 _ _ rfl (hown6.alloc _) ⟨_, 0, none⟩ 1 1 (cellsK [x]) rfl rfl (key_new _ x _ _ rfl) (cellsK_one [x]) (by simp only [maxLen]; omega) (by omega) (by simp; omega) ?_; intro v7 w7 hown7 hgrow7 _
                       have hb7 : Below wo.heap.size wo w7 := (balloc hb6 _).grown hgrow7 (by simp; omega) (fun k hk => Nat.le_trans hwo2 (hown6.lt k hk).1)
                       have hg7 : w2.heap.size ≤ w7.heap.size := by have := hgrow7.size; simp at this; omega
                       have hown2' := own_part (own_below HOW.out hb7) a)
                    | (at_builtin; refine wpList_append_own _ rfl (.tmp 57) (.tmp 60) 70 rfl w2.heap.size 40 i0 _ 2 16 Tryz.underlying70 hi0 hz0 hz1 hz2 rfl (by decide) v7 _ _ rfl hown7 ⟨g2, a * 2, none⟩ (out.length - a) (cap2 - a) (cellsK (out.drop a)) rfl (by rw [cellsK_len, List.length_drop]) hown2' (cellsK_one _) (by simp only [maxLen]; omega) (by omega) hg7 ?_; intro v8 w8 hown8 hgrow8 _
                       have hb8 : Below wo.heap.size wo w8 := hb7.grown hgrow8 hb7.size (fun k hk => Nat.le_trans hwo2 (hown7.lt k hk).1)))
                  have hfin := hx.out
                  rw [HJ.out] at hfin
                  go_roundg (l.length - (k + 1))
                  case measure => exact Nat.lt_of_lt_of_le hme hg
                  case rel =>
                    refine ⟨k + 1, hlt, Nat.le_refl _, by go_num, ?_, bthen hbel hb8⟩
                    rw [hfin]
                    exact own_fin ha (own_lower hown8 (by have := hbel.size; omega))
          · have hae : a = out.length := by omega
            have hins : insK x out = out.take a ++ (x :: out.drop a) := by
              rw [ins_at x out a ha HL.out (fun h => absurd h hal), dif_neg hal, hae, List.take_length, List.drop_length]
            have HJ := Lib.hid hins
            have HE := Lib.hid hae
            clear hins hae
            go_wp2_with fail
            go_quiet (fail)
            obtain ⟨w1, hw1⟩ : ∃ w1 : World, w1 = wr.drewN nq := ⟨_, rfl⟩
            rw [← hw1]
            have hb1 : Below wo.heap.size wo w1 := by rw [hw1]; exact below_drewN hbi _
            clear hw1
            go_wp2_with fail
            go_quiet (fail)
            obtain ⟨w2, hw2⟩ : ∃ w2 : World, w2 = w1.drewN nq := ⟨_, rfl⟩
            rw [← hw2]
            have hb2 : Below wo.heap.size wo w2 := by rw [hw2]; exact below_drewN hb1 _
            clear hw2
            clear hal
            rcases Nat.lt_or_ge a cap2 with hac | hac
            · obtain ⟨d1, d2⟩ := HCX.out (w2.alloc (.cells #[] 40)) (bthen hbel (balloc hb2 _))
              obtain ⟨d3, d4⟩ := HCX.out w2 (bthen hbel hb2)
              have hbw2 : b < w2.heap.size := by have := hbel.size; have := hb2.size; omega
              have hwo2 := hb2.size
              have hm := World.ownsRow_made (base := w2.heap.size) (e := 40) (size := 2) w2 #[] 0 (Nat.le_refl _) (Nat.zero_le _) (by simp)
              have hown2 := own_head (own_below HOW.out (balloc hb2 (.cells #[] 40))) a
              go_wp2_with (first
                | (at_builtin; refine wpList_append_own _ rfl (.tmp 45) (.tmp 48) 70 rfl w2.heap.size 40 i0 _ 2 16 Tryz.underlying70 hi0 hz0 hz1 hz2 rfl (by decide) _ 0 [] rfl hm ⟨g2, 0, none⟩ a cap2 (cellsK (out.take a)) rfl (by rw [cellsK_len, List.length_take]; omega) hown2 (cellsK_one _) (by simp only [maxLen]; omega) (by omega) (by simp) ?_; intro v6 w6 hown6 hgrow6 _
                   have hb6 : Below wo.heap.size wo w6 := (balloc hb2 _).grown hgrow6 (by simp; omega) (fun k hk => by have hk' : some w2.heap.size = some k := hk; injection hk'; omega)
                   have hs6 := hb6.size
                   have hg6 : w2.heap.size ≤ w6.heap.size := by have := hgrow6.size; simp at this; omega
                   obtain ⟨e1, e2⟩ := HCX.out w6 (bthen hbel hb6))
                | (at_builtin; refine wpList_append_own _ rfl (.tmp 50) (.tmp 55) 70 rfl w2.heap.size 40 i0 _ 2 16 Tryz.underlying70 hi0 hz0 hz1 hz2 rfl (by decide) v6 _ _ rfl (hown6.alloc _) ⟨_, 0, none⟩ 1 1 (cellsK [x]) rfl rfl (key_new _ x _ _ rfl) (cellsK_one [x]) (by simp only [maxLen]; omega) (by omega) (by simp; omega) ?_; intro v7 w7 hown7 hgrow7 _
                   have hb7 : Below wo.heap.size wo w7 := (balloc hb6 _).grown hgrow7 (by simp; omega) (fun k hk => Nat.le_trans hwo2 (hown6.lt k hk).1)
                   have hg7 : w2.heap.size ≤ w7.heap.size := by have := hgrow7.size; simp at this; omega
                   have hown2' := own_part (own_below HOW.out hb7) a)
                | (at_builtin; refine wpList_append_own _ rfl (.tmp 57) (.tmp 60) 70 rfl w2.heap.size 40 i0 _ 2 16 Tryz.underlying70 hi0 hz0 hz1 hz2 rfl (by decide) v7 _ _ rfl hown7 ⟨g2, a * 2, none⟩ (out.length - a) (cap2 - a) (cellsK (out.drop a)) rfl (by rw [cellsK_len, List.length_drop]) hown2' (cellsK_one _) (by simp only [maxLen]; omega) (by omega) hg7 ?_; intro v8 w8 hown8 hgrow8 _
                   have hb8 : Below wo.heap.size wo w8 := hb7.grown hgrow8 hb7.size (fun k hk => Nat.le_trans hwo2 (hown7.lt k hk).1)))
              have hfin := hx.out
              rw [HJ.out] at hfin
              go_roundg (l.length - (k + 1))
              case measure => exact Nat.lt_of_lt_of_le hme hg
              case rel =>
                refine ⟨k + 1, hlt, Nat.le_refl _, by go_num, ?_, bthen hbel hb8⟩
                rw [hfin]
                exact own_fin ha (own_lower hown8 (by have := hbel.size; omega))
            · obtain rfl : a = cap2 := by omega
              obtain ⟨d1, d2⟩ := HCX.out (w2.alloc (.cells #[] 40)) (bthen hbel (balloc hb2 _))
              obtain ⟨d3, d4⟩ := HCX.out w2 (bthen hbel hb2)
              have hbw2 : b < w2.heap.size := by have := hbel.size; have := hb2.size; omega
              have hwo2 := hb2.size
              have hm := World.ownsRow_made (base := w2.heap.size) (e := 40) (size := 2) w2 #[] 0 (Nat.le_refl _) (Nat.zero_le _) (by simp)
              have hown2 := own_head (own_below HOW.out (balloc hb2 (.cells #[] 40))) a
              go_wp2_with (first
                | (at_builtin; refine wpList_append_own _ rfl (.tmp 45) (.tmp 48) 70 rfl w2.heap.size 40 i0 _ 2 16 Tryz.underlying70 hi0 hz0 hz1 hz2 rfl (by decide) _ 0 [] rfl hm ⟨g2, 0, none⟩ a a (cellsK (out.take a)) rfl (by rw [cellsK_len, List.length_take]; omega) hown2 (cellsK_one _) (by simp only [maxLen]; omega) (by omega) (by simp) ?_; intro v6 w6 hown6 hgrow6 _
                   have hb6 : Below wo.heap.size wo w6 := (balloc hb2 _).grown hgrow6 (by simp; omega) (fun k hk => by have hk' : some w2.heap.size = some k := hk; injection hk'; omega)
                   have hs6 := hb6.size
                   have hg6 : w2.heap.size ≤ w6.heap.size := by have := hgrow6.size; simp at this; omega
                   obtain ⟨e1, e2⟩ := HCX.out w6 (bthen hbel hb6))
                | (at_builtin; refine wpList_append_own _ rfl (.tmp 50) (.tmp 55) 70 rfl w2.heap.size 40 i0 _ 2 16 Tryz.underlying70 hi0 hz0 hz1 hz2 rfl (by decide) v6 _ _ rfl (hown6.alloc _) ⟨_, 0, none⟩ 1 1 (cellsK [x]) rfl rfl (key_new _ x _ _ rfl) (cellsK_one [x]) (by simp only [maxLen]; omega) (by omega) (by simp; omega) ?_; intro v7 w7 hown7 hgrow7 _
                   have hb7 : Below wo.heap.size wo w7 := (balloc hb6 _).grown hgrow7 (by simp; omega) (fun k hk => Nat.le_trans hwo2 (hown6.lt k hk).1)
                   have hg7 : w2.heap.size ≤ w7.heap.size := by have := hgrow7.size; simp at this; omega
                   have hown2' := own_part (own_below HOW.out hb7) a)
                | (at_builtin; refine wpList_append_own _ rfl (.tmp 57) (.tmp 60) 70 rfl w2.heap.size 40 i0 _ 2 16 Tryz.underlying70 hi0 hz0 hz1 hz2 rfl (by decide) v7 _ _ rfl hown7 ⟨g2, 0, none⟩ 0 _ [] rfl rfl (fun j u hu => by simp at hu) (fun u hu => by simp at hu) (by simp only [maxLen]; omega) (by omega) hg7 ?_; intro v8 w8 hown8 hgrow8 _
                   have hb8 : Below wo.heap.size wo w8 := hb7.grown hgrow8 hb7.size (fun k hk => Nat.le_trans hwo2 (hown7.lt k hk).1)))
              have hfin := hx.out
              rw [HJ.out] at hfin
              go_roundg (l.length - (k + 1))
              case measure => exact Nat.lt_of_lt_of_le hme hg
              case rel =>
                refine ⟨k + 1, hlt, Nat.le_refl _, by go_num, ?_, bthen hbel hb8⟩
                rw [hfin]
                exact own_fin0 HE.out (own_lower hown8 (by have := hbel.size; omega))
    · obtain rfl : k = l.length := by omega
      rw [List.take_length] at hown
      have HO := Lib.hid hown
      obtain ⟨A2, c2, rfl⟩ := own_form hown
      clear hown
      go_wp2
      go_ret
      exact ⟨_, rfl, HO.out, hbel⟩
end

end Go.Proofs.YtfegielnmdppgaaGreat
