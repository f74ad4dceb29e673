/- Walks of calls.inner, Ops. -/
import Derived.Test.YthfkgffalhkeeaaOps
namespace Go.Proofs.Ythfkgffalhkeeaa
open Go.RowKit Go.Lib

/-! ### Two boxes that stand while others are made -/
section
variable {w a b : World} {n : Nat} {cs ds : Array Value}
theorem start2 (w : World) (cs ds : Array Value) (T T' : TypeId) :
    (∀ j, ((w.alloc (.cells cs T)).alloc (.cells ds T')).cell? ⟨w.heap.size, j, none⟩ = cs[j]?) ∧ (∀ j, ((w.alloc (.cells cs T)).alloc (.cells ds T')).cell? ⟨w.heap.size + 1, j, none⟩ = ds[j]?) ∧
      Below w.heap.size w ((w.alloc (.cells cs T)).alloc (.cells ds T')) ∧ w.heap.size + 1 < ((w.alloc (.cells cs T)).alloc (.cells ds T')).heap.size :=
  ⟨fun j => by simp [go_sem], fun j => by
    have := (startA (w.alloc (.cells cs T)) ds T').1 j
    simpa only [World.size_alloc] using this, balloc (balloc (Below.refl _ _) _) _, by simp⟩
theorem news_below {a b : World} {cs : Array Value} {T : TypeId} {n H : Nat} (k : Below n (a.alloc (.cells cs T)).drew b) (e : n = (a.alloc (.cells cs T)).drew.heap.size) (hH : a.heap.size = H) :
    ∀ j u, cs.toList[j]? = some u → b.cell? ((⟨H, 0, none⟩ : Addr).add j) = some u := by
  subst e; subst hH
  intro j u hu
  have := World.news_of_block (heap_alloc_new a (.cells cs T)) j u hu
  have hb : ((⟨a.heap.size, 0, none⟩ : Addr).add j).block = a.heap.size := by unfold Addr.add; split <;> rfl
  exact (k.cell (by rw [hb]; show a.heap.size < (a.alloc (.cells cs T)).heap.size; simp)).trans this
theorem two_le (w : World) (o o' : Obj) : w.heap.size + 2 ≤ ((w.alloc o).alloc o').drew.heap.size := by
  show w.heap.size + 2 ≤ ((w.alloc o).alloc o').heap.size
  simp
theorem keep2 (h : (∀ j, a.cell? ⟨w.heap.size, j, none⟩ = cs[j]?) ∧ (∀ j, a.cell? ⟨w.heap.size + 1, j, none⟩ = ds[j]?) ∧ Below w.heap.size w a ∧ w.heap.size + 1 < a.heap.size)
    (k : Below n a b) (e : w.heap.size + 1 < n) :
    (∀ j, b.cell? ⟨w.heap.size, j, none⟩ = cs[j]?) ∧ (∀ j, b.cell? ⟨w.heap.size + 1, j, none⟩ = ds[j]?) ∧ Below w.heap.size w b ∧ w.heap.size + 1 < b.heap.size :=
  ⟨fun j => (k.cell (p := ⟨w.heap.size, j, none⟩) (by show w.heap.size < n; omega)).trans (h.1 j), fun j => (k.cell (p := ⟨w.heap.size + 1, j, none⟩) e).trans (h.2.1 j),
    h.2.2.1.trans (k.mono (by omega)), Nat.lt_of_lt_of_le h.2.2.2 k.size⟩
theorem keep2c (h : (∀ j, a.cell? ⟨w.heap.size, j, none⟩ = cs[j]?) ∧ (∀ j, a.cell? ⟨w.heap.size + 1, j, none⟩ = ds[j]?) ∧ Below w.heap.size w a ∧ w.heap.size + 1 < a.heap.size)
    (k : Below n a b) (e : n = a.heap.size) :
    (∀ j, b.cell? ⟨w.heap.size, j, none⟩ = cs[j]?) ∧ (∀ j, b.cell? ⟨w.heap.size + 1, j, none⟩ = ds[j]?) ∧ Below w.heap.size w b ∧ w.heap.size + 1 < b.heap.size :=
  keep2 h k (by rw [e]; exact h.2.2.2)
theorem drew2 (h : (∀ j, a.cell? ⟨w.heap.size, j, none⟩ = cs[j]?) ∧ (∀ j, a.cell? ⟨w.heap.size + 1, j, none⟩ = ds[j]?) ∧ Below w.heap.size w a ∧ w.heap.size + 1 < a.heap.size) :
    (∀ j, a.drew.cell? ⟨w.heap.size, j, none⟩ = cs[j]?) ∧ (∀ j, a.drew.cell? ⟨w.heap.size + 1, j, none⟩ = ds[j]?) ∧ Below w.heap.size w a.drew ∧ w.heap.size + 1 < a.drew.heap.size := ⟨h.1, h.2.1, h.2.2.1.drew, h.2.2.2⟩
theorem alloc2 (h : (∀ j, a.cell? ⟨w.heap.size, j, none⟩ = cs[j]?) ∧ (∀ j, a.cell? ⟨w.heap.size + 1, j, none⟩ = ds[j]?) ∧ Below w.heap.size w a ∧ w.heap.size + 1 < a.heap.size) (o : Obj) :
    (∀ j, (a.alloc o).cell? ⟨w.heap.size, j, none⟩ = cs[j]?) ∧ (∀ j, (a.alloc o).cell? ⟨w.heap.size + 1, j, none⟩ = ds[j]?) ∧ Below w.heap.size w (a.alloc o) ∧ w.heap.size + 1 < (a.alloc o).heap.size :=
  keep2c h ((Below.refl _ _).alloc (Nat.le_refl _) o) rfl
theorem grown2 {row : Option Nat} (h : (∀ j, a.cell? ⟨w.heap.size, j, none⟩ = cs[j]?) ∧ (∀ j, a.cell? ⟨w.heap.size + 1, j, none⟩ = ds[j]?) ∧ Below w.heap.size w a ∧ w.heap.size + 1 < a.heap.size) (hg : a.grownBy b row) (hr : ∀ k, row = some k → w.heap.size + 2 ≤ k) :
    (∀ j, b.cell? ⟨w.heap.size, j, none⟩ = cs[j]?) ∧ (∀ j, b.cell? ⟨w.heap.size + 1, j, none⟩ = ds[j]?) ∧ Below w.heap.size w b ∧ w.heap.size + 1 < b.heap.size :=
  keep2 h (below_grown (B := w.heap.size + 2) hg (by have := h.2.2.2; omega) hr) (by omega)
end

theorem opsRet_mk {T : TypeId} {w w' : World} {g c n base : Nat} {l : List (Int × Int)} {xs : List Value} (hown : w'.ownsRow base T 2 (.slice (some ⟨g, 0, none⟩) n c) n xs) (hw : Below w.heap.size w w') (hn : n = l.length) (hx : xs = opsV l) (hb : w.heap.size ≤ base) :
    OpsRet T w l (.returned (.slice (some ⟨g, 0, none⟩) n c)) w' := by
  subst hn hx
  exact ⟨g, c, rfl, own_mono hown hb, hw⟩

def innerL (st : Nat) (home : Int) (kind : Int) : List (Int × Int) :=
  if kind = 1 ∨ kind = 6 then oneL 3 home ++ [(3, (st : Int) + 1), (6, 0), (5, (st : Int) + 1)]
  else if kind = 2 then (allL 3 st ++ [(4, 0)]) ++ allL 5 st
  else if kind = 3 then (allL 2 st ++ oneL 3 st) ++ allL 5 st
  else if kind = 4 then oneL 3 st
  else if kind = 5 then oneL 2 st
  else if kind = 7 then oneL 2 home
  else oneL 3 ((st : Int) + 1)

section
variable (s : Nat) (sa lo hi : Int) (id : ByteArray) (tick val handle a b tg tol win hold : Int) (w : World)

set_option maxRecDepth 100000 in
set_option maxHeartbeats 2000000 in
theorem inner_1 (h0 : 0 < s) (h1 : s ≤ 64) (hid : id.size ≤ maxLen) (hcok : Cfg.ok ⟨(s : Nat), sa, lo, hi⟩) :
    Calls Try.prog 53 #[cfgV ⟨(s : Nat), sa, lo, hi⟩, callV (callK 1 id tick val handle a b tg tol win hold)] w (OpsRet 84 w (innerL s (homeI (s : Nat) id) 1)) := by
  obtain ⟨i0, hi0, hz0, hz1, hz2⟩ := info_parts op_info
  have hL : innerL s (homeI (s : Nat) id) 1 = oneL 3 (homeI (s : Nat) id) ++ [(3, (s : Int) + 1), (6, 0), (5, (s : Int) + 1)] := by simp [innerL]
  rw [hL]
  clear hL
  unfold cfgV callV callK
  simp only
  go_enter Try.func53, Try.ntmps53
  go_wp2
  go_region_held3 (fun w' => (∀ j, w'.cell? ⟨w.heap.size, j, none⟩ = (#[.int .i64 (s : Nat), .int .i64 sa, .int .i64 lo, .int .i64 hi] : Array Value)[j]?) ∧ (∀ j, w'.cell? ⟨w.heap.size + 1, j, none⟩ = (#[.int .i64 1, .string id, .int .i64 tick, .int .i64 val, .int .i64 handle, .int .i64 a, .int .i64 b, .int .i64 tg, .int .i64 tol, .int .i64 win, .int .i64 hold] : Array Value)[j]?) ∧ Below w.heap.size w w' ∧ w.heap.size + 1 < w'.heap.size)
    (first | assumption | exact drew2 (start2 w _ _ _ _) | exact keep2c (by assumption) hb1 rfl | exact keep2c (by assumption) hb2 rfl | exact keep2c (by assumption) hb3 rfl | exact alloc2 (by assumption) _ | exact grown2 (by assumption) hgrow (fun k hk => Nat.le_trans hq2 (hlt2 k hk).1))
    (first
      | (refine step_append_lies _ (by rfl) (.tmp 14) (.tmp 22) _ (by rfl) _ 84 i0 _ 2 16 Try.underlying72 hi0 hz0 hz1 hz2 rfl (by decide) (.slice (some ⟨g2, 0, none⟩) 3 c2) 3 _ (by rfl) (hown2.alloc _) ⟨w3.heap.size, 0, none⟩ 3 3 [.int .i64 3, .int .i64 ((s : Int) + 1), .int .i64 6, .int .i64 0, .int .i64 5, .int .i64 ((s : Int) + 1)] (by rfl) (by rfl) (World.news_of_block (heap_alloc_new _ _)) (opsV_one [(3, (s : Int) + 1), (6, 0), (5, (s : Int) + 1)]) (by omega) (by simp only [maxLen]; omega) (by omega) (by simp; omega) _ rfl ?_; intro g cap w5 hown5 hgrow hat hlt5)
      | (go_at_call 67; refine (home_any ⟨(s : Nat), sa, lo, hi⟩ id _ hcok hid).mono ?_; rintro e w1 ⟨rfl, hb1⟩; have hq2 : w.heap.size + 2 ≤ w1.heap.size := by have := hb1.size; simp at this; omega)
      | (go_at_call 66; refine (one_any 3 _ _).mono ?_; unfold OpsRet; rintro e w2 ⟨g2, c2, rfl, hown2, hb2⟩; have hsz2 := hb2.size; have hlt2 := hown2.lt)
      | (go_at_call 68; refine (line_any ⟨(s : Nat), sa, lo, hi⟩ _ (by simp) (by simp; omega)).mono ?_; rintro e w3 ⟨rfl, hb3⟩; have hown2 := own_below hown2 hb3; have hsz2 := Nat.le_trans hsz2 hb3.size))
  have hX := ‹(∀ j, w5.cell? _ = _) ∧ _›
  have hfin := hX.2.2.1
  clear hX
  go_wp2
  go_ret
  exact ⟨g, cap, rfl, own_mono (by rw [← opsV_app]; exact hown5) (by omega), hfin⟩

set_option maxRecDepth 100000 in
set_option maxHeartbeats 2000000 in
theorem inner_6 (h0 : 0 < s) (h1 : s ≤ 64) (hid : id.size ≤ maxLen) (hcok : Cfg.ok ⟨(s : Nat), sa, lo, hi⟩) :
    Calls Try.prog 53 #[cfgV ⟨(s : Nat), sa, lo, hi⟩, callV (callK 6 id tick val handle a b tg tol win hold)] w (OpsRet 84 w (innerL s (homeI (s : Nat) id) 6)) := by
  obtain ⟨i0, hi0, hz0, hz1, hz2⟩ := info_parts op_info
  have hL : innerL s (homeI (s : Nat) id) 6 = oneL 3 (homeI (s : Nat) id) ++ [(3, (s : Int) + 1), (6, 0), (5, (s : Int) + 1)] := by simp [innerL]
  rw [hL]
  clear hL
  unfold cfgV callV callK
  simp only
  go_enter Try.func53, Try.ntmps53
  go_wp2
  go_region_held3 (fun w' => (∀ j, w'.cell? ⟨w.heap.size, j, none⟩ = (#[.int .i64 (s : Nat), .int .i64 sa, .int .i64 lo, .int .i64 hi] : Array Value)[j]?) ∧ (∀ j, w'.cell? ⟨w.heap.size + 1, j, none⟩ = (#[.int .i64 6, .string id, .int .i64 tick, .int .i64 val, .int .i64 handle, .int .i64 a, .int .i64 b, .int .i64 tg, .int .i64 tol, .int .i64 win, .int .i64 hold] : Array Value)[j]?) ∧ Below w.heap.size w w' ∧ w.heap.size + 1 < w'.heap.size)
    (first | assumption | exact drew2 (start2 w _ _ _ _) | exact keep2c (by assumption) hb1 rfl | exact keep2c (by assumption) hb2 rfl | exact keep2c (by assumption) hb3 rfl | exact alloc2 (by assumption) _ | exact grown2 (by assumption) hgrow (fun k hk => Nat.le_trans hq2 (hlt2 k hk).1))
    (first
      | (refine step_append_lies _ (by rfl) (.tmp 14) (.tmp 22) _ (by rfl) _ 84 i0 _ 2 16 Try.underlying72 hi0 hz0 hz1 hz2 rfl (by decide) (.slice (some ⟨g2, 0, none⟩) 3 c2) 3 _ (by rfl) (hown2.alloc _) ⟨w3.heap.size, 0, none⟩ 3 3 [.int .i64 3, .int .i64 ((s : Int) + 1), .int .i64 6, .int .i64 0, .int .i64 5, .int .i64 ((s : Int) + 1)] (by rfl) (by rfl) (World.news_of_block (heap_alloc_new _ _)) (opsV_one [(3, (s : Int) + 1), (6, 0), (5, (s : Int) + 1)]) (by omega) (by simp only [maxLen]; omega) (by omega) (by simp; omega) _ rfl ?_; intro g cap w5 hown5 hgrow hat hlt5)
      | (go_at_call 67; refine (home_any ⟨(s : Nat), sa, lo, hi⟩ id _ hcok hid).mono ?_; rintro e w1 ⟨rfl, hb1⟩; have hq2 : w.heap.size + 2 ≤ w1.heap.size := by have := hb1.size; simp at this; omega)
      | (go_at_call 66; refine (one_any 3 _ _).mono ?_; unfold OpsRet; rintro e w2 ⟨g2, c2, rfl, hown2, hb2⟩; have hsz2 := hb2.size; have hlt2 := hown2.lt)
      | (go_at_call 68; refine (line_any ⟨(s : Nat), sa, lo, hi⟩ _ (by simp) (by simp; omega)).mono ?_; rintro e w3 ⟨rfl, hb3⟩; have hown2 := own_below hown2 hb3; have hsz2 := Nat.le_trans hsz2 hb3.size))
  have hX := ‹(∀ j, w5.cell? _ = _) ∧ _›
  have hfin := hX.2.2.1
  clear hX
  go_wp2
  go_ret
  exact ⟨g, cap, rfl, own_mono (by rw [← opsV_app]; exact hown5) (by omega), hfin⟩

set_option maxRecDepth 100000 in
set_option maxHeartbeats 2000000 in
theorem inner_2 (h0 : 0 < s) (h1 : s ≤ 64) (hid : id.size ≤ maxLen) (hcok : Cfg.ok ⟨(s : Nat), sa, lo, hi⟩) :
    Calls Try.prog 53 #[cfgV ⟨(s : Nat), sa, lo, hi⟩, callV (callK 2 id tick val handle a b tg tol win hold)] w (OpsRet 84 w (innerL s (homeI (s : Nat) id) 2)) := by
  obtain ⟨i0, hi0, hz0, hz1, hz2⟩ := info_parts op_info
  have hL : innerL s (homeI (s : Nat) id) 2 = (allL 3 s ++ [(4, 0)]) ++ allL 5 s := by simp [innerL]
  rw [hL]
  clear hL
  unfold cfgV callV callK
  simp only
  go_enter Try.func53, Try.ntmps53
  go_wp2
  go_region_held3 (fun w' => (∀ j, w'.cell? ⟨w.heap.size, j, none⟩ = (#[.int .i64 (s : Nat), .int .i64 sa, .int .i64 lo, .int .i64 hi] : Array Value)[j]?) ∧ (∀ j, w'.cell? ⟨w.heap.size + 1, j, none⟩ = (#[.int .i64 2, .string id, .int .i64 tick, .int .i64 val, .int .i64 handle, .int .i64 a, .int .i64 b, .int .i64 tg, .int .i64 tol, .int .i64 win, .int .i64 hold] : Array Value)[j]?) ∧ Below w.heap.size w w' ∧ w.heap.size + 1 < w'.heap.size)
    (first | assumption | exact drew2 (start2 w _ _ _ _) | exact keep2c (by assumption) hb1 rfl | exact keep2c (by assumption) hb3 rfl | exact alloc2 (by assumption) _ | exact grown2 (by assumption) hgrow4 (fun k hk => by have := (hlt4 k hk).1; simp at this; omega) | exact grown2 (by assumption) hgrow2 (fun k hk => by have := (hlt2 k hk).1; simp at this; omega))
    (first
      | (refine step_append_lies _ (by rfl) (.tmp 27) (.tmp 29) _ (by rfl) _ 84 i0 _ 2 16 Try.underlying72 hi0 hz0 hz1 hz2 rfl (by decide) (.slice (some ⟨g1, 0, none⟩) s c1) s _ (by rfl) (hown1.alloc _) ⟨w1.heap.size, 0, none⟩ 1 1 [.int .i64 4, .int .i64 0] (by rfl) (by rfl) (World.news_of_block (heap_alloc_new _ _)) (two_int _ _) (by omega) (by simp only [maxLen]; omega) (by omega) (by simp; omega) _ rfl ?_; intro g2 c2 w2 hown2 hgrow2 hat2 hlt2w; have hlt2 := hown1.lt; have hsz2 := hgrow2.size; simp at hsz2)
      | (refine step_append_lies _ (by rfl) (.tmp 27) (.tmp 29) _ (by rfl) _ 84 i0 _ 2 16 Try.underlying72 hi0 hz0 hz1 hz2 rfl (by decide) (.slice (some ⟨g1, 0, none⟩) s c1) s _ (by rfl) hown1 ⟨_, 0, none⟩ 1 1 [.int .i64 4, .int .i64 0] (by rfl) (by rfl) (news_below hb1 rfl (by simp)) (two_int _ _) (by omega) (by simp only [maxLen]; omega) (by omega) (by simp; omega) _ rfl ?_; intro g2 c2 w2 hown2 hgrow2 hat2 hlt2w; have hlt2 := hown1.lt; have hsz2 := hgrow2.size)
      | (refine step_append_lies _ (by rfl) (.tmp 30) (.tmp 32) _ (by rfl) _ 84 i0 _ 2 16 Try.underlying72 hi0 hz0 hz1 hz2 rfl (by decide) (.slice (some ⟨g2, 0, none⟩) (s + 1) c2) (s + 1) _ (by rfl) hown2 ⟨g3, 0, none⟩ s c3 (opsV (allL 5 s)) (by rfl) (by rw [opsV_len, allL_len]) (hown3.cells rfl) (opsV_one _) (by omega) (by simp only [maxLen]; omega) (by omega) (by simp; omega) _ rfl ?_; intro g4 c4 w4 hown4 hgrow4 hat4 hlt4w; have hlt4 := hown2.lt)
      | (go_at_call_of 69 (Value.int IntKind.i64 3); refine (all_any ⟨(s : Nat), sa, lo, hi⟩ 3 s _ rfl h0 h1).mono ?_; unfold OpsRet; rw [allL_len]; rintro e w1 ⟨g1, c1, rfl, hown1, hb1⟩; have hsz1 := hb1.size; simp at hsz1)
      | (go_at_call_of 69 (Value.int IntKind.i64 5); refine (all_any ⟨(s : Nat), sa, lo, hi⟩ 5 s _ rfl h0 h1).mono ?_; unfold OpsRet; rw [allL_len]; rintro e w3 ⟨g3, c3, rfl, hown3, hb3⟩; have hown2 := own_below hown2 hb3; have hsz3 := hb3.size))
  all_goals
    have hX := ‹(∀ j, w4.cell? _ = _) ∧ _›
    have hfin := hX.2.2.1
    clear hX
    go_wp2
    go_ret
    exact opsRet_mk hown4 hfin (by simp [allL_len]; omega) (by simp [opsV]) (by simp; omega)

set_option maxRecDepth 100000 in
set_option maxHeartbeats 2000000 in
theorem inner_3 (h0 : 0 < s) (h1 : s ≤ 64) (hid : id.size ≤ maxLen) (hcok : Cfg.ok ⟨(s : Nat), sa, lo, hi⟩) :
    Calls Try.prog 53 #[cfgV ⟨(s : Nat), sa, lo, hi⟩, callV (callK 3 id tick val handle a b tg tol win hold)] w (OpsRet 84 w (innerL s (homeI (s : Nat) id) 3)) := by
  obtain ⟨i0, hi0, hz0, hz1, hz2⟩ := info_parts op_info
  have hL : innerL s (homeI (s : Nat) id) 3 = (allL 2 s ++ oneL 3 (s : Nat)) ++ allL 5 s := by simp [innerL]
  rw [hL]
  clear hL
  unfold cfgV callV callK
  simp only
  go_enter Try.func53, Try.ntmps53
  go_wp2
  go_region_held3 (fun w' => (∀ j, w'.cell? ⟨w.heap.size, j, none⟩ = (#[.int .i64 (s : Nat), .int .i64 sa, .int .i64 lo, .int .i64 hi] : Array Value)[j]?) ∧ (∀ j, w'.cell? ⟨w.heap.size + 1, j, none⟩ = (#[.int .i64 3, .string id, .int .i64 tick, .int .i64 val, .int .i64 handle, .int .i64 a, .int .i64 b, .int .i64 tg, .int .i64 tol, .int .i64 win, .int .i64 hold] : Array Value)[j]?) ∧ Below w.heap.size w w' ∧ w.heap.size + 1 < w'.heap.size)
    (first | assumption | exact drew2 (start2 w _ _ _ _) | exact keep2c (by assumption) hb1 rfl | exact keep2c (by assumption) hb2 rfl | exact keep2c (by assumption) hb3 rfl | exact keep2c (by assumption) hb5 rfl | exact alloc2 (by assumption) _ | exact grown2 (by assumption) hgrow6 (fun k hk => by have := (hlt6 k hk).1; simp at this; omega) | exact grown2 (by assumption) hgrow4 (fun k hk => by have := (hlt4 k hk).1; simp at this; omega))
    (first
      | (refine step_append_lies _ (by rfl) (.tmp 37) (.tmp 40) _ (by rfl) _ 84 i0 _ 2 16 Try.underlying72 hi0 hz0 hz1 hz2 rfl (by decide) (.slice (some ⟨g1, 0, none⟩) s c1) s _ (by rfl) hown1 ⟨g3, 0, none⟩ 3 c3 (opsV (oneL 3 (s : Nat))) (by rfl) (by rfl) (hown3.cells rfl) (opsV_one _) (by omega) (by simp only [maxLen]; omega) (by omega) (by simp; omega) _ rfl ?_; intro g4 c4 w4 hown4 hgrow4 hat4 hlt4w; have hlt4 := hown1.lt; have hsz4 := hgrow4.size)
      | (refine step_append_lies _ (by rfl) (.tmp 41) (.tmp 43) _ (by rfl) _ 84 i0 _ 2 16 Try.underlying72 hi0 hz0 hz1 hz2 rfl (by decide) (.slice (some ⟨g4, 0, none⟩) (s + 3) c4) (s + 3) _ (by rfl) hown4 ⟨g5, 0, none⟩ s c5 (opsV (allL 5 s)) (by rfl) (by rw [opsV_len, allL_len]) (hown5.cells rfl) (opsV_one _) (by omega) (by simp only [maxLen]; omega) (by omega) (by simp; omega) _ rfl ?_; intro g6 c6 w6 hown6 hgrow6 hat6 hlt6w; have hlt6 := hown4.lt)
      | (go_at_call_of 69 (Value.int IntKind.i64 2); refine (all_any ⟨(s : Nat), sa, lo, hi⟩ 2 s _ rfl h0 h1).mono ?_; unfold OpsRet; rw [allL_len]; rintro e w1 ⟨g1, c1, rfl, hown1, hb1⟩; have hsz1 := hb1.size; simp at hsz1)
      | (go_at_call_of 69 (Value.int IntKind.i64 5); refine (all_any ⟨(s : Nat), sa, lo, hi⟩ 5 s _ rfl h0 h1).mono ?_; unfold OpsRet; rw [allL_len]; rintro e w5 ⟨g5, c5, rfl, hown5, hb5⟩; have hown4 := own_below hown4 hb5; have hsz5 := hb5.size)
      | (go_at_call 70; refine (cuts_any ⟨(s : Nat), sa, lo, hi⟩ _).mono ?_; rintro e w2 ⟨rfl, hb2⟩; have hown1 := own_below hown1 hb2; have hsz2 := hb2.size)
      | (go_at_call 66; refine (one_any 3 _ _).mono ?_; unfold OpsRet; rintro e w3 ⟨g3, c3, rfl, hown3, hb3⟩; have hown1 := own_below hown1 hb3; have hsz3 := hb3.size))
  all_goals
    have hX := ‹(∀ j, w6.cell? _ = _) ∧ _›
    have hfin := hX.2.2.1
    clear hX
    go_wp2
    go_ret
    exact opsRet_mk hown6 hfin (by simp [allL_len, oneL]; omega) (by simp [opsV]) (by simp; omega)

set_option maxRecDepth 100000 in
set_option maxHeartbeats 2000000 in
theorem inner_4 (h0 : 0 < s) (h1 : s ≤ 64) (hid : id.size ≤ maxLen) (hcok : Cfg.ok ⟨(s : Nat), sa, lo, hi⟩) :
    Calls Try.prog 53 #[cfgV ⟨(s : Nat), sa, lo, hi⟩, callV (callK 4 id tick val handle a b tg tol win hold)] w (OpsRet 84 w (innerL s (homeI (s : Nat) id) 4)) := by
  obtain ⟨i0, hi0, hz0, hz1, hz2⟩ := info_parts op_info
  have hL : innerL s (homeI (s : Nat) id) 4 = oneL 3 (s : Nat) := by simp [innerL]
  rw [hL]
  clear hL
  unfold cfgV callV callK
  simp only
  go_enter Try.func53, Try.ntmps53
  go_wp2_with (first
    | (go_at_call 70; refine (cuts_any ⟨(s : Nat), sa, lo, hi⟩ _).mono ?_; rintro e w1 ⟨rfl, hb1⟩)
    | (go_at_call 66; refine (one_any 3 _ _).mono ?_; unfold OpsRet; rintro e w2 ⟨g2, c2, rfl, hown2, hb2⟩))
  go_ret
  exact opsRet_mk hown2 (bthen (bthen (balloc (balloc (Below.refl _ _) _) _) hb1) hb2) rfl rfl (by have := hb1.size; simp at this; omega)

set_option maxRecDepth 100000 in
set_option maxHeartbeats 2000000 in
theorem inner_5 (h0 : 0 < s) (h1 : s ≤ 64) (hid : id.size ≤ maxLen) (hcok : Cfg.ok ⟨(s : Nat), sa, lo, hi⟩) :
    Calls Try.prog 53 #[cfgV ⟨(s : Nat), sa, lo, hi⟩, callV (callK 5 id tick val handle a b tg tol win hold)] w (OpsRet 84 w (innerL s (homeI (s : Nat) id) 5)) := by
  obtain ⟨i0, hi0, hz0, hz1, hz2⟩ := info_parts op_info
  have hL : innerL s (homeI (s : Nat) id) 5 = oneL 2 (s : Nat) := by simp [innerL]
  rw [hL]
  clear hL
  unfold cfgV callV callK
  simp only
  go_enter Try.func53, Try.ntmps53
  go_wp2_with (first
    | (go_at_call 70; refine (cuts_any ⟨(s : Nat), sa, lo, hi⟩ _).mono ?_; rintro e w1 ⟨rfl, hb1⟩)
    | (go_at_call 66; refine (one_any 2 _ _).mono ?_; unfold OpsRet; rintro e w2 ⟨g2, c2, rfl, hown2, hb2⟩))
  go_ret
  exact opsRet_mk hown2 (bthen (bthen (balloc (balloc (Below.refl _ _) _) _) hb1) hb2) rfl rfl (by have := hb1.size; simp at this; omega)

set_option maxRecDepth 100000 in
set_option maxHeartbeats 2000000 in
theorem inner_7 (h0 : 0 < s) (h1 : s ≤ 64) (hid : id.size ≤ maxLen) (hcok : Cfg.ok ⟨(s : Nat), sa, lo, hi⟩) :
    Calls Try.prog 53 #[cfgV ⟨(s : Nat), sa, lo, hi⟩, callV (callK 7 id tick val handle a b tg tol win hold)] w (OpsRet 84 w (innerL s (homeI (s : Nat) id) 7)) := by
  obtain ⟨i0, hi0, hz0, hz1, hz2⟩ := info_parts op_info
  have hL : innerL s (homeI (s : Nat) id) 7 = oneL 2 (homeI (s : Nat) id) := by simp [innerL]
  rw [hL]
  clear hL
  unfold cfgV callV callK
  simp only
  go_enter Try.func53, Try.ntmps53
  go_wp2_with (first
    | (go_at_call 67; refine (home_any ⟨(s : Nat), sa, lo, hi⟩ id _ hcok hid).mono ?_; rintro e w1 ⟨rfl, hb1⟩)
    | (go_at_call 66; refine (one_any 2 _ _).mono ?_; unfold OpsRet; rintro e w2 ⟨g2, c2, rfl, hown2, hb2⟩))
  go_ret
  exact opsRet_mk hown2 (bthen (bthen (balloc (balloc (Below.refl _ _) _) _) hb1) hb2) rfl rfl (by have := hb1.size; simp at this; omega)

set_option maxRecDepth 100000 in
set_option maxHeartbeats 2000000 in
theorem inner_no (h0 : 0 < s) (h1 : s ≤ 64) (hid : id.size ≤ maxLen) (hcok : Cfg.ok ⟨(s : Nat), sa, lo, hi⟩) (k : Int) (hk : k ≠ 1 ∧ k ≠ 2 ∧ k ≠ 3 ∧ k ≠ 4 ∧ k ≠ 5 ∧ k ≠ 6 ∧ k ≠ 7) :
    Calls Try.prog 53 #[cfgV ⟨(s : Nat), sa, lo, hi⟩, callV (callK k id tick val handle a b tg tol win hold)] w (OpsRet 84 w (innerL s (homeI (s : Nat) id) k)) := by
  obtain ⟨i0, hi0, hz0, hz1, hz2⟩ := info_parts op_info
  have hL : innerL s (homeI (s : Nat) id) k = oneL 3 ((s : Int) + 1) := by simp [innerL, hk]
  rw [hL]
  have q1 : (k == 1) = false := by simp [hk]
  have q2 : (k == 2) = false := by simp [hk]
  have q3 : (k == 3) = false := by simp [hk]
  have q4 : (k == 4) = false := by simp [hk]
  have q5 : (k == 5) = false := by simp [hk]
  have q6 : (k == 6) = false := by simp [hk]
  have q7 : (k == 7) = false := by simp [hk]
  clear hL hk
  unfold cfgV callV callK
  simp only
  go_enter Try.func53, Try.ntmps53
  go_wp2_with (first
    | (go_at_call 68; refine (line_any ⟨(s : Nat), sa, lo, hi⟩ _ (by simp) (by simp; omega)).mono ?_; rintro e w1 ⟨rfl, hb1⟩)
    | (go_at_call 66; refine (one_any 3 _ _).mono ?_; unfold OpsRet; rintro e w2 ⟨g2, c2, rfl, hown2, hb2⟩))
  go_ret
  exact opsRet_mk hown2 (bthen (bthen (balloc (balloc (Below.refl _ _) _) _) hb1) hb2) rfl rfl (by have := hb1.size; simp at this; omega)

end
end Go.Proofs.Ythfkgffalhkeeaa
