/- Walks of calls.Cuts, Line, one, all, inner, Ops. -/
import Derived.Test.YthfkgffalhkeeaaRoute
import Derived.Deep.AppendLies
import Derived.Deep.RegionLaw
namespace Go.Proofs.Ythfkgffalhkeeaa
open Go.RowKit Go.Lib

/-! ### Rows of steps -/
def opsV (l : List (Int × Int)) : List Value := l.flatMap fun p => [.int .i64 p.1, .int .i64 p.2]
theorem opsV_len (l : List (Int × Int)) : (opsV l).length = l.length * 2 := by
  induction l with
  | nil => rfl
  | cons a l ih => simp [opsV] at ih ⊢; omega
theorem opsV_app (l m : List (Int × Int)) : opsV l ++ opsV m = opsV (l ++ m) := by simp [opsV]
theorem opsV_one (l : List (Int × Int)) : ∀ u ∈ opsV l, u.oneCell' = true := by
  intro u hu
  obtain ⟨p, _, hp⟩ := List.mem_flatMap.1 hu
  simp at hp
  rcases hp with rfl | rfl <;> rfl

/-- A call hands back a row of steps of its own. -/
def OpsRet (T : TypeId) (w : World) (l : List (Int × Int)) (e : Ending) (w' : World) : Prop :=
  ∃ g c, e = .returned (.slice (some ⟨g, 0, none⟩) l.length c) ∧ w'.ownsRow w.heap.size T 2 (.slice (some ⟨g, 0, none⟩) l.length c) l.length (opsV l) ∧ Below w.heap.size w w'

theorem op_info : (Try.prog.info? 84).map (fun i => (i.zero, i.size, i.bytes)) = some (some (.agg #[.int .i64 0, .int .i64 0]), 2, 16) := by kernel_rfl

/-- What grows a row of its own turns nothing below. -/
theorem below_grown {B : Nat} {a b : World} {row : Option Nat} (h : a.grownBy b row) (hB : B ≤ a.heap.size) (hr : ∀ k, row = some k → B ≤ k) : Below B a b := (Below.refl B a).grown h hB hr

theorem own_mono {w : World} {base base' : Nat} {e : TypeId} {size : Nat} {v : Value} {n : Nat} {xs : List Value} (h : w.ownsRow base e size v n xs) (hb : base' ≤ base) : w.ownsRow base' e size v n xs := by
  refine ⟨h.1, ?_⟩
  rcases h.2 with hn | ⟨g, cap, cur, hv, hg, rest⟩
  · exact .inl hn
  · exact .inr ⟨g, cap, cur, hv, by omega, rest⟩

set_option maxRecDepth 100000 in
set_option maxHeartbeats 1000000 in
theorem cuts_any (c : Cfg) (w : World) :
    Calls Try.prog 70 #[cfgV c] w fun e w' => e = .returned (.int .i64 c.st) ∧ Below w.heap.size w w' := by
  obtain ⟨st, sa, lo, hi⟩ := c
  unfold cfgV
  simp only
  go_enter Try.func70, Try.ntmps70
  go_wp2
  go_ret
  exact ⟨rfl, balloc (Below.refl _ _) _⟩

set_option maxRecDepth 100000 in
set_option maxHeartbeats 1000000 in
theorem line_any (c : Cfg) (w : World) (h0 : 0 ≤ c.st) (h1 : c.st ≤ 64) :
    Calls Try.prog 68 #[cfgV c] w fun e w' => e = .returned (.int .i64 (c.st + 1)) ∧ Below w.heap.size w w' := by
  obtain ⟨st, sa, lo, hi⟩ := c
  unfold cfgV
  simp only at h0 h1 ⊢
  go_enter Try.func68, Try.ntmps68
  go_wp2
  go_ret
  exact ⟨rfl, balloc (Below.refl _ _) _⟩

def oneL (k x : Int) : List (Int × Int) := [(k, x), (4, 0), (5, x)]

set_option maxRecDepth 100000 in
set_option maxHeartbeats 1000000 in
theorem one_any (k x : Int) (w : World) :
    Calls Try.prog 66 #[.int .i64 k, .int .i64 x] w (OpsRet 84 w (oneL k x)) := by
  go_enter Try.func66, Try.ntmps66
  go_wp2
  go_ret
  exact ⟨w.heap.size, 3, rfl, World.ownsRow_lit w #[.int .i64 k, .int .i64 x, .int .i64 4, .int .i64 0, .int .i64 5, .int .i64 x] 3 (Nat.le_refl _) (by decide) rfl, balloc (Below.refl _ _) _⟩

def allL (k : Int) (s : Nat) : List (Int × Int) := (List.range s).map fun i : Nat => (k, (i : Int))
theorem allL_len (k : Int) (s : Nat) : (allL k s).length = s := by simp [allL]
theorem allL_succ (k : Int) (s : Nat) : opsV (allL k s) ++ [.int .i64 k, .int .i64 (s : Int)] = opsV (allL k (s + 1)) := by
  simp [allL, opsV, List.range_succ]

theorem two_int (a b : Int) : ∀ u ∈ [Value.int .i64 a, Value.int .i64 b], u.oneCell' = true := by
  intro u hu
  simp at hu
  rcases hu with rfl | rfl <;> rfl

def AllRel (W : World) (kind : Int) (v : Value) (k : Nat) (w' : World) : Prop :=
  w'.ownsRow W.heap.size 84 2 v k (opsV (allL kind k)) ∧ Below W.heap.size W w'

set_option maxRecDepth 100000 in
set_option maxHeartbeats 1000000 in
theorem all_any (c : Cfg) (kind : Int) (s : Nat) (w : World) (hs : c.st = (s : Nat)) (h0 : 0 < s) (h1 : s ≤ 64) :
    Calls Try.prog 69 #[cfgV c, .int .i64 kind] w (OpsRet 84 w (allL kind s)) := by
  obtain ⟨i0, hi0, hz0, hz1, hz2⟩ := info_parts op_info
  obtain ⟨st, sa, lo, hi⟩ := c
  simp only at hs
  subst hs
  unfold cfgV
  simp only
  go_enter Try.func69, Try.ntmps69
  go_wp2
  go_loopw [5, 6, 9] (fun v _ i w' => ∃ k : Nat, k ≤ s ∧ i = .int .i64 k ∧ AllRel (w.alloc (.cells #[.int .i64 (s : Nat), .int .i64 sa, .int .i64 lo, .int .i64 hi] 38)) kind v k w') (fun _ _ i _ => s - (intOf i).toNat)
  case atStart => exact ⟨0, by omega, rfl, by simpa [allL, opsV] using World.ownsRow_nil _ _ _ _, Below.refl _ _⟩
  case round =>
    obtain ⟨k, hk, rfl, hown, hb⟩ := hrel
    have hsz := hb.size
    simp at hsz
    obtain ⟨A, cp, rfl⟩ := own_form hown
    by_cases hlt : k < s
    · go_wp2_with (at_builtin
                   refine wpList_append_own _ rfl _ _ 72 rfl _ 84 i0 _ 2 16 Try.underlying72 hi0 hz0 hz1 hz2 rfl (by decide) (.slice A k cp) k (opsV (allL kind k)) rfl (hown.alloc _) ⟨wr.heap.size, 0, none⟩ 1 1 [.int .i64 kind, .int .i64 (k : Int)] rfl rfl (cell_two_new _ _ _ _) (two_int _ _) (by simp only [maxLen]; omega) (by omega) (by simp; omega) ?_
                   intro v' w4 hown4 hgrow _)
      have hl := hown.lt
      go_roundw
      case rel =>
        rw [allL_succ] at hown4
        exact ⟨k + 1, hlt, by go_num, hown4, (hb.alloc (by simp; omega) _).grown hgrow (by simp; omega) (fun q hq => (hl q hq).1)⟩
      case measure => simp [intOf]; omega
    · obtain rfl : k = s := by omega
      obtain ⟨g, cap, hv, hg1, hg2⟩ := hown.form h0
      rw [hv] at hown ⊢
      clear hv
      go_wp2
      go_ret
      refine ⟨g, cap, by rw [allL_len]; rfl, ?_, bthen (balloc (Below.refl _ _) _) hb⟩
      rw [allL_len]
      exact own_mono hown (by simp)

end Go.Proofs.Ythfkgffalhkeeaa
