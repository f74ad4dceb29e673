/- slices.Compact at keys, walked; Contracts of the shelf, laid at this program (by lay-plain.mjs; numbers by name). -/
import Derived.Test.YtmniiodpbebnmaaGreatJ02
import Derived.Deep.LoopGhost
import Derived.Sort.WalkB12
import Derived.Lib.SliceRun
import Derived.Lib.OwnBridge
import Derived.Shelf.GgSortFunc.RowK
import Derived.Shelf.SlicesQ.Reverse
import Derived.Test.YtmniiodpbebnmaaGreatJ18
import Derived.Shelf.SlicesE.Clone
namespace Go.Proofs.YtmniiodpbebnmaaGreat

section
set_option linter.unusedSimpArgs false
set_option linter.unusedVariables false
open Go.RowKit Go.Lib Go.Sort

/-- A key's two cells. -/
def encK (p : Ky) : List Value := [.int .u64 p.1, .int .u64 p.2]
theorem encK_len (p : Ky) : (encK p).length = 2 := rfl
theorem encK_one (p : Ky) : ∀ v ∈ encK p, v.oneCell' = true := by
  intro v hv
  simp [encK] at hv
  rcases hv with rfl | rfl <;> rfl

theorem cellsK_get (l : List Ky) (j : Nat) (h : j < l.length * 2) : (cellsK l)[j]? = some (encK (l[j / 2]'(by omega)))[j % 2]! := by
  obtain ⟨h1, h2⟩ := cellsK_at l (j / 2) (l[j / 2]'(by omega)) (List.getElem?_eq_getElem (by omega))
  rcases Nat.mod_two_eq_zero_or_one j with e | e
  · rw [show j / 2 * 2 = j by omega] at h1
    rw [h1, e]; rfl
  · rw [show j / 2 * 2 + 1 = j by omega] at h2
    rw [h2, e]; rfl

theorem flat_cells (d : Array Ky) : flatK encK 2 d = (cellsK d.toList).toArray := by
  refine ext_get! (by simp [cellsK_len]) fun t ht => ?_
  have ht' : t < d.size * 2 := by simpa using ht
  rw [get_flatK _ _ _ t ht']
  have hc := cellsK_get d.toList t (by simpa using ht')
  have : (cellsK d.toList).toArray[t]! = (cellsK d.toList)[t]! := by simp
  rw [this, List.getElem!_of_getElem? hc, getElem!_pos d (t / 2) (by omega)]
  simp

theorem cells2 {w : World} {blk off : Nat} {d : Array Ky} (h : HoldsK encK 2 w blk off d) {i : Nat} (hi : i < d.size) :
    w.cell? ⟨blk, off + i * 2, none⟩ = some (.int .u64 (d[i]!).1) ∧ w.cell? ⟨blk, off + i * 2 + 1, none⟩ = some (.int .u64 (d[i]!).2) ∧ w.frozen? ⟨blk, off + i * 2, none⟩ = false ∧ w.frozen? ⟨blk, off + i * 2 + 1, none⟩ = false := by
  obtain ⟨a, b⟩ := h.cell (c := 0) hi (by omega)
  obtain ⟨c, d⟩ := h.cell (c := 1) hi (by omega)
  exact ⟨a, c, b, d⟩

theorem set_key (d : Array Ky) (i : Nat) (x : Ky) (hi : i < d.size) : setMany (flatK encK 2 d) (i * 2) (encK x) = flatK encK 2 (d.setIfInBounds i x) := by
  refine ext_get! (by simp) fun t ht => ?_
  have ht' : t < d.size * 2 := by simpa using ht
  rw [get_setMany _ _ _ t (by simpa using ht'), get_flatK _ _ _ t ht', get_flatK _ _ _ t (by simpa using ht'), encK_len]
  by_cases a : t / 2 = i
  · rw [if_pos ((blk_iff 2 i t (by omega)).2 a), a, getElem!_set_same d i x hi, show t - i * 2 = t % 2 by omega]
  · rw [if_neg (fun h => a ((blk_iff 2 i t (by omega)).1 h)), getElem!_set_other d i _ x a]

theorem store_keys {w wr : World} {n q blk off : Nat} {dk : Array Ky} {i : Nat} (hi : i < dk.size) (hwr : wr = putRowK encK 2 (Sort.ahead w n) blk off dk) (x : Ky) :
    (((wr.setCell ⟨blk, off + i * 2, none⟩ (.int .u64 x.1)).setCell ⟨blk, off + i * 2 + 1, none⟩ (.int .u64 x.2))).drewN q = putRowK encK 2 (Sort.ahead w (n + q)) blk off (dk.setIfInBounds i x) := by
  subst hwr
  have h := setCells_putRow (Sort.ahead w (n + q)) blk off (encK x) (i * 2) (flatK encK 2 dk) (by simp [encK_len]; omega)
  rw [set_key dk i x hi] at h
  unfold putRowK
  rw [← h, ← Go.Proofs.putRow_drewN]
  rfl

theorem zero_cells (n : Nat) : (Builtin.zeroCells #[.int .u64 0, .int .u64 0] n).toList = List.replicate (n * 2) (.int .u64 0) := by
  apply List.ext_getElem
  · simp [Builtin.zeroCells]
  · intro i h1 h2
    simp only [Builtin.zeroCells, Array.toList_map, List.getElem_map, List.getElem_replicate]
    simp only [Array.toList_range, List.getElem_range]
    show (#[Value.int .u64 0, Value.int .u64 0] : Array Value)[i % 2]! = _
    rcases Nat.mod_two_eq_zero_or_one i with e | e <;> rw [e] <;> rfl

theorem run_clear_keys (w : World) (ty : TypeId) (b o n c : Nat) (hn : 0 < n) (hc : ∀ j, j < n * 2 → (w.cell? ⟨b, o + j, none⟩).isSome = true) (hf : ∀ j, j < n * 2 → w.frozen? ⟨b, o + j, none⟩ = false) :
    (Builtin.clear_ #[92] ty #[.slice (some ⟨b, o, none⟩) n c]).run Tryz.prog w = .ok (.tuple #[]) (w.setCells b o (List.replicate (n * 2) (.int .u64 0))) := by
  have hst := run_storeCells_cells (P := Tryz.prog) b o (List.replicate (n * 2) (.int .u64 0)) 0 w (by simpa using hc) (by simpa using hf) (by intro v hv'; rw [List.eq_of_mem_replicate hv']; rfl)
  simp only [Nat.add_zero] at hst
  obtain ⟨m, rfl⟩ : ∃ m, n = m + 1 := ⟨n - 1, by omega⟩
  have hz : (Value.agg #[.int .u64 0, .int .u64 0]).cells = #[.int .u64 0, .int .u64 0] := rfl
  simp [Builtin.clear_, run_underlying Tryz.underlying92, Tryz.zeroValue74, hz, zero_cells, hst]

/-- What Compact leaves. -/
def CompactSays (w : World) (blk off : Nat) (d : Array Ky) (cap' : Nat) (e : Ending) (w' : World) : Prop :=
  ∃ (q : Nat) (F : Array Value), e = .returned (.slice (some ⟨blk, off, none⟩) (compactUpTo d d.size).length cap') ∧ w' = putRow id (Sort.ahead w q) blk off F ∧ F.size = d.size * 2 ∧ ∀ (j : Nat) (u : Value), (cellsK (compactUpTo d d.size))[j]? = some u → F[j]? = some u

theorem compact_same {w : World} {blk off : Nat} {d : Array Ky} (hH : HoldsK encK 2 w blk off d) (hall : ∀ j, j < d.size → keeps d j = true) (c q : Nat) :
    CompactSays w blk off d c (.returned (.slice (some ⟨blk, off, none⟩) d.size c)) (w.drewN q) := by
  have e : compactUpTo d d.size = d.toList := by rw [compactUpTo_all d _ hall, range_map_get]
  refine ⟨q, flatK encK 2 d, by rw [e]; simp, (putRowK_self encK 2 (Sort.ahead w q) blk off d (holdsK_ahead encK 2 w q blk off d hH)).symm, by simp, fun j u hu => ?_⟩
  rw [e] at hu
  rw [flat_cells]
  simpa using hu

theorem compact_done {w : World} {blk off kk q : Nat} {d dk : Array Ky} (hI : CompInv d d.size kk dk) (cap' : Nat) :
    CompactSays w blk off d cap' (.returned (.slice (some ⟨blk, off, none⟩) kk cap')) ((putRowK encK 2 (Sort.ahead w q) blk off dk).setCells blk (off + kk * 2) (List.replicate ((d.size - kk) * 2) (.int .u64 0))) := by
  have hlt := hI.lt
  have hs := hI.size
  have hl := hI.len
  refine ⟨q, _, by rw [hl], setCells_putRow (Sort.ahead w q) blk off _ (kk * 2) (flatK encK 2 dk) (by simp; omega), by simp [hs], fun j u hu => ?_⟩
  have hj := (List.getElem?_eq_some_iff.1 hu).1
  rw [cellsK_len, hl] at hj
  have hjs : j < (flatK encK 2 dk).size := by simp; omega
  have h1 : (setMany (flatK encK 2 dk) (kk * 2) (List.replicate ((d.size - kk) * 2) (.int .u64 0)))[j]! = (flatK encK 2 dk)[j]! := by
    rw [get_setMany _ _ _ j hjs, if_neg (by omega)]
  have h2 := cellsK_get (compactUpTo d d.size) j (by rw [hl]; exact hj)
  have h3 := hI.low (j / 2) (by omega)
  rw [List.getElem?_eq_getElem (by omega)] at h3
  simp only [Option.some.injEq] at h3
  rw [h3, hu] at h2
  rw [get_flatK _ _ _ j (by omega)] at h1
  rw [h2, ← h1, getElem!_pos _ j (by simpa using hjs)]
  exact Array.getElem?_eq_getElem _

set_option maxRecDepth 1000000 in
set_option maxHeartbeats 4000000 in
theorem compact_any (blk off cap : Nat) (d : Array Ky) (w : World) (hH : HoldsK encK 2 w blk off d) (hsz : d.size ≤ 9223372036854775807) (hcap : d.size ≤ cap) :
    Calls Tryz.prog 169 #[.slice (some ⟨blk, off, none⟩) d.size cap] w (CompactSays w blk off d cap) := by
  by_cases h2 : d.size < 2
  · have HH := Lib.hid hH
    clear hH
    go_enter Tryz.func169, Tryz.ntmps169
    go_wp2
    go_ret
    exact compact_same HH.out (fun j hj => keeps_lt_one d j (by omega)) _ 0
  · go_enter Tryz.func169, Tryz.ntmps169
    have HH := Lib.hid hH
    clear hH
    go_wp2
    go_loopg [3] d.size (fun g s3 wr => ∃ k q : Nat, 1 ≤ k ∧ k ≤ d.size ∧ d.size - k ≤ g ∧ s3 = .int .i64 k ∧ wr = w.drewN q ∧ ∀ j, j < k → keeps d j = true)
    case atStart => exact ⟨1, 0, Nat.le_refl _, by omega, by omega, rfl, rfl, keeps_lt_one d⟩
    case round =>
      obtain ⟨k, q, hk1, hk, hg, rfl, rfl, hall⟩ := hrel
      have A := Lib.hid hall
      clear hall
      by_cases hlt : k < d.size
      · obtain ⟨c1, c2, _, _⟩ := cells2 HH.out hlt
        obtain ⟨c3, c4, _, _⟩ := cells2 HH.out (i := k - 1) (by omega)
        generalize hx : d[k]! = x at c1 c2
        generalize hy : d[k - 1]! = y at c3 c4
        have B := Lib.hid (And.intro hx hy)
        clear hx hy
        by_cases hdup : x = y
        · subst hdup
          go_wp2_with fail
          go_quiet (fail)
          go_wp2
          clear c1 c2 c3 c4
          go_loopg [3, 5] d.size (fun g s3 s5 wr => ∃ (kk k2 q2 : Nat) (dk : Array Ky), s3 = .int .i64 kk ∧ s5 = .int .i64 k2 ∧ 1 ≤ k2 ∧ k + k2 ≤ d.size ∧ d.size - (k + k2) ≤ g ∧ wr = putRowK encK 2 (Sort.ahead w q2) blk off dk ∧ CompInv d (k + k2) kk dk)
          case atStart =>
            refine ⟨k, 1, q + nq, d, rfl, rfl, Nat.le_refl _, by omega, by omega, (putRowK_self encK 2 (Sort.ahead w (q + nq)) blk off d (holdsK_ahead encK 2 w (q + nq) blk off d HH.out)).symm, CompInv.start A.out (keeps_neg (by omega) (by rw [B.out.1, B.out.2]))⟩
          case round =>
            obtain ⟨kk, k2, q2, dk, rfl, rfl, h1, hle, hg2, hwr, hI⟩ := hrel
            have hkk := hI.lt
            have hds := hI.size
            have hHk : HoldsK encK 2 wr blk off dk := by rw [hwr]; exact holdsK_putRowK encK 2 _ blk off d dk (holdsK_ahead encK 2 w q2 blk off d HH.out) hds
            have W2 := Lib.hid hwr
            have I2 := Lib.hid hI
            clear hwr
            by_cases hlt2 : k + k2 < d.size
            · obtain ⟨m1, m2, _, _⟩ := cells2 hHk (i := k + k2) (by omega)
              obtain ⟨p1, p2, _, _⟩ := cells2 hHk (i := k + k2 - 1) (by omega)
              obtain ⟨t1, t2, t3, t4⟩ := cells2 hHk (i := kk) (by omega)
              rw [hI.high (k + k2) (by omega), show off + (k + k2) * 2 = off + k * 2 + k2 * 2 by omega] at m1 m2
              rw [hI.high (k + k2 - 1) (by omega), show off + (k + k2 - 1) * 2 = off + k * 2 + (k2 - 1) * 2 by omega] at p1 p2
              clear hHk hI
              generalize hu : d[k + k2]! = u at m1 m2
              generalize hv : d[k + k2 - 1]! = v at p1 p2
              generalize dk[kk]! = old at t1 t2
              have C := Lib.hid (And.intro hu hv)
              clear hu hv
              by_cases huv : u = v
              · subst huv
                go_wp2_with fail
                go_quiet (fail)
                go_wp2
                go_roundg (d.size - (k + (k2 + 1)))
                case measure => omega
                case rel => exact ⟨kk, k2 + 1, q2 + nq, dk, rfl, by go_num, by omega, by omega, Nat.le_refl _, by rw [W2.out]; exact putRowK_drewN encK 2 w q2 nq blk off dk, I2.out.skip (keeps_neg (by omega) (by rw [C.out.1, C.out.2]))⟩
              · have hkeep := Lib.hid (keeps_pos (d := d) (m := k + k2) (by rw [C.out.1, C.out.2]; exact huv))
                by_cases h1 : u.1 = v.1
                · have hh : ((u.2 : Int) == (v.2 : Int)) = false := by
                    have : u.2 ≠ v.2 := fun h2 => huv (Prod.ext h1 h2)
                    simp; omega
                  rw [← h1] at p1
                  clear huv h1
                  go_wp2_with fail
                  go_quiet (fail)
                  go_wp2
                  go_roundg (d.size - (k + (k2 + 1)))
                  case measure => omega
                  case rel => exact ⟨kk + 1, k2 + 1, q2 + nq, dk.setIfInBounds kk u, by go_num, by go_num, by omega, by omega, Nat.le_refl _, store_keys (by omega) W2.out u, by have := I2.out.keep hlt2 hkeep.out; rwa [C.out.1] at this⟩
                · have hh : ((u.1 : Int) == (v.1 : Int)) = false := by simp; omega
                  clear huv h1
                  go_wp2_with fail
                  go_quiet (fail)
                  go_wp2
                  go_roundg (d.size - (k + (k2 + 1)))
                  case measure => omega
                  case rel => exact ⟨kk + 1, k2 + 1, q2 + nq, dk.setIfInBounds kk u, by go_num, by go_num, by omega, by omega, Nat.le_refl _, store_keys (by omega) W2.out u, by have := I2.out.keep hlt2 hkeep.out; rwa [C.out.1] at this⟩
            · have hend : k + k2 = d.size := by omega
              have hcl : ∀ ty, (Builtin.clear_ #[92] ty #[.slice (some ⟨blk, off + kk * 2, none⟩) (d.size - kk) (cap - kk)]).run Tryz.prog wr = .ok (.tuple #[]) (wr.setCells blk (off + kk * 2) (List.replicate ((d.size - kk) * 2) (.int .u64 0))) :=
                fun ty => run_clear_keys wr ty blk (off + kk * 2) _ _ (by omega)
                  (fun j hj => by rw [Nat.add_assoc, (hHk (kk * 2 + j) (by simp; omega)).1]; rfl) (fun j hj => by rw [Nat.add_assoc]; exact (hHk (kk * 2 + j) (by simp; omega)).2)
              clear hHk hI
              go_wp2
              go_ret
              have hI := I2.out
              rw [hend] at hI
              rw [W2.out]
              exact compact_done hI _
        · have hrel' : ∀ j, j < k + 1 → keeps d j = true := fun j hj => by
            by_cases e : j = k
            · subst e
              exact keeps_pos (by rw [B.out.1, B.out.2]; exact hdup)
            · exact A.out j (by omega)
          have HR := Lib.hid hrel'
          clear hrel'
          by_cases h1 : x.1 = y.1
          · have hh : ((x.2 : Int) == (y.2 : Int)) = false := by
              have : x.2 ≠ y.2 := fun h2 => hdup (Prod.ext h1 h2)
              simp; omega
            rw [← h1] at c3
            clear hdup h1
            go_wp2_with fail
            go_quiet (fail)
            go_wp2
            go_roundg (d.size - (k + 1))
            case measure => omega
            case rel => exact ⟨k + 1, q + nq, by omega, by omega, Nat.le_refl _, by go_num, rfl, HR.out⟩
          · have hh : ((x.1 : Int) == (y.1 : Int)) = false := by simp; omega
            clear hdup h1
            go_wp2_with fail
            go_quiet (fail)
            go_wp2
            go_roundg (d.size - (k + 1))
            case measure => omega
            case rel => exact ⟨k + 1, q + nq, by omega, by omega, Nat.le_refl _, by go_num, rfl, HR.out⟩
      · obtain rfl : k = d.size := by omega
        go_wp2
        go_ret
        exact compact_same HH.out A.out _ q
end

section
set_option linter.unusedSimpArgs false
set_option linter.unusedVariables false
open Go.Shelf
end

end Go.Proofs.YtmniiodpbebnmaaGreat
