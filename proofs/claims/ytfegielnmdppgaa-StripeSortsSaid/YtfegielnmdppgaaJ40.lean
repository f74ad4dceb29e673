/- a stripe's room and keep. -/
import Derived.Test.YtfegielnmdppgaaJ39
namespace Go.Proofs.Ytfegielnmdppgaa

section
set_option linter.unusedSimpArgs false
set_option linter.unusedVariables false
open Go.RowKit Go.Lib Go.Sort
open Go.ChangeMaps (setBlock)

theorem look_es {w : World} {M : Nat} {es : List (KO × NE)} (h : MapIn koV neV w M es) (x : KO) (c : Bool) :
    (Instr.lookup 66 (.map (some M)) (.agg #[.int .u64 x.1.1, .int .u64 x.1.2]) c).run Try.prog w = .ok (if c then .tuple #[((findM es x).map neV).getD (.pointer none), .bool (hasM es x)] else ((findM es x).map neV).getD (.pointer none)) w :=
  MapIn.look (V := neV) h keysBy Try.underlying66 (Try.zeroValue28 w) c x
theorem store_es {w : World} {M : Nat} {es : List (KO × NE)} (h : MapIn koV neV w M es) (x : KO) (b : NE) :
    ∃ o, (Instr.mapUpdate 66 (.map (some M)) (.agg #[.int .u64 x.1.1, .int .u64 x.1.2]) (.pointer (some ⟨b.1, 0, none⟩))).run Try.prog w = .ok () (setBlock w M o) ∧ MapIn koV neV (setBlock w M o) M (putM es x b) :=
  MapIn.store (V := neV) h keysBy Try.underlying66 x b
theorem none_has {es : List (KO × NE)} {k : KO} (h : findM es k = none) : hasM es k = false := by
  cases hh : hasM es k with
  | false => rfl
  | true => obtain ⟨v, hv, _⟩ := findM_some hh; rw [hv] at h; cases h
theorem SAt.cells {w : World} {T M : Nat} {c : Cfg} {ver : Nat} {es : List (KO × NE)} {rs rh : Nat} (h : SAt w T M c ver es rs rh) {j : Nat} {v : Value}
    (e : (#[.map (some M), .int .i64 c.st, .int .i64 c.sa, .int .i64 c.lo, .int .i64 c.hi, .int .i64 (ver : Nat)] : Array Value)[j]? = some v) : ∀ W, Below w.heap.size w W → W.cell? ⟨T, j, none⟩ = some v := fun W hW =>
  (hW.cell (p := ⟨T, j, none⟩) h.ltT).trans (by simp only [World.cell?, h.cell]; exact e)

set_option maxRecDepth 100000 in
set_option maxHeartbeats 4000000 in
theorem room_some (T M : Nat) (c : Cfg) (ver : Nat) (es : List (KO × NE)) (rs rh : Nat) (k : KO) (b : NE) (w : World) (h : SAt w T M c ver es rs rh) (hb : findM es k = some b) :
    Calls Try.prog 27 #[.pointer (some ⟨T, 0, none⟩), .agg #[.int .u64 k.1.1, .int .u64 k.1.2]] w fun e w' => e = .returned (.tuple #[.pointer (some ⟨b.1, 0, none⟩), .int .i64 0]) ∧ Below w.heap.size w w' := by
  have r1 := h.cells (j := 0) rfl
  have r4 : ∀ n, (Instr.lookup 66 (.map (some M)) (.agg #[.int .u64 k.1.1, .int .u64 k.1.2]) true).run Try.prog ((w.alloc (.cells #[.int .u64 k.1.1, .int .u64 k.1.2] 27)).drewN n) = .ok (.tuple #[.pointer (some ⟨b.1, 0, none⟩), .bool true]) ((w.alloc (.cells #[.int .u64 k.1.1, .int .u64 k.1.2] 27)).drewN n) := fun n => by
    have := look_es ((h.below (below_drewN (balloc (Below.refl _ _) (.cells #[.int .u64 k.1.1, .int .u64 k.1.2] 27)) n)).map) k true
    simpa [hb, find_has hb, neV] using this
  have hlt := h.ltT
  clear h hb
  go_enter Try.func27, Try.ntmps27
  go_wp2_with fail
  go_quiet (fail)
  go_wp2
  exact bodyPost_ret (v := .tuple #[.pointer (some ⟨b.1, 0, none⟩), .int .i64 0]) (by simp [results, Try.results27, go_sem]) rfl ⟨rfl, below_drewN (balloc (Below.refl _ _) _) _⟩

set_option maxRecDepth 100000 in
set_option maxHeartbeats 4000000 in
theorem room_full (T M : Nat) (c : Cfg) (ver : Nat) (es : List (KO × NE)) (rs rh : Nat) (k : KO) (w : World) (h : SAt w T M c ver es rs rh) (hb : findM es k = none) (hl : c.lo ≤ (es.length : Nat)) :
    Calls Try.prog 27 #[.pointer (some ⟨T, 0, none⟩), .agg #[.int .u64 k.1.1, .int .u64 k.1.2]] w fun e w' => e = .returned (.tuple #[.pointer none, .int .i64 6]) ∧ Below w.heap.size w w' := by
  have r1 := h.cells (j := 0) rfl
  have r2 := h.cells (j := 3) rfl
  have r4 : ∀ n, (Instr.lookup 66 (.map (some M)) (.agg #[.int .u64 k.1.1, .int .u64 k.1.2]) true).run Try.prog ((w.alloc (.cells #[.int .u64 k.1.1, .int .u64 k.1.2] 27)).drewN n) = .ok (.tuple #[.pointer none, .bool false]) ((w.alloc (.cells #[.int .u64 k.1.1, .int .u64 k.1.2] 27)).drewN n) := fun n => by
    have := look_es ((h.below (below_drewN (balloc (Below.refl _ _) (.cells #[.int .u64 k.1.1, .int .u64 k.1.2] 27)) n)).map) k true
    simpa [hb, none_has hb] using this
  have H := Lib.hid h
  have hlt := h.ltT
  clear h hb
  go_enter Try.func27, Try.ntmps27
  go_wp2_with fail
  go_quiet (fail)
  obtain ⟨W1, hW1⟩ : ∃ W1 : World, W1 = (w.alloc (.cells #[.int .u64 k.1.1, .int .u64 k.1.2] 27)).drewN nq := ⟨_, rfl⟩
  rw [← hW1]
  have hb1 : Below w.heap.size w W1 := by rw [hW1]; exact below_drewN (balloc (Below.refl _ _) _) _
  have h1 := H.out.below hb1
  have s1 := h1.cells (j := 0) rfl
  have s2 := h1.cells (j := 3) rfl
  have r5 : ∀ n ty, (Builtin.len_ #[66] ty #[.map (some M)]).run Try.prog (W1.drewN n) = .ok (.int .i64 es.length) (W1.drewN n) := fun n ty => MapIn.len (h1.map.below (below_drewN (Below.refl _ _) n)) Try.underlying66 ty
  have hlt1 := h1.ltT
  have HB1 := Lib.hid hb1
  clear hW1 h1 r1 r2 r4 hb1
  go_wp2_with fail
  go_quiet (fail)
  go_wp2
  exact bodyPost_ret (v := .tuple #[.pointer none, .int .i64 6]) (by simp [results, Try.results27, go_sem]) rfl ⟨rfl, below_drewN HB1.out _⟩

set_option maxRecDepth 100000 in
set_option maxHeartbeats 4000000 in
theorem room_new (T M : Nat) (c : Cfg) (ver : Nat) (es : List (KO × NE)) (rs rh : Nat) (k : KO) (w : World) (h : SAt w T M c ver es rs rh) (hb : findM es k = none) (hl : ¬ c.lo ≤ (es.length : Nat)) (hc : cfgB c = true) (hrs : c.sa = (rs : Nat)) (hrh : c.hi = (rh : Nat)) (hok : c.ok) :
    Calls Try.prog 27 #[.pointer (some ⟨T, 0, none⟩), .agg #[.int .u64 k.1.1, .int .u64 k.1.2]] w (NdSays w nd0 rs rh [] (fun q => .tuple #[q, .int .i64 0])) := by
  have r1 := h.cells (j := 0) rfl
  have r2 := h.cells (j := 3) rfl
  have r4 : ∀ n, (Instr.lookup 66 (.map (some M)) (.agg #[.int .u64 k.1.1, .int .u64 k.1.2]) true).run Try.prog ((w.alloc (.cells #[.int .u64 k.1.1, .int .u64 k.1.2] 27)).drewN n) = .ok (.tuple #[.pointer none, .bool false]) ((w.alloc (.cells #[.int .u64 k.1.1, .int .u64 k.1.2] 27)).drewN n) := fun n => by
    have := look_es ((h.below (below_drewN (balloc (Below.refl _ _) (.cells #[.int .u64 k.1.1, .int .u64 k.1.2] 27)) n)).map) k true
    simpa [hb, none_has hb] using this
  have H := Lib.hid h
  have HNN := Lib.hid (fun W => nodeNew_any c rs rh W hc hrs hrh hok)
  obtain ⟨st, sa, lo, hi⟩ := c
  unfold cfgV at HNN
  dsimp only at HNN hl r2
  have hlt := h.ltT
  clear h hb hc hrs hrh hok
  go_enter Try.func27, Try.ntmps27
  go_wp2_with fail
  go_quiet (fail)
  obtain ⟨W1, hW1⟩ : ∃ W1 : World, W1 = (w.alloc (.cells #[.int .u64 k.1.1, .int .u64 k.1.2] 27)).drewN nq := ⟨_, rfl⟩
  rw [← hW1]
  have hb1 : Below w.heap.size w W1 := by rw [hW1]; exact below_drewN (balloc (Below.refl _ _) _) _
  have h1 := H.out.below hb1
  have s1 := h1.cells (j := 0) rfl
  have s2 := h1.cells (j := 3) rfl
  have r5 : ∀ n ty, (Builtin.len_ #[66] ty #[.map (some M)]).run Try.prog (W1.drewN n) = .ok (.int .i64 es.length) (W1.drewN n) := fun n ty => MapIn.len (h1.map.below (below_drewN (Below.refl _ _) n)) Try.underlying66 ty
  have hlt1 := h1.ltT
  have HB1 := Lib.hid hb1
  have H1 := Lib.hid h1
  clear hW1 h1 r1 r2 r4 hb1
  go_wp2_with fail
  go_quiet (fail)
  obtain ⟨W2, hW2⟩ : ∃ W2 : World, W2 = W1.drewN nq := ⟨_, rfl⟩
  rw [← hW2]
  have hb2 : Below W1.heap.size W1 W2 := by rw [hW2]; exact below_drewN (Below.refl _ _) _
  have h2 := H1.out.below hb2
  have t1 := h2.cells (j := 1) rfl W2 (Below.refl _ _)
  have t2 := h2.cells (j := 2) rfl W2 (Below.refl _ _)
  have t3 := h2.cells (j := 3) rfl W2 (Below.refl _ _)
  have t4 := h2.cells (j := 4) rfl W2 (Below.refl _ _)
  have hlt2 := h2.ltT
  have HB2 := Lib.hid (bthen HB1.out hb2)
  clear hW2 h2 s1 s2 r5 hb2
  go_wp2_with (go_at_call 5; refine (HNN.out W2).mono ?_; rintro e w3 ⟨N, fq, rfl, h1, h2, h3⟩)
  refine bodyPost_ret (v := .tuple #[.pointer (some ⟨N, 0, none⟩), .int .i64 0]) (by simp [results, Try.results27, go_sem]) rfl ?_
  have hb3 : Below w.heap.size w w3 := bthen HB2.out h3
  exact ⟨N, fq, rfl, h1, hb3.os, hb3.tape, hb3.output, hb3.size, fun r hr _ => hb3.block r hr, fun r hr => .inr (by have := h2 r hr; have := HB2.out.size; omega)⟩

set_option maxRecDepth 100000 in
set_option maxHeartbeats 4000000 in
theorem keep_any (T M : Nat) (c : Cfg) (ver : Nat) (es : List (KO × NE)) (rs rh : Nat) (k : KO) (N : Nat) (y : Nd) (fq : List Nat) (w : World) (h : SHole w T M c ver es rs rh k fq) (hn : NodeIn w N y rs rh fq) (hv : ver ≤ 1000000) :
    Calls Try.prog 28 #[.pointer (some ⟨T, 0, none⟩), .agg #[.int .u64 k.1.1, .int .u64 k.1.2], .pointer (some ⟨N, 0, none⟩)] w fun e w' => e = .returned (.tuple #[]) ∧ SAt w' T M c (ver + 1) (putM es k (N, y, fq)) rs rh ∧ Upd w w' [T, M] [T, M] := by
  have hw : IntKind.i64.wrap ((ver : Int) + 1) = ((ver + 1 : Nat) : Int) := by rw [IntKind.wrap_i64]; omega
  have hlt : T < w.heap.size := (Array.getElem?_eq_some_iff.1 h.cell).1
  have H := Lib.hid h
  have HN := Lib.hid hn
  have hne := h.ne
  clear h hn
  go_enter Try.func28, Try.ntmps28
  go_wp2_with fail
  refine name_world ?_
  intro W hW
  have hb1 : Below w.heap.size w W := by rw [hW]; exact balloc (Below.refl _ _) _
  have hx1 : W.heap[w.heap.size]? = some (.cells #[.int .u64 k.1.1, .int .u64 k.1.2] 27 (0, 0)) := by rw [hW]; exact heap_alloc_new _ _
  have a1 : W.cell? ⟨w.heap.size, 0, none⟩ = some (.int .u64 k.1.1) := by simp [World.cell?, hx1]
  have a2 : W.cell? ⟨w.heap.size, 1, none⟩ = some (.int .u64 k.1.2) := by simp [World.cell?, hx1]
  have h1 := H.out.below hb1
  have hltW : T < W.heap.size := (Array.getElem?_eq_some_iff.1 h1.cell).1
  have z0 : W.cell? ⟨T, 0, none⟩ = some (.map (some M)) := by simp only [World.cell?, h1.cell]; rfl
  obtain ⟨o5, hs5, hset5⟩ := store_es (w := W.drew) (M := M) (h1.map.below ((Below.refl _ W).drew)) k (N, y, fq)
  dsimp only at hs5
  have hd := (h1.below ((Below.refl _ W).drew)).keep (o := o5) (HN.out.below (hb1.drew)) hset5
  have hcT : (setBlock W.drew M o5).heap[T]? = _ := (setBlock_other (o := o5) hne).trans (h1.below ((Below.refl _ W).drew)).cell
  have HD := Lib.hid hd
  have HT := Lib.hid hcT
  have HB1 := Lib.hid hb1
  clear hW hset5 h1 hd hcT hx1
  go_region
  obtain ⟨W2, hW2⟩ : ∃ W2 : World, W2 = setBlock W.drew M o5 := ⟨_, rfl⟩
  rw [← hW2]
  rw [← hW2] at HD HT
  have y0 : W2.cell? ⟨T, 5, none⟩ = some (.int .i64 (ver : Nat)) := by simp only [World.cell?, HT.out]; rfl
  have y1 : W2.frozen? ⟨T, 5, none⟩ = false := plain_cells HT.out
  have y2 : T < W2.heap.size := (Array.getElem?_eq_some_iff.1 HT.out).1
  clear hW2 z0 a1 a2 hs5
  go_wp2
  go_end0
  refine ⟨rfl, HD.out.1, ?_⟩
  exact (Upd.of_below (HB1.out.drew) _).trans HD.out.2
end

end Go.Proofs.Ytfegielnmdppgaa
