/- a stripe's room and keep; a stripe's Ingest, Get, Version. -/
import Derived.Test.YtmniiodpbebnmaaGreatJ20
namespace Go.Proofs.YtmniiodpbebnmaaGreat

section
set_option linter.unusedSimpArgs false
set_option linter.unusedVariables false
open Go.RowKit Go.Lib Go.Sort
open Go.ChangeMaps (setBlock)

theorem look_es {w : World} {M : Nat} {es : List (KO × NE)} (h : MapIn koV neV w M es) (x : KO) (c : Bool) :
    (Instr.lookup 230 (.map (some M)) (.agg #[.int .u64 x.1.1, .int .u64 x.1.2]) c).run Tryz.prog w = .ok (if c then .tuple #[((findM es x).map neV).getD (.pointer none), .bool (hasM es x)] else ((findM es x).map neV).getD (.pointer none)) w :=
  MapIn.look (V := neV) h keysBy Tryz.underlying230 (Tryz.zeroValue170 w) c x
theorem store_es {w : World} {M : Nat} {es : List (KO × NE)} (h : MapIn koV neV w M es) (x : KO) (b : NE) :
    ∃ o, (Instr.mapUpdate 230 (.map (some M)) (.agg #[.int .u64 x.1.1, .int .u64 x.1.2]) (.pointer (some ⟨b.1, 0, none⟩))).run Tryz.prog w = .ok () (setBlock w M o) ∧ MapIn koV neV (setBlock w M o) M (putM es x b) :=
  MapIn.store (V := neV) h keysBy Tryz.underlying230 x b
theorem none_has {es : List (KO × NE)} {k : KO} (h : findM es k = none) : hasM es k = false := by
  cases hh : hasM es k with
  | false => rfl
  | true => obtain ⟨v, hv, _⟩ := findM_some hh; rw [hv] at h; cases h
theorem SAt.cells {w : World} {T M : Nat} {c : Cfg} {ver : Nat} {es : List (KO × NE)} {rs rh : Nat} (h : SAt w T M c ver es rs rh) {j : Nat} {v : Value}
    (e : (#[.map (some M), .int .i64 c.st, .int .i64 c.sa, .int .i64 c.lo, .int .i64 c.hi, .int .i64 (ver : Nat)] : Array Value)[j]? = some v) : ∀ W, Below w.heap.size w W → W.cell? ⟨T, j, none⟩ = some v := fun W hW =>
  (hW.cell (p := ⟨T, j, none⟩) h.ltT).trans (by simp only [World.cell?, h.cell]; exact e)

set_option maxRecDepth 100000 in
set_option maxHeartbeats 4000000 in
theorem room_some (T M : Nat) (c : Cfg) (ver : Nat) (es : List (KO × NE)) (rs rh : Nat) (k : KO) (b : NE) (w : World) (h : SAt w T M c ver es rs rh) (hb : findM es k = some b) :
    Calls Tryz.prog 150 #[.pointer (some ⟨T, 0, none⟩), .agg #[.int .u64 k.1.1, .int .u64 k.1.2]] w fun e w' => e = .returned (.tuple #[.pointer (some ⟨b.1, 0, none⟩), .int .i64 0]) ∧ Below w.heap.size w w' := by
  have r1 := h.cells (j := 0) rfl
  have r4 : ∀ n, (Instr.lookup 230 (.map (some M)) (.agg #[.int .u64 k.1.1, .int .u64 k.1.2]) true).run Tryz.prog ((w.alloc (.cells #[.int .u64 k.1.1, .int .u64 k.1.2] 74)).drewN n) = .ok (.tuple #[.pointer (some ⟨b.1, 0, none⟩), .bool true]) ((w.alloc (.cells #[.int .u64 k.1.1, .int .u64 k.1.2] 74)).drewN n) := fun n => by
    have := look_es ((h.below (below_drewN (balloc (Below.refl _ _) (.cells #[.int .u64 k.1.1, .int .u64 k.1.2] 74)) n)).map) k true
    simpa [hb, find_has hb, neV] using this
  have hlt := h.ltT
  clear h hb
  go_enter Tryz.func150, Tryz.ntmps150
  go_wp2_with fail
  go_quiet (fail)
  go_wp2
  exact bodyPost_ret (v := .tuple #[.pointer (some ⟨b.1, 0, none⟩), .int .i64 0]) (by simp [results, Tryz.results150, go_sem]) rfl ⟨rfl, below_drewN (balloc (Below.refl _ _) _) _⟩

set_option maxRecDepth 100000 in
set_option maxHeartbeats 4000000 in
theorem room_full (T M : Nat) (c : Cfg) (ver : Nat) (es : List (KO × NE)) (rs rh : Nat) (k : KO) (w : World) (h : SAt w T M c ver es rs rh) (hb : findM es k = none) (hl : c.lo ≤ (es.length : Nat)) :
    Calls Tryz.prog 150 #[.pointer (some ⟨T, 0, none⟩), .agg #[.int .u64 k.1.1, .int .u64 k.1.2]] w fun e w' => e = .returned (.tuple #[.pointer none, .int .i64 6]) ∧ Below w.heap.size w w' := by
  have r1 := h.cells (j := 0) rfl
  have r2 := h.cells (j := 3) rfl
  have r4 : ∀ n, (Instr.lookup 230 (.map (some M)) (.agg #[.int .u64 k.1.1, .int .u64 k.1.2]) true).run Tryz.prog ((w.alloc (.cells #[.int .u64 k.1.1, .int .u64 k.1.2] 74)).drewN n) = .ok (.tuple #[.pointer none, .bool false]) ((w.alloc (.cells #[.int .u64 k.1.1, .int .u64 k.1.2] 74)).drewN n) := fun n => by
    have := look_es ((h.below (below_drewN (balloc (Below.refl _ _) (.cells #[.int .u64 k.1.1, .int .u64 k.1.2] 74)) n)).map) k true
    simpa [hb, none_has hb] using this
  have H := Lib.hid h
  have hlt := h.ltT
  clear h hb
  go_enter Tryz.func150, Tryz.ntmps150
  go_wp2_with fail
  go_quiet (fail)
  obtain ⟨W1, hW1⟩ : ∃ W1 : World, W1 = (w.alloc (.cells #[.int .u64 k.1.1, .int .u64 k.1.2] 74)).drewN nq := ⟨_, rfl⟩
  rw [← hW1]
  have hb1 : Below w.heap.size w W1 := by rw [hW1]; exact below_drewN (balloc (Below.refl _ _) _) _
  have h1 := H.out.below hb1
  have s1 := h1.cells (j := 0) rfl
  have s2 := h1.cells (j := 3) rfl
  have r5 : ∀ n ty, (Builtin.len_ #[230] ty #[.map (some M)]).run Tryz.prog (W1.drewN n) = .ok (.int .i64 es.length) (W1.drewN n) := fun n ty => MapIn.len (h1.map.below (below_drewN (Below.refl _ _) n)) Tryz.underlying230 ty
  have hlt1 := h1.ltT
  have HB1 := Lib.hid hb1
  clear hW1 h1 r1 r2 r4 hb1
  go_wp2_with fail
  go_quiet (fail)
  go_wp2
  exact bodyPost_ret (v := .tuple #[.pointer none, .int .i64 6]) (by simp [results, Tryz.results150, go_sem]) rfl ⟨rfl, below_drewN HB1.out _⟩

set_option maxRecDepth 100000 in
set_option maxHeartbeats 4000000 in
theorem room_new (T M : Nat) (c : Cfg) (ver : Nat) (es : List (KO × NE)) (rs rh : Nat) (k : KO) (w : World) (h : SAt w T M c ver es rs rh) (hb : findM es k = none) (hl : ¬ c.lo ≤ (es.length : Nat)) (hc : cfgB c = true) (hrs : c.sa = (rs : Nat)) (hrh : c.hi = (rh : Nat)) (hok : c.ok) :
    Calls Tryz.prog 150 #[.pointer (some ⟨T, 0, none⟩), .agg #[.int .u64 k.1.1, .int .u64 k.1.2]] w (NdSays w nd0 rs rh [] (fun q => .tuple #[q, .int .i64 0])) := by
  have r1 := h.cells (j := 0) rfl
  have r2 := h.cells (j := 3) rfl
  have r4 : ∀ n, (Instr.lookup 230 (.map (some M)) (.agg #[.int .u64 k.1.1, .int .u64 k.1.2]) true).run Tryz.prog ((w.alloc (.cells #[.int .u64 k.1.1, .int .u64 k.1.2] 74)).drewN n) = .ok (.tuple #[.pointer none, .bool false]) ((w.alloc (.cells #[.int .u64 k.1.1, .int .u64 k.1.2] 74)).drewN n) := fun n => by
    have := look_es ((h.below (below_drewN (balloc (Below.refl _ _) (.cells #[.int .u64 k.1.1, .int .u64 k.1.2] 74)) n)).map) k true
    simpa [hb, none_has hb] using this
  have H := Lib.hid h
  have HNN := Lib.hid (fun W => nodeNew_any c rs rh W hc hrs hrh hok)
  obtain ⟨st, sa, lo, hi⟩ := c
  unfold cfgV at HNN
  dsimp only at HNN hl r2
  have hlt := h.ltT
  clear h hb hc hrs hrh hok
  go_enter Tryz.func150, Tryz.ntmps150
  go_wp2_with fail
  go_quiet (fail)
  obtain ⟨W1, hW1⟩ : ∃ W1 : World, W1 = (w.alloc (.cells #[.int .u64 k.1.1, .int .u64 k.1.2] 74)).drewN nq := ⟨_, rfl⟩
  rw [← hW1]
  have hb1 : Below w.heap.size w W1 := by rw [hW1]; exact below_drewN (balloc (Below.refl _ _) _) _
  have h1 := H.out.below hb1
  have s1 := h1.cells (j := 0) rfl
  have s2 := h1.cells (j := 3) rfl
  have r5 : ∀ n ty, (Builtin.len_ #[230] ty #[.map (some M)]).run Tryz.prog (W1.drewN n) = .ok (.int .i64 es.length) (W1.drewN n) := fun n ty => MapIn.len (h1.map.below (below_drewN (Below.refl _ _) n)) Tryz.underlying230 ty
  have hlt1 := h1.ltT
  have HB1 := Lib.hid hb1
  have H1 := Lib.hid h1
  clear hW1 h1 r1 r2 r4 hb1
  go_wp2_with fail
  go_quiet (fail)
  obtain ⟨W2, hW2⟩ : ∃ W2 : World, W2 = W1.drewN nq := ⟨_, rfl⟩
  rw [← hW2]
  have hb2 : Below W1.heap.size W1 W2 := by rw [hW2]; exact below_drewN (Below.refl _ _) _
  have h2 := H1.out.below hb2
  have t1 := h2.cells (j := 1) rfl W2 (Below.refl _ _)
  have t2 := h2.cells (j := 2) rfl W2 (Below.refl _ _)
  have t3 := h2.cells (j := 3) rfl W2 (Below.refl _ _)
  have t4 := h2.cells (j := 4) rfl W2 (Below.refl _ _)
  have hlt2 := h2.ltT
  have HB2 := Lib.hid (bthen HB1.out hb2)
  clear hW2 h2 s1 s2 r5 hb2
  go_wp2_with (go_at_call 156; refine (HNN.out W2).mono ?_; rintro e w3 ⟨N, fq, rfl, h1, h2, h3⟩)
  refine bodyPost_ret (v := .tuple #[.pointer (some ⟨N, 0, none⟩), .int .i64 0]) (by simp [results, Tryz.results150, go_sem]) rfl ?_
  have hb3 : Below w.heap.size w w3 := bthen HB2.out h3
  exact ⟨N, fq, rfl, h1, hb3.os, hb3.tape, hb3.output, hb3.size, fun r hr _ => hb3.block r hr, fun r hr => .inr (by have := h2 r hr; have := HB2.out.size; omega)⟩

set_option maxRecDepth 100000 in
set_option maxHeartbeats 4000000 in
theorem keep_any (T M : Nat) (c : Cfg) (ver : Nat) (es : List (KO × NE)) (rs rh : Nat) (k : KO) (N : Nat) (y : Nd) (fq : List Nat) (w : World) (h : SHole w T M c ver es rs rh k fq) (hn : NodeIn w N y rs rh fq) (hv : ver ≤ 1000000) :
    Calls Tryz.prog 152 #[.pointer (some ⟨T, 0, none⟩), .agg #[.int .u64 k.1.1, .int .u64 k.1.2], .pointer (some ⟨N, 0, none⟩)] w fun e w' => e = .returned (.tuple #[]) ∧ SAt w' T M c (ver + 1) (putM es k (N, y, fq)) rs rh ∧ Upd w w' [T, M] [T, M] := by
  have hw : IntKind.i64.wrap ((ver : Int) + 1) = ((ver + 1 : Nat) : Int) := by rw [IntKind.wrap_i64]; omega
  have hlt : T < w.heap.size := (Array.getElem?_eq_some_iff.1 h.cell).1
  have H := Lib.hid h
  have HN := Lib.hid hn
  have hne := h.ne
  clear h hn
  go_enter Tryz.func152, Tryz.ntmps152
  go_wp2_with fail
  refine name_world ?_
  intro W hW
  have hb1 : Below w.heap.size w W := by rw [hW]; exact balloc (Below.refl _ _) _
  have hx1 : W.heap[w.heap.size]? = some (.cells #[.int .u64 k.1.1, .int .u64 k.1.2] 74 (0, 0)) := by rw [hW]; exact heap_alloc_new _ _
  have a1 : W.cell? ⟨w.heap.size, 0, none⟩ = some (.int .u64 k.1.1) := by simp [World.cell?, hx1]
  have a2 : W.cell? ⟨w.heap.size, 1, none⟩ = some (.int .u64 k.1.2) := by simp [World.cell?, hx1]
  have h1 := H.out.below hb1
  have hltW : T < W.heap.size := (Array.getElem?_eq_some_iff.1 h1.cell).1
  have z0 : W.cell? ⟨T, 0, none⟩ = some (.map (some M)) := by simp only [World.cell?, h1.cell]; rfl
  obtain ⟨o5, hs5, hset5⟩ := store_es (w := W.drew) (M := M) (h1.map.below ((Below.refl _ W).drew)) k (N, y, fq)
  dsimp only at hs5
  have hd := (h1.below ((Below.refl _ W).drew)).keep (o := o5) (HN.out.below (hb1.drew)) hset5
  have hcT : (setBlock W.drew M o5).heap[T]? = _ := (setBlock_other (o := o5) hne).trans (h1.below ((Below.refl _ W).drew)).cell
  have HD := Lib.hid hd
  have HT := Lib.hid hcT
  have HB1 := Lib.hid hb1
  clear hW hset5 h1 hd hcT hx1
  go_region
  obtain ⟨W2, hW2⟩ : ∃ W2 : World, W2 = setBlock W.drew M o5 := ⟨_, rfl⟩
  rw [← hW2]
  rw [← hW2] at HD HT
  have y0 : W2.cell? ⟨T, 5, none⟩ = some (.int .i64 (ver : Nat)) := by simp only [World.cell?, HT.out]; rfl
  have y1 : W2.frozen? ⟨T, 5, none⟩ = false := plain_cells HT.out
  have y2 : T < W2.heap.size := (Array.getElem?_eq_some_iff.1 HT.out).1
  clear hW2 z0 a1 a2 hs5
  go_wp2
  go_end0
  refine ⟨rfl, HD.out.1, ?_⟩
  exact (Upd.of_below (HB1.out.drew) _).trans HD.out.2
end

section
set_option linter.unusedSimpArgs false
set_option linter.unusedVariables false
open Go.RowKit Go.Lib Go.Sort
open Go.ChangeMaps (setBlock)

def ndOf (l : List (KO × Nd)) (k : KO) : Nd := (findM l k).getD nd0
theorem ser0 {s : Smp} (h : serE s.1 s.2 = 0) : 0 ≤ s.1 ∧ 0 ≤ s.2 := by
  unfold serE at h
  split at h
  · cases h
  · split at h
    · cases h
    · omega

/-- The room was there: what stands at the key, to be changed, and what is known of it. -/
theorem made_world {w w4 w' : World} {T M : Nat} {c : Cfg} {es : List (KO × NE)} {rs rh ver : Nat} {k : KO} {N : Nat} {y : Nd} {mf fq : List Nat} {v : Value}
    (hu : Upd w w4 mf fq) (hm : ∀ r ∈ mf, r ∈ mfpE es) (hs : SAt w' T M c ver (putM es k (N, y, fq)) rs rh) (hk : Upd w4 w' [T, M] [T, M]) :
    SSays w T M c es rs rh v ver (putM (ab es) k y) (.returned v) w' :=
  ⟨_, rfl, hs, ab_putM .., upd_keep hu hk hm, Old.put hu hm⟩

set_option maxRecDepth 100000 in
set_option maxHeartbeats 4000000 in
theorem singest_bad (T M : Nat) (c : Cfg) (ver : Nat) (es : List (KO × NE)) (rs rh : Nat) (k : KO) (s : Smp) (w : World) (h : SAt w T M c ver es rs rh) (hs : serE s.1 s.2 ≠ 0) :
    Calls Tryz.prog 82 #[.pointer (some ⟨T, 0, none⟩), .agg #[.int .u64 k.1.1, .int .u64 k.1.2], .int .i64 s.1, .int .i64 s.2] w (SSays w T M c es rs rh (.int .i64 (serE s.1 s.2)) ver (ab es)) := by
  have HE := Lib.hid (fun w' => SSays.of_below (w' := w') (.int .i64 (serE s.1 s.2)) h)
  have HR := Lib.hid (seriesRight_any s.1 s.2)
  have hn : (serE s.1 s.2 != 0) = true := by simpa using hs
  generalize serE s.1 s.2 = r at hs hn HR HE ⊢
  clear h
  go_enter Tryz.func82, Tryz.ntmps82
  go_wp2_with (go_at_call 102; refine (HR.out _).mono ?_; rintro e w1 ⟨rfl, rfl⟩)
  go_ret
  exact HE.out _ (balloc (Below.refl _ _) _)

set_option maxRecDepth 100000 in
set_option maxHeartbeats 4000000 in
theorem singest_full (T M : Nat) (c : Cfg) (ver : Nat) (es : List (KO × NE)) (rs rh : Nat) (k : KO) (s : Smp) (w : World) (h : SAt w T M c ver es rs rh) (hs : serE s.1 s.2 = 0) (hb : findM es k = none) (hl : c.lo ≤ (es.length : Nat)) :
    Calls Tryz.prog 82 #[.pointer (some ⟨T, 0, none⟩), .agg #[.int .u64 k.1.1, .int .u64 k.1.2], .int .i64 s.1, .int .i64 s.2] w (SSays w T M c es rs rh (.int .i64 6) ver (ab es)) := by
  have HE := Lib.hid (fun w' => SSays.of_below (w' := w') (.int .i64 6) h)
  have H := Lib.hid h
  have HS := Lib.hid hs
  have HB := Lib.hid hb
  have HL := Lib.hid hl
  clear h hs hb hl
  go_enter Tryz.func82, Tryz.ntmps82
  go_wp2_with (first
    | (go_at_call 102; refine (seriesRight_any _ _ _).mono ?_; rw [HS.out]; rintro e w1 ⟨rfl, rfl⟩)
    | (go_at_call 149
       refine calls_named ?_
       intro W1 hW1
       have hb1 : Below w.heap.size w W1 := by rw [hW1]; exact balloc (Below.refl _ _) _
       have hx1 : W1.heap[w.heap.size]? = some (.cells #[.int .u64 k.1.1, .int .u64 k.1.2] 74 (0, 0)) := by rw [hW1]; exact heap_alloc_new _ _
       clear hW1
       refine (smade_any T c ver es rs rh _ W1 ((H.out.below hb1).in_)).mono ?_
       rintro e w2 ⟨rfl, hb2⟩
       obtain ⟨a1, a2, a3⟩ := box_cells hb2 hx1
       have HB2 := Lib.hid (bthen hb1 hb2)
       clear hb1 hb2 hx1)
    | (go_at_call 150
       refine (room_full T M c ver es rs rh k w2 (H.out.below HB2.out) HB.out HL.out).mono ?_
       rintro e w3 ⟨rfl, hb3⟩
       have HB3 := Lib.hid (bthen HB2.out hb3)
       clear hb3))
  go_ret
  exact HE.out _ HB3.out

/-- What both arms of room lead to. -/
def GotS (w w3 : World) (T M : Nat) (c : Cfg) (ver : Nat) (es : List (KO × NE)) (rs rh : Nat) (k : KO) (N : Nat) (x : Nd) (fq : List Nat) : Prop :=
  NodeIn w3 N x rs rh fq ∧ x = ndOf (ab es) k ∧ (∀ w4 fr, Upd w3 w4 (mfp x fq) fr → SHole w4 T M c ver es rs rh k fr ∧ ∃ mf, Upd w w4 mf fr ∧ ∀ r ∈ mf, r ∈ mfpE es)
theorem got_some {w w3 : World} {T M : Nat} {c : Cfg} {ver : Nat} {es : List (KO × NE)} {rs rh : Nat} {k : KO} {b : NE} (h : SAt w T M c ver es rs rh) (hb : findM es k = some b) (hw : Below w.heap.size w w3) : GotS w w3 T M c ver es rs rh k b.1 b.2.1 b.2.2 := by
  have hm := find_mem hb
  refine ⟨(h.node _ hm).below hw, by simp [ndOf, ab_find, hb], fun w4 fr hu => ?_⟩
  refine ⟨(h.below hw).hole hm hu, mfp b.2.1 b.2.2, ⟨hu.os.trans hw.os, hu.tape.trans hw.tape, hu.output.trans hw.output, Nat.le_trans hw.size hu.size, fun r hr hn => (hu.block r (Nat.lt_of_lt_of_le hr hw.size) hn).trans (hw.block r hr), fun r hr => (hu.fresh r hr).imp id (fun h' => Nat.le_trans hw.size h')⟩, fun r hr => mem_mfpE.2 ⟨_, hm, hr⟩⟩
theorem got_new {w w3 : World} {T M : Nat} {c : Cfg} {ver : Nat} {es : List (KO × NE)} {rs rh : Nat} {k : KO} {N : Nat} {fq : List Nat} (h : SAt w T M c ver es rs rh) (hb : findM es k = none) (hn : NodeIn w3 N nd0 rs rh fq) (hu0 : Upd w w3 [] fq) : GotS w w3 T M c ver es rs rh k N nd0 fq := by
  refine ⟨hn, by simp [ndOf, ab_find, hb], fun w4 fr hu => ?_⟩
  have hf : ∀ r ∈ fq, w.heap.size ≤ r := fun r hr => (hu0.fresh r hr).elim (fun h => by cases h) id
  have hfr : ∀ r ∈ fr, w.heap.size ≤ r := fun r hr => (hu.fresh r hr).elim (fun h => hf r (mfp_sub _ _ r h)) (fun h => Nat.le_trans hu0.size h)
  have hb2 : Below w.heap.size w w4 := (hu0.below (Nat.le_refl _) (fun _ h => by cases h)).trans (hu.below hu0.size (fun r hr => hf r (mfp_sub _ _ r hr)))
  exact ⟨h.hole_new hb2 hfr, [], ⟨hb2.os, hb2.tape, hb2.output, hb2.size, fun r hr _ => hb2.block r hr, fun r hr => .inr (hfr r hr)⟩, fun _ h => by cases h⟩
theorem room_any (T M : Nat) (c : Cfg) (ver : Nat) (es : List (KO × NE)) (rs rh : Nat) (k : KO) (w0 w : World) (h0 : SAt w0 T M c ver es rs rh) (hb : Below w0.heap.size w0 w) (hl : ¬ (hasM es k = false ∧ c.lo ≤ (es.length : Nat))) (hc : cfgB c = true) (hrs : c.sa = (rs : Nat)) (hrh : c.hi = (rh : Nat)) (hok : c.ok) :
    Calls Tryz.prog 150 #[.pointer (some ⟨T, 0, none⟩), .agg #[.int .u64 k.1.1, .int .u64 k.1.2]] w fun e w' => ∃ N x fq, e = .returned (.tuple #[.pointer (some ⟨N, 0, none⟩), .int .i64 0]) ∧ GotS w0 w' T M c ver es rs rh k N x fq ∧ (∀ r ∈ fq, r < w0.heap.size ∨ w.heap.size ≤ r) ∧ Below w.heap.size w w' := by
  have h := h0.below hb
  cases hf : findM es k with
  | some b =>
    refine (room_some T M c ver es rs rh k b w h hf).mono ?_
    rintro e w' ⟨rfl, hb'⟩
    exact ⟨b.1, b.2.1, b.2.2, rfl, got_some h0 hf (bthen hb hb'), fun r hr => .inl ((h0.node _ (find_mem hf)).lt r hr), hb'⟩
  | none =>
    refine (room_new T M c ver es rs rh k w h hf (fun hl' => hl ⟨none_has hf, hl'⟩) hc hrs hrh hok).mono ?_
    rintro e w' ⟨N, fq, rfl, h1, h2⟩
    have hu : Upd w0 w' [] fq := ⟨h2.os.trans hb.os, h2.tape.trans hb.tape, h2.output.trans hb.output, Nat.le_trans hb.size h2.size, fun r hr hn => (h2.block r (Nat.lt_of_lt_of_le hr hb.size) hn).trans (hb.block r hr), fun r hr => (h2.fresh r hr).imp id (fun h' => Nat.le_trans hb.size h')⟩
    exact ⟨N, nd0, fq, rfl, got_new h0 hf h1 hu, fun r hr => (h2.fresh r hr).elim (fun h => by cases h) .inr, h2.below (Nat.le_refl _) (fun _ h => by cases h)⟩

theorem upd_cell {w w' : World} {fp fp' : List Nat} (h : Upd w w' fp fp') {B : Nat} {cs : Array Value} {t : TypeId} (hB : w.heap[B]? = some (.cells cs t (0, 0))) (hn : B ∉ fp) : w'.heap[B]? = some (.cells cs t (0, 0)) :=
  (h.block B (Array.getElem?_eq_some_iff.1 hB).1 hn).trans hB

set_option maxRecDepth 100000 in
set_option maxHeartbeats 4000000 in
theorem singest_ok (T M : Nat) (c : Cfg) (ver : Nat) (es : List (KO × NE)) (rs rh : Nat) (k : KO) (s : Smp) (w : World) (h : SAt w T M c ver es rs rh) (hs : serE s.1 s.2 = 0) (hl : ¬ (hasM es k = false ∧ c.lo ≤ (es.length : Nat))) (hc : cfgB c = true) (hrs : c.sa = (rs : Nat)) (hrh : c.hi = (rh : Nat)) (hok : c.ok)
    (hv : ver ≤ 1000000) (hvn : ∀ p ∈ ab es, p.2.ver ≤ 1000000) :
    Calls Tryz.prog 82 #[.pointer (some ⟨T, 0, none⟩), .agg #[.int .u64 k.1.1, .int .u64 k.1.2], .int .i64 s.1, .int .i64 s.2] w (SSays w T M c es rs rh (.int .i64 0) (ver + 1) (putM (ab es) k { bump (ndOf (ab es) k) with smp := putS (ndOf (ab es) k).smp (rs : Nat) s })) := by
  have hb0 : 1 ≤ rs ∧ rs ≤ 256 ∧ rh ≤ 64 := by
    unfold cfgB at hc
    simp only [Bool.and_eq_true, decide_eq_true_eq] at hc
    omega
  have hvx : (ndOf (ab es) k).ver ≤ 1000000 := by
    unfold ndOf
    cases hf : findM (ab es) k with
    | none => simp [nd0]
    | some x => exact hvn _ (find_mem hf)
  have H := Lib.hid h
  have HS := Lib.hid hs
  have HRoom := Lib.hid (fun (W : World) (hb : Below w.heap.size w W) => room_any T M c ver es rs rh k w W h hb hl hc hrs hrh hok)
  have HVX := Lib.hid hvx
  have HV := Lib.hid hv
  clear h hs hl hc hrs hrh hok hvn hvx hv
  go_enter Tryz.func82, Tryz.ntmps82
  go_wp2_with (first
    | (go_at_call 102; refine (seriesRight_any _ _ _).mono ?_; rw [HS.out]; rintro e w1 ⟨rfl, rfl⟩)
    | (go_at_call 149
       refine calls_named ?_
       intro W1 hW1
       have hb1 : Below w.heap.size w W1 := by rw [hW1]; exact balloc (Below.refl _ _) _
       have hx1 : W1.heap[w.heap.size]? = some (.cells #[.int .u64 k.1.1, .int .u64 k.1.2] 74 (0, 0)) := by rw [hW1]; exact heap_alloc_new _ _
       clear hW1
       refine (smade_any T c ver es rs rh _ W1 ((H.out.below hb1).in_)).mono ?_
       rintro e w2 ⟨rfl, hb2⟩
       obtain ⟨a1, a2, a3, a4⟩ := box_at hb2 hx1
       have HX2 := Lib.hid a4
       have HB2 := Lib.hid (bthen hb1 hb2)
       clear hb1 hb2 hx1 a4)
    | (go_at_call 150
       refine (HRoom.out w2 HB2.out).mono ?_
       rintro e w3 ⟨N, x, fq, rfl, hg, hfq, hb3⟩
       obtain ⟨b1, b2, b3, b4⟩ := box_at hb3 HX2.out
       have hnb : w.heap.size ∉ fq := fun hr => by have := (Array.getElem?_eq_some_iff.1 HX2.out).1; rcases hfq _ hr with h' | h' <;> omega
       have HX3 := Lib.hid (And.intro b4 hnb)
       have HG := Lib.hid hg
       clear hg hb3 b4 hfq hnb)
    | (go_at_call 151
       refine (nodePut_any N x rs rh fq s w3 HG.out.1 hb0.1 hb0.2.1 hb0.2.2 (by rw [HG.out.2.1]; exact HVX.out) (ser0 HS.out).1 (ser0 HS.out).2).mono ?_
       rintro e w4 ⟨N4, fr, rfl, hn4, hu4⟩
       have hhole := HG.out.2.2 w4 fr hu4
       have hbox : w4.heap[w.heap.size]? = _ := upd_cell hu4 HX3.out.1 (fun hr => HX3.out.2 (mfp_sub _ _ _ hr))
       obtain ⟨c1, c2, c3⟩ := box_cells (Below.refl _ _) hbox
       have HN4 := Lib.hid hn4
       have HH := Lib.hid hhole
       clear hn4 hu4 hhole hbox)
    | (go_at_call 152
       obtain ⟨hH, mf, hU, hmf⟩ := HH.out
       refine (keep_any T M c ver es rs rh k N4 _ fr w4 hH HN4.out HV.out).mono ?_
       rintro e w5 ⟨rfl, h5, hu5⟩
       have HF := Lib.hid (made_world (v := .int .i64 0) hU hmf h5 hu5)
       clear h5 hu5))
  go_ret
  have hf := HF.out
  rw [HG.out.2.1] at hf
  exact hf
end

end Go.Proofs.YtmniiodpbebnmaaGreat
