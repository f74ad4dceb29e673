/- a stripe's Trim. -/
import Derived.Test.YtfegielnmdppgaaJ41
namespace Go.Proofs.Ytfegielnmdppgaa

section
set_option linter.unusedSimpArgs false
set_option linter.unusedVariables false
open Go.RowKit Go.Lib Go.Sort
open Go.ChangeMaps (setBlock)

section
variable {α β : Type} [DecidableEq α]
theorem find_mapK (f : α → β → β) (l : List (α × β)) (x : α) : findM (l.map fun p => (p.1, f p.1 p.2)) x = (findM l x).map (f x) := by
  unfold findM
  rw [List.find?_map]
  simp only [Function.comp_def]
  cases h : l.find? (fun p => decide (p.1 = x)) with
  | none => simp
  | some q =>
    have := List.find?_some h
    simp at this
    simp [this]
theorem find_of_mem {l : List (α × β)} (hn : (l.map (·.1)).Nodup) {x : α} {v : β} (h : (x, v) ∈ l) : findM l x = some v := by
  obtain ⟨u, hu, hm⟩ := findM_some (es := l) (x := x) ((hasM_iff l x).2 (List.mem_map.2 ⟨_, h, rfl⟩))
  obtain ⟨i, hi⟩ := List.getElem?_of_mem h
  obtain ⟨j, hj⟩ := List.getElem?_of_mem hm
  have h1 : (l.map (·.1))[i]? = some x := by simp [hi]
  have h2 : (l.map (·.1))[j]? = some x := by simp [hj]
  obtain rfl := nodup_inj hn h1 h2
  rw [hi] at hj
  injection hj with hj
  injection hj with _ hj
  rw [hu, hj]
end

def trimN (cut : Int) (x : Nd) : Nd := if placeS x.smp cut = 0 then x else { bump x with smp := x.smp.drop (placeS x.smp cut) }
def goneK (l : List (KO × Nd)) (cut : Int) (q : Ky) : Nat := ((l.find? (fun p => p.1.1 = q)).map (fun p => placeS p.2.smp cut)).getD 0
def trimK (l : List (KO × Nd)) (cut : Int) (ks : List Ky) : List (KO × Nd) := l.map fun p => (p.1, if p.1.1 ∈ ks then trimN cut p.2 else p.2)
def goneS (l : List (KO × Nd)) (cut : Int) (ks : List Ky) : Nat := (ks.map (goneK l cut)).sum
def manyS (l : List (KO × Nd)) (cut : Int) (ks : List Ky) : Nat := ks.countP (fun q => 0 < goneK l cut q)

theorem gone_find {l : List (KO × Nd)} {k : KO} {x : Nd} (cut : Int) (h : findM l k = some x) : goneK l cut k.1 = placeS x.smp cut := by
  unfold goneK
  have e : (fun p : KO × Nd => decide (p.1.1 = k.1)) = (fun p : KO × Nd => decide (p.1 = k)) := by
    funext p
    rw [decide_eq_decide]
    exact ⟨fun h => Subtype.ext h, fun h => by rw [h]⟩
  rw [e]
  unfold findM at h
  obtain ⟨q, hq, rfl⟩ := Option.map_eq_some_iff.1 h
  rw [hq]
  rfl
theorem trimK_find (l : List (KO × Nd)) (cut : Int) (ks : List Ky) (k : KO) : findM (trimK l cut ks) k = (findM l k).map (fun x => if k.1 ∈ ks then trimN cut x else x) :=
  find_mapK (fun (k : KO) (x : Nd) => if k.1 ∈ ks then trimN cut x else x) l k
theorem trimK_keys (l : List (KO × Nd)) (cut : Int) (ks : List Ky) : (trimK l cut ks).map (·.1) = l.map (·.1) := by
  unfold trimK
  rw [List.map_map]
  rfl
theorem trimK_snoc {l : List (KO × Nd)} (hn : (l.map (·.1)).Nodup) (cut : Int) (ks : List Ky) {k : KO} {x : Nd} (hx : findM l k = some x) (hk : k.1 ∉ ks) :
    putM (trimK l cut ks) k (trimN cut x) = trimK l cut (ks ++ [k.1]) := by
  have hh : hasM (trimK l cut ks) k = true := by
    rw [hasM_iff, trimK_keys]
    exact List.mem_map.2 ⟨_, find_mem hx, rfl⟩
  unfold putM
  rw [if_pos hh]
  unfold trimK
  rw [List.map_map]
  refine List.map_congr_left fun p hp => ?_
  simp only [Function.comp, List.mem_append, List.mem_singleton]
  by_cases e : p.1 = k
  · have h2 := find_of_mem hn (show (k, p.2) ∈ l by rw [← e]; exact hp)
    rw [hx] at h2
    injection h2 with h2
    rw [if_pos e, e, h2]
    simp
  · rw [if_neg e]
    have : ¬ p.1.1 = k.1 := fun h => e (Subtype.ext h)
    simp [this]
theorem trimK_same {l : List (KO × Nd)} (hn : (l.map (·.1)).Nodup) (cut : Int) (ks : List Ky) {k : KO} {x : Nd} (hx : findM l k = some x) (h0 : placeS x.smp cut = 0) : trimK l cut (ks ++ [k.1]) = trimK l cut ks := by
  unfold trimK
  refine List.map_congr_left fun p hp => ?_
  simp only [List.mem_append, List.mem_singleton]
  by_cases e : p.1 = k
  · have h2 := find_of_mem hn (show (k, p.2) ∈ l by rw [← e]; exact hp)
    rw [hx] at h2
    injection h2 with h2
    have : trimN cut p.2 = p.2 := by rw [← h2]; unfold trimN; rw [if_pos h0]
    rw [this]
    split <;> split <;> rfl
  · have : ¬ p.1.1 = k.1 := fun h => e (Subtype.ext h)
    simp [this]
theorem goneS_snoc (l : List (KO × Nd)) (cut : Int) (ks : List Ky) (q : Ky) : goneS l cut (ks ++ [q]) = goneS l cut ks + goneK l cut q := by simp [goneS]
theorem manyS_snoc (l : List (KO × Nd)) (cut : Int) (ks : List Ky) (q : Ky) : manyS l cut (ks ++ [q]) = manyS l cut ks + if 0 < goneK l cut q then 1 else 0 := by
  simp [manyS, List.countP_append, List.countP_cons]

theorem nodeTrim0 (N : Nat) (x : Nd) (rs rh : Nat) (fp : List Nat) (t : Int) (w : World) (h : NodeIn w N x rs rh fp) (hrs : rs ≤ 256) (h0 : placeS x.smp t = 0) :
    Calls Try.prog 30 #[.pointer (some ⟨N, 0, none⟩), .int .i64 t] w fun e w' => e = .returned (.tuple #[.pointer (some ⟨N, 0, none⟩), .int .i64 0]) ∧ Below w.heap.size w w' := by
  refine (nodeTrim_none N x rs rh fp t w h hrs h0).mono ?_
  rintro e w' (⟨_, h1, h2⟩ | ⟨h1, _⟩)
  · exact ⟨h1, h2⟩
  · omega
theorem nodeTrim1 (N : Nat) (x : Nd) (rs rh : Nat) (fp : List Nat) (t : Int) (w : World) (h : NodeIn w N x rs rh fp) (hrs : rs ≤ 256) (hrh : rh ≤ 64) (hv : x.ver ≤ 1000000) (h0 : 0 < placeS x.smp t) :
    Calls Try.prog 30 #[.pointer (some ⟨N, 0, none⟩), .int .i64 t] w (NdSays w { bump x with smp := x.smp.drop (placeS x.smp t) } rs rh (mfp x fp) (fun q => .tuple #[q, .int .i64 (placeS x.smp t : Nat)])) := by
  refine (nodeTrim_some N x rs rh fp t w h hrs hrh hv h0).mono ?_
  rintro e w' (⟨h1, _⟩ | ⟨_, h1⟩)
  · omega
  · exact h1
theorem mem_risL' (l : List Ky) (q : Ky) : q ∈ risL l → q ∈ l := (mem_risL l q).1
theorem risL_nodup {l : List Ky} (hn : l.Nodup) : (risL l).Nodup := by
  have h := sortL_ris (List.Perm.refl l) hn
  rw [← h]
  exact ((List.mergeSort_perm l _).nodup_iff).2 hn

/-- What stands at a round's beginning: the keys of K that have been done. -/
structure TrimAt (w wr : World) (T M : Nat) (c : Cfg) (ver : Nat) (es : List (KO × NE)) (rs rh : Nat) (cut : Int) (K : List Ky) (v : Value) (k : Nat) (es' : List (KO × NE)) : Prop where
  at_ : SAt wr T M c (ver + manyS (ab es) cut (K.take k)) es' rs rh
  is : ab es' = trimK (ab es) cut (K.take k)
  upd : Upd w wr (sfp T M es) (sfp T M es')
  row : RowIn 2 keyC wr v K
  blk : ∀ b o m cc, v = .slice (some ⟨b, o, none⟩) m cc → 0 < K.length → b ∉ sfp T M es' ∧ b < wr.heap.size

theorem RowIn.keepB {α : Type} {n : Nat} {f : α → List Value} {w w' : World} {v : Value} {l : List α} (h : RowIn n f w v l) (hs : w.heap.size ≤ w'.heap.size) (hk : ∀ b o m c, v = .slice (some ⟨b, o, none⟩) m c → 0 < l.length → w'.heap[b]? = w.heap[b]?) : RowIn n f w' v l := by
  obtain ⟨A, c, hv, hc, hr⟩ := h
  refine ⟨A, c, hv, hc, fun hn => ?_⟩
  obtain ⟨b, o, hA, hlt, hat⟩ := hr hn
  have hb := hk b o _ _ (by rw [hv, hA]) hn
  exact ⟨b, o, hA, Nat.lt_of_lt_of_le hlt hs, fun k x hx j u hu => by
    have := hat k x hx j u hu
    simp only [World.cell?] at this ⊢
    rw [hb]
    exact this⟩
section
variable {w wr w3 w5 : World} {T M : Nat} {c : Cfg} {ver : Nat} {es : List (KO × NE)} {rs rh : Nat} {cut : Int} {K : List Ky} {v : Value} {k : Nat} {es' : List (KO × NE)} {ko : KO} {x : Nd} {b : NE}
theorem TrimAt.same (h : TrimAt w wr T M c ver es rs rh cut K v k es') (hnd : ((ab es).map (·.1)).Nodup) (hk : k < K.length) (hko : K[k] = ko.1) (hx : findM (ab es) ko = some x) (h0 : placeS x.smp cut = 0) (hb : Below wr.heap.size wr w3) : TrimAt w w3 T M c ver es rs rh cut K v (k + 1) es' := by
  have e : K.take (k + 1) = K.take k ++ [ko.1] := by rw [List.take_succ_eq_append_getElem hk, hko]
  have hg := gone_find cut hx
  refine ⟨?_, ?_, h.upd.trans (Upd.of_below hb _), h.row.below hb, fun b o m c' e hn => ?_⟩
  · rw [e, manyS_snoc, hg, h0]
    exact h.at_.below hb
  · rw [e, trimK_same hnd cut _ hx h0]
    exact h.is
  · have := h.blk b o m c' e hn
    exact ⟨this.1, Nat.lt_of_lt_of_le this.2 hb.size⟩
theorem TrimAt.step {N : Nat} {fr : List Nat} (h : TrimAt w wr T M c ver es rs rh cut K v k es') (hnd : ((ab es).map (·.1)).Nodup) (hk : k < K.length) (hko : K[k] = ko.1) (hx : findM (ab es) ko = some x) (hnk : ko.1 ∉ K.take k) (hb : findM es' ko = some b) (hbx : b.2.1 = x) (h0 : 0 < placeS x.smp cut)
    (hu : Upd wr w3 (mfp b.2.1 b.2.2) fr) (hs : SAt w5 T M c (ver + manyS (ab es) cut (K.take k) + 1) (putM es' ko (N, { bump x with smp := x.smp.drop (placeS x.smp cut) }, fr)) rs rh) (hk5 : Upd w3 w5 [T, M] [T, M]) :
    TrimAt w w5 T M c ver es rs rh cut K v (k + 1) (putM es' ko (N, { bump x with smp := x.smp.drop (placeS x.smp cut) }, fr)) := by
  have e : K.take (k + 1) = K.take k ++ [ko.1] := by rw [List.take_succ_eq_append_getElem hk, hko]
  have hg := gone_find cut hx
  have hmf : ∀ r ∈ mfp b.2.1 b.2.2, r ∈ mfpE es' := fun r hr => mem_mfpE.2 ⟨_, find_mem hb, hr⟩
  have hu2 := upd_keep (k := ko) (N := N) (y := { bump x with smp := x.smp.drop (placeS x.smp cut) }) hu hk5 hmf
  refine ⟨?_, ?_, h.upd.trans hu2, h.row.keepB hu2.size (fun b o m c' e hn => ?_), fun b o m c' e hn => ?_⟩
  · rw [e, manyS_snoc, hg, if_pos h0]
    exact hs
  · rw [e, ← trimK_snoc hnd cut _ hx hnk, ab_putM, h.is]
    unfold trimN
    rw [if_neg (by omega)]
  · obtain ⟨h1, h2⟩ := h.blk b o m c' e hn
    exact hu2.block b h2 h1
  · obtain ⟨h1, h2⟩ := h.blk b o m c' e hn
    exact ⟨fun hm => (hu2.fresh b hm).elim h1 (fun h' => by omega), Nat.lt_of_lt_of_le h2 hu2.size⟩
end
end

end Go.Proofs.Ytfegielnmdppgaa
