/- Part 25 of the proof. -/
import Derived.Test.YtmniiodpbebnmaaGreatJ24
namespace Go.Proofs.YtmniiodpbebnmaaGreat
set_option linter.unusedSimpArgs false
set_option linter.unusedVariables false
set_option linter.unusedSectionVars false
set_option maxRecDepth 100000
set_option maxHeartbeats 16000000
section
open Go.RowKit Go.Lib Go.Sort
section
section
variable {B:Nat→Prop} {S:Nat} {c:Cfg} {rs rh n:Nat} {wd:Wd} {d:d0M}
theorem a0J.avoidX {w W:World} {X:Nat} (h:a0J B w S c rs rh n wd d) (hX:w.heap.size≤X) (hb:jB w W):a0J (fun b=>B b∧b≠X) W S c rs rh n wd d :=
 h.keep hb.size (fun r hr hlt=>⟨hb.block r hlt,hr,by omega⟩)
theorem e0H {w w5 W9:World} {X m:Nat} {wd':Wd} {d':d0M} {v:Value} {fp:List Nat} (hX:w.heap.size≤X) (h:a0J (fun b=>B b∧b≠X) w5 S c rs rh m wd' d') (hu:Upd w w5 fp (d'.fp S)) (h2:∀k,k≠X→W9.heap[k]?=w5.heap[k]?) (h3:W9.heap.size=w5.heap.size) (h4:∀n,n≤X→Below n w5 W9) :
 d0Z B w S c rs rh m fp v wd' (.returned v) W9 :=
 ⟨d'.fp S,rfl,⟨d',h.stored h3 h2,rfl⟩,hu.thenB (h4 _ hX)⟩
theorem f0U.sok {w:World} {s:St} {R:List Itm} (h:f0U w c rs rh n s R) (hc:e0T c rs rh) (hn:n≤100):SOk c rs rh s.ver (ab s.es):=sok_of (W:=w) (T:=s.T) (M:=s.M) h.grown h.ver_ hc hn
theorem a0J.act {w w':World} (h:a0J B w S c rs rh n wd d) (hB:∀b,w.heap.size≤b→B b) (hc:e0T c rs rh) (hn:n≤100) {i:Nat} {s:St} {R:List Itm} (hi:d.sts[i]?=some s) (hR:wd.st[i]?=some R) (k:KO) (a:c0W) (h0:¬a.kind<0) (h1:a.kind≠1) (h3:¬3<a.kind) {es':List (KO × NE)}
    (hat:SAt w' s.T s.M c (doS c rs rh s.ver (ab s.es) k a).ver es' rs rh) (hab:ab es'=(doS c rs rh s.ver (ab s.es) k a).has) (hu:Upd w w' s.fp (sfp s.T s.M es')) (ho:Old w.heap.size s.es es') :
    ∃d',a0J B w' S c rs rh (n+1) { wd with st:=wd.st.set i (l0X c rs rh R k.1 a).1 } d'∧Upd w w' (d.fp S) (d'.fp S)∧d'.sts.length=d.sts.length:=by
  have hk:=h.str i s R hi hR;have ht:=o0C hk.tells c rs rh s.ver k a h0 h1 h3;have hg:=v0X hk.grown c rs rh k a;have hlen:(risL (c0T (ab s.es))).length≤n:=by
   rw [e0K (k0G hk.tells.nodup)];have:=hk.grown.len
   simpa [c0T] using this
  have hv:=l1P hk.grown c rs rh k a hlen;have hvv:=hk.ver_;obtain ⟨r1,r2⟩:=h.turn hi hR (R':=(l0X c rs rh R k.1 a).1) (m:=n+1) (fun r hr=>((ho.all (s:=s) _) r hr).elim (h.bs s (List.mem_of_getElem? hi) r) (hB r)) (Nat.le_succ n) hu ho ⟨hat,by rw [hab];exact ht.1,by rw [hab];exact hg,Nat.le_trans hv (by omega)⟩;exact ⟨_,r1,r2,by simp⟩
theorem a0J.other {w w':World} (h:a0J B w S c rs rh n wd d) {i j:Nat} {s t:St} (hi:d.sts[i]?=some s) (hj:d.sts[j]?=some t) (hij:j≠i) {fp':List Nat} (hu:Upd w w' s.fp fp'):∀r∈t.all,w'.heap[r]?=w.heap[r]? :=
 fun r hr=>hu.block r (h.ltA t (List.mem_of_getElem? hj) r hr) (fun hq=>h.pair i j s t hi hj (fun e=>hij e.symm) r (s.sub r hq) hr)
def g1G (cut:Int) (R:List Itm):List Itm:=R.map fun p=>(p.1,g0R cut p.2)
def g0P (cut:Int) (st:List (List Itm)) (k:Nat):List (List Itm):=(st.take k).map (g1G cut)++st.drop k
theorem z0V (cut:Int) (st:List (List Itm)):g0P cut st 0=st:=by simp [g0P]
theorem g1Y (cut:Int) (st:List (List Itm)):g0P cut st st.length=st.map (g1G cut):=by simp [g0P]
theorem g1S (cut:Int) (st:List (List Itm)) (k:Nat):(g0P cut st k).length=st.length:=by simp [g0P];omega
theorem e1T (cut:Int) (st:List (List Itm)) (k:Nat) {R:List Itm} (hR:st[k]?=some R):(g0P cut st k).set k (g1G cut R)=g0P cut st (k+1):=by
 obtain ⟨hk,rfl⟩:=List.getElem?_eq_some_iff.1 hR;unfold g0P;rw [List.set_append_right _ _ (by simp;omega),List.take_succ_eq_append_getElem hk,List.map_append,List.append_assoc]
 congr 1
 have e:k - ((st.take k).map (g1G cut)).length=0:=by simp;omega
 rw [e,List.drop_eq_getElem_cons hk];rfl
theorem f1C (cut:Int) (st:List (List Itm)) (k j:Nat) (h:k≤j) (hk:k≤st.length):(g0P cut st k)[j]?=st[j]?:=by
 unfold g0P;rw [List.getElem?_append_right (by simp;omega),List.getElem?_drop]
 congr 1
 simp
 omega
structure o0M (B:Nat→Prop) (w wr:World) (S:Nat) (c:Cfg) (rs rh n:Nat) (wd:Wd) (d dk:d0M) (cut:Int) (k:Nat):Prop where
 at_:a0J B wr S c rs rh (n+1) { wd with st:=g0P cut wd.st k } dk
 up:Upd w wr (d.fp S) (dk.fp S)
 eA:dk.A=d.A∧dk.cp=d.cp∧dk.sts.length=d.sts.length
 rest:∀(j:Nat) (s:St) (R:List Itm),k≤j→dk.sts[j]?=some s→wd.st[j]?=some R→f0U wr c rs rh n s R
theorem o0M.start {w:World} (h:a0J B w S c rs rh n wd d) (cut:Int):o0M B w w S c rs rh n wd d d cut 0 :=
 ⟨by rw [z0V];exact h.mono (Nat.le_succ n),Upd.of_below jR _,⟨rfl,rfl,rfl⟩,fun j s R _ hs hR=>h.str j s R hs hR⟩
theorem o0M.step {w wr w':World} {dk:d0M} {cut:Int} {k:Nat} (h:o0M B w wr S c rs rh n wd d dk cut k) (hB:∀b,w.heap.size≤b→B b) (hn:n≤100) {s:St} (hs:dk.sts[k]?=some s) {es':List (KO × NE)}
    (hat:SAt w' s.T s.M c (s.ver+i0D (ab s.es) cut (risL (kyN s.es))) es' rs rh) (hab:ab es'=g0X (ab s.es) cut (risL (kyN s.es))) (hu:Upd wr w' s.fp (sfp s.T s.M es')) (ho:Old wr.heap.size s.es es') :
    ∃dk',o0M B w w' S c rs rh n wd d dk' cut (k+1):=by
  have hkl:=(List.getElem?_eq_some_iff.1 hs).1;have hln:=h.at_.len;rw [g1S] at hln;have hkw:k<wd.st.length:=by omega
  have hR:=List.getElem?_eq_getElem hkw;generalize wd.st[k]=R at hR;have hk:=h.rest k s R (Nat.le_refl k) hs hR;have hd:doS c rs rh s.ver (ab s.es) ⟨(0,0),⟨by decide,by decide⟩⟩ ⟨1,(cut,0),k0L,c0U⟩=⟨0,h0S (ab s.es) cut (risL (kyN s.es)),s.ver+i0D (ab s.es) cut (risL (kyN s.es)),g0X (ab s.es) cut (risL (kyN s.es))⟩:=by
   unfold doS;rw [if_neg (show ¬(1:Int)=0 by decide),if_pos rfl,v0P]
  have ht:=z0D hk.tells c rs rh s.ver ⟨(0,0),⟨by decide,by decide⟩⟩ cut;have hg:=v0X hk.grown c rs rh ⟨(0,0),⟨by decide,by decide⟩⟩ ⟨1,(cut,0),k0L,c0U⟩;have hlen:(risL (c0T (ab s.es))).length≤n:=by
   rw [e0K (k0G hk.tells.nodup)];have:=hk.grown.len
   simpa [c0T] using this
  have hv:=l1P hk.grown c rs rh ⟨(0,0),⟨by decide,by decide⟩⟩ ⟨1,(cut,0),k0L,c0U⟩ hlen;rw [hd] at ht hg hv;dsimp only at ht hg hv;have hvv:=hk.ver_;have hRk:(g0P cut wd.st k)[k]?=some R:=by
   have hkk:k≤wd.st.length:=by omega
   rw [f1C cut wd.st k k (Nat.le_refl k) hkk];exact hR
  obtain ⟨r1,r2⟩:=h.at_.turn hs hRk (R':=g1G cut R) (m:=n+1) (fun r hr=>((ho.all (s:=s) _) r hr).elim (h.at_.bs s (List.mem_of_getElem? hs) r) (fun h9=>hB r (Nat.le_trans h.up.size h9))) (Nat.le_refl _) hu ho ⟨hat,by rw [hab];exact ht,by rw [hab];exact hg,by dsimp only;omega⟩;refine ⟨{ dk with sts:=dk.sts.set k ⟨s.T,s.M,s.ver+i0D (ab s.es) cut (risL (kyN s.es)),es'⟩ },⟨?_,h.up.trans r2,⟨h.eA.1,h.eA.2.1,by show (dk.sts.set k _).length=_;rw [List.length_set];exact h.eA.2.2⟩,fun j t Rj hj ht hRj=>?_⟩⟩
  · have e:(g0P cut wd.st k).set k (g1G cut R)=g0P cut wd.st (k+1):=e1T cut wd.st k hR
    rw [←e];exact r1
  · have ht:(dk.sts.set k _)[j]?=some t:=ht
    rw [List.getElem?_set,if_neg (by omega)] at ht;exact (h.rest j t Rj (by omega) ht hRj).kept (h.at_.other hs ht (by omega) hu)
end
end
end
end Go.Proofs.YtmniiodpbebnmaaGreat
