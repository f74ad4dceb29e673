/- Part 16 of the proof. -/
import Derived.Test.YtmniiodpbebnmaaGreatJ15
namespace Go.Proofs.YtmniiodpbebnmaaGreat
set_option linter.unusedSimpArgs false
set_option linter.unusedVariables false
set_option linter.unusedSectionVars false
set_option maxRecDepth 100000
set_option maxHeartbeats 16000000
section
open Go.RowKit Go.Lib Go.Sort
open Go.ChangeMaps (setBlock)
def l0R (l:List (KO × Nd)) (k:KO):Nd:=(a0L l k).getD nd0
theorem ser0 {s:Smp} (h:g0C s.1 s.2=0):0≤s.1∧0≤s.2:=by
 unfold g0C at h
 split at h
 · cases h
 · split at h
   · cases h
   · omega
theorem k0L {w w4 w':World} {T M:Nat} {c:Cfg} {es:List (KO × NE)} {rs rh ver:Nat} {k:KO} {N:Nat} {y:Nd} {mf fq:List Nat} {v:Value}
    (hu:Upd w w4 mf fq) (hm:∀r∈mf,r∈n1V es) (hs:SAt w' T M c ver (d0F es k (N,y,fq)) rs rh) (hk:Upd w4 w' [T,M] [T,M]) :
    f0S w T M c es rs rh v ver (d0F (ab es) k y) (.returned v) w' :=
  ⟨_,rfl,hs,d1Z ..,y0R hu hk hm,Old.put hu hm⟩
theorem u0L (T M:Nat) (c:Cfg) (ver:Nat) (es:List (KO × NE)) (rs rh:Nat) (k:KO) (s:Smp) (w:World) (h:SAt w T M c ver es rs rh) (hs:g0C s.1 s.2≠0) :
 Calls Tryz.prog 82 #[.pointer (some ⟨T,0,none⟩),.agg #[.int .u64 k.1.1,.int .u64 k.1.2],.int .i64 s.1,.int .i64 s.2] w (f0S w T M c es rs rh (.int .i64 (g0C s.1 s.2)) ver (ab es)):=by
 have HE:=jH (fun w'=>f0S.of_below (w':=w') (.int .i64 (g0C s.1 s.2)) h);have HR:=jH (b0A s.1 s.2);have hn:(g0C s.1 s.2 != 0)=true:=by simpa using hs
 generalize g0C s.1 s.2=r at hs hn HR HE ⊢;clear h
 go_enter Tryz.func82,Tryz.ntmps82
 go_wp2_with (go_at_call 102;refine (HR.out _).mono ?_;rintro e w1 ⟨rfl,rfl⟩)
 go_ret
 exact HE.out _ (a0C jR _)
theorem t0Q (T M:Nat) (c:Cfg) (ver:Nat) (es:List (KO × NE)) (rs rh:Nat) (k:KO) (s:Smp) (w:World) (h:SAt w T M c ver es rs rh) (hs:g0C s.1 s.2=0) (hb:a0L es k=none) (hl:c.lo≤(es.length:Nat)) :
 Calls Tryz.prog 82 #[.pointer (some ⟨T,0,none⟩),.agg #[.int .u64 k.1.1,.int .u64 k.1.2],.int .i64 s.1,.int .i64 s.2] w (f0S w T M c es rs rh (.int .i64 6) ver (ab es)):=by
 have HE:=jH (fun w'=>f0S.of_below (w':=w') (.int .i64 6) h);have H:=jH h;have HS:=jH hs;have HB:=jH hb;have HL:=jH hl;clear h hs hb hl
 go_enter Tryz.func82,Tryz.ntmps82
 go_wp2_with (first
  | (go_at_call 102;refine (b0A _ _ _).mono ?_;rw [HS.out];rintro e w1 ⟨rfl,rfl⟩)
  | (go_at_call 149
     refine a0B ?_;intro W1 hW1;have hb1:jB w W1:=by rw [hW1];exact a0C jR _
     have hx1:W1.heap[w.heap.size]?=some (.cells #[.int .u64 k.1.1,.int .u64 k.1.2] 74 (0,0)):=by rw [hW1];exact heap_alloc_new _ _
     clear hW1;refine (g0H T c ver es rs rh _ W1 ((H.out.below hb1).in_)).mono ?_;rintro e w2 ⟨rfl,hb2⟩;obtain ⟨a1,a2,a3⟩:=a0A hb2 hx1;have HB2:=jH (a0D hb1 hb2);clear hb1 hb2 hx1)
  | (go_at_call 150
     refine (s0A T M c ver es rs rh k w2 (H.out.below HB2.out) HB.out HL.out).mono ?_;rintro e w3 ⟨rfl,hb3⟩;have HB3:=jH (a0D HB2.out hb3);clear hb3))
 go_ret
 exact HE.out _ HB3.out
def GotS (w w3:World) (T M:Nat) (c:Cfg) (ver:Nat) (es:List (KO × NE)) (rs rh:Nat) (k:KO) (N:Nat) (x:Nd) (fq:List Nat):Prop :=
 b0G w3 N x rs rh fq∧x=l0R (ab es) k∧(∀w4 fr,Upd w3 w4 (mfp x fq) fr→r0A w4 T M c ver es rs rh k fr∧∃mf,Upd w w4 mf fr∧∀r∈mf,r∈n1V es)
theorem m1Y {w w3:World} {T M:Nat} {c:Cfg} {ver:Nat} {es:List (KO × NE)} {rs rh:Nat} {k:KO} {b:NE} (h:SAt w T M c ver es rs rh) (hb:a0L es k=some b) (hw:jB w w3):GotS w w3 T M c ver es rs rh k b.1 b.2.1 b.2.2:=by
 have hm:=b0B hb;refine ⟨(h.node _ hm).below hw,by simp [l0R,o0F,hb],fun w4 fr hu=>?_⟩;refine ⟨(h.below hw).hole hm hu,mfp b.2.1 b.2.2,⟨hu.os.trans hw.os,hu.tape.trans hw.tape,hu.output.trans hw.output,Nat.le_trans hw.size hu.size,fun r hr hn=>(hu.block r (Nat.lt_of_lt_of_le hr hw.size) hn).trans (hw.block r hr),fun r hr=>(hu.fresh r hr).imp id (fun h'=>Nat.le_trans hw.size h')⟩,fun r hr=>d0S.2 ⟨_,hm,hr⟩⟩
theorem p1Z {w w3:World} {T M:Nat} {c:Cfg} {ver:Nat} {es:List (KO × NE)} {rs rh:Nat} {k:KO} {N:Nat} {fq:List Nat} (h:SAt w T M c ver es rs rh) (hb:a0L es k=none) (hn:b0G w3 N nd0 rs rh fq) (hu0:Upd w w3 [] fq):GotS w w3 T M c ver es rs rh k N nd0 fq:=by
 refine ⟨hn,by simp [l0R,o0F,hb],fun w4 fr hu=>?_⟩;have hf:∀r∈fq,w.heap.size≤r:=fun r hr=>(hu0.fresh r hr).elim (fun h=>by cases h) id
 have hfr:∀r∈fr,w.heap.size≤r:=fun r hr=>(hu.fresh r hr).elim (fun h=>hf r (e0L _ _ r h)) (fun h=>Nat.le_trans hu0.size h)
 have hb2:jB w w4:=(hu0.below (Nat.le_refl _) (fun _ h=>by cases h)).trans (hu.below hu0.size (fun r hr=>hf r (e0L _ _ r hr)));exact ⟨h.hole_new hb2 hfr,[],⟨hb2.os,hb2.tape,hb2.output,hb2.size,fun r hr _=>hb2.block r hr,fun r hr=>.inr (hfr r hr)⟩,fun _ h=>by cases h⟩
theorem y0S (T M:Nat) (c:Cfg) (ver:Nat) (es:List (KO × NE)) (rs rh:Nat) (k:KO) (w0 w:World) (h0:SAt w0 T M c ver es rs rh) (hb:jB w0 w) (hl:¬(d0B es k=false∧c.lo≤(es.length:Nat))) (hc:h0A c=true) (hrs:c.sa=(rs:Nat)) (hrh:c.hi=(rh:Nat)) (hok:c.ok) :
 Calls Tryz.prog 150 #[.pointer (some ⟨T,0,none⟩),.agg #[.int .u64 k.1.1,.int .u64 k.1.2]] w fun e w'=>∃N x fq,e=.returned (.tuple #[.pointer (some ⟨N,0,none⟩),.int .i64 0])∧GotS w0 w' T M c ver es rs rh k N x fq∧(∀r∈fq,r<w0.heap.size∨w.heap.size≤r)∧jB w w':=by
 have h:=h0.below hb
 cases hf:a0L es k with
 | some b =>
   refine (f1H T M c ver es rs rh k b w h hf).mono ?_;rintro e w' ⟨rfl,hb'⟩;exact ⟨b.1,b.2.1,b.2.2,rfl,m1Y h0 hf (a0D hb hb'),fun r hr=>.inl ((h0.node _ (b0B hf)).lt r hr),hb'⟩
 | none =>
   refine (m1J T M c ver es rs rh k w h hf (fun hl'=>hl ⟨m0E hf,hl'⟩) hc hrs hrh hok).mono ?_;rintro e w' ⟨N,fq,rfl,h1,h2⟩;have hu:Upd w0 w' [] fq:=⟨h2.os.trans hb.os,h2.tape.trans hb.tape,h2.output.trans hb.output,Nat.le_trans hb.size h2.size,fun r hr hn=>(h2.block r (Nat.lt_of_lt_of_le hr hb.size) hn).trans (hb.block r hr),fun r hr=>(h2.fresh r hr).imp id (fun h'=>Nat.le_trans hb.size h')⟩
   exact ⟨N,nd0,fq,rfl,p1Z h0 hf h1 hu,fun r hr=>(h2.fresh r hr).elim (fun h=>by cases h) .inr,h2.below (Nat.le_refl _) (fun _ h=>by cases h)⟩
theorem j0I {w w':World} {fp fp':List Nat} (h:Upd w w' fp fp') {B:Nat} {cs:Array Value} {t:TypeId} (hB:w.heap[B]?=some (.cells cs t (0,0))) (hn:B∉fp):w'.heap[B]?=some (.cells cs t (0,0)) :=
 (h.block B (jL hB) hn).trans hB
theorem b1O (T M:Nat) (c:Cfg) (ver:Nat) (es:List (KO × NE)) (rs rh:Nat) (k:KO) (s:Smp) (w:World) (h:SAt w T M c ver es rs rh) (hs:g0C s.1 s.2=0) (hl:¬(d0B es k=false∧c.lo≤(es.length:Nat))) (hc:h0A c=true) (hrs:c.sa=(rs:Nat)) (hrh:c.hi=(rh:Nat)) (hok:c.ok)
    (hv:ver≤1000000) (hvn:∀p∈ab es,p.2.ver≤1000000) :
    Calls Tryz.prog 82 #[.pointer (some ⟨T,0,none⟩),.agg #[.int .u64 k.1.1,.int .u64 k.1.2],.int .i64 s.1,.int .i64 s.2] w (f0S w T M c es rs rh (.int .i64 0) (ver+1) (d0F (ab es) k { g0N (l0R (ab es) k) with smp:=l0X (l0R (ab es) k).smp (rs:Nat) s })):=by
  have hb0:1≤rs∧rs≤256∧rh≤64:=by
   unfold h0A at hc;simp only [Bool.and_eq_true,decide_eq_true_eq] at hc
   omega
  have hvx:(l0R (ab es) k).ver≤1000000:=by
   unfold l0R
   cases hf:a0L (ab es) k with
   | none=>simp [nd0]
   | some x=>exact hvn _ (b0B hf)
  have H:=jH h;have HS:=jH hs;have HRoom:=jH (fun (W:World) (hb:jB w W)=>y0S T M c ver es rs rh k w W h hb hl hc hrs hrh hok);have HVX:=jH hvx;have HV:=jH hv;clear h hs hl hc hrs hrh hok hvn hvx hv
  go_enter Tryz.func82,Tryz.ntmps82
  go_wp2_with (first
   | (go_at_call 102;refine (b0A _ _ _).mono ?_;rw [HS.out];rintro e w1 ⟨rfl,rfl⟩)
   | (go_at_call 149
      refine a0B ?_;intro W1 hW1;have hb1:jB w W1:=by rw [hW1];exact a0C jR _
      have hx1:W1.heap[w.heap.size]?=some (.cells #[.int .u64 k.1.1,.int .u64 k.1.2] 74 (0,0)):=by rw [hW1];exact heap_alloc_new _ _
      clear hW1;refine (g0H T c ver es rs rh _ W1 ((H.out.below hb1).in_)).mono ?_;rintro e w2 ⟨rfl,hb2⟩;obtain ⟨a1,a2,a3,a4⟩:=j0T hb2 hx1;have HX2:=jH a4;have HB2:=jH (a0D hb1 hb2);clear hb1 hb2 hx1 a4)
   | (go_at_call 150
      refine (HRoom.out w2 HB2.out).mono ?_;rintro e w3 ⟨N,x,fq,rfl,hg,hfq,hb3⟩;obtain ⟨b1,b2,b3,b4⟩:=j0T hb3 HX2.out;have hnb:w.heap.size∉fq:=fun hr=>by have:=(jL HX2.out);rcases hfq _ hr with h'|h' <;> omega
      have HX3:=jH (And.intro b4 hnb);have HG:=jH hg;clear hg hb3 b4 hfq hnb)
   | (go_at_call 151
      refine (w0W N x rs rh fq s w3 HG.out.1 hb0.1 hb0.2.1 hb0.2.2 (by rw [HG.out.2.1];exact HVX.out) (ser0 HS.out).1 (ser0 HS.out).2).mono ?_;rintro e w4 ⟨N4,fr,rfl,hn4,hu4⟩;have hhole:=HG.out.2.2 w4 fr hu4;have hbox:w4.heap[w.heap.size]?=_:=j0I hu4 HX3.out.1 (fun hr=>HX3.out.2 (e0L _ _ _ hr));obtain ⟨c1,c2,c3⟩:=a0A jR hbox;have HN4:=jH hn4;have HH:=jH hhole;clear hn4 hu4 hhole hbox)
   | (go_at_call 152
      obtain ⟨hH,mf,hU,hmf⟩:=HH.out;refine (m0D T M c ver es rs rh k N4 _ fr w4 hH HN4.out HV.out).mono ?_;rintro e w5 ⟨rfl,h5,hu5⟩;have HF:=jH (k0L (v:=.int .i64 0) hU hmf h5 hu5);clear h5 hu5))
  go_ret
  have hf:=HF.out;rw [HG.out.2.1] at hf;exact hf
section
section
variable {α β:Type} [DecidableEq α]
theorem r0T (f:α→β→β) (l:List (α × β)) (x:α):a0L (l.map fun p=>(p.1,f p.1 p.2)) x=(a0L l x).map (f x):=by
 unfold a0L;rw [List.find?_map];simp only [Function.comp_def]
 cases h:l.find? (fun p=>decide (p.1=x)) with
 | none=>simp
 | some q =>
   have:=List.find?_some h;simp at this
   simp [this]
theorem f0H {l:List (α × β)} (hn:(l.map (·.1)).Nodup) {x:α} {v:β} (h:(x,v)∈l):a0L l x=some v:=by
 obtain ⟨u,hu,hm⟩:=c0F (es:=l) (x:=x) ((c0D l x).2 (List.mem_map.2 ⟨_,h,rfl⟩));obtain ⟨i,hi⟩:=List.getElem?_of_mem h;obtain ⟨j,hj⟩:=List.getElem?_of_mem hm;have h1:(l.map (·.1))[i]?=some x:=by simp [hi]
 have h2:(l.map (·.1))[j]?=some x:=by simp [hj]
 obtain rfl:=d0O hn h1 h2;rw [hi] at hj;injection hj with hj
 injection hj with _ hj
 rw [hu,hj]
end
def o0Q (cut:Int) (x:Nd):Nd:=if a0N x.smp cut=0 then x else { g0N x with smp:=x.smp.drop (a0N x.smp cut) }
def q0S (l:List (KO × Nd)) (cut:Int) (q:Ky):Nat:=((l.find? (fun p=>p.1.1=q)).map (fun p=>a0N p.2.smp cut)).getD 0
def f0Q (l:List (KO × Nd)) (cut:Int) (ks:List Ky):List (KO × Nd):=l.map fun p=>(p.1,if p.1.1∈ks then o0Q cut p.2 else p.2)
def g0M (l:List (KO × Nd)) (cut:Int) (ks:List Ky):Nat:=(ks.map (q0S l cut)).sum
def g0R (l:List (KO × Nd)) (cut:Int) (ks:List Ky):Nat:=ks.countP (fun q=>0<q0S l cut q)
theorem k0B {l:List (KO × Nd)} {k:KO} {x:Nd} (cut:Int) (h:a0L l k=some x):q0S l cut k.1=a0N x.smp cut:=by
 unfold q0S;have e:(fun p:KO × Nd=>decide (p.1.1=k.1))=(fun p:KO × Nd=>decide (p.1=k)):=by
  funext p
  rw [decide_eq_decide];exact ⟨fun h=>Subtype.ext h,fun h=>by rw [h]⟩
 rw [e];unfold a0L at h;obtain ⟨q,hq,rfl⟩:=Option.map_eq_some_iff.1 h;rw [hq];rfl
theorem p0K (l:List (KO × Nd)) (cut:Int) (ks:List Ky) (k:KO):a0L (f0Q l cut ks) k=(a0L l k).map (fun x=>if k.1∈ks then o0Q cut x else x) :=
 r0T (fun (k:KO) (x:Nd)=>if k.1∈ks then o0Q cut x else x) l k
theorem o0Y (l:List (KO × Nd)) (cut:Int) (ks:List Ky):(f0Q l cut ks).map (·.1)=l.map (·.1):=by
 unfold f0Q;rw [List.map_map];rfl
theorem z0W {l:List (KO × Nd)} (hn:(l.map (·.1)).Nodup) (cut:Int) (ks:List Ky) {k:KO} {x:Nd} (hx:a0L l k=some x) (hk:k.1∉ks) :
 d0F (f0Q l cut ks) k (o0Q cut x)=f0Q l cut (ks++[k.1]):=by
 have hh:d0B (f0Q l cut ks) k=true:=by
  rw [c0D,o0Y];exact List.mem_map.2 ⟨_,b0B hx,rfl⟩
 unfold d0F;rw [if_pos hh];unfold f0Q;rw [List.map_map];refine List.map_congr_left fun p hp=>?_
 simp only [Function.comp,List.mem_append,List.mem_singleton]
 by_cases e:p.1=k
 · have h2:=f0H hn (show (k,p.2)∈l by rw [←e];exact hp)
   rw [hx] at h2;injection h2 with h2
   rw [if_pos e,e,h2];simp
 · rw [if_neg e]
   have:¬p.1.1=k.1:=fun h=>e (Subtype.ext h)
   simp [this]
theorem c1L {l:List (KO × Nd)} (hn:(l.map (·.1)).Nodup) (cut:Int) (ks:List Ky) {k:KO} {x:Nd} (hx:a0L l k=some x) (h0:a0N x.smp cut=0):f0Q l cut (ks++[k.1])=f0Q l cut ks:=by
 unfold f0Q;refine List.map_congr_left fun p hp=>?_
 simp only [List.mem_append,List.mem_singleton]
 by_cases e:p.1=k
 · have h2:=f0H hn (show (k,p.2)∈l by rw [←e];exact hp)
   rw [hx] at h2;injection h2 with h2
   have:o0Q cut p.2=p.2:=by rw [←h2];unfold o0Q;rw [if_pos h0]
   rw [this]
   split <;> split <;> rfl
 · have:¬p.1.1=k.1:=fun h=>e (Subtype.ext h)
   simp [this]
theorem b1X (l:List (KO × Nd)) (cut:Int) (ks:List Ky) (q:Ky):g0M l cut (ks++[q])=g0M l cut ks+q0S l cut q:=by simp [g0M]
theorem p0R (l:List (KO × Nd)) (cut:Int) (ks:List Ky) (q:Ky):g0R l cut (ks++[q])=g0R l cut ks+if 0<q0S l cut q then 1 else 0:=by
 simp [g0R,List.countP_append,List.countP_cons]
theorem g1D (N:Nat) (x:Nd) (rs rh:Nat) (fp:List Nat) (t:Int) (w:World) (h:b0G w N x rs rh fp) (hrs:rs≤256) (h0:a0N x.smp t=0) :
 Calls Tryz.prog 154 #[.pointer (some ⟨N,0,none⟩),.int .i64 t] w (jP w (.tuple #[.pointer (some ⟨N,0,none⟩),.int .i64 0])):=by
 refine (q0J N x rs rh fp t w h hrs h0).mono ?_;rintro e w' (⟨_,h1,h2⟩|⟨h1,_⟩)
 · exact ⟨h1,h2⟩
 · omega
theorem h1U (N:Nat) (x:Nd) (rs rh:Nat) (fp:List Nat) (t:Int) (w:World) (h:b0G w N x rs rh fp) (hrs:rs≤256) (hrh:rh≤64) (hv:x.ver≤1000000) (h0:0<a0N x.smp t) :
 Calls Tryz.prog 154 #[.pointer (some ⟨N,0,none⟩),.int .i64 t] w (p0P w { g0N x with smp:=x.smp.drop (a0N x.smp t) } rs rh (mfp x fp) (fun q=>.tuple #[q,.int .i64 (a0N x.smp t:Nat)])):=by
 refine (q0R N x rs rh fp t w h hrs hrh hv h0).mono ?_;rintro e w' (⟨h1,_⟩|⟨_,h1⟩)
 · omega
 · exact h1
theorem s0W (l:List Ky) (q:Ky):q∈risL l→q∈l:=(g0X l q).1
theorem o0U {l:List Ky} (hn:l.Nodup):(risL l).Nodup:=by
 have h:=n0T (List.Perm.refl l) hn;rw [←h];exact ((List.mergeSort_perm l _).nodup_iff).2 hn
structure k0I (w wr:World) (T M:Nat) (c:Cfg) (ver:Nat) (es:List (KO × NE)) (rs rh:Nat) (cut:Int) (K:List Ky) (v:Value) (k:Nat) (es':List (KO × NE)):Prop where
 at_:SAt wr T M c (ver+g0R (ab es) cut (K.take k)) es' rs rh
 is:ab es'=f0Q (ab es) cut (K.take k)
 upd:Upd w wr (sfp T M es) (sfp T M es')
 row:a0Q 2 l0I wr v K
 blk:∀b o m cc,v=.slice (some ⟨b,o,none⟩) m cc→0<K.length→b∉sfp T M es'∧b<wr.heap.size
 old:Old w.heap.size es es'
theorem a0Q.keepB {α:Type} {n:Nat} {f:α→List Value} {w w':World} {v:Value} {l:List α} (h:a0Q n f w v l) (hs:w.heap.size≤w'.heap.size) (hk:∀b o m c,v=.slice (some ⟨b,o,none⟩) m c→0<l.length→w'.heap[b]?=w.heap[b]?):a0Q n f w' v l:=by
 obtain ⟨A,c,hv,hc,hr⟩:=h;refine ⟨A,c,hv,hc,fun hn=>?_⟩;obtain ⟨b,o,hA,hlt,hat⟩:=hr hn;have hb:=hk b o _ _ (by rw [hv,hA]) hn;exact ⟨b,o,hA,Nat.lt_of_lt_of_le hlt hs,fun k x hx j u hu=>by
  have:=hat k x hx j u hu;simp only [World.cell?] at this ⊢
  rw [hb];exact this⟩
section
variable {w wr w3 w5:World} {T M:Nat} {c:Cfg} {ver:Nat} {es:List (KO × NE)} {rs rh:Nat} {cut:Int} {K:List Ky} {v:Value} {k:Nat} {es':List (KO × NE)} {ko:KO} {x:Nd} {b:NE}
theorem k0I.same (h:k0I w wr T M c ver es rs rh cut K v k es') (hnd:((ab es).map (·.1)).Nodup) (hk:k<K.length) (hko:K[k]=ko.1) (hx:a0L (ab es) ko=some x) (h0:a0N x.smp cut=0) (hb:jB wr w3):k0I w w3 T M c ver es rs rh cut K v (k+1) es':=by
 have e:K.take (k+1)=K.take k++[ko.1]:=by rw [List.take_succ_eq_append_getElem hk,hko]
 have hg:=k0B cut hx;refine ⟨?_,?_,h.upd.trans (Upd.of_below hb _),h.row.below hb,fun b o m c' e hn=>?_,h.old⟩
 · rw [e,p0R,hg,h0]
   exact h.at_.below hb
 · rw [e,c1L hnd cut _ hx h0]
   exact h.is
 · have:=h.blk b o m c' e hn
   exact ⟨this.1,Nat.lt_of_lt_of_le this.2 hb.size⟩
theorem k0I.step {N:Nat} {fr:List Nat} (h:k0I w wr T M c ver es rs rh cut K v k es') (hnd:((ab es).map (·.1)).Nodup) (hk:k<K.length) (hko:K[k]=ko.1) (hx:a0L (ab es) ko=some x) (hnk:ko.1∉K.take k) (hb:a0L es' ko=some b) (hbx:b.2.1=x) (h0:0<a0N x.smp cut)
    (hu:Upd wr w3 (mfp b.2.1 b.2.2) fr) (hs:SAt w5 T M c (ver+g0R (ab es) cut (K.take k)+1) (d0F es' ko (N,{ g0N x with smp:=x.smp.drop (a0N x.smp cut) },fr)) rs rh) (hk5:Upd w3 w5 [T,M] [T,M]) :
    k0I w w5 T M c ver es rs rh cut K v (k+1) (d0F es' ko (N,{ g0N x with smp:=x.smp.drop (a0N x.smp cut) },fr)):=by
  have e:K.take (k+1)=K.take k++[ko.1]:=by rw [List.take_succ_eq_append_getElem hk,hko]
  have hg:=k0B cut hx;have hmf:∀r∈mfp b.2.1 b.2.2,r∈n1V es':=fun r hr=>d0S.2 ⟨_,b0B hb,hr⟩
  have hu2:=y0R (k:=ko) (N:=N) (y:={ g0N x with smp:=x.smp.drop (a0N x.smp cut) }) hu hk5 hmf;refine ⟨?_,?_,h.upd.trans hu2,h.row.keepB hu2.size (fun b o m c' e hn=>?_),fun b o m c' e hn=>?_,h.old.trans (Old.put hu hmf) h.upd.size⟩
  · rw [e,p0R,hg,if_pos h0]
    exact hs
  · rw [e,←z0W hnd cut _ hx hnk,d1Z,h.is]
    unfold o0Q;rw [if_neg (by omega)]
  · obtain ⟨h1,h2⟩:=h.blk b o m c' e hn
    exact hu2.block b h2 h1
  · obtain ⟨h1,h2⟩:=h.blk b o m c' e hn
    exact ⟨fun hm=>(hu2.fresh b hm).elim h1 (fun h'=>by omega),Nat.lt_of_lt_of_le h2 hu2.size⟩
end
end
theorem k0I.entry {w wr:World} {T M:Nat} {c:Cfg} {ver:Nat} {es:List (KO × NE)} {rs rh:Nat} {cut:Int} {v:Value} {k:Nat} {es':List (KO × NE)} {K:List Ky} (h:k0I w wr T M c ver es rs rh cut K v k es') (hK:K=risL (kyN es)) (hnd:(kyN es).Nodup) (hk:k<K.length) :
 ∃ko x b,K[k]=ko.1∧a0L (ab es) ko=some x∧a0L es' ko=some b∧b.2.1=x∧ko.1∉K.take k:=by
 have hm:K[k]∈kyN es:=by subst hK;exact s0W _ _ (List.getElem_mem hk)
 obtain ⟨p,hp,he⟩:=List.mem_map.1 hm;have hn:K.Nodup:=by subst hK;exact o0U hnd
 have hnk:K[k]∉K.take k:=fun hmem=>by
  obtain ⟨i,hi⟩:=List.getElem?_of_mem hmem;have hil:i<k:=by
   have:=(List.getElem?_eq_some_iff.1 hi).1;simp at this;omega
  rw [List.getElem?_take_of_lt hil] at hi;have:=d0O hn hi (List.getElem?_eq_getElem hk);omega
 have hhas:d0B (ab es) p.1=true:=(c0D _ _).2 (List.mem_map.2 ⟨(p.1,p.2.2.1),List.mem_map.2 ⟨p,hp,rfl⟩,rfl⟩);obtain ⟨x,hx,_⟩:=c0F hhas;have h2:a0L (ab es') p.1=some x:=by
  rw [h.is,p0K,hx];have:p.1.1∉K.take k:=by rw [he];exact hnk
  simp [this]
 rw [o0F] at h2;obtain ⟨b,hb,hbx⟩:=Option.map_eq_some_iff.1 h2;exact ⟨p.1,x,b,he.symm,hx,hb,hbx,by rw [he];exact hnk⟩
theorem f1V (T M:Nat) (c:Cfg) (ver:Nat) (es:List (KO × NE)) (rs rh:Nat) (cut:Int) (w:World) (h:SAt w T M c ver es rs rh) (hrs:rs≤256) (hrh:rh≤64) (hl:es.length≤1000) (hv:ver≤900000) (hvn:∀p∈ab es,p.2.ver≤1000000) (hsl:∀p∈ab es,p.2.smp.length≤256) :
 Calls Tryz.prog 83 #[.pointer (some ⟨T,0,none⟩),.int .i64 cut] w (f0S w T M c es rs rh (.int .i64 (g0M (ab es) cut (risL (kyN es)):Nat)) (ver+g0R (ab es) cut (risL (kyN es))) (f0Q (ab es) cut (risL (kyN es)))):=by
 have hnd:(kyN es).Nodup:=m0Y h.map;have hndl:((ab es).map (·.1)).Nodup:=by have:=h.nodup;simpa [ab,List.map_map,Function.comp_def] using this
 obtain ⟨K,hK⟩:∃K,K=risL (kyN es):=⟨_,rfl⟩;have hKl:K.length≤1000:=by rw [hK,e0G hnd];simp [kyN];exact hl
 have hgk:∀q,q0S (ab es) cut q≤256:=fun q=>by
  unfold q0S
  cases hf:(ab es).find? (fun p=>decide (p.1.1=q)) with
  | none=>simp
  | some p =>
    have:=hsl p (List.mem_of_find?_eq_some hf);have:=f0N p.2.smp cut
    simp;omega
 have hgs:∀k,g0M (ab es) cut (K.take k)≤256 * 1000:=fun k=>by
  have h1:∀ks:List Ky,g0M (ab es) cut ks≤256 * ks.length:=fun ks=>by
   induction ks with
   | nil=>simp [g0M]
   | cons a ks ih=>have:=hgk a;simp only [g0M,List.map_cons,List.sum_cons,List.length_cons] at ih ⊢;omega
  have h2:=h1 (K.take k);have h3:(K.take k).length≤1000:=by simp;omega
  omega
 have hms:∀k,g0R (ab es) cut (K.take k)≤1000:=fun k=>by
  have:g0R (ab es) cut (K.take k)≤(K.take k).length:=List.countP_le_length ..;have h3:(K.take k).length≤1000:=by simp;omega
  omega
 rw [←hK];have hk0:=r0O T c ver es rs rh _ w h.in_ (by omega);rw [←hK] at hk0;have HK:=jH hk0;have H:=jH h;have HKK:=jH hK;have HND:=jH hnd;have HNDL:=jH hndl;have HVN:=jH hvn;have HGS:=jH hgs;have HMS:=jH hms;clear h hnd hndl hvn hsl hgk hgs hms hk0 hK
 go_enter Tryz.func83,Tryz.ntmps83
 go_wp2_with (first
  | (go_at_call 153
     refine HK.out.mono ?_;rintro e w2 ⟨v,rfl,hrow,hb2⟩;obtain ⟨A,cc,rfl⟩:=i0A hrow;have hri:a0Q 2 l0I w2 (.slice A K.length cc) K:=a0Q.own (n:=2) (f:=l0I) (fun _=>rfl) hrow;have hblk:∀b o m c',(Value.slice A K.length cc)=.slice (some ⟨b,o,none⟩) m c'→0<K.length→w.heap.size≤b∧b<w2.heap.size:=fun b o m c' e hn=>by
      rcases hrow.2 with ⟨hv',h0⟩|⟨g,cap,cur,hv',_⟩
      · omega
      · have hlt:=hrow.lt g (by rw [hv'];rfl)
        rw [e] at hv';injection hv' with e1 _ _
        injection e1 with e1
        injection e1 with e1
        rw [e1];exact hlt
     have HRI:=jH hri;have HBL:=jH hblk;have HB2:=jH hb2;clear hrow hri hblk hb2))
 go_loopg [5,13] K.length (fun g s5 s13 wr=>∃k es',k≤K.length∧K.length - k≤g∧s13=.int .i64 (k:Nat)∧s5=.int .i64 (g0M (ab es) cut (K.take k):Nat)∧k0I w wr T M c ver es rs rh cut K (.slice A K.length cc) k es')
 case atStart =>
  refine ⟨0,es,Nat.zero_le _,Nat.le_refl _,rfl,by simp [g0M],⟨?_,?_,?_,HRI.out,?_,Old.refl _ _⟩⟩
  · have:=H.out.below HB2.out
    simpa [g0R] using this
  · simp [f0Q]
  · exact Upd.of_below HB2.out _
  · intro b o m c' e hn
    obtain ⟨h1,h2⟩:=HBL.out b o m c' e hn;refine ⟨fun hm=>?_,h2⟩;simp only [sfp,List.mem_cons] at hm
    rcases hm with rfl|rfl|hm
    · have:=H.out.ltT;omega
    · have:=H.out.map.lt;omega
    · obtain ⟨p,hp,hr⟩:=d0S.1 hm
      have:=(H.out.node p hp).lt b (e0L _ _ b hr);omega
 case round =>
  obtain ⟨k,es',hk,hg,rfl,rfl,hT⟩:=hrel
  by_cases hlt:k<K.length
  · obtain ⟨ko,x,b,hko,hx,hb,hbx,hnk⟩:=hT.entry HKK.out HND.out hlt
    obtain ⟨bb,o,rfl,hbw,hc⟩:=hT.row.at_ hlt;have c1:wr.cell? ⟨bb,o+k * 2,none⟩=some (.int .u64 K[k].1):=hc 0 _ rfl;have c2:wr.cell? ⟨bb,o+k * 2+1,none⟩=some (.int .u64 K[k].2):=hc 1 _ rfl;rw [hko] at c1 c2;have hS:=hT.at_;have hnode:=hS.node _ (b0B hb);dsimp only at hnode;rw [hbx] at hnode;have HN:=jH hnode;have HS:=jH hS;have HT:=jH hT;have HFB:=jH hb;have HBX:=jH hbx;have HKO:=jH hko;have HXX:=jH hx
    have HNK:=jH hnk;have hgk:=k0B cut hx;have hsn:g0M (ab es) cut (K.take (k+1))=g0M (ab es) cut (K.take k)+a0N x.smp cut:=by
     rw [List.take_succ_eq_append_getElem hlt,hko,b1X,hgk]
    have HSN:=jH hsn;have hg0:=HGS.out k;have hg1:=HGS.out (k+1);have hxv:x.ver≤1000000:=HVN.out _ (b0B hx);rw [hsn] at hg1;clear hc hT hb hbx hko hx hnk hgk hsn hnode hS;generalize hGS:g0M (ab es) cut (K.take k)=G at *;clear hGS;go_wp2_with fail
    refine a0J ?_;intro W1 hW1;have hb1:jB wr W1:=by rw [hW1];exact a0C jR _
    have hx1:W1.heap[wr.heap.size]?=some (.cells #[.int .u64 ko.1.1,.int .u64 ko.1.2] 74 (0,0)):=by rw [hW1];exact heap_alloc_new _ _
    clear hW1 c1 c2;have a1:W1.cell? ⟨wr.heap.size,0,none⟩=some (.int .u64 ko.1.1):=by simp [World.cell?,hx1]
    have a2:W1.cell? ⟨wr.heap.size,1,none⟩=some (.int .u64 ko.1.2):=by simp [World.cell?,hx1]
    have h1:=HS.out.below hb1;have hltT:=h1.ltT;have z0:W1.cell? ⟨T,0,none⟩=some (.map (some M)):=by simp only [World.cell?,h1.cell];rfl
    have r4:(Instr.lookup 230 (.map (some M)) (.agg #[.int .u64 ko.1.1,.int .u64 ko.1.2]) false).run Tryz.prog W1.drew=.ok (.pointer (some ⟨b.1,0,none⟩)) W1.drew:=by
     have:=k0Z (h1.map.below ((Below.refl _ W1).drew)) ko false;rw [HFB.out] at this;exact this
    have HX1:=jH hx1;have HB1:=jH hb1;clear hx1 hb1 h1
    rcases Nat.eq_zero_or_pos (a0N x.smp cut) with h0|h0
    · go_region_with (first
       | (go_at_call 154
          refine a0B ?_;intro W2 hW2;have hb2:jB W1 W2:=by rw [hW2];repeat (first|exact jR|refine a0C ?_ _|refine Below.drew ?_)
          clear hW2;refine (g1D b.1 x rs rh b.2.2 cut W2 (HN.out.below (a0D HB1.out hb2)) hrs h0).mono ?_;rintro e w3 ⟨rfl,hb3⟩;have HB3:=jH (a0D (a0D HB1.out hb2) hb3);clear hb2 hb3))
      all_goals
        go_wp2
        go_roundg (K.length - (k+1))
        case measure=>omega
        case rel=>exact ⟨k+1,es',hlt,Nat.le_refl _,by go_num,by rw [HSN.out,h0];rfl,HT.out.same HNDL.out hlt HKO.out HXX.out h0 HB3.out⟩
    · have hgt:(0:Int)<(a0N x.smp cut:Nat):=by omega
      have hwr:IntKind.i64.wrap ((G:Int)+(a0N x.smp cut:Nat))=((G+a0N x.smp cut:Nat):Int):=by rw [IntKind.wrap_i64];omega
      have hvk:ver+g0R (ab es) cut (K.take k)≤1000000:=by have:=HMS.out k;omega
      go_region_with (first
       | (go_at_call 154
          refine a0B ?_;intro W2 hW2;have hb2:jB W1 W2:=by rw [hW2];repeat (first|exact jR|refine a0C ?_ _|refine Below.drew ?_)
          clear hW2;refine (h1U b.1 x rs rh b.2.2 cut W2 (HN.out.below (a0D HB1.out hb2)) hrs hrh hxv h0).mono ?_;rintro e w3 ⟨N3,fr,rfl,hn3,hu3⟩;have hbx:wr.heap.size∉mfp x b.2.2:=fun hr=>by have:=HN.out.lt _ (e0L _ _ _ hr);omega
          have hx3:=j0I hu3 (jK hb2 HX1.out) hbx;obtain ⟨q1,q2,q3⟩:=a0A jR hx3;have hbw2:=a0D HB1.out hb2;have hu30:Upd wr w3 (mfp b.2.1 b.2.2) fr:=by rw [HBX.out];exact (Upd.of_below hbw2 _).trans hu3
          have hole:=HS.out.hole (b0B HFB.out) hu30;have HN3:=jH hn3;have HU3:=jH hu30;have HOL:=jH hole;clear hb2 hn3 hu3 hbx hx3 hbw2 hu30 hole))
      all_goals
        go_wp2_with (first
         | (go_at_call 152
            refine (m0D T M c _ es' rs rh ko N3 _ fr w3 HOL.out HN3.out hvk).mono ?_;rintro e w5 ⟨rfl,h5,hu5⟩;have HT5:=jH (HT.out.step HNDL.out hlt HKO.out HXX.out HNK.out HFB.out HBX.out h0 HU3.out h5 hu5);clear h5 hu5))
        go_roundg (K.length - (k+1))
        case measure=>omega
        case rel=>exact ⟨k+1,_,hlt,Nat.le_refl _,by go_num,by rw [HSN.out,Int.natCast_add],HT5.out⟩
  · obtain rfl:k=K.length:=by omega
    have hT':=hT.upd;have hat:=hT.at_;have his:=hT.is;rw [List.take_length] at hat his ⊢;have HF:=jH (show f0S w T M c es rs rh (.int .i64 (g0M (ab es) cut K:Nat)) (ver+g0R (ab es) cut K) (f0Q (ab es) cut K) (.returned (.int .i64 (g0M (ab es) cut K:Nat))) wr from ⟨es',rfl,hat,his,hT',hT.old⟩);clear hT hT' hat his;go_wp2
    go_ret
    exact HF.out
end
end Go.Proofs.YtmniiodpbebnmaaGreat
