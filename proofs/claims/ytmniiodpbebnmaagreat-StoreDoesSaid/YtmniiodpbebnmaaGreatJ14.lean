/- Part 14 of the proof. -/
import Derived.Test.YtmniiodpbebnmaaGreatJ13
namespace Go.Proofs.YtmniiodpbebnmaaGreat
set_option linter.unusedSimpArgs false
set_option linter.unusedVariables false
set_option linter.unusedSectionVars false
set_option maxRecDepth 100000
set_option maxHeartbeats 16000000
section
open Go.RowKit Go.Lib Go.Sort
open Go.ChangeMaps (setBlock)
theorem m0K {w:World} {M:Nat} {es:List (KO × NE)} (h:b0N koV neV w M es) (x:KO) (c:Bool) :
 (Instr.lookup 230 (.map (some M)) (.agg #[.int .u64 x.1.1,.int .u64 x.1.2]) c).run Tryz.prog w=.ok (if c then .tuple #[((a0V es x).map neV).getD (.pointer none),.bool (g0A es x)] else ((a0V es x).map neV).getD (.pointer none)) w :=
 b0N.look (V:=neV) h j1P Tryz.underlying230 (Tryz.zeroValue170 w) c x
theorem q1U {w:World} {M:Nat} {es:List (KO × NE)} (h:b0N koV neV w M es) (x:KO) (b:NE) :
 ∃o,(Instr.mapUpdate 230 (.map (some M)) (.agg #[.int .u64 x.1.1,.int .u64 x.1.2]) (.pointer (some ⟨b.1,0,none⟩))).run Tryz.prog w=.ok () (setBlock w M o)∧b0N koV neV (setBlock w M o) M (f0A es x b) :=
 b0N.store (V:=neV) h j1P Tryz.underlying230 x b
theorem n0O {es:List (KO × NE)} {k:KO} (h:a0V es k=none):g0A es k=false:=by
 cases hh:g0A es k with
 | false=>rfl
 | true=>obtain ⟨v,hv,_⟩:=e0M hh;rw [hv] at h;cases h
theorem SAt.cells {w:World} {T M:Nat} {c:Cfg} {ver:Nat} {es:List (KO × NE)} {rs rh:Nat} (h:SAt w T M c ver es rs rh) {j:Nat} {v:Value}
    (e:(#[.map (some M),.int .i64 c.st,.int .i64 c.sa,.int .i64 c.lo,.int .i64 c.hi,.int .i64 (ver:Nat)]:Array Value)[j]?=some v):∀W,jB w W→W.cell? ⟨T,j,none⟩=some v:=fun W hW =>
  (hW.cell (p:=⟨T,j,none⟩) h.ltT).trans (by simp only [World.cell?,h.cell];exact e)
theorem j1A (T M:Nat) (c:Cfg) (ver:Nat) (es:List (KO × NE)) (rs rh:Nat) (k:KO) (b:NE) (w:World) (h:SAt w T M c ver es rs rh) (hb:a0V es k=some b) :
 Calls Tryz.prog 150 #[.pointer (some ⟨T,0,none⟩),.agg #[.int .u64 k.1.1,.int .u64 k.1.2]] w (jP w (.tuple #[.pointer (some ⟨b.1,0,none⟩),.int .i64 0])):=by
 have r1:=h.cells (j:=0) rfl;have r4:∀n,(Instr.lookup 230 (.map (some M)) (.agg #[.int .u64 k.1.1,.int .u64 k.1.2]) true).run Tryz.prog ((w.alloc (.cells #[.int .u64 k.1.1,.int .u64 k.1.2] 74)).drewN n)=.ok (.tuple #[.pointer (some ⟨b.1,0,none⟩),.bool true]) ((w.alloc (.cells #[.int .u64 k.1.1,.int .u64 k.1.2] 74)).drewN n):=fun n=>by
  have:=m0K ((h.below (a0F (a0C jR (.cells #[.int .u64 k.1.1,.int .u64 k.1.2] 74)) n)).map) k true
  simpa [hb,n0Q hb,neV] using this
 have hlt:=h.ltT;clear h hb
 go_enter Tryz.func150,Tryz.ntmps150
 go_wp2_with fail
 go_quiet (fail)
 go_wp2
 exact bodyPost_ret (v:=.tuple #[.pointer (some ⟨b.1,0,none⟩),.int .i64 0]) (by simp [results,Tryz.results150,go_sem]) rfl ⟨rfl,a0F (a0C jR _) _⟩
theorem x0R (T M:Nat) (c:Cfg) (ver:Nat) (es:List (KO × NE)) (rs rh:Nat) (k:KO) (w:World) (h:SAt w T M c ver es rs rh) (hb:a0V es k=none) (hl:c.lo≤(es.length:Nat)) :
 Calls Tryz.prog 150 #[.pointer (some ⟨T,0,none⟩),.agg #[.int .u64 k.1.1,.int .u64 k.1.2]] w (jP w (.tuple #[.pointer none,.int .i64 6])):=by
 have r1:=h.cells (j:=0) rfl;have r2:=h.cells (j:=3) rfl;have r4:∀n,(Instr.lookup 230 (.map (some M)) (.agg #[.int .u64 k.1.1,.int .u64 k.1.2]) true).run Tryz.prog ((w.alloc (.cells #[.int .u64 k.1.1,.int .u64 k.1.2] 74)).drewN n)=.ok (.tuple #[.pointer none,.bool false]) ((w.alloc (.cells #[.int .u64 k.1.1,.int .u64 k.1.2] 74)).drewN n):=fun n=>by
  have:=m0K ((h.below (a0F (a0C jR (.cells #[.int .u64 k.1.1,.int .u64 k.1.2] 74)) n)).map) k true
  simpa [hb,n0O hb] using this
 have H:=jH h;have hlt:=h.ltT;clear h hb
 go_enter Tryz.func150,Tryz.ntmps150
 go_wp2_with fail
 go_quiet (fail)
 obtain ⟨W1,hW1⟩:∃W1:World,W1=(w.alloc (.cells #[.int .u64 k.1.1,.int .u64 k.1.2] 74)).drewN nq:=⟨_,rfl⟩;rw [←hW1];have hb1:jB w W1:=by rw [hW1];exact a0F (a0C jR _) _
 have h1:=H.out.below hb1;have s1:=h1.cells (j:=0) rfl;have s2:=h1.cells (j:=3) rfl;have r5:∀n ty,(Builtin.len_ #[230] ty #[.map (some M)]).run Tryz.prog (W1.drewN n)=.ok (.int .i64 es.length) (W1.drewN n):=fun n ty=>b0N.len (h1.map.below (a0F jR n)) Tryz.underlying230 ty
 have hlt1:=h1.ltT;have HB1:=jH hb1;clear hW1 h1 r1 r2 r4 hb1;go_wp2_with fail
 go_quiet (fail)
 go_wp2
 exact bodyPost_ret (v:=.tuple #[.pointer none,.int .i64 6]) (by simp [results,Tryz.results150,go_sem]) rfl ⟨rfl,a0F HB1.out _⟩
theorem r1D (T M:Nat) (c:Cfg) (ver:Nat) (es:List (KO × NE)) (rs rh:Nat) (k:KO) (w:World) (h:SAt w T M c ver es rs rh) (hb:a0V es k=none) (hl:¬c.lo≤(es.length:Nat)) (hc:i0L c=true) (hrs:c.sa=(rs:Nat)) (hrh:c.hi=(rh:Nat)) (hok:c.ok) :
 Calls Tryz.prog 150 #[.pointer (some ⟨T,0,none⟩),.agg #[.int .u64 k.1.1,.int .u64 k.1.2]] w (r0F w nd0 rs rh [] (fun q=>.tuple #[q,.int .i64 0])):=by
 have r1:=h.cells (j:=0) rfl;have r2:=h.cells (j:=3) rfl;have r4:∀n,(Instr.lookup 230 (.map (some M)) (.agg #[.int .u64 k.1.1,.int .u64 k.1.2]) true).run Tryz.prog ((w.alloc (.cells #[.int .u64 k.1.1,.int .u64 k.1.2] 74)).drewN n)=.ok (.tuple #[.pointer none,.bool false]) ((w.alloc (.cells #[.int .u64 k.1.1,.int .u64 k.1.2] 74)).drewN n):=fun n=>by
  have:=m0K ((h.below (a0F (a0C jR (.cells #[.int .u64 k.1.1,.int .u64 k.1.2] 74)) n)).map) k true
  simpa [hb,n0O hb] using this
 have H:=jH h;have HNN:=jH (fun W=>h0V c rs rh W hc hrs hrh hok);obtain ⟨st,sa,lo,hi⟩:=c;unfold j0Q at HNN;dsimp only at HNN hl r2;have hlt:=h.ltT;clear h hb hc hrs hrh hok
 go_enter Tryz.func150,Tryz.ntmps150
 go_wp2_with fail
 go_quiet (fail)
 obtain ⟨W1,hW1⟩:∃W1:World,W1=(w.alloc (.cells #[.int .u64 k.1.1,.int .u64 k.1.2] 74)).drewN nq:=⟨_,rfl⟩;rw [←hW1];have hb1:jB w W1:=by rw [hW1];exact a0F (a0C jR _) _
 have h1:=H.out.below hb1;have s1:=h1.cells (j:=0) rfl;have s2:=h1.cells (j:=3) rfl;have r5:∀n ty,(Builtin.len_ #[230] ty #[.map (some M)]).run Tryz.prog (W1.drewN n)=.ok (.int .i64 es.length) (W1.drewN n):=fun n ty=>b0N.len (h1.map.below (a0F jR n)) Tryz.underlying230 ty
 have hlt1:=h1.ltT;have HB1:=jH hb1;have H1:=jH h1;clear hW1 h1 r1 r2 r4 hb1;go_wp2_with fail
 go_quiet (fail)
 obtain ⟨W2,hW2⟩:∃W2:World,W2=W1.drewN nq:=⟨_,rfl⟩;rw [←hW2];have hb2:jB W1 W2:=by rw [hW2];exact a0F jR _
 have h2:=H1.out.below hb2;have t1:=h2.cells (j:=1) rfl W2 jR;have t2:=h2.cells (j:=2) rfl W2 jR;have t3:=h2.cells (j:=3) rfl W2 jR;have t4:=h2.cells (j:=4) rfl W2 jR;have hlt2:=h2.ltT;have HB2:=jH (a0D HB1.out hb2);clear hW2 h2 s1 s2 r5 hb2
 go_wp2_with (go_at_call 156;refine (HNN.out W2).mono ?_;rintro e w3 ⟨N,fq,rfl,h1,h2,h3⟩)
 refine bodyPost_ret (v:=.tuple #[.pointer (some ⟨N,0,none⟩),.int .i64 0]) (by simp [results,Tryz.results150,go_sem]) rfl ?_;have hb3:jB w w3:=a0D HB2.out h3;exact ⟨N,fq,rfl,h1,hb3.os,hb3.tape,hb3.output,hb3.size,fun r hr _=>hb3.block r hr,fun r hr=>.inr (by have:=h2 r hr;have:=HB2.out.size;omega)⟩
theorem n0N (T M:Nat) (c:Cfg) (ver:Nat) (es:List (KO × NE)) (rs rh:Nat) (k:KO) (N:Nat) (y:Nd) (fq:List Nat) (w:World) (h:s0X w T M c ver es rs rh k fq) (hn:b0B w N y rs rh fq) (hv:ver≤1000000) :
 Calls Tryz.prog 152 #[.pointer (some ⟨T,0,none⟩),.agg #[.int .u64 k.1.1,.int .u64 k.1.2],.pointer (some ⟨N,0,none⟩)] w fun e w'=>e=.returned (.tuple #[])∧SAt w' T M c (ver+1) (f0A es k (N,y,fq)) rs rh∧Upd w w' [T,M] [T,M]:=by
 have hw:IntKind.i64.wrap ((ver:Int)+1)=((ver+1:Nat):Int):=by rw [IntKind.wrap_i64];omega
 have hlt:T<w.heap.size:=(Array.getElem?_eq_some_iff.1 h.cell).1;have H:=jH h;have HN:=jH hn;have hne:=h.ne;clear h hn
 go_enter Tryz.func152,Tryz.ntmps152
 go_wp2_with fail
 refine a0I ?_;intro W hW;have hb1:jB w W:=by rw [hW];exact a0C jR _
 have hx1:W.heap[w.heap.size]?=some (.cells #[.int .u64 k.1.1,.int .u64 k.1.2] 74 (0,0)):=by rw [hW];exact heap_alloc_new _ _
 have a1:W.cell? ⟨w.heap.size,0,none⟩=some (.int .u64 k.1.1):=by simp [World.cell?,hx1]
 have a2:W.cell? ⟨w.heap.size,1,none⟩=some (.int .u64 k.1.2):=by simp [World.cell?,hx1]
 have h1:=H.out.below hb1;have hltW:T<W.heap.size:=(Array.getElem?_eq_some_iff.1 h1.cell).1;have z0:W.cell? ⟨T,0,none⟩=some (.map (some M)):=by simp only [World.cell?,h1.cell];rfl
 obtain ⟨o5,hs5,hset5⟩:=q1U (w:=W.drew) (M:=M) (h1.map.below ((Below.refl _ W).drew)) k (N,y,fq);dsimp only at hs5;have hd:=(h1.below ((Below.refl _ W).drew)).keep (o:=o5) (HN.out.below (hb1.drew)) hset5;have hcT:(setBlock W.drew M o5).heap[T]?=_:=(b0Y (o:=o5) hne).trans (h1.below ((Below.refl _ W).drew)).cell;have HD:=jH hd;have HT:=jH hcT;have HB1:=jH hb1;clear hW hset5 h1 hd hcT hx1
 go_region
 obtain ⟨W2,hW2⟩:∃W2:World,W2=setBlock W.drew M o5:=⟨_,rfl⟩;rw [←hW2];rw [←hW2] at HD HT;have y0:W2.cell? ⟨T,5,none⟩=some (.int .i64 (ver:Nat)):=by simp only [World.cell?,HT.out];rfl
 have y1:W2.frozen? ⟨T,5,none⟩=false:=f0E HT.out;have y2:T<W2.heap.size:=(jL HT.out);clear hW2 z0 a1 a2 hs5;go_wp2
 go_end0
 refine ⟨rfl,HD.out.1,?_⟩;exact (Upd.of_below (HB1.out.drew) _).trans HD.out.2
def n0J (l:List (KO × Nd)) (k:KO):Nd:=(a0V l k).getD nd0
theorem ser0 {s:Smp} (h:g0V s.1 s.2=0):0≤s.1∧0≤s.2:=by
 unfold g0V at h
 split at h
 · cases h
 · split at h
   · cases h
   · omega
theorem m0O {w w4 w':World} {T M:Nat} {c:Cfg} {es:List (KO × NE)} {rs rh ver:Nat} {k:KO} {N:Nat} {y:Nd} {mf fq:List Nat} {v:Value}
    (hu:Upd w w4 mf fq) (hm:∀r∈mf,r∈r1P es) (hs:SAt w' T M c ver (f0A es k (N,y,fq)) rs rh) (hk:Upd w4 w' [T,M] [T,M]) :
    g0Z w T M c es rs rh v ver (f0A (ab es) k y) (.returned v) w' :=
  ⟨_,rfl,hs,n1G ..,d1L hu hk hm,Old.put hu hm⟩
theorem a1A (T M:Nat) (c:Cfg) (ver:Nat) (es:List (KO × NE)) (rs rh:Nat) (k:KO) (s:Smp) (w:World) (h:SAt w T M c ver es rs rh) (hs:g0V s.1 s.2≠0) :
 Calls Tryz.prog 82 #[.pointer (some ⟨T,0,none⟩),.agg #[.int .u64 k.1.1,.int .u64 k.1.2],.int .i64 s.1,.int .i64 s.2] w (g0Z w T M c es rs rh (.int .i64 (g0V s.1 s.2)) ver (ab es)):=by
 have HE:=jH (fun w'=>g0Z.of_below (w':=w') (.int .i64 (g0V s.1 s.2)) h);have HR:=jH (b0I s.1 s.2);have hn:(g0V s.1 s.2 != 0)=true:=by simpa using hs
 generalize g0V s.1 s.2=r at hs hn HR HE ⊢;clear h
 go_enter Tryz.func82,Tryz.ntmps82
 go_wp2_with (go_at_call 102;refine (HR.out _).mono ?_;rintro e w1 ⟨rfl,rfl⟩)
 go_ret
 exact HE.out _ (a0C jR _)
theorem w0L (T M:Nat) (c:Cfg) (ver:Nat) (es:List (KO × NE)) (rs rh:Nat) (k:KO) (s:Smp) (w:World) (h:SAt w T M c ver es rs rh) (hs:g0V s.1 s.2=0) (hb:a0V es k=none) (hl:c.lo≤(es.length:Nat)) :
 Calls Tryz.prog 82 #[.pointer (some ⟨T,0,none⟩),.agg #[.int .u64 k.1.1,.int .u64 k.1.2],.int .i64 s.1,.int .i64 s.2] w (g0Z w T M c es rs rh (.int .i64 6) ver (ab es)):=by
 have HE:=jH (fun w'=>g0Z.of_below (w':=w') (.int .i64 6) h);have H:=jH h;have HS:=jH hs;have HB:=jH hb;have HL:=jH hl;clear h hs hb hl
 go_enter Tryz.func82,Tryz.ntmps82
 go_wp2_with (first
  | (go_at_call 102;refine (b0I _ _ _).mono ?_;rw [HS.out];rintro e w1 ⟨rfl,rfl⟩)
  | (go_at_call 149
     refine a0B ?_;intro W1 hW1;have hb1:jB w W1:=by rw [hW1];exact a0C jR _
     have hx1:W1.heap[w.heap.size]?=some (.cells #[.int .u64 k.1.1,.int .u64 k.1.2] 74 (0,0)):=by rw [hW1];exact heap_alloc_new _ _
     clear hW1;refine (h0R T c ver es rs rh _ W1 ((H.out.below hb1).in_)).mono ?_;rintro e w2 ⟨rfl,hb2⟩;obtain ⟨a1,a2,a3⟩:=a0A hb2 hx1;have HB2:=jH (a0D hb1 hb2);clear hb1 hb2 hx1)
  | (go_at_call 150
     refine (x0R T M c ver es rs rh k w2 (H.out.below HB2.out) HB.out HL.out).mono ?_;rintro e w3 ⟨rfl,hb3⟩;have HB3:=jH (a0D HB2.out hb3);clear hb3))
 go_ret
 exact HE.out _ HB3.out
def GotS (w w3:World) (T M:Nat) (c:Cfg) (ver:Nat) (es:List (KO × NE)) (rs rh:Nat) (k:KO) (N:Nat) (x:Nd) (fq:List Nat):Prop :=
 b0B w3 N x rs rh fq∧x=n0J (ab es) k∧(∀w4 fr,Upd w3 w4 (mfp x fq) fr→s0X w4 T M c ver es rs rh k fr∧∃mf,Upd w w4 mf fr∧∀r∈mf,r∈r1P es)
theorem p1S {w w3:World} {T M:Nat} {c:Cfg} {ver:Nat} {es:List (KO × NE)} {rs rh:Nat} {k:KO} {b:NE} (h:SAt w T M c ver es rs rh) (hb:a0V es k=some b) (hw:jB w w3):GotS w w3 T M c ver es rs rh k b.1 b.2.1 b.2.2:=by
 have hm:=b0U hb;refine ⟨(h.node _ hm).below hw,by simp [n0J,m0C,hb],fun w4 fr hu=>?_⟩;refine ⟨(h.below hw).hole hm hu,mfp b.2.1 b.2.2,⟨hu.os.trans hw.os,hu.tape.trans hw.tape,hu.output.trans hw.output,Nat.le_trans hw.size hu.size,fun r hr hn=>(hu.block r (Nat.lt_of_lt_of_le hr hw.size) hn).trans (hw.block r hr),fun r hr=>(hu.fresh r hr).imp id (fun h'=>Nat.le_trans hw.size h')⟩,fun r hr=>e0G.2 ⟨_,hm,hr⟩⟩
theorem u1A {w w3:World} {T M:Nat} {c:Cfg} {ver:Nat} {es:List (KO × NE)} {rs rh:Nat} {k:KO} {N:Nat} {fq:List Nat} (h:SAt w T M c ver es rs rh) (hb:a0V es k=none) (hn:b0B w3 N nd0 rs rh fq) (hu0:Upd w w3 [] fq):GotS w w3 T M c ver es rs rh k N nd0 fq:=by
 refine ⟨hn,by simp [n0J,m0C,hb],fun w4 fr hu=>?_⟩;have hf:∀r∈fq,w.heap.size≤r:=fun r hr=>(hu0.fresh r hr).elim (fun h=>by cases h) id
 have hfr:∀r∈fr,w.heap.size≤r:=fun r hr=>(hu.fresh r hr).elim (fun h=>hf r (f0G _ _ r h)) (fun h=>Nat.le_trans hu0.size h)
 have hb2:jB w w4:=(hu0.below (Nat.le_refl _) (fun _ h=>by cases h)).trans (hu.below hu0.size (fun r hr=>hf r (f0G _ _ r hr)));exact ⟨h.hole_new hb2 hfr,[],⟨hb2.os,hb2.tape,hb2.output,hb2.size,fun r hr _=>hb2.block r hr,fun r hr=>.inr (hfr r hr)⟩,fun _ h=>by cases h⟩
theorem b1U (T M:Nat) (c:Cfg) (ver:Nat) (es:List (KO × NE)) (rs rh:Nat) (k:KO) (w0 w:World) (h0:SAt w0 T M c ver es rs rh) (hb:jB w0 w) (hl:¬(g0A es k=false∧c.lo≤(es.length:Nat))) (hc:i0L c=true) (hrs:c.sa=(rs:Nat)) (hrh:c.hi=(rh:Nat)) (hok:c.ok) :
 Calls Tryz.prog 150 #[.pointer (some ⟨T,0,none⟩),.agg #[.int .u64 k.1.1,.int .u64 k.1.2]] w fun e w'=>∃N x fq,e=.returned (.tuple #[.pointer (some ⟨N,0,none⟩),.int .i64 0])∧GotS w0 w' T M c ver es rs rh k N x fq∧(∀r∈fq,r<w0.heap.size∨w.heap.size≤r)∧jB w w':=by
 have h:=h0.below hb
 cases hf:a0V es k with
 | some b =>
   refine (j1A T M c ver es rs rh k b w h hf).mono ?_;rintro e w' ⟨rfl,hb'⟩;exact ⟨b.1,b.2.1,b.2.2,rfl,p1S h0 hf (a0D hb hb'),fun r hr=>.inl ((h0.node _ (b0U hf)).lt r hr),hb'⟩
 | none =>
   refine (r1D T M c ver es rs rh k w h hf (fun hl'=>hl ⟨n0O hf,hl'⟩) hc hrs hrh hok).mono ?_;rintro e w' ⟨N,fq,rfl,h1,h2⟩;have hu:Upd w0 w' [] fq:=⟨h2.os.trans hb.os,h2.tape.trans hb.tape,h2.output.trans hb.output,Nat.le_trans hb.size h2.size,fun r hr hn=>(h2.block r (Nat.lt_of_lt_of_le hr hb.size) hn).trans (hb.block r hr),fun r hr=>(h2.fresh r hr).imp id (fun h'=>Nat.le_trans hb.size h')⟩
   exact ⟨N,nd0,fq,rfl,u1A h0 hf h1 hu,fun r hr=>(h2.fresh r hr).elim (fun h=>by cases h) .inr,h2.below (Nat.le_refl _) (fun _ h=>by cases h)⟩
theorem l0U {w w':World} {fp fp':List Nat} (h:Upd w w' fp fp') {B:Nat} {cs:Array Value} {t:TypeId} (hB:w.heap[B]?=some (.cells cs t (0,0))) (hn:B∉fp):w'.heap[B]?=some (.cells cs t (0,0)) :=
 (h.block B (jL hB) hn).trans hB
theorem f1D (T M:Nat) (c:Cfg) (ver:Nat) (es:List (KO × NE)) (rs rh:Nat) (k:KO) (s:Smp) (w:World) (h:SAt w T M c ver es rs rh) (hs:g0V s.1 s.2=0) (hl:¬(g0A es k=false∧c.lo≤(es.length:Nat))) (hc:i0L c=true) (hrs:c.sa=(rs:Nat)) (hrh:c.hi=(rh:Nat)) (hok:c.ok)
    (hv:ver≤1000000) (hvn:∀p∈ab es,p.2.ver≤1000000) :
    Calls Tryz.prog 82 #[.pointer (some ⟨T,0,none⟩),.agg #[.int .u64 k.1.1,.int .u64 k.1.2],.int .i64 s.1,.int .i64 s.2] w (g0Z w T M c es rs rh (.int .i64 0) (ver+1) (f0A (ab es) k { h0T (n0J (ab es) k) with smp:=i0O (n0J (ab es) k).smp (rs:Nat) s })):=by
  have hb0:1≤rs∧rs≤256∧rh≤64:=by
   unfold i0L at hc;simp only [Bool.and_eq_true,decide_eq_true_eq] at hc
   omega
  have hvx:(n0J (ab es) k).ver≤1000000:=by
   unfold n0J
   cases hf:a0V (ab es) k with
   | none=>simp [nd0]
   | some x=>exact hvn _ (b0U hf)
  have H:=jH h;have HS:=jH hs;have HRoom:=jH (fun (W:World) (hb:jB w W)=>b1U T M c ver es rs rh k w W h hb hl hc hrs hrh hok);have HVX:=jH hvx;have HV:=jH hv;clear h hs hl hc hrs hrh hok hvn hvx hv
  go_enter Tryz.func82,Tryz.ntmps82
  go_wp2_with (first
   | (go_at_call 102;refine (b0I _ _ _).mono ?_;rw [HS.out];rintro e w1 ⟨rfl,rfl⟩)
   | (go_at_call 149
      refine a0B ?_;intro W1 hW1;have hb1:jB w W1:=by rw [hW1];exact a0C jR _
      have hx1:W1.heap[w.heap.size]?=some (.cells #[.int .u64 k.1.1,.int .u64 k.1.2] 74 (0,0)):=by rw [hW1];exact heap_alloc_new _ _
      clear hW1;refine (h0R T c ver es rs rh _ W1 ((H.out.below hb1).in_)).mono ?_;rintro e w2 ⟨rfl,hb2⟩;obtain ⟨a1,a2,a3,a4⟩:=b0F hb2 hx1;have HX2:=jH a4;have HB2:=jH (a0D hb1 hb2);clear hb1 hb2 hx1 a4)
   | (go_at_call 150
      refine (HRoom.out w2 HB2.out).mono ?_;rintro e w3 ⟨N,x,fq,rfl,hg,hfq,hb3⟩;obtain ⟨b1,b2,b3,b4⟩:=b0F hb3 HX2.out;have hnb:w.heap.size∉fq:=fun hr=>by have:=(jL HX2.out);rcases hfq _ hr with h'|h' <;> omega
      have HX3:=jH (And.intro b4 hnb);have HG:=jH hg;clear hg hb3 b4 hfq hnb)
   | (go_at_call 151
      refine (z0Y N x rs rh fq s w3 HG.out.1 hb0.1 hb0.2.1 hb0.2.2 (by rw [HG.out.2.1];exact HVX.out) (ser0 HS.out).1 (ser0 HS.out).2).mono ?_;rintro e w4 ⟨N4,fr,rfl,hn4,hu4⟩;have hhole:=HG.out.2.2 w4 fr hu4;have hbox:w4.heap[w.heap.size]?=_:=l0U hu4 HX3.out.1 (fun hr=>HX3.out.2 (f0G _ _ _ hr));obtain ⟨c1,c2,c3⟩:=a0A jR hbox;have HN4:=jH hn4;have HH:=jH hhole;clear hn4 hu4 hhole hbox)
   | (go_at_call 152
      obtain ⟨hH,mf,hU,hmf⟩:=HH.out;refine (n0N T M c ver es rs rh k N4 _ fr w4 hH HN4.out HV.out).mono ?_;rintro e w5 ⟨rfl,h5,hu5⟩;have HF:=jH (m0O (v:=.int .i64 0) hU hmf h5 hu5);clear h5 hu5))
  go_ret
  have hf:=HF.out;rw [HG.out.2.1] at hf;exact hf
section
section
variable {α β:Type} [DecidableEq α]
theorem v0N (f:α→β→β) (l:List (α × β)) (x:α):a0V (l.map fun p=>(p.1,f p.1 p.2)) x=(a0V l x).map (f x):=by
 unfold a0V;rw [List.find?_map];simp only [Function.comp_def]
 cases h:l.find? (fun p=>decide (p.1=x)) with
 | none=>simp
 | some q =>
   have:=List.find?_some h;simp at this
   simp [this]
theorem f0H {l:List (α × β)} (hn:(l.map (·.1)).Nodup) {x:α} {v:β} (h:(x,v)∈l):a0V l x=some v:=by
 obtain ⟨u,hu,hm⟩:=e0M (es:=l) (x:=x) ((d0W l x).2 (List.mem_map.2 ⟨_,h,rfl⟩));obtain ⟨i,hi⟩:=List.getElem?_of_mem h;obtain ⟨j,hj⟩:=List.getElem?_of_mem hm;have h1:(l.map (·.1))[i]?=some x:=by simp [hi]
 have h2:(l.map (·.1))[j]?=some x:=by simp [hj]
 obtain rfl:=f0Z hn h1 h2;rw [hi] at hj;injection hj with hj
 injection hj with _ hj
 rw [hu,hj]
end
def q0R (cut:Int) (x:Nd):Nd:=if a0Q x.smp cut=0 then x else { h0T x with smp:=x.smp.drop (a0Q x.smp cut) }
def s0N (l:List (KO × Nd)) (cut:Int) (q:Ky):Nat:=((l.find? (fun p=>p.1.1=q)).map (fun p=>a0Q p.2.smp cut)).getD 0
def g0X (l:List (KO × Nd)) (cut:Int) (ks:List Ky):List (KO × Nd):=l.map fun p=>(p.1,if p.1.1∈ks then q0R cut p.2 else p.2)
def h0S (l:List (KO × Nd)) (cut:Int) (ks:List Ky):Nat:=(ks.map (s0N l cut)).sum
def i0D (l:List (KO × Nd)) (cut:Int) (ks:List Ky):Nat:=ks.countP (fun q=>0<s0N l cut q)
theorem k0V {l:List (KO × Nd)} {k:KO} {x:Nd} (cut:Int) (h:a0V l k=some x):s0N l cut k.1=a0Q x.smp cut:=by
 unfold s0N;have e:(fun p:KO × Nd=>decide (p.1.1=k.1))=(fun p:KO × Nd=>decide (p.1=k)):=by
  funext p
  rw [decide_eq_decide];exact ⟨fun h=>Subtype.ext h,fun h=>by rw [h]⟩
 rw [e];unfold a0V at h;obtain ⟨q,hq,rfl⟩:=Option.map_eq_some_iff.1 h;rw [hq];rfl
theorem q0Z (l:List (KO × Nd)) (cut:Int) (ks:List Ky) (k:KO):a0V (g0X l cut ks) k=(a0V l k).map (fun x=>if k.1∈ks then q0R cut x else x) :=
 v0N (fun (k:KO) (x:Nd)=>if k.1∈ks then q0R cut x else x) l k
theorem r0P (l:List (KO × Nd)) (cut:Int) (ks:List Ky):(g0X l cut ks).map (·.1)=l.map (·.1):=by
 unfold g0X;rw [List.map_map];rfl
theorem h1L {l:List (KO × Nd)} (hn:(l.map (·.1)).Nodup) (cut:Int) (ks:List Ky) {k:KO} {x:Nd} (hx:a0V l k=some x) (hk:k.1∉ks) :
 f0A (g0X l cut ks) k (q0R cut x)=g0X l cut (ks++[k.1]):=by
 have hh:g0A (g0X l cut ks) k=true:=by
  rw [d0W,r0P];exact List.mem_map.2 ⟨_,b0U hx,rfl⟩
 unfold f0A;rw [if_pos hh];unfold g0X;rw [List.map_map];refine List.map_congr_left fun p hp=>?_
 simp only [Function.comp,List.mem_append,List.mem_singleton]
 by_cases e:p.1=k
 · have h2:=f0H hn (show (k,p.2)∈l by rw [←e];exact hp)
   rw [hx] at h2;injection h2 with h2
   rw [if_pos e,e,h2];simp
 · rw [if_neg e]
   have:¬p.1.1=k.1:=fun h=>e (Subtype.ext h)
   simp [this]
theorem f1Z {l:List (KO × Nd)} (hn:(l.map (·.1)).Nodup) (cut:Int) (ks:List Ky) {k:KO} {x:Nd} (hx:a0V l k=some x) (h0:a0Q x.smp cut=0):g0X l cut (ks++[k.1])=g0X l cut ks:=by
 unfold g0X;refine List.map_congr_left fun p hp=>?_
 simp only [List.mem_append,List.mem_singleton]
 by_cases e:p.1=k
 · have h2:=f0H hn (show (k,p.2)∈l by rw [←e];exact hp)
   rw [hx] at h2;injection h2 with h2
   have:q0R cut p.2=p.2:=by rw [←h2];unfold q0R;rw [if_pos h0]
   rw [this]
   split <;> split <;> rfl
 · have:¬p.1.1=k.1:=fun h=>e (Subtype.ext h)
   simp [this]
theorem h1F (l:List (KO × Nd)) (cut:Int) (ks:List Ky) (q:Ky):h0S l cut (ks++[q])=h0S l cut ks+s0N l cut q:=by simp [h0S]
theorem r0G (l:List (KO × Nd)) (cut:Int) (ks:List Ky) (q:Ky):i0D l cut (ks++[q])=i0D l cut ks+if 0<s0N l cut q then 1 else 0:=by
 simp [i0D,List.countP_append,List.countP_cons]
theorem n1B (N:Nat) (x:Nd) (rs rh:Nat) (fp:List Nat) (t:Int) (w:World) (h:b0B w N x rs rh fp) (hrs:rs≤256) (h0:a0Q x.smp t=0) :
 Calls Tryz.prog 154 #[.pointer (some ⟨N,0,none⟩),.int .i64 t] w (jP w (.tuple #[.pointer (some ⟨N,0,none⟩),.int .i64 0])):=by
 refine (t0X N x rs rh fp t w h hrs h0).mono ?_;rintro e w' (⟨_,h1,h2⟩|⟨h1,_⟩)
 · exact ⟨h1,h2⟩
 · omega
theorem i1Q (N:Nat) (x:Nd) (rs rh:Nat) (fp:List Nat) (t:Int) (w:World) (h:b0B w N x rs rh fp) (hrs:rs≤256) (hrh:rh≤64) (hv:x.ver≤1000000) (h0:0<a0Q x.smp t) :
 Calls Tryz.prog 154 #[.pointer (some ⟨N,0,none⟩),.int .i64 t] w (r0F w { h0T x with smp:=x.smp.drop (a0Q x.smp t) } rs rh (mfp x fp) (fun q=>.tuple #[q,.int .i64 (a0Q x.smp t:Nat)])):=by
 refine (t0C N x rs rh fp t w h hrs hrh hv h0).mono ?_;rintro e w' (⟨h1,_⟩|⟨_,h1⟩)
 · omega
 · exact h1
theorem w0C (l:List Ky) (q:Ky):q∈risL l→q∈l:=(i0C l q).1
theorem q0V {l:List Ky} (hn:l.Nodup):(risL l).Nodup:=by
 have h:=o0X (List.Perm.refl l) hn;rw [←h];exact ((List.mergeSort_perm l _).nodup_iff).2 hn
structure l0Q (w wr:World) (T M:Nat) (c:Cfg) (ver:Nat) (es:List (KO × NE)) (rs rh:Nat) (cut:Int) (K:List Ky) (v:Value) (k:Nat) (es':List (KO × NE)):Prop where
 at_:SAt wr T M c (ver+i0D (ab es) cut (K.take k)) es' rs rh
 is:ab es'=g0X (ab es) cut (K.take k)
 upd:Upd w wr (sfp T M es) (sfp T M es')
 row:a0O 2 m0E wr v K
 blk:∀b o m cc,v=.slice (some ⟨b,o,none⟩) m cc→0<K.length→b∉sfp T M es'∧b<wr.heap.size
 old:Old w.heap.size es es'
theorem a0O.keepB {α:Type} {n:Nat} {f:α→List Value} {w w':World} {v:Value} {l:List α} (h:a0O n f w v l) (hs:w.heap.size≤w'.heap.size) (hk:∀b o m c,v=.slice (some ⟨b,o,none⟩) m c→0<l.length→w'.heap[b]?=w.heap[b]?):a0O n f w' v l:=by
 obtain ⟨A,c,hv,hc,hr⟩:=h;refine ⟨A,c,hv,hc,fun hn=>?_⟩;obtain ⟨b,o,hA,hlt,hat⟩:=hr hn;have hb:=hk b o _ _ (by rw [hv,hA]) hn;exact ⟨b,o,hA,Nat.lt_of_lt_of_le hlt hs,fun k x hx j u hu=>by
  have:=hat k x hx j u hu;simp only [World.cell?] at this ⊢
  rw [hb];exact this⟩
section
variable {w wr w3 w5:World} {T M:Nat} {c:Cfg} {ver:Nat} {es:List (KO × NE)} {rs rh:Nat} {cut:Int} {K:List Ky} {v:Value} {k:Nat} {es':List (KO × NE)} {ko:KO} {x:Nd} {b:NE}
theorem l0Q.same (h:l0Q w wr T M c ver es rs rh cut K v k es') (hnd:((ab es).map (·.1)).Nodup) (hk:k<K.length) (hko:K[k]=ko.1) (hx:a0V (ab es) ko=some x) (h0:a0Q x.smp cut=0) (hb:jB wr w3):l0Q w w3 T M c ver es rs rh cut K v (k+1) es':=by
 have e:K.take (k+1)=K.take k++[ko.1]:=by rw [List.take_succ_eq_append_getElem hk,hko]
 have hg:=k0V cut hx;refine ⟨?_,?_,h.upd.trans (Upd.of_below hb _),h.row.below hb,fun b o m c' e hn=>?_,h.old⟩
 · rw [e,r0G,hg,h0]
   exact h.at_.below hb
 · rw [e,f1Z hnd cut _ hx h0]
   exact h.is
 · have:=h.blk b o m c' e hn
   exact ⟨this.1,Nat.lt_of_lt_of_le this.2 hb.size⟩
theorem l0Q.step {N:Nat} {fr:List Nat} (h:l0Q w wr T M c ver es rs rh cut K v k es') (hnd:((ab es).map (·.1)).Nodup) (hk:k<K.length) (hko:K[k]=ko.1) (hx:a0V (ab es) ko=some x) (hnk:ko.1∉K.take k) (hb:a0V es' ko=some b) (hbx:b.2.1=x) (h0:0<a0Q x.smp cut)
    (hu:Upd wr w3 (mfp b.2.1 b.2.2) fr) (hs:SAt w5 T M c (ver+i0D (ab es) cut (K.take k)+1) (f0A es' ko (N,{ h0T x with smp:=x.smp.drop (a0Q x.smp cut) },fr)) rs rh) (hk5:Upd w3 w5 [T,M] [T,M]) :
    l0Q w w5 T M c ver es rs rh cut K v (k+1) (f0A es' ko (N,{ h0T x with smp:=x.smp.drop (a0Q x.smp cut) },fr)):=by
  have e:K.take (k+1)=K.take k++[ko.1]:=by rw [List.take_succ_eq_append_getElem hk,hko]
  have hg:=k0V cut hx;have hmf:∀r∈mfp b.2.1 b.2.2,r∈r1P es':=fun r hr=>e0G.2 ⟨_,b0U hb,hr⟩
  have hu2:=d1L (k:=ko) (N:=N) (y:={ h0T x with smp:=x.smp.drop (a0Q x.smp cut) }) hu hk5 hmf;refine ⟨?_,?_,h.upd.trans hu2,h.row.keepB hu2.size (fun b o m c' e hn=>?_),fun b o m c' e hn=>?_,h.old.trans (Old.put hu hmf) h.upd.size⟩
  · rw [e,r0G,hg,if_pos h0]
    exact hs
  · rw [e,←h1L hnd cut _ hx hnk,n1G,h.is]
    unfold q0R;rw [if_neg (by omega)]
  · obtain ⟨h1,h2⟩:=h.blk b o m c' e hn
    exact hu2.block b h2 h1
  · obtain ⟨h1,h2⟩:=h.blk b o m c' e hn
    exact ⟨fun hm=>(hu2.fresh b hm).elim h1 (fun h'=>by omega),Nat.lt_of_lt_of_le h2 hu2.size⟩
end
end
theorem l0Q.entry {w wr:World} {T M:Nat} {c:Cfg} {ver:Nat} {es:List (KO × NE)} {rs rh:Nat} {cut:Int} {v:Value} {k:Nat} {es':List (KO × NE)} {K:List Ky} (h:l0Q w wr T M c ver es rs rh cut K v k es') (hK:K=risL (kyN es)) (hnd:(kyN es).Nodup) (hk:k<K.length) :
 ∃ko x b,K[k]=ko.1∧a0V (ab es) ko=some x∧a0V es' ko=some b∧b.2.1=x∧ko.1∉K.take k:=by
 have hm:K[k]∈kyN es:=by subst hK;exact w0C _ _ (List.getElem_mem hk)
 obtain ⟨p,hp,he⟩:=List.mem_map.1 hm;have hn:K.Nodup:=by subst hK;exact q0V hnd
 have hnk:K[k]∉K.take k:=fun hmem=>by
  obtain ⟨i,hi⟩:=List.getElem?_of_mem hmem;have hil:i<k:=by
   have:=(List.getElem?_eq_some_iff.1 hi).1;simp at this;omega
  rw [List.getElem?_take_of_lt hil] at hi;have:=f0Z hn hi (List.getElem?_eq_getElem hk);omega
 have hhas:g0A (ab es) p.1=true:=(d0W _ _).2 (List.mem_map.2 ⟨(p.1,p.2.2.1),List.mem_map.2 ⟨p,hp,rfl⟩,rfl⟩);obtain ⟨x,hx,_⟩:=e0M hhas;have h2:a0V (ab es') p.1=some x:=by
  rw [h.is,q0Z,hx];have:p.1.1∉K.take k:=by rw [he];exact hnk
  simp [this]
 rw [m0C] at h2;obtain ⟨b,hb,hbx⟩:=Option.map_eq_some_iff.1 h2;exact ⟨p.1,x,b,he.symm,hx,hb,hbx,by rw [he];exact hnk⟩
theorem j1I (T M:Nat) (c:Cfg) (ver:Nat) (es:List (KO × NE)) (rs rh:Nat) (cut:Int) (w:World) (h:SAt w T M c ver es rs rh) (hrs:rs≤256) (hrh:rh≤64) (hl:es.length≤1000) (hv:ver≤900000) (hvn:∀p∈ab es,p.2.ver≤1000000) (hsl:∀p∈ab es,p.2.smp.length≤256) :
 Calls Tryz.prog 83 #[.pointer (some ⟨T,0,none⟩),.int .i64 cut] w (g0Z w T M c es rs rh (.int .i64 (h0S (ab es) cut (risL (kyN es)):Nat)) (ver+i0D (ab es) cut (risL (kyN es))) (g0X (ab es) cut (risL (kyN es)))):=by
 have hnd:(kyN es).Nodup:=l0C h.map;have hndl:((ab es).map (·.1)).Nodup:=by have:=h.nodup;simpa [ab,List.map_map,Function.comp_def] using this
 obtain ⟨K,hK⟩:∃K,K=risL (kyN es):=⟨_,rfl⟩;have hKl:K.length≤1000:=by rw [hK,e0K hnd];simp [kyN];exact hl
 have hgk:∀q,s0N (ab es) cut q≤256:=fun q=>by
  unfold s0N
  cases hf:(ab es).find? (fun p=>decide (p.1.1=q)) with
  | none=>simp
  | some p =>
    have:=hsl p (List.mem_of_find?_eq_some hf);have:=e0S p.2.smp cut
    simp;omega
 have hgs:∀k,h0S (ab es) cut (K.take k)≤256 * 1000:=fun k=>by
  have h1:∀ks:List Ky,h0S (ab es) cut ks≤256 * ks.length:=fun ks=>by
   induction ks with
   | nil=>simp [h0S]
   | cons a ks ih=>have:=hgk a;simp only [h0S,List.map_cons,List.sum_cons,List.length_cons] at ih ⊢;omega
  have h2:=h1 (K.take k);have h3:(K.take k).length≤1000:=by simp;omega
  omega
 have hms:∀k,i0D (ab es) cut (K.take k)≤1000:=fun k=>by
  have:i0D (ab es) cut (K.take k)≤(K.take k).length:=List.countP_le_length ..;have h3:(K.take k).length≤1000:=by simp;omega
  omega
 rw [←hK];have hk0:=p0O T c ver es rs rh _ w h.in_ (by omega);rw [←hK] at hk0;have HK:=jH hk0;have H:=jH h;have HKK:=jH hK;have HND:=jH hnd;have HNDL:=jH hndl;have HVN:=jH hvn;have HGS:=jH hgs;have HMS:=jH hms;clear h hnd hndl hvn hsl hgk hgs hms hk0 hK
 go_enter Tryz.func83,Tryz.ntmps83
 go_wp2_with (first
  | (go_at_call 153
     refine HK.out.mono ?_;rintro e w2 ⟨v,rfl,hrow,hb2⟩;obtain ⟨A,cc,rfl⟩:=h0X hrow;have hri:a0O 2 m0E w2 (.slice A K.length cc) K:=a0O.own (n:=2) (f:=m0E) (fun _=>rfl) hrow;have hblk:∀b o m c',(Value.slice A K.length cc)=.slice (some ⟨b,o,none⟩) m c'→0<K.length→w.heap.size≤b∧b<w2.heap.size:=fun b o m c' e hn=>by
      rcases hrow.2 with ⟨hv',h0⟩|⟨g,cap,cur,hv',_⟩
      · omega
      · have hlt:=hrow.lt g (by rw [hv'];rfl)
        rw [e] at hv';injection hv' with e1 _ _
        injection e1 with e1
        injection e1 with e1
        rw [e1];exact hlt
     have HRI:=jH hri;have HBL:=jH hblk;have HB2:=jH hb2;clear hrow hri hblk hb2))
 go_loopg [5,13] K.length (fun g s5 s13 wr=>∃k es',k≤K.length∧K.length - k≤g∧s13=.int .i64 (k:Nat)∧s5=.int .i64 (h0S (ab es) cut (K.take k):Nat)∧l0Q w wr T M c ver es rs rh cut K (.slice A K.length cc) k es')
 case atStart =>
  refine ⟨0,es,Nat.zero_le _,Nat.le_refl _,rfl,by simp [h0S],⟨?_,?_,?_,HRI.out,?_,Old.refl _ _⟩⟩
  · have:=H.out.below HB2.out
    simpa [i0D] using this
  · simp [g0X]
  · exact Upd.of_below HB2.out _
  · intro b o m c' e hn
    obtain ⟨h1,h2⟩:=HBL.out b o m c' e hn;refine ⟨fun hm=>?_,h2⟩;simp only [sfp,List.mem_cons] at hm
    rcases hm with rfl|rfl|hm
    · have:=H.out.ltT;omega
    · have:=H.out.map.lt;omega
    · obtain ⟨p,hp,hr⟩:=e0G.1 hm
      have:=(H.out.node p hp).lt b (f0G _ _ b hr);omega
 case round =>
  obtain ⟨k,es',hk,hg,rfl,rfl,hT⟩:=hrel
  by_cases hlt:k<K.length
  · obtain ⟨ko,x,b,hko,hx,hb,hbx,hnk⟩:=hT.entry HKK.out HND.out hlt
    obtain ⟨bb,o,rfl,hbw,hc⟩:=hT.row.at_ hlt;have c1:wr.cell? ⟨bb,o+k * 2,none⟩=some (.int .u64 K[k].1):=hc 0 _ rfl;have c2:wr.cell? ⟨bb,o+k * 2+1,none⟩=some (.int .u64 K[k].2):=hc 1 _ rfl;rw [hko] at c1 c2;have hS:=hT.at_;have hnode:=hS.node _ (b0U hb);dsimp only at hnode;rw [hbx] at hnode;have HN:=jH hnode;have HS:=jH hS;have HT:=jH hT;have HFB:=jH hb;have HBX:=jH hbx;have HKO:=jH hko;have HXX:=jH hx
    have HNK:=jH hnk;have hgk:=k0V cut hx;have hsn:h0S (ab es) cut (K.take (k+1))=h0S (ab es) cut (K.take k)+a0Q x.smp cut:=by
     rw [List.take_succ_eq_append_getElem hlt,hko,h1F,hgk]
    have HSN:=jH hsn;have hg0:=HGS.out k;have hg1:=HGS.out (k+1);have hxv:x.ver≤1000000:=HVN.out _ (b0U hx);rw [hsn] at hg1;clear hc hT hb hbx hko hx hnk hgk hsn hnode hS;generalize hGS:h0S (ab es) cut (K.take k)=G at *;clear hGS;go_wp2_with fail
    refine a0I ?_;intro W1 hW1;have hb1:jB wr W1:=by rw [hW1];exact a0C jR _
    have hx1:W1.heap[wr.heap.size]?=some (.cells #[.int .u64 ko.1.1,.int .u64 ko.1.2] 74 (0,0)):=by rw [hW1];exact heap_alloc_new _ _
    clear hW1 c1 c2;have a1:W1.cell? ⟨wr.heap.size,0,none⟩=some (.int .u64 ko.1.1):=by simp [World.cell?,hx1]
    have a2:W1.cell? ⟨wr.heap.size,1,none⟩=some (.int .u64 ko.1.2):=by simp [World.cell?,hx1]
    have h1:=HS.out.below hb1;have hltT:=h1.ltT;have z0:W1.cell? ⟨T,0,none⟩=some (.map (some M)):=by simp only [World.cell?,h1.cell];rfl
    have r4:(Instr.lookup 230 (.map (some M)) (.agg #[.int .u64 ko.1.1,.int .u64 ko.1.2]) false).run Tryz.prog W1.drew=.ok (.pointer (some ⟨b.1,0,none⟩)) W1.drew:=by
     have:=m0K (h1.map.below ((Below.refl _ W1).drew)) ko false;rw [HFB.out] at this;exact this
    have HX1:=jH hx1;have HB1:=jH hb1;clear hx1 hb1 h1
    rcases Nat.eq_zero_or_pos (a0Q x.smp cut) with h0|h0
    · go_region_with (first
       | (go_at_call 154
          refine a0B ?_;intro W2 hW2;have hb2:jB W1 W2:=by rw [hW2];repeat (first|exact jR|refine a0C ?_ _|refine Below.drew ?_)
          clear hW2;refine (n1B b.1 x rs rh b.2.2 cut W2 (HN.out.below (a0D HB1.out hb2)) hrs h0).mono ?_;rintro e w3 ⟨rfl,hb3⟩;have HB3:=jH (a0D (a0D HB1.out hb2) hb3);clear hb2 hb3))
      all_goals
        go_wp2
        go_roundg (K.length - (k+1))
        case measure=>omega
        case rel=>exact ⟨k+1,es',hlt,Nat.le_refl _,by go_num,by rw [HSN.out,h0];rfl,HT.out.same HNDL.out hlt HKO.out HXX.out h0 HB3.out⟩
    · have hgt:(0:Int)<(a0Q x.smp cut:Nat):=by omega
      have hwr:IntKind.i64.wrap ((G:Int)+(a0Q x.smp cut:Nat))=((G+a0Q x.smp cut:Nat):Int):=by rw [IntKind.wrap_i64];omega
      have hvk:ver+i0D (ab es) cut (K.take k)≤1000000:=by have:=HMS.out k;omega
      go_region_with (first
       | (go_at_call 154
          refine a0B ?_;intro W2 hW2;have hb2:jB W1 W2:=by rw [hW2];repeat (first|exact jR|refine a0C ?_ _|refine Below.drew ?_)
          clear hW2;refine (i1Q b.1 x rs rh b.2.2 cut W2 (HN.out.below (a0D HB1.out hb2)) hrs hrh hxv h0).mono ?_;rintro e w3 ⟨N3,fr,rfl,hn3,hu3⟩;have hbx:wr.heap.size∉mfp x b.2.2:=fun hr=>by have:=HN.out.lt _ (f0G _ _ _ hr);omega
          have hx3:=l0U hu3 (jK hb2 HX1.out) hbx;obtain ⟨q1,q2,q3⟩:=a0A jR hx3;have hbw2:=a0D HB1.out hb2;have hu30:Upd wr w3 (mfp b.2.1 b.2.2) fr:=by rw [HBX.out];exact (Upd.of_below hbw2 _).trans hu3
          have hole:=HS.out.hole (b0U HFB.out) hu30;have HN3:=jH hn3;have HU3:=jH hu30;have HOL:=jH hole;clear hb2 hn3 hu3 hbx hx3 hbw2 hu30 hole))
      all_goals
        go_wp2_with (first
         | (go_at_call 152
            refine (n0N T M c _ es' rs rh ko N3 _ fr w3 HOL.out HN3.out hvk).mono ?_;rintro e w5 ⟨rfl,h5,hu5⟩;have HT5:=jH (HT.out.step HNDL.out hlt HKO.out HXX.out HNK.out HFB.out HBX.out h0 HU3.out h5 hu5);clear h5 hu5))
        go_roundg (K.length - (k+1))
        case measure=>omega
        case rel=>exact ⟨k+1,_,hlt,Nat.le_refl _,by go_num,by rw [HSN.out,Int.natCast_add],HT5.out⟩
  · obtain rfl:k=K.length:=by omega
    have hT':=hT.upd;have hat:=hT.at_;have his:=hT.is;rw [List.take_length] at hat his ⊢;have HF:=jH (show g0Z w T M c es rs rh (.int .i64 (h0S (ab es) cut K:Nat)) (ver+i0D (ab es) cut K) (g0X (ab es) cut K) (.returned (.int .i64 (h0S (ab es) cut K:Nat))) wr from ⟨es',rfl,hat,his,hT',hT.old⟩);clear hT hT' hat his;go_wp2
    go_ret
    exact HF.out
def frz (x:Nd):Nd:={ x with frz:=true }
theorem q0K (N:Nat) (x:Nd) (rs rh:Nat) (fp:List Nat) (w:World) (h:b0B w N x rs rh fp) :
 Calls Tryz.prog 165 #[.pointer (some ⟨N,0,none⟩)] w fun e w'=>e=.returned (.pointer (some ⟨N,0,none⟩))∧b0B w' N (frz x) rs rh fp∧Upd w w' (mfp x fp) []:=by
 have HM:=jH (f0O N x rs rh fp w h);have HN:=jH h;obtain ⟨S,fs,H,fh,h1,_⟩:=id h;have H1:=jH h1;clear h h1
 go_enter Tryz.func165,Tryz.ntmps165
 go_wp2_with (first
  | (go_at_call 174
     refine HM.out.mono ?_;rintro e w2 ⟨rfl,hb2⟩;obtain ⟨a1,a2,a3⟩:=a0A hb2 H1.out;have hx2:=(hb2.block N (jL H1.out)).trans H1.out;have HX2:=jH hx2;have HB2:=jH hb2;clear hb2 hx2))
 go_ret
 have hn2:=HN.out.below HB2.out;refine ⟨rfl,g0D (i:=10) (v:=.bool true) (y:=frz x) hn2 (fun S H=>rfl) rfl rfl,HB2.out.os,HB2.out.tape,HB2.out.output,by simp [World.setCell];exact HB2.out.size,fun k hk hn=>?_,fun r hr=>by cases hr⟩
 by_cases e:k=N
 · subst e
   have hf:x.frz=true:=by
    cases hx:x.frz with
    | true=>rfl
    | false =>
      exfalso
      apply hn
      unfold mfp;rw [hx];exact HN.out.mem
   have hb:=a0E (i:=10) (v:=.bool true) HX2.out;rw [hb,H1.out];have:(ndC x S H).setIfInBounds 10 (.bool true)=ndC x S H:=by
    unfold ndC;rw [hf];rfl
   rw [this]
 · exact (Below.heap_setCell _ _ _ _ e).trans (HB2.out.block k hk)
def g0Y (es:List (KO × NE)) (ks:List Ky):List (KO × NE):=es.map fun p=>(p.1,(p.2.1,(if p.1.1∈ks then frz p.2.2.1 else p.2.2.1),p.2.2.2))
theorem c1C (es:List (KO × NE)):g0Y es []=es:=by
 unfold g0Y
 conv=>rhs;rw [←List.map_id es]
 exact List.map_congr_left fun p _=>rfl
theorem n0Y {es:List (KO × NE)} {ks:List Ky} {p:KO × NE} (h:p∈g0Y es ks):∃q∈es,p=(q.1,(q.2.1,(if q.1.1∈ks then frz q.2.2.1 else q.2.2.1),q.2.2.2)):=by
 obtain ⟨q,hq,rfl⟩:=List.mem_map.1 h;exact ⟨q,hq,rfl⟩
theorem i1G (es:List (KO × NE)) (ks:List Ky) (k:KO):a0V (g0Y es ks) k=(a0V es k).map (fun b=>(b.1,(if k.1∈ks then frz b.2.1 else b.2.1),b.2.2)):=by
 unfold a0V g0Y;rw [List.find?_map];simp only [Function.comp_def]
 cases h:es.find? (fun p=>decide (p.1=k)) with
 | none=>simp
 | some q =>
   have:=List.find?_some h;simp at this
   simp [this]
theorem n1E (es:List (KO × NE)) (ks:List Ky):ab (g0Y es ks)=(ab es).map (fun p=>(p.1,if p.1.1∈ks then frz p.2 else p.2)):=by
 simp [ab,g0Y,List.map_map,Function.comp_def]
theorem SAt.freeze {w w':World} {T M:Nat} {c:Cfg} {ver:Nat} {es:List (KO × NE)} {rs rh:Nat} {ks:List Ky} {k:KO} {b:NE} (h:SAt w T M c ver (g0Y es ks) rs rh) (hb:a0V (g0Y es ks) k=some b)
    (hn:b0B w' b.1 (frz b.2.1) rs rh b.2.2) (hu:Upd w w' (mfp b.2.1 b.2.2) []):SAt w' T M c ver (g0Y es (ks++[k.1])) rs rh∧Upd w w' (sfp T M (g0Y es ks)) (sfp T M (g0Y es (ks++[k.1]))):=by
  have hm:=b0U hb;have hnd:=h.nodup;have ho:=h.off _ hm;have hsub:=f0G b.2.1 b.2.2;have hole:=h.hole hm hu;have hent:∀p∈g0Y es (ks++[k.1]),∃q∈g0Y es ks,q.1=p.1∧q.2.1=p.2.1∧q.2.2.2=p.2.2.2∧((p.1=k∧p.2.2.1=frz q.2.2.1)∨(p.1≠k∧p.2.2.1=q.2.2.1)):=by
   intro p hp;obtain ⟨q,hq,rfl⟩:=n0Y hp;refine ⟨_,List.mem_map.2 ⟨q,hq,rfl⟩,rfl,rfl,rfl,?_⟩
   by_cases e:q.1=k
   · refine .inl ⟨e,?_⟩
     have e1:q.1.1=k.1:=by rw [e]
     simp only [e1,List.mem_append,List.mem_singleton,or_true,if_true]
     split
     · rfl
     · rfl
   · refine .inr ⟨e,?_⟩
     have:¬q.1.1=k.1:=fun h=>e (Subtype.ext h)
     simp [this]
  have hat:∀q∈g0Y es ks,q.1=k→q.2=b:=fun q hq e=>by
   have:=f0H hnd (show (k,q.2)∈g0Y es ks by rw [←e];exact hq);rw [hb] at this;injection this with this
   exact this.symm
  refine ⟨⟨hole.cell,?_,fun p hp=>?_,fun p hp q hq hpq=>?_,fun p hp=>?_,h.ne⟩,⟨hu.os,hu.tape,hu.output,hu.size,fun r hr hnr=>hu.block r hr (fun hk=>hnr ?_),fun r hr=>?_⟩⟩
  · have h1:=hole.map
    unfold g0Y at h1 ⊢;obtain ⟨ents,clock,g1,g2,g3,g4,g5⟩:=h1;refine ⟨ents,clock,g1,g2.trans ?_,g3,g4,?_⟩
    · rw [List.map_map,List.map_map];rfl
    · rw [List.map_map] at g5 ⊢;exact g5
  · obtain ⟨q,hq,e1,e2,e3,e4⟩:=hent p hp
    rw [←e2,←e3]
    rcases e4 with ⟨ek,e5⟩|⟨ek,e5⟩
    · have:=hat q hq (e1.trans ek)
      rw [e5,this];exact hn
    · rw [e5]
      exact hole.node q hq (by rw [e1];exact ek)
  · obtain ⟨p',hp',e1,_,e3,_⟩:=hent p hp
    obtain ⟨q',hq',f1,_,f3,_⟩:=hent q hq;rw [←e3,←f3];exact h.pair p' hp' q' hq' (by rw [e1,f1];exact hpq)
  · obtain ⟨p',hp',e1,_,e3,_⟩:=hent p hp
    rw [←e3];exact h.off p' hp'
  · simp only [sfp,List.mem_cons]
    exact .inr (.inr (e0G.2 ⟨_,hm,hk⟩))
  · simp only [sfp,List.mem_cons] at hr ⊢
    rcases hr with rfl|rfl|hr
    · exact .inl (.inl rfl)
    · exact .inl (.inr (.inl rfl))
    · obtain ⟨p,hp,hr⟩:=e0G.1 hr
      obtain ⟨q,hq,e1,_,e3,e4⟩:=hent p hp;refine .inl (.inr (.inr (e0G.2 ⟨q,hq,?_⟩)))
      rcases e4 with ⟨_,e5⟩|⟨_,e5⟩
      · rw [e5] at hr
        unfold mfp frz at hr;simp at hr
      · rw [←e5,e3]
        exact hr
end
end Go.Proofs.YtmniiodpbebnmaaGreat
