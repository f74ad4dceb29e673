/- Part 47 of the proof. -/
import Derived.Test.YtmniiodpbebnmaaGreatJ44
import Derived.Test.YtmniiodpbebnmaaGreatJ46
namespace Go.Proofs.YtmniiodpbebnmaaGreat
set_option linter.unusedSimpArgs false
set_option linter.unusedVariables false
set_option linter.unusedSectionVars false
set_option maxRecDepth 100000
set_option maxHeartbeats 16000000
section
open Go.RowKit Go.Lib
theorem k1S {c:Cfg} (hc:h0A c=true) (hok:c.ok):b0S c c.sa.toNat c.hi.toNat:=by
 have h:=hc;unfold h0A at h;simp only [Bool.and_eq_true,decide_eq_true_eq] at h
 exact ⟨hc,by omega,by omega,hok⟩
def OffS (fp:List Nat) (M L b:Nat):Prop:=b∉fp∧b≠M∧b≠L
theorem SW.flat {z:Nat} {w u:World} {S M L:Nat} {c:Cfg} {rs rh n:Nat} {wd:Wd} {d:d0Y} (h:SW (fun b=>z≤b) w S c rs rh n wd d) (hM:M<z) (hL:L<z) (hu:Upd w u [M,L] [M,L]):SW (fun b=>z≤b) u S c rs rh n wd d :=
 ⟨h.at_.keep hu.size (fun r hr hlt=>⟨hu.block r hlt (by simp only [List.mem_cons,List.not_mem_nil,or_false];omega),hr⟩),h.ok,h.home,h.tot⟩
theorem FW.store {w u:World} {fp fp':List Nat} {M L:Nat} {c:Cfg} {rs rh n:Nat} {wd:Wd} {d:b0J} (h:FW (OffS fp M L) w M c rs rh n wd d) (hL:d.L=L) (hM:M∉fp) (hLf:L∉fp) (hu:Upd w u fp fp'):FW (OffS fp' M L) u M c rs rh n wd d:=by
 subst hL;exact ⟨h.at_.keep hu.size (hu.block _ h.at_.lt hM) (hu.block _ h.at_.map.lt hLf) (fun b hb hlt=>⟨hu.block b hlt hb.1,fun hq=>(hu.fresh b hq).elim hb.1 (fun h9=>by omega),hb.2⟩) (fun b hb=>hb.2),h.ok⟩
theorem l1A {c:Cfg} {es:List (SK × It)} {wd:Wd} (rs rh:Nat) (h:b0F c es wd) (hst:e0R c.st=true) (s:SK):∃wd' av e1 e2,i1X c rs rh wd s.1=(wd',av,e1)∧w0C (a0L es s)=(av,e2) ∧
    ((e1=2∧e2=5∧wd'=wd)∨(e1=e2∧e1≠0∧wd'=wd)∨(e1=0∧e2=0∧idS s.1=true∧wd'=(e0D c rs rh wd s.1 av).1∧(e0D c rs rh wd s.1 av).2=true)):=by
  cases hid:idS s.1 with
  | false =>
    rw [x0Y hid,h.none s hid];exact ⟨_,_,_,_,rfl,rfl,.inl ⟨rfl,rfl,rfl⟩⟩
  | true =>
    have hp:=s0N h s hid
    by_cases he:(e0C wd s.1).2=0
    · rw [h1W hid he]
      refine ⟨_,_,_,0,rfl,?_,.inr (.inr ⟨rfl,rfl,rfl,rfl,?_⟩)⟩
      · rw [hp];exact Prod.ext rfl he
      · cases hf:a0L es s with
        | none =>
          rw [hf] at hp;rw [←hp] at he;exact absurd he (by unfold w0C;decide)
        | some x=>rw [(h.note (rs:=rs) hst s hid _ x hf ⟨x.key,x.sA,x.sc,x.pA,x.pc,a1Y rh x.nd (e0C wd s.1).1⟩ rfl).1]
    · rw [y0Z hid he]
      refine ⟨_,_,_,(e0C wd s.1).2,rfl,?_,.inr (.inl ⟨rfl,he,rfl⟩)⟩;rw [hp];exact Prod.ext (f1P he) rfl
structure j0G (w wr:World) (z M L S:Nat) (c:Cfg) (rs rh k:Nat) (wd:Wd) (dF:b0J) (d:d0Y):Prop where
 sw:SW (fun b=>z≤b) wr S c rs rh k wd d
 fw:FW (OffS (d.fp S) M L) wr M c rs rh k wd dF
 l:dF.L=L
 ml:M<z∧L<z∧w.heap.size≤M∧w.heap.size≤L
 zw:z≤wr.heap.size
 b:jB w wr
theorem j0G.below {w wr w':World} {z M L S:Nat} {c:Cfg} {rs rh k:Nat} {wd:Wd} {dF:b0J} {d:d0Y} (h:j0G w wr z M L S c rs rh k wd dF d) (hb:jB wr w'):j0G w w' z M L S c rs rh k wd dF d :=
 ⟨h.sw.below hb,h.fw.below hb,h.l,h.ml,Nat.le_trans h.zw hb.size,a0D h.b hb⟩
theorem j0G.offM {w wr:World} {z M L S:Nat} {c:Cfg} {rs rh k:Nat} {wd:Wd} {dF:b0J} {d:d0Y} (h:j0G w wr z M L S c rs rh k wd dF d):M∉d.fp S∧L∉d.fp S :=
 ⟨fun hq=>by have h1:z≤M:=(h.sw.at_.fpLt _ hq).2;have:=h.ml.1;omega,fun hq=>by have h1:z≤L:=(h.sw.at_.fpLt _ hq).2;have:=h.ml.2.1;omega⟩
theorem j0G.new {w wr:World} {z M L S:Nat} {c:Cfg} {rs rh k:Nat} {wd:Wd} {dF:b0J} {d:d0Y} (h:j0G w wr z M L S c rs rh k wd dF d):∀b,wr.heap.size≤b→OffS (d.fp S) M L b:=fun b hb =>
 ⟨h.sw.new b hb,by have:=h.ml.1;have:=h.zw;omega,by have:=h.ml.2.1;have:=h.zw;omega⟩
theorem j0G.put {w wr u v:World} {z M L S:Nat} {c:Cfg} {rs rh k m:Nat} {wd wd':Wd} {dF dF':b0J} {d d':d0Y} (h:j0G w wr z M L S c rs rh k wd dF d) (hu:Upd wr u [M,L] [M,L]) (hv:Upd u v (d.fp S) (d'.fp S)) (hs:SW (fun b=>z≤b) v S c rs rh m wd' d') (hf:FW (OffS (d'.fp S) M L) v M c rs rh m wd' dF') (hl:dF'.L=L):j0G w v z M L S c rs rh m wd' dF' d' :=
 ⟨hs,hf,hl,h.ml,Nat.le_trans h.zw (Nat.le_trans hu.size hv.size),(h.b.trans (hu.below h.b.size (fun r hr=>by
  simp only [List.mem_cons,List.not_mem_nil,or_false] at hr
  rcases hr with rfl|rfl
  · exact h.ml.2.2.1
  · exact h.ml.2.2.2))).trans (hv.below (Nat.le_trans h.b.size hu.size) (fun r hr=>by
    have h1:z≤r:=(h.sw.at_.fpLt _ hr).2;have:=h.ml;omega))⟩
theorem j0G.putN {w wr u v:World} {z M L S:Nat} {c:Cfg} {rs rh k m:Nat} {wd wd':Wd} {dF dF':b0J} {d d':d0Y} (h:j0G w wr z M L S c rs rh k wd dF d) (hu:Upd wr u (d.fp S) (d'.fp S)) (hs:SW (fun b=>z≤b) u S c rs rh m wd' d') (hv:Upd u v [M,L] [M,L]) (hf:FW (OffS (d'.fp S) M L) v M c rs rh m wd' dF') (hl:dF'.L=L):j0G w v z M L S c rs rh m wd' dF' d' :=
 ⟨hs.flat h.ml.1 h.ml.2.1 hv,hf,hl,h.ml,Nat.le_trans h.zw (Nat.le_trans hu.size hv.size),(h.b.trans (hu.below h.b.size (fun r hr=>by
  have h1:z≤r:=(h.sw.at_.fpLt _ hr).2;have:=h.ml;omega))).trans (hv.below (Nat.le_trans h.b.size hu.size) (fun r hr=>by
   simp only [List.mem_cons,List.not_mem_nil,or_false] at hr
   rcases hr with rfl|rfl
   · exact h.ml.2.2.1
   · exact h.ml.2.2.2))⟩
theorem j1R (c:Cfg) (v:Value) (l:List b0Z) (w:World) (hv:a0Q 11 e0Q w v l) (hok:∀p∈l,p.ok) (hc:c.ok) (hcb:h0A c=false) :
 Calls Tryz.prog 10 #[n0D c,v] w (jP w (.bool true)):=by
 obtain ⟨A,cp,rfl⟩:=hv.form;have CR:=jH (fun W=>g0A c W);rw [hcb] at CR;unfold n0D at CR ⊢;clear hv hok hc hcb
 go_enter Tryz.func10,Tryz.ntmps10
 go_wp2_with (first
  | (go_at_call 11
     refine a0B ?_;intro W1 hW1;have HB1:=jH (show jB w W1 by rw [hW1];exact a0C jR _);have HC1:=jH (show W1.heap[w.heap.size]?=some (.cells #[.int .i64 c.st,.int .i64 c.sa,.int .i64 c.lo,.int .i64 c.hi] 23 (0,0)) by rw [hW1];exact heap_alloc_new _ _);clear hW1;refine (j0D W1).mono ?_;rintro e w2 ⟨rfl,hb⟩;have HB2:=jH (a0D HB1.out hb);have HC2:=jH (jK hb HC1.out);obtain ⟨c1,c2,c3⟩:=a0A jR HC2.out
     clear hb)
  | (go_at_call 13
     refine (CR.out _).mono ?_;rintro e w3 ⟨rfl,hb⟩;have HB3:=jH (a0D HB2.out hb);have HC3:=jH (jK hb HC2.out);clear c1 c2 c3;obtain ⟨c1,c2,c3⟩:=a0A jR HC3.out;clear hb))
 go_ret
 exact ⟨rfl,HB3.out⟩
theorem f1I (c:Cfg) (v:Value) (l:List b0Z) (w:World) (hv:a0Q 11 e0Q w v l) (hok:∀p∈l,p.ok) (hc:c.ok) (hcb:h0A c=true) (hl:40<l.length) :
 Calls Tryz.prog 10 #[n0D c,v] w (jP w (.bool true)):=by
 obtain ⟨A,cp,rfl⟩:=hv.form;have CR:=jH (fun W=>g0A c W);rw [hcb] at CR;have q0:(40:Int)<(l.length:Int):=by omega
 unfold n0D at CR ⊢;clear hv hok hc hcb hl
 go_enter Tryz.func10,Tryz.ntmps10
 go_wp2_with (first
  | (go_at_call 11
     refine a0B ?_;intro W1 hW1;have HB1:=jH (show jB w W1 by rw [hW1];exact a0C jR _);have HC1:=jH (show W1.heap[w.heap.size]?=some (.cells #[.int .i64 c.st,.int .i64 c.sa,.int .i64 c.lo,.int .i64 c.hi] 23 (0,0)) by rw [hW1];exact heap_alloc_new _ _);clear hW1;refine (j0D W1).mono ?_;rintro e w2 ⟨rfl,hb⟩;have HB2:=jH (a0D HB1.out hb);have HC2:=jH (jK hb HC1.out);obtain ⟨c1,c2,c3⟩:=a0A jR HC2.out
     clear hb)
  | (go_at_call 13
     refine (CR.out _).mono ?_;rintro e w3 ⟨rfl,hb⟩;have HB3:=jH (a0D HB2.out hb);have HC3:=jH (jK hb HC2.out);clear c1 c2 c3;obtain ⟨c1,c2,c3⟩:=a0A jR HC3.out;clear hb))
 go_ret
 exact ⟨rfl,HB3.out⟩
theorem f1E (c:Cfg) (v:Value) (l:List b0Z) (w:World) (hv:a0Q 11 e0Q w v l) (hok:∀p∈l,p.ok) (hc:c.ok) (hcb:h0A c=true) (hl:l.length≤40) :
 Calls Tryz.prog 10 #[n0D c,v] w (jP w (.bool true)):=by
 obtain ⟨A,cp,rfl⟩:=hv.form;have hcc:=k1S hcb hc;have hst:e0R c.st=true:=by unfold h0A at hcb;simp only [Bool.and_eq_true] at hcb;exact hcb.1
 have hbd:=d0L _ hst;have HCC:=jH hcc;have CN:=jH (fun W=>sw_new (w:=W) hcc);have CF:=jH (fun W=>n1H c c.sa.toNat c.hi.toNat c.st.toNat W hcc (by omega));have CR:=jH (fun W=>g0A c W);rw [hcb] at CR;have HV:=jH hv;have HOK:=jH hok;obtain ⟨rs,hrs⟩:∃rs,rs=c.sa.toNat:=⟨_,rfl⟩;obtain ⟨rh,hrh⟩:∃rh,rh=c.hi.toNat:=⟨_,rfl⟩;rw [←hrs,←hrh] at HCC CN CF;have q0:¬(40:Int)<(l.length:Int):=by omega
 have HL:=jH hl;have HST:=jH hst;unfold n0D at CN CR CF ⊢;clear hv hok hcc hcb hst hbd hrs hrh hc hl
 go_enter Tryz.func10,Tryz.ntmps10
 go_wp2_with (first
  | (go_at_call 11
     refine a0B ?_;intro W1 hW1;have HB1:=jH (show jB w W1 by rw [hW1];exact a0C jR _);have HC1:=jH (show W1.heap[w.heap.size]?=some (.cells #[.int .i64 c.st,.int .i64 c.sa,.int .i64 c.lo,.int .i64 c.hi] 23 (0,0)) by rw [hW1];exact heap_alloc_new _ _);clear hW1;refine (j0D W1).mono ?_;rintro e w2 ⟨rfl,hb⟩;have HB2:=jH (a0D HB1.out hb);have HC2:=jH (jK hb HC1.out);obtain ⟨c1,c2,c3⟩:=a0A jR HC2.out
     clear hb)
  | (go_at_call 13
     refine (CR.out _).mono ?_;rintro e w3 ⟨rfl,hb⟩;have HB3:=jH (a0D HB2.out hb);have HC3:=jH (jK hb HC2.out);clear c1 c2 c3;obtain ⟨c1,c2,c3⟩:=a0A jR HC3.out;clear hb)
  | (go_at_call 12
     refine (CF.out _).mono ?_;rintro e w4 ⟨M,f0,rfl,hf,h1,h2,hb⟩;have HF4:=jH hf;have HML:=jH (And.intro h1 h2);have HB4:=jH hb;have HC4:=jH (jK hb HC3.out);clear c1 c2 c3;obtain ⟨c1,c2,c3⟩:=a0A jR HC4.out;clear hb h1 h2 hf)
  | (go_at_call 27
     refine (CN.out _).mono ?_;rintro e w5 ⟨S,d0,rfl,hd,hb⟩;have HP0:=jH (show j0G w3 w5 w4.heap.size M f0.L S c rs rh 0 (o0J c.st.toNat) f0 d0 from
      ⟨hd,⟨HF4.out.at_.keep hb.size (hb.block _ HF4.out.at_.lt) (hb.block _ HF4.out.at_.map.lt) (fun b hb9 hlt=>⟨hb.block b hlt,fun hq=>by have h1:w4.heap.size≤b:=(hd.at_.fpLt _ hq).2;omega,hb9⟩) (fun b hb9=>hb9.2),HF4.out.ok⟩,rfl,⟨HF4.out.at_.lt,HF4.out.at_.map.lt,HML.out.1,HML.out.2⟩,hb.size,a0D HB4.out hb⟩)
     clear hd hb c1 c2 c3))
 generalize f0.L=L at HP0
 try go_wp2_with fail
 go_loopg [33] l.length (fun g s33 wr=>∃(k:Nat) (wd:Wd) (dF:b0J) (d:d0Y),k≤l.length∧l.length - k≤g∧s33=.int .i64 k∧j0G w3 wr w4.heap.size M L S c rs rh k wd dF d)
 case atStart=>exact ⟨0,_,f0,d0,Nat.zero_le _,Nat.le_refl _,rfl,HP0.out⟩
 case round =>
  obtain ⟨k,wd,dF,d,hk,hg,rfl,hp⟩:=hrel;rename World=>wr
  have HP:=jH hp;clear hp HP0
  by_cases hlt:k<l.length
  · have z1:(k:Int)<(l.length:Int):=by omega
    have z2:(0:Int)≤(k:Int):=by omega
    obtain ⟨b,o,rfl,hbw,hcx⟩:=HV.out.at_ hlt;have hxok:=HOK.out _ (List.getElem_mem hlt);generalize l[k]=xx at hcx hxok;have hbb:∀j u,(e0Q xx)[j]?=some u→wr.cell? ⟨b,o+k * 11+j,none⟩=some u:=fun j u hu=>by
     have hlow:b<w3.heap.size:=Nat.lt_of_lt_of_le hbw HB3.out.size;exact (HP.out.b.cell (p:=⟨b,_,none⟩) hlow).trans ((HB3.out.cell (p:=⟨b,_,none⟩) hbw).trans (hcx j u hu))
    obtain ⟨wd',av,e1,e2,hd1,hd2,hcase⟩:=l1A rs rh HP.out.fw.at_.tells HST.out ⟨xx.id,hxok.2.1⟩;have CE:=jH (fun W (hW:jB wr W)=>sw_dec (HP.out.below hW).sw (fun b hb=>Nat.le_trans (HP.out.below hW).zw hb) HCC.out (by have:=HL.out;omega) xx.id hxok.2.1);have CP:=jH (fun W P (hW:FW P W M c rs rh k wd dF)=>p0A ⟨xx.id,hxok.2.1⟩ hW HCC.out);dsimp only at hd1;rw [hd1] at CE;rw [hd2] at CP;have CT:=jH (fun W P (hW:FW P W M c rs rh k wd dF) (hP:∀b,W.heap.size≤b→P b) (hid:idS xx.id=true)=>p0U ⟨xx.id,hxok.2.1⟩ av hW hP HCC.out hid)
    dsimp only at CP CT hcase;have CD:=jH (fun W (hW:jB wr W)=>j0Q xx (HP.out.below hW).fw (HP.out.below hW).new HCC.out (by have:=HL.out;omega) hxok);have CD2:=jH (fun W (hW:SW (fun b=>w4.heap.size≤b) W S c rs rh k wd d) (hz:w4.heap.size≤W.heap.size)=>sw_do hW (fun b hb=>Nat.le_trans hz hb) HCC.out (by have:=HL.out;omega) xx hxok);rw [HP.out.l] at CD;have HCASE:=jH hcase;clear hcx hxok hd1 hd2 hcase
    obtain ⟨r,hr⟩:∃r,r=doW c rs rh wd xx:=⟨_,rfl⟩;rw [←hr] at CD CD2;clear hr;obtain ⟨kind,id,tick,val,handle,⟨p0,p1,p2,p3,p4,p5⟩⟩:=xx;have x0:=hbb 0 _ rfl;have x1:=hbb 1 _ rfl;have x2:=hbb 2 _ rfl;have x3:=hbb 3 _ rfl;have x4:=hbb 4 _ rfl;have x5:=hbb 5 _ rfl;have x6:=hbb 6 _ rfl;have x7:=hbb 7 _ rfl;have x8:=hbb 8 _ rfl;have x9:=hbb 9 _ rfl;have x10:=hbb 10 _ rfl;rw [Nat.add_zero] at x0;unfold a0S at CD CD2
    unfold c0U at CE CP CT;dsimp only at x0 x1 x2 x3 x4 x5 x6 x7 x8 x9 x10 CE CP CT CD CD2 HCASE;obtain ⟨nw9,rp⟩:=r;unfold a0X b0E at CD CD2;dsimp only at CD CD2;clear hbb
    by_cases h0:kind=0
    · subst h0
      clear CD CD2
      go_upto_region 14 with (first
       | (go_at_call 44
          refine a0B ?_;intro V hV;have hd:jB wr V:=by rw [hV];exact a0C jR _
          have hx1:V.heap[wr.heap.size]?=some (.cells #[.int .i64 0,.string id,.int .i64 tick,.int .i64 val,.int .i64 handle,.int .i64 p0,.int .i64 p1,.int .i64 p2,.int .i64 p3,.int .i64 p4,.int .i64 p5] 37 (0,0)):=by rw [hV];exact heap_alloc_new _ _
          clear hV;refine (CE.out V hd).mono ?_;rintro e u1 ⟨d',rfl,hsw,hu⟩;have HSW:=jH hsw;have hu1:=(Upd.of_below hd (d.fp S)).trans hu;have HUU:=jH hu1;have HFW:=jH (HP.out.fw.store HP.out.l HP.out.offM.1 HP.out.offM.2 hu1);have HC1:=jH (g0K hu (fun hq=>Nat.lt_irrefl _ (HP.out.sw.at_.fpLt _ hq).1) hx1);clear hd hx1 hsw hu hu1 x0 x1 x2 x3 x4 x5 x6 x7 x8 x9 x10 CE))
      refine a0J ?_;intro U hU;have hdU:jB u1 U:=by rw [hU];exact a0C jR _
      have HA:=jH (show U.heap[u1.heap.size]?=some (.cells #[.int .i64 av.tick,.int .i64 av.load,.int .i64 av.want,.int .i64 av.repl,.int .i64 av.why] 44 (0,0)) by rw [hU];exact heap_alloc_new _ _);have HCU:=jH (jK hdU HC1.out);have HSU:=jH (HSW.out.below hdU);have HFU:=jH (HFW.out.below hdU);have HUV:=jH (HUU.out.trans (Upd.of_below hdU _));obtain ⟨y1,y2,y3⟩:=a0A jR HCU.out;clear hU hdU
      go_upto_region 15 with (first
       | (go_at_call 23
          refine (CP.out U _ HFU.out).mono ?_;rintro e u2 ⟨rfl,hb⟩;have HB2U:=jH hb;clear hb y1 y2 y3))
      refine a0J ?_;intro T hT;have hdT:jB U T:=by rw [hT];exact a0D HB2U.out (a0C jR _)
      have HT:=jH (show T.heap[u2.heap.size]?=some (.cells #[.int .i64 av.tick,.int .i64 av.load,.int .i64 av.want,.int .i64 av.repl,.int .i64 av.why] 44 (0,0)) by rw [hT];exact heap_alloc_new _ _);have HA9:=jH (jK hdT HA.out);have HCT:=jH (jK hdT HCU.out);have HST2:=jH (HSU.out.below hdT);have HFT:=jH (HFU.out.below hdT);have HUT:=jH (HUV.out.trans (Upd.of_below hdT _));obtain ⟨y1,y2,y3⟩:=a0A jR HCT.out
      obtain ⟨a1,a2,a3⟩:=a0A jR HA9.out;obtain ⟨t1,t2,t3⟩:=a0A jR HT.out;clear hT hdT
      rcases HCASE.out with ⟨rfl,rfl,hw⟩|⟨rfl,hne,hw⟩|⟨rfl,rfl,hid,hw,hn⟩
      · clear CT CP HCASE
        go_wp2_with fail
        go_roundg (l.length - (k+1))
        case measure=>omega
        case rel =>
         refine ⟨k+1,wd',dF,d',hlt,Nat.le_refl _,by go_num,?_⟩;exact HP.out.put (Upd.refl _ _) HUT.out HST2.out (by rw [hw];exact HFT.out.mono (Nat.le_succ k)) HP.out.l
      · have n1:(e1 == 0)=false:=by simpa using hne
        clear CT CP HCASE;go_wp2_with fail
        go_roundg (l.length - (k+1))
        case measure=>omega
        case rel =>
         refine ⟨k+1,wd',dF,d',hlt,Nat.le_refl _,by go_num,?_⟩;exact HP.out.put (Upd.refl _ _) HUT.out HST2.out (by rw [hw];exact HFT.out.mono (Nat.le_succ k)) HP.out.l
      · have CT2:=jH (CT.out T _ HFT.out (fun b hb=>⟨HST2.out.new b hb,by have:=HP.out.ml.1;have:=HP.out.zw;have:=HUT.out.size;omega,by have:=HP.out.ml.2.1;have:=HP.out.zw;have:=HUT.out.size;omega⟩) hid)
        rw [hn,←hw] at CT2;clear CT CP HCASE
        go_wp2_with (first
         | (go_at_call 24
            refine CT2.out.mono ?_;rintro e u3 ⟨dF',rfl,hfw,hl9,hu⟩;have HFW9:=jH hfw;have HL9:=jH hl9;have HU9:=jH hu;clear hfw hl9 hu))
        go_roundg (l.length - (k+1))
        case measure=>omega
        case rel =>
         refine ⟨k+1,wd',dF',d',hlt,Nat.le_refl _,by go_num,?_⟩;exact HP.out.putN HUT.out HST2.out (by rw [HP.out.l] at HU9;exact HU9.out) HFW9.out (HL9.out.trans HP.out.l)
    · have q3:(kind == 0)=false:=by simpa using h0
      have q4:(kind != 0)=true:=by simpa using h0
      clear CE CP CT HCASE
      go_upto_region 11 with fail
      refine a0J ?_;intro U hU;have HDU:=jH (show jB wr U by rw [hU];exact a0C jR _);have HXU:=jH (show U.heap[wr.heap.size]?=some (.cells #[.int .i64 kind,.string id,.int .i64 tick,.int .i64 val,.int .i64 handle,.int .i64 p0,.int .i64 p1,.int .i64 p2,.int .i64 p3,.int .i64 p4,.int .i64 p5] 37 (0,0)) by rw [hU];exact heap_alloc_new _ _);clear hU x0 x1 x2 x3 x4 x5 x6 x7 x8 x9 x10;have rr:∀W:World,W.heap[wr.heap.size]?=some (.cells #[.int .i64 kind,.string id,.int .i64 tick,.int .i64 val,.int .i64 handle,.int .i64 p0,.int .i64 p1,.int .i64 p2,.int .i64 p3,.int .i64 p4,.int .i64 p5] 37 (0,0))→∀j,W.cell? ⟨wr.heap.size,j,none⟩=(#[.int .i64 kind,.string id,.int .i64 tick,.int .i64 val,.int .i64 handle,.int .i64 p0,.int .i64 p1,.int .i64 p2,.int .i64 p3,.int .i64 p4,.int .i64 p5]:Array Value)[j]?:=fun W hW j=>(a0A jR hW).1 j
      have hS0:U.drew.heap[wr.heap.size]?=some (.cells #[.int .i64 kind,.string id,.int .i64 tick,.int .i64 val,.int .i64 handle,.int .i64 p0,.int .i64 p1,.int .i64 p2,.int .i64 p3,.int .i64 p4,.int .i64 p5] 37 (0,0)):=HXU.out
      go_region_held3 (fun W=>W.heap[wr.heap.size]?=some (.cells #[.int .i64 kind,.string id,.int .i64 tick,.int .i64 val,.int .i64 handle,.int .i64 p0,.int .i64 p1,.int .i64 p2,.int .i64 p3,.int .i64 p4,.int .i64 p5] 37 (0,0)))
        (first
          | with_reducible exact hS0
          | with_reducible exact HS2.out
          | with_reducible exact HS1.out)
        (first
          | (go_at_call 17
             refine a0B ?_;intro V1 hV1;have hd:jB wr V1:=by rw [hV1];first|exact HDU.out.drew|exact HDU.out
             have hx1:V1.heap[wr.heap.size]?=some (.cells #[.int .i64 kind,.string id,.int .i64 tick,.int .i64 val,.int .i64 handle,.int .i64 p0,.int .i64 p1,.int .i64 p2,.int .i64 p3,.int .i64 p4,.int .i64 p5] 37 (0,0)):=by rw [hV1];exact HXU.out
             clear hV1;refine (CD.out V1 hd).mono ?_;rintro e u1 ⟨dF',rfl,hfw,hl9,hu⟩;have HFW1:=jH hfw;have HL1:=jH hl9;have HU1:=jH ((Upd.of_below hd _).trans hu);have HS1:=jH (g0K hu (by simp only [List.mem_cons,List.not_mem_nil,or_false];have:=HP.out.ml;have:=HP.out.zw;omega) hx1);clear hd hx1 hfw hl9 hu)
          | (go_at_call 28
             refine a0B ?_;intro V2 hV2;have hd:jB u1 V2:=by rw [hV2];first|exact jR|exact jR.drew
             have hx2:V2.heap[wr.heap.size]?=some (.cells #[.int .i64 kind,.string id,.int .i64 tick,.int .i64 val,.int .i64 handle,.int .i64 p0,.int .i64 p1,.int .i64 p2,.int .i64 p3,.int .i64 p4,.int .i64 p5] 37 (0,0)):=by rw [hV2];exact HS1.out
             clear hV2;refine (CD2.out V2 ((HP.out.sw.flat HP.out.ml.1 HP.out.ml.2.1 HU1.out).below hd) (Nat.le_trans HP.out.zw (Nat.le_trans HU1.out.size hd.size))).mono ?_;rintro e u2 ⟨d',rfl,hsw,hu⟩;have HSW2:=jH hsw;have HU2:=jH ((Upd.of_below hd _).trans hu);have HS2:=jH (g0K hu (fun hq=>Nat.lt_irrefl _ (HP.out.sw.at_.fpLt _ hq).1) hx2);clear hd hx2 hsw hu))
      all_goals
        refine a0Y ?_;intro U9 hU9;have HK9:=jH (show jB u2 U9 by rw [hU9];first|exact jR|exact jR.drew);clear hU9;go_wp2_with fail
        go_roundg (l.length - (k+1))
        case measure=>omega
        case rel =>
         refine ⟨k+1,nw9,dF',d',hlt,Nat.le_refl _,by go_num,?_⟩;exact (HP.out.put HU1.out HU2.out HSW2.out (HFW1.out.store HL1.out HP.out.offM.1 HP.out.offM.2 HU2.out) HL1.out).below HK9.out
  · obtain rfl:k=l.length:=by omega
    have z1:¬(l.length:Int)<(l.length:Int):=by omega
    go_wp2_with fail
    go_ret
    exact ⟨rfl,HB3.out.trans (HP.out.b.mono HB3.out.size)⟩
theorem k1U (c:Cfg) (v:Value) (l:List b0Z) (w:World) (hv:a0Q 11 e0Q w v l) (hok:∀p∈l,p.ok) (hc:c.ok) :
 Calls Tryz.prog 10 #[n0D c,v] w (jP w (.bool true)):=by
 cases hcb:h0A c with
 | false=>exact j1R c v l w hv hok hc hcb
 | true =>
   by_cases hl:l.length≤40
   · exact f1E c v l w hv hok hc hcb hl
   · exact f1I c v l w hv hok hc hcb (by omega)
end
section
open Go.RowKit Go.Lib Go.ChangeShapes Go.WideShapes Go.Joins
section
theorem h0N {n:Int} (h:(Lit.int .i64 n).wf=true):I64 n:=by simpa [Lit.wf,IntKind.min,IntKind.max,IntKind.signed,IntKind.bits,I64] using h
theorem n1J:Tryz.prog.cellsOf 35=6:=by kernel_rfl
theorem d1R:Tryz.prog.cellsOf 37=11:=by kernel_rfl
theorem l0K:Tryz.prog.cellsOf 2=1:=by kernel_rfl
theorem o1D:Tryz.prog.cellsOf 3=1:=by kernel_rfl
theorem cl_str:Tryz.prog.cellsOf 9=1:=by kernel_rfl
theorem list6 {α:Type} {l:List α} (h:l.length=6):∃a0 a1 a2 a3 a4 a5,l=[a0,a1,a2,a3,a4,a5]:=by
 match l,h with
 | [a0,a1,a2,a3,a4,a5],_=>exact ⟨_,_,_,_,_,_,rfl⟩
theorem list11 {α:Type} {l:List α} (h:l.length=11):∃a0 a1 a2 a3 a4 a5 a6 a7 a8 a9 a10,l=[a0,a1,a2,a3,a4,a5,a6,a7,a8,a9,a10]:=by
 match l,h with
 | [a0,a1,a2,a3,a4,a5,a6,a7,a8,a9,a10],_=>exact ⟨_,_,_,_,_,_,_,_,_,_,_,rfl⟩
section
variable {H:Type} {enc:TypeId × Value→H} {w:World} {base:Nat} {spare:Nat→Bool} {held:Bool}
theorem d0N {fuel:Nat} {t:TypeId} (ht:Tryz.prog.underlying t=some (.int .i64)) (hc:Tryz.prog.cellsOf t=1) {cs:List Value} {xs:List (DataW H × List MemPlace)} {i o:Nat} (hi:i<xs.length) {v:Value} (hv:cs.drop o=v::cs.drop (o+1))
    (h:DataW.trod enc Tryz.prog w base spare held fuel t ((cs.drop o).take (Tryz.prog.cellsOf t))=xs[i]?):∃n,v=.int .i64 n∧I64 n:=by
  rw [hc,hv,List.take_succ_cons,List.take_zero,List.getElem?_eq_getElem hi] at h;obtain ⟨n,hn,_,hw⟩:=DataW.trod_int ht h;simp only [List.cons.injEq,and_true] at hn
  exact ⟨n,hn,h0N hw⟩
theorem h1O {fuel:Nat} {t:TypeId} (ht:Tryz.prog.underlying t=some .string) (hc:Tryz.prog.cellsOf t=1) {cs:List Value} {xs:List (DataW H × List MemPlace)} {i o:Nat} (hi:i<xs.length) {v:Value} (hv:cs.drop o=v::cs.drop (o+1))
    (h:DataW.trod enc Tryz.prog w base spare held fuel t ((cs.drop o).take (Tryz.prog.cellsOf t))=xs[i]?):∃s:ByteArray,v=.string s∧s.size≤maxLen:=by
  rw [hc,hv,List.take_succ_cons,List.take_zero,List.getElem?_eq_getElem hi] at h;obtain ⟨n,hn,_,hw⟩:=DataW.trod_string ht h;simp only [List.cons.injEq,and_true] at hn
  exact ⟨n,hn,hw⟩
theorem e1M {fuel:Nat} {cs:List Value} {x:DataW H × List MemPlace} (h:DataW.trod enc Tryz.prog w base spare held fuel 35 cs=some x) :
 ∃p:Pol,p.ok∧cs=[.int .i64 p.mn,.int .i64 p.mx,.int .i64 p.tg,.int .i64 p.tol,.int .i64 p.win,.int .i64 p.hold]:=by
 obtain ⟨xs,n,_,_,hl,hx,hf⟩:=DataW.trod_struct Tryz.underlying35 h;rw [n1J] at hl
 replace hx:xs.length=6:=hx
 obtain ⟨a0,a1,a2,a3,a4,a5,rfl⟩:=list6 hl;obtain ⟨n0,rfl,k0⟩:=d0N Tryz.underlying2 l0K (i:=0) (by omega) (o:=0) rfl (hf 0 _ rfl);obtain ⟨n1,rfl,k1⟩:=d0N Tryz.underlying2 l0K (i:=1) (by omega) (o:=1) rfl (hf 1 _ rfl);obtain ⟨n2,rfl,k2⟩:=d0N Tryz.underlying2 l0K (i:=2) (by omega) (o:=2) rfl (hf 2 _ rfl);obtain ⟨n3,rfl,k3⟩:=d0N Tryz.underlying2 l0K (i:=3) (by omega) (o:=3) rfl (hf 3 _ rfl)
 obtain ⟨n4,rfl,k4⟩:=d0N Tryz.underlying2 l0K (i:=4) (by omega) (o:=4) rfl (hf 4 _ rfl);obtain ⟨n5,rfl,k5⟩:=d0N Tryz.underlying2 l0K (i:=5) (by omega) (o:=5) rfl (hf 5 _ rfl);exact ⟨⟨n0,n1,n2,n3,n4,n5⟩,⟨k0,k1,k2,k3,k4,k5⟩,rfl⟩
theorem b1E {fuel:Nat} {cs:List Value} {x:DataW H × List MemPlace} (h:DataW.trod enc Tryz.prog w base spare held fuel 37 cs=some x) :
 ∃c:b0Z,c.ok∧cs=e0Q c:=by
 obtain ⟨xs,n,_,_,hl,hx,hf⟩:=DataW.trod_struct Tryz.underlying37 h;rw [d1R] at hl
 replace hx:xs.length=6:=hx
 obtain ⟨a0,a1,a2,a3,a4,a5,a6,a7,a8,a9,a10,rfl⟩:=list11 hl;obtain ⟨n0,rfl,k0⟩:=d0N Tryz.underlying3 o1D (i:=0) (by omega) (o:=0) rfl (hf 0 _ rfl);obtain ⟨n1,rfl,k1⟩:=h1O Tryz.underlying9 cl_str (i:=1) (by omega) (o:=1) rfl (hf 1 _ rfl);obtain ⟨n2,rfl,k2⟩:=d0N Tryz.underlying2 l0K (i:=2) (by omega) (o:=2) rfl (hf 2 _ rfl);obtain ⟨n3,rfl,k3⟩:=d0N Tryz.underlying2 l0K (i:=3) (by omega) (o:=3) rfl (hf 3 _ rfl)
 obtain ⟨n4,rfl,k4⟩:=d0N Tryz.underlying3 o1D (i:=4) (by omega) (o:=4) rfl (hf 4 _ rfl);have h5:=hf 5 _ rfl;rw [List.getElem?_eq_getElem (by omega)] at h5;obtain ⟨p,k5,hp⟩:=e1M h5
 replace hp:([a5,a6,a7,a8,a9,a10]:List Value).take (Tryz.prog.cellsOf 35)=_:=hp
 rw [n1J] at hp;simp only [List.take_succ_cons,List.take_zero,List.cons.injEq,and_true] at hp
 obtain ⟨rfl,rfl,rfl,rfl,rfl,rfl⟩:=hp;exact ⟨⟨n0,n1,n2,n3,n4,p⟩,⟨k0,k1,k2,k3,k4,k5⟩,rfl⟩
theorem e1C {fuel:Nat} {cs:List Value} {x:DataW H × List MemPlace} (h:DataW.trod enc Tryz.prog w base spare held fuel 24 cs=some x) :
 ∃(v:Value) (l:List b0Z),cs=[v]∧l.length≤maxLen∧(∀p∈l,p.ok)∧a0Q 11 e0Q w v l:=by
 haveI:Inhabited b0Z:=⟨⟨0,⟨#[]⟩,0,0,0,⟨0,0,0,0,0,0⟩⟩⟩
 exact l1R (f:=e0Q) Tryz.underlying24 d1R (by decide) (fun _ _ _ h=>b1E h) h
end
end
end
end Go.Proofs.YtmniiodpbebnmaaGreat
