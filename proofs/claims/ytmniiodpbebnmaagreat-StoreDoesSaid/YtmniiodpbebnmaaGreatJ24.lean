/- Part 24 of the proof. -/
import Derived.Test.YtmniiodpbebnmaaGreatJ23
namespace Go.Proofs.YtmniiodpbebnmaaGreat
set_option linter.unusedSimpArgs false
set_option linter.unusedVariables false
set_option linter.unusedSectionVars false
set_option maxRecDepth 100000
set_option maxHeartbeats 16000000
section
open Go.RowKit Go.Lib Go.Sort
section
theorem ePart:i0N 89 164 1 24 (.slice none 0 0) f1L :=
 ⟨by kernel_rfl,by kernel_rfl,rfl,by decide,by decide,fun _=>rfl,fun x u hu=>by
  simp only [f1L,List.mem_cons,List.not_mem_nil,or_false] at hu
  subst hu
  rfl⟩
theorem o1A {α:Type} {l:List α} {i:Nat} {x:α} (h:l[i]?=some x):l.set i x=l:=by
 obtain ⟨hi,rfl⟩:=List.getElem?_eq_some_iff.1 h;exact List.set_getElem_self hi
section
variable {B:Nat→Prop} {S:Nat} {c:Cfg} {rs rh n:Nat} {wd:Wd} {d:d0M}
theorem a0J.freeze {w w':World} (h:a0J B w S c rs rh n wd d) {i:Nat} {s:St} (hi:d.sts[i]?=some s) (hat:SAt w' s.T s.M c s.ver (g0Y s.es (risL (kyN s.es))) rs rh) (hu:Upd w w' s.fp (sfp s.T s.M (g0Y s.es (risL (kyN s.es))))) :
 a0J B w' S c rs rh n wd { d with sts:=d.sts.set i ⟨s.T,s.M,s.ver,g0Y s.es (risL (kyN s.es))⟩ }∧Upd w w' (d.fp S) (d0M.fp S { d with sts:=d.sts.set i ⟨s.T,s.M,s.ver,g0Y s.es (risL (kyN s.es))⟩ }) ∧
   ∀r∈d0M.fp S { d with sts:=d.sts.set i ⟨s.T,s.M,s.ver,g0Y s.es (risL (kyN s.es))⟩ },r∈d.fp S:=by
 obtain ⟨R,hR,hk⟩:=h.get hi;obtain ⟨h1,h2⟩:=h.turn hi hR (R':=R) (fun r hr=>h.bs s (List.mem_of_getElem? hi) r (by
  simp only [St.all,List.mem_cons,List.mem_flatMap] at hr ⊢
  rcases hr with rfl|rfl|⟨p,hp,hr⟩
  · exact .inl rfl
  · exact .inr (.inl rfl)
  · obtain ⟨q,hq,rfl⟩:=n0Y hp
    exact .inr (.inr ⟨q,hq,hr⟩))) (Nat.le_refl n) hu (Old.frz _ _ _) ⟨hat,by rw [n1E];exact u0K hk.tells _,i1M hk.grown _,hk.ver_⟩
 rw [o1A hR] at h1;refine ⟨h1,h2,fun r hr=>?_⟩
 rcases c0L.1 hr with rfl|rfl|rfl|⟨t,ht,hr⟩
 · exact c0L.2 (.inl rfl)
 · exact c0L.2 (.inr (.inl rfl))
 · exact c0L.2 (.inr (.inr (.inl rfl)))
 · rcases List.mem_or_eq_of_mem_set ht with ht|rfl
   · exact c0L.2 (.inr (.inr (.inr ⟨t,ht,hr⟩)))
   · refine c0L.2 (.inr (.inr (.inr ⟨s,List.mem_of_getElem? hi,?_⟩)))
     rcases l1H (l1C (es:=s.es)) r hr with rfl|rfl
     · simp [St.fp,sfp]
     · simp [St.fp,sfp]
theorem fz_frz (es:List (KO × NE)):n1U (g0Y es (risL (kyN es))):=l1C
structure i0S (B:Nat→Prop) (w wr:World) (S:Nat) (c:Cfg) (rs rh n:Nat) (wd:Wd) (d dk:d0M) (k:Nat) (v:Value) (ps:List m0A):Prop where
 at_:a0J (fun b=>B b∧b<w.heap.size) wr S c rs rh n wd dk
 up:Upd w wr (d.fp S) (dk.fp S)
 low:∀r∈dk.fp S,r<w.heap.size
 eA:dk.A=d.A∧dk.cp=d.cp∧dk.sts.length=d.sts.length
 own:b0Q f1L 164 1 w.heap.size wr v ps
 len:ps.length=k
 done:∀(j:Nat) (p:m0A),ps[j]?=some p→∃s:St,dk.sts[j]?=some s∧n1U s.es∧p.2.2=soE (q0B s.es)∧e0U (fun b=>w.heap.size≤b∧v.ownBlock≠some b) 3 eoC wr (.slice p.1 p.2.2.length p.2.1) p.2.2
theorem i0S.start {w:World} (h:a0J B w S c rs rh n wd d):i0S B w w S c rs rh n wd d d 0 (.slice none 0 0) [] :=
 ⟨h.keep (Nat.le_refl _) (fun r hr hlt=>⟨rfl,hr,hlt⟩),Upd.of_below jR _,fun r hr=>(h.fpLt r hr).1,⟨rfl,rfl,rfl⟩,b0Q.nil _ _,rfl,fun j p hp=>by simp at hp⟩
theorem i0S.step {w wr w1 w2:World} {dk:d0M} {k:Nat} {v v2:Value} {ps:List m0A} {s:St} {A:Option Addr} {cc:Nat} (h:i0S B w wr S c rs rh n wd d dk k v ps) (hs:dk.sts[k]?=some s)
    (hat:SAt w1 s.T s.M c s.ver (g0Y s.es (risL (kyN s.es))) rs rh) (hu:Upd wr w1 s.fp (sfp s.T s.M (g0Y s.es (risL (kyN s.es))))) (ho:b0Q enC 246 3 wr.heap.size w1 (.slice A (q0B s.es).length cc) (q0B s.es))
    {u:World} (hub:jB w1 u) (hg:u.grownBy w2 v.ownBlock) (hblk:v2.ownBlock=v.ownBlock∨v2.ownBlock=some u.heap.size) (ho2:b0Q f1L 164 1 w.heap.size w2 v2 (ps++[(A,cc,soE (q0B s.es))])) :
    i0S B w w2 S c rs rh n wd d { dk with sts:=dk.sts.set k ⟨s.T,s.M,s.ver,g0Y s.es (risL (kyN s.es))⟩ } (k+1) v2 (ps++[(A,cc,soE (q0B s.es))]):=by
  obtain ⟨h1,h2,h3⟩:=h.at_.freeze hs hat hu;have hkl:=(List.getElem?_eq_some_iff.1 hs).1;have hrs:=h.up.size;have hus:=hu.size;have hub':=hub.size;have hb12:Below w.heap.size w1 w2:=(hub.mono (by omega)).trans (c0H hg (by omega) (fun r hr=>(h.own.lt hr).1));have hsz:=hb12.size;have hrow:∀{α:Type} {n':Nat} {f:α→List Value} {vr:Value} {l:List α},e0U (fun b=>w.heap.size≤b∧v.ownBlock≠some b) n' f w1 vr l→e0U (fun b=>w.heap.size≤b∧v2.ownBlock≠some b) n' f w2 vr l:=fun hr=>j0J hr hub hg hblk
  have hold:∀r,w.heap.size≤r→r<wr.heap.size→w1.heap[r]?=wr.heap[r]?:=fun r h0 hr=>hu.block r hr (fun hq=>by have:=h.low r (c0L.2 (.inr (.inr (.inr ⟨s,List.mem_of_getElem? hs,hq⟩))));omega)
  refine ⟨h1.keep hsz (fun r hr hlt=>⟨hb12.block r hr.2,hr⟩),?_,fun r hr=>h.low r (h3 r hr),⟨h.eA.1,h.eA.2.1,by show (dk.sts.set k _).length=_;rw [List.length_set];exact h.eA.2.2⟩,ho2,by simp [h.len],fun j p hp=>?_⟩
  · have h5:=h.up.trans h2
    refine ⟨hb12.os.trans h5.os,hb12.tape.trans h5.tape,hb12.output.trans h5.output,Nat.le_trans h5.size hsz,fun r hr hn=>(hb12.block r hr).trans (h5.block r hr hn),h5.fresh⟩
  · show ∃t:St,(dk.sts.set k _)[j]?=some t∧_
    rcases Nat.lt_or_ge j ps.length with hj|hj
    · rw [List.getElem?_append_left hj] at hp
      obtain ⟨t,t1,t2,t3,t4⟩:=h.done j p hp;refine ⟨t,?_,t2,t3,hrow ?_⟩
      · rw [List.getElem?_set,if_neg (by have:=h.len;omega)]
        exact t1
      · exact t4.keepP hus (fun b hb hlt=>hold b hb.1 hlt)
    · rw [List.getElem?_append_right hj] at hp
      have hj2:j=ps.length:=by
       have:=(List.getElem?_eq_some_iff.1 hp).1;simp at this
       omega
      subst hj2;simp at hp
      subst hp;refine ⟨⟨s.T,s.M,s.ver,g0Y s.es (risL (kyN s.es))⟩,?_,fz_frz _,by simp only [o1W],hrow ?_⟩
      · rw [List.getElem?_set,if_pos h.len.symm,if_pos (by have:=h.len;omega)]
      · have hr:=e0U.own eEn ho
        refine ⟨by have:=row_so hr.1;rw [←o0O] at this;exact this,fun b o m c' e hn=>?_⟩;have h9:=hr.2 b o m c' (by rw [o0O] at e;exact e) (by rw [o0O] at hn;exact hn);exact ⟨by omega,fun e9=>by have:=h.own.lt e9;omega⟩
theorem i0S.pub {w wr:World} {dk:d0M} {v:Value} {ps:List m0A} (h:i0S B w wr S c rs rh n wd d dk d.sts.length v ps) (hl:d.sts.length≤64) (hl2:(g0C wd).length≤1000000):b1K wr v dk:=by
 have hlen:ps.length=dk.sts.length:=by rw [h.len,h.eA.2.2]
 have hget:∀(j:Nat) s,dk.sts[j]?=some s→∃p,ps[j]?=some p:=fun j s hs=>by
  have:=(List.getElem?_eq_some_iff.1 hs).1;exact ⟨ps[j]'(by omega),List.getElem?_eq_getElem _⟩
 refine ⟨fun s hs=>?_,ps,⟨h.own.row ePart,fun p hp=>?_⟩,?_,fun p hp x hx N hN=>?_,by rw [h.len];omega,fun p hp=>?_⟩
 · obtain ⟨j,hj⟩:=List.getElem?_of_mem hs
   obtain ⟨p,hp⟩:=hget j s hj;obtain ⟨t,t1,t2,_,_⟩:=h.done j p hp;rw [hj] at t1;injection t1 with t1
   rw [t1];exact t2
 · obtain ⟨j,hj⟩:=List.getElem?_of_mem hp
   obtain ⟨t,_,_,_,t4⟩:=h.done j p hj;exact t4.1
 · have:∀(qs:List m0A) (ts:List St),qs.length=ts.length→(∀(j:Nat) (p:m0A) (t:St),qs[j]?=some p→ts[j]?=some t→p.2.2=soE (q0B t.es))→(qs.flatMap fun p=>d0P (fun _=>true) p.2.2)=q1S ts:=by
    intro qs
    induction qs with
    | nil=>intro ts hts _;cases ts with
      | nil=>rfl
      | cons _ _=>simp at hts
    | cons q qs ih=>intro ts hts hh;cases ts with
      | nil=>simp at hts
      | cons t ts =>
        have h0:=hh 0 q t rfl rfl;have h1:=ih ts (by simpa using hts) (fun j p t' hp ht=>hh (j+1) p t' (by simpa using hp) (by simpa using ht));unfold q1S at h1 ⊢;rw [List.flatMap_cons,List.map_cons,List.flatten_cons,h1,h0,t1X]
   refine this ps dk.sts hlen (fun j p t hp ht=>?_);obtain ⟨t',t1,_,t3,_⟩:=h.done j p hp;rw [ht] at t1;injection t1 with t1
   rw [t1];exact t3
 · obtain ⟨j,hj⟩:=List.getElem?_of_mem hp
   obtain ⟨t,t1,t2,t3,_⟩:=h.done j p hj;rw [t3] at hx;obtain ⟨y,hy,rfl⟩:=List.mem_map.1 hx;simp at hN
   obtain ⟨q,hq,e1,e2⟩:=d1D hy;obtain ⟨R,_,hk⟩:=h.at_.get t1;exact ⟨q.2.2.1,rs,rh,q.2.2.2,by rw [←hN,←e2];exact hk.at_.node q hq,t2 q hq⟩
 · obtain ⟨j,hj⟩:=List.getElem?_of_mem hp
   obtain ⟨t,t1,t2,t3,_⟩:=h.done j p hj;obtain ⟨R,hR,hk⟩:=h.at_.get t1;rw [t3,o0O,d1G hk.at_.nodup,←l0A,hk.tells.len];refine Nat.le_trans ?_ hl2;exact (List.sublist_flatten_of_mem (List.mem_of_getElem? hR)).length_le
theorem i0S.all {w wr:World} {dk:d0M} {k:Nat} {v:Value} {ps:List m0A} (h:i0S B w wr S c rs rh n wd d dk k v ps):a0J B wr S c rs rh n wd dk:=h.at_.keep (Nat.le_refl _) (fun r hr hlt=>⟨rfl,hr.1⟩)
theorem a0J.avoid {w W:World} (h:a0J B w S c rs rh n wd d) (hb:jB w W):a0J (fun b=>B b∧b≠w.heap.size) W S c rs rh n wd d :=
 h.keep hb.size (fun r hr hlt=>⟨hb.block r hlt,hr,by omega⟩)
theorem a0J.stored {w W:World} {X:Nat} (h:a0J (fun b=>B b∧b≠X) w S c rs rh n wd d) (hs:W.heap.size=w.heap.size) (hk:∀r,r≠X→W.heap[r]?=w.heap[r]?):a0J B W S c rs rh n wd d :=
 h.keep (Nat.le_of_eq hs.symm) (fun r hr _=>⟨hk r hr.2,hr.1⟩)
theorem k1T {w w5 W9:World} {m:Nat} {wd':Wd} {d':d0M} {v:Value} {fp:List Nat} (h:a0J (fun b=>B b∧b≠w.heap.size) w5 S c rs rh m wd' d') (hu:Upd w w5 fp (d'.fp S)) (h2:∀k,k≠w.heap.size→W9.heap[k]?=w5.heap[k]?) (h3:W9.heap.size=w5.heap.size) (h4:∀n,n≤w.heap.size→Below n w5 W9) :
 d0Z B w S c rs rh m fp v wd' (.returned v) W9 :=
 ⟨d'.fp S,rfl,⟨d',h.stored h3 h2,rfl⟩,hu.thenB (h4 _ (Nat.le_refl _))⟩
theorem y0H (w:World) (h:a0J B w S c rs rh n wd d) (hB:∀b,w.heap.size≤b→B b) (hp0:0<d.sts.length) (hl:d.sts.length≤64) (hh:c0F c wd) (ht:(g0C wd).length≤40) (hn:n≤1000) (hc:wd.cuts.length≤900000) (hep:0≤wd.ep∧wd.ep≤1000000) :
 Calls Tryz.prog 84 #[.pointer (some ⟨S,0,none⟩)] w (d0Z B w S c rs rh n (d.fp S) (d0S (j0B wd).2) (j0B wd).1):=by
 have H:=jH h;have HB:=jH hB;have HP:=jH hp0;have HH:=jH hh;have HT:=jH ht;have HEP:=jH hep;have HCC:=jH hc;obtain ⟨r,hr⟩:∃r,r=j0B wd:=⟨_,rfl⟩;rw [←hr];have HR:=jH hr;clear hr;obtain ⟨v0,hv0⟩:∃v0,v0=(.slice (some ⟨d.A,0,none⟩) d.sts.length d.cp:Value):=⟨_,rfl⟩;obtain ⟨a1,a2,a3⟩:=a0A jR h.cell;clear h hB hp0 hh ht hep hc
 go_enter Tryz.func84,Tryz.ntmps84
 go_wp2_with fail
 refine a0I ?_;intro W hW;have HB0:=jH (show jB w W by rw [hW];exact a0C jR _);have HX0:=jH (show W.heap[w.heap.size]?=some (.cells zR.toArray 46 (0,0)) by rw [hW];exact heap_alloc_new _ _);have H1:=jH (H.out.avoid HB0.out);have HSN:=jH (i0S.start H1.out);have HSZ:=jH (show w.heap.size<W.heap.size from (jL HX0.out));clear hW;obtain ⟨b1,b2,b3⟩:=a0A jR H1.out.cell;clear a1 a2 a3 hv0
 go_wp2
 clear b1 b2
 go_loopg [3,14] d.sts.length (fun g s3 s14 wr=>∃(k:Nat) (dk:d0M) (ps:List m0A),k≤d.sts.length∧d.sts.length - k≤g∧s14=.int .i64 k∧i0S (fun b=>B b∧b≠w.heap.size) W wr S c rs rh n wd d dk k s3 ps)
 case atStart=>exact ⟨0,d,[],Nat.zero_le _,Nat.le_refl _,rfl,HSN.out⟩
 case round =>
  obtain ⟨k,dk,ps,hk,hg,rfl,hat⟩:=hrel;rename World=>wr
  obtain ⟨A3,c3,rfl⟩:=hat.own.form;have HA:=jH hat;have hle:=hat.eA;clear hat
  by_cases hlt:k<d.sts.length
  · have hkl:k<dk.sts.length:=by omega
    have hs:=List.getElem?_eq_getElem hkl;have z1:(k:Int)<(d.sts.length:Int):=by omega
    have z2:(0:Int)≤(k:Int):=by omega
    obtain ⟨bb,o,hA,hbw,hcc⟩:=HA.out.at_.row.1.at_ hkl;injection hA with hA
    injection hA with e1 e2
    subst e1 e2;have c1:wr.cell? ⟨d.A,k,none⟩=some (.pointer (some ⟨(dk.sts[k]).T,0,none⟩)):=by
     have:=hcc 0 _ rfl;rw [hle.1] at this
     simpa using this
    have HS:=jH hs;clear hcc hbw hs;generalize dk.sts[k]=s at c1 HS;obtain ⟨R,hR,hsk⟩:=HA.out.at_.get HS.out;have hes:s.es.length≤1000:=by
     have:=hsk.grown.len;rw [l0A] at this;omega
    have HF:=jH (show Calls Tryz.prog 97 #[.pointer (some ⟨s.T,0,none⟩)] wr fun e w'=>∃A cc,e=.returned (.slice A (q0B s.es).length cc)∧b0Q enC 246 3 wr.heap.size w' (.slice A (q0B s.es).length cc) (q0B s.es) ∧
        SAt w' s.T s.M c s.ver (g0Y s.es (risL (kyN s.es))) rs rh∧Upd wr w' s.fp (sfp s.T s.M (g0Y s.es (risL (kyN s.es)))) from (b1I s.T s.M c s.ver s.es rs rh wr hsk.at_ hes).mono (by
      rintro e w' ⟨A,cc,rfl,h1,h2,h3⟩;have e9:(q0B s.es).length=(risL (kyN s.es)).length:=by simp [q0B]
      refine ⟨A,cc,by rw [e9],?_,h2,h3⟩;rw [e9];exact h1))
    clear hsk hR hes;have HPL:=jH HA.out.len;have hup:=HA.out.up.size
    go_wp2_with (first
     | (go_at_call 97
        refine HF.out.mono ?_;rintro e w5 ⟨A5,c5,rfl,ho5,hs5,hu5⟩;have HO5:=jH ho5;have HS5:=jH hs5;have HU5:=jH hu5;have h5s:=hu5.size;have HW5:=jH (HA.out.own.kept (w':=w5) (fun r hr=>hu5.block r (HA.out.own.lt hr).2 (fun hq=>by have:=HA.out.low r (c0L.2 (.inr (.inr (.inr ⟨s,List.mem_of_getElem? HS.out,hq⟩))));have:=(HA.out.own.lt hr).1;omega)));clear ho5 hs5 hu5)
     | (at_builtin
        refine a0N ePart (by rfl) (by rfl) W.heap.size ps [(A5,c5,soE (q0B s.es))] _ _ (by rfl) (by rfl) (HW5.out.below (a0C jR _)) (a0O.lit w5 _ _ _ _ rfl (by simp [f1L,o0O])) (by have:=HPL.out;simp;omega) (by simp;omega) ?_;intro out2 A2 c2' w2 hout2 hown2 hg2 hblk2;have HOWN:=jH hown2;have HOUT:=jH hout2;have HG:=jH hg2;have HBK:=jH hblk2;clear hown2 hout2 hg2 hblk2))
    go_roundg (d.sts.length - (k+1))
    case measure=>omega
    case rel =>
     have hout:=HOUT.out;subst hout;exact ⟨k+1,_,_,hlt,Nat.le_refl _,by go_num,HA.out.step HS.out HS5.out HU5.out HO5.out (a0C jR _) HG.out HBK.out HOWN.out⟩
  · obtain rfl:k=d.sts.length:=by omega
    have z1:¬(d.sts.length:Int)<(d.sts.length:Int):=by omega
    have hpub:=HA.out.pub hl (by have:=HT.out;omega);have hB1:∀b,wr.heap.size≤b→(fun b=>B b∧b≠w.heap.size) b:=fun b hb=>⟨HB.out b (by have:=HB0.out.size;have:=HA.out.up.size;omega),by have:=HSZ.out;have:=HA.out.up.size;omega⟩
    have HUP:=jH ((Upd.of_below HB0.out (d.fp S)).trans HA.out.up);obtain ⟨x1,x2,x3⟩:(∀j,wr.cell? ⟨w.heap.size,j,none⟩=(zR.toArray)[j]?)∧(∀j,wr.frozen? ⟨w.heap.size,j,none⟩=false)∧w.heap.size<wr.heap.size:=by
     have h9:=(HA.out.up.block w.heap.size HSZ.out (fun hq=>by have:=(H1.out.fpLt _ hq).2.2;exact this rfl)).trans HX0.out;exact a0A jR h9
    have HX1:=jH ((HA.out.up.block w.heap.size HSZ.out (fun hq=>by have:=(H1.out.fpLt _ hq).2.2;exact this rfl)).trans HX0.out);clear x1 x2 x3
    by_cases hf:64≤dk.live.length
    · have hsn:j0B wd=(wd,c0N 6):=by unfold j0B;rw [if_pos (by rw [←HA.out.at_.cnt];exact hf)]
      have CP:=jH (p0M wr (.slice A3 ps.length c3) HA.out.all hB1 (by have:=HP.out;omega) hpub HH.out HT.out HCC.out HEP.out hf);have HRR:=jH (HR.out.trans hsn);clear hsn hf hpub hB1
      go_wp2_with (first
       | (go_at_call 34
          refine CP.out.mono ?_;rintro e w5 ⟨rfl,hb5⟩;have HX5:=jH (jK hb5 HX1.out);have HB5:=jH hb5;obtain ⟨y1,y2,y3⟩:=a0A jR HX5.out;unfold zR at y1;clear hb5))
      refine a0H ?_;intro W9 hW9;have hW9':W9=b0J w5 w.heap.size 0 [.int .i64 6,.int .i64 0,.int .i64 0,.int .i64 0,.int .i64 0,.int .i64 0,.int .i64 0,.int .i64 0,.int .i64 0,.int .i64 0,.int .i64 0,.int .i64 0,.int .i64 0]:=hW9;obtain ⟨s1,s2,s3,s4⟩:=a0P HX5.out [.int .i64 6,.int .i64 0,.int .i64 0,.int .i64 0,.int .i64 0,.int .i64 0,.int .i64 0,.int .i64 0,.int .i64 0,.int .i64 0,.int .i64 0,.int .i64 0,.int .i64 0] rfl W9 hW9'
      obtain ⟨a9,a8,a7⟩:=a0A jR s1;clear hW9 hW9';exact bodyPost_ret (v:=d0S (c0N 6)) (by simp [results,Tryz.results84,go_sem,a9,d0S,e0I,c0N,st0,c0U]) rfl (by rw [HRR.out];exact k1T (HA.out.all.below HB5.out) (HUP.out.trans (Upd.of_below HB5.out _)) s2 s3 s4)
    · have hsn:j0B wd=({ wd with ep:=wd.ep+1,cuts:=wd.cuts++[⟨wd.ep+1,g0C wd,false⟩] },⟨0,wd.ep+1,((wd.cuts.length+1:Nat):Int),st0,c0U⟩):=by unfold j0B;rw [if_neg (by rw [←HA.out.at_.cnt];exact hf)]
      have CP:=jH (t0Q wr (.slice A3 ps.length c3) HA.out.all hB1 (by have:=HP.out;omega) hpub HH.out HT.out HCC.out HEP.out hf);rw [←HR.out] at hsn;have HFL:=jH HA.out.all.fpLt;have HNW:=jH (show w.heap.size∉dk.fp S from fun hq=>(HFL.out _ hq).2.2 rfl);generalize wd.ep+1=e1 at CP hsn;generalize ((wd.cuts.length+1:Nat):Int)=m1 at CP hsn;have HRR:=jH hsn;clear hsn hf hpub hB1
      go_wp2_with (first
       | (go_at_call 34
          refine CP.out.mono ?_;rintro e w5 ⟨rfl,C5,hC5,h5,hu5⟩;have HX5:=jH ((hu5.block _ (jL HX1.out) HNW.out).trans HX1.out);have H5:=jH h5;have HU5:=jH hu5;obtain ⟨y1,y2,y3⟩:=a0A jR HX5.out;unfold zR at y1;clear h5 hu5))
      refine a0H ?_;intro W9 hW9;have hW9':W9=b0J w5 w.heap.size 0 [.int .i64 0,.int .i64 e1,.int .i64 m1,.int .i64 0,.int .i64 0,.int .i64 0,.int .i64 0,.int .i64 0,.int .i64 0,.int .i64 0,.int .i64 0,.int .i64 0,.int .i64 0]:=hW9;obtain ⟨s1,s2,s3,s4⟩:=a0P HX5.out [.int .i64 0,.int .i64 e1,.int .i64 m1,.int .i64 0,.int .i64 0,.int .i64 0,.int .i64 0,.int .i64 0,.int .i64 0,.int .i64 0,.int .i64 0,.int .i64 0,.int .i64 0] rfl W9 hW9'
      obtain ⟨a9,a8,a7⟩:=a0A jR s1;clear hW9 hW9';exact bodyPost_ret (v:=d0S ⟨0,e1,m1,st0,c0U⟩) (by simp [results,Tryz.results84,go_sem,a9,d0S,e0I,st0,c0U]) rfl (by rw [HRR.out];exact k1T H5.out (HUP.out.trans HU5.out) s2 s3 s4)
end
end
section
theorem e0P.in_ {P:Nat→Prop} {w:World} {C rs rh:Nat} {ep:Int} {R:List Itm} (h:e0P P w C rs rh ep R):∃l,z0E w C ep l∧Ris l∧l.length≤400∧(∃nd:En→Nd,m1G w l nd rs rh∧∀x∈l,∃z,b0O R x.1=some z∧j0R (nd x) z)∧∀k,d0L l k=none→b0O R k=none:=by
 obtain ⟨A,cc,l,h1,h2,h3,h4,h5,h6,h8⟩:=h;refine ⟨l,⟨A,cc,h2,h3.1⟩,h4,h5,?_,h8⟩;have hch:∀x:En,∃y:Nd,x∈l→(∃fp,b0B w x.2 y rs rh fp)∧∃z,b0O R x.1=some z∧j0R y z:=fun x=>by
  by_cases hx:x∈l
  · obtain ⟨y,fp,z,a,_,e,f⟩:=h6 x hx
    exact ⟨y,fun _=>⟨⟨fp,a⟩,z,e,f⟩⟩
  · exact ⟨nd0,fun h=>absurd h hx⟩
 obtain ⟨nd,hnd⟩:=Classical.axiomOfChoice hch;exact ⟨nd,fun x hx=>(hnd x hx).1,fun x hx=>(hnd x hx).2⟩
def stK (R:List Itm) (k:Ky) (til wd:Int):StD:=match b0O R k with|none=>st0|some y=>i0P y.smp til wd
theorem e0P.stat {P:Nat→Prop} {w:World} {C rs rh:Nat} {ep:Int} {R:List Itm} (h:e0P P w C rs rh ep R) (hI:∀p∈R,r0Y p.2.smp) (hrs:rs≤256) (k:Ky) {til wd:Int} (ht:I64 til) (hw:I64 wd) :
 Calls Tryz.prog 155 #[.pointer (some ⟨C,0,none⟩),.agg #[.int .u64 k.1,.int .u64 k.2],.int .i64 til,.int .i64 wd] w (jP w (.tuple #[stV (stK R k til wd),.bool (b0O R k).isSome])):=by
 obtain ⟨l,h1,h2,h3,⟨nd,h4,h5⟩,h6⟩:=h.in_;have hs:SmpOk l nd:=fun x hx=>by
  obtain ⟨z,hz,hsame⟩:=h5 x hx;rw [hsame.1];exact hI _ (r0M hz)
 have e:q1Y l nd til wd k=stK R k til wd∧(d0L l k).isSome=(b0O R k).isSome:=by
  unfold q1Y stK
  cases hf:d0L l k with
  | none=>rw [h6 k hf];exact ⟨rfl,rfl⟩
  | some N =>
    obtain ⟨z,hz,hsame⟩:=h5 _ (u0I hf);rw [hz];exact ⟨by simp only [hsame.1],rfl⟩
 have:=z0I C ep l nd rs rh k til wd w h1 h2 (by omega) h4 hs hrs ht hw;rw [e.1,e.2] at this;exact this
theorem e0P.epoch {P:Nat→Prop} {w:World} {C rs rh:Nat} {ep:Int} {R:List Itm} (h:e0P P w C rs rh ep R) :
 Calls Tryz.prog 39 #[.pointer (some ⟨C,0,none⟩)] w (jP w (.int .i64 ep)):=by
 obtain ⟨l,h1,_⟩:=h.in_;exact x0J C ep l w h1
theorem e0P.below {P:Nat→Prop} {w w':World} {C rs rh:Nat} {ep:Int} {R:List Itm} (h:e0P P w C rs rh ep R) (hb:jB w w'):e0P P w' C rs rh ep R:=h.keep hb.size (fun b hp hlt=>⟨hb.block b hlt,hp⟩)
def m1M (w:Wd) (h:Int) (k:Ky) (til wd:Int):i1C :=
 if b0V (e0J w) h≠0 then c0N (b0V (e0J w) h)
 else match w.cuts[h.toNat - 1]? with
  | none=>c0N 5
  | some c=>match b0O c.items k with
    | none=>c0N 5
    | some y=>⟨0,c.ep,0,i0P y.smp til wd,c0U⟩
def l1U (w:Wd) (k:Ky):i1C:=match b0O (g0C w) k with
 | none=>c0N 5
 | some y=>match y.past.getLast? with
   | none=>c0N 0
   | some a=>⟨0,0,0,st0,a⟩
section
variable {B:Nat→Prop} {S:Nat} {c:Cfg} {rs rh n:Nat} {wd:Wd} {d:d0M}
theorem b1D (w:World) (h:a0J B w S c rs rh n wd d) (hp0:0<d.sts.length) (hc:wd.cuts.length≤900000) (hep:∀q∈wd.cuts,0≤q.ep) (hI:∀q∈wd.cuts,∀p∈q.items,r0Y p.2.smp) (hrs:rs≤256) (hd:Int) (k:Ky) (til wid:Int) (ht:I64 til) (hw:I64 wid) :
 Calls Tryz.prog 85 #[.pointer (some ⟨S,0,none⟩),.int .i64 hd,.agg #[.int .u64 k.1,.int .u64 k.2],.int .i64 til,.int .i64 wid] w (jP w (d0S (m1M wd hd k til wid))):=by
 obtain ⟨r,hr⟩:∃r,r=m1M wd hd k til wid:=⟨_,rfl⟩;rw [←hr]
 by_cases hk:b0V (e0J wd) hd=0
 · obtain ⟨i,hi,rfl⟩:∃i:Nat,i<wd.cuts.length∧hd=((i+1:Nat):Int):=by
    have htl:(e0J wd).length=wd.cuts.length:=by simp [e0J]
    have h1:¬(hd<1∨((e0J wd).length:Nat)<hd):=fun h9=>by rw [l0G h9] at hk;cases hk
    exact ⟨hd.toNat - 1,by omega,by omega⟩
   obtain ⟨C,q,e1,e2,e3,e4,e5⟩:∃C q,a0V d.live (hdl (i+1))=some C∧b0V (e0J wd) ((i+1:Nat):Int)=0∧wd.cuts[i]?=some q∧q.freed=false∧e0P (fun b=>b∉d.fp S∧B b) w C rs rh q.ep q.items:=by
    rcases h.find hc hep i hi with ⟨_,e2⟩|h9
    · rw [hk] at e2;cases e2
    · exact h9
   have CC:=jH (fun W (hW:jB w W)=>i1O W (h.below hW) hp0 hc hep i hi C e1 hk);have hIq:=hI q (List.mem_of_getElem? e3);have CS:=jH (fun W (hW:jB w W)=>(e5.below hW).stat hIq hrs k ht hw);have CE:=jH (fun W (hW:jB w W)=>(e5.below hW).epoch);have hlk:r=match b0O q.items k with|none=>c0N 5|some y=>⟨0,q.ep,0,i0P y.smp til wid,c0U⟩:=by
    rw [hr];unfold m1M;rw [if_neg (by rw [hk];simp),show ((i+1:Nat):Int).toNat - 1=i by omega,e3]
   generalize ((i+1:Nat):Int)=hd at *;generalize q.ep=ep at *;clear h hr hk e1 e2 e3 e4 e5 hc hep hI hIq hi;unfold stK at CS
   cases hf:b0O q.items k with
   | none =>
     rw [hf] at CS hlk;have HRR:=jH (show r=c0N 5 from hlk);have CS2:=jH (show ∀W,jB w W→Calls Tryz.prog 155 #[.pointer (some ⟨C,0,none⟩),.agg #[.int .u64 k.1,.int .u64 k.2],.int .i64 til,.int .i64 wid] W (jP W (.tuple #[.agg #[.int .i64 0,.int .i64 0,.int .i64 0,.int .i64 0,.int .i64 0],.bool false])) from CS.out);clear CS hlk hf CE
     go_enter Tryz.func85,Tryz.ntmps85
     go_wp2_with (first
      | (go_at_call 35
         refine a0B ?_;intro W1 hW1;have HB1:=jH (show jB w W1 by rw [hW1];exact a0C (a0C jR _) _);have HX0:=jH (show W1.heap[w.heap.size]?=some (.cells #[.int .u64 k.1,.int .u64 k.2] 74 (0,0)) by rw [hW1];exact c0J _ _ _);have HX1:=jH (show W1.heap[w.heap.size+1]?=some (.cells zR.toArray 46 (0,0)) by rw [hW1];exact b0R _ _ _);clear hW1;refine (CC.out W1 HB1.out).mono ?_;rintro e w' ⟨rfl,rfl⟩
         obtain ⟨b1,b2,b3⟩:=a0A jR HX0.out)
      | (go_at_call 155
         refine (CS2.out _ HB1.out).mono ?_;rintro e w2 ⟨rfl,hb2⟩;have HB2:=jH (a0D HB1.out hb2);have HX2:=jH (jK hb2 HX1.out);obtain ⟨y1,y2,y3⟩:=a0A jR HX2.out;unfold zR at y1;clear hb2 b1 b2 b3))
     refine a0H ?_;intro W9 hW9;have hW9':W9=(b0J w2 (w.heap.size+1) 0 (e0I (c0N 5))).alloc (.cells #[.int .i64 0,.int .i64 0,.int .i64 0,.int .i64 0,.int .i64 0] 42):=hW9;obtain ⟨s1,s2,s3,s4⟩:=a0P HX2.out (e0I (c0N 5)) rfl _ rfl;have hb9:jB w W9:=by rw [hW9'];exact a0C (HB2.out.trans (s4 _ (by omega))) _
     obtain ⟨a9,a8,a7⟩:(∀j,W9.cell? ⟨w.heap.size+1,j,none⟩=((e0I (c0N 5)).toArray)[j]?)∧(∀j,W9.frozen? ⟨w.heap.size+1,j,none⟩=false)∧w.heap.size+1<W9.heap.size:=by
      rw [hW9'];exact a0A (a0C jR _) s1
     clear hW9 hW9' s1 s2 s3 s4;exact bodyPost_ret (v:=d0S (c0N 5)) (by simp [results,Tryz.results85,go_sem,a9,d0S,e0I,c0N,st0,c0U]) rfl ⟨by rw [HRR.out],hb9⟩
   | some y =>
     rw [hf] at CS hlk;have HRR:=jH (show r=⟨0,ep,0,i0P y.smp til wid,c0U⟩ from hlk);dsimp only at CS;generalize i0P y.smp til wid=st at *;obtain ⟨s0,s1,s2,s3,s4⟩:=st;have CS2:=jH (show ∀W,jB w W→Calls Tryz.prog 155 #[.pointer (some ⟨C,0,none⟩),.agg #[.int .u64 k.1,.int .u64 k.2],.int .i64 til,.int .i64 wid] W (jP W (.tuple #[.agg #[.int .i64 s0,.int .i64 s1,.int .i64 s2,.int .i64 s3,.int .i64 s4],.bool true])) from CS.out)
     clear CS hlk hf
     go_enter Tryz.func85,Tryz.ntmps85
     go_wp2_with (first
      | (go_at_call 35
         refine a0B ?_;intro W1 hW1;have HB1:=jH (show jB w W1 by rw [hW1];exact a0C (a0C jR _) _);have HX0:=jH (show W1.heap[w.heap.size]?=some (.cells #[.int .u64 k.1,.int .u64 k.2] 74 (0,0)) by rw [hW1];exact c0J _ _ _);have HX1:=jH (show W1.heap[w.heap.size+1]?=some (.cells zR.toArray 46 (0,0)) by rw [hW1];exact b0R _ _ _);clear hW1;refine (CC.out W1 HB1.out).mono ?_;rintro e w' ⟨rfl,rfl⟩
         obtain ⟨b1,b2,b3⟩:=a0A jR HX0.out)
      | (go_at_call 155
         refine (CS2.out _ HB1.out).mono ?_;rintro e w2 ⟨rfl,hb2⟩;have HB2:=jH (a0D HB1.out hb2);have HX2:=jH (jK hb2 HX1.out);clear hb2 b1 b2 b3))
     refine a0I ?_;intro W3 hW3;have hb3:jB w2 W3:=by rw [hW3];exact a0C jR _
     have HX3:=jH (jK hb3 HX2.out);have HS3:=jH (show W3.heap[w2.heap.size]?=some (.cells #[.int .i64 s0,.int .i64 s1,.int .i64 s2,.int .i64 s3,.int .i64 s4] 42 (0,0)) by rw [hW3];exact heap_alloc_new _ _);have HB3:=jH (a0D HB2.out hb3);clear hW3 hb3;obtain ⟨c1,c2,c3⟩:=a0A jR HS3.out;obtain ⟨y1,y2,y3⟩:=a0A jR HX3.out;unfold zR at y1
     go_region_with (first
      | (go_at_call 39
         refine a0B ?_;intro W4 hW4;have hb4:jB W3 W4:=by rw [hW4];repeat (first|exact jR|refine a0C ?_ _|refine Below.drew ?_)
         clear hW4;refine (CE.out W4 (a0D HB3.out hb4)).mono ?_;rintro e w5 ⟨rfl,hb5⟩;have hb45:=a0D hb4 hb5;obtain ⟨d1,d2,d3⟩:=a0A hb45 HS3.out;have HX5:=jH (jK hb45 HX3.out);obtain ⟨z1,z2,z3⟩:=a0A jR HX5.out;unfold zR at z1;have HB5:=jH (a0D HB3.out hb45);clear hb4 hb5 hb45))
     all_goals
       refine a0T ?_;intro W9 hW9;have hW9':W9=b0J w5 (w.heap.size+1) 0 (e0I ⟨0,ep,0,⟨s0,s1,s2,s3,s4⟩,c0U⟩):=hW9;obtain ⟨t1,t2,t3,t4⟩:=a0P HX5.out (e0I ⟨0,ep,0,⟨s0,s1,s2,s3,s4⟩,c0U⟩) rfl W9 hW9';obtain ⟨a9,a8,a7⟩:=a0A jR t1;clear hW9 hW9';go_wp2
       exact bodyPost_ret (v:=d0S ⟨0,ep,0,⟨s0,s1,s2,s3,s4⟩,c0U⟩) (by simp [results,Tryz.results85,go_sem,a9,d0S,e0I,c0U]) rfl ⟨by rw [HRR.out],HB5.out.trans (t4 _ (by omega))⟩
 · have CC:=jH (fun W (hW:jB w W)=>h1B W (h.below hW) hp0 hc hep hd hk)
   have hrr:r=c0N (b0V (e0J wd) hd):=by rw [hr];unfold m1M;rw [if_pos hk]
   generalize b0V (e0J wd) hd=e5 at *;have HRR:=jH hrr;have z:¬e5=0:=hk;clear h hr hk hc hep hI hrr
   go_enter Tryz.func85,Tryz.ntmps85
   go_wp2_with (first
    | (go_at_call 35
       refine a0B ?_;intro W1 hW1;have HB1:=jH (show jB w W1 by rw [hW1];exact a0C (a0C jR _) _);have HX1:=jH (show W1.heap[w.heap.size+1]?=some (.cells zR.toArray 46 (0,0)) by rw [hW1];exact b0R _ _ _);clear hW1;refine (CC.out W1 HB1.out).mono ?_;rintro e w' ⟨rfl,rfl⟩;obtain ⟨y1,y2,y3⟩:=a0A jR HX1.out;unfold zR at y1))
   refine a0H ?_;intro W9 hW9;have hW9':W9=b0J w' (w.heap.size+1) 0 (e0I (c0N e5)):=hW9;obtain ⟨s1,s2,s3,s4⟩:=a0P HX1.out (e0I (c0N e5)) rfl W9 hW9';obtain ⟨a9,a8,a7⟩:=a0A jR s1;clear hW9 hW9';exact bodyPost_ret (v:=d0S (c0N e5)) (by simp [results,Tryz.results85,go_sem,a9,d0S,e0I,c0N,st0,c0U]) rfl ⟨by rw [HRR.out],HB1.out.trans (s4 _ (by omega))⟩
end
end
section
section
variable {B:Nat→Prop} {S:Nat} {c:Cfg} {rs rh n:Nat} {wd:Wd} {d:d0M}
theorem a0J.home {w:World} (h:a0J B w S c rs rh n wd d) (hl:(d.sts.length:Int)=c.st) (hst:e0X c.st=true) (k:Ky) :
 ∃(i:Nat) (s:St) (R:List Itm),c0Z k.1 k.2 c.st=(i:Int)∧d.sts[i]?=some s∧wd.st[i]?=some R∧f0U w c rs rh n s R:=by
 obtain ⟨h0,h1⟩:=t0U (hi:=k.1) (lo:=k.2) hst;obtain ⟨i,hi⟩:=Int.eq_ofNat_of_zero_le h0;have hil:i<d.sts.length:=by omega
 obtain ⟨R,hR,hk⟩:=h.get (List.getElem?_eq_getElem hil);exact ⟨i,_,R,hi,List.getElem?_eq_getElem hil,hR,hk⟩
theorem f0U.load {w:World} {s:St} {R:List Itm} (h:f0U w c rs rh n s R) (k:KO):match a0V s.es k with|none=>b0O R k.1=none|some b=>∃y,b0O R k.1=some y∧j0R b.2.1 y:=by
 have:=r0O h.tells k;rw [m0C] at this
 cases hf:a0V s.es k with
 | none=>rw [hf] at this;exact this
 | some b=>rw [hf] at this;exact this
theorem b1B {α:Type} {l:List α} (h:0<l.length):l.getLast?=some (l[l.length - 1]'(by omega)):=by
 rw [List.getLast?_eq_getElem?,List.getElem?_eq_getElem (by omega)]
theorem y0E (w:World) (h:a0J B w S c rs rh n wd d) (hl:(d.sts.length:Int)=c.st) (hst:e0X c.st=true) (hh:c0F c wd) (hrh:rh≤64) (k:Ky) (hk:k.ok) :
 Calls Tryz.prog 87 #[.pointer (some ⟨S,0,none⟩),.agg #[.int .u64 k.1,.int .u64 k.2]] w (jP w (d0S (l1U wd k))):=by
 obtain ⟨i,s,R,hri,hs,hR,hsk⟩:=h.home hl hst k;have hbd:=c0B _ hst;obtain ⟨r,hr⟩:∃r,r=l1U wd k:=⟨_,rfl⟩;rw [←hr];have hld:=i0W hh hR hri;have CH:=jH (fun W (hW:jB w W)=>show Calls Tryz.prog 30 #[.pointer (some ⟨S,0,none⟩),.agg #[.int .u64 k.1,.int .u64 k.2]] W (jP W (.int .i64 (i:Nat))) from hri ▸ f0D W (h.below hW) (by omega) hl (by omega) k hk);have CS:=jH (fun W (hW:jB w W)=>d0V W (h.below hW) i s hs (by omega))
 have CG:=jH (fun W (hW:jB w W)=>h0Z s.T s.M c s.ver s.es rs rh ⟨k,hk⟩ W (hsk.at_.below hW));have hfd:=hsk.load ⟨k,hk⟩;rw [←hld] at hfd
 cases hf:a0V s.es ⟨k,hk⟩ with
 | none =>
   rw [hf] at hfd CG;have HRR:=jH (show r=c0N 5 by rw [hr];unfold l1U;rw [hfd]);have CG2:=jH (show ∀W,jB w W→Calls Tryz.prog 105 #[.pointer (some ⟨s.T,0,none⟩),.agg #[.int .u64 k.1,.int .u64 k.2]] W (jP W (.pointer none)) from CG.out);clear h hr hs hR hsk hfd hf CG hld hri
   go_enter Tryz.func87,Tryz.ntmps87
   go_wp2_with fail
   refine a0I ?_;intro W hW;have HB1:=jH (show jB w W by rw [hW];exact a0C (a0C jR _) _);have HX0:=jH (show W.heap[w.heap.size]?=some (.cells #[.int .u64 k.1,.int .u64 k.2] 74 (0,0)) by rw [hW];exact c0J _ _ _);have HX1:=jH (show W.heap[w.heap.size+1]?=some (.cells zR.toArray 46 (0,0)) by rw [hW];exact b0R _ _ _);clear hW;have rk0:∀U,jB W U→U.cell? ⟨w.heap.size,0,none⟩=some (.int .u64 k.1):=fun U hU=>(a0A hU HX0.out).1 0
   have rk1:∀U,jB W U→U.cell? ⟨w.heap.size,1,none⟩=some (.int .u64 k.2):=fun U hU=>(a0A hU HX0.out).1 1
   have hS00:jB W W:=jR;have hS0:jB W W.drew:=hS00.drew
   go_region_held3 (fun U=>jB W U)
     (first
       | with_reducible exact hS0
       | with_reducible exact HB7.out
       | with_reducible exact HB5.out
       | with_reducible exact hS00)
     (first
     | (go_at_call 30
        refine (CH.out _ (a0D HB1.out ‹jB W _›)).mono ?_;rintro e w5 ⟨rfl,hb5⟩;have HB5:=jH (a0D ‹jB W _› hb5);clear hb5)
     | (go_at_call 32
        refine (CS.out _ (a0D HB1.out ‹jB W _›)).mono ?_;rintro e w6 ⟨rfl,rfl⟩)
     | (go_at_call 105
        refine (CG2.out _ (a0D HB1.out ‹jB W _›)).mono ?_;rintro e w7 ⟨rfl,hb7⟩;have HB7:=jH (a0D ‹jB W _› hb7);clear hb7))
   all_goals
     refine a0T ?_;intro W8 hW8;have hb8:jB W W8:=by rw [hW8];first|exact HB7.out|exact HB7.out.drew|exact a0F HB7.out _
     have HX8:=jH (jK hb8 HX1.out);have HB8:=jH (a0D HB1.out hb8);obtain ⟨y1,y2,y3⟩:=a0A jR HX8.out;unfold zR at y1;clear hW8 hb8 rk0 rk1;go_wp2
     refine a0H ?_;intro W9 hW9;have hW9':W9=b0J W8 (w.heap.size+1) 0 (e0I (c0N 5)):=hW9;obtain ⟨t1,t2,t3,t4⟩:=a0P HX8.out (e0I (c0N 5)) rfl W9 hW9';obtain ⟨a9,a8,a7⟩:=a0A jR t1;clear hW9 hW9';exact bodyPost_ret (v:=d0S (c0N 5)) (by simp [results,Tryz.results87,go_sem,a9,d0S,e0I,c0N,st0,c0U]) rfl ⟨by rw [HRR.out],HB8.out.trans (t4 _ (by omega))⟩
 | some b =>
   rw [hf] at hfd CG;obtain ⟨y,hy,hsame⟩:=hfd;have hnode:=hsk.at_.node _ (b0U hf);have CP:=jH (fun W (hW:jB w W)=>j0F b.1 b.2.1 rs rh b.2.2 W (hnode.below hW) hrh);have hrr:r=match y.past.getLast? with|none=>c0N 0|some a=>⟨0,0,0,st0,a⟩:=by rw [hr];unfold l1U;rw [hy];try rfl
   have hpl:y.past.length≤64:=by rw [←hsame.2.1];exact Nat.le_trans hnode.ok.past hrh
   rw [hsame.2.1] at CP;have CG3:=jH (show ∀W,jB w W→Calls Tryz.prog 105 #[.pointer (some ⟨s.T,0,none⟩),.agg #[.int .u64 k.1,.int .u64 k.2]] W (jP W (.pointer (some ⟨b.1,0,none⟩))) from CG.out);generalize y.past=l at CP hrr hpl;generalize b.1=N at CP CG3;clear h hr hs hR hsk hf CG hld hri hy hsame hnode
   by_cases h0:0<l.length
   · obtain ⟨m,hm⟩:∃m,m=l.length - 1:=⟨_,rfl⟩
     have hlt:m<l.length:=by omega
     have hrr2:r=⟨0,0,0,st0,l[m]⟩:=by
      rw [hrr,b1B h0];simp only [hm]
     have z9:¬((l.length:Nat):Int)=0:=by omega
     have z7:(((l.length:Nat):Int) == 0)=false:=beq_eq_false_iff_ne.2 z9;have hw:wrap64 ((m:Nat):Int)=(m:Nat):=by unfold wrap64;omega
     have hw2:((l.length:Nat) - 1:Int)=(m:Nat):=by omega
     have z1:(0:Int)≤(m:Int):=by omega
     have z2:(m:Int)<(l.length:Int):=by omega
     have HLT:=jH hlt;clear hrr hm h0
     go_enter Tryz.func87,Tryz.ntmps87
     go_wp2_with fail
     refine a0I ?_;intro W hW;have HB1:=jH (show jB w W by rw [hW];exact a0C (a0C jR _) _);have HX0:=jH (show W.heap[w.heap.size]?=some (.cells #[.int .u64 k.1,.int .u64 k.2] 74 (0,0)) by rw [hW];exact c0J _ _ _);have HX1:=jH (show W.heap[w.heap.size+1]?=some (.cells zR.toArray 46 (0,0)) by rw [hW];exact b0R _ _ _);clear hW;have rk0:∀U,jB W U→U.cell? ⟨w.heap.size,0,none⟩=some (.int .u64 k.1):=fun U hU=>(a0A hU HX0.out).1 0
     have rk1:∀U,jB W U→U.cell? ⟨w.heap.size,1,none⟩=some (.int .u64 k.2):=fun U hU=>(a0A hU HX0.out).1 1
     have hS00:jB W W:=jR;have hS0:jB W W.drew:=hS00.drew
     go_region_held3 (fun U=>jB W U)
       (first
         | with_reducible exact hS0
         | with_reducible exact HB7.out
         | with_reducible exact HB5.out
         | with_reducible exact hS00)
       (first
       | (go_at_call 30
          refine (CH.out _ (a0D HB1.out ‹jB W _›)).mono ?_;rintro e w5 ⟨rfl,hb5⟩;have HB5:=jH (a0D ‹jB W _› hb5);clear hb5)
       | (go_at_call 32
          refine (CS.out _ (a0D HB1.out ‹jB W _›)).mono ?_;rintro e w6 ⟨rfl,rfl⟩)
       | (go_at_call 105
          refine (CG3.out _ (a0D HB1.out ‹jB W _›)).mono ?_;rintro e w7 ⟨rfl,hb7⟩;have HB7:=jH (a0D ‹jB W _› hb7);clear hb7))
     all_goals
       refine a0T ?_;intro W8 hW8;have hb8:jB W W8:=by rw [hW8];first|exact HB7.out|exact HB7.out.drew|exact a0F HB7.out _
       have HX8:=jH (jK hb8 HX1.out);have HB8:=jH (a0D HB1.out hb8);obtain ⟨y1,y2,y3⟩:=a0A jR HX8.out;unfold zR at y1;clear hW8 hb8 rk0 rk1
       go_wp2_with (first
        | (go_at_call 108
           refine (CP.out W8 HB8.out).mono ?_;rintro e w9 ⟨A9,c9,fp9,rfl,hr9,_,hb9⟩;have HB9:=jH (a0D HB8.out hb9);have HX9:=jH (jK hb9 HX8.out);obtain ⟨y1,y2,y3⟩:=a0A jR HX9.out;unfold zR at y1;have HR9:=jH (hr9.row q0L);obtain ⟨bb,o,hA,hbb,hcc⟩:=HR9.out.at_ HLT.out;subst hA;have c0:=hcc 0 _ rfl;have c1:=hcc 1 _ rfl;have c2:=hcc 2 _ rfl;have c3:=hcc 3 _ rfl;have c4:=hcc 4 _ rfl;rw [Nat.add_zero] at c0
           have HRR:=jH hrr2;generalize l[m]=a at c0 c1 c2 c3 c4 HRR;clear hcc;clear hr9 hb9))
       refine a0H ?_;intro W9 hW9;have hW9':W9=b0J w9 (w.heap.size+1) 0 (e0I ⟨0,0,0,st0,a⟩):=hW9;obtain ⟨t1,t2,t3,t4⟩:=a0P HX9.out (e0I ⟨0,0,0,st0,a⟩) rfl W9 hW9';obtain ⟨a9,a8,a7⟩:=a0A jR t1;clear hW9 hW9';exact bodyPost_ret (v:=d0S ⟨0,0,0,st0,a⟩) (by simp [results,Tryz.results87,go_sem,a9,d0S,e0I,c0N,st0,c0U]) rfl ⟨by rw [HRR.out],HB9.out.trans (t4 _ (by omega))⟩
   · have hz:l=[]:=List.length_eq_zero_iff.1 (by omega)
     subst hz;have HRR:=jH (show r=c0N 0 from hrr);clear hrr h0
     go_enter Tryz.func87,Tryz.ntmps87
     go_wp2_with fail
     refine a0I ?_;intro W hW;have HB1:=jH (show jB w W by rw [hW];exact a0C (a0C jR _) _);have HX0:=jH (show W.heap[w.heap.size]?=some (.cells #[.int .u64 k.1,.int .u64 k.2] 74 (0,0)) by rw [hW];exact c0J _ _ _);have HX1:=jH (show W.heap[w.heap.size+1]?=some (.cells zR.toArray 46 (0,0)) by rw [hW];exact b0R _ _ _);clear hW;have rk0:∀U,jB W U→U.cell? ⟨w.heap.size,0,none⟩=some (.int .u64 k.1):=fun U hU=>(a0A hU HX0.out).1 0
     have rk1:∀U,jB W U→U.cell? ⟨w.heap.size,1,none⟩=some (.int .u64 k.2):=fun U hU=>(a0A hU HX0.out).1 1
     have hS00:jB W W:=jR;have hS0:jB W W.drew:=hS00.drew
     go_region_held3 (fun U=>jB W U)
       (first
         | with_reducible exact hS0
         | with_reducible exact HB7.out
         | with_reducible exact HB5.out
         | with_reducible exact hS00)
       (first
       | (go_at_call 30
          refine (CH.out _ (a0D HB1.out ‹jB W _›)).mono ?_;rintro e w5 ⟨rfl,hb5⟩;have HB5:=jH (a0D ‹jB W _› hb5);clear hb5)
       | (go_at_call 32
          refine (CS.out _ (a0D HB1.out ‹jB W _›)).mono ?_;rintro e w6 ⟨rfl,rfl⟩)
       | (go_at_call 105
          refine (CG3.out _ (a0D HB1.out ‹jB W _›)).mono ?_;rintro e w7 ⟨rfl,hb7⟩;have HB7:=jH (a0D ‹jB W _› hb7);clear hb7))
     all_goals
       refine a0T ?_;intro W8 hW8;have hb8:jB W W8:=by rw [hW8];first|exact HB7.out|exact HB7.out.drew|exact a0F HB7.out _
       have HX8:=jH (jK hb8 HX1.out);have HB8:=jH (a0D HB1.out hb8);obtain ⟨y1,y2,y3⟩:=a0A jR HX8.out;unfold zR at y1;clear hW8 hb8 rk0 rk1
       go_wp2_with (first
        | (go_at_call 108
           refine (CP.out W8 HB8.out).mono ?_;rintro e w9 ⟨A9,c9,fp9,rfl,hr9,_,hb9⟩;have HB9:=jH (a0D HB8.out hb9);have HX9:=jH (jK hb9 HX8.out);obtain ⟨y1,y2,y3⟩:=a0A jR HX9.out;unfold zR at y1;have HR9:=jH (hr9.row q0L)
           skip;clear hr9 hb9))
       refine a0H ?_;intro W9 hW9;have hW9':W9=b0J w9 (w.heap.size+1) 0 (e0I (c0N 0)):=hW9;obtain ⟨t1,t2,t3,t4⟩:=a0P HX9.out (e0I (c0N 0)) rfl W9 hW9';obtain ⟨a9,a8,a7⟩:=a0A jR t1;clear hW9 hW9';exact bodyPost_ret (v:=d0S (c0N 0)) (by simp [results,Tryz.results87,go_sem,a9,d0S,e0I,c0N,st0,c0U]) rfl ⟨by rw [HRR.out],HB9.out.trans (t4 _ (by omega))⟩
end
end
end
end Go.Proofs.YtmniiodpbebnmaaGreat
