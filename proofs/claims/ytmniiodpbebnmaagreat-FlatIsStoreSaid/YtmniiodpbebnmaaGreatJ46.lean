/- Part 46 of the proof. -/
import Derived.Test.YtmniiodpbebnmaaGreatJ45
import Derived.Test.YtmniiodpbebnmaaGreatJ32
import Derived.Deep.MidRow
import Derived.Deep.WholeRow
import Derived.Great.BuildSlice
import Derived.Laws.ResultCell
import Derived.Laws.Rows
import Derived.KernelRfl
namespace Go.Proofs.YtmniiodpbebnmaaGreat
set_option linter.unusedSimpArgs false
set_option linter.unusedVariables false
set_option linter.unusedSectionVars false
set_option maxRecDepth 100000
set_option maxHeartbeats 16000000
section
open Go.RowKit Go.Lib Go.Sort
section
theorem ePart:g0Y 89 164 1 24 (.slice none 0 0) b1K :=
 ⟨by kernel_rfl,by kernel_rfl,rfl,by decide,by decide,fun _=>rfl,fun x u hu=>by
  simp only [b1K,List.mem_cons,List.not_mem_nil,or_false] at hu
  subst hu
  rfl⟩
theorem k1F {α:Type} {l:List α} {i:Nat} {x:α} (h:l[i]?=some x):l.set i x=l:=by
 obtain ⟨hi,rfl⟩:=List.getElem?_eq_some_iff.1 h;exact List.set_getElem_self hi
section
variable {B:Nat→Prop} {S:Nat} {c:Cfg} {rs rh n:Nat} {wd:Wd} {d:d0Y}
theorem a0I.freeze {w w':World} (h:a0I B w S c rs rh n wd d) {i:Nat} {s:St} (hi:d.sts[i]?=some s) (hat:SAt w' s.T s.M c s.ver (f0P s.es (risL (kyN s.es))) rs rh) (hu:Upd w w' s.fp (sfp s.T s.M (f0P s.es (risL (kyN s.es))))) :
 a0I B w' S c rs rh n wd { d with sts:=d.sts.set i ⟨s.T,s.M,s.ver,f0P s.es (risL (kyN s.es))⟩ }∧Upd w w' (d.fp S) (d0Y.fp S { d with sts:=d.sts.set i ⟨s.T,s.M,s.ver,f0P s.es (risL (kyN s.es))⟩ }) ∧
   ∀r∈d0Y.fp S { d with sts:=d.sts.set i ⟨s.T,s.M,s.ver,f0P s.es (risL (kyN s.es))⟩ },r∈d.fp S:=by
 obtain ⟨R,hR,hk⟩:=h.get hi;obtain ⟨h1,h2⟩:=h.turn hi hR (R':=R) (fun r hr=>h.bs s (List.mem_of_getElem? hi) r (by
  simp only [St.all,List.mem_cons,List.mem_flatMap] at hr ⊢
  rcases hr with rfl|rfl|⟨p,hp,hr⟩
  · exact .inl rfl
  · exact .inr (.inl rfl)
  · obtain ⟨q,hq,rfl⟩:=m0B hp
    exact .inr (.inr ⟨q,hq,hr⟩))) (Nat.le_refl n) hu (Old.frz _ _ _) ⟨hat,by rw [d1P];exact r0Z hk.tells _,f1W hk.grown _,hk.ver_⟩
 rw [k1F hR] at h1;refine ⟨h1,h2,fun r hr=>?_⟩
 rcases c0E.1 hr with rfl|rfl|rfl|⟨t,ht,hr⟩
 · exact c0E.2 (.inl rfl)
 · exact c0E.2 (.inr (.inl rfl))
 · exact c0E.2 (.inr (.inr (.inl rfl)))
 · rcases List.mem_or_eq_of_mem_set ht with ht|rfl
   · exact c0E.2 (.inr (.inr (.inr ⟨t,ht,hr⟩)))
   · refine c0E.2 (.inr (.inr (.inr ⟨s,List.mem_of_getElem? hi,?_⟩)))
     rcases e1B (g1O (es:=s.es)) r hr with rfl|rfl
     · simp [St.fp,sfp]
     · simp [St.fp,sfp]
theorem fz_frz (es:List (KO × NE)):j1G (f0P es (risL (kyN es))):=g1O
structure h0I (B:Nat→Prop) (w wr:World) (S:Nat) (c:Cfg) (rs rh n:Nat) (wd:Wd) (d dk:d0Y) (k:Nat) (v:Value) (ps:List l0E):Prop where
 at_:a0I (fun b=>B b∧b<w.heap.size) wr S c rs rh n wd dk
 up:Upd w wr (d.fp S) (dk.fp S)
 low:∀r∈dk.fp S,r<w.heap.size
 eA:dk.A=d.A∧dk.cp=d.cp∧dk.sts.length=d.sts.length
 own:b0Q b1K 164 1 w.heap.size wr v ps
 len:ps.length=k
 done:∀(j:Nat) (p:l0E),ps[j]?=some p→∃s:St,dk.sts[j]?=some s∧j1G s.es∧p.2.2=soE (o0I s.es)∧d0G (fun b=>w.heap.size≤b∧v.ownBlock≠some b) 3 eoC wr (.slice p.1 p.2.2.length p.2.1) p.2.2
theorem h0I.start {w:World} (h:a0I B w S c rs rh n wd d):h0I B w w S c rs rh n wd d d 0 (.slice none 0 0) [] :=
 ⟨h.keep (Nat.le_refl _) (fun r hr hlt=>⟨rfl,hr,hlt⟩),Upd.of_below jR _,fun r hr=>(h.fpLt r hr).1,⟨rfl,rfl,rfl⟩,b0Q.nil _ _,rfl,fun j p hp=>by simp at hp⟩
theorem h0I.step {w wr w1 w2:World} {dk:d0Y} {k:Nat} {v v2:Value} {ps:List l0E} {s:St} {A:Option Addr} {cc:Nat} (h:h0I B w wr S c rs rh n wd d dk k v ps) (hs:dk.sts[k]?=some s)
    (hat:SAt w1 s.T s.M c s.ver (f0P s.es (risL (kyN s.es))) rs rh) (hu:Upd wr w1 s.fp (sfp s.T s.M (f0P s.es (risL (kyN s.es))))) (ho:b0Q enC 246 3 wr.heap.size w1 (.slice A (o0I s.es).length cc) (o0I s.es))
    {u:World} (hub:jB w1 u) (hg:u.grownBy w2 v.ownBlock) (hblk:v2.ownBlock=v.ownBlock∨v2.ownBlock=some u.heap.size) (ho2:b0Q b1K 164 1 w.heap.size w2 v2 (ps++[(A,cc,soE (o0I s.es))])) :
    h0I B w w2 S c rs rh n wd d { dk with sts:=dk.sts.set k ⟨s.T,s.M,s.ver,f0P s.es (risL (kyN s.es))⟩ } (k+1) v2 (ps++[(A,cc,soE (o0I s.es))]):=by
  obtain ⟨h1,h2,h3⟩:=h.at_.freeze hs hat hu;have hkl:=(List.getElem?_eq_some_iff.1 hs).1;have hrs:=h.up.size;have hus:=hu.size;have hub':=hub.size;have hb12:Below w.heap.size w1 w2:=(hub.mono (by omega)).trans (c0C hg (by omega) (fun r hr=>(h.own.lt hr).1));have hsz:=hb12.size;have hrow:∀{α:Type} {n':Nat} {f:α→List Value} {vr:Value} {l:List α},d0G (fun b=>w.heap.size≤b∧v.ownBlock≠some b) n' f w1 vr l→d0G (fun b=>w.heap.size≤b∧v2.ownBlock≠some b) n' f w2 vr l:=fun hr=>c1M hr hub hg hblk
  have hold:∀r,w.heap.size≤r→r<wr.heap.size→w1.heap[r]?=wr.heap[r]?:=fun r h0 hr=>hu.block r hr (fun hq=>by have:=h.low r (c0E.2 (.inr (.inr (.inr ⟨s,List.mem_of_getElem? hs,hq⟩))));omega)
  refine ⟨h1.keep hsz (fun r hr hlt=>⟨hb12.block r hr.2,hr⟩),?_,fun r hr=>h.low r (h3 r hr),⟨h.eA.1,h.eA.2.1,by show (dk.sts.set k _).length=_;rw [List.length_set];exact h.eA.2.2⟩,ho2,by simp [h.len],fun j p hp=>?_⟩
  · have h5:=h.up.trans h2
    refine ⟨hb12.os.trans h5.os,hb12.tape.trans h5.tape,hb12.output.trans h5.output,Nat.le_trans h5.size hsz,fun r hr hn=>(hb12.block r hr).trans (h5.block r hr hn),h5.fresh⟩
  · show ∃t:St,(dk.sts.set k _)[j]?=some t∧_
    rcases Nat.lt_or_ge j ps.length with hj|hj
    · rw [List.getElem?_append_left hj] at hp
      obtain ⟨t,t1,t2,t3,t4⟩:=h.done j p hp;refine ⟨t,?_,t2,t3,hrow ?_⟩
      · rw [List.getElem?_set,if_neg (by have:=h.len;omega)]
        exact t1
      · exact t4.keepP hus (fun b hb hlt=>hold b hb.1 hlt)
    · rw [List.getElem?_append_right hj] at hp
      have hj2:j=ps.length:=by
       have:=(List.getElem?_eq_some_iff.1 hp).1;simp at this
       omega
      subst hj2;simp at hp
      subst hp;refine ⟨⟨s.T,s.M,s.ver,f0P s.es (risL (kyN s.es))⟩,?_,fz_frz _,by simp only [j1L],hrow ?_⟩
      · rw [List.getElem?_set,if_pos h.len.symm,if_pos (by have:=h.len;omega)]
      · have hr:=d0G.own eEn ho
        refine ⟨by have:=row_so hr.1;rw [←n0Q] at this;exact this,fun b o m c' e hn=>?_⟩;have h9:=hr.2 b o m c' (by rw [n0Q] at e;exact e) (by rw [n0Q] at hn;exact hn);exact ⟨by omega,fun e9=>by have:=h.own.lt e9;omega⟩
theorem h0I.pub {w wr:World} {dk:d0Y} {v:Value} {ps:List l0E} (h:h0I B w wr S c rs rh n wd d dk d.sts.length v ps) (hl:d.sts.length≤64) (hl2:(d0D wd).length≤1000000):v0J wr v dk:=by
 have hlen:ps.length=dk.sts.length:=by rw [h.len,h.eA.2.2]
 have hget:∀(j:Nat) s,dk.sts[j]?=some s→∃p,ps[j]?=some p:=fun j s hs=>by
  have:=(List.getElem?_eq_some_iff.1 hs).1;exact ⟨ps[j]'(by omega),List.getElem?_eq_getElem _⟩
 refine ⟨fun s hs=>?_,ps,⟨h.own.row ePart,fun p hp=>?_⟩,?_,fun p hp x hx N hN=>?_,by rw [h.len];omega,fun p hp=>?_⟩
 · obtain ⟨j,hj⟩:=List.getElem?_of_mem hs
   obtain ⟨p,hp⟩:=hget j s hj;obtain ⟨t,t1,t2,_,_⟩:=h.done j p hp;rw [hj] at t1;injection t1 with t1
   rw [t1];exact t2
 · obtain ⟨j,hj⟩:=List.getElem?_of_mem hp
   obtain ⟨t,_,_,_,t4⟩:=h.done j p hj;exact t4.1
 · have:∀(qs:List l0E) (ts:List St),qs.length=ts.length→(∀(j:Nat) (p:l0E) (t:St),qs[j]?=some p→ts[j]?=some t→p.2.2=soE (o0I t.es))→(qs.flatMap fun p=>c0Z (fun _=>true) p.2.2)=j1H ts:=by
    intro qs
    induction qs with
    | nil=>intro ts hts _;cases ts with
      | nil=>rfl
      | cons _ _=>simp at hts
    | cons q qs ih=>intro ts hts hh;cases ts with
      | nil=>simp at hts
      | cons t ts =>
        have h0:=hh 0 q t rfl rfl;have h1:=ih ts (by simpa using hts) (fun j p t' hp ht=>hh (j+1) p t' (by simpa using hp) (by simpa using ht));unfold j1H at h1 ⊢;rw [List.flatMap_cons,List.map_cons,List.flatten_cons,h1,h0,p1O]
   refine this ps dk.sts hlen (fun j p t hp ht=>?_);obtain ⟨t',t1,_,t3,_⟩:=h.done j p hp;rw [ht] at t1;injection t1 with t1
   rw [t1];exact t3
 · obtain ⟨j,hj⟩:=List.getElem?_of_mem hp
   obtain ⟨t,t1,t2,t3,_⟩:=h.done j p hj;rw [t3] at hx;obtain ⟨y,hy,rfl⟩:=List.mem_map.1 hx;simp at hN
   obtain ⟨q,hq,e1,e2⟩:=z0F hy;obtain ⟨R,_,hk⟩:=h.at_.get t1;exact ⟨q.2.2.1,rs,rh,q.2.2.2,by rw [←hN,←e2];exact hk.at_.node q hq,t2 q hq⟩
 · obtain ⟨j,hj⟩:=List.getElem?_of_mem hp
   obtain ⟨t,t1,t2,t3,_⟩:=h.done j p hj;obtain ⟨R,hR,hk⟩:=h.at_.get t1;rw [t3,n0Q,y0X hk.at_.nodup,←l0T,hk.tells.len];refine Nat.le_trans ?_ hl2;exact (List.sublist_flatten_of_mem (List.mem_of_getElem? hR)).length_le
theorem h0I.all {w wr:World} {dk:d0Y} {k:Nat} {v:Value} {ps:List l0E} (h:h0I B w wr S c rs rh n wd d dk k v ps):a0I B wr S c rs rh n wd dk:=h.at_.keep (Nat.le_refl _) (fun r hr hlt=>⟨rfl,hr.1⟩)
theorem a0I.avoid {w W:World} (h:a0I B w S c rs rh n wd d) (hb:jB w W):a0I (fun b=>B b∧b≠w.heap.size) W S c rs rh n wd d :=
 h.keep hb.size (fun r hr hlt=>⟨hb.block r hlt,hr,by omega⟩)
theorem a0I.stored {w W:World} {X:Nat} (h:a0I (fun b=>B b∧b≠X) w S c rs rh n wd d) (hs:W.heap.size=w.heap.size) (hk:∀r,r≠X→W.heap[r]?=w.heap[r]?):a0I B W S c rs rh n wd d :=
 h.keep (Nat.le_of_eq hs.symm) (fun r hr _=>⟨hk r hr.2,hr.1⟩)
theorem h1Q {w w5 W9:World} {m:Nat} {wd':Wd} {d':d0Y} {v:Value} {fp:List Nat} (h:a0I (fun b=>B b∧b≠w.heap.size) w5 S c rs rh m wd' d') (hu:Upd w w5 fp (d'.fp S)) (h2:∀k,k≠w.heap.size→W9.heap[k]?=w5.heap[k]?) (h3:W9.heap.size=w5.heap.size) (h4:∀n,n≤w.heap.size→Below n w5 W9) :
 d0M B w S c rs rh m fp v wd' (.returned v) W9 :=
 ⟨d'.fp S,rfl,⟨d',h.stored h3 h2,rfl⟩,hu.thenB (h4 _ (Nat.le_refl _))⟩
theorem w0G (w:World) (h:a0I B w S c rs rh n wd d) (hB:∀b,w.heap.size≤b→B b) (hp0:0<d.sts.length) (hl:d.sts.length≤64) (hh:b0V c wd) (ht:(d0D wd).length≤400) (hn:n≤1000) (hc:wd.cuts.length≤900000) (hep:0≤wd.ep∧wd.ep≤1000000) :
 Calls Tryz.prog 84 #[.pointer (some ⟨S,0,none⟩)] w (d0M B w S c rs rh n (d.fp S) (a0X (h0S wd).2) (h0S wd).1):=by
 have H:=jH h;have HB:=jH hB;have HP:=jH hp0;have HH:=jH hh;have HT:=jH ht;have HEP:=jH hep;have HCC:=jH hc;obtain ⟨r,hr⟩:∃r,r=h0S wd:=⟨_,rfl⟩;rw [←hr];have HR:=jH hr;clear hr;obtain ⟨v0,hv0⟩:∃v0,v0=(.slice (some ⟨d.A,0,none⟩) d.sts.length d.cp:Value):=⟨_,rfl⟩;obtain ⟨a1,a2,a3⟩:=a0A jR h.cell;clear h hB hp0 hh ht hep hc
 go_enter Tryz.func84,Tryz.ntmps84
 go_wp2_with fail
 refine a0J ?_;intro W hW;have HB0:=jH (show jB w W by rw [hW];exact a0C jR _);have HX0:=jH (show W.heap[w.heap.size]?=some (.cells zR.toArray 46 (0,0)) by rw [hW];exact heap_alloc_new _ _);have H1:=jH (H.out.avoid HB0.out);have HSN:=jH (h0I.start H1.out);have HSZ:=jH (show w.heap.size<W.heap.size from (jL HX0.out));clear hW;obtain ⟨b1,b2,b3⟩:=a0A jR H1.out.cell;clear a1 a2 a3 hv0
 go_wp2
 clear b1 b2
 go_loopg [3,14] d.sts.length (fun g s3 s14 wr=>∃(k:Nat) (dk:d0Y) (ps:List l0E),k≤d.sts.length∧d.sts.length - k≤g∧s14=.int .i64 k∧h0I (fun b=>B b∧b≠w.heap.size) W wr S c rs rh n wd d dk k s3 ps)
 case atStart=>exact ⟨0,d,[],Nat.zero_le _,Nat.le_refl _,rfl,HSN.out⟩
 case round =>
  obtain ⟨k,dk,ps,hk,hg,rfl,hat⟩:=hrel;rename World=>wr
  obtain ⟨A3,c3,rfl⟩:=hat.own.form;have HA:=jH hat;have hle:=hat.eA;clear hat
  by_cases hlt:k<d.sts.length
  · have hkl:k<dk.sts.length:=by omega
    have hs:=List.getElem?_eq_getElem hkl;have z1:(k:Int)<(d.sts.length:Int):=by omega
    have z2:(0:Int)≤(k:Int):=by omega
    obtain ⟨bb,o,hA,hbw,hcc⟩:=HA.out.at_.row.1.at_ hkl;injection hA with hA
    injection hA with e1 e2
    subst e1 e2;have c1:wr.cell? ⟨d.A,k,none⟩=some (.pointer (some ⟨(dk.sts[k]).T,0,none⟩)):=by
     have:=hcc 0 _ rfl;rw [hle.1] at this
     simpa using this
    have HS:=jH hs;clear hcc hbw hs;generalize dk.sts[k]=s at c1 HS;obtain ⟨R,hR,hsk⟩:=HA.out.at_.get HS.out;have hes:s.es.length≤1000:=by
     have:=hsk.grown.len;rw [l0T] at this;omega
    have HF:=jH (show Calls Tryz.prog 97 #[.pointer (some ⟨s.T,0,none⟩)] wr fun e w'=>∃A cc,e=.returned (.slice A (o0I s.es).length cc)∧b0Q enC 246 3 wr.heap.size w' (.slice A (o0I s.es).length cc) (o0I s.es) ∧
        SAt w' s.T s.M c s.ver (f0P s.es (risL (kyN s.es))) rs rh∧Upd wr w' s.fp (sfp s.T s.M (f0P s.es (risL (kyN s.es)))) from (u0R s.T s.M c s.ver s.es rs rh wr hsk.at_ hes).mono (by
      rintro e w' ⟨A,cc,rfl,h1,h2,h3⟩;have e9:(o0I s.es).length=(risL (kyN s.es)).length:=by simp [o0I]
      refine ⟨A,cc,by rw [e9],?_,h2,h3⟩;rw [e9];exact h1))
    clear hsk hR hes;have HPL:=jH HA.out.len;have hup:=HA.out.up.size
    go_wp2_with (first
     | (go_at_call 97
        refine HF.out.mono ?_;rintro e w5 ⟨A5,c5,rfl,ho5,hs5,hu5⟩;have HO5:=jH ho5;have HS5:=jH hs5;have HU5:=jH hu5;have h5s:=hu5.size;have HW5:=jH (HA.out.own.kept (w':=w5) (fun r hr=>hu5.block r (HA.out.own.lt hr).2 (fun hq=>by have:=HA.out.low r (c0E.2 (.inr (.inr (.inr ⟨s,List.mem_of_getElem? HS.out,hq⟩))));have:=(HA.out.own.lt hr).1;omega)));clear ho5 hs5 hu5)
     | (at_builtin
        refine b0Y ePart (by rfl) (by rfl) W.heap.size ps [(A5,c5,soE (o0I s.es))] _ _ (by rfl) (by rfl) (HW5.out.below (a0C jR _)) (a0Q.lit w5 _ _ _ _ rfl (by simp [b1K,n0Q])) (by have:=HPL.out;simp;omega) (by simp;omega) ?_;intro out2 A2 c2' w2 hout2 hown2 hg2 hblk2;have HOWN:=jH hown2;have HOUT:=jH hout2;have HG:=jH hg2;have HBK:=jH hblk2;clear hown2 hout2 hg2 hblk2))
    go_roundg (d.sts.length - (k+1))
    case measure=>omega
    case rel =>
     have hout:=HOUT.out;subst hout;exact ⟨k+1,_,_,hlt,Nat.le_refl _,by go_num,HA.out.step HS.out HS5.out HU5.out HO5.out (a0C jR _) HG.out HBK.out HOWN.out⟩
  · obtain rfl:k=d.sts.length:=by omega
    have z1:¬(d.sts.length:Int)<(d.sts.length:Int):=by omega
    have hpub:=HA.out.pub hl (by have:=HT.out;omega);have hB1:∀b,wr.heap.size≤b→(fun b=>B b∧b≠w.heap.size) b:=fun b hb=>⟨HB.out b (by have:=HB0.out.size;have:=HA.out.up.size;omega),by have:=HSZ.out;have:=HA.out.up.size;omega⟩
    have HUP:=jH ((Upd.of_below HB0.out (d.fp S)).trans HA.out.up);obtain ⟨x1,x2,x3⟩:(∀j,wr.cell? ⟨w.heap.size,j,none⟩=(zR.toArray)[j]?)∧(∀j,wr.frozen? ⟨w.heap.size,j,none⟩=false)∧w.heap.size<wr.heap.size:=by
     have h9:=(HA.out.up.block w.heap.size HSZ.out (fun hq=>by have:=(H1.out.fpLt _ hq).2.2;exact this rfl)).trans HX0.out;exact a0A jR h9
    have HX1:=jH ((HA.out.up.block w.heap.size HSZ.out (fun hq=>by have:=(H1.out.fpLt _ hq).2.2;exact this rfl)).trans HX0.out);clear x1 x2 x3
    by_cases hf:64≤dk.live.length
    · have hsn:h0S wd=(wd,a0R 6):=by unfold h0S;rw [if_pos (by rw [←HA.out.at_.cnt];exact hf)]
      have CP:=jH (m0I wr (.slice A3 ps.length c3) HA.out.all hB1 (by have:=HP.out;omega) hpub HH.out HT.out HCC.out HEP.out hf);have HRR:=jH (HR.out.trans hsn);clear hsn hf hpub hB1
      go_wp2_with (first
       | (go_at_call 34
          refine CP.out.mono ?_;rintro e w5 ⟨rfl,hb5⟩;have HX5:=jH (jK hb5 HX1.out);have HB5:=jH hb5;obtain ⟨y1,y2,y3⟩:=a0A jR HX5.out;unfold zR at y1;clear hb5))
      refine a0H ?_;intro W9 hW9;have hW9':W9=c0T w5 w.heap.size 0 [.int .i64 6,.int .i64 0,.int .i64 0,.int .i64 0,.int .i64 0,.int .i64 0,.int .i64 0,.int .i64 0,.int .i64 0,.int .i64 0,.int .i64 0,.int .i64 0,.int .i64 0]:=hW9;obtain ⟨s1,s2,s3,s4⟩:=a0M HX5.out [.int .i64 6,.int .i64 0,.int .i64 0,.int .i64 0,.int .i64 0,.int .i64 0,.int .i64 0,.int .i64 0,.int .i64 0,.int .i64 0,.int .i64 0,.int .i64 0,.int .i64 0] rfl W9 hW9'
      obtain ⟨a9,a8,a7⟩:=a0A jR s1;clear hW9 hW9';exact bodyPost_ret (v:=a0X (a0R 6)) (by simp [results,Tryz.results84,go_sem,a9,a0X,b0E,a0R,st0,b0O]) rfl (by rw [HRR.out];exact h1Q (HA.out.all.below HB5.out) (HUP.out.trans (Upd.of_below HB5.out _)) s2 s3 s4)
    · have hsn:h0S wd=({ wd with ep:=wd.ep+1,cuts:=wd.cuts++[⟨wd.ep+1,d0D wd,false⟩] },⟨0,wd.ep+1,((wd.cuts.length+1:Nat):Int),st0,b0O⟩):=by unfold h0S;rw [if_neg (by rw [←HA.out.at_.cnt];exact hf)]
      have CP:=jH (r0D wr (.slice A3 ps.length c3) HA.out.all hB1 (by have:=HP.out;omega) hpub HH.out HT.out HCC.out HEP.out hf);rw [←HR.out] at hsn;have HFL:=jH HA.out.all.fpLt;have HNW:=jH (show w.heap.size∉dk.fp S from fun hq=>(HFL.out _ hq).2.2 rfl);generalize wd.ep+1=e1 at CP hsn;generalize ((wd.cuts.length+1:Nat):Int)=m1 at CP hsn;have HRR:=jH hsn;clear hsn hf hpub hB1
      go_wp2_with (first
       | (go_at_call 34
          refine CP.out.mono ?_;rintro e w5 ⟨rfl,C5,hC5,h5,hu5⟩;have HX5:=jH ((hu5.block _ (jL HX1.out) HNW.out).trans HX1.out);have H5:=jH h5;have HU5:=jH hu5;obtain ⟨y1,y2,y3⟩:=a0A jR HX5.out;unfold zR at y1;clear h5 hu5))
      refine a0H ?_;intro W9 hW9;have hW9':W9=c0T w5 w.heap.size 0 [.int .i64 0,.int .i64 e1,.int .i64 m1,.int .i64 0,.int .i64 0,.int .i64 0,.int .i64 0,.int .i64 0,.int .i64 0,.int .i64 0,.int .i64 0,.int .i64 0,.int .i64 0]:=hW9;obtain ⟨s1,s2,s3,s4⟩:=a0M HX5.out [.int .i64 0,.int .i64 e1,.int .i64 m1,.int .i64 0,.int .i64 0,.int .i64 0,.int .i64 0,.int .i64 0,.int .i64 0,.int .i64 0,.int .i64 0,.int .i64 0,.int .i64 0] rfl W9 hW9'
      obtain ⟨a9,a8,a7⟩:=a0A jR s1;clear hW9 hW9';exact bodyPost_ret (v:=a0X ⟨0,e1,m1,st0,b0O⟩) (by simp [results,Tryz.results84,go_sem,a9,a0X,b0E,st0,b0O]) rfl (by rw [HRR.out];exact h1Q H5.out (HUP.out.trans HU5.out) s2 s3 s4)
end
end
section
section
variable {B:Nat→Prop} {S:Nat} {c:Cfg} {rs rh n:Nat} {wd:Wd} {d:d0Y}
theorem a0I.avoidX {w W:World} {X:Nat} (h:a0I B w S c rs rh n wd d) (hX:w.heap.size≤X) (hb:jB w W):a0I (fun b=>B b∧b≠X) W S c rs rh n wd d :=
 h.keep hb.size (fun r hr hlt=>⟨hb.block r hlt,hr,by omega⟩)
theorem d0T {w w5 W9:World} {X m:Nat} {wd':Wd} {d':d0Y} {v:Value} {fp:List Nat} (hX:w.heap.size≤X) (h:a0I (fun b=>B b∧b≠X) w5 S c rs rh m wd' d') (hu:Upd w w5 fp (d'.fp S)) (h2:∀k,k≠X→W9.heap[k]?=w5.heap[k]?) (h3:W9.heap.size=w5.heap.size) (h4:∀n,n≤X→Below n w5 W9) :
 d0M B w S c rs rh m fp v wd' (.returned v) W9 :=
 ⟨d'.fp S,rfl,⟨d',h.stored h3 h2,rfl⟩,hu.thenB (h4 _ hX)⟩
theorem f0Y.sok {w:World} {s:St} {R:List Itm} (h:f0Y w c rs rh n s R) (hc:b0S c rs rh) (hn:n≤100):SOk c rs rh s.ver (ab s.es):=sok_of (W:=w) (T:=s.T) (M:=s.M) h.grown h.ver_ hc hn
theorem a0I.act {w w':World} (h:a0I B w S c rs rh n wd d) (hB:∀b,w.heap.size≤b→B b) (hc:b0S c rs rh) (hn:n≤100) {i:Nat} {s:St} {R:List Itm} (hi:d.sts[i]?=some s) (hR:wd.st[i]?=some R) (k:KO) (a:d0U) (h0:¬a.kind<0) (h1:a.kind≠1) (h3:¬3<a.kind) {es':List (KO × NE)}
    (hat:SAt w' s.T s.M c (doS c rs rh s.ver (ab s.es) k a).ver es' rs rh) (hab:ab es'=(doS c rs rh s.ver (ab s.es) k a).has) (hu:Upd w w' s.fp (sfp s.T s.M es')) (ho:Old w.heap.size s.es es') :
    ∃d',a0I B w' S c rs rh (n+1) { wd with st:=wd.st.set i (i0N c rs rh R k.1 a).1 } d'∧Upd w w' (d.fp S) (d'.fp S)∧d'.sts.length=d.sts.length:=by
  have hk:=h.str i s R hi hR;have ht:=m0J hk.tells c rs rh s.ver k a h0 h1 h3;have hg:=t0K hk.grown c rs rh k a;have hlen:(risL (c0M (ab s.es))).length≤n:=by
   rw [e0G (j0B hk.tells.nodup)];have:=hk.grown.len
   simpa [c0M] using this
  have hv:=e1V hk.grown c rs rh k a hlen;have hvv:=hk.ver_;obtain ⟨r1,r2⟩:=h.turn hi hR (R':=(i0N c rs rh R k.1 a).1) (m:=n+1) (fun r hr=>((ho.all (s:=s) _) r hr).elim (h.bs s (List.mem_of_getElem? hi) r) (hB r)) (Nat.le_succ n) hu ho ⟨hat,by rw [hab];exact ht.1,by rw [hab];exact hg,Nat.le_trans hv (by omega)⟩;exact ⟨_,r1,r2,by simp⟩
theorem a0I.other {w w':World} (h:a0I B w S c rs rh n wd d) {i j:Nat} {s t:St} (hi:d.sts[i]?=some s) (hj:d.sts[j]?=some t) (hij:j≠i) {fp':List Nat} (hu:Upd w w' s.fp fp'):∀r∈t.all,w'.heap[r]?=w.heap[r]? :=
 fun r hr=>hu.block r (h.ltA t (List.mem_of_getElem? hj) r hr) (fun hq=>h.pair i j s t hi hj (fun e=>hij e.symm) r (s.sub r hq) hr)
def d1A (cut:Int) (R:List Itm):List Itm:=R.map fun p=>(p.1,f0T cut p.2)
def f0M (cut:Int) (st:List (List Itm)) (k:Nat):List (List Itm):=(st.take k).map (d1A cut)++st.drop k
theorem u0T (cut:Int) (st:List (List Itm)):f0M cut st 0=st:=by simp [f0M]
theorem b1D (cut:Int) (st:List (List Itm)):f0M cut st st.length=st.map (d1A cut):=by simp [f0M]
theorem c1J (cut:Int) (st:List (List Itm)) (k:Nat):(f0M cut st k).length=st.length:=by simp [f0M];omega
theorem b1T (cut:Int) (st:List (List Itm)) (k:Nat) {R:List Itm} (hR:st[k]?=some R):(f0M cut st k).set k (d1A cut R)=f0M cut st (k+1):=by
 obtain ⟨hk,rfl⟩:=List.getElem?_eq_some_iff.1 hR;unfold f0M;rw [List.set_append_right _ _ (by simp;omega),List.take_succ_eq_append_getElem hk,List.map_append,List.append_assoc]
 congr 1
 have e:k - ((st.take k).map (d1A cut)).length=0:=by simp;omega
 rw [e,List.drop_eq_getElem_cons hk];rfl
theorem a1R (cut:Int) (st:List (List Itm)) (k j:Nat) (h:k≤j) (hk:k≤st.length):(f0M cut st k)[j]?=st[j]?:=by
 unfold f0M;rw [List.getElem?_append_right (by simp;omega),List.getElem?_drop]
 congr 1
 simp
 omega
structure n0K (B:Nat→Prop) (w wr:World) (S:Nat) (c:Cfg) (rs rh n:Nat) (wd:Wd) (d dk:d0Y) (cut:Int) (k:Nat):Prop where
 at_:a0I B wr S c rs rh (n+1) { wd with st:=f0M cut wd.st k } dk
 up:Upd w wr (d.fp S) (dk.fp S)
 eA:dk.A=d.A∧dk.cp=d.cp∧dk.sts.length=d.sts.length
 rest:∀(j:Nat) (s:St) (R:List Itm),k≤j→dk.sts[j]?=some s→wd.st[j]?=some R→f0Y wr c rs rh n s R
theorem n0K.start {w:World} (h:a0I B w S c rs rh n wd d) (cut:Int):n0K B w w S c rs rh n wd d d cut 0 :=
 ⟨by rw [u0T];exact h.mono (Nat.le_succ n),Upd.of_below jR _,⟨rfl,rfl,rfl⟩,fun j s R _ hs hR=>h.str j s R hs hR⟩
theorem n0K.step {w wr w':World} {dk:d0Y} {cut:Int} {k:Nat} (h:n0K B w wr S c rs rh n wd d dk cut k) (hB:∀b,w.heap.size≤b→B b) (hn:n≤100) {s:St} (hs:dk.sts[k]?=some s) {es':List (KO × NE)}
    (hat:SAt w' s.T s.M c (s.ver+g0R (ab s.es) cut (risL (kyN s.es))) es' rs rh) (hab:ab es'=f0Q (ab s.es) cut (risL (kyN s.es))) (hu:Upd wr w' s.fp (sfp s.T s.M es')) (ho:Old wr.heap.size s.es es') :
    ∃dk',n0K B w w' S c rs rh n wd d dk' cut (k+1):=by
  have hkl:=(List.getElem?_eq_some_iff.1 hs).1;have hln:=h.at_.len;rw [c1J] at hln;have hkw:k<wd.st.length:=by omega
  have hR:=List.getElem?_eq_getElem hkw;generalize wd.st[k]=R at hR;have hk:=h.rest k s R (Nat.le_refl k) hs hR;have hd:doS c rs rh s.ver (ab s.es) ⟨(0,0),⟨by decide,by decide⟩⟩ ⟨1,(cut,0),g0P,b0O⟩=⟨0,g0M (ab s.es) cut (risL (kyN s.es)),s.ver+g0R (ab s.es) cut (risL (kyN s.es)),f0Q (ab s.es) cut (risL (kyN s.es))⟩:=by
   unfold doS;rw [if_neg (show ¬(1:Int)=0 by decide),if_pos rfl,t0Y]
  have ht:=v0G hk.tells c rs rh s.ver ⟨(0,0),⟨by decide,by decide⟩⟩ cut;have hg:=t0K hk.grown c rs rh ⟨(0,0),⟨by decide,by decide⟩⟩ ⟨1,(cut,0),g0P,b0O⟩;have hlen:(risL (c0M (ab s.es))).length≤n:=by
   rw [e0G (j0B hk.tells.nodup)];have:=hk.grown.len
   simpa [c0M] using this
  have hv:=e1V hk.grown c rs rh ⟨(0,0),⟨by decide,by decide⟩⟩ ⟨1,(cut,0),g0P,b0O⟩ hlen;rw [hd] at ht hg hv;dsimp only at ht hg hv;have hvv:=hk.ver_;have hRk:(f0M cut wd.st k)[k]?=some R:=by
   have hkk:k≤wd.st.length:=by omega
   rw [a1R cut wd.st k k (Nat.le_refl k) hkk];exact hR
  obtain ⟨r1,r2⟩:=h.at_.turn hs hRk (R':=d1A cut R) (m:=n+1) (fun r hr=>((ho.all (s:=s) _) r hr).elim (h.at_.bs s (List.mem_of_getElem? hs) r) (fun h9=>hB r (Nat.le_trans h.up.size h9))) (Nat.le_refl _) hu ho ⟨hat,by rw [hab];exact ht,by rw [hab];exact hg,by dsimp only;omega⟩;refine ⟨{ dk with sts:=dk.sts.set k ⟨s.T,s.M,s.ver+g0R (ab s.es) cut (risL (kyN s.es)),es'⟩ },⟨?_,h.up.trans r2,⟨h.eA.1,h.eA.2.1,by show (dk.sts.set k _).length=_;rw [List.length_set];exact h.eA.2.2⟩,fun j t Rj hj ht hRj=>?_⟩⟩
  · have e:(f0M cut wd.st k).set k (d1A cut R)=f0M cut wd.st (k+1):=b1T cut wd.st k hR
    rw [←e];exact r1
  · have ht:(dk.sts.set k _)[j]?=some t:=ht
    rw [List.getElem?_set,if_neg (by omega)] at ht;exact (h.rest j t Rj (by omega) ht hRj).kept (h.at_.other hs ht (by omega) hu)
end
end
end
section
open Go.RowKit Go.Lib Go.Sort
open Go.ChangeMaps (setBlock)
section
section
variable {B:Nat→Prop} {S:Nat} {c:Cfg} {rs rh n:Nat} {wd:Wd} {d:d0Y}
theorem u0K {id:ByteArray} {i:Nat} {R:List Itm} (hri:c0J (b0L id).1 (b0L id).2 c.st=(i:Int)) (hR:wd.st[i]?=some R) (a:d0U):h0E c rs rh wd id a=({ wd with st:=wd.st.set i (i0N c rs rh R (b0L id) a).1 },(i0N c rs rh R (b0L id) a).2):=by
 have e:atW c id=i:=by unfold atW;omega
 unfold h0E;rw [e,List.getD_eq_getElem?_getD,hR];rfl
theorem g0K {w w':World} {fp fp':List Nat} {X:Nat} (hu:Upd w w' fp fp') (hX:X∉fp) {o:Obj} (h:w.heap[X]?=some o):w'.heap[X]?=some o:=(hu.block X (jL h) hX).trans h
theorem i0J (w:World) (a b:Obj):∀W,W=(w.alloc a).alloc b→Hid (jB w W)∧Hid (W.heap[w.heap.size]?=some a)∧Hid (W.heap[w.heap.size+1]?=some b):=fun W hW=>by
 rw [hW];exact ⟨jH (a0C (a0C jR _) _),jH (d0V _ _ _),jH (c0G _ _ _)⟩
theorem c0N {w W w2:World} {a b:Nat} {o1 o2:Obj} (hb:jB W w2) (h:Hid (jB w W)) (h1:Hid (W.heap[a]?=some o1)) (h2:Hid (W.heap[b]?=some o2)):Hid (jB w w2)∧Hid (w2.heap[a]?=some o1)∧Hid (w2.heap[b]?=some o2) :=
 ⟨jH (a0D h.out hb),jH (jK hb h1.out),jH (jK hb h2.out)⟩
theorem e0O (w:World) (h:a0I B w S c rs rh n wd d) (hB:∀b,w.heap.size≤b→B b) (hc:b0S c rs rh) (hi:h0C c rs rh n wd) (kind:Int) (id:ByteArray) (tick val handle:Int) (pl:Pol) (hx:(⟨kind,id,tick,val,handle,pl⟩:b0Z).ok) (h0:f0V ⟨kind,id,tick,val,handle,pl⟩=0) :
 ∃ (i:Nat) (s:St) (R:List Itm) (pe:Int),c0J (b0L id).1 (b0L id).2 c.st=(i:Int)∧d.sts[i]?=some s∧wd.st[i]?=some R∧f0Y w c rs rh n s R∧e0R c.st=true∧(1≤c.st∧c.st≤64)∧(d.sts.length:Int)=c.st ∧
   Hid (∀W,Calls Tryz.prog 42 #[a0S ⟨kind,id,tick,val,handle,pl⟩] W (jP W (.int .i64 0))) ∧
   Hid (∀W,jB w W→a0I (fun b=>B b∧b≠w.heap.size+1) W S c rs rh n wd d) ∧
   (∀W,jB w W→w.heap.size+1<W.heap.size→∀b,W.heap.size≤b→B b∧b≠w.heap.size+1) ∧
   Hid (w.heap.size+1∉d.fp S) ∧
   Hid (∀W,jB w W→Calls Tryz.prog 80 #[.pointer (some ⟨S,0,none⟩)] W fun e w'=>e=.returned (.bool true)∧w'=W) ∧
   Hid (∀W,Calls Tryz.prog 81 #[.string id] W (jP W (.tuple #[.agg #[.int .u64 (b0L id).1,.int .u64 (b0L id).2],.int .i64 pe]))) ∧
   Hid (∀W,jB w W→Calls Tryz.prog 30 #[.pointer (some ⟨S,0,none⟩),.agg #[.int .u64 (b0L id).1,.int .u64 (b0L id).2]] W (jP W (.int .i64 (i:Nat)))) ∧
   Hid (∀W,jB w W→Calls Tryz.prog 32 #[.pointer (some ⟨S,0,none⟩),.int .i64 (i:Nat)] W fun e w'=>e=.returned (.pointer (some ⟨s.T,0,none⟩))∧w'=W):=by
 have hst:e0R c.st=true:=by have:=hc.cfg;unfold h0A at this;simp only [Bool.and_eq_true] at this;exact this.1
 have hbd:=d0L _ hst;have hl:(d.sts.length:Int)=c.st:=by rw [h.len];exact hi.len
 have hid:id.size≤maxLen:=hx.2.1;obtain ⟨i,s,R,hri,hs,hR,hsk⟩:=h.home hl hst (b0L id);obtain ⟨pe,hpe⟩:∃pe:Int,h0K id=.tuple #[.agg #[.int .u64 (b0L id).1,.int .u64 (b0L id).2],.int .i64 pe]:=by
  unfold h0K b0L
  cases idS id with
  | true=>exact ⟨0,rfl⟩
  | false=>exact ⟨2,rfl⟩
 exact ⟨i,s,R,pe,hri,hs,hR,hsk,hst,hbd,hl,jH (fun W=>h0 ▸ i0Q ⟨kind,id,tick,val,handle,pl⟩ W hx),jH (fun W hW=>h.avoidX (X:=w.heap.size+1) (Nat.le_succ _) hW),
   fun W hW h1 b hb=>⟨hB b (Nat.le_trans hW.size hb),by omega⟩,jH (fun hq=>by have:=(h.fpLt _ hq).1;omega),jH (fun W hW=>c0K W (h.below hW) (by omega)),jH (fun W=>hpe ▸ j0O id W hid),
   jH (fun W hW=>hri ▸ f0I W (h.below hW) (by omega) hl (by omega) (b0L id) (d0K id)),jH (fun W hW=>d0Z W (h.below hW) i s hs (by omega))⟩
theorem p1L (w:World) (h:a0I B w S c rs rh n wd d) (hB:∀b,w.heap.size≤b→B b) (hc:b0S c rs rh) (hi:h0C c rs rh n wd) (hh:b0V c wd) (ht:(d0D wd).length≤400) (hn:n≤100) (x:b0Z) (hx:x.ok) (h0:f0V x=0) (hk:x.kind=1) :
 Calls Tryz.prog 28 #[.pointer (some ⟨S,0,none⟩),a0S x] w (d0M B w S c rs rh (n+1) (d.fp S) (a0X (doW c rs rh wd x).2) (doW c rs rh wd x).1):=by
 obtain ⟨kind,id,tick,val,handle,⟨p0,p1,p2,p3,p4,p5⟩⟩:=x;dsimp only at hk;subst hk;obtain ⟨i,s,R,pe,hri,hs,hR,hsk,hst,hbd,hl,CK,HST,hB1,HNF,CM,CP,CH,CS⟩:=e0O w h hB hc hi 1 id tick val handle ⟨p0,p1,p2,p3,p4,p5⟩ hx h0;have HB1N:=jH hB1;have hroom:=hc.room;have hkok:=d0K id;obtain ⟨r,hr⟩:∃r,r=doW c rs rh wd ⟨1,id,tick,val,handle,⟨p0,p1,p2,p3,p4,p5⟩⟩:=⟨_,rfl⟩;rw [←hr];have hrr:r=({ wd with st:=wd.st.set i (i0N c rs rh R (b0L id) ⟨0,(tick,val),g0P,b0O⟩).1 },a0R (i0N c rs rh R (b0L id) ⟨0,(tick,val),g0P,b0O⟩).2):=by
  rw [hr];unfold doW;rw [if_neg (by rw [h0];simp)];simp only [show ¬(6:Int)=1 by decide,show ¬(6:Int)=2 by decide,show ¬(6:Int)=3 by decide,show ¬(6:Int)=4 by decide,show ¬(6:Int)=5 by decide,if_true,if_false,u0K hri hR]
 have herr:=(m0J hsk.tells c rs rh s.ver ⟨b0L id,hkok⟩ ⟨0,(tick,val),g0P,b0O⟩ (show ¬(0:Int)<0 by decide) (show (0:Int)≠1 by decide) (show ¬3<(0:Int) by decide)).2;have CI:=jH (fun W (hW:jB w W)=>b1L s.T s.M c s.ver s.es rs rh ⟨b0L id,hkok⟩ ⟨0,(tick,val),g0P,b0O⟩ W ((hsk.at_.below hW)) (hsk.sok hc hn) rfl);have CA:=jH (fun W (hW:jB w W) (h1:w.heap.size+1<W.heap.size) W' es' hat hab hu ho=>(h.avoidX (X:=w.heap.size+1) (Nat.le_succ _) hW).act (w':=W') (hB1 W hW h1) hc hn hs hR ⟨b0L id,hkok⟩ ⟨0,(tick,val),g0P,b0O⟩ (show ¬(0:Int)<0 by decide) (show (0:Int)≠1 by decide) (show ¬3<(0:Int) by decide) (es':=es') hat hab hu ho)
 rw [herr] at CI;dsimp only at herr CI CA;generalize (i0N c rs rh R (b0L id) ⟨0,(tick,val),g0P,b0O⟩).2=er at CI hrr;generalize (i0N c rs rh R (b0L id) ⟨0,(tick,val),g0P,b0O⟩).1=R' at CA hrr;have HRR:=jH hrr;generalize b0L id=k at *;clear h hc hi hh ht hx h0 hri hs hR hsk hr hB hB1 hst hl hroom hbd hrr herr;unfold a0S
 go_enter Tryz.func28,Tryz.ntmps28
 go_wp2_with (first
  | (go_at_call 42
     refine a0B ?_;intro W1 hW1;obtain ⟨HB1,HX0,HX1⟩:=i0J w _ _ W1 hW1;clear hW1;refine (CK.out W1).mono ?_;rintro e w2 ⟨rfl,hb2⟩;obtain ⟨HB2,HX02,HX12⟩:=c0N hb2 HB1 HX0 HX1;clear hb2)
  | (go_at_call 80
     refine (CM.out _ HB2.out).mono ?_;rintro e w3 ⟨rfl,rfl⟩;obtain ⟨b1,b2,b3⟩:=a0A jR HX02.out)
  | (go_at_call 81
     refine (CP.out _).mono ?_;rintro e w4 ⟨rfl,hb4⟩;obtain ⟨HB4,HX04,HX14⟩:=c0N hb4 HB2 HX02 HX12;clear hb4 b1 b2 b3)
  | (go_at_call 30
     refine a0B ?_;intro W5 hW5;have hb5:jB w4 W5:=by rw [hW5];exact a0C jR _
     have HK5:=jH (show W5.heap[w4.heap.size]?=some (.cells #[.int .u64 k.1,.int .u64 k.2] 74 (0,0)) by rw [hW5];exact heap_alloc_new _ _);obtain ⟨HB5,HX05,HX15⟩:=c0N hb5 HB4 HX04 HX14;clear hW5 hb5;refine (CH.out W5 HB5.out).mono ?_;rintro e w6 ⟨rfl,hb6⟩;obtain ⟨HB6,HX06,HX16⟩:=c0N hb6 HB5 HX05 HX15;have HK6:=jH (jK hb6 HK5.out);clear hb6)
  | (go_at_call 32
     refine (CS.out _ HB6.out).mono ?_;rintro e w7 ⟨rfl,rfl⟩;obtain ⟨b1,b2,b3⟩:=a0A jR HX06.out;obtain ⟨k1,k2,k3⟩:=a0A jR HK6.out;clear CS)
  | (go_at_call 82
     have hlt7:=(jL HX16.out);refine (CI.out _ HB6.out).mono ?_;rintro e w8 ⟨es',rfl,hat,hab,hu,ho⟩;obtain ⟨d',hd',hu',_⟩:=CA.out _ HB6.out hlt7 w8 es' hat hab hu ho;have HD:=jH hd';have HU:=jH ((Upd.of_below HB6.out (d.fp S)).trans hu');have HX8:=jH (g0K hu' HNF.out HX16.out);obtain ⟨y1,y2,y3⟩:=a0A jR HX8.out
     (try unfold zR at y1)
     clear hat hab hu ho hd' hu' b1 b2 b3 k1 k2 k3 hlt7))
 refine a0H ?_;intro W9 hW9;have hW9':W9=c0T w8 (w.heap.size+1) 0 (b0E (a0R er)):=hW9;obtain ⟨t1,t2,t3,t4⟩:=a0M HX8.out (b0E (a0R er)) rfl W9 hW9';obtain ⟨a9,a8,a7⟩:=a0A jR t1;clear hW9 hW9';exact bodyPost_ret (v:=a0X (a0R er)) (by simp [results,Tryz.results28,go_sem,a9,a0X,b0E,a0R,st0,b0O]) rfl (by rw [HRR.out];exact d0T (Nat.le_succ _) HD.out HU.out t2 t3 t4)
theorem q1B (w:World) (h:a0I B w S c rs rh n wd d) (hB:∀b,w.heap.size≤b→B b) (hc:b0S c rs rh) (hi:h0C c rs rh n wd) (hh:b0V c wd) (ht:(d0D wd).length≤400) (hn:n≤100) (x:b0Z) (hx:x.ok) (h0:f0V x=0) (hk:x.kind=6) :
 Calls Tryz.prog 28 #[.pointer (some ⟨S,0,none⟩),a0S x] w (d0M B w S c rs rh (n+1) (d.fp S) (a0X (doW c rs rh wd x).2) (doW c rs rh wd x).1):=by
 obtain ⟨kind,id,tick,val,handle,⟨p0,p1,p2,p3,p4,p5⟩⟩:=x;dsimp only at hk;subst hk;obtain ⟨i,s,R,pe,hri,hs,hR,hsk,hst,hbd,hl,CK,HST,hB1,HNF,CM,CP,CH,CS⟩:=e0O w h hB hc hi 6 id tick val handle ⟨p0,p1,p2,p3,p4,p5⟩ hx h0;have HB1N:=jH hB1;have hroom:=hc.room;have hkok:=d0K id;obtain ⟨r,hr⟩:∃r,r=doW c rs rh wd ⟨6,id,tick,val,handle,⟨p0,p1,p2,p3,p4,p5⟩⟩:=⟨_,rfl⟩;rw [←hr];have hrr:r=({ wd with st:=wd.st.set i (i0N c rs rh R (b0L id) ⟨2,(0,0),⟨p0,p1,p2,p3,p4,p5⟩,b0O⟩).1 },a0R (i0N c rs rh R (b0L id) ⟨2,(0,0),⟨p0,p1,p2,p3,p4,p5⟩,b0O⟩).2):=by
  rw [hr];unfold doW;rw [if_neg (by rw [h0];simp)];simp only [show ¬(6:Int)=1 by decide,show ¬(6:Int)=2 by decide,show ¬(6:Int)=3 by decide,show ¬(6:Int)=4 by decide,show ¬(6:Int)=5 by decide,if_true,if_false,u0K hri hR]
 have herr:=(m0J hsk.tells c rs rh s.ver ⟨b0L id,hkok⟩ ⟨2,(0,0),⟨p0,p1,p2,p3,p4,p5⟩,b0O⟩ (show ¬(2:Int)<0 by decide) (show (2:Int)≠1 by decide) (show ¬3<(2:Int) by decide)).2;have CI:=jH (fun W (hW:jB w W)=>p1W s.T s.M c s.ver s.es rs rh ⟨b0L id,hkok⟩ ⟨2,(0,0),⟨p0,p1,p2,p3,p4,p5⟩,b0O⟩ W ((hsk.at_.below hW)) (hsk.sok hc hn) rfl);have CA:=jH (fun W (hW:jB w W) (h1:w.heap.size+1<W.heap.size) W' es' hat hab hu ho=>(h.avoidX (X:=w.heap.size+1) (Nat.le_succ _) hW).act (w':=W') (hB1 W hW h1) hc hn hs hR ⟨b0L id,hkok⟩ ⟨2,(0,0),⟨p0,p1,p2,p3,p4,p5⟩,b0O⟩ (show ¬(2:Int)<0 by decide) (show (2:Int)≠1 by decide) (show ¬3<(2:Int) by decide) (es':=es') hat hab hu ho)
 rw [herr] at CI;unfold d0E at CI;dsimp only at herr CI CA;generalize (i0N c rs rh R (b0L id) ⟨2,(0,0),⟨p0,p1,p2,p3,p4,p5⟩,b0O⟩).2=er at CI hrr;generalize (i0N c rs rh R (b0L id) ⟨2,(0,0),⟨p0,p1,p2,p3,p4,p5⟩,b0O⟩).1=R' at CA hrr;have HRR:=jH hrr;generalize b0L id=k at *;clear h hc hi hh ht hx h0 hri hs hR hsk hr hB hB1 hst hl hroom hbd hrr herr;unfold a0S
 go_enter Tryz.func28,Tryz.ntmps28
 go_wp2_with (first
  | (go_at_call 42
     refine a0B ?_;intro W1 hW1;obtain ⟨HB1,HX0,HX1⟩:=i0J w _ _ W1 hW1;clear hW1;refine (CK.out W1).mono ?_;rintro e w2 ⟨rfl,hb2⟩;obtain ⟨HB2,HX02,HX12⟩:=c0N hb2 HB1 HX0 HX1;clear hb2)
  | (go_at_call 80
     refine (CM.out _ HB2.out).mono ?_;rintro e w3 ⟨rfl,rfl⟩;obtain ⟨b1,b2,b3⟩:=a0A jR HX02.out)
  | (go_at_call 81
     refine (CP.out _).mono ?_;rintro e w4 ⟨rfl,hb4⟩;obtain ⟨HB4,HX04,HX14⟩:=c0N hb4 HB2 HX02 HX12;clear hb4 b1 b2 b3)
  | (go_at_call 30
     refine a0B ?_;intro W5 hW5;have hb5:jB w4 W5:=by rw [hW5];exact a0C jR _
     have HK5:=jH (show W5.heap[w4.heap.size]?=some (.cells #[.int .u64 k.1,.int .u64 k.2] 74 (0,0)) by rw [hW5];exact heap_alloc_new _ _);obtain ⟨HB5,HX05,HX15⟩:=c0N hb5 HB4 HX04 HX14;clear hW5 hb5;refine (CH.out W5 HB5.out).mono ?_;rintro e w6 ⟨rfl,hb6⟩;obtain ⟨HB6,HX06,HX16⟩:=c0N hb6 HB5 HX05 HX15;have HK6:=jH (jK hb6 HK5.out);clear hb6)
  | (go_at_call 32
     refine (CS.out _ HB6.out).mono ?_;rintro e w7 ⟨rfl,rfl⟩;obtain ⟨b1,b2,b3⟩:=a0A jR HX06.out;obtain ⟨k1,k2,k3⟩:=a0A jR HK6.out;clear CS)
  | (go_at_call 86
     have hlt7:=(jL HX16.out);refine (CI.out _ HB6.out).mono ?_;rintro e w8 ⟨es',rfl,hat,hab,hu,ho⟩;obtain ⟨d',hd',hu',_⟩:=CA.out _ HB6.out hlt7 w8 es' hat hab hu ho;have HD:=jH hd';have HU:=jH ((Upd.of_below HB6.out (d.fp S)).trans hu');have HX8:=jH (g0K hu' HNF.out HX16.out);obtain ⟨y1,y2,y3⟩:=a0A jR HX8.out
     (try unfold zR at y1)
     clear hat hab hu ho hd' hu' b1 b2 b3 k1 k2 k3 hlt7))
 refine a0H ?_;intro W9 hW9;have hW9':W9=c0T w8 (w.heap.size+1) 0 (b0E (a0R er)):=hW9;obtain ⟨t1,t2,t3,t4⟩:=a0M HX8.out (b0E (a0R er)) rfl W9 hW9';obtain ⟨a9,a8,a7⟩:=a0A jR t1;clear hW9 hW9';exact bodyPost_ret (v:=a0X (a0R er)) (by simp [results,Tryz.results28,go_sem,a9,a0X,b0E,a0R,st0,b0O]) rfl (by rw [HRR.out];exact d0T (Nat.le_succ _) HD.out HU.out t2 t3 t4)
theorem o1V (w:World) (h:a0I B w S c rs rh n wd d) (hB:∀b,w.heap.size≤b→B b) (hc:b0S c rs rh) (hi:h0C c rs rh n wd) (hh:b0V c wd) (ht:(d0D wd).length≤400) (hn:n≤100) (x:b0Z) (hx:x.ok) (h0:f0V x=0) (hk:x.kind=3) :
 Calls Tryz.prog 28 #[.pointer (some ⟨S,0,none⟩),a0S x] w (d0M B w S c rs rh (n+1) (d.fp S) (a0X (doW c rs rh wd x).2) (doW c rs rh wd x).1):=by
 obtain ⟨kind,id,tick,val,handle,⟨p0,p1,p2,p3,p4,p5⟩⟩:=x;dsimp only at hk;subst hk;obtain ⟨i,s,R,pe,hri,hs,hR,hsk,hst,hbd,hl,CK,HST,hB1,HNF,CM,CP,CH,CS⟩:=e0O w h hB hc hi 3 id tick val handle ⟨p0,p1,p2,p3,p4,p5⟩ hx h0;have HB1N:=jH hB1;have hroom:=hc.room;have hkok:=d0K id;obtain ⟨r,hr⟩:∃r,r=doW c rs rh wd ⟨3,id,tick,val,handle,⟨p0,p1,p2,p3,p4,p5⟩⟩:=⟨_,rfl⟩;rw [←hr];have hrr:r=h0S wd:=by
  rw [hr];unfold doW;rw [if_neg (by rw [h0];simp)];simp only [show ¬(3:Int)=1 by decide,show ¬(3:Int)=2 by decide,if_true,if_false]
 have CI:=jH (fun W (hW:jB w W) (h1:w.heap.size+1<W.heap.size)=>w0G W (h.avoidX (X:=w.heap.size+1) (Nat.le_succ _) hW) (hB1 W hW h1) (by omega) (by omega) hh ht (by omega) (by have:=hi.cuts;omega) ⟨hi.ep.1,by have:=hi.ep.2;omega⟩);rw [←hrr] at CI;obtain ⟨wd',⟨e0,e1,e2,⟨s0,s1,s2,s3,s4⟩,⟨a0,a1,a2,a3,a4⟩⟩⟩:=r;have HRR:=jH (show ((wd',⟨e0,e1,e2,⟨s0,s1,s2,s3,s4⟩,⟨a0,a1,a2,a3,a4⟩⟩):Wd × c1C)=(wd',⟨e0,e1,e2,⟨s0,s1,s2,s3,s4⟩,⟨a0,a1,a2,a3,a4⟩⟩) from rfl)
 unfold a0X b0E at CI;dsimp only at CI;generalize b0L id=k at *;clear h hc hi hh ht hx h0 hri hs hR hsk hr hB hB1 hst hl hroom hbd hrr;unfold a0S
 go_enter Tryz.func28,Tryz.ntmps28
 go_wp2_with (first
  | (go_at_call 42
     refine a0B ?_;intro W1 hW1;obtain ⟨HB1,HX0,HX1⟩:=i0J w _ _ W1 hW1;clear hW1;refine (CK.out W1).mono ?_;rintro e w2 ⟨rfl,hb2⟩;obtain ⟨HB2,HX02,HX12⟩:=c0N hb2 HB1 HX0 HX1;clear hb2)
  | (go_at_call 80
     refine (CM.out _ HB2.out).mono ?_;rintro e w3 ⟨rfl,rfl⟩;obtain ⟨b1,b2,b3⟩:=a0A jR HX02.out)
  | (go_at_call 81
     refine (CP.out _).mono ?_;rintro e w4 ⟨rfl,hb4⟩;obtain ⟨HB4,HX04,HX14⟩:=c0N hb4 HB2 HX02 HX12;clear hb4 b1 b2 b3)
  | (go_at_call 30
     refine a0B ?_;intro W5 hW5;have hb5:jB w4 W5:=by rw [hW5];exact a0C jR _
     have HK5:=jH (show W5.heap[w4.heap.size]?=some (.cells #[.int .u64 k.1,.int .u64 k.2] 74 (0,0)) by rw [hW5];exact heap_alloc_new _ _);obtain ⟨HB5,HX05,HX15⟩:=c0N hb5 HB4 HX04 HX14;clear hW5 hb5;refine (CH.out W5 HB5.out).mono ?_;rintro e w6 ⟨rfl,hb6⟩;obtain ⟨HB6,HX06,HX16⟩:=c0N hb6 HB5 HX05 HX15;have HK6:=jH (jK hb6 HK5.out);clear hb6)
  | (go_at_call 32
     refine (CS.out _ HB6.out).mono ?_;rintro e w7 ⟨rfl,rfl⟩;obtain ⟨b1,b2,b3⟩:=a0A jR HX06.out;obtain ⟨k1,k2,k3⟩:=a0A jR HK6.out;clear CS)
  | (go_at_call 84
     have hlt7:=(jL HX16.out);refine (CI.out _ HB6.out hlt7).mono ?_;rintro e w8 ⟨fp',rfl,⟨d',hd',rfl⟩,hu'⟩;have HD:=jH (hd'.mono (Nat.le_succ n));have HU:=jH ((Upd.of_below HB6.out (d.fp S)).trans hu');have HX8:=jH (g0K hu' HNF.out HX16.out);obtain ⟨y1,y2,y3⟩:=a0A jR HX8.out
     (try unfold zR at y1)
     clear hd' hu' b1 b2 b3 k1 k2 k3 hlt7))
 refine a0H ?_;intro W9 hW9;have hW9':W9=c0T w8 (w.heap.size+1) 0 (b0E ⟨e0,e1,e2,⟨s0,s1,s2,s3,s4⟩,⟨a0,a1,a2,a3,a4⟩⟩):=hW9;obtain ⟨t1,t2,t3,t4⟩:=a0M HX8.out (b0E ⟨e0,e1,e2,⟨s0,s1,s2,s3,s4⟩,⟨a0,a1,a2,a3,a4⟩⟩) rfl W9 hW9';obtain ⟨a9,a8,a7⟩:=a0A jR t1;clear hW9 hW9';exact bodyPost_ret (v:=a0X ⟨e0,e1,e2,⟨s0,s1,s2,s3,s4⟩,⟨a0,a1,a2,a3,a4⟩⟩) (by simp [results,Tryz.results28,go_sem,a9,a0X,b0E,a0R,st0,b0O]) rfl (by exact d0T (Nat.le_succ _) HD.out HU.out t2 t3 t4)
theorem p1R (w:World) (h:a0I B w S c rs rh n wd d) (hB:∀b,w.heap.size≤b→B b) (hc:b0S c rs rh) (hi:h0C c rs rh n wd) (hh:b0V c wd) (ht:(d0D wd).length≤400) (hn:n≤100) (x:b0Z) (hx:x.ok) (h0:f0V x=0) (hk:x.kind=5) :
 Calls Tryz.prog 28 #[.pointer (some ⟨S,0,none⟩),a0S x] w (d0M B w S c rs rh (n+1) (d.fp S) (a0X (doW c rs rh wd x).2) (doW c rs rh wd x).1):=by
 obtain ⟨kind,id,tick,val,handle,⟨p0,p1,p2,p3,p4,p5⟩⟩:=x;dsimp only at hk;subst hk;obtain ⟨i,s,R,pe,hri,hs,hR,hsk,hst,hbd,hl,CK,HST,hB1,HNF,CM,CP,CH,CS⟩:=e0O w h hB hc hi 5 id tick val handle ⟨p0,p1,p2,p3,p4,p5⟩ hx h0;have HB1N:=jH hB1;have hroom:=hc.room;have hkok:=d0K id;obtain ⟨r,hr⟩:∃r,r=doW c rs rh wd ⟨5,id,tick,val,handle,⟨p0,p1,p2,p3,p4,p5⟩⟩:=⟨_,rfl⟩;rw [←hr];have hrr:r=(wd,w0Z wd ⟨5,id,tick,val,handle,⟨p0,p1,p2,p3,p4,p5⟩⟩):=by
  rw [hr];unfold doW;rw [if_neg (by rw [h0];simp)];simp only [show ¬(5:Int)=1 by decide,show ¬(5:Int)=2 by decide,show ¬(5:Int)=3 by decide,show ¬(5:Int)=4 by decide,if_true,if_false]
 have CI:=jH (fun W (hW:jB w W)=>w0L W (h.below hW) (by omega) (by have:=hi.cuts;omega) (fun q hq=>(hi.cep q hq).1) (fun q hq p hp=>((hi.cit q hq).2 p hp).smp) hroom.r2 handle (b0L id) tick val hx.2.2.1 hx.2.2.2.1);obtain ⟨rp,hrp⟩:∃rp,rp=d1V wd handle (b0L id) tick val:=⟨_,rfl⟩;rw [←hrp] at CI;have hrr2:r=(wd,rp):=by rw [hrr,hrp];rfl
 obtain ⟨e0,e1,e2,⟨s0,s1,s2,s3,s4⟩,⟨a0,a1,a2,a3,a4⟩⟩:=rp;have HRR:=jH hrr2;have HSTN:=jH (fun W (hW:jB w W)=>(h.avoidX (X:=w.heap.size+1) (Nat.le_succ _) hW).mono (Nat.le_succ n));unfold a0X b0E at CI;dsimp only at CI;generalize b0L id=k at *;clear h hc hi hh ht hx h0 hri hs hR hsk hr hB hB1 hst hl hroom hbd hrr hrr2 hrp;unfold a0S
 go_enter Tryz.func28,Tryz.ntmps28
 go_wp2_with (first
  | (go_at_call 42
     refine a0B ?_;intro W1 hW1;obtain ⟨HB1,HX0,HX1⟩:=i0J w _ _ W1 hW1;clear hW1;refine (CK.out W1).mono ?_;rintro e w2 ⟨rfl,hb2⟩;obtain ⟨HB2,HX02,HX12⟩:=c0N hb2 HB1 HX0 HX1;clear hb2)
  | (go_at_call 80
     refine (CM.out _ HB2.out).mono ?_;rintro e w3 ⟨rfl,rfl⟩;obtain ⟨b1,b2,b3⟩:=a0A jR HX02.out)
  | (go_at_call 81
     refine (CP.out _).mono ?_;rintro e w4 ⟨rfl,hb4⟩;obtain ⟨HB4,HX04,HX14⟩:=c0N hb4 HB2 HX02 HX12;clear hb4 b1 b2 b3)
  | (go_at_call 30
     refine a0B ?_;intro W5 hW5;have hb5:jB w4 W5:=by rw [hW5];exact a0C jR _
     have HK5:=jH (show W5.heap[w4.heap.size]?=some (.cells #[.int .u64 k.1,.int .u64 k.2] 74 (0,0)) by rw [hW5];exact heap_alloc_new _ _);obtain ⟨HB5,HX05,HX15⟩:=c0N hb5 HB4 HX04 HX14;clear hW5 hb5;refine (CH.out W5 HB5.out).mono ?_;rintro e w6 ⟨rfl,hb6⟩;obtain ⟨HB6,HX06,HX16⟩:=c0N hb6 HB5 HX05 HX15;have HK6:=jH (jK hb6 HK5.out);clear hb6)
  | (go_at_call 32
     refine (CS.out _ HB6.out).mono ?_;rintro e w7 ⟨rfl,rfl⟩;obtain ⟨b1,b2,b3⟩:=a0A jR HX06.out;obtain ⟨k1,k2,k3⟩:=a0A jR HK6.out;clear CS)
  | (go_at_call 85
     refine (CI.out _ HB6.out).mono ?_;rintro e w8 ⟨rfl,hb8⟩;have HD:=jH (HSTN.out _ (a0D HB6.out hb8));have HU:=jH (Upd.of_below (a0D HB6.out hb8) (d.fp S));have HX8:=jH (jK hb8 HX16.out);obtain ⟨y1,y2,y3⟩:=a0A jR HX8.out
     (try unfold zR at y1)
     clear hb8 b1 b2 b3 k1 k2 k3))
 refine a0H ?_;intro W9 hW9;have hW9':W9=c0T w8 (w.heap.size+1) 0 (b0E ⟨e0,e1,e2,⟨s0,s1,s2,s3,s4⟩,⟨a0,a1,a2,a3,a4⟩⟩):=hW9;obtain ⟨t1,t2,t3,t4⟩:=a0M HX8.out (b0E ⟨e0,e1,e2,⟨s0,s1,s2,s3,s4⟩,⟨a0,a1,a2,a3,a4⟩⟩) rfl W9 hW9';obtain ⟨a9,a8,a7⟩:=a0A jR t1;clear hW9 hW9';exact bodyPost_ret (v:=a0X ⟨e0,e1,e2,⟨s0,s1,s2,s3,s4⟩,⟨a0,a1,a2,a3,a4⟩⟩) (by simp [results,Tryz.results28,go_sem,a9,a0X,b0E,a0R,st0,b0O]) rfl (by rw [HRR.out];exact d0T (Nat.le_succ _) HD.out HU.out t2 t3 t4)
theorem p1X (w:World) (h:a0I B w S c rs rh n wd d) (hB:∀b,w.heap.size≤b→B b) (hc:b0S c rs rh) (hi:h0C c rs rh n wd) (hh:b0V c wd) (ht:(d0D wd).length≤400) (hn:n≤100) (x:b0Z) (hx:x.ok) (h0:f0V x=0) (hk:x.kind=7) :
 Calls Tryz.prog 28 #[.pointer (some ⟨S,0,none⟩),a0S x] w (d0M B w S c rs rh (n+1) (d.fp S) (a0X (doW c rs rh wd x).2) (doW c rs rh wd x).1):=by
 obtain ⟨kind,id,tick,val,handle,⟨p0,p1,p2,p3,p4,p5⟩⟩:=x;dsimp only at hk;subst hk;obtain ⟨i,s,R,pe,hri,hs,hR,hsk,hst,hbd,hl,CK,HST,hB1,HNF,CM,CP,CH,CS⟩:=e0O w h hB hc hi 7 id tick val handle ⟨p0,p1,p2,p3,p4,p5⟩ hx h0;have HB1N:=jH hB1;have hroom:=hc.room;have hkok:=d0K id;obtain ⟨r,hr⟩:∃r,r=doW c rs rh wd ⟨7,id,tick,val,handle,⟨p0,p1,p2,p3,p4,p5⟩⟩:=⟨_,rfl⟩;rw [←hr];have hrr:r=(wd,n1A wd id):=by
  rw [hr];unfold doW;rw [if_neg (by rw [h0];simp)];simp only [show ¬(7:Int)=1 by decide,show ¬(7:Int)=2 by decide,show ¬(7:Int)=3 by decide,show ¬(7:Int)=4 by decide,show ¬(7:Int)=5 by decide,show ¬(7:Int)=6 by decide,if_true,if_false]
 have CI:=jH (fun W (hW:jB w W)=>x0J W (h.below hW) hl hst hh hroom.h2 (b0L id) hkok);obtain ⟨rp,hrp⟩:∃rp,rp=i1P wd (b0L id):=⟨_,rfl⟩;rw [←hrp] at CI;have hrr2:r=(wd,rp):=by rw [hrr,hrp];rfl
 obtain ⟨e0,e1,e2,⟨s0,s1,s2,s3,s4⟩,⟨a0,a1,a2,a3,a4⟩⟩:=rp;have HRR:=jH hrr2;have HSTN:=jH (fun W (hW:jB w W)=>(h.avoidX (X:=w.heap.size+1) (Nat.le_succ _) hW).mono (Nat.le_succ n));unfold a0X b0E at CI;dsimp only at CI;generalize b0L id=k at *;clear h hc hi hh ht hx h0 hri hs hR hsk hr hB hB1 hst hl hroom hbd hrr hrr2 hrp;unfold a0S
 go_enter Tryz.func28,Tryz.ntmps28
 go_wp2_with (first
  | (go_at_call 42
     refine a0B ?_;intro W1 hW1;obtain ⟨HB1,HX0,HX1⟩:=i0J w _ _ W1 hW1;clear hW1;refine (CK.out W1).mono ?_;rintro e w2 ⟨rfl,hb2⟩;obtain ⟨HB2,HX02,HX12⟩:=c0N hb2 HB1 HX0 HX1;clear hb2)
  | (go_at_call 80
     refine (CM.out _ HB2.out).mono ?_;rintro e w3 ⟨rfl,rfl⟩;obtain ⟨b1,b2,b3⟩:=a0A jR HX02.out)
  | (go_at_call 81
     refine (CP.out _).mono ?_;rintro e w4 ⟨rfl,hb4⟩;obtain ⟨HB4,HX04,HX14⟩:=c0N hb4 HB2 HX02 HX12;clear hb4 b1 b2 b3)
  | (go_at_call 30
     refine a0B ?_;intro W5 hW5;have hb5:jB w4 W5:=by rw [hW5];exact a0C jR _
     have HK5:=jH (show W5.heap[w4.heap.size]?=some (.cells #[.int .u64 k.1,.int .u64 k.2] 74 (0,0)) by rw [hW5];exact heap_alloc_new _ _);obtain ⟨HB5,HX05,HX15⟩:=c0N hb5 HB4 HX04 HX14;clear hW5 hb5;refine (CH.out W5 HB5.out).mono ?_;rintro e w6 ⟨rfl,hb6⟩;obtain ⟨HB6,HX06,HX16⟩:=c0N hb6 HB5 HX05 HX15;have HK6:=jH (jK hb6 HK5.out);clear hb6)
  | (go_at_call 32
     refine (CS.out _ HB6.out).mono ?_;rintro e w7 ⟨rfl,rfl⟩;obtain ⟨b1,b2,b3⟩:=a0A jR HX06.out;obtain ⟨k1,k2,k3⟩:=a0A jR HK6.out;clear CS)
  | (go_at_call 87
     refine (CI.out _ HB6.out).mono ?_;rintro e w8 ⟨rfl,hb8⟩;have HD:=jH (HSTN.out _ (a0D HB6.out hb8));have HU:=jH (Upd.of_below (a0D HB6.out hb8) (d.fp S));have HX8:=jH (jK hb8 HX16.out);obtain ⟨y1,y2,y3⟩:=a0A jR HX8.out
     (try unfold zR at y1)
     clear hb8 b1 b2 b3 k1 k2 k3))
 refine a0H ?_;intro W9 hW9;have hW9':W9=c0T w8 (w.heap.size+1) 0 (b0E ⟨e0,e1,e2,⟨s0,s1,s2,s3,s4⟩,⟨a0,a1,a2,a3,a4⟩⟩):=hW9;obtain ⟨t1,t2,t3,t4⟩:=a0M HX8.out (b0E ⟨e0,e1,e2,⟨s0,s1,s2,s3,s4⟩,⟨a0,a1,a2,a3,a4⟩⟩) rfl W9 hW9';obtain ⟨a9,a8,a7⟩:=a0A jR t1;clear hW9 hW9';exact bodyPost_ret (v:=a0X ⟨e0,e1,e2,⟨s0,s1,s2,s3,s4⟩,⟨a0,a1,a2,a3,a4⟩⟩) (by simp [results,Tryz.results28,go_sem,a9,a0X,b0E,a0R,st0,b0O]) rfl (by rw [HRR.out];exact d0T (Nat.le_succ _) HD.out HU.out t2 t3 t4)
theorem k1P (w:World) (h:a0I B w S c rs rh n wd d) (hB:∀b,w.heap.size≤b→B b) (hc:b0S c rs rh) (hi:h0C c rs rh n wd) (hh:b0V c wd) (ht:(d0D wd).length≤400) (hn:n≤100) (x:b0Z) (hx:x.ok) (h0:f0V x=0) (hk:x.kind=4) (hf:b0U (c0I wd) x.handle≠0) :
 Calls Tryz.prog 28 #[.pointer (some ⟨S,0,none⟩),a0S x] w (d0M B w S c rs rh (n+1) (d.fp S) (a0X (doW c rs rh wd x).2) (doW c rs rh wd x).1):=by
 obtain ⟨kind,id,tick,val,handle,⟨p0,p1,p2,p3,p4,p5⟩⟩:=x;dsimp only at hk hf;subst hk;obtain ⟨i,s,R,pe,hri,hs,hR,hsk,hst,hbd,hl,CK,HST,hB1,HNF,CM,CP,CH,CS⟩:=e0O w h hB hc hi 4 id tick val handle ⟨p0,p1,p2,p3,p4,p5⟩ hx h0;have HB1N:=jH hB1;have hroom:=hc.room;have hkok:=d0K id;obtain ⟨r,hr⟩:∃r,r=doW c rs rh wd ⟨4,id,tick,val,handle,⟨p0,p1,p2,p3,p4,p5⟩⟩:=⟨_,rfl⟩;rw [←hr];have hrr:r=l0D wd handle:=by
  rw [hr];unfold doW;rw [if_neg (by rw [h0];simp)];simp only [show ¬(4:Int)=1 by decide,show ¬(4:Int)=2 by decide,show ¬(4:Int)=3 by decide,if_true,if_false]
 have CI:=jH (fun W (hW:jB w W)=>x0C W (h.below hW) (by omega) (by have:=hi.cuts;omega) (fun q hq=>(hi.cep q hq).1) handle hf);have HSTN:=jH (fun W (hW:jB w W)=>(h.avoidX (X:=w.heap.size+1) (Nat.le_succ _) hW).mono (Nat.le_succ n));have hrr2:r=(wd,a0R (b0U (c0I wd) handle)):=by rw [hrr];unfold l0D;rw [if_pos hf]
 generalize b0U (c0I wd) handle=er at *;have HRR:=jH hrr2;generalize b0L id=k at *;clear h hc hi hh ht hx h0 hri hs hR hsk hr hB hB1 hst hl hroom hbd hrr hrr2 hf;unfold a0S
 go_enter Tryz.func28,Tryz.ntmps28
 go_wp2_with (first
  | (go_at_call 42
     refine a0B ?_;intro W1 hW1;obtain ⟨HB1,HX0,HX1⟩:=i0J w _ _ W1 hW1;clear hW1;refine (CK.out W1).mono ?_;rintro e w2 ⟨rfl,hb2⟩;obtain ⟨HB2,HX02,HX12⟩:=c0N hb2 HB1 HX0 HX1;clear hb2)
  | (go_at_call 80
     refine (CM.out _ HB2.out).mono ?_;rintro e w3 ⟨rfl,rfl⟩;obtain ⟨b1,b2,b3⟩:=a0A jR HX02.out)
  | (go_at_call 81
     refine (CP.out _).mono ?_;rintro e w4 ⟨rfl,hb4⟩;obtain ⟨HB4,HX04,HX14⟩:=c0N hb4 HB2 HX02 HX12;clear hb4 b1 b2 b3)
  | (go_at_call 30
     refine a0B ?_;intro W5 hW5;have hb5:jB w4 W5:=by rw [hW5];exact a0C jR _
     have HK5:=jH (show W5.heap[w4.heap.size]?=some (.cells #[.int .u64 k.1,.int .u64 k.2] 74 (0,0)) by rw [hW5];exact heap_alloc_new _ _);obtain ⟨HB5,HX05,HX15⟩:=c0N hb5 HB4 HX04 HX14;clear hW5 hb5;refine (CH.out W5 HB5.out).mono ?_;rintro e w6 ⟨rfl,hb6⟩;obtain ⟨HB6,HX06,HX16⟩:=c0N hb6 HB5 HX05 HX15;have HK6:=jH (jK hb6 HK5.out);clear hb6)
  | (go_at_call 32
     refine (CS.out _ HB6.out).mono ?_;rintro e w7 ⟨rfl,rfl⟩;obtain ⟨b1,b2,b3⟩:=a0A jR HX06.out;obtain ⟨k1,k2,k3⟩:=a0A jR HK6.out;clear CS)
  | (go_at_call 36
     refine (CI.out _ HB6.out).mono ?_;rintro e w8 ⟨rfl,rfl⟩;have HD:=jH (HSTN.out _ HB6.out);have HU:=jH (Upd.of_below HB6.out (d.fp S));have HX8:=jH HX16.out;obtain ⟨y1,y2,y3⟩:=a0A jR HX8.out
     (try unfold zR at y1)
     clear b1 b2 b3 k1 k2 k3))
 refine a0H ?_;intro W9 hW9;have hW9':W9=c0T w8 (w.heap.size+1) 0 (b0E (a0R er)):=hW9;obtain ⟨t1,t2,t3,t4⟩:=a0M HX8.out (b0E (a0R er)) rfl W9 hW9';obtain ⟨a9,a8,a7⟩:=a0A jR t1;clear hW9 hW9';exact bodyPost_ret (v:=a0X (a0R er)) (by simp [results,Tryz.results28,go_sem,a9,a0X,b0E,a0R,st0,b0O]) rfl (by rw [HRR.out];exact d0T (Nat.le_succ _) HD.out HU.out t2 t3 t4)
theorem o1O (w:World) (h:a0I B w S c rs rh n wd d) (hB:∀b,w.heap.size≤b→B b) (hc:b0S c rs rh) (hi:h0C c rs rh n wd) (hh:b0V c wd) (ht:(d0D wd).length≤400) (hn:n≤100) (x:b0Z) (hx:x.ok) (h0:f0V x=0) (hk:x.kind=4) (hf:b0U (c0I wd) x.handle=0) :
 Calls Tryz.prog 28 #[.pointer (some ⟨S,0,none⟩),a0S x] w (d0M B w S c rs rh (n+1) (d.fp S) (a0X (doW c rs rh wd x).2) (doW c rs rh wd x).1):=by
 obtain ⟨kind,id,tick,val,handle,⟨p0,p1,p2,p3,p4,p5⟩⟩:=x;dsimp only at hk hf;subst hk;obtain ⟨i,s,R,pe,hri,hs,hR,hsk,hst,hbd,hl,CK,HST,hB1,HNF,CM,CP,CH,CS⟩:=e0O w h hB hc hi 4 id tick val handle ⟨p0,p1,p2,p3,p4,p5⟩ hx h0;have HB1N:=jH hB1;have hroom:=hc.room;have hkok:=d0K id;obtain ⟨r,hr⟩:∃r,r=doW c rs rh wd ⟨4,id,tick,val,handle,⟨p0,p1,p2,p3,p4,p5⟩⟩:=⟨_,rfl⟩;rw [←hr];have hrr:r=l0D wd handle:=by
  rw [hr];unfold doW;rw [if_neg (by rw [h0];simp)];simp only [show ¬(4:Int)=1 by decide,show ¬(4:Int)=2 by decide,show ¬(4:Int)=3 by decide,if_true,if_false]
 obtain ⟨j,hj,rfl⟩:∃j:Nat,j<wd.cuts.length∧handle=((j+1:Nat):Int):=by
  have htl:(c0I wd).length=wd.cuts.length:=by simp [c0I]
  have h1:¬(handle<1∨((c0I wd).length:Nat)<handle):=fun h9=>by rw [h0H h9] at hf;cases hf
  exact ⟨handle.toNat - 1,by omega,by omega⟩
 have hcl:wd.cuts.length≤900000:=by have:=hi.cuts;omega
 have CI:=jH (fun W (hW:jB w W)=>a1G W (h.avoidX (X:=w.heap.size+1) (Nat.le_succ _) hW) (by omega) hcl (fun q hq=>(hi.cep q hq).1) j hj hf);have CF:=jH (fun W (hW:jB w W) o ho=>((h.avoidX (X:=w.heap.size+1) (Nat.le_succ _) hW).mono (Nat.le_succ n)).free (o:=o) hcl (fun q hq=>(hi.cep q hq).1) j hj hf ho);have hrr2:r=({ wd with cuts:=wd.cuts.set j ⟨0,[],true⟩ },a0R 0):=by
  rw [hrr];unfold l0D;rw [if_neg (by rw [hf];simp),show ((j+1:Nat):Int).toNat - 1=j by omega]
 generalize ((j+1:Nat):Int)=handle at *;have HRR:=jH hrr2;generalize b0L id=k at *;clear h hc hi hh ht hx h0 hri hs hR hsk hr hB hB1 hst hl hroom hbd hrr hrr2 hf hj hcl;unfold a0S
 go_enter Tryz.func28,Tryz.ntmps28
 go_wp2_with (first
  | (go_at_call 42
     refine a0B ?_;intro W1 hW1;obtain ⟨HB1,HX0,HX1⟩:=i0J w _ _ W1 hW1;clear hW1;refine (CK.out W1).mono ?_;rintro e w2 ⟨rfl,hb2⟩;obtain ⟨HB2,HX02,HX12⟩:=c0N hb2 HB1 HX0 HX1;clear hb2)
  | (go_at_call 80
     refine (CM.out _ HB2.out).mono ?_;rintro e w3 ⟨rfl,rfl⟩;obtain ⟨b1,b2,b3⟩:=a0A jR HX02.out)
  | (go_at_call 81
     refine (CP.out _).mono ?_;rintro e w4 ⟨rfl,hb4⟩;obtain ⟨HB4,HX04,HX14⟩:=c0N hb4 HB2 HX02 HX12;clear hb4 b1 b2 b3)
  | (go_at_call 30
     refine a0B ?_;intro W5 hW5;have hb5:jB w4 W5:=by rw [hW5];exact a0C jR _
     have HK5:=jH (show W5.heap[w4.heap.size]?=some (.cells #[.int .u64 k.1,.int .u64 k.2] 74 (0,0)) by rw [hW5];exact heap_alloc_new _ _);obtain ⟨HB5,HX05,HX15⟩:=c0N hb5 HB4 HX04 HX14;clear hW5 hb5;refine (CH.out W5 HB5.out).mono ?_;rintro e w6 ⟨rfl,hb6⟩;obtain ⟨HB6,HX06,HX16⟩:=c0N hb6 HB5 HX05 HX15;have HK6:=jH (jK hb6 HK5.out);clear hb6)
  | (go_at_call 32
     refine (CS.out _ HB6.out).mono ?_;rintro e w7 ⟨rfl,rfl⟩;obtain ⟨b1,b2,b3⟩:=a0A jR HX06.out;obtain ⟨k1,k2,k3⟩:=a0A jR HK6.out;clear CS)
  | (go_at_call 36
     refine (CI.out _ HB6.out).mono ?_;rintro e w8 ⟨rfl,o,hw8,ho⟩;rw [hw8] at ho;have hfr:=CF.out _ HB6.out o ho;rw [←hw8] at hfr;have HD:=jH hfr.1;have HU:=jH ((Upd.of_below HB6.out (d.fp S)).trans hfr.2);have HX8:=jH (g0K hfr.2 HNF.out HX16.out);obtain ⟨y1,y2,y3⟩:=a0A jR HX8.out
     (try unfold zR at y1)
     clear hfr ho hw8 b1 b2 b3 k1 k2 k3))
 refine a0H ?_;intro W9 hW9;have hW9':W9=c0T w8 (w.heap.size+1) 0 (b0E (a0R 0)):=hW9;obtain ⟨t1,t2,t3,t4⟩:=a0M HX8.out (b0E (a0R 0)) rfl W9 hW9';obtain ⟨a9,a8,a7⟩:=a0A jR t1;clear hW9 hW9';exact bodyPost_ret (v:=a0X (a0R 0)) (by simp [results,Tryz.results28,go_sem,a9,a0X,b0E,a0R,st0,b0O]) rfl (by rw [HRR.out];exact d0T (Nat.le_succ _) HD.out HU.out t2 t3 t4)
theorem j1P (w:World) (h:a0I B w S c rs rh n wd d) (hB:∀b,w.heap.size≤b→B b) (hc:b0S c rs rh) (hi:h0C c rs rh n wd) (hh:b0V c wd) (ht:(d0D wd).length≤400) (hn:n≤100) (x:b0Z) (hx:x.ok) (h0:f0V x=0) (hk:x.kind=8) (hf:wd.over=true) :
 Calls Tryz.prog 28 #[.pointer (some ⟨S,0,none⟩),a0S x] w (d0M B w S c rs rh (n+1) (d.fp S) (a0X (doW c rs rh wd x).2) (doW c rs rh wd x).1):=by
 obtain ⟨kind,id,tick,val,handle,⟨p0,p1,p2,p3,p4,p5⟩⟩:=x;dsimp only at hk;subst hk;obtain ⟨i,s,R,pe,hri,hs,hR,hsk,hst,hbd,hl,CK,HST,hB1,HNF,CM,CP,CH,CS⟩:=e0O w h hB hc hi 8 id tick val handle ⟨p0,p1,p2,p3,p4,p5⟩ hx h0;have HB1N:=jH hB1;have hroom:=hc.room;have hkok:=d0K id;obtain ⟨r,hr⟩:∃r,r=doW c rs rh wd ⟨8,id,tick,val,handle,⟨p0,p1,p2,p3,p4,p5⟩⟩:=⟨_,rfl⟩;rw [←hr];have hrr:r=(wd,a0R 9):=by
  rw [hr];unfold doW;rw [if_neg (by rw [h0];simp)];simp only [show ¬(8:Int)=1 by decide,show ¬(8:Int)=2 by decide,show ¬(8:Int)=3 by decide,show ¬(8:Int)=4 by decide,show ¬(8:Int)=5 by decide,show ¬(8:Int)=6 by decide,show ¬(8:Int)=7 by decide,if_true,if_false,hf]
 have CI:=jH (fun W (hW:jB w W)=>s0H W (h.below hW) (by omega) hf);have HSTN:=jH (fun W (hW:jB w W)=>(h.avoidX (X:=w.heap.size+1) (Nat.le_succ _) hW).mono (Nat.le_succ n));have HRR:=jH hrr;generalize b0L id=k at *;clear h hc hi hh ht hx h0 hri hs hR hsk hr hB hB1 hst hl hroom hbd hrr hf;unfold a0S
 go_enter Tryz.func28,Tryz.ntmps28
 go_wp2_with (first
  | (go_at_call 42
     refine a0B ?_;intro W1 hW1;obtain ⟨HB1,HX0,HX1⟩:=i0J w _ _ W1 hW1;clear hW1;refine (CK.out W1).mono ?_;rintro e w2 ⟨rfl,hb2⟩;obtain ⟨HB2,HX02,HX12⟩:=c0N hb2 HB1 HX0 HX1;clear hb2)
  | (go_at_call 80
     refine (CM.out _ HB2.out).mono ?_;rintro e w3 ⟨rfl,rfl⟩;obtain ⟨b1,b2,b3⟩:=a0A jR HX02.out)
  | (go_at_call 81
     refine (CP.out _).mono ?_;rintro e w4 ⟨rfl,hb4⟩;obtain ⟨HB4,HX04,HX14⟩:=c0N hb4 HB2 HX02 HX12;clear hb4 b1 b2 b3)
  | (go_at_call 30
     refine a0B ?_;intro W5 hW5;have hb5:jB w4 W5:=by rw [hW5];exact a0C jR _
     have HK5:=jH (show W5.heap[w4.heap.size]?=some (.cells #[.int .u64 k.1,.int .u64 k.2] 74 (0,0)) by rw [hW5];exact heap_alloc_new _ _);obtain ⟨HB5,HX05,HX15⟩:=c0N hb5 HB4 HX04 HX14;clear hW5 hb5;refine (CH.out W5 HB5.out).mono ?_;rintro e w6 ⟨rfl,hb6⟩;obtain ⟨HB6,HX06,HX16⟩:=c0N hb6 HB5 HX05 HX15;have HK6:=jH (jK hb6 HK5.out);clear hb6)
  | (go_at_call 32
     refine (CS.out _ HB6.out).mono ?_;rintro e w7 ⟨rfl,rfl⟩;obtain ⟨b1,b2,b3⟩:=a0A jR HX06.out;obtain ⟨k1,k2,k3⟩:=a0A jR HK6.out;clear CS)
  | (go_at_call 37
     refine (CI.out _ HB6.out).mono ?_;rintro e w8 ⟨rfl,rfl⟩;have HD:=jH (HSTN.out _ HB6.out);have HU:=jH (Upd.of_below HB6.out (d.fp S));have HX8:=jH HX16.out;obtain ⟨y1,y2,y3⟩:=a0A jR HX8.out
     (try unfold zR at y1)
     clear b1 b2 b3 k1 k2 k3))
 refine a0H ?_;intro W9 hW9;have hW9':W9=c0T w8 (w.heap.size+1) 0 (b0E (a0R 9)):=hW9;obtain ⟨t1,t2,t3,t4⟩:=a0M HX8.out (b0E (a0R 9)) rfl W9 hW9';obtain ⟨a9,a8,a7⟩:=a0A jR t1;clear hW9 hW9';exact bodyPost_ret (v:=a0X (a0R 9)) (by simp [results,Tryz.results28,go_sem,a9,a0X,b0E,a0R,st0,b0O]) rfl (by rw [HRR.out];exact d0T (Nat.le_succ _) HD.out HU.out t2 t3 t4)
theorem p1K (w:World) (h:a0I B w S c rs rh n wd d) (hB:∀b,w.heap.size≤b→B b) (hc:b0S c rs rh) (hi:h0C c rs rh n wd) (hh:b0V c wd) (ht:(d0D wd).length≤400) (hn:n≤100) (x:b0Z) (hx:x.ok) (h0:f0V x=0) (hk:x.kind=8) (hf:wd.over=false) :
 Calls Tryz.prog 28 #[.pointer (some ⟨S,0,none⟩),a0S x] w (d0M B w S c rs rh (n+1) (d.fp S) (a0X (doW c rs rh wd x).2) (doW c rs rh wd x).1):=by
 obtain ⟨kind,id,tick,val,handle,⟨p0,p1,p2,p3,p4,p5⟩⟩:=x;dsimp only at hk;subst hk;obtain ⟨i,s,R,pe,hri,hs,hR,hsk,hst,hbd,hl,CK,HST,hB1,HNF,CM,CP,CH,CS⟩:=e0O w h hB hc hi 8 id tick val handle ⟨p0,p1,p2,p3,p4,p5⟩ hx h0;have HB1N:=jH hB1;have hroom:=hc.room;have hkok:=d0K id;obtain ⟨r,hr⟩:∃r,r=doW c rs rh wd ⟨8,id,tick,val,handle,⟨p0,p1,p2,p3,p4,p5⟩⟩:=⟨_,rfl⟩;rw [←hr];have hrr:r=({ wd with over:=true },a0R 0):=by
  rw [hr];unfold doW;rw [if_neg (by rw [h0];simp)];simp only [show ¬(8:Int)=1 by decide,show ¬(8:Int)=2 by decide,show ¬(8:Int)=3 by decide,show ¬(8:Int)=4 by decide,show ¬(8:Int)=5 by decide,show ¬(8:Int)=6 by decide,show ¬(8:Int)=7 by decide,if_true,if_false,hf,Bool.false_eq_true]
 have CI:=jH (fun W (hW:jB w W)=>d1C W ((h.avoidX (X:=w.heap.size+1) (Nat.le_succ _) hW).mono (Nat.le_succ n)) (by omega) hf);have HRR:=jH hrr;generalize b0L id=k at *;clear h hc hi hh ht hx h0 hri hs hR hsk hr hB hB1 hst hl hroom hbd hrr hf;unfold a0S
 go_enter Tryz.func28,Tryz.ntmps28
 go_wp2_with (first
  | (go_at_call 42
     refine a0B ?_;intro W1 hW1;obtain ⟨HB1,HX0,HX1⟩:=i0J w _ _ W1 hW1;clear hW1;refine (CK.out W1).mono ?_;rintro e w2 ⟨rfl,hb2⟩;obtain ⟨HB2,HX02,HX12⟩:=c0N hb2 HB1 HX0 HX1;clear hb2)
  | (go_at_call 80
     refine (CM.out _ HB2.out).mono ?_;rintro e w3 ⟨rfl,rfl⟩;obtain ⟨b1,b2,b3⟩:=a0A jR HX02.out)
  | (go_at_call 81
     refine (CP.out _).mono ?_;rintro e w4 ⟨rfl,hb4⟩;obtain ⟨HB4,HX04,HX14⟩:=c0N hb4 HB2 HX02 HX12;clear hb4 b1 b2 b3)
  | (go_at_call 30
     refine a0B ?_;intro W5 hW5;have hb5:jB w4 W5:=by rw [hW5];exact a0C jR _
     have HK5:=jH (show W5.heap[w4.heap.size]?=some (.cells #[.int .u64 k.1,.int .u64 k.2] 74 (0,0)) by rw [hW5];exact heap_alloc_new _ _);obtain ⟨HB5,HX05,HX15⟩:=c0N hb5 HB4 HX04 HX14;clear hW5 hb5;refine (CH.out W5 HB5.out).mono ?_;rintro e w6 ⟨rfl,hb6⟩;obtain ⟨HB6,HX06,HX16⟩:=c0N hb6 HB5 HX05 HX15;have HK6:=jH (jK hb6 HK5.out);clear hb6)
  | (go_at_call 32
     refine (CS.out _ HB6.out).mono ?_;rintro e w7 ⟨rfl,rfl⟩;obtain ⟨b1,b2,b3⟩:=a0A jR HX06.out;obtain ⟨k1,k2,k3⟩:=a0A jR HK6.out;clear CS)
  | (go_at_call 37
     refine (CI.out _ HB6.out).mono ?_;rintro e w8 ⟨rfl,hd',hu'⟩;have HD:=jH hd';have HU:=jH ((Upd.of_below HB6.out (d.fp S)).trans hu');have HX8:=jH (g0K hu' HNF.out HX16.out);obtain ⟨y1,y2,y3⟩:=a0A jR HX8.out
     (try unfold zR at y1)
     clear hd' hu' b1 b2 b3 k1 k2 k3))
 refine a0H ?_;intro W9 hW9;have hW9':W9=c0T w8 (w.heap.size+1) 0 (b0E (a0R 0)):=hW9;obtain ⟨t1,t2,t3,t4⟩:=a0M HX8.out (b0E (a0R 0)) rfl W9 hW9';obtain ⟨a9,a8,a7⟩:=a0A jR t1;clear hW9 hW9';exact bodyPost_ret (v:=a0X (a0R 0)) (by simp [results,Tryz.results28,go_sem,a9,a0X,b0E,a0R,st0,b0O]) rfl (by rw [HRR.out];exact d0T (Nat.le_succ _) HD.out HU.out t2 t3 t4)
end
end
section
section
variable {B:Nat→Prop} {S:Nat} {c:Cfg} {rs rh n:Nat} {wd:Wd} {d:d0Y}
theorem o1W (w:World) (h:a0I B w S c rs rh n wd d) (hB:∀b,w.heap.size≤b→B b) (hc:b0S c rs rh) (hi:h0C c rs rh n wd) (hh:b0V c wd) (ht:(d0D wd).length≤400) (hn:n≤100) (x:b0Z) (hx:x.ok) (h0:f0V x=0) (hk:x.kind=2) :
 Calls Tryz.prog 28 #[.pointer (some ⟨S,0,none⟩),a0S x] w (d0M B w S c rs rh (n+1) (d.fp S) (a0X (doW c rs rh wd x).2) (doW c rs rh wd x).1):=by
 obtain ⟨kind,id,tick,val,handle,⟨p0,p1,p2,p3,p4,p5⟩⟩:=x;dsimp only at hk;subst hk;obtain ⟨i,s,R,pe,hri,hs,hR,hsk,hst,hbd,hl,CK,HST,hB1,HNF,CM,CP,CH,CS⟩:=e0O w h hB hc hi 2 id tick val handle ⟨p0,p1,p2,p3,p4,p5⟩ hx h0;have HB1N:=jH hB1;have hroom:=hc.room;have hkok:=d0K id;obtain ⟨r,hr⟩:∃r,r=doW c rs rh wd ⟨2,id,tick,val,handle,⟨p0,p1,p2,p3,p4,p5⟩⟩:=⟨_,rfl⟩;rw [←hr];have hrr:r=(i0E wd tick,a0R 0):=by
  rw [hr];unfold doW;rw [if_neg (by rw [h0];simp)];simp only [show ¬(2:Int)=1 by decide,if_true,if_false]
 have CT:=jH (fun W (t:St) (Rt:List Itm) (ht':f0Y W c rs rh n t Rt)=>f1V t.T t.M c t.ver t.es rs rh tick W ht'.at_ hroom.r2 hroom.h2 (by have:=ht'.grown.len;rw [l0T] at this;omega) (by have:=ht'.ver_;omega) (fun p hp=>by have:=ht'.grown.vers p hp;omega) (h1E ht'.at_ hroom.r2));have HSL:=jH (show d.sts.length=wd.st.length from h.len);have HN:=jH hn;have HBB:=jH (show ∀b,w.heap.size≤b→b≠w.heap.size+1→B b∧b≠w.heap.size+1 from fun b hb h1=>⟨hB b hb,h1⟩)
 have hl64:d.sts.length≤64:=by omega
 have HRR:=jH hrr;generalize b0L id=k at *;clear h hc hi hh ht hx h0 hri hs hR hsk hr hB hB1 hst hl hroom hbd hrr;unfold a0S
 go_enter Tryz.func28,Tryz.ntmps28
 go_wp2_with (first
  | (go_at_call 42
     refine a0B ?_;intro W1 hW1;obtain ⟨HB1,HX0,HX1⟩:=i0J w _ _ W1 hW1;clear hW1;refine (CK.out W1).mono ?_;rintro e w2 ⟨rfl,hb2⟩;obtain ⟨HB2,HX02,HX12⟩:=c0N hb2 HB1 HX0 HX1;clear hb2)
  | (go_at_call 80
     refine (CM.out _ HB2.out).mono ?_;rintro e w3 ⟨rfl,rfl⟩;obtain ⟨b1,b2,b3⟩:=a0A jR HX02.out)
  | (go_at_call 81
     refine (CP.out _).mono ?_;rintro e w4 ⟨rfl,hb4⟩;obtain ⟨HB4,HX04,HX14⟩:=c0N hb4 HB2 HX02 HX12;clear hb4 b1 b2 b3)
  | (go_at_call 30
     refine a0B ?_;intro W5 hW5;have hb5:jB w4 W5:=by rw [hW5];exact a0C jR _
     have HK5:=jH (show W5.heap[w4.heap.size]?=some (.cells #[.int .u64 k.1,.int .u64 k.2] 74 (0,0)) by rw [hW5];exact heap_alloc_new _ _);obtain ⟨HB5,HX05,HX15⟩:=c0N hb5 HB4 HX04 HX14;clear hW5 hb5;refine (CH.out W5 HB5.out).mono ?_;rintro e w6 ⟨rfl,hb6⟩;obtain ⟨HB6,HX06,HX16⟩:=c0N hb6 HB5 HX05 HX15;have HK6:=jH (jK hb6 HK5.out);clear hb6)
  | (go_at_call 32
     refine (CS.out _ HB6.out).mono ?_;rintro e w7 ⟨rfl,rfl⟩;obtain ⟨b1,b2,b3⟩:=a0A jR HX06.out;obtain ⟨k1,k2,k3⟩:=a0A jR HK6.out;obtain ⟨q1,q2,q3⟩:=a0A jR (HST.out _ HB6.out).cell))
 clear CS CH;have HT0:=jH (n0K.start (HST.out _ HB6.out) tick);have HZ0:=jH (show w.heap.size∉d.fp S from fun hq=>by have:=((HST.out _ jR).fpLt _ hq).1;omega);have HLT:=jH (show w.heap.size+1<w7.heap.size from (jL HX16.out));clear q1 q2 q3 b1 b2 b3 k1 k2 k3
 go_loopg [51] d.sts.length (fun g s51 wr=>∃(j:Nat) (dk:d0Y),j≤d.sts.length∧d.sts.length - j≤g∧s51=.int .i64 j∧n0K (fun b=>B b∧b≠w.heap.size+1) w7 wr S c rs rh n wd d dk tick j)
 case atStart=>exact ⟨0,d,Nat.zero_le _,Nat.le_refl _,rfl,HT0.out⟩
 case round =>
  obtain ⟨j,dk,hj,hg,rfl,hat⟩:=hrel;rename World=>wr
  have HA:=jH hat;have hle:=hat.eA;clear hat
  by_cases hlt:j<d.sts.length
  · have hkl:j<dk.sts.length:=by omega
    have hs:=List.getElem?_eq_getElem hkl;have z1:(j:Int)<(d.sts.length:Int):=by omega
    have z2:(0:Int)≤(j:Int):=by omega
    obtain ⟨bb,o,hA,hbw,hcc⟩:=HA.out.at_.row.1.at_ hkl;injection hA with hA
    injection hA with e1 e2
    subst e1 e2;have c1:wr.cell? ⟨d.A,j,none⟩=some (.pointer (some ⟨(dk.sts[j]).T,0,none⟩)):=by
     have:=hcc 0 _ rfl;rw [hle.1] at this
     simpa using this
    have HS:=jH hs;clear hcc hbw hs;generalize dk.sts[j]=t at c1 HS;have hjw:j<wd.st.length:=by have:=HSL.out;omega
    have htk:=HA.out.rest j t _ (Nat.le_refl j) HS.out (List.getElem?_eq_getElem hjw);have CI:=jH (CT.out wr t _ htk);obtain ⟨b1,b2,b3⟩:=a0A jR (g0K HA.out.up HZ0.out HX06.out);clear htk
    go_wp2_with (first
     | (go_at_call 83
        refine CI.out.mono ?_;rintro e w8 ⟨es',rfl,h1,h2,h3,h4⟩;obtain ⟨dk',h5⟩:=HA.out.step (fun b hb=>HBB.out b (Nat.le_trans HB6.out.size hb) (by have:=HLT.out;omega)) HN.out HS.out h1 h2 h3 h4;have HA5:=jH h5;clear h1 h2 h3 h4 h5))
    go_roundg (d.sts.length - (j+1))
    case measure=>omega
    case rel=>exact ⟨j+1,dk',hlt,Nat.le_refl _,by go_num,HA5.out⟩
  · obtain rfl:j=d.sts.length:=by omega
    have z1:¬(d.sts.length:Int)<(d.sts.length:Int):=by omega
    have HX8:=jH (g0K HA.out.up HNF.out HX16.out);obtain ⟨y1,y2,y3⟩:=a0A jR HX8.out
    (try unfold zR at y1)
    have hfin:=HA.out.at_;rw [HSL.out,b1D] at hfin;have HD:=jH hfin;have HU:=jH ((Upd.of_below HB6.out (d.fp S)).trans HA.out.up);clear hfin;go_wp2
    refine a0H ?_;intro W9 hW9;have hW9':W9=c0T wr (w.heap.size+1) 0 (b0E (a0R 0)):=hW9;obtain ⟨t1,t2,t3,t4⟩:=a0M HX8.out (b0E (a0R 0)) rfl W9 hW9';obtain ⟨a9,a8,a7⟩:=a0A jR t1;clear hW9 hW9';exact bodyPost_ret (v:=a0X (a0R 0)) (by simp [results,Tryz.results28,go_sem,a9,a0X,b0E,a0R,st0,b0O]) rfl (by rw [HRR.out];exact d0T (Nat.le_succ _) HD.out HU.out t2 t3 t4)
theorem g1K (w:World) (h:a0I B w S c rs rh n wd d) (x:b0Z) (hx:x.ok) (h0:f0V x≠0) :
 Calls Tryz.prog 28 #[.pointer (some ⟨S,0,none⟩),a0S x] w (d0M B w S c rs rh (n+1) (d.fp S) (a0X (doW c rs rh wd x).2) (doW c rs rh wd x).1):=by
 obtain ⟨r,hr⟩:∃r,r=doW c rs rh wd x:=⟨_,rfl⟩;rw [←hr];have hrr:r=(wd,a0R (f0V x)):=by rw [hr];unfold doW;rw [if_pos h0]
 have CK:=jH (fun W=>i0Q x W hx);have HST:=jH (fun W (hW:jB w W)=>(h.avoidX (X:=w.heap.size+1) (Nat.le_succ _) hW).mono (Nat.le_succ n));generalize f0V x=er at *;have z:¬er=0:=h0;have HRR:=jH hrr;obtain ⟨kind,id,tick,val,handle,⟨p0,p1,p2,p3,p4,p5⟩⟩:=x;clear h hr hrr h0 hx;unfold a0S at CK ⊢;dsimp only at CK ⊢
 go_enter Tryz.func28,Tryz.ntmps28
 go_wp2_with (first
  | (go_at_call 42
     refine a0B ?_;intro W1 hW1;have HB1:=jH (show jB w W1 by rw [hW1];exact a0C (a0C jR _) _);have HX1:=jH (show W1.heap[w.heap.size+1]?=some (.cells zR.toArray 46 (0,0)) by rw [hW1];exact c0G _ _ _);clear hW1;refine (CK.out W1).mono ?_;rintro e w8 ⟨rfl,hb2⟩;have HB2:=jH (a0D HB1.out hb2);have HX8:=jH (jK hb2 HX1.out);obtain ⟨y1,y2,y3⟩:=a0A jR HX8.out
     (try unfold zR at y1)
     clear hb2))
 refine a0H ?_;intro W9 hW9;have hW9':W9=c0T w8 (w.heap.size+1) 0 (b0E (a0R er)):=hW9;obtain ⟨t1,t2,t3,t4⟩:=a0M HX8.out (b0E (a0R er)) rfl W9 hW9';obtain ⟨a9,a8,a7⟩:=a0A jR t1;clear hW9 hW9';exact bodyPost_ret (v:=a0X (a0R er)) (by simp [results,Tryz.results28,go_sem,a9,a0X,b0E,a0R,st0,b0O]) rfl (by rw [HRR.out];exact d0T (Nat.le_succ _) (HST.out _ HB2.out) (Upd.of_below HB2.out _) t2 t3 t4)
theorem g1L (w:World) (h:a0I B w S c rs rh n wd d) (hB:∀b,w.heap.size≤b→B b) (hc:b0S c rs rh) (hi:h0C c rs rh n wd) (hh:b0V c wd) (ht:(d0D wd).length≤400) (hn:n≤100) (x:b0Z) (hx:x.ok) :
 Calls Tryz.prog 28 #[.pointer (some ⟨S,0,none⟩),a0S x] w (d0M B w S c rs rh (n+1) (d.fp S) (a0X (doW c rs rh wd x).2) (doW c rs rh wd x).1):=by
 by_cases h0:f0V x=0
 · rcases t0E x with hk|hk|hk|hk|hk|hk|hk|hk|hk
   · exact p1L w h hB hc hi hh ht hn x hx h0 hk
   · exact o1W w h hB hc hi hh ht hn x hx h0 hk
   · exact o1V w h hB hc hi hh ht hn x hx h0 hk
   · by_cases hf:b0U (c0I wd) x.handle=0
     · exact o1O w h hB hc hi hh ht hn x hx h0 hk hf
     · exact k1P w h hB hc hi hh ht hn x hx h0 hk hf
   · exact p1R w h hB hc hi hh ht hn x hx h0 hk
   · exact q1B w h hB hc hi hh ht hn x hx h0 hk
   · exact p1X w h hB hc hi hh ht hn x hx h0 hk
   · cases hf:wd.over with
     | true=>exact j1P w h hB hc hi hh ht hn x hx h0 hk hf
     | false=>exact p1K w h hB hc hi hh ht hn x hx h0 hk hf
   · exfalso
     unfold f0V at h0;rw [if_pos hk] at h0
     cases h0
 · exact g1K w h x hx h0
end
end
end
section
open Go.RowKit Go.Lib
theorem c1H (v:Value) (id:ByteArray) (w:World) (hm:id.size≤maxLen) (hid:idS id=false) :
 Calls Tryz.prog 44 #[v,.string id] w (jP w (.tuple #[.agg (c0U b0O).toArray,.int .i64 2])):=by
 have CP:=jH (fun W=>show Calls Tryz.prog 81 #[.string id] W (jP W (.tuple #[.agg #[.int .u64 0,.int .u64 0],.int .i64 2])) from z0C id W hm hid);clear hid
 go_enter Tryz.func44,Tryz.ntmps44
 go_wp2_with (first
  | (go_at_call 81
     refine a0B ?_;intro W1 hW1;have hb1:jB w W1:=by rw [hW1];exact a0C jR _
     have hx1:W1.heap[w.heap.size]?=some (.cells #[.int .i64 0,.int .i64 0,.int .i64 0,.int .i64 0,.int .i64 0] 44 (0,0)):=by rw [hW1];exact heap_alloc_new _ _
     clear hW1;refine (CP.out W1).mono ?_;rintro e w2 ⟨rfl,hb2⟩;have HX2:=jH (jK hb2 hx1);have HB2:=jH (a0D hb1 hb2);obtain ⟨b1,b2,b3⟩:=a0A jR HX2.out;clear hb1 hb2 hx1))
 refine a0H ?_;intro W9 hW9;have hW9':W9=(c0T w2 w.heap.size 0 [.int .i64 0,.int .i64 0,.int .i64 0,.int .i64 0,.int .i64 0]).alloc (.cells #[.int .u64 0,.int .u64 0] 74 (0,0)):=hW9;obtain ⟨S,hS⟩:∃S,S=c0T w2 w.heap.size 0 [.int .i64 0,.int .i64 0,.int .i64 0,.int .i64 0,.int .i64 0]:=⟨_,rfl⟩;rw [←hS] at hW9';obtain ⟨s1,s2,s3,s4⟩:=a0M HX2.out [.int .i64 0,.int .i64 0,.int .i64 0,.int .i64 0,.int .i64 0] rfl S hS
 have hd9:jB S W9:=by rw [hW9'];exact a0C jR _
 obtain ⟨a9,a8,a7⟩:=a0A hd9 s1;have hb9:=a0D (HB2.out.trans (s4 _ (Nat.le_refl _))) hd9;clear hW9 hW9';exact bodyPost_ret (v:=.tuple #[.agg #[.int .i64 0,.int .i64 0,.int .i64 0,.int .i64 0,.int .i64 0],.int .i64 2]) (by simp [results,Tryz.results44,go_sem,a9]) rfl ⟨rfl,hb9⟩
theorem o0R (w:World) :
 Calls Tryz.prog 106 #[.pointer none] w (jP w (.tuple #[.agg #[.int .i64 0,.int .i64 0,.int .i64 0,.int .i64 0,.int .i64 0,.int .i64 0],.bool false])):=by
 go_enter Tryz.func106,Tryz.ntmps106
 go_wp2_with (first
  | (go_at_call 174
     go_enter Tryz.func174,Tryz.ntmps174))
 exact bodyPost_ret (v:=.tuple #[.agg #[.int .i64 0,.int .i64 0,.int .i64 0,.int .i64 0,.int .i64 0,.int .i64 0],.bool false]) (by simp [results,Tryz.results106,go_sem]) rfl ⟨rfl,a0C jR _⟩
theorem w0F {B:Nat→Prop} {S:Nat} {c:Cfg} {rs rh n:Nat} {wd:Wd} {d:d0Y} (w:World) (h:a0I B w S c rs rh n wd d) (hl:(d.sts.length:Int)=c.st) (hst:e0R c.st=true) (hh:b0V c wd) (id:ByteArray) (hm:id.size≤maxLen) (hid:idS id=true) (hf9:h0O wd id=none) :
 Calls Tryz.prog 44 #[.pointer (some ⟨S,0,none⟩),.string id] w (jP w (.tuple #[.agg (c0U b0O).toArray,.int .i64 5])):=by
 have hk:=d0K id;have CP:=jH (fun W=>show Calls Tryz.prog 81 #[.string id] W (jP W (.tuple #[.agg #[.int .u64 (b0L id).1,.int .u64 (b0L id).2],.int .i64 0])) from by
  have h9:=j0O id W hm;have hp:h0K id=.tuple #[.agg #[.int .u64 (b0L id).1,.int .u64 (b0L id).2],.int .i64 0]:=by unfold h0K b0L;rw [hid];rfl
  rw [←hp];exact h9)
 unfold h0O at hf9;generalize b0L id=k at *;obtain ⟨i,s,R,hri,hs,hR,hsk⟩:=h.home hl hst k;have hbd:=d0L _ hst;have hld:=g0G hh hR hri;have CH:=jH (fun W (hW:jB w W)=>show Calls Tryz.prog 30 #[.pointer (some ⟨S,0,none⟩),.agg #[.int .u64 k.1,.int .u64 k.2]] W (jP W (.int .i64 (i:Nat))) from hri ▸ f0I W (h.below hW) (by omega) hl (by omega) k hk);have CS:=jH (fun W (hW:jB w W)=>d0Z W (h.below hW) i s hs (by omega))
 have CG:=jH (fun W (hW:jB w W)=>h0W s.T s.M c s.ver s.es rs rh ⟨k,hk⟩ W (hsk.at_.below hW));have hfd:=hsk.load ⟨k,hk⟩;rw [←hld] at hfd
 cases hf:a0L s.es ⟨k,hk⟩ with
 | some b =>
   rw [hf] at hfd;obtain ⟨y,hy,_⟩:=hfd;rw [hf9] at hy
   cases hy
 | none =>
   rw [hf] at hfd CG;have CG2:=jH (show ∀W,jB w W→Calls Tryz.prog 105 #[.pointer (some ⟨s.T,0,none⟩),.agg #[.int .u64 k.1,.int .u64 k.2]] W (jP W (.pointer none)) from CG.out);clear h hs hR hsk hfd hf CG hld hri hf9 hid
   go_enter Tryz.func44,Tryz.ntmps44
   go_wp2_with (first
   | (go_at_call 81
      refine a0B ?_;intro W1 hW1;have hb1:jB w W1:=by rw [hW1];exact a0C jR _
      have hx1:W1.heap[w.heap.size]?=some (.cells #[.int .i64 0,.int .i64 0,.int .i64 0,.int .i64 0,.int .i64 0] 44 (0,0)):=by rw [hW1];exact heap_alloc_new _ _
      clear hW1;refine (CP.out W1).mono ?_;rintro e w2 ⟨rfl,hb2⟩;have HX2:=jH (jK hb2 hx1);have HB2:=jH (a0D hb1 hb2);clear hb1 hb2 hx1)
   | (go_at_call 30
      refine a0B ?_;intro W3 hW3;have hb3:jB w2 W3:=by rw [hW3];exact a0C jR _
      have hk3:W3.heap[w2.heap.size]?=some (.cells #[.int .u64 k.1,.int .u64 k.2] 74 (0,0)):=by rw [hW3];exact heap_alloc_new _ _
      clear hW3;refine (CH.out W3 (a0D HB2.out hb3)).mono ?_;rintro e w4 ⟨rfl,hb4⟩;have HK4:=jH (jK hb4 hk3);have HB24:=jH (a0D hb3 hb4);have HB4:=jH (a0D HB2.out (a0D hb3 hb4));obtain ⟨a1,a2,a3⟩:=a0A jR HK4.out;clear hb3 hb4 hk3)
   | (go_at_call 32
      refine (CS.out _ HB4.out).mono ?_;rintro e w5 ⟨rfl,rfl⟩)
   | (go_at_call 105
      refine (CG2.out _ HB4.out).mono ?_;rintro e w6 ⟨rfl,hb6⟩;have HB6:=jH (a0D HB24.out hb6);clear hb6)
   | (go_at_call 106
      refine (o0R w6).mono ?_;rintro e w7 ⟨rfl,hb7⟩;have HB7:=jH (a0D HB6.out hb7);have HX7:=jH (jK (a0D HB6.out hb7) HX2.out);obtain ⟨b1,b2,b3⟩:=a0A jR HX7.out;clear hb7))
   refine a0H ?_;intro W9 hW9;have hW9':W9=(c0T w7 w.heap.size 0 [.int .i64 0,.int .i64 0,.int .i64 0,.int .i64 0,.int .i64 0]).alloc (.cells #[.int .i64 0,.int .i64 0,.int .i64 0,.int .i64 0,.int .i64 0,.int .i64 0] 35 (0,0)):=hW9;obtain ⟨U,hU⟩:∃U,U=c0T w7 w.heap.size 0 [.int .i64 0,.int .i64 0,.int .i64 0,.int .i64 0,.int .i64 0]:=⟨_,rfl⟩;rw [←hU] at hW9';obtain ⟨s1,s2,s3,s4⟩:=a0M HX7.out [.int .i64 0,.int .i64 0,.int .i64 0,.int .i64 0,.int .i64 0] rfl U hU
   have hd9:jB U W9:=by rw [hW9'];exact a0C jR _
   obtain ⟨a9,a8,a7⟩:=a0A hd9 s1;have hb9:=a0D ((a0D HB2.out HB7.out).trans (s4 _ (Nat.le_refl _))) hd9;clear hW9 hW9';exact bodyPost_ret (v:=.tuple #[.agg #[.int .i64 0,.int .i64 0,.int .i64 0,.int .i64 0,.int .i64 0],.int .i64 5]) (by simp [results,Tryz.results44,go_sem,a9]) rfl ⟨rfl,hb9⟩
theorem o0M {B:Nat→Prop} {S:Nat} {c:Cfg} {rs rh n:Nat} {wd:Wd} {d:d0Y} (w:World) (h:a0I B w S c rs rh n wd d) (hl:(d.sts.length:Int)=c.st) (hst:e0R c.st=true) (hh:b0V c wd) (id:ByteArray) (hm:id.size≤maxLen) (hid:idS id=true) {y:Nd} (hf9:h0O wd id=some y) (hru:y.ruled=false) :
 Calls Tryz.prog 44 #[.pointer (some ⟨S,0,none⟩),.string id] w (jP w (.tuple #[.agg (c0U b0O).toArray,.int .i64 5])):=by
 have hk:=d0K id;have CP:=jH (fun W=>show Calls Tryz.prog 81 #[.string id] W (jP W (.tuple #[.agg #[.int .u64 (b0L id).1,.int .u64 (b0L id).2],.int .i64 0])) from by
  have h9:=j0O id W hm;have hp:h0K id=.tuple #[.agg #[.int .u64 (b0L id).1,.int .u64 (b0L id).2],.int .i64 0]:=by unfold h0K b0L;rw [hid];rfl
  rw [←hp];exact h9)
 unfold h0O at hf9;generalize b0L id=k at *;obtain ⟨i,s,R,hri,hs,hR,hsk⟩:=h.home hl hst k;have hbd:=d0L _ hst;have hld:=g0G hh hR hri;have CH:=jH (fun W (hW:jB w W)=>show Calls Tryz.prog 30 #[.pointer (some ⟨S,0,none⟩),.agg #[.int .u64 k.1,.int .u64 k.2]] W (jP W (.int .i64 (i:Nat))) from hri ▸ f0I W (h.below hW) (by omega) hl (by omega) k hk);have CS:=jH (fun W (hW:jB w W)=>d0Z W (h.below hW) i s hs (by omega))
 have CG:=jH (fun W (hW:jB w W)=>h0W s.T s.M c s.ver s.es rs rh ⟨k,hk⟩ W (hsk.at_.below hW));have hfd:=hsk.load ⟨k,hk⟩;rw [←hld] at hfd
 cases hf:a0L s.es ⟨k,hk⟩ with
 | none =>
   rw [hf] at hfd;have hfd2:a0Z (d0D wd) k=none:=hfd;rw [hf9] at hfd2
   cases hfd2
 | some b =>
   rw [hf] at hfd CG;obtain ⟨y2,hy,hsm⟩:=hfd;rw [hf9] at hy;obtain rfl:=Option.some.inj hy;have hru2:b.2.1.ruled=false:=hsm.2.2.2.trans hru;have hnd:=hsk.at_.node _ (b0B hf);have CQ:=jH (fun W (hW:jB w W)=>i0M b.1 b.2.1 rs rh b.2.2 W (hnd.kept (fun r hr=>(hW.block r (hnd.lt r hr)))));rw [hru2] at CQ;have CG2:=jH (show ∀W,jB w W→Calls Tryz.prog 105 #[.pointer (some ⟨s.T,0,none⟩),.agg #[.int .u64 k.1,.int .u64 k.2]] W (jP W (.pointer (some ⟨b.1,0,none⟩))) from CG.out)
   generalize b.2.1.pol=po at CQ;generalize b.1=N at CQ CG2;clear h hs hR hsk hf CG hld hri hf9 hid hru hsm hru2 hnd hy
   go_enter Tryz.func44,Tryz.ntmps44
   go_wp2_with (first
   | (go_at_call 81
      refine a0B ?_;intro W1 hW1;have hb1:jB w W1:=by rw [hW1];exact a0C jR _
      have hx1:W1.heap[w.heap.size]?=some (.cells #[.int .i64 0,.int .i64 0,.int .i64 0,.int .i64 0,.int .i64 0] 44 (0,0)):=by rw [hW1];exact heap_alloc_new _ _
      clear hW1;refine (CP.out W1).mono ?_;rintro e w2 ⟨rfl,hb2⟩;have HX2:=jH (jK hb2 hx1);have HB2:=jH (a0D hb1 hb2);clear hb1 hb2 hx1)
   | (go_at_call 30
      refine a0B ?_;intro W3 hW3;have hb3:jB w2 W3:=by rw [hW3];exact a0C jR _
      have hk3:W3.heap[w2.heap.size]?=some (.cells #[.int .u64 k.1,.int .u64 k.2] 74 (0,0)):=by rw [hW3];exact heap_alloc_new _ _
      clear hW3;refine (CH.out W3 (a0D HB2.out hb3)).mono ?_;rintro e w4 ⟨rfl,hb4⟩;have HK4:=jH (jK hb4 hk3);have HB24:=jH (a0D hb3 hb4);have HB4:=jH (a0D HB2.out (a0D hb3 hb4));obtain ⟨a1,a2,a3⟩:=a0A jR HK4.out;clear hb3 hb4 hk3)
   | (go_at_call 32
      refine (CS.out _ HB4.out).mono ?_;rintro e w5 ⟨rfl,rfl⟩)
   | (go_at_call 105
      refine (CG2.out _ HB4.out).mono ?_;rintro e w6 ⟨rfl,hb6⟩;have HB6:=jH (a0D HB24.out hb6);clear hb6)
   | (go_at_call 106
      refine (CQ.out w6 (a0D HB2.out HB6.out)).mono ?_;rintro e w7 ⟨rfl,hb7⟩;have HB7:=jH (a0D HB6.out hb7);have HX7:=jH (jK (a0D HB6.out hb7) HX2.out);obtain ⟨b1,b2,b3⟩:=a0A jR HX7.out;clear hb7))
   refine a0H ?_;intro W9 hW9;have hW9':W9=(c0T w7 w.heap.size 0 [.int .i64 0,.int .i64 0,.int .i64 0,.int .i64 0,.int .i64 0]).alloc (.cells #[.int .i64 po.mn,.int .i64 po.mx,.int .i64 po.tg,.int .i64 po.tol,.int .i64 po.win,.int .i64 po.hold] 35 (0,0)):=hW9;obtain ⟨U,hU⟩:∃U,U=c0T w7 w.heap.size 0 [.int .i64 0,.int .i64 0,.int .i64 0,.int .i64 0,.int .i64 0]:=⟨_,rfl⟩;rw [←hU] at hW9';obtain ⟨s1,s2,s3,s4⟩:=a0M HX7.out [.int .i64 0,.int .i64 0,.int .i64 0,.int .i64 0,.int .i64 0] rfl U hU
   have hd9:jB U W9:=by rw [hW9'];exact a0C jR _
   obtain ⟨a9,a8,a7⟩:=a0A hd9 s1;have hb9:=a0D ((a0D HB2.out HB7.out).trans (s4 _ (Nat.le_refl _))) hd9;clear hW9 hW9';exact bodyPost_ret (v:=.tuple #[.agg #[.int .i64 0,.int .i64 0,.int .i64 0,.int .i64 0,.int .i64 0],.int .i64 5]) (by simp [results,Tryz.results44,go_sem,a9]) rfl ⟨rfl,hb9⟩





section
section
variable {w a b:World} {n:Nat} {cs ds:Array Value}
end
section
variable (s:Nat) (sa lo hi:Int) (id:ByteArray) (tick val handle a b tg tol win hold:Int) (w:World)
end
end

section
section
variable (id:ByteArray) (tick val handle a b tg tol win hold:Int) (w:World)
end
end






section
section
variable {P:Program}
end
end








def Out (P:Nat→Prop) (n0 n1 b:Nat):Prop:=P b∧(b<n0∨n1≤b)



theorem box_in {w2 w6:World} {B:Nat} {z:Array Value} {T:TypeId} (hz:w6.heap[B]?=some (.cells z T (0,0))) (hle:w2.heap.size≤B) (hb:jB w2 w6) (vs:List Value) (hn:z.size=vs.length) :
 (c0T w6 B 0 vs).heap[B]?=some (.cells vs.toArray T (0,0))∧w2.heap.size≤B∧jB w2 (c0T w6 B 0 vs):=by
 obtain ⟨s1,s2,s3,s4⟩:=a0M hz vs hn _ rfl;exact ⟨s1,hle,hb.trans (s4 _ hle)⟩
theorem f1A {w2 w6:World} {T:TypeId} (hb:jB w2 w6) (vs:List Value) :
 (w6.alloc (.cells vs.toArray T)).heap[w6.heap.size]?=some (.cells vs.toArray T (0,0))∧w2.heap.size≤w6.heap.size∧jB w2 (w6.alloc (.cells vs.toArray T)) :=
 ⟨heap_alloc_new _ _,hb.size,a0C hb _⟩
def p1H (B:Nat→Prop) (w:World) (S:Nat) (c:Cfg) (rs rh n:Nat) (fp:List Nat) (wd:Wd) (a:Adv) (er:Int) (e:Ending) (w':World):Prop :=
 (er≠0→e=.returned (.tuple #[.agg (c0U b0O).toArray,.int .i64 er])∧jB w w')∧(er=0→d0M B w S c rs rh (n+1) fp (.tuple #[.agg (c0U a).toArray,.int .i64 0]) wd e w')
theorem l0M {B:Nat→Prop} {S:Nat} {c:Cfg} {rs rh n:Nat} {wd:Wd} {d:d0Y} (w:World) (h:a0I B w S c rs rh n wd d) (hB:∀b,w.heap.size≤b→B b) (hc:b0S c rs rh) (hi:h0C c rs rh n wd) (hh:b0V c wd) (hn:n≤100) (id:ByteArray) (hm:id.size≤maxLen) (hid:idS id=true) {y:Nd} (hf9:h0O wd id=some y) (hru:y.ruled=true) {a:Adv} {er:Int} (hde:o0G y.pol y.smp y.past=(a,er))  :
 Calls Tryz.prog 44 #[.pointer (some ⟨S,0,none⟩),.string id] w (p1H B w S c rs rh n (d.fp S) (e0D c rs rh wd id a).1 a er):=by
 have hst:e0R c.st=true:=by have:=hc.cfg;unfold h0A at this;simp only [Bool.and_eq_true] at this;exact this.1
 have hbd:=d0L _ hst;have hl:(d.sts.length:Int)=c.st:=by rw [h.len];exact hi.len
 have hroom:=hc.room;have hk:=d0K id;have CP:=jH (fun W=>show Calls Tryz.prog 81 #[.string id] W (jP W (.tuple #[.agg #[.int .u64 (b0L id).1,.int .u64 (b0L id).2],.int .i64 0])) from by
  have h9:=j0O id W hm;have hp:h0K id=.tuple #[.agg #[.int .u64 (b0L id).1,.int .u64 (b0L id).2],.int .i64 0]:=by unfold h0K b0L;rw [hid];rfl
  rw [←hp];exact h9)
 have hf8:a0Z (d0D wd) (b0L id)=some y:=hf9;obtain ⟨i,s,R,hri,hs,hR,hsk⟩:=h.home hl hst (b0L id);have hld:=g0G hh hR hri;obtain ⟨r,hr⟩:∃r,r=(e0D c rs rh wd id a).1:=⟨_,rfl⟩;rw [←hr];have hrr:r = { wd with st:=wd.st.set i (i0N c rs rh R (b0L id) ⟨3,(0,0),g0P,a⟩).1 }:=by
  rw [hr];unfold e0D;rw [hf9]
  show (h0E c rs rh wd id ⟨3,(0,0),g0P,a⟩).1=_
  rw [u0K hri hR]
 clear hr;generalize b0L id=k at *;have CH:=jH (fun W (hW:jB w W)=>show Calls Tryz.prog 30 #[.pointer (some ⟨S,0,none⟩),.agg #[.int .u64 k.1,.int .u64 k.2]] W (jP W (.int .i64 (i:Nat))) from hri ▸ f0I W (h.below hW) (by omega) hl (by omega) k hk);have CS:=jH (fun W (hW:jB w W)=>d0Z W (h.below hW) i s hs (by omega));have CG:=jH (fun W (hW:jB w W)=>h0W s.T s.M c s.ver s.es rs rh ⟨k,hk⟩ W (hsk.at_.below hW))
 have hfd:=hsk.load ⟨k,hk⟩;rw [←hld] at hfd
 cases hf:a0L s.es ⟨k,hk⟩ with
 | none =>
   rw [hf] at hfd;have hfd2:a0Z (d0D wd) k=none:=hfd;rw [hf8] at hfd2
   cases hfd2
 | some b =>
   rw [hf] at hfd CG;obtain ⟨y2,hy,hsm⟩:=hfd;rw [hf8] at hy;obtain rfl:=Option.some.inj hy;have hitm:r0H rs rh n (k,y):=by
    unfold a0Z at hf8;obtain ⟨p,hp1,hp2⟩:=Option.map_eq_some_iff.1 hf8;have h1:=u0W hi p (List.mem_of_find?_eq_some hp1);have h2:p.1=k:=by simpa using List.find?_some hp1
    rw [←h2,←hp2];exact h1
   have hru2:b.2.1.ruled=true:=hsm.2.2.2.trans hru;have hnd:b0G w b.1 b.2.1 rs rh b.2.2:=hsk.at_.node _ (b0B hf);have CQ:=jH (fun W (hW:jB w W)=>i0M b.1 b.2.1 rs rh b.2.2 W (hnd.below hW));rw [hru2] at CQ;have CM:=jH (fun W (hW:jB w W)=>h0F b.1 b.2.1 rs rh b.2.2 W (hnd.below hW) hroom.r2);have CA:=jH (fun W (hW:jB w W)=>l0N b.1 b.2.1 rs rh b.2.2 W (hnd.below hW) hroom.h2)
   rw [←hsm.1,←hsm.2.1,←hsm.2.2.1] at hde;have hl1:b.2.1.smp.length≤1000000:=by obtain ⟨_,_,_,_,_,_,_,_,_,_,_,_,h8⟩:=hnd;have:=hroom.r2;omega
   have hl2:b.2.1.past.length≤1000000:=by obtain ⟨_,_,_,_,_,_,hh,_⟩:=hnd;have:=hh.len;have:=hroom.h2;omega
   have CO:=jH (fun W A1 c1 A2 c2 hs1 hs2=>s0E b.2.1.pol b.2.1.smp b.2.1.past (.slice A1 b.2.1.smp.length c1) (.slice A2 b.2.1.past.length c2) W hs1 hs2 hl1 hl2 (by rw [hsm.1];exact hitm.smp) (by rw [hsm.2.2.1];exact hitm.pol));rw [hde] at CO;unfold d0E c0U at CO;dsimp only at CO;have CG2:=jH (show ∀W,jB w W→Calls Tryz.prog 105 #[.pointer (some ⟨s.T,0,none⟩),.agg #[.int .u64 k.1,.int .u64 k.2]] W (jP W (.pointer (some ⟨b.1,0,none⟩))) from CG.out)
   have herr:(doS c rs rh s.ver (ab s.es) ⟨k,hk⟩ ⟨3,(0,0),g0P,a⟩).err=0:=by
    unfold doS;rw [if_neg (show ¬(3:Int)=0 by decide),if_neg (show ¬(3:Int)=1 by decide),if_neg (show ¬(3:Int)=2 by decide),if_pos (show (3:Int)=3 from rfl),if_pos (by rw [n0B];exact m0H hf)]
   have HST:=jH (fun W (hW:jB w W)=>h.avoidX (X:=w.heap.size) (Nat.le_refl _) hW);have hB1:∀W,jB w W→w.heap.size<W.heap.size→∀b,W.heap.size≤b→B b∧b≠w.heap.size:=fun W hW h1 b hb=>⟨hB b (Nat.le_trans hW.size hb),by omega⟩
   have HFP:=jH (show ∀r∈d.fp S,r<w.heap.size from fun r hr=>(h.fpLt r hr).1);have CN:=jH (fun W (hW:jB w W)=>k1G s.T s.M c s.ver s.es rs rh ⟨k,hk⟩ ⟨3,(0,0),g0P,a⟩ W (hsk.at_.below hW) (hsk.sok hc hn) rfl);rw [herr] at CN;unfold c0U at CN;have CW:=jH (fun W (hW:jB w W) (h1:w.heap.size<W.heap.size) W' es' hat hab hu ho=>(h.avoidX (X:=w.heap.size) (Nat.le_refl _) hW).act (w':=W') (hB1 W hW h1) hc hn hs hR ⟨k,hk⟩ ⟨3,(0,0),g0P,a⟩ (show ¬(3:Int)<0 by decide) (show (3:Int)≠1 by decide) (show ¬3<(3:Int) by decide) (es':=es') hat hab hu ho)
   dsimp only at CN CW;generalize (i0N c rs rh R k ⟨3,(0,0),g0P,a⟩).1=R' at CW hrr;have HRR:=jH hrr;generalize b.2.1.pol=po at CQ CO;generalize b.2.1.smp=sm at CM CO;generalize b.2.1.past=pa at CA CO;generalize b.1=N at CQ CG2 CM CA;clear h hB hc hi hh hs hR hsk hf CG hld hri hf9 hf8 hid hru hsm hru2 hnd hy hde hl1 hl2 hitm hroom hB1 hrr herr
   go_enter Tryz.func44,Tryz.ntmps44
   go_upto_region 8 with (first
   | (go_at_call 81
      refine a0B ?_;intro W1 hW1;have hb1:jB w W1:=by rw [hW1];exact a0C jR _
      have hx1:W1.heap[w.heap.size]?=some (.cells #[.int .i64 0,.int .i64 0,.int .i64 0,.int .i64 0,.int .i64 0] 44 (0,0)):=by rw [hW1];exact heap_alloc_new _ _
      clear hW1;refine (CP.out W1).mono ?_;rintro e w2 ⟨rfl,hb2⟩;have HX2:=jH (jK hb2 hx1);have HB2:=jH (a0D hb1 hb2);clear hb1 hb2 hx1)
   | (go_at_call 30
      refine a0B ?_;intro W3 hW3;have hb3:jB w2 W3:=by rw [hW3];exact a0C jR _
      have hk3:W3.heap[w2.heap.size]?=some (.cells #[.int .u64 k.1,.int .u64 k.2] 74 (0,0)):=by rw [hW3];exact heap_alloc_new _ _
      clear hW3;refine (CH.out W3 (a0D HB2.out hb3)).mono ?_;rintro e w4 ⟨rfl,hb4⟩;have HK4:=jH (jK hb4 hk3);have HB24:=jH (a0D hb3 hb4);have HB4:=jH (a0D HB2.out (a0D hb3 hb4));obtain ⟨a1,a2,a3⟩:=a0A jR HK4.out;clear hb3 hb4 hk3)
   | (go_at_call 32
      refine (CS.out _ HB4.out).mono ?_;rintro e w5 ⟨rfl,rfl⟩)
   | (go_at_call 105
      refine (CG2.out _ HB4.out).mono ?_;rintro e w6 ⟨rfl,hb6⟩;have HB46:=jH hb6;have HB6:=jH (a0D HB24.out hb6);clear hb6)
   | (go_at_call 106
      refine (CQ.out w6 (a0D HB2.out HB6.out)).mono ?_;rintro e w7 ⟨rfl,hb7⟩;have HB7:=jH (a0D HB6.out hb7);have HK7:=jH (jK (a0D HB46.out hb7) HK4.out);have HX7:=jH (jK (a0D HB6.out hb7) HX2.out);clear hb7))
   refine a0J ?_;intro W0 hW0;have hd0:jB w7 W0:=by rw [hW0];exact a0C jR _
   have HB0:=jH (a0D (a0D HB2.out HB7.out) hd0);have HX0:=jH (jK hd0 HX7.out);have HK0:=jH (jK hd0 HK7.out);have HP0:=jH (show W0.heap[w7.heap.size]?=some (.cells #[.int .i64 po.mn,.int .i64 po.mx,.int .i64 po.tg,.int .i64 po.tol,.int .i64 po.win,.int .i64 po.hold] 35 (0,0)) by rw [hW0];exact heap_alloc_new _ _);have HL0:=jH (show w.heap.size<W0.heap.size from (jL HX0.out));clear hW0 hd0 a1 a2 a3
   have rk:∀U,jB W0 U→∀j,U.cell? ⟨w2.heap.size,j,none⟩=(#[.int .u64 k.1,.int .u64 k.2]:Array Value)[j]?:=fun U hU j=>(a0A hU HK0.out).1 j
   have rp:∀U,jB W0 U→∀j,U.cell? ⟨w7.heap.size,j,none⟩=(#[.int .i64 po.mn,.int .i64 po.mx,.int .i64 po.tg,.int .i64 po.tol,.int .i64 po.win,.int .i64 po.hold]:Array Value)[j]?:=fun U hU j=>(a0A hU HP0.out).1 j
   go_cut [7,11] (fun s7 s11 wx=>∃X,s7=.int .i64 er∧s11=.pointer (some ⟨X,0,none⟩)∧wx.heap[X]?=some (.cells #[.int .i64 a.tick,.int .i64 a.load,.int .i64 a.want,.int .i64 a.repl,.int .i64 a.why] 44 (0,0))∧W0.heap.size≤X∧jB W0 wx)
   case first =>
    have hS00:jB W0 W0:=jR;have hS0:jB W0 W0.drew:=hS00.drew
    go_region_held3 (fun U=>jB W0 U)
      (first
        | with_reducible exact hS0
        | with_reducible exact HV5.out
        | with_reducible exact a0C HV5.out _
        | with_reducible exact HV4.out
        | with_reducible exact a0C HV4.out _
        | with_reducible exact HV3.out
        | with_reducible exact a0C HV3.out _
        | with_reducible exact HV2.out
        | with_reducible exact a0C HV2.out _
        | with_reducible exact HV1.out
        | with_reducible exact a0C HV1.out _
        | with_reducible exact Below.drew (a0C hS00 _)
        | with_reducible exact a0C hS0 _
        | (iterate 5 (with_reducible refine Below.setCell ?_ (by first|exact Nat.le_refl _|exact HV1.out.size|exact HV2.out.size|exact HV3.out.size|exact HV4.out.size|exact HV5.out.size) _)
           first
            | with_reducible exact HV5.out
            | with_reducible exact a0C HV5.out _))
      (first
      | (go_at_call 107
         have h9:=HV3;refine a0B ?_;intro V4 hV4;have hd4:jB u3 V4:=by rw [hV4];first|exact jR|exact jR.drew|exact a0C jR _|exact Below.drew (a0C jR _)|exact a0C (Below.drew jR) _
         (first
           | (have hz:=jK hd4 HZ.out)
           | (have hz:V4.heap[u3.heap.size]?=some (.cells #[.int .i64 0,.int .i64 0,.int .i64 0,.int .i64 0,.int .i64 0] 44 (0,0)):=by
               first
                | (with_reducible refine i0P hV4 ?_
                   rfl)
                | (with_reducible refine f0Z hV4 ?_
                   rfl))
           | skip)
         clear hV4;have HD4:=jH (a0D HB0.out (a0D HV3.out hd4));refine (CM.out V4 HD4.out).mono ?_;rintro e u4 ⟨A4,c4,fq4,rfl,hq,hf,hc4⟩;have HV4:=jH (a0D (a0D HV3.out hd4) hc4)
         (try (have HZ:=jH (jK hc4 hz)))
         (try clear hz)
         have HS:=jH (fun U (hU:jB u4 U)=>(hq.row d0C).below hU);clear hq hf
         (try (have HP:=jH (fun U (hU:jB u4 U)=>HP.out U (a0D hd4 (a0D hc4 hU)))))
         clear hc4 hd4)
      | (go_at_call 108
         have h9:=HV3;refine a0B ?_;intro V4 hV4;have hd4:jB u3 V4:=by rw [hV4];first|exact jR|exact jR.drew|exact a0C jR _|exact Below.drew (a0C jR _)|exact a0C (Below.drew jR) _
         (first
           | (have hz:=jK hd4 HZ.out)
           | (have hz:V4.heap[u3.heap.size]?=some (.cells #[.int .i64 0,.int .i64 0,.int .i64 0,.int .i64 0,.int .i64 0] 44 (0,0)):=by
               first
                | (with_reducible refine i0P hV4 ?_
                   rfl)
                | (with_reducible refine f0Z hV4 ?_
                   rfl))
           | skip)
         clear hV4;have HD4:=jH (a0D HB0.out (a0D HV3.out hd4));refine (CA.out V4 HD4.out).mono ?_;rintro e u4 ⟨A6,c6,fq6,rfl,hq,hf,hc4⟩;have HV4:=jH (a0D (a0D HV3.out hd4) hc4)
         (try (have HZ:=jH (jK hc4 hz)))
         (try clear hz)
         have HP:=jH (fun U (hU:jB u4 U)=>(hq.row p0Q).below hU);clear hq hf
         (try (have HS:=jH (fun U (hU:jB u4 U)=>HS.out U (a0D hd4 (a0D hc4 hU)))))
         clear hc4 hd4)
      | (go_at_call 107
         have h9:=HV2;refine a0B ?_;intro V3 hV3;have hd3:jB u2 V3:=by rw [hV3];first|exact jR|exact jR.drew|exact a0C jR _|exact Below.drew (a0C jR _)|exact a0C (Below.drew jR) _
         (first
           | (have hz:=jK hd3 HZ.out)
           | (have hz:V3.heap[u2.heap.size]?=some (.cells #[.int .i64 0,.int .i64 0,.int .i64 0,.int .i64 0,.int .i64 0] 44 (0,0)):=by
               first
                | (with_reducible refine i0P hV3 ?_
                   rfl)
                | (with_reducible refine f0Z hV3 ?_
                   rfl))
           | skip)
         clear hV3;have HD3:=jH (a0D HB0.out (a0D HV2.out hd3));refine (CM.out V3 HD3.out).mono ?_;rintro e u3 ⟨A4,c4,fq4,rfl,hq,hf,hc3⟩;have HV3:=jH (a0D (a0D HV2.out hd3) hc3)
         (try (have HZ:=jH (jK hc3 hz)))
         (try clear hz)
         have HS:=jH (fun U (hU:jB u3 U)=>(hq.row d0C).below hU);clear hq hf
         (try (have HP:=jH (fun U (hU:jB u3 U)=>HP.out U (a0D hd3 (a0D hc3 hU)))))
         clear hc3 hd3)
      | (go_at_call 108
         have h9:=HV2;refine a0B ?_;intro V3 hV3;have hd3:jB u2 V3:=by rw [hV3];first|exact jR|exact jR.drew|exact a0C jR _|exact Below.drew (a0C jR _)|exact a0C (Below.drew jR) _
         (first
           | (have hz:=jK hd3 HZ.out)
           | (have hz:V3.heap[u2.heap.size]?=some (.cells #[.int .i64 0,.int .i64 0,.int .i64 0,.int .i64 0,.int .i64 0] 44 (0,0)):=by
               first
                | (with_reducible refine i0P hV3 ?_
                   rfl)
                | (with_reducible refine f0Z hV3 ?_
                   rfl))
           | skip)
         clear hV3;have HD3:=jH (a0D HB0.out (a0D HV2.out hd3));refine (CA.out V3 HD3.out).mono ?_;rintro e u3 ⟨A6,c6,fq6,rfl,hq,hf,hc3⟩;have HV3:=jH (a0D (a0D HV2.out hd3) hc3)
         (try (have HZ:=jH (jK hc3 hz)))
         (try clear hz)
         have HP:=jH (fun U (hU:jB u3 U)=>(hq.row p0Q).below hU);clear hq hf
         (try (have HS:=jH (fun U (hU:jB u3 U)=>HS.out U (a0D hd3 (a0D hc3 hU)))))
         clear hc3 hd3)
      | (go_at_call 105
         have h9:=HV2;refine a0B ?_;intro V3 hV3;have hd3:jB u2 V3:=by rw [hV3];first|exact jR|exact jR.drew|exact a0C jR _|exact Below.drew (a0C jR _)|exact a0C (Below.drew jR) _
         (first
           | (have hz:=jK hd3 HZ.out)
           | (have hz:V3.heap[u2.heap.size]?=some (.cells #[.int .i64 0,.int .i64 0,.int .i64 0,.int .i64 0,.int .i64 0] 44 (0,0)):=by
               first
                | (with_reducible refine i0P hV3 ?_
                   rfl)
                | (with_reducible refine f0Z hV3 ?_
                   rfl))
           | skip)
         clear hV3;have HD3:=jH (a0D HB0.out (a0D HV2.out hd3));refine (CG2.out V3 HD3.out).mono ?_;rintro e u3 ⟨rfl,hc3⟩;have HV3:=jH (a0D (a0D HV2.out hd3) hc3)
         (try (have HZ:=jH (jK hc3 hz)))
         (try clear hz)
         (try (have HS:=jH (fun U (hU:jB u3 U)=>HS.out U (a0D hd3 (a0D hc3 hU)))))
         (try (have HP:=jH (fun U (hU:jB u3 U)=>HP.out U (a0D hd3 (a0D hc3 hU)))))
         clear hc3 hd3)
      | (go_at_call 107
         have h9:=HV1;refine a0B ?_;intro V2 hV2;have hd2:jB u1 V2:=by rw [hV2];first|exact jR|exact jR.drew|exact a0C jR _|exact Below.drew (a0C jR _)|exact a0C (Below.drew jR) _
         (first
           | (have hz:=jK hd2 HZ.out)
           | (have hz:V2.heap[u1.heap.size]?=some (.cells #[.int .i64 0,.int .i64 0,.int .i64 0,.int .i64 0,.int .i64 0] 44 (0,0)):=by
               first
                | (with_reducible refine i0P hV2 ?_
                   rfl)
                | (with_reducible refine f0Z hV2 ?_
                   rfl))
           | skip)
         clear hV2;have HD2:=jH (a0D HB0.out (a0D HV1.out hd2));refine (CM.out V2 HD2.out).mono ?_;rintro e u2 ⟨A4,c4,fq4,rfl,hq,hf,hc2⟩;have HV2:=jH (a0D (a0D HV1.out hd2) hc2)
         (try (have HZ:=jH (jK hc2 hz)))
         (try clear hz)
         have HS:=jH (fun U (hU:jB u2 U)=>(hq.row d0C).below hU);clear hq hf
         (try (have HP:=jH (fun U (hU:jB u2 U)=>HP.out U (a0D hd2 (a0D hc2 hU)))))
         clear hc2 hd2)
      | (go_at_call 108
         have h9:=HV1;refine a0B ?_;intro V2 hV2;have hd2:jB u1 V2:=by rw [hV2];first|exact jR|exact jR.drew|exact a0C jR _|exact Below.drew (a0C jR _)|exact a0C (Below.drew jR) _
         (first
           | (have hz:=jK hd2 HZ.out)
           | (have hz:V2.heap[u1.heap.size]?=some (.cells #[.int .i64 0,.int .i64 0,.int .i64 0,.int .i64 0,.int .i64 0] 44 (0,0)):=by
               first
                | (with_reducible refine i0P hV2 ?_
                   rfl)
                | (with_reducible refine f0Z hV2 ?_
                   rfl))
           | skip)
         clear hV2;have HD2:=jH (a0D HB0.out (a0D HV1.out hd2));refine (CA.out V2 HD2.out).mono ?_;rintro e u2 ⟨A6,c6,fq6,rfl,hq,hf,hc2⟩;have HV2:=jH (a0D (a0D HV1.out hd2) hc2)
         (try (have HZ:=jH (jK hc2 hz)))
         (try clear hz)
         have HP:=jH (fun U (hU:jB u2 U)=>(hq.row p0Q).below hU);clear hq hf
         (try (have HS:=jH (fun U (hU:jB u2 U)=>HS.out U (a0D hd2 (a0D hc2 hU)))))
         clear hc2 hd2)
      | (go_at_call 105
         have h9:=HV1;refine a0B ?_;intro V2 hV2;have hd2:jB u1 V2:=by rw [hV2];first|exact jR|exact jR.drew|exact a0C jR _|exact Below.drew (a0C jR _)|exact a0C (Below.drew jR) _
         (first
           | (have hz:=jK hd2 HZ.out)
           | (have hz:V2.heap[u1.heap.size]?=some (.cells #[.int .i64 0,.int .i64 0,.int .i64 0,.int .i64 0,.int .i64 0] 44 (0,0)):=by
               first
                | (with_reducible refine i0P hV2 ?_
                   rfl)
                | (with_reducible refine f0Z hV2 ?_
                   rfl))
           | skip)
         clear hV2;have HD2:=jH (a0D HB0.out (a0D HV1.out hd2));refine (CG2.out V2 HD2.out).mono ?_;rintro e u2 ⟨rfl,hc2⟩;have HV2:=jH (a0D (a0D HV1.out hd2) hc2)
         (try (have HZ:=jH (jK hc2 hz)))
         (try clear hz)
         (try (have HS:=jH (fun U (hU:jB u2 U)=>HS.out U (a0D hd2 (a0D hc2 hU)))))
         (try (have HP:=jH (fun U (hU:jB u2 U)=>HP.out U (a0D hd2 (a0D hc2 hU)))))
         clear hc2 hd2)
      | (go_at_call 105
         refine a0B ?_;intro V1 hV1;have hd1:jB W0 V1:=by rw [hV1];first|exact jR|exact jR.drew|exact a0C jR _|exact Below.drew (a0C jR _)|exact a0C (Below.drew jR) _
         (first
           | (have hz:=jK hd1 HZ.out)
           | (have hz:V1.heap[W0.heap.size]?=some (.cells #[.int .i64 0,.int .i64 0,.int .i64 0,.int .i64 0,.int .i64 0] 44 (0,0)):=by
               first
                | (with_reducible refine i0P hV1 ?_
                   rfl)
                | (with_reducible refine f0Z hV1 ?_
                   rfl))
           | skip)
         clear hV1;have HD1:=jH (a0D HB0.out hd1);refine (CG2.out V1 HD1.out).mono ?_;rintro e u1 ⟨rfl,hc1⟩;have HV1:=jH (a0D hd1 hc1)
         (try (have HZ:=jH (jK hc1 hz)))
         (try clear hz)
         (try (have HS:=jH (fun U (hU:jB u1 U)=>HS.out U (a0D hd1 (a0D hc1 hU)))))
         (try (have HP:=jH (fun U (hU:jB u1 U)=>HP.out U (a0D hd1 (a0D hc1 hU)))))
         clear hc1 hd1)
      | (go_at_call 75
         have h9:=HV4;refine a0B ?_;intro V5 hV5;have hd5:jB u4 V5:=by rw [hV5];first|exact jR|exact jR.drew|exact a0C jR _|exact Below.drew (a0C jR _)|exact a0C (Below.drew jR) _
         (first
           | (have hz:=jK hd5 HZ.out)
           | (have hz:V5.heap[u4.heap.size]?=some (.cells #[.int .i64 0,.int .i64 0,.int .i64 0,.int .i64 0,.int .i64 0] 44 (0,0)):=by
               first
                | (with_reducible refine i0P hV5 ?_
                   rfl)
                | (with_reducible refine f0Z hV5 ?_
                   rfl))
           | skip)
         clear hV5;have HD5:=jH (a0D HB0.out (a0D HV4.out hd5));refine (CO.out V5 A4 c4 A6 c6 (HS.out V5 hd5) (HP.out V5 hd5)).mono ?_;rintro e u5 ⟨rfl,hc5⟩;have HV5:=jH (a0D (a0D HV4.out hd5) hc5)
         (try (have HZ:=jH (jK hc5 hz)))
         (try clear hz)
         (try (have HS:=jH (fun U (hU:jB u5 U)=>HS.out U (a0D hd5 (a0D hc5 hU)))))
         (try (have HP:=jH (fun U (hU:jB u5 U)=>HP.out U (a0D hd5 (a0D hc5 hU)))))
         clear hc5 hd5
         (first
           | (have h7:=HZ.out
              have h8:=a0A jR h7;clear h7;obtain ⟨y1,y2,y3⟩:=h8)
           | skip)))
    all_goals
      go_wp2_with fail
      go_meet
      refine ⟨_,rfl,rfl,?_⟩
      first
       | exact box_in HZ.out (by first|exact Nat.le_refl _|exact HV1.out.size|exact HV2.out.size|exact HV3.out.size|exact HV4.out.size) HV5.out [.int .i64 a.tick,.int .i64 a.load,.int .i64 a.want,.int .i64 a.repl,.int .i64 a.why] rfl
       | exact f1A HV5.out [.int .i64 a.tick,.int .i64 a.load,.int .i64 a.want,.int .i64 a.repl,.int .i64 a.why]
       | trace_state
   case rest =>
    obtain ⟨X,rfl,rfl,hX,hle,hb⟩:=hcut;rename World=>wr
    have HX:=jH hX;have HLE:=jH hle;have HB:=jH hb;clear hX hle hb;have HX8:=jH (jK HB.out HX0.out)
    by_cases he:er=0
    · subst he
      go_upto_region 11 with fail
      have HS0:=jH (And.intro HX.out (jK HB.out HK0.out));refine j0A (S:=(fun U=>U.heap[X]?=some (.cells #[.int .i64 a.tick,.int .i64 a.load,.int .i64 a.want,.int .i64 a.repl,.int .i64 a.why] 44 (0,0))∧U.heap[w2.heap.size]?=some (.cells #[.int .u64 k.1,.int .u64 k.2] 74 (0,0)))) 5 (by kernel_rfl) ?hS1 (fun hHeld=>?_)
      case hS1=>(first|exact HS0.out|exact HS8.out|exact ⟨HS0.out.1,HS0.out.2⟩|exact ⟨HS8.out.1,HS8.out.2⟩)
      refine a0P (i:=0) (v:=?v2) rfl (by kernel_rfl) (by kernel_rfl) (by kernel_rfl) (by kernel_rfl) (fun _ _ _ h=>h) (Or.inl ⟨by rfl,?hy2⟩) (by assumption) ?_
      case hy2 =>
       intro w' hSw
       (try dsimp only at hSw)
       obtain ⟨e1,e2,e3⟩:=a0A jR hSw.1;obtain ⟨e4,e5,e6⟩:=a0A jR hSw.2;go_simp
       try (with_reducible rfl)
      try simp only [Act.put,jA]
      refine a0P (i:=1) (v:=?v3) rfl (by kernel_rfl) (by kernel_rfl) (by kernel_rfl) (by kernel_rfl) (fun _ _ _ h=>h) (Or.inl ⟨by rfl,?hy3⟩) (by assumption) ?_
      case hy3 =>
       intro w' hSw
       (try dsimp only at hSw)
       go_simp
       try (with_reducible rfl)
      try simp only [Act.put,jA]
      refine a0P (i:=2) (v:=?v4) rfl (by kernel_rfl) (by kernel_rfl) (by kernel_rfl) (by kernel_rfl) (fun _ _ _ h=>h) (Or.inl ⟨by rfl,?hy4⟩) (by assumption) ?_
      case hy4 =>
       intro w' hSw
       (try dsimp only at hSw)
       obtain ⟨e1,e2,e3⟩:=a0A jR hSw.1;obtain ⟨e4,e5,e6⟩:=a0A jR hSw.2;go_simp
       try (with_reducible rfl)
      try simp only [Act.put,jA]
      refine a0P (i:=3) (v:=?v5) rfl (by kernel_rfl) (by kernel_rfl) (by kernel_rfl) (by kernel_rfl) (fun _ _ _ h=>h) (Or.inl ⟨by rfl,?hy5⟩) (by assumption) ?_
      case hy5 =>
       intro w' hSw
       (try dsimp only at hSw)
       obtain ⟨e1,e2,e3⟩:=a0A jR hSw.1;obtain ⟨e4,e5,e6⟩:=a0A jR hSw.2;go_simp
       try (with_reducible rfl)
      try simp only [Act.put,jA]
      refine c0V (i:=4) (by kernel_rfl) rfl (fun K hK=>?_);go_simp
      (go_at_call 109
       refine a0B ?_;intro V hV;have hdv:jB wr V:=by rw [hV];first|exact jR|exact jR.drew|exact a0G jR _
       clear hV;have hdw:=a0D (a0D HB0.out HB.out) hdv;refine (CN.out V hdw).mono ?_;rintro e w8 ⟨es',rfl,hat,hab,hu,ho⟩;obtain ⟨d',hd',hu',_⟩:=CW.out V hdw (Nat.lt_of_lt_of_le HL0.out (a0D HB.out hdv).size) w8 es' hat hab hu ho;have HD:=jH hd';have HU:=jH ((Upd.of_below hdw (d.fp S)).trans hu');have HXR:=jH (g0K hu' (fun hq=>Nat.lt_irrefl _ (HFP.out _ hq)) (jK (a0D HB.out hdv) HX0.out))
       have HS8:=jH (And.intro (g0K hu' (fun hq=>by have:=HFP.out _ hq;have:=HLE.out;have:=HL0.out;omega) (jK hdv HX.out)) (g0K hu' (fun hq=>by have:=HFP.out _ hq;have:=HB2.out.size;omega) (jK (a0D HB.out hdv) HK0.out)));clear hat hab hu ho hd' hu' hdw hdv;obtain ⟨y1,y2,y3⟩:=a0A jR HXR.out)
      try go_simp
      refine hK.out _ _ ?hS6 (fun hHeld2=>?_)
      case hS6 =>
       intro _
       (first|exact HS0.out|exact HS8.out|exact ⟨HS0.out.1,HS0.out.2⟩|exact ⟨HS8.out.1,HS8.out.2⟩)
      clear hK K hHeld;have hHeld:=hHeld2 (by kernel_rfl);clear hHeld2
      try simp only [Act.put,jA]
      refine c0V (i:=5) (by kernel_rfl) rfl (fun K hK=>?_);go_simp
      skip
      try go_simp
      refine hK.out _ _ ?hS7 (fun hHeld2=>?_)
      case hS7=>exact fun h=>nomatch (show (true:Bool)=false from h)
      clear hK K hHeld hHeld2
      try simp only [Act.put,jA]
      refine c0V (i:=6) (by kernel_rfl) rfl (fun K hK=>?_);go_simp
      skip
      try go_simp
      refine hK.out _ _ ?hS8 (fun hHeld2=>?_)
      case hS8=>exact fun h=>nomatch (show (true:Bool)=false from h)
      clear hK K hHeld2
      try simp only [Act.put,jA]
      refine i0R (by kernel_rfl) ?_ _;refine a0Y ?_;intro W9 hW9;have hW9':W9=c0T w8 w.heap.size 0 [.int .i64 a.tick,.int .i64 a.load,.int .i64 a.want,.int .i64 a.repl,.int .i64 a.why]:=hW9;obtain ⟨t1,t2,t3,t4⟩:=a0M HXR.out [.int .i64 a.tick,.int .i64 a.load,.int .i64 a.want,.int .i64 a.repl,.int .i64 a.why] rfl W9 hW9';obtain ⟨a9,a8,a7⟩:=a0A jR t1;clear hW9 hW9';go_wp2_with fail
      exact bodyPost_ret (v:=.tuple #[.agg #[.int .i64 a.tick,.int .i64 a.load,.int .i64 a.want,.int .i64 a.repl,.int .i64 a.why],.int .i64 0]) (by simp [results,Tryz.results44,go_sem,a9]) rfl ⟨fun h=>absurd rfl h,fun _=>by rw [HRR.out];exact d0T (Nat.le_refl _) HD.out HU.out t2 t3 t4⟩
    · have z0:(er == 0)=false:=by simpa using he
      have z1:(er != 0)=true:=by simpa using he
      obtain ⟨x1,x2,x3⟩:=a0A jR HX8.out;go_wp2_with fail
      refine a0H ?_;intro W9 hW9;have hW9':W9=c0T wr w.heap.size 0 [.int .i64 0,.int .i64 0,.int .i64 0,.int .i64 0,.int .i64 0]:=hW9;obtain ⟨s1,s2,s3,s4⟩:=a0M HX8.out [.int .i64 0,.int .i64 0,.int .i64 0,.int .i64 0,.int .i64 0] rfl W9 hW9';obtain ⟨a9,a8,a7⟩:=a0A jR s1;clear hW9 hW9';exact bodyPost_ret (v:=.tuple #[.agg #[.int .i64 0,.int .i64 0,.int .i64 0,.int .i64 0,.int .i64 0],.int .i64 er]) (by simp [results,Tryz.results44,go_sem,a9]) rfl ⟨fun _=>⟨rfl,(a0D HB0.out HB.out).trans (s4 _ (Nat.le_refl _))⟩,fun h=>absurd h he⟩
end
section
open Go.RowKit Go.Lib Go.Sort
theorem eStp:g0Y 146 78 1 8 (.pointer none) stpC :=
 ⟨by kernel_rfl,by kernel_rfl,rfl,by decide,by decide,fun _=>rfl,fun x u hu=>by
  simp only [stpC,List.mem_cons,List.not_mem_nil,or_false] at hu
  subst hu
  rfl⟩
theorem a1Q (w:World) :
 Calls Tryz.prog 78 #[] w fun e w'=>e=.returned (.pointer (some ⟨w.heap.size+1,0,none⟩))∧w'=(w.alloc (.map #[] 0)).alloc (.cells #[.map (some w.heap.size),.int .i64 1] 229):=by
 have hmm:=@run_makeMap Tryz.prog
 go_enter Tryz.func78,Tryz.ntmps78
 go_wp2
 go_ret
 exact ⟨by simp,rfl⟩
structure i1Z (w wr:World) (S H L base:Nat) (c:Cfg) (rs rh:Nat) (v:Value) (sts:List St):Prop where
 x0:wr.heap[w.heap.size]?=some (.cells #[.int .i64 c.st,.int .i64 c.sa,.int .i64 c.lo,.int .i64 c.hi] 23 (0,0))
 b:jB w wr
 cell:wr.heap[S]?=some (.cells #[v,.pointer (some ⟨H,0,none⟩),.int .i64 0,.bool false] 148 (0,0))
 tab:wr.heap[H]?=some (.cells #[.map (some L),.int .i64 1] 229 (0,0))
 live:a0V hdV o0H wr L ([]:List (HN × Nat))
 low:w.heap.size<S∧w.heap.size≤H∧w.heap.size≤L∧S<base∧H<base∧L<base∧base≤wr.heap.size
 ne:S≠H∧S≠L∧H≠L
 own:b0Q stpC 78 1 base wr v sts
 str:∀s∈sts,f0Y wr c rs rh 0 s []
 pair:∀(i j:Nat) s t,sts[i]?=some s→sts[j]?=some t→i≠j→apart s.all t.all
 off:∀s∈sts,∀r∈s.all,base≤r∧v.ownBlock≠some r
theorem i1Z.below {w wr w':World} {S H L base:Nat} {c:Cfg} {rs rh:Nat} {v:Value} {sts:List St} (h:i1Z w wr S H L base c rs rh v sts) (hb:jB wr w'):i1Z w w' S H L base c rs rh v sts :=
 ⟨(hb.block _ (Array.getElem?_eq_some_iff.1 h.x0).1).trans h.x0,a0D h.b hb,(hb.block _ (Array.getElem?_eq_some_iff.1 h.cell).1).trans h.cell,(hb.block _ (Array.getElem?_eq_some_iff.1 h.tab).1).trans h.tab,h.live.below hb,by have:=h.low;have:=hb.size;omega,h.ne,h.own.below hb,fun s hs=>(h.str s hs).kept (fun r hr=>hb.block r ((h.str s hs).lt r hr)),h.pair,h.off⟩
theorem i1Z.step {w wr w1 u w2 w3:World} {S H L base:Nat} {c:Cfg} {rs rh:Nat} {v v2:Value} {sts:List St} {T M:Nat} (h:i1Z w wr S H L base c rs rh v sts) (hb:jB wr w1) (hs:SAt w1 T M c 0 [] rs rh) (hT:wr.heap.size≤T∧wr.heap.size≤M)
    (hu:jB w1 u) (hg:u.grownBy w2 v.ownBlock) (hblk:v2.ownBlock=v.ownBlock∨v2.ownBlock=some u.heap.size) (ho:b0Q stpC 78 1 base w2 v2 (sts++[⟨T,M,0,[]⟩])) (h3:w3=w2.setCell ⟨S,0,none⟩ v2) :
    i1Z w w3 S H L base c rs rh v2 (sts++[⟨T,M,0,[]⟩]):=by
  have hlow:=h.low;have h1:=h.below (hb.trans (hu.mono hb.size));have hus:wr.heap.size≤u.heap.size:=Nat.le_trans hb.size hu.size;have hb12:Below base u w2:=c0C hg (by omega) (fun r hr=>(h.own.lt hr).1);have hsz:=hb12.size;have hk:∀r,r≠S→w3.heap[r]?=w2.heap[r]?:=fun r hr=>by rw [h3];exact a0K rfl hr
  have hs3:w3.heap.size=w2.heap.size:=by rw [h3];simp
  have hblk2:∀r,r<u.heap.size→v.ownBlock≠some r→w2.heap[r]?=u.heap[r]?:=fun r hr hn=>hg.block r hr (Ne.symm hn)
  have hTM:T<w1.heap.size∧M<w1.heap.size:=⟨hs.ltT,hs.map.lt⟩;have huw:=hu.size;have hw1:=hb.size;have hown:∀r,v.ownBlock=some r→base≤r∧r<wr.heap.size:=fun r hr=>h.own.lt hr
  have hnew:f0Y w1 c rs rh 0 ⟨T,M,0,[]⟩ []:=⟨hs,b0N.nil,⟨Nat.le_refl _,fun p hp=>by cases hp⟩,Nat.le_refl _⟩;have hnall:St.all ⟨T,M,0,[]⟩=[T,M]:=rfl;refine ⟨(hk w.heap.size (by omega)).trans ((hb12.block w.heap.size (by omega)).trans h1.x0),?_,?_,?_,?_,by omega,h.ne,ho.kept (fun r hr=>hk r (by have:=(ho.lt hr).1;omega)),fun s hs'=>?_,fun i j s t hi hj hij=>?_,fun s hs' r hr=>?_⟩
  · rw [h3]
    exact (h1.b.trans (hb12.mono (by omega))).setCell (by simp;omega) _
  · rw [h3,a0E ((hb12.block S (by omega)).trans h1.cell)]
    rfl
  · exact (hk H (Ne.symm h.ne.1)).trans ((hb12.block H (by omega)).trans h1.tab)
  · exact h1.live.block ((hk L (Ne.symm h.ne.2.1)).trans (hb12.block L (by omega)))
  · rcases List.mem_append.1 hs' with hs'|hs'
    · refine (h1.str s hs').kept (fun r hr=>?_)
      have h9:=h.off s hs' r hr;exact (hk r (by omega)).trans (hblk2 r (by have:=(h.str s hs').lt r hr;omega) h9.2)
    · rw [List.mem_singleton.1 hs']
      refine hnew.kept (fun r hr=>?_);have hr2:r=T∨r=M:=by rw [hnall] at hr;simpa using hr
      have hr3:wr.heap.size≤r∧r<w1.heap.size:=by rcases hr2 with rfl|rfl <;> omega
      refine (hk r (by omega)).trans ((hblk2 r (by omega) (fun e=>by have:=hown r e;omega)).trans (hu.block r hr3.2))
  · have hsplit:∀(i:Nat) s,(sts++[⟨T,M,0,[]⟩])[i]?=some s→(i<sts.length∧sts[i]?=some s)∨(i=sts.length∧s=⟨T,M,0,[]⟩):=fun i s hi=>by
     rcases Nat.lt_or_ge i sts.length with h9|h9
     · rw [List.getElem?_append_left h9] at hi
       exact .inl ⟨h9,hi⟩
     · rw [List.getElem?_append_right h9] at hi
       have:=(List.getElem?_eq_some_iff.1 hi).1;simp at this
       have e:i=sts.length:=by omega
       subst e;simp at hi
       exact .inr ⟨rfl,hi.symm⟩
    have hlt:∀s∈sts,∀r∈s.all,r<wr.heap.size:=fun s hs r hr=>(h.str s hs).lt r hr
    rcases hsplit i s hi with ⟨h4,h5⟩|⟨h4,h5⟩
    · rcases hsplit j t hj with ⟨h6,h7⟩|⟨h6,h7⟩
      · exact h.pair i j s t h5 h7 hij
      · intro r hr hr'
        rw [h7,hnall] at hr';have:=hlt s (List.mem_of_getElem? h5) r hr;have hr2:r=T∨r=M:=by simpa using hr'
        rcases hr2 with rfl|rfl <;> omega
    · rcases hsplit j t hj with ⟨h6,h7⟩|⟨h6,h7⟩
      · intro r hr hr'
        rw [h5,hnall] at hr;have:=hlt t (List.mem_of_getElem? h7) r hr';have hr2:r=T∨r=M:=by simpa using hr
        rcases hr2 with rfl|rfl <;> omega
      · omega
  · rcases List.mem_append.1 hs' with hs'|hs'
    · have h9:=h.off s hs' r hr
      refine ⟨h9.1,fun e=>?_⟩
      rcases hblk with h8|h8
      · rw [h8] at e;exact h9.2 e
      · rw [h8] at e
        injection e with e
        have:=(h.str s hs').lt r hr;omega
    · rw [List.mem_singleton.1 hs',hnall] at hr
      have hr2:r=T∨r=M:=by simpa using hr
      have hr3:wr.heap.size≤r∧r<w1.heap.size:=by rcases hr2 with rfl|rfl <;> omega
      refine ⟨by omega,fun e=>?_⟩
      rcases hblk with h8|h8
      · rw [h8] at e;have:=hown r e;omega
      · rw [h8] at e
        injection e with e
        omega
theorem i1Z.done {w wr:World} {S H L base:Nat} {c:Cfg} {rs rh:Nat} {v:Value} {sts:List St} (h:i1Z w wr S H L base c rs rh v sts) (hp:0<sts.length):∃d,a0I (fun b=>w.heap.size≤b) wr S c rs rh 0 (o0J sts.length) d∧d.sts.length=sts.length:=by
 obtain ⟨A,cp,rfl⟩:=h.own.form;have hform:=h.own.2;obtain ⟨g,rfl⟩:∃g,A=some ⟨g,0,none⟩:=by
  rcases h.own.2 with ⟨e,e2⟩|⟨g,cap,cur,e,_⟩
  · omega
  · injection e with e1 _ _
    exact ⟨g,e1⟩
 have hlow:=h.low;refine ⟨⟨g,cp,H,L,sts,[]⟩,⟨h.cell,?_,by simp [o0J],fun i s R hs hR=>?_,h.pair,fun s hs=>?_,h.ne,h.tab,h.live,(fun p hp=>by cases hp),fun i q hq=>?_,rfl,by dsimp only;omega,fun s hs r hr=>by have:=(h.off s hs r hr).1;omega⟩,rfl⟩
 · refine ⟨h.own.row eStp,fun b o m c' e hn=>?_⟩
   injection e with e1 _ _
   injection e1 with e1
   injection e1 with e1 _ _
   have e1:g=b:=e1;subst e1;have hg:=h.own.lt (r:=g) rfl;refine ⟨fun hq=>?_,by omega⟩
   rcases c0E.1 hq with e|e|e|⟨s,hs,hr⟩
   · omega
   · dsimp only at e;omega
   · dsimp only at e;omega
   · exact (h.off s hs g (s.sub g hr)).2 rfl
 · have:R=[]:=by
    have h9:=List.mem_of_getElem? hR;exact List.eq_of_mem_replicate h9
   rw [this];exact h.str s (List.mem_of_getElem? hs)
 · refine ⟨fun hq=>?_,fun hq=>?_,fun hq=>?_⟩
   · have:=(h.off s hs _ hq).1;omega
   · have:=(h.off s hs _ hq).1;dsimp only at this;omega
   · have:=(h.off s hs _ hq).1;dsimp only at this;omega
 · simp [o0J] at hq
def NewSto (w:World) (c:Cfg) (rs rh:Nat) (e:Ending) (w':World):Prop :=
 ∃S d,e=.returned (.tuple #[.pointer (some ⟨S,0,none⟩),.int .i64 0])∧a0I (fun b=>w.heap.size≤b) w' S c rs rh 0 (o0J d.sts.length) d∧(d.sts.length:Int)=c.st∧jB w w'
theorem c1W (c:Cfg) (rs rh:Nat) (w:World) (hc:b0S c rs rh) :
 Calls Tryz.prog 27 #[n0D c] w (NewSto w c rs rh):=by
 have HNR:=jH (fun W=>f0A c W hc.ok);have HE:=jH (show d1J c=0 by unfold d1J;rw [if_pos hc.cfg]);have hst:e0R c.st=true:=by have:=hc.cfg;unfold h0A at this;simp only [Bool.and_eq_true] at this;exact this.1
 have hbd:=d0L _ hst;obtain ⟨N,hN⟩:=Int.eq_ofNat_of_zero_le (show 0≤c.st by omega);have CN:=jH (fun W=>q0N c rs rh W hc.cfg hc.ok);have HNC:=jH hN;rw [HE.out] at HNR;have hN1:0<N:=by omega
 have hN64:N≤64:=by omega
 unfold n0D at HNR CN ⊢;have hstn:c.st=(N:Int):=hN;clear hc hst hbd hN;rw [hstn] at HNR CN ⊢
 go_enter Tryz.func27,Tryz.ntmps27
 go_wp2_with (first
  | (go_at_call 46
     refine a0B ?_;intro W1 hW1;have hb1:jB w W1:=by rw [hW1];exact a0C jR _
     have hx1:W1.heap[w.heap.size]?=some (.cells #[.int .i64 (N:Nat),.int .i64 c.sa,.int .i64 c.lo,.int .i64 c.hi] 23 (0,0)):=by rw [hW1];exact heap_alloc_new _ _
     clear hW1;refine (HNR.out W1).mono ?_;rintro e w2 ⟨rfl,hb2⟩;have HX2:=jH (jK hb2 hx1);have HB2:=jH (a0D hb1 hb2);clear hb1 hb2 hx1)
  | (go_at_call 78
     refine (a1Q _).mono ?_;rintro e w3 ⟨rfl,hw3⟩;have hb3:jB w2 w3:=by rw [hw3];exact a0C (a0C jR _) _
     have HX3:=jH (jK hb3 HX2.out);have HB3:=jH (a0D HB2.out hb3);have HH3:=jH (show w3.heap[w2.heap.size+1]?=some (.cells #[.map (some w2.heap.size),.int .i64 1] 229 (0,0)) by rw [hw3];exact c0G _ _ _);have HL3:=jH (show a0V hdV o0H w3 w2.heap.size ([]:List (HN × Nat)) by rw [hw3];exact (a0V.made w2).below (a0C jR _));have HZ3:=jH (show w3.heap.size=w2.heap.size+2 by rw [hw3];simp);obtain ⟨c1,c2,c3⟩:=a0A jR HX3.out
     clear hw3 hb3))
 have HM:=jH (show i1Z w (w3.alloc (.cells #[.slice none 0 0,.pointer (some ⟨w2.heap.size+1,0,none⟩),.int .i64 0,.bool false] 148)) w3.heap.size (w2.heap.size+1) w2.heap.size (w3.heap.size+1) c rs rh (.slice none 0 0) [] from by
  have hba:=a0C (Below.refl w3.heap.size w3) (.cells #[.slice none 0 0,.pointer (some ⟨w2.heap.size+1,0,none⟩),.int .i64 0,.bool false] 148);have hz:=HZ3.out;have hlt:w.heap.size<w2.heap.size:=(jL HX2.out);refine ⟨?_,a0D HB3.out hba,heap_alloc_new _ _,(hba.block _ (by omega)).trans HH3.out,HL3.out.below hba,⟨by omega,by omega,by omega,by omega,by omega,by omega,by simp⟩,by omega,b0Q.nil _ _,(fun s hs=>by cases hs),(fun i j s t hi=>by simp at hi),(fun s hs=>by cases hs)⟩
  rw [HNC.out];exact (hba.block _ (by omega)).trans HX3.out)
 clear c1 c2 c3
 go_loopg [16] N (fun g s16 wr=>∃(v:Value) (sts:List St),sts.length≤N∧N - sts.length≤g∧s16=.int .i64 (sts.length:Nat)∧i1Z w wr w3.heap.size (w2.heap.size+1) w2.heap.size (w3.heap.size+1) c rs rh v sts)
 case atStart=>exact ⟨_,[],Nat.zero_le _,Nat.le_refl _,rfl,HM.out⟩
 case round =>
  obtain ⟨v,sts,hk,hg,rfl,hat⟩:=hrel;rename World=>wr
  obtain ⟨A3,c3,rfl⟩:=hat.own.form;have HA:=jH hat;obtain ⟨a1,a2,a3⟩:=a0A jR hat.cell;obtain ⟨d1,d2,d3⟩:=a0A jR hat.x0;rw [HNC.out] at d1;have hlow:=hat.low;clear hat
  by_cases hlt:sts.length<N
  · have z1:(sts.length:Int)<(N:Int):=by omega
    go_wp2_with fail
    go_region_law (first
     | (refine d0W eStp (by rfl) (.tmp 22) (.tmp 25) (by rfl) (w3.heap.size+1) sts [⟨T,M,0,[]⟩] (.slice A3 sts.length c3) _ (by rfl) (by rfl) (HO4.out.below (by repeat (first|exact jR|refine a0C ?_ _|refine Below.drew ?_|refine a0G ?_ _))) (a0Q.lit (n:=1) (f:=stpC) _ ⟨T,M,0,[]⟩ _ _ _ (by first|rfl|simp) rfl) (by simp;omega) (by have:=HZ4.out;simp;omega) ?_
        intro out6 A6 c6 w6 hout6 hown6 hg6 hblk6;have HG6:=jH hg6;have HBK6:=jH hblk6;have HO6:=jH hown6;have HE6:=jH hout6;have hS6:=(hg6.block w3.heap.size (by simp;have:=HZ4.out;omega) (fun e=>by have:=HO4.out.lt e.symm;omega)).trans (((by repeat (first|exact jR|refine a0C ?_ _|refine Below.drew ?_|refine a0G ?_ _):jB w4 _).block _ (by have:=HZ4.out;omega)).trans HC4.out);obtain ⟨e1,e2,e3⟩:=a0A jR hS6
        clear hS6 hout6 hown6 hg6 hblk6)
     | (go_simp
        go_at_call 79
        refine a0B ?_;intro W2 hW2;have hb2:jB wr W2:=by rw [hW2];repeat (first|exact jR|refine a0C ?_ _|refine Below.drew ?_)
        clear hW2;refine (CN.out W2).mono ?_;rintro e w4 ⟨T,fp,rfl,hs4,hf4,hb4⟩;obtain ⟨M,hs5,hfp⟩:=hs4.at_;have hTM:wr.heap.size≤T∧wr.heap.size≤M:=by
         have h1:=hf4 T (by rw [hfp];simp);have h2:=hf4 M (by rw [hfp];simp);have:=hb2.size;omega
        have HTM:=jH hTM;have HS5:=jH hs5;have HB4:=jH (a0D hb2 hb4);have HO4:=jH (HA.out.own.below (a0D hb2 hb4));have HZ4:=jH (show w3.heap.size+1≤w4.heap.size from Nat.le_trans (by omega) (a0D hb2 hb4).size);have HC4:=jH (((a0D hb2 hb4).block _ (Array.getElem?_eq_some_iff.1 HA.out.cell).1).trans HA.out.cell);obtain ⟨q1,q2,q3⟩:=a0A (a0D hb2 hb4) HA.out.cell;obtain ⟨p1,p2,p3⟩:=a0A (a0D hb2 hb4) HA.out.x0
        clear hs4 hf4 hb4 hb2 hs5 hfp hTM))
    all_goals
      have hw:IntKind.i64.wrap ((sts.length:Nat)+1:Int)=((sts.length+1:Nat):Int):=by rw [IntKind.wrap_i64];omega
      go_wp2
      go_roundg (N - (sts.length+1))
      case measure=>omega
      case rel =>
       have hout:=HE6.out;subst hout;exact ⟨_,_,by simp;omega,by simp,by simp,HA.out.step HB4.out HS5.out HTM.out (by repeat (first|exact jR|refine a0C ?_ _|refine Below.drew ?_|refine a0G ?_ _)) HG6.out HBK6.out HO6.out rfl⟩
  · obtain rfl:N=sts.length:=by omega
    have z1:¬(sts.length:Int)<(sts.length:Int):=by omega
    go_wp2
    go_ret2
    obtain ⟨d,hd,hds⟩:=HA.out.done hN1;exact ⟨_,d,rfl,by rw [hds];exact hd,by rw [hds];exact HNC.out.symm,HA.out.b⟩
structure SW (B:Nat→Prop) (w:World) (S:Nat) (c:Cfg) (rs rh n:Nat) (wd:Wd) (d:d0Y):Prop where
 at_:a0I B w S c rs rh n wd d
 ok:h0C c rs rh n wd
 home:b0V c wd
 tot:(d0D wd).length≤n
theorem SW.below {B:Nat→Prop} {w w':World} {S:Nat} {c:Cfg} {rs rh n:Nat} {wd:Wd} {d:d0Y} (h:SW B w S c rs rh n wd d) (hb:jB w w'):SW B w' S c rs rh n wd d:=⟨h.at_.below hb,h.ok,h.home,h.tot⟩
def g1Q (B:Nat→Prop) (w:World) (S:Nat) (c:Cfg) (rs rh n:Nat) (fp:List Nat) (v:Value) (wd:Wd) (e:Ending) (w':World):Prop:=∃d',e=.returned v∧SW B w' S c rs rh n wd d'∧Upd w w' fp (d'.fp S)
theorem sw_do {B:Nat→Prop} {w:World} {S:Nat} {c:Cfg} {rs rh n:Nat} {wd:Wd} {d:d0Y} (h:SW B w S c rs rh n wd d) (hB:∀b,w.heap.size≤b→B b) (hc:b0S c rs rh) (hn:n≤99) (x:b0Z) (hx:x.ok) :
 Calls Tryz.prog 28 #[.pointer (some ⟨S,0,none⟩),a0S x] w (g1Q B w S c rs rh (n+1) (d.fp S) (a0X (doW c rs rh wd x).2) (doW c rs rh wd x).1):=by
 have hst:e0R c.st=true:=by have:=hc.cfg;unfold h0A at this;simp only [Bool.and_eq_true] at this;exact this.1
 have hbd:=d0L _ hst;have hlo:c.lo≤256:=by have:=hc.cfg;unfold h0A at this;simp only [Bool.and_eq_true,decide_eq_true_eq] at this;omega
 refine (g1L w h.at_ hB hc h.ok h.home (by have:=h.tot;omega) (by omega) x hx).mono ?_;rintro e w' ⟨fp',rfl,⟨d',hd',rfl⟩,hu⟩;exact ⟨d',rfl,⟨hd',o1A h.ok hbd.2 hlo hc.room.h1 hx,f1G h.home hst h.ok.len,Nat.le_trans tot_do (by have:=h.tot;omega)⟩,hu⟩
theorem sw_new {w:World} {c:Cfg} {rs rh:Nat} (hc:b0S c rs rh):Calls Tryz.prog 27 #[n0D c] w fun e w'=>∃S d,e=.returned (.tuple #[.pointer (some ⟨S,0,none⟩),.int .i64 0])∧SW (fun b=>w.heap.size≤b) w' S c rs rh 0 (o0J c.st.toNat) d∧jB w w':=by
 have hst:e0R c.st=true:=by have:=hc.cfg;unfold h0A at this;simp only [Bool.and_eq_true] at this;exact this.1
 have hbd:=d0L _ hst;refine (c1W c rs rh w hc).mono ?_;rintro e w' ⟨S,d,rfl,h,hl,hb⟩;have e9:d.sts.length=c.st.toNat:=by omega
 rw [e9] at h;exact ⟨S,d,rfl,⟨h,d1W c rs rh _ (by omega),p0T c _,by rw [g1V];exact Nat.le_refl _⟩,hb⟩
end
section
open Go.RowKit Go.Lib


def i1X (c:Cfg) (rs rh:Nat) (w:Wd) (id:ByteArray):Wd × Adv × Int :=
 if idS id=false then (w,b0O,2)
 else if (e0C w id).2≠0 then (w,b0O,(e0C w id).2)
 else ((e0D c rs rh w id (e0C w id).1).1,(e0C w id).1,0)
theorem f1P {w:Wd} {id:ByteArray} (h:(e0C w id).2≠0):(e0C w id).1=b0O:=by
 revert h
 unfold e0C
 split
 · intro _;rfl
 · split
   · unfold o0G
     split
     · intro _;rfl
     · split
       · intro _;rfl
       · intro h;exact absurd rfl h
   · intro _;rfl
theorem z0T {w:Wd} {id:ByteArray} (h:(e0C w id).2=0):∃y,h0O w id=some y∧y.ruled=true∧e0C w id=o0G y.pol y.smp y.past:=by
 revert h
 unfold e0C
 split
 · intro h;exact absurd h (by decide)
 · rename_i y hy
   split
   · rename_i hr
     intro _;exact ⟨y,hy,hr,rfl⟩
   · intro h;exact absurd h (by decide)
theorem SW.new {B:Nat→Prop} {w:World} {S:Nat} {c:Cfg} {rs rh n:Nat} {wd:Wd} {d:d0Y} (h:SW B w S c rs rh n wd d):∀b,w.heap.size≤b→b∉d.fp S:=fun b hb hq=>by have:=(h.at_.fpLt b hq).1;omega
theorem SW.mono1 {B:Nat→Prop} {w:World} {S:Nat} {c:Cfg} {rs rh n:Nat} {wd:Wd} {d:d0Y} (h:SW B w S c rs rh n wd d):SW B w S c rs rh (n+1) wd d :=
 ⟨h.at_.mono (Nat.le_succ n),h.ok.mono (Nat.le_succ n),h.home,Nat.le_succ_of_le h.tot⟩
theorem x0Y {c:Cfg} {rs rh:Nat} {w:Wd} {id:ByteArray} (h:idS id=false):i1X c rs rh w id=(w,b0O,2):=by
 unfold i1X;rw [if_pos h]
theorem y0Z {c:Cfg} {rs rh:Nat} {w:Wd} {id:ByteArray} (h:idS id=true) (he:(e0C w id).2≠0):i1X c rs rh w id=(w,b0O,(e0C w id).2):=by
 unfold i1X;rw [if_neg (by rw [h];decide),if_pos he]
theorem h1W {c:Cfg} {rs rh:Nat} {w:Wd} {id:ByteArray} (h:idS id=true) (he:(e0C w id).2=0):i1X c rs rh w id=((e0D c rs rh w id (e0C w id).1).1,(e0C w id).1,0):=by
 unfold i1X;rw [if_neg (by rw [h];decide),if_neg (by rw [he];decide)]
theorem sw_dec {B:Nat→Prop} {w:World} {S:Nat} {c:Cfg} {rs rh n:Nat} {wd:Wd} {d:d0Y} (h:SW B w S c rs rh n wd d) (hB:∀b,w.heap.size≤b→B b) (hc:b0S c rs rh) (hn:n≤40) (id:ByteArray) (hm:id.size≤maxLen) :
 Calls Tryz.prog 44 #[.pointer (some ⟨S,0,none⟩),.string id] w (g1Q B w S c rs rh (n+1) (d.fp S) (.tuple #[.agg (c0U (i1X c rs rh wd id).2.1).toArray,.int .i64 (i1X c rs rh wd id).2.2]) (i1X c rs rh wd id).1):=by
 have hst:e0R c.st=true:=by have:=hc.cfg;unfold h0A at this;simp only [Bool.and_eq_true] at this;exact this.1
 have hbd:=d0L _ hst;have hlo:c.lo≤256:=by have:=hc.cfg;unfold h0A at this;simp only [Bool.and_eq_true,decide_eq_true_eq] at this;omega
 have hl:(d.sts.length:Int)=c.st:=by rw [h.at_.len];exact h.ok.len
 have same:∀{v:Value} {e:Ending} {w':World},(e=.returned v∧jB w w')→g1Q B w S c rs rh (n+1) (d.fp S) v wd e w':=fun hh=>⟨d,hh.1,(h.below hh.2).mono1,Upd.of_below hh.2 _⟩
 cases hid:idS id with
 | false =>
   rw [x0Y hid];exact (c1H _ id w hm hid).mono (fun e w' hh=>same hh)
 | true =>
   by_cases he:(e0C wd id).2=0
   · rw [h1W hid he]
     obtain ⟨y,hy,hr,hp⟩:=z0T he;rw [hp] at he ⊢;refine (l0M w h.at_ hB hc h.ok h.home (by omega) id hm hid hy hr (a:=(o0G y.pol y.smp y.past).1) (er:=(o0G y.pol y.smp y.past).2) rfl).mono ?_;rintro e w' hh;obtain ⟨fp',rfl,⟨d',hd',rfl⟩,hu⟩:=hh.2 he;exact ⟨d',rfl,⟨hd',z0P h.ok hlo hc.room.h1,v0Q h.home hst h.ok.len,Nat.le_trans k1J (Nat.succ_le_succ h.tot)⟩,hu⟩
   · rw [y0Z hid he]
     cases hy:h0O wd id with
     | none =>
       have hpl:(e0C wd id).2=5:=by unfold e0C;rw [hy]
       rw [hpl];exact (w0F w h.at_ hl hst h.home id hm hid hy).mono (fun e w' hh=>same hh)
     | some y =>
       cases hr:y.ruled with
       | false =>
         have hpl:(e0C wd id).2=5:=by unfold e0C;rw [hy];dsimp only;rw [hr];rfl
         rw [hpl];exact (o0M w h.at_ hl hst h.home id hm hid hy hr).mono (fun e w' hh=>same hh)
       | true =>
         have hpl:e0C wd id=o0G y.pol y.smp y.past:=by unfold e0C;rw [hy];dsimp only;rw [hr];rfl
         rw [hpl] at he ⊢;exact (l0M w h.at_ hB hc h.ok h.home (by omega) id hm hid hy hr (a:=(o0G y.pol y.smp y.past).1) (er:=(o0G y.pol y.smp y.past).2) rfl).mono (fun e w' hh=>same (hh.1 he))
end
end Go.Proofs.YtmniiodpbebnmaaGreat
