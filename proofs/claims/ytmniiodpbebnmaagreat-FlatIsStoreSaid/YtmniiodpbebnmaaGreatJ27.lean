/- Part 27 of the proof. -/
import Derived.Test.YtmniiodpbebnmaaGreatJ26
import Derived.Maps.Keyed
namespace Go.Proofs.YtmniiodpbebnmaaGreat
set_option linter.unusedSimpArgs false
set_option linter.unusedVariables false
set_option linter.unusedSectionVars false
set_option maxRecDepth 100000
set_option maxHeartbeats 16000000
section
open Go.RowKit Go.Lib Go.Sort
def h1S (p:Itm):It:=⟨p.1,none,0,none,0,p.2⟩
theorem f0X (R:List Itm):(R.map h1S).map g0O=R:=by
 rw [List.map_map];exact (List.map_congr_left (fun p _=>rfl)).trans (List.map_id R)
theorem m0J {S:List (KO × Nd)} {R:List Itm} (h:b0N S R) (c:Cfg) (rs rh ver:Nat) (k:KO) (a:d0U) (h0:¬a.kind<0) (h1:a.kind≠1) (h3:¬3<a.kind) :
 b0N (doS c rs rh ver S k a).has (i0N c rs rh R k.1 a).1∧(doS c rs rh ver S k a).err=(i0N c rs rh R k.1 a).2:=by
 have h':b0N S ((R.map h1S).map g0O):=by rw [f0X];exact h
 have ht:=r0V h' c rs rh ver k a;rw [y0C h1 (by omega)] at ht;have e:=j1V c rs rh (R.map h1S) k.1 a;rw [f0X] at e;rw [e];exact ⟨ht.1,ht.2.1⟩
theorem v0G {S:List (KO × Nd)} {R:List Itm} (h:b0N S R) (c:Cfg) (rs rh ver:Nat) (k:KO) (cut:Int) :
 b0N (doS c rs rh ver S k ⟨1,(cut,0),g0P,b0O⟩).has (R.map fun p=>(p.1,f0T cut p.2)):=by
 have h':b0N S ((R.map h1S).map g0O):=by rw [f0X];exact h
 have ht:=(r0V h' c rs rh ver k ⟨1,(cut,0),g0P,b0O⟩).1;unfold n1K at ht;rw [if_pos rfl,List.map_map] at ht;exact ht
structure St where
 T:Nat
 M:Nat
 ver:Nat
 es:List (KO × NE)
def St.all (s:St):List Nat:=s.T::s.M::s.es.flatMap (fun p=>p.2.2.2)
def St.fp (s:St):List Nat:=sfp s.T s.M s.es
theorem St.sub (s:St):∀r∈s.fp,r∈s.all:=by
 intro r hr;simp only [St.fp,sfp,List.mem_cons] at hr
 simp only [St.all,List.mem_cons,List.mem_flatMap]
 rcases hr with rfl|rfl|hr
 · exact .inl rfl
 · exact .inr (.inl rfl)
 · obtain ⟨p,hp,hr⟩:=d0S.1 hr
   exact .inr (.inr ⟨p,hp,e0L _ _ r hr⟩)
structure f0Y (w:World) (c:Cfg) (rs rh n:Nat) (s:St) (R:List Itm):Prop where
 at_:SAt w s.T s.M c s.ver s.es rs rh
 tells:b0N (ab s.es) R
 grown:i0G n s.ver (ab s.es)
 ver_:s.ver≤1000 * n
theorem f0Y.lt {w:World} {c:Cfg} {rs rh n:Nat} {s:St} {R:List Itm} (h:f0Y w c rs rh n s R):∀r∈s.all,r<w.heap.size:=by
 intro r hr;simp only [St.all,List.mem_cons,List.mem_flatMap] at hr
 rcases hr with rfl|rfl|⟨p,hp,hr⟩
 · exact h.at_.ltT
 · exact h.at_.map.lt
 · exact (h.at_.node p hp).lt r hr
theorem f0Y.kept {w w':World} {c:Cfg} {rs rh n:Nat} {s:St} {R:List Itm} (h:f0Y w c rs rh n s R) (hk:∀r∈s.all,w'.heap[r]?=w.heap[r]?):f0Y w' c rs rh n s R :=
 ⟨⟨(hk s.T (by simp [St.all])).trans h.at_.cell,h.at_.map.block (hk s.M (by simp [St.all])),fun p hp=>(h.at_.node p hp).kept (fun r hr=>hk r (by
  simp only [St.all,List.mem_cons,List.mem_flatMap]
  exact .inr (.inr ⟨p,hp,hr⟩))),h.at_.pair,h.at_.off,h.at_.ne⟩,h.tells,h.grown,h.ver_⟩
theorem i0G.mono {n m ver:Nat} {S:List (KO × Nd)} (h:i0G n ver S) (hm:n≤m):i0G m ver S:=⟨Nat.le_trans h.len hm,fun p hp=>Nat.le_trans (h.vers p hp) hm⟩
theorem f0Y.mono {w:World} {c:Cfg} {rs rh n m:Nat} {s:St} {R:List Itm} (h:f0Y w c rs rh n s R) (hm:n≤m):f0Y w c rs rh m s R :=
 ⟨h.at_,h.tells,h.grown.mono hm,by have:=h.ver_;omega⟩
def d0X (P:Nat→Prop) (w:World) (C:Nat) (rs rh:Nat) (ep:Int) (R:List Itm):Prop :=
 ∃ (A:Option Addr) (cc:Nat) (l:List En),P C∧w.heap[C]?=some (.cells #[.int .i64 ep,.slice A l.length cc] 167 (0,0))∧d0G P 3 enC w (.slice A l.length cc) l∧Ris l∧l.length≤400 ∧
   (∀x∈l,∃y fp z,b0G w x.2 y rs rh fp∧(∀r∈fp,P r)∧a0Z R x.1=some z∧f0U y z)∧∀k,c0W l k=none→a0Z R k=none
theorem d0X.keep {P Q:Nat→Prop} {w w':World} {C rs rh:Nat} {ep:Int} {R:List Itm} (h:d0X P w C rs rh ep R) (hs:w.heap.size≤w'.heap.size) (hk:∀b,P b→b<w.heap.size→w'.heap[b]?=w.heap[b]?∧Q b):d0X Q w' C rs rh ep R:=by
 obtain ⟨A,cc,l,h1,h2,h3,h4,h5,h6,h8⟩:=h;have hC:=(jL h2);refine ⟨A,cc,l,(hk C h1 hC).2,(hk C h1 hC).1.trans h2,?_,h4,h5,fun x hx=>?_,h8⟩
 · exact ((h3.lt.keepP hs (fun b hb hlt=>(hk b hb.1 hlt).1)).imp (fun b hb=>(hk b hb.1 hb.2).2))
 · obtain ⟨y,fp,z,a,b,e,f⟩:=h6 x hx
   exact ⟨y,fp,z,a.kept (fun r hr=>(hk r (b r hr) (a.lt r hr)).1),fun r hr=>(hk r (b r hr) (a.lt r hr)).2,e,f⟩
abbrev HN:={ n:Nat // n≤1000000 }
def hdl (i:Nat):HN:=⟨min i 1000000,Nat.min_le_right ..⟩
theorem h0R {i:Nat} (h:i≤1000000):(hdl i).1=i:=Nat.min_eq_left h
theorem d1O {i j:Nat} (hi:i≤1000000) (hj:j≤1000000) (h:hdl i=hdl j):i=j:=by
 have:=congrArg Subtype.val h
 rwa [h0R hi,h0R hj] at this
def hdV (x:HN):Value:=.int .i64 (x.1:Nat)
theorem g1W:m0T Tryz.prog 3 hdV where
 law:=Go.Maps.int_keyed Tryz.underlying3
 key x:=⟨_,Go.Maps.keyOf_int_mk Tryz.underlying3 (by have:=x.2;simp [Lit.wf,IntKind.min,IntKind.max,IntKind.signed,IntKind.bits];omega)⟩
 inj x y h:=by
  simp only [hdV,Value.int.injEq,true_and] at h
  exact Subtype.ext (by omega)
def o0H (b:Nat):Value:=.pointer (some ⟨b,0,none⟩)
def stpC (s:St):List Value:=[.pointer (some ⟨s.T,0,none⟩)]
structure d0Y where
 A:Nat
 cp:Nat
 H:Nat
 L:Nat
 sts:List St
 live:List (HN × Nat)
def d0Y.fp (S:Nat) (d:d0Y):List Nat:=S::d.H::d.L::d.sts.flatMap St.fp
theorem c0E {S:Nat} {d:d0Y} {r:Nat}:r∈d.fp S ↔ r=S∨r=d.H∨r=d.L∨∃s∈d.sts,r∈s.fp:=by
 simp [d0Y.fp,List.mem_flatMap]
structure a0I (B:Nat→Prop) (w:World) (S:Nat) (c:Cfg) (rs rh n:Nat) (wd:Wd) (d:d0Y):Prop where
 cell:w.heap[S]?=some (.cells #[.slice (some ⟨d.A,0,none⟩) d.sts.length d.cp,.pointer (some ⟨d.H,0,none⟩),.int .i64 wd.ep,.bool wd.over] 148 (0,0))
 row:d0G (fun b=>b∉d.fp S∧B b) 1 stpC w (.slice (some ⟨d.A,0,none⟩) d.sts.length d.cp) d.sts
 len:d.sts.length=wd.st.length
 str:∀(i:Nat) s R,d.sts[i]?=some s→wd.st[i]?=some R→f0Y w c rs rh n s R
 pair:∀(i j:Nat) s t,d.sts[i]?=some s→d.sts[j]?=some t→i≠j→apart s.all t.all
 off:∀s∈d.sts,S∉s.all∧d.H∉s.all∧d.L∉s.all
 ne:S≠d.H∧S≠d.L∧d.H≠d.L
 tab:w.heap[d.H]?=some (.cells #[.map (some d.L),.int .i64 ((wd.cuts.length+1:Nat):Int)] 229 (0,0))
 live:a0V hdV o0H w d.L d.live
 keys:∀p∈d.live,1≤p.1.1∧p.1.1≤wd.cuts.length
 cut:∀(i:Nat) q,wd.cuts[i]?=some q→(q.freed=true∧a0L d.live (hdl (i+1))=none)∨(q.freed=false∧∃C,a0L d.live (hdl (i+1))=some C∧d0X (fun b=>b∉d.fp S∧B b) w C rs rh q.ep q.items)
 cnt:d.live.length=n0C (c0I wd)
 bS:B S∧B d.H∧B d.L
 bs:∀s∈d.sts,∀r∈s.all,B r
theorem a0I.ltS {B:Nat→Prop} {w:World} {S:Nat} {c:Cfg} {rs rh n:Nat} {wd:Wd} {d:d0Y} (h:a0I B w S c rs rh n wd d):S<w.heap.size:=(Array.getElem?_eq_some_iff.1 h.cell).1
theorem a0I.ltH {B:Nat→Prop} {w:World} {S:Nat} {c:Cfg} {rs rh n:Nat} {wd:Wd} {d:d0Y} (h:a0I B w S c rs rh n wd d):d.H<w.heap.size:=(Array.getElem?_eq_some_iff.1 h.tab).1
theorem a0I.get {B:Nat→Prop} {w:World} {S:Nat} {c:Cfg} {rs rh n:Nat} {wd:Wd} {d:d0Y} (h:a0I B w S c rs rh n wd d) {i:Nat} {s:St} (hs:d.sts[i]?=some s):∃R,wd.st[i]?=some R∧f0Y w c rs rh n s R:=by
 have hi:=(List.getElem?_eq_some_iff.1 hs).1;rw [h.len] at hi;exact ⟨_,List.getElem?_eq_getElem hi,h.str i s _ hs (List.getElem?_eq_getElem hi)⟩
theorem a0I.ltA {B:Nat→Prop} {w:World} {S:Nat} {c:Cfg} {rs rh n:Nat} {wd:Wd} {d:d0Y} (h:a0I B w S c rs rh n wd d):∀s∈d.sts,∀r∈s.all,r<w.heap.size:=by
 intro s hs;obtain ⟨i,hi⟩:=List.getElem?_of_mem hs;obtain ⟨R,_,hR⟩:=h.get hi;exact hR.lt
theorem a0I.fpLt {B:Nat→Prop} {w:World} {S:Nat} {c:Cfg} {rs rh n:Nat} {wd:Wd} {d:d0Y} (h:a0I B w S c rs rh n wd d):∀r∈d.fp S,r<w.heap.size∧B r:=by
 intro r hr
 rcases c0E.1 hr with rfl|rfl|rfl|⟨s,hs,hr⟩
 · exact ⟨h.ltS,h.bS.1⟩
 · exact ⟨h.ltH,h.bS.2.1⟩
 · exact ⟨h.live.lt,h.bS.2.2⟩
 · exact ⟨h.ltA s hs r (s.sub r hr),h.bs s hs r (s.sub r hr)⟩
theorem a0I.keep {B B':Nat→Prop} {w w':World} {S:Nat} {c:Cfg} {rs rh n:Nat} {wd:Wd} {d:d0Y} (h:a0I B w S c rs rh n wd d) (hs:w.heap.size≤w'.heap.size) (hk:∀r,B r→r<w.heap.size→w'.heap[r]?=w.heap[r]?∧B' r):a0I B' w' S c rs rh n wd d:=by
 have h1:=hk S h.bS.1 h.ltS;have h2:=hk d.H h.bS.2.1 h.ltH;have h3:=hk d.L h.bS.2.2 h.live.lt;have ha:∀s∈d.sts,∀r∈s.all,w'.heap[r]?=w.heap[r]?∧B' r:=fun s hs' r hr=>hk r (h.bs s hs' r hr) (h.ltA s hs' r hr)
 refine ⟨h1.1.trans h.cell,?_,h.len,fun i s R hs' hR=>(h.str i s R hs' hR).kept (fun r hr=>(ha s (List.mem_of_getElem? hs') r hr).1),h.pair,h.off,h.ne,h2.1.trans h.tab,h.live.block h3.1,h.keys,fun i q hq=>?_,h.cnt,⟨h1.2,h2.2,h3.2⟩,fun s hs' r hr=>(ha s hs' r hr).2⟩
 · exact (h.row.lt.keepP hs (fun b hb hlt=>(hk b hb.1.2 hlt).1)).imp (fun b hb=>⟨hb.1.1,(hk b hb.1.2 hb.2).2⟩)
 · rcases h.cut i q hq with hf|⟨hf,C,hC,hh⟩
   · exact .inl hf
   · exact .inr ⟨hf,C,hC,hh.keep hs (fun b hb hlt=>⟨(hk b hb.2 hlt).1,hb.1,(hk b hb.2 hlt).2⟩)⟩
theorem a0I.below {B:Nat→Prop} {w w':World} {S:Nat} {c:Cfg} {rs rh n:Nat} {wd:Wd} {d:d0Y} (h:a0I B w S c rs rh n wd d) (hb:jB w w'):a0I B w' S c rs rh n wd d :=
 h.keep hb.size (fun r hr hlt=>⟨hb.block r hlt,hr⟩)
theorem a0I.mono {B:Nat→Prop} {w:World} {S:Nat} {c:Cfg} {rs rh n m:Nat} {wd:Wd} {d:d0Y} (h:a0I B w S c rs rh n wd d) (hm:n≤m):a0I B w S c rs rh m wd d :=
 ⟨h.cell,h.row,h.len,fun i s R hs hR=>(h.str i s R hs hR).mono hm,h.pair,h.off,h.ne,h.tab,h.live,h.keys,h.cut,h.cnt,h.bS,h.bs⟩
theorem Old.all {w:World} {s:St} {es':List (KO × NE)} (ho:Old w.heap.size s.es es') (ver':Nat):∀r∈St.all ⟨s.T,s.M,ver',es'⟩,r∈s.all∨w.heap.size≤r:=by
 intro r hr;simp only [St.all,List.mem_cons,List.mem_flatMap] at hr ⊢
 rcases hr with rfl|rfl|⟨p,hp,hr⟩
 · exact .inl (.inl rfl)
 · exact .inl (.inr (.inl rfl))
 · rcases ho p hp r hr with h9|⟨q,hq,hr⟩
   · exact .inr h9
   · exact .inl (.inr (.inr ⟨q,hq,hr⟩))
theorem a0I.turn {B:Nat→Prop} {w w':World} {S:Nat} {c:Cfg} {rs rh n m:Nat} {wd:Wd} {d:d0Y} (h:a0I B w S c rs rh n wd d) {i:Nat} {s:St} {R:List Itm} (hi:d.sts[i]?=some s) (hR:wd.st[i]?=some R) {ver':Nat} {es':List (KO × NE)} (hB:∀r∈St.all ⟨s.T,s.M,ver',es'⟩,B r) {R':List Itm} (hm:n≤m)
    (hu:Upd w w' s.fp (sfp s.T s.M es')) (ho:Old w.heap.size s.es es') (hok:f0Y w' c rs rh m ⟨s.T,s.M,ver',es'⟩ R') :
    a0I B w' S c rs rh m { wd with st:=wd.st.set i R' } { d with sts:=d.sts.set i ⟨s.T,s.M,ver',es'⟩ }∧Upd w w' (d.fp S) (d0Y.fp S { d with sts:=d.sts.set i ⟨s.T,s.M,ver',es'⟩ }):=by
  have hsm:=List.mem_of_getElem? hi;have hil:=(List.getElem?_eq_some_iff.1 hi).1;have hall:=ho.all (s:=s) ver';have hoff:=h.off s hsm;have hnot:∀r,r∉s.all→r<w.heap.size→w'.heap[r]?=w.heap[r]?:=fun r hr hlt=>hu.block r hlt (fun hq=>hr (s.sub r hq))
  have hmem:∀(j:Nat) t,(d.sts.set i ⟨s.T,s.M,ver',es'⟩)[j]?=some t→(j=i∧t=⟨s.T,s.M,ver',es'⟩)∨(j≠i∧d.sts[j]?=some t):=by
   intro j t ht;rw [List.getElem?_set] at ht
   split at ht
   · rename_i e
     injection ht with ht
     exact .inl ⟨e.symm,ht.symm⟩
   · rename_i e
     exact .inr ⟨fun e'=>e e'.symm,ht⟩
  have hother:∀(j:Nat) t,d.sts[j]?=some t→j≠i→∀r∈t.all,w'.heap[r]?=w.heap[r]?:=fun j t ht hj r hr=>hnot r (fun hr'=>h.pair i j s t hi ht (fun e=>hj e.symm) r hr' hr) (h.ltA t (List.mem_of_getElem? ht) r hr)
  have hfp:∀r,r∈d0Y.fp S { d with sts:=d.sts.set i ⟨s.T,s.M,ver',es'⟩ }→r∈d.fp S∨w.heap.size≤r:=by
   intro r hr
   rcases c0E.1 hr with rfl|rfl|rfl|⟨t,ht,hr⟩
   · exact .inl (c0E.2 (.inl rfl))
   · exact .inl (c0E.2 (.inr (.inl rfl)))
   · exact .inl (c0E.2 (.inr (.inr (.inl rfl))))
   · rcases List.mem_or_eq_of_mem_set ht with ht|rfl
     · exact .inl (c0E.2 (.inr (.inr (.inr ⟨t,ht,hr⟩))))
     · rcases hu.fresh r hr with h9|h9
       · exact .inl (c0E.2 (.inr (.inr (.inr ⟨s,hsm,h9⟩))))
       · exact .inr h9
  have hkP:∀b,(b∉d.fp S∧B b)→b<w.heap.size→w'.heap[b]?=w.heap[b]?∧(b∉d0Y.fp S { d with sts:=d.sts.set i ⟨s.T,s.M,ver',es'⟩ }∧B b):=fun b hb hlt =>
   ⟨hu.block b hlt (fun hq=>hb.1 (c0E.2 (.inr (.inr (.inr ⟨s,hsm,hq⟩))))),fun hq=>(hfp b hq).elim hb.1 (fun h9=>by omega),hb.2⟩
  refine ⟨⟨?_,?_,?_,fun j t R1 ht hR1=>?_,fun j k t u ht hu' hjk=>?_,fun t ht=>?_,h.ne,?_,?_,h.keys,fun j q hq=>?_,h.cnt,h.bS,fun t ht r hr=>?_⟩,⟨hu.os,hu.tape,hu.output,hu.size,fun r hlt hn=>hu.block r hlt (fun hq=>hn (c0E.2 (.inr (.inr (.inr ⟨s,hsm,hq⟩))))),hfp⟩⟩
  · rw [List.length_set]
    exact (hnot S hoff.1 h.ltS).trans h.cell
  · have h1:=(h.row.lt.keepP hu.size (fun b hb hlt=>(hkP b hb.1 hlt).1)).imp (Q:=fun b=>b∉d0Y.fp S { d with sts:=d.sts.set i ⟨s.T,s.M,ver',es'⟩ }∧B b) (fun b hb=>(hkP b hb.1 hb.2).2)
    refine ⟨?_,fun b o m' c' e hn=>h1.2 b o m' c' (by rw [List.length_set] at e;exact e) (by rw [List.length_set] at hn;exact hn)⟩;obtain ⟨A1,c1,e1,hc1,hx⟩:=h1.1;rw [List.length_set];refine ⟨A1,c1,by rw [List.length_set];exact e1,by rw [List.length_set];exact hc1,fun hp=>?_⟩;rw [List.length_set] at hp;obtain ⟨b,o,hA,hb,hx⟩:=hx hp;refine ⟨b,o,hA,hb,fun k x hk j u hu'=>?_⟩
    rcases hmem k x hk with ⟨rfl,rfl⟩|⟨_,hk⟩
    · exact hx k s hi j u hu'
    · exact hx k x hk j u hu'
  · rw [List.length_set,List.length_set];exact h.len
  · rw [List.getElem?_set] at hR1
    rcases hmem j t ht with ⟨rfl,rfl⟩|⟨hj,ht⟩
    · rw [if_pos rfl,if_pos (by rw [←h.len];exact hil)] at hR1
      injection hR1 with hR1
      subst hR1;exact hok
    · rw [if_neg (fun e=>hj e.symm)] at hR1
      exact ((h.str j t R1 ht hR1).kept (hother j t ht hj)).mono hm
  · rcases hmem j t ht with ⟨e1,e2⟩|⟨hj,ht2⟩
    · rcases hmem k u hu' with ⟨e3,e4⟩|⟨hk,hu2⟩
      · exact absurd (e1.trans e3.symm) hjk
      · intro r hr hr'
        rw [e2] at hr
        rcases hall r hr with h9|h9
        · exact h.pair i k s u hi hu2 (fun e=>hk e.symm) r h9 hr'
        · have:=h.ltA u (List.mem_of_getElem? hu2) r hr';omega
    · rcases hmem k u hu' with ⟨e3,e4⟩|⟨hk,hu2⟩
      · intro r hr hr'
        rw [e4] at hr'
        rcases hall r hr' with h9|h9
        · exact h.pair j i t s ht2 hi hj r hr h9
        · have:=h.ltA t (List.mem_of_getElem? ht2) r hr;omega
      · exact h.pair j k t u ht2 hu2 hjk
  · rcases List.mem_or_eq_of_mem_set ht with ht|rfl
    · exact h.off t ht
    · refine ⟨fun hq=>(hall _ hq).elim hoff.1 (fun h9=>?_),fun hq=>(hall _ hq).elim hoff.2.1 (fun h9=>?_),fun hq=>(hall _ hq).elim hoff.2.2 (fun h9=>?_)⟩
      · have:=h.ltS;omega
      · have:=h.ltH;dsimp only at h9;omega
      · have:=h.live.lt;dsimp only at h9;omega
  · exact (hnot d.H hoff.2.1 h.ltH).trans h.tab
  · exact h.live.block (hnot d.L hoff.2.2 h.live.lt)
  · rcases h.cut j q hq with hf|⟨hf,C,hC,hh⟩
    · exact .inl hf
    · exact .inr ⟨hf,C,hC,hh.keep hu.size hkP⟩
  · rcases List.mem_or_eq_of_mem_set ht with ht|rfl
    · exact h.bs t ht r hr
    · exact hB r hr
def b0V (c:Cfg) (wd:Wd):Prop:=∀(i:Nat) R,wd.st[i]?=some R→∀p∈R,c0J p.1.1 p.1.2 c.st=(i:Int)
def o1Q (B:Nat→Prop) (w:World) (S:Nat) (c:Cfg) (rs rh n:Nat) (wd:Wd) (fp:List Nat):Prop:=∃d,a0I B w S c rs rh n wd d∧fp=d.fp S
def d0M (B:Nat→Prop) (w:World) (S:Nat) (c:Cfg) (rs rh n:Nat) (fp:List Nat) (v:Value) (wd:Wd) (e:Ending) (w':World):Prop:=∃fp',e=.returned v∧o1Q B w' S c rs rh n wd fp'∧Upd w w' fp fp'
end
section
open Go.RowKit Go.Lib
theorem f1T (h b:Nat) (h1:1≤2 ^ b):n0M h b<2 ^ b:=by
 unfold n0M
 split
 · exact h1
 · exact Nat.mod_lt _ h1
theorem q0F {hi lo:Nat} {n:Int} (hn:e0R n=true):0≤c0J hi lo n∧c0J hi lo n<n:=by
 unfold c0J;rw [if_pos hn];obtain ⟨j,hj,rfl⟩:∃j,j<7∧n=((2 ^ j:Nat):Int):=by
  rcases (j0J n).1 hn with h|h|h|h|h|h|h
  · exact ⟨0,by omega,h⟩
  · exact ⟨1,by omega,h⟩
  · exact ⟨2,by omega,h⟩
  · exact ⟨3,by omega,h⟩
  · exact ⟨4,by omega,h⟩
  · exact ⟨5,by omega,h⟩
  · exact ⟨6,by omega,h⟩
 rw [u0B j hj];have:=f1T (p0C hi lo) j (Nat.two_pow_pos j);simp only [Int.toNat_natCast]
 omega
end
section
open Go.RowKit Go.Lib Go.Sort
theorem f0E {l:List Itm} {k:Ky} {y:Nd} (h:a0Z l k=some y):(k,y)∈l:=by
 unfold a0Z at h;obtain ⟨q,hq,rfl⟩:=Option.map_eq_some_iff.1 h;have h1:=List.find?_some hq;simp at h1
 rw [←h1];exact List.mem_of_find?_eq_some hq
theorem g0U {l:List Itm} {k:Ky} (h:∀p∈l,p.1≠k):a0Z l k=none:=by
 unfold a0Z;rw [List.find?_eq_none.2 (fun p hp=>by simpa using h p hp)];rfl
theorem k0E (a b:List Itm) (k:Ky):a0Z (a++b) k=(a0Z a k).or (a0Z b k):=by
 unfold a0Z;rw [List.find?_append]
 cases List.find? (fun p=>decide (p.1=k)) a <;> rfl
theorem e0A {R:List Itm} (hs:(R.map (·.1)).Pairwise (fun a b=>ltK a b=true)) {k:Ky} {y:Nd} (h:(k,y)∈R):a0Z R k=some y:=by
 unfold a0Z
 cases hf:R.find? (fun p=>decide (p.1=k)) with
 | none=>exact absurd (List.find?_eq_none.1 hf (k,y) h) (by simp)
 | some q =>
   have h1:=List.find?_some hf;simp at h1
   have h2:=List.mem_of_find?_eq_some hf;obtain ⟨a,b⟩:=q;obtain rfl:a=k:=h1;rw [e0W hs h2 h];rfl
theorem p0D {S:List (KO × Nd)} {R:List Itm} (h:b0N S R) (k:KO):match a0L S k with|none=>a0Z R k.1=none|some x=>∃y,a0Z R k.1=some y∧f0U x y:=by
 cases hf:a0L S k with
 | some x =>
   obtain ⟨y,hy,hs⟩:=h.vals k x hf;exact ⟨y,e0A h.sorted hy,hs⟩
 | none =>
   refine g0U (fun p hp e=>?_);have hk:p.1∈c0M S:=(h.keys p.1).1 (List.mem_map.2 ⟨p,hp,rfl⟩);obtain ⟨q,hq,e2⟩:=List.mem_map.1 hk;have:q.1=k:=Subtype.ext (e2.trans e);have hh:d0B S k=true:=(c0D S k).2 (List.mem_map.2 ⟨q,hq,this⟩);obtain ⟨v,hv,_⟩:=c0F hh;rw [hf] at hv
   cases hv
theorem s0L {ll:List (List Itm)} {k:Ky} (h:∀l∈ll,a0Z l k=none):a0Z ll.flatten k=none:=by
 induction ll with
 | nil=>rfl
 | cons l ll ih =>
   rw [List.flatten_cons,k0E,h l (by simp),Option.none_or];exact ih (fun m hm=>h m (by simp [hm]))
theorem p1E {ll:List (List Itm)} {k:Ky} {i:Nat} {R:List Itm} (hi:ll[i]?=some R) (h:∀j l,ll[j]?=some l→j≠i→a0Z l k=none):a0Z ll.flatten k=a0Z R k:=by
 induction ll generalizing i with
 | nil=>simp at hi
 | cons l ll ih =>
   rw [List.flatten_cons,k0E]
   cases i with
   | zero =>
     simp at hi
     subst hi;rw [s0L (fun m hm=>by
      obtain ⟨j,hj⟩:=List.getElem?_of_mem hm;exact h (j+1) m (by simpa using hj) (by omega))]
     exact Option.or_none
   | succ i =>
     rw [h 0 l (by simp) (by omega),Option.none_or];exact ih (by simpa using hi) (fun j m hm hj=>h (j+1) m (by simpa using hm) (by omega))
theorem g0G {c:Cfg} {wd:Wd} (h:b0V c wd) {k:Ky} {i:Nat} {R:List Itm} (hi:wd.st[i]?=some R) (hk:c0J k.1 k.2 c.st=(i:Int)):a0Z (d0D wd) k=a0Z R k :=
 p1E hi (fun j l hl hj=>g0U (fun p hp e=>hj (by
  have:=h j l hl p hp;rw [e,hk] at this;omega)))
theorem b0V.set {c:Cfg} {wd:Wd} (h:b0V c wd) {i:Nat} {R:List Itm} (hR:∀p∈R,c0J p.1.1 p.1.2 c.st=(i:Int)):b0V c { wd with st:=wd.st.set i R }:=by
 intro j Q hQ p hp;have hQ:(wd.st.set i R)[j]?=some Q:=hQ;rw [List.getElem?_set] at hQ
 split at hQ
 · rename_i e
   split at hQ
   · injection hQ with hQ
     subst hQ;rw [←e];exact hR p hp
   · cases hQ
 · exact h j Q hQ p hp
theorem e1F {c:Cfg} {rs rh:Nat} {R:List Itm} {k:Ky} {a:d0U}:∀p∈(i0N c rs rh R k a).1,p∈R∨p.1=k:=by
 intro p hp;unfold i0N at hp;dsimp only at hp
 split at hp
 · exact .inl hp
 · split at hp
   · exact .inl hp
   · split at hp
     · exact .inl hp
     · rcases p0Z hp with h|h
       · exact .inl h
       · exact .inr (by rw [h])
theorem y0N {c:Cfg} {wd:Wd} {id:ByteArray} (hst:e0R c.st=true) (hl:(wd.st.length:Int)=c.st):atW c id<wd.st.length∧c0J (b0L id).1 (b0L id).2 c.st=(atW c id:Int):=by
 obtain ⟨h0,h1⟩:=q0F (hi:=(b0L id).1) (lo:=(b0L id).2) hst;unfold atW;omega
theorem k0W {c:Cfg} {rs rh:Nat} {wd:Wd} {id:ByteArray} {a:d0U} (h:b0V c wd) (hst:e0R c.st=true) (hl:(wd.st.length:Int)=c.st):b0V c (h0E c rs rh wd id a).1:=by
 obtain ⟨h1,h2⟩:=y0N (id:=id) hst hl;refine h.set (fun p hp=>?_)
 rcases e1F p hp with h9|h9
 · rw [List.getD_eq_getElem?_getD,List.getElem?_eq_getElem h1] at h9
   exact h _ _ (List.getElem?_eq_getElem h1) p h9
 · rw [h9];exact h2
theorem m0O {c:Cfg} {wd:Wd} {cut:Int} (h:b0V c wd):b0V c (i0E wd cut):=by
 intro i R hR p hp;have hR:(wd.st.map fun l=>l.map fun p=>(p.1,f0T cut p.2))[i]?=some R:=hR;rw [List.getElem?_map] at hR;obtain ⟨Q,hQ,rfl⟩:=Option.map_eq_some_iff.1 hR;obtain ⟨q,hq,rfl⟩:=List.mem_map.1 hp;exact h i Q hQ q hq
theorem f1G {c:Cfg} {rs rh:Nat} {wd:Wd} {x:b0Z} (h:b0V c wd) (hst:e0R c.st=true) (hl:(wd.st.length:Int)=c.st):b0V c (doW c rs rh wd x).1:=by
 unfold doW
 split
 · exact h
 · split
   · exact k0W h hst hl
   · split
     · exact m0O h
     · split
       · unfold h0S
         split
         · exact h
         · exact h
       · split
         · unfold l0D
           split
           · exact h
           · exact h
         · split
           · exact h
           · split
             · exact k0W h hst hl
             · split
               · exact h
               · split
                 · exact h
                 · exact h
theorem v0Q {c:Cfg} {rs rh:Nat} {wd:Wd} {id:ByteArray} {a:Adv} (h:b0V c wd) (hst:e0R c.st=true) (hl:(wd.st.length:Int)=c.st):b0V c (e0D c rs rh wd id a).1:=by
 unfold e0D
 split
 · exact h
 · exact k0W h hst hl
theorem p0T (c:Cfg) (n:Nat):b0V c (o0J n):=by
 intro i R hR p hp;have:=List.mem_of_getElem? hR;rw [List.eq_of_mem_replicate this] at hp
 cases hp
theorem f1Y {c:Cfg} {rs rh:Nat} {R:List Itm} {k:Ky} {a:d0U}:(i0N c rs rh R k a).1.length≤R.length+1:=by
 unfold i0N;dsimp only
 split
 · exact Nat.le_succ _
 · split
   · exact Nat.le_succ _
   · split
     · exact Nat.le_succ _
     · unfold o0L
       have hat:atP R k≤R.length:=by
        unfold atP;exact (List.takeWhile_sublist _).length_le
       cases hh:u0F R k
       · simp;omega
       · simp;omega
theorem t0F (ll:List (List Itm)) (i:Nat) (R:List Itm) (h:R.length≤(ll.getD i []).length+1):(ll.set i R).flatten.length≤ll.flatten.length+1:=by
 induction ll generalizing i with
 | nil=>simp
 | cons l ll ih =>
   cases i with
   | zero=>simp at h ⊢;omega
   | succ i =>
     have:=ih i (by simpa using h);simp at this ⊢
     omega
theorem w0K {c:Cfg} {rs rh:Nat} {wd:Wd} {id:ByteArray} {a:d0U}:(d0D (h0E c rs rh wd id a).1).length≤(d0D wd).length+1:=t0F _ _ _ f1Y
theorem l1P {wd:Wd} {cut:Int}:(d0D (i0E wd cut)).length=(d0D wd).length:=by
 unfold d0D i0E;simp [List.length_flatten,List.map_map,Function.comp_def]
theorem tot_do {c:Cfg} {rs rh:Nat} {wd:Wd} {x:b0Z}:(d0D (doW c rs rh wd x).1).length≤(d0D wd).length+1:=by
 unfold doW
 split
 · exact Nat.le_succ _
 · split
   · exact w0K
   · split
     · rw [show (i0E wd x.tick,a0R 0).1=i0E wd x.tick from rfl,l1P];exact Nat.le_succ _
     · split
       · unfold h0S
         split
         · exact Nat.le_succ _
         · exact Nat.le_succ _
       · split
         · unfold l0D
           split
           · exact Nat.le_succ _
           · exact Nat.le_succ _
         · split
           · exact Nat.le_succ _
           · split
             · exact w0K
             · split
               · exact Nat.le_succ _
               · split
                 · exact Nat.le_succ _
                 · exact Nat.le_succ _
theorem k1J {c:Cfg} {rs rh:Nat} {wd:Wd} {id:ByteArray} {a:Adv}:(d0D (e0D c rs rh wd id a).1).length≤(d0D wd).length+1:=by
 unfold e0D
 split
 · exact Nat.le_succ _
 · exact w0K
theorem g1V (n:Nat):(d0D (o0J n)).length=0:=by simp [d0D,o0J]
end
section
open Go.RowKit Go.Lib
def c0T (w:World) (B i:Nat):List Value→World
  | []=>w
  | v::vs=>c0T (w.setCell ⟨B,i,none⟩ v) B (i+1) vs
theorem m1B {w:World} {B i:Nat} {cs:Array Value} {T:TypeId} {fr:Nat × Nat} {v:Value} (h:w.heap[B]?=some (.cells cs T fr)):(w.setCell ⟨B,i,none⟩ v).heap[B]?=some (.cells (cs.setIfInBounds i v) T fr):=by
 obtain ⟨hlt,hk⟩:=Array.getElem?_eq_some_iff.1 h
 show (w.heap.modify B _)[B]?=_
 rw [Array.getElem?_eq_getElem (by rw [Array.size_modify];exact hlt),Array.getElem_modify_self,hk];simp
theorem b1V {w:World} {B i k:Nat} {v:Value} (h:k≠B):(w.setCell ⟨B,i,none⟩ v).heap[k]?=w.heap[k]?:=by
 show (w.heap.modify B _)[k]?=_
 by_cases hk:k<w.heap.size
 · rw [Array.getElem?_eq_getElem (by rw [Array.size_modify];exact hk),Array.getElem_modify_of_ne (Ne.symm h),Array.getElem?_eq_getElem hk]
 · rw [Array.getElem?_eq_none (by rw [Array.size_modify];omega),Array.getElem?_eq_none (by omega)]
theorem x0U:∀(vs:List Value) (w:World) (B i:Nat) (cs:Array Value) (T:TypeId),w.heap[B]?=some (.cells cs T (0,0))→cs.size=i+vs.length →
    (c0T w B i vs).heap[B]?=some (.cells ((cs.toList.take i++vs).toArray) T (0,0))∧(∀k,k≠B→(c0T w B i vs).heap[k]?=w.heap[k]?)∧(c0T w B i vs).heap.size=w.heap.size∧∀n,n≤B→Below n w (c0T w B i vs):=by
  intro vs
  induction vs with
  | nil =>
    intro w B i cs T h hn;refine ⟨?_,fun _ _=>rfl,rfl,fun n _=>jR⟩;simp only [List.length_nil,Nat.add_zero] at hn
    rw [c0T,h,List.append_nil,List.take_of_length_le (by simp;omega)]
  | cons v vs ih =>
    intro w B i cs T h hn;simp only [List.length_cons] at hn
    have h1:=m1B (i:=i) (v:=v) h;obtain ⟨a1,a2,a3,a4⟩:=ih (w.setCell ⟨B,i,none⟩ v) B (i+1) _ T h1 (by simp;omega);refine ⟨?_,fun k hk=>(a2 k hk).trans (b1V hk),a3.trans (by simp [World.setCell]),fun n hn=>(jR.setCell hn _).trans (a4 n hn)⟩;rw [c0T,a1]
    congr 3
    rw [Array.toList_setIfInBounds,List.take_add_one,List.take_set_of_le (Nat.le_refl _)];rw [List.getElem?_set_self (by simp;omega)];simp
theorem a0M {w:World} {B:Nat} {cs:Array Value} {T:TypeId} (h:w.heap[B]?=some (.cells cs T (0,0))) (vs:List Value) (hn:cs.size=vs.length):∀W,W=c0T w B 0 vs →
    W.heap[B]?=some (.cells vs.toArray T (0,0))∧(∀k,k≠B→W.heap[k]?=w.heap[k]?)∧W.heap.size=w.heap.size∧∀n,n≤B→Below n w W:=by
  rintro W rfl;have:=x0U vs w B 0 cs T h (by omega)
  simpa using this
end
end Go.Proofs.YtmniiodpbebnmaaGreat
