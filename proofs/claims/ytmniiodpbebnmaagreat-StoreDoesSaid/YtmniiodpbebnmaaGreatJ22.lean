/- Part 22 of the proof. -/
import Derived.Test.YtmniiodpbebnmaaGreatJ21
import Derived.Maps.Keyed
namespace Go.Proofs.YtmniiodpbebnmaaGreat
set_option linter.unusedSimpArgs false
set_option linter.unusedVariables false
set_option linter.unusedSectionVars false
set_option maxRecDepth 100000
set_option maxHeartbeats 16000000
section
open Go.RowKit Go.Lib Go.Sort
def mkIt (p:Itm):It:=⟨p.1,none,0,none,0,p.2⟩
theorem t0E (R:List Itm):(R.map mkIt).map c0X=R:=by
 rw [List.map_map];exact (List.map_congr_left (fun p _=>rfl)).trans (List.map_id R)
theorem o0C {S:List (KO × Nd)} {R:List Itm} (h:b0M S R) (c:Cfg) (rs rh ver:Nat) (k:KO) (a:c0W) (h0:¬a.kind<0) (h1:a.kind≠1) (h3:¬3<a.kind) :
 b0M (doS c rs rh ver S k a).has (l0X c rs rh R k.1 a).1∧(doS c rs rh ver S k a).err=(l0X c rs rh R k.1 a).2:=by
 have h':b0M S ((R.map mkIt).map c0X):=by rw [t0E];exact h
 have ht:=v0R h' c rs rh ver k a;rw [d1A h1 (by omega)] at ht;have e:=d1P c rs rh (R.map mkIt) k.1 a;rw [t0E] at e;rw [e];exact ⟨ht.1,ht.2.1⟩
theorem z0D {S:List (KO × Nd)} {R:List Itm} (h:b0M S R) (c:Cfg) (rs rh ver:Nat) (k:KO) (cut:Int) :
 b0M (doS c rs rh ver S k ⟨1,(cut,0),k0L,c0U⟩).has (R.map fun p=>(p.1,g0R cut p.2)):=by
 have h':b0M S ((R.map mkIt).map c0X):=by rw [t0E];exact h
 have ht:=(v0R h' c rs rh ver k ⟨1,(cut,0),k0L,c0U⟩).1;unfold r1W at ht;rw [if_pos rfl,List.map_map] at ht;exact ht
structure St where
 T:Nat
 M:Nat
 ver:Nat
 es:List (KO × NE)
def St.all (s:St):List Nat:=s.T::s.M::s.es.flatMap (fun p=>p.2.2.2)
def St.fp (s:St):List Nat:=sfp s.T s.M s.es
theorem St.sub (s:St):∀r∈s.fp,r∈s.all:=by
 intro r hr;simp only [St.fp,sfp,List.mem_cons] at hr
 simp only [St.all,List.mem_cons,List.mem_flatMap]
 rcases hr with rfl|rfl|hr
 · exact .inl rfl
 · exact .inr (.inl rfl)
 · obtain ⟨p,hp,hr⟩:=e0G.1 hr
   exact .inr (.inr ⟨p,hp,f0G _ _ r hr⟩)
structure f0U (w:World) (c:Cfg) (rs rh n:Nat) (s:St) (R:List Itm):Prop where
 at_:SAt w s.T s.M c s.ver s.es rs rh
 tells:b0M (ab s.es) R
 grown:j0S n s.ver (ab s.es)
 ver_:s.ver≤1000 * n
theorem f0U.lt {w:World} {c:Cfg} {rs rh n:Nat} {s:St} {R:List Itm} (h:f0U w c rs rh n s R):∀r∈s.all,r<w.heap.size:=by
 intro r hr;simp only [St.all,List.mem_cons,List.mem_flatMap] at hr
 rcases hr with rfl|rfl|⟨p,hp,hr⟩
 · exact h.at_.ltT
 · exact h.at_.map.lt
 · exact (h.at_.node p hp).lt r hr
theorem f0U.kept {w w':World} {c:Cfg} {rs rh n:Nat} {s:St} {R:List Itm} (h:f0U w c rs rh n s R) (hk:∀r∈s.all,w'.heap[r]?=w.heap[r]?):f0U w' c rs rh n s R :=
 ⟨⟨(hk s.T (by simp [St.all])).trans h.at_.cell,h.at_.map.block (hk s.M (by simp [St.all])),fun p hp=>(h.at_.node p hp).kept (fun r hr=>hk r (by
  simp only [St.all,List.mem_cons,List.mem_flatMap]
  exact .inr (.inr ⟨p,hp,hr⟩))),h.at_.pair,h.at_.off,h.at_.ne⟩,h.tells,h.grown,h.ver_⟩
theorem j0S.mono {n m ver:Nat} {S:List (KO × Nd)} (h:j0S n ver S) (hm:n≤m):j0S m ver S:=⟨Nat.le_trans h.len hm,fun p hp=>Nat.le_trans (h.vers p hp) hm⟩
theorem f0U.mono {w:World} {c:Cfg} {rs rh n m:Nat} {s:St} {R:List Itm} (h:f0U w c rs rh n s R) (hm:n≤m):f0U w c rs rh m s R :=
 ⟨h.at_,h.tells,h.grown.mono hm,by have:=h.ver_;omega⟩
def e0P (P:Nat→Prop) (w:World) (C:Nat) (rs rh:Nat) (ep:Int) (R:List Itm):Prop :=
 ∃ (A:Option Addr) (cc:Nat) (l:List En),P C∧w.heap[C]?=some (.cells #[.int .i64 ep,.slice A l.length cc] 167 (0,0))∧e0U P 3 enC w (.slice A l.length cc) l∧Ris l∧l.length≤400 ∧
   (∀x∈l,∃y fp z,b0B w x.2 y rs rh fp∧(∀r∈fp,P r)∧b0O R x.1=some z∧j0R y z)∧∀k,d0L l k=none→b0O R k=none
theorem e0P.keep {P Q:Nat→Prop} {w w':World} {C rs rh:Nat} {ep:Int} {R:List Itm} (h:e0P P w C rs rh ep R) (hs:w.heap.size≤w'.heap.size) (hk:∀b,P b→b<w.heap.size→w'.heap[b]?=w.heap[b]?∧Q b):e0P Q w' C rs rh ep R:=by
 obtain ⟨A,cc,l,h1,h2,h3,h4,h5,h6,h8⟩:=h;have hC:=(jL h2);refine ⟨A,cc,l,(hk C h1 hC).2,(hk C h1 hC).1.trans h2,?_,h4,h5,fun x hx=>?_,h8⟩
 · exact ((h3.lt.keepP hs (fun b hb hlt=>(hk b hb.1 hlt).1)).imp (fun b hb=>(hk b hb.1 hb.2).2))
 · obtain ⟨y,fp,z,a,b,e,f⟩:=h6 x hx
   exact ⟨y,fp,z,a.kept (fun r hr=>(hk r (b r hr) (a.lt r hr)).1),fun r hr=>(hk r (b r hr) (a.lt r hr)).2,e,f⟩
abbrev HN:={ n:Nat // n≤1000000 }
def hdl (i:Nat):HN:=⟨min i 1000000,Nat.min_le_right ..⟩
theorem i0Z {i:Nat} (h:i≤1000000):(hdl i).1=i:=Nat.min_eq_left h
theorem n1K {i j:Nat} (hi:i≤1000000) (hj:j≤1000000) (h:hdl i=hdl j):i=j:=by
 have:=congrArg Subtype.val h
 rwa [i0Z hi,i0Z hj] at this
def hdV (x:HN):Value:=.int .i64 (x.1:Nat)
theorem m1Y:r0A Tryz.prog 3 hdV where
 law:=Go.Maps.int_keyed Tryz.underlying3
 key x:=⟨_,Go.Maps.keyOf_int_mk Tryz.underlying3 (by have:=x.2;simp [Lit.wf,IntKind.min,IntKind.max,IntKind.signed,IntKind.bits];omega)⟩
 inj x y h:=by
  simp only [hdV,Value.int.injEq,true_and] at h
  exact Subtype.ext (by omega)
def q0A (b:Nat):Value:=.pointer (some ⟨b,0,none⟩)
def stpC (s:St):List Value:=[.pointer (some ⟨s.T,0,none⟩)]
structure d0M where
 A:Nat
 cp:Nat
 H:Nat
 L:Nat
 sts:List St
 live:List (HN × Nat)
def d0M.fp (S:Nat) (d:d0M):List Nat:=S::d.H::d.L::d.sts.flatMap St.fp
theorem c0L {S:Nat} {d:d0M} {r:Nat}:r∈d.fp S ↔ r=S∨r=d.H∨r=d.L∨∃s∈d.sts,r∈s.fp:=by
 simp [d0M.fp,List.mem_flatMap]
structure a0J (B:Nat→Prop) (w:World) (S:Nat) (c:Cfg) (rs rh n:Nat) (wd:Wd) (d:d0M):Prop where
 cell:w.heap[S]?=some (.cells #[.slice (some ⟨d.A,0,none⟩) d.sts.length d.cp,.pointer (some ⟨d.H,0,none⟩),.int .i64 wd.ep,.bool wd.over] 148 (0,0))
 row:e0U (fun b=>b∉d.fp S∧B b) 1 stpC w (.slice (some ⟨d.A,0,none⟩) d.sts.length d.cp) d.sts
 len:d.sts.length=wd.st.length
 str:∀(i:Nat) s R,d.sts[i]?=some s→wd.st[i]?=some R→f0U w c rs rh n s R
 pair:∀(i j:Nat) s t,d.sts[i]?=some s→d.sts[j]?=some t→i≠j→apart s.all t.all
 off:∀s∈d.sts,S∉s.all∧d.H∉s.all∧d.L∉s.all
 ne:S≠d.H∧S≠d.L∧d.H≠d.L
 tab:w.heap[d.H]?=some (.cells #[.map (some d.L),.int .i64 ((wd.cuts.length+1:Nat):Int)] 229 (0,0))
 live:b0N hdV q0A w d.L d.live
 keys:∀p∈d.live,1≤p.1.1∧p.1.1≤wd.cuts.length
 cut:∀(i:Nat) q,wd.cuts[i]?=some q→(q.freed=true∧a0V d.live (hdl (i+1))=none)∨(q.freed=false∧∃C,a0V d.live (hdl (i+1))=some C∧e0P (fun b=>b∉d.fp S∧B b) w C rs rh q.ep q.items)
 cnt:d.live.length=f0V (e0J wd)
 bS:B S∧B d.H∧B d.L
 bs:∀s∈d.sts,∀r∈s.all,B r
theorem a0J.ltS {B:Nat→Prop} {w:World} {S:Nat} {c:Cfg} {rs rh n:Nat} {wd:Wd} {d:d0M} (h:a0J B w S c rs rh n wd d):S<w.heap.size:=(Array.getElem?_eq_some_iff.1 h.cell).1
theorem a0J.ltH {B:Nat→Prop} {w:World} {S:Nat} {c:Cfg} {rs rh n:Nat} {wd:Wd} {d:d0M} (h:a0J B w S c rs rh n wd d):d.H<w.heap.size:=(Array.getElem?_eq_some_iff.1 h.tab).1
theorem a0J.get {B:Nat→Prop} {w:World} {S:Nat} {c:Cfg} {rs rh n:Nat} {wd:Wd} {d:d0M} (h:a0J B w S c rs rh n wd d) {i:Nat} {s:St} (hs:d.sts[i]?=some s):∃R,wd.st[i]?=some R∧f0U w c rs rh n s R:=by
 have hi:=(List.getElem?_eq_some_iff.1 hs).1;rw [h.len] at hi;exact ⟨_,List.getElem?_eq_getElem hi,h.str i s _ hs (List.getElem?_eq_getElem hi)⟩
theorem a0J.ltA {B:Nat→Prop} {w:World} {S:Nat} {c:Cfg} {rs rh n:Nat} {wd:Wd} {d:d0M} (h:a0J B w S c rs rh n wd d):∀s∈d.sts,∀r∈s.all,r<w.heap.size:=by
 intro s hs;obtain ⟨i,hi⟩:=List.getElem?_of_mem hs;obtain ⟨R,_,hR⟩:=h.get hi;exact hR.lt
theorem a0J.fpLt {B:Nat→Prop} {w:World} {S:Nat} {c:Cfg} {rs rh n:Nat} {wd:Wd} {d:d0M} (h:a0J B w S c rs rh n wd d):∀r∈d.fp S,r<w.heap.size∧B r:=by
 intro r hr
 rcases c0L.1 hr with rfl|rfl|rfl|⟨s,hs,hr⟩
 · exact ⟨h.ltS,h.bS.1⟩
 · exact ⟨h.ltH,h.bS.2.1⟩
 · exact ⟨h.live.lt,h.bS.2.2⟩
 · exact ⟨h.ltA s hs r (s.sub r hr),h.bs s hs r (s.sub r hr)⟩
theorem a0J.keep {B B':Nat→Prop} {w w':World} {S:Nat} {c:Cfg} {rs rh n:Nat} {wd:Wd} {d:d0M} (h:a0J B w S c rs rh n wd d) (hs:w.heap.size≤w'.heap.size) (hk:∀r,B r→r<w.heap.size→w'.heap[r]?=w.heap[r]?∧B' r):a0J B' w' S c rs rh n wd d:=by
 have h1:=hk S h.bS.1 h.ltS;have h2:=hk d.H h.bS.2.1 h.ltH;have h3:=hk d.L h.bS.2.2 h.live.lt;have ha:∀s∈d.sts,∀r∈s.all,w'.heap[r]?=w.heap[r]?∧B' r:=fun s hs' r hr=>hk r (h.bs s hs' r hr) (h.ltA s hs' r hr)
 refine ⟨h1.1.trans h.cell,?_,h.len,fun i s R hs' hR=>(h.str i s R hs' hR).kept (fun r hr=>(ha s (List.mem_of_getElem? hs') r hr).1),h.pair,h.off,h.ne,h2.1.trans h.tab,h.live.block h3.1,h.keys,fun i q hq=>?_,h.cnt,⟨h1.2,h2.2,h3.2⟩,fun s hs' r hr=>(ha s hs' r hr).2⟩
 · exact (h.row.lt.keepP hs (fun b hb hlt=>(hk b hb.1.2 hlt).1)).imp (fun b hb=>⟨hb.1.1,(hk b hb.1.2 hb.2).2⟩)
 · rcases h.cut i q hq with hf|⟨hf,C,hC,hh⟩
   · exact .inl hf
   · exact .inr ⟨hf,C,hC,hh.keep hs (fun b hb hlt=>⟨(hk b hb.2 hlt).1,hb.1,(hk b hb.2 hlt).2⟩)⟩
theorem a0J.below {B:Nat→Prop} {w w':World} {S:Nat} {c:Cfg} {rs rh n:Nat} {wd:Wd} {d:d0M} (h:a0J B w S c rs rh n wd d) (hb:jB w w'):a0J B w' S c rs rh n wd d :=
 h.keep hb.size (fun r hr hlt=>⟨hb.block r hlt,hr⟩)
theorem a0J.mono {B:Nat→Prop} {w:World} {S:Nat} {c:Cfg} {rs rh n m:Nat} {wd:Wd} {d:d0M} (h:a0J B w S c rs rh n wd d) (hm:n≤m):a0J B w S c rs rh m wd d :=
 ⟨h.cell,h.row,h.len,fun i s R hs hR=>(h.str i s R hs hR).mono hm,h.pair,h.off,h.ne,h.tab,h.live,h.keys,h.cut,h.cnt,h.bS,h.bs⟩
theorem Old.all {w:World} {s:St} {es':List (KO × NE)} (ho:Old w.heap.size s.es es') (ver':Nat):∀r∈St.all ⟨s.T,s.M,ver',es'⟩,r∈s.all∨w.heap.size≤r:=by
 intro r hr;simp only [St.all,List.mem_cons,List.mem_flatMap] at hr ⊢
 rcases hr with rfl|rfl|⟨p,hp,hr⟩
 · exact .inl (.inl rfl)
 · exact .inl (.inr (.inl rfl))
 · rcases ho p hp r hr with h9|⟨q,hq,hr⟩
   · exact .inr h9
   · exact .inl (.inr (.inr ⟨q,hq,hr⟩))
theorem a0J.turn {B:Nat→Prop} {w w':World} {S:Nat} {c:Cfg} {rs rh n m:Nat} {wd:Wd} {d:d0M} (h:a0J B w S c rs rh n wd d) {i:Nat} {s:St} {R:List Itm} (hi:d.sts[i]?=some s) (hR:wd.st[i]?=some R) {ver':Nat} {es':List (KO × NE)} (hB:∀r∈St.all ⟨s.T,s.M,ver',es'⟩,B r) {R':List Itm} (hm:n≤m)
    (hu:Upd w w' s.fp (sfp s.T s.M es')) (ho:Old w.heap.size s.es es') (hok:f0U w' c rs rh m ⟨s.T,s.M,ver',es'⟩ R') :
    a0J B w' S c rs rh m { wd with st:=wd.st.set i R' } { d with sts:=d.sts.set i ⟨s.T,s.M,ver',es'⟩ }∧Upd w w' (d.fp S) (d0M.fp S { d with sts:=d.sts.set i ⟨s.T,s.M,ver',es'⟩ }):=by
  have hsm:=List.mem_of_getElem? hi;have hil:=(List.getElem?_eq_some_iff.1 hi).1;have hall:=ho.all (s:=s) ver';have hoff:=h.off s hsm;have hnot:∀r,r∉s.all→r<w.heap.size→w'.heap[r]?=w.heap[r]?:=fun r hr hlt=>hu.block r hlt (fun hq=>hr (s.sub r hq))
  have hmem:∀(j:Nat) t,(d.sts.set i ⟨s.T,s.M,ver',es'⟩)[j]?=some t→(j=i∧t=⟨s.T,s.M,ver',es'⟩)∨(j≠i∧d.sts[j]?=some t):=by
   intro j t ht;rw [List.getElem?_set] at ht
   split at ht
   · rename_i e
     injection ht with ht
     exact .inl ⟨e.symm,ht.symm⟩
   · rename_i e
     exact .inr ⟨fun e'=>e e'.symm,ht⟩
  have hother:∀(j:Nat) t,d.sts[j]?=some t→j≠i→∀r∈t.all,w'.heap[r]?=w.heap[r]?:=fun j t ht hj r hr=>hnot r (fun hr'=>h.pair i j s t hi ht (fun e=>hj e.symm) r hr' hr) (h.ltA t (List.mem_of_getElem? ht) r hr)
  have hfp:∀r,r∈d0M.fp S { d with sts:=d.sts.set i ⟨s.T,s.M,ver',es'⟩ }→r∈d.fp S∨w.heap.size≤r:=by
   intro r hr
   rcases c0L.1 hr with rfl|rfl|rfl|⟨t,ht,hr⟩
   · exact .inl (c0L.2 (.inl rfl))
   · exact .inl (c0L.2 (.inr (.inl rfl)))
   · exact .inl (c0L.2 (.inr (.inr (.inl rfl))))
   · rcases List.mem_or_eq_of_mem_set ht with ht|rfl
     · exact .inl (c0L.2 (.inr (.inr (.inr ⟨t,ht,hr⟩))))
     · rcases hu.fresh r hr with h9|h9
       · exact .inl (c0L.2 (.inr (.inr (.inr ⟨s,hsm,h9⟩))))
       · exact .inr h9
  have hkP:∀b,(b∉d.fp S∧B b)→b<w.heap.size→w'.heap[b]?=w.heap[b]?∧(b∉d0M.fp S { d with sts:=d.sts.set i ⟨s.T,s.M,ver',es'⟩ }∧B b):=fun b hb hlt =>
   ⟨hu.block b hlt (fun hq=>hb.1 (c0L.2 (.inr (.inr (.inr ⟨s,hsm,hq⟩))))),fun hq=>(hfp b hq).elim hb.1 (fun h9=>by omega),hb.2⟩
  refine ⟨⟨?_,?_,?_,fun j t R1 ht hR1=>?_,fun j k t u ht hu' hjk=>?_,fun t ht=>?_,h.ne,?_,?_,h.keys,fun j q hq=>?_,h.cnt,h.bS,fun t ht r hr=>?_⟩,⟨hu.os,hu.tape,hu.output,hu.size,fun r hlt hn=>hu.block r hlt (fun hq=>hn (c0L.2 (.inr (.inr (.inr ⟨s,hsm,hq⟩))))),hfp⟩⟩
  · rw [List.length_set]
    exact (hnot S hoff.1 h.ltS).trans h.cell
  · have h1:=(h.row.lt.keepP hu.size (fun b hb hlt=>(hkP b hb.1 hlt).1)).imp (Q:=fun b=>b∉d0M.fp S { d with sts:=d.sts.set i ⟨s.T,s.M,ver',es'⟩ }∧B b) (fun b hb=>(hkP b hb.1 hb.2).2)
    refine ⟨?_,fun b o m' c' e hn=>h1.2 b o m' c' (by rw [List.length_set] at e;exact e) (by rw [List.length_set] at hn;exact hn)⟩;obtain ⟨A1,c1,e1,hc1,hx⟩:=h1.1;rw [List.length_set];refine ⟨A1,c1,by rw [List.length_set];exact e1,by rw [List.length_set];exact hc1,fun hp=>?_⟩;rw [List.length_set] at hp;obtain ⟨b,o,hA,hb,hx⟩:=hx hp;refine ⟨b,o,hA,hb,fun k x hk j u hu'=>?_⟩
    rcases hmem k x hk with ⟨rfl,rfl⟩|⟨_,hk⟩
    · exact hx k s hi j u hu'
    · exact hx k x hk j u hu'
  · rw [List.length_set,List.length_set];exact h.len
  · rw [List.getElem?_set] at hR1
    rcases hmem j t ht with ⟨rfl,rfl⟩|⟨hj,ht⟩
    · rw [if_pos rfl,if_pos (by rw [←h.len];exact hil)] at hR1
      injection hR1 with hR1
      subst hR1;exact hok
    · rw [if_neg (fun e=>hj e.symm)] at hR1
      exact ((h.str j t R1 ht hR1).kept (hother j t ht hj)).mono hm
  · rcases hmem j t ht with ⟨e1,e2⟩|⟨hj,ht2⟩
    · rcases hmem k u hu' with ⟨e3,e4⟩|⟨hk,hu2⟩
      · exact absurd (e1.trans e3.symm) hjk
      · intro r hr hr'
        rw [e2] at hr
        rcases hall r hr with h9|h9
        · exact h.pair i k s u hi hu2 (fun e=>hk e.symm) r h9 hr'
        · have:=h.ltA u (List.mem_of_getElem? hu2) r hr';omega
    · rcases hmem k u hu' with ⟨e3,e4⟩|⟨hk,hu2⟩
      · intro r hr hr'
        rw [e4] at hr'
        rcases hall r hr' with h9|h9
        · exact h.pair j i t s ht2 hi hj r hr h9
        · have:=h.ltA t (List.mem_of_getElem? ht2) r hr;omega
      · exact h.pair j k t u ht2 hu2 hjk
  · rcases List.mem_or_eq_of_mem_set ht with ht|rfl
    · exact h.off t ht
    · refine ⟨fun hq=>(hall _ hq).elim hoff.1 (fun h9=>?_),fun hq=>(hall _ hq).elim hoff.2.1 (fun h9=>?_),fun hq=>(hall _ hq).elim hoff.2.2 (fun h9=>?_)⟩
      · have:=h.ltS;omega
      · have:=h.ltH;dsimp only at h9;omega
      · have:=h.live.lt;dsimp only at h9;omega
  · exact (hnot d.H hoff.2.1 h.ltH).trans h.tab
  · exact h.live.block (hnot d.L hoff.2.2 h.live.lt)
  · rcases h.cut j q hq with hf|⟨hf,C,hC,hh⟩
    · exact .inl hf
    · exact .inr ⟨hf,C,hC,hh.keep hu.size hkP⟩
  · rcases List.mem_or_eq_of_mem_set ht with ht|rfl
    · exact h.bs t ht r hr
    · exact hB r hr
def c0F (c:Cfg) (wd:Wd):Prop:=∀(i:Nat) R,wd.st[i]?=some R→∀p∈R,c0Z p.1.1 p.1.2 c.st=(i:Int)
def s1Q (B:Nat→Prop) (w:World) (S:Nat) (c:Cfg) (rs rh n:Nat) (wd:Wd) (fp:List Nat):Prop:=∃d,a0J B w S c rs rh n wd d∧fp=d.fp S
def d0Z (B:Nat→Prop) (w:World) (S:Nat) (c:Cfg) (rs rh n:Nat) (fp:List Nat) (v:Value) (wd:Wd) (e:Ending) (w':World):Prop:=∃fp',e=.returned v∧s1Q B w' S c rs rh n wd fp'∧Upd w w' fp fp'
section
section
variable {B:Nat→Prop} {S:Nat} {c:Cfg} {rs rh n:Nat} {wd:Wd} {d:d0M}
theorem c0R (w:World) (h:a0J B w S c rs rh n wd d) (hp:0<d.sts.length) :
 Calls Tryz.prog 80 #[.pointer (some ⟨S,0,none⟩)] w fun e w'=>e=.returned (.bool true)∧w'=w:=by
 obtain ⟨a1,a2,a3⟩:=a0A jR h.cell;have z:(0:Int)<(d.sts.length:Int):=by omega
 have z2:decide (0<d.sts.length)=true:=by simpa using hp
 clear h hp
 go_enter Tryz.func80,Tryz.ntmps80
 go_wp2
 go_ret
 exact ⟨rfl,rfl⟩
theorem i0U (w:World) (h:a0J B w S c rs rh n wd d) (hp:0<d.sts.length) :
 Calls Tryz.prog 29 #[.pointer (some ⟨S,0,none⟩)] w fun e w'=>e=.returned (.int .i64 (d.sts.length:Nat))∧w'=w:=by
 obtain ⟨a1,a2,a3⟩:=a0A jR h.cell;have HM:=jH (c0R w h hp);clear h hp
 go_enter Tryz.func29,Tryz.ntmps29
 go_wp2_with (go_at_call 80;refine HM.out.mono ?_;rintro e w' ⟨rfl,rfl⟩)
 go_ret
 exact ⟨rfl,rfl⟩
theorem d0V (w:World) (h:a0J B w S c rs rh n wd d) (i:Nat) (s:St) (hi:d.sts[i]?=some s) (hl:d.sts.length≤64) :
 Calls Tryz.prog 32 #[.pointer (some ⟨S,0,none⟩),.int .i64 (i:Nat)] w fun e w'=>e=.returned (.pointer (some ⟨s.T,0,none⟩))∧w'=w:=by
 obtain ⟨a1,a2,a3⟩:=a0A jR h.cell;obtain ⟨hil,his⟩:=List.getElem?_eq_some_iff.1 hi;have HM:=jH (i0U w h (by omega));obtain ⟨b,o,hA,hb,hc⟩:=h.row.1.at_ hil;injection hA with hA
 injection hA with e1 e2
 subst e1 e2;have c1:w.cell? ⟨d.A,i,none⟩=some (.pointer (some ⟨s.T,0,none⟩)):=by
  rw [his] at hc;have:=hc 0 _ rfl
  simpa using this
 have z1:¬(i:Int)<0:=by omega
 have z2:¬(d.sts.length:Int)≤(i:Int):=by omega
 have z3:(i:Int)<(d.sts.length:Int):=by omega
 have z4:(0:Int)≤(i:Int):=by omega
 clear h hi hil his hc hb hl
 go_enter Tryz.func32,Tryz.ntmps32
 go_wp2_with (go_at_call 29;refine HM.out.mono ?_;rintro e w' ⟨rfl,rfl⟩)
 go_ret
 exact ⟨rfl,rfl⟩
theorem f0D (w:World) (h:a0J B w S c rs rh n wd d) (hp:0<d.sts.length) (hl:(d.sts.length:Int)=c.st) (hl2:d.sts.length≤64) (k:Ky) (hk:k.ok) :
 Calls Tryz.prog 30 #[.pointer (some ⟨S,0,none⟩),.agg #[.int .u64 k.1,.int .u64 k.2]] w (jP w (.int .i64 (c0Z k.1 k.2 c.st))):=by
 have HM:=jH (fun W (hW:jB w W)=>i0U W (h.below hW) hp);have HR:=jH (fun W=>show Calls Tryz.prog 88 #[.agg #[.int .u64 k.1,.int .u64 k.2],.int .i64 (d.sts.length:Nat)] W (jP W (.int .i64 (c0Z k.1 k.2 c.st))) from hl ▸ a1V k.1 k.2 (d.sts.length:Nat) W hk.1 hk.2 (by unfold I64;omega));clear h hp hl
 go_enter Tryz.func30,Tryz.ntmps30
 go_wp2_with fail
 refine a0I ?_;intro W hW;have hb1:jB w W:=by rw [hW];exact a0C jR _
 have hx1:W.heap[w.heap.size]?=some (.cells #[.int .u64 k.1,.int .u64 k.2] 74 (0,0)):=by rw [hW];exact heap_alloc_new _ _
 clear hW;have rk0:∀U,jB W U→U.cell? ⟨w.heap.size,0,none⟩=some (.int .u64 k.1):=fun U hU=>(a0A hU hx1).1 0
 have rk1:∀U,jB W U→U.cell? ⟨w.heap.size,1,none⟩=some (.int .u64 k.2):=fun U hU=>(a0A hU hx1).1 1
 have hS00:jB W W:=jR;have hS0:jB W W.drew:=hS00.drew;have HB1:=jH hb1;clear hb1 hx1
 go_region_held3 (fun U=>jB W U)
   (first
     | with_reducible exact hS0
     | with_reducible exact HB5.out
     | with_reducible exact hS00)
   (first
   | (go_at_call 29
      refine (HM.out _ (a0D HB1.out ‹jB W _›)).mono ?_;rintro e w4 ⟨rfl,rfl⟩)
   | (go_at_call 88
      refine (HR.out _).mono ?_;rintro e w5 ⟨rfl,hb5⟩;have HB5:=jH (a0D ‹jB W _› hb5);clear hb5))
 all_goals
   refine a0T ?_;intro W6 hW6;have hb6:jB w W6:=by rw [hW6];first|exact a0D HB1.out HB5.out|exact (a0D HB1.out HB5.out).drew|exact a0F (a0D HB1.out HB5.out) _
   clear hW6;go_wp2
   go_ret
   exact ⟨rfl,hb6⟩
end
end
end
section
open Go.RowKit Go.Lib Go.Sort
open Go.ChangeMaps (setBlock)
section
theorem k1C {w:World} {L:Nat} {es:List (HN × Nat)} (h:b0N hdV q0A w L es) (x:HN) (W:World) (hW:W.heap[L]?=w.heap[L]?) :
 (Instr.lookup 227 (.map (some L)) (.int .i64 (x.1:Nat)) false).run Tryz.prog W=.ok (((a0V es x).map q0A).getD (.pointer none)) W:=by
 have:=b0N.look (V:=q0A) (h.block hW) m1Y Tryz.underlying227 (Tryz.zeroValue83 W) false x
 simpa [hdV] using this
theorem q1M {w:World} {L:Nat} {es:List (HN × Nat)} (h:b0N hdV q0A w L es) (x:HN) (b:Nat) :
 ∃o,(Instr.mapUpdate 227 (.map (some L)) (.int .i64 (x.1:Nat)) (.pointer (some ⟨b,0,none⟩))).run Tryz.prog w=.ok () (setBlock w L o)∧b0N hdV q0A (setBlock w L o) L (f0A es x b) :=
 b0N.store (V:=q0A) h m1Y Tryz.underlying227 x b
theorem t1P {w:World} {L:Nat} {es:List (HN × Nat)} (h:b0N hdV q0A w L es) (x:HN) (ty:TypeId) :
 ∃o,(Builtin.delete_ #[227,3] ty #[.map (some L),.int .i64 (x.1:Nat)]).run Tryz.prog w=.ok (.tuple #[]) (setBlock w L o)∧b0N hdV q0A (setBlock w L o) L (u0D es x) :=
 b0N.drop (V:=q0A) h m1Y Tryz.underlying227 x ty
theorem r1J {w:World} {L:Nat} {es:List (HN × Nat)} (h:b0N hdV q0A w L es) (ty:TypeId):(Builtin.len_ #[227] ty #[.map (some L)]).run Tryz.prog w=.ok (.int .i64 es.length) w :=
 b0N.len (V:=q0A) h Tryz.underlying227 ty
section
variable {B:Nat→Prop} {S:Nat} {c:Cfg} {rs rh n:Nat} {wd:Wd} {d:d0M}
theorem a0J.find {w:World} (h:a0J B w S c rs rh n wd d) (hl:wd.cuts.length≤900000) (hep:∀q∈wd.cuts,0≤q.ep) (i:Nat) (hi:i<wd.cuts.length) :
 (a0V d.live (hdl (i+1))=none∧b0V (e0J wd) ((i+1:Nat):Int)=8)∨∃C q,a0V d.live (hdl (i+1))=some C∧b0V (e0J wd) ((i+1:Nat):Int)=0∧wd.cuts[i]?=some q∧q.freed=false∧e0P (fun b=>b∉d.fp S∧B b) w C rs rh q.ep q.items:=by
 have hq:=List.getElem?_eq_getElem hi;have htl:(e0J wd).length=wd.cuts.length:=by simp [e0J]
 have ht:(e0J wd)[i]?=some (if wd.cuts[i].freed=true then -1 else wd.cuts[i].ep):=by
  unfold e0J;rw [List.getElem?_map,hq];rfl
 have hf:b0V (e0J wd) ((i+1:Nat):Int)=if (if wd.cuts[i].freed=true then -1 else wd.cuts[i].ep)<0 then 8 else 0:=by
  unfold b0V;rw [if_neg (by omega),show ((i+1:Nat):Int).toNat - 1=i by omega,ht]
 have he:=hep _ (List.getElem_mem hi)
 rcases h.cut i _ hq with ⟨h1,h2⟩|⟨h1,C,h2,h3⟩
 · refine .inl ⟨h2,?_⟩
   rw [hf,if_pos h1];rfl
 · refine .inr ⟨C,_,h2,?_,hq,h1,h3⟩
   have hn:¬wd.cuts[i].ep<0:=by omega
   rw [hf,h1];simp [hn]
theorem l0G {t:List Int} {k:Int} (h:k<1∨(t.length:Nat)<k):b0V t k=5:=by
 unfold b0V;rw [if_pos h]
theorem i0E (w:World) (h:a0J B w S c rs rh n wd d) (hl:wd.cuts.length≤900000) (hep:∀q∈wd.cuts,0≤q.ep) (k:Int) :
 Calls Tryz.prog 164 #[.pointer (some ⟨d.H,0,none⟩),.int .i64 k] w fun e w'=>e=.returned (.int .i64 (b0V (e0J wd) k))∧w'=w:=by
 obtain ⟨a1,a2,a3⟩:=a0A jR h.tab;have htl:(e0J wd).length=wd.cuts.length:=by simp [e0J]
 by_cases h1:k<1
 · rw [l0G (.inl h1)]
   clear h
   go_enter Tryz.func164,Tryz.ntmps164
   go_wp2
   go_ret
   exact ⟨rfl,rfl⟩
 · by_cases h2:(wd.cuts.length:Int)<k
   · rw [l0G (.inr (by rw [htl];exact h2))]
     have z:((wd.cuts.length+1:Nat):Int)≤k:=by omega
     generalize ((wd.cuts.length+1:Nat):Int)=m at a1 z;clear h
     go_enter Tryz.func164,Tryz.ntmps164
     go_wp2
     go_ret
     exact ⟨rfl,rfl⟩
   · obtain ⟨i,rfl⟩:∃i:Nat,k=((i+1:Nat):Int):=⟨k.toNat - 1,by omega⟩
     have hi:i<wd.cuts.length:=by omega
     have hlk:=k1C h.live (hdl (i+1)) w rfl;rw [i0Z (by omega)] at hlk;have z:¬((wd.cuts.length+1:Nat):Int)≤((i+1:Nat):Int):=by omega
     have z1:¬((i+1:Nat):Int)<1:=h1
     rcases h.find hl hep i hi with ⟨e1,e2⟩|⟨C,q,e1,e2,_⟩
     · rw [e2]
       rw [e1] at hlk;simp only [Option.map_none,Option.getD_none] at hlk
       generalize ((wd.cuts.length+1:Nat):Int)=m at a1 z;generalize ((i+1:Nat):Int)=k at *;clear h e1 e2 h1 h2
       go_enter Tryz.func164,Tryz.ntmps164
       go_wp2
       go_ret
       exact ⟨rfl,rfl⟩
     · rw [e2]
       rw [e1] at hlk;simp only [Option.map_some,Option.getD_some,q0A] at hlk
       generalize ((wd.cuts.length+1:Nat):Int)=m at a1 z;generalize ((i+1:Nat):Int)=k at *;clear h e1 e2 h1 h2
       go_enter Tryz.func164,Tryz.ntmps164
       go_wp2
       go_ret
       exact ⟨rfl,rfl⟩
theorem g1I (w:World) (h:a0J B w S c rs rh n wd d) (hl:wd.cuts.length≤900000) (hep:∀q∈wd.cuts,0≤q.ep) (k:Int) (hk:b0V (e0J wd) k≠0) :
 Calls Tryz.prog 95 #[.pointer (some ⟨d.H,0,none⟩),.int .i64 k] w fun e w'=>e=.returned (.tuple #[.pointer none,.int .i64 (b0V (e0J wd) k)])∧w'=w:=by
 have HF:=jH (i0E w h hl hep k);generalize b0V (e0J wd) k=e at HF hk ⊢;have z:¬e=0:=hk;clear h hk
 go_enter Tryz.func95,Tryz.ntmps95
 go_wp2_with (go_at_call 164;refine HF.out.mono ?_;rintro e w' ⟨rfl,rfl⟩)
 go_ret2
 exact ⟨rfl,rfl⟩
theorem i1P (w:World) (h:a0J B w S c rs rh n wd d) (hl:wd.cuts.length≤900000) (hep:∀q∈wd.cuts,0≤q.ep) (i:Nat) (hi:i<wd.cuts.length) (C:Nat) (hC:a0V d.live (hdl (i+1))=some C) (hk:b0V (e0J wd) ((i+1:Nat):Int)=0) :
 Calls Tryz.prog 95 #[.pointer (some ⟨d.H,0,none⟩),.int .i64 ((i+1:Nat):Int)] w fun e w'=>e=.returned (.tuple #[.pointer (some ⟨C,0,none⟩),.int .i64 0])∧w'=w:=by
 have HF:=jH (i0E w h hl hep ((i+1:Nat):Int));rw [hk] at HF;obtain ⟨a1,a2,a3⟩:=a0A jR h.tab;have hlk:=k1C h.live (hdl (i+1)) w rfl;rw [i0Z (by omega),hC] at hlk;simp only [Option.map_some,Option.getD_some,q0A] at hlk
 generalize ((wd.cuts.length+1:Nat):Int)=m at a1;generalize ((i+1:Nat):Int)=k at *;clear h hk hC
 go_enter Tryz.func95,Tryz.ntmps95
 go_wp2_with (go_at_call 164;refine HF.out.mono ?_;rintro e w' ⟨rfl,rfl⟩)
 go_ret2
 exact ⟨rfl,rfl⟩
end
end
section
theorem d0D {w:World} {b i:Nat} {v:Value} {k:Nat} (h:k≠b):(w.setCell ⟨b,i,none⟩ v).heap[k]?=w.heap[k]?:=a0U rfl h
theorem t1I {w:World} {b i:Nat} {v:Value} {fp:List Nat} (h:b∈fp):Upd w (w.setCell ⟨b,i,none⟩ v) fp fp :=
 ⟨rfl,rfl,rfl,Nat.le_of_eq (by simp),fun r _ hn=>d0D (fun e=>hn (by rw [e];exact h)),fun r hr=>.inl hr⟩
theorem i1H {w:World} {b:Nat} {o:Obj} {fp:List Nat} (h:b∈fp):Upd w (setBlock w b o) fp fp :=
 ⟨rfl,rfl,rfl,Nat.le_of_eq g0H.symm,fun r _ hn=>b0Y (fun e=>hn (by rw [e];exact h)),fun r hr=>.inl hr⟩
theorem n1D {t:List Int} {i:Nat} (hi:i<t.length) (h:0≤t[i]):f0V (t.set i (-1))+1=f0V t:=by
 unfold f0V;rw [List.countP_set hi];have h1:0<List.countP (fun n=>decide (0≤n)) t:=List.countP_pos_iff.2 ⟨t[i],List.getElem_mem hi,by simpa using h⟩;simp [h]
 omega
theorem o1B {α β:Type} [DecidableEq α] {es:List (α × β)} (hn:(es.map (·.1)).Nodup) {x:α} {v:β} (h:a0V es x=some v):(u0D es x).length+1=es.length:=by
 have hm:=b0U h;obtain ⟨j,hj⟩:=List.getElem?_of_mem hm;rw [n0E hn hj,List.length_eraseIdx];have:=(List.getElem?_eq_some_iff.1 hj).1;rw [if_pos this];omega
theorem e1Y {α β:Type} [DecidableEq α] (es:List (α × β)) (x y:α):a0V (u0D es x) y=if y=x then none else a0V es y:=by
 unfold a0V u0D;rw [List.find?_filter]
 by_cases h:y=x
 · subst h
   rw [if_pos rfl,List.find?_eq_none.2]
   · rfl
   · intro p _
     by_cases e:p.1=y <;> simp [e]
 · rw [if_neg h]
   congr 1
   congr 1
   funext p
   by_cases e:p.1=y
   · simp [e,h]
   · simp [e]
section
variable {B:Nat→Prop} {S:Nat} {c:Cfg} {rs rh n:Nat} {wd:Wd} {d:d0M}
theorem a0J.own3 {w w':World} {wd':Wd} {d':d0M} (h:a0J B w S c rs rh n wd d) (hs:w.heap.size=w'.heap.size) (hk:∀r,r≠S→r≠d.H→r≠d.L→w'.heap[r]?=w.heap[r]?)
    (e1:d'.A=d.A) (e2:d'.cp=d.cp) (e3:d'.H=d.H) (e4:d'.L=d.L) (e5:d'.sts=d.sts) (e6:wd'.st=wd.st)
    (hcell:w'.heap[S]?=some (.cells #[.slice (some ⟨d.A,0,none⟩) d.sts.length d.cp,.pointer (some ⟨d.H,0,none⟩),.int .i64 wd'.ep,.bool wd'.over] 148 (0,0)))
    (htab:w'.heap[d.H]?=some (.cells #[.map (some d.L),.int .i64 ((wd'.cuts.length+1:Nat):Int)] 229 (0,0)))
    (hlive:b0N hdV q0A w' d.L d'.live) (hkeys:∀p∈d'.live,1≤p.1.1∧p.1.1≤wd'.cuts.length) (hcnt:d'.live.length=f0V (e0J wd'))
    (hcut:∀(i:Nat) q,wd'.cuts[i]?=some q→(q.freed=true∧a0V d'.live (hdl (i+1))=none)∨(q.freed=false∧∃C,a0V d'.live (hdl (i+1))=some C∧e0P (fun b=>b∉d.fp S∧B b) w' C rs rh q.ep q.items)) :
    a0J B w' S c rs rh n wd' d'∧d'.fp S=d.fp S:=by
  obtain ⟨A',cp',H',L',sts',live'⟩:=d';obtain ⟨A,cp,H,L,sts,live⟩:=d;simp only at *
  subst e1 e2 e3 e4 e5;have hfp:d0M.fp S ⟨A',cp',H',L',sts',live'⟩=d0M.fp S ⟨A',cp',H',L',sts',live⟩:=rfl;have ha:∀s∈sts',∀r∈s.all,w'.heap[r]?=w.heap[r]?:=fun s hs' r hr=>hk r (fun e=>(h.off s hs').1 (by rw [←e];exact hr)) (fun e=>(h.off s hs').2.1 (by rw [←e];exact hr)) (fun e=>(h.off s hs').2.2 (by rw [←e];exact hr))
  refine ⟨⟨hcell,?_,by rw [e6];exact h.len,fun i s R hs' hR=>?_,h.pair,h.off,h.ne,htab,hlive,hkeys,fun i q hq=>?_,hcnt,h.bS,h.bs⟩,hfp⟩
  · exact h.row.keepP (Nat.le_of_eq hs) (fun b hb _=>hk b (fun e=>hb.1 (c0L.2 (.inl e))) (fun e=>hb.1 (c0L.2 (.inr (.inl e)))) (fun e=>hb.1 (c0L.2 (.inr (.inr (.inl e))))))
  · rw [e6] at hR
    exact (h.str i s R hs' hR).kept (ha s (List.mem_of_getElem? hs'))
  · exact hcut i q hq
theorem y0X (w:World) (h:a0J B w S c rs rh n wd d) (hl:wd.cuts.length≤900000) (hep:∀q∈wd.cuts,0≤q.ep) (k:Int) (hk:b0V (e0J wd) k≠0) :
 Calls Tryz.prog 96 #[.pointer (some ⟨d.H,0,none⟩),.int .i64 k] w fun e w'=>e=.returned (.int .i64 (b0V (e0J wd) k))∧w'=w:=by
 have HF:=jH (i0E w h hl hep k);generalize b0V (e0J wd) k=e at HF hk ⊢;have z:¬e=0:=hk;clear h hk
 go_enter Tryz.func96,Tryz.ntmps96
 go_wp2_with (go_at_call 164;refine HF.out.mono ?_;rintro e w' ⟨rfl,rfl⟩)
 go_ret
 exact ⟨rfl,rfl⟩
theorem e1Q (w:World) (h:a0J B w S c rs rh n wd d) (hl:wd.cuts.length≤900000) (hep:∀q∈wd.cuts,0≤q.ep) (i:Nat) (hi:i<wd.cuts.length) (hk:b0V (e0J wd) ((i+1:Nat):Int)=0) :
 Calls Tryz.prog 96 #[.pointer (some ⟨d.H,0,none⟩),.int .i64 ((i+1:Nat):Int)] w fun e w'=>e=.returned (.int .i64 0)∧∃o,w'=setBlock w d.L o∧b0N hdV q0A w' d.L (u0D d.live (hdl (i+1))):=by
 have HF:=jH (i0E w h hl hep ((i+1:Nat):Int));rw [hk] at HF;obtain ⟨a1,a2,a3⟩:=a0A jR h.tab;have hd:=fun ty=>t1P h.live (hdl (i+1)) ty
 obtain ⟨o,ho1,ho2⟩:=hd 0;have ho:∀ty,(Builtin.delete_ #[227,3] ty #[.map (some d.L),.int .i64 ((i+1:Nat):Int)]).run Tryz.prog w=.ok (.tuple #[]) (setBlock w d.L o):=fun ty=>by
  rw [i0Z (by omega)] at ho1;exact ho1
 have HO2:=jH ho2;generalize ((wd.cuts.length+1:Nat):Int)=m at a1;generalize ((i+1:Nat):Int)=k at *;clear h hk hd ho1 ho2
 go_enter Tryz.func96,Tryz.ntmps96
 go_wp2_with (first
  | (go_at_call 164;refine HF.out.mono ?_;rintro e w' ⟨rfl,rfl⟩))
 go_ret
 exact ⟨rfl,o,rfl,HO2.out⟩
theorem z0H (w:World) (h:a0J B w S c rs rh n wd d) (hp:0<d.sts.length) (hl:wd.cuts.length≤900000) (hep:∀q∈wd.cuts,0≤q.ep) (k:Int) (hk:b0V (e0J wd) k≠0) :
 Calls Tryz.prog 36 #[.pointer (some ⟨S,0,none⟩),.int .i64 k] w fun e w'=>e=.returned (.int .i64 (b0V (e0J wd) k))∧w'=w:=by
 obtain ⟨a1,a2,a3⟩:=a0A jR h.cell;have HM:=jH (c0R w h hp);have HF:=jH (y0X w h hl hep k hk);generalize b0V (e0J wd) k=e at HF ⊢;clear h hk hep
 go_enter Tryz.func36,Tryz.ntmps36
 go_wp2_with (first
  | (go_at_call 80;refine HM.out.mono ?_;rintro e w' ⟨rfl,rfl⟩)
  | (go_at_call 96;refine HF.out.mono ?_;rintro e w' ⟨rfl,rfl⟩))
 go_ret
 exact ⟨rfl,rfl⟩
theorem e1A (w:World) (h:a0J B w S c rs rh n wd d) (hp:0<d.sts.length) (hl:wd.cuts.length≤900000) (hep:∀q∈wd.cuts,0≤q.ep) (i:Nat) (hi:i<wd.cuts.length) (hk:b0V (e0J wd) ((i+1:Nat):Int)=0) :
 Calls Tryz.prog 36 #[.pointer (some ⟨S,0,none⟩),.int .i64 ((i+1:Nat):Int)] w fun e w'=>e=.returned (.int .i64 0)∧∃o,w'=setBlock w d.L o∧b0N hdV q0A w' d.L (u0D d.live (hdl (i+1))):=by
 obtain ⟨a1,a2,a3⟩:=a0A jR h.cell;have HM:=jH (c0R w h hp);have HF:=jH (e1Q w h hl hep i hi hk);generalize ((i+1:Nat):Int)=k at *;clear h hk hep
 go_enter Tryz.func36,Tryz.ntmps36
 go_wp2_with (first
  | (go_at_call 80;refine HM.out.mono ?_;rintro e w' ⟨rfl,rfl⟩)
  | (go_at_call 96;refine HF.out.mono ?_;rintro e w' ⟨rfl,o,rfl,ho⟩))
 go_ret
 exact ⟨rfl,o,rfl,ho⟩
theorem a0J.free {w:World} {o:Obj} (h:a0J B w S c rs rh n wd d) (hl:wd.cuts.length≤900000) (hep:∀q∈wd.cuts,0≤q.ep) (i:Nat) (hi:i<wd.cuts.length) (hk:b0V (e0J wd) ((i+1:Nat):Int)=0) (ho:b0N hdV q0A (setBlock w d.L o) d.L (u0D d.live (hdl (i+1)))) :
 a0J B (setBlock w d.L o) S c rs rh n { wd with cuts:=wd.cuts.set i ⟨0,[],true⟩ } { d with live:=u0D d.live (hdl (i+1)) }∧Upd w (setBlock w d.L o) (d.fp S) (d.fp S):=by
 have hother:∀r,r≠d.L→(setBlock w d.L o).heap[r]?=w.heap[r]?:=fun r hr=>b0Y hr
 obtain ⟨C,q,e1,e2,e3,e4,e5⟩:∃C q,a0V d.live (hdl (i+1))=some C∧b0V (e0J wd) ((i+1:Nat):Int)=0∧wd.cuts[i]?=some q∧q.freed=false∧e0P (fun b=>b∉d.fp S∧B b) w C rs rh q.ep q.items:=by
  rcases h.find hl hep i hi with ⟨_,e2⟩|h9
  · rw [hk] at e2;cases e2
  · exact h9
 have hnd:(d.live.map (·.1)).Nodup:=by
  obtain ⟨_,_,_,_,_,_,hn⟩:=h.live;exact hn
 refine ⟨(h.own3 (d':={ d with live:=u0D d.live (hdl (i+1)) }) (wd':={ wd with cuts:=wd.cuts.set i ⟨0,[],true⟩ }) g0H.symm (fun r _ _ h3=>hother r h3) rfl rfl rfl rfl rfl rfl ?_ ?_ ho (fun p hp=>?_) ?_ (fun j q' hq'=>?_)).1,i1H (c0L.2 (.inr (.inr (.inl rfl))))⟩
 · exact (hother S h.ne.2.1).trans h.cell
 · show _=some (Obj.cells #[_,.int .i64 (((wd.cuts.set i ⟨0,[],true⟩).length+1:Nat):Int)] _ _)
   rw [List.length_set];exact (hother d.H h.ne.2.2).trans h.tab
 · show _∧_≤(wd.cuts.set i _).length
   rw [List.length_set];exact h.keys p ((List.mem_filter.1 hp).1)
 · have h1:=o1B hnd e1
   have h2:=h.cnt;have h3:e0J { wd with cuts:=wd.cuts.set i ⟨0,[],true⟩ }=(e0J wd).set i (-1):=by
    unfold e0J;rw [List.map_set];rfl
   have hti:i<(e0J wd).length:=by simpa [e0J] using hi
   have h4:(0:Int)≤(e0J wd)[i]:=by
    simp only [e0J,List.getElem_map]
    obtain ⟨_,hq⟩:=List.getElem?_eq_some_iff.1 e3;rw [hq,e4,if_neg (by simp)];exact hep q (List.mem_of_getElem? e3)
   have h5:=n1D hti h4;rw [h3]
   show (u0D d.live _).length=_
   omega
 · have hq':(wd.cuts.set i ⟨0,[],true⟩)[j]?=some q':=hq'
   show (_∧a0V (u0D d.live _) _=none)∨(_∧∃C,a0V (u0D d.live _) _=some C∧_)
   rw [List.getElem?_set] at hq';have hj:j<wd.cuts.length:=by
    rcases Nat.lt_or_ge j wd.cuts.length with h9|h9
    · exact h9
    · split at hq'
      · omega
      · rw [List.getElem?_eq_none h9] at hq';cases hq'
   rw [e1Y]
   split at hq'
   · rename_i e
     have e9:=Option.some.inj hq';rw [←e9,←e,if_pos rfl];exact .inl ⟨rfl,rfl⟩
   · rename_i e
     rw [if_neg (fun e9=>e (by have:=n1K (by omega) (by omega) e9;omega))]
     rcases h.cut j q' hq' with h9|⟨h9,C',h10,h11⟩
     · exact .inl h9
     · exact .inr ⟨h9,C',h10,h11.keep (Nat.le_of_eq g0H.symm) (fun b hb hlt=>⟨hother b (fun e=>hb.1 (c0L.2 (.inr (.inr (.inl e))))),hb⟩)⟩
theorem h1B (w:World) (h:a0J B w S c rs rh n wd d) (hp:0<d.sts.length) (hl:wd.cuts.length≤900000) (hep:∀q∈wd.cuts,0≤q.ep) (k:Int) (hk:b0V (e0J wd) k≠0) :
 Calls Tryz.prog 35 #[.pointer (some ⟨S,0,none⟩),.int .i64 k] w fun e w'=>e=.returned (.tuple #[.pointer none,.int .i64 (b0V (e0J wd) k)])∧w'=w:=by
 obtain ⟨a1,a2,a3⟩:=a0A jR h.cell;have HM:=jH (c0R w h hp);have HF:=jH (g1I w h hl hep k hk);generalize b0V (e0J wd) k=e at HF ⊢;clear h hk hep
 go_enter Tryz.func35,Tryz.ntmps35
 go_wp2_with (first
  | (go_at_call 80;refine HM.out.mono ?_;rintro e w' ⟨rfl,rfl⟩)
  | (go_at_call 95;refine HF.out.mono ?_;rintro e w' ⟨rfl,rfl⟩))
 go_ret2
 exact ⟨rfl,rfl⟩
theorem i1O (w:World) (h:a0J B w S c rs rh n wd d) (hp:0<d.sts.length) (hl:wd.cuts.length≤900000) (hep:∀q∈wd.cuts,0≤q.ep) (i:Nat) (hi:i<wd.cuts.length) (C:Nat) (hC:a0V d.live (hdl (i+1))=some C) (hk:b0V (e0J wd) ((i+1:Nat):Int)=0) :
 Calls Tryz.prog 35 #[.pointer (some ⟨S,0,none⟩),.int .i64 ((i+1:Nat):Int)] w fun e w'=>e=.returned (.tuple #[.pointer (some ⟨C,0,none⟩),.int .i64 0])∧w'=w:=by
 obtain ⟨a1,a2,a3⟩:=a0A jR h.cell;have HM:=jH (c0R w h hp);have HF:=jH (i1P w h hl hep i hi C hC hk);generalize ((i+1:Nat):Int)=k at *;clear h hk hep hC
 go_enter Tryz.func35,Tryz.ntmps35
 go_wp2_with (first
  | (go_at_call 80;refine HM.out.mono ?_;rintro e w' ⟨rfl,rfl⟩)
  | (go_at_call 95;refine HF.out.mono ?_;rintro e w' ⟨rfl,rfl⟩))
 go_ret2
 exact ⟨rfl,rfl⟩
theorem v0Z (w:World) (h:a0J B w S c rs rh n wd d) (hp:0<d.sts.length) (ho:wd.over=true) :
 Calls Tryz.prog 37 #[.pointer (some ⟨S,0,none⟩)] w fun e w'=>e=.returned (.int .i64 9)∧w'=w:=by
 obtain ⟨a1,a2,a3⟩:=a0A jR h.cell;have HM:=jH (c0R w h hp);rw [ho] at a1;clear h ho
 go_enter Tryz.func37,Tryz.ntmps37
 go_wp2_with (first
  | (go_at_call 80;refine HM.out.mono ?_;rintro e w' ⟨rfl,rfl⟩))
 go_ret
 exact ⟨rfl,rfl⟩
theorem g1B (w:World) (h:a0J B w S c rs rh n wd d) (hp:0<d.sts.length) (ho:wd.over=false) :
 Calls Tryz.prog 37 #[.pointer (some ⟨S,0,none⟩)] w fun e w'=>e=.returned (.int .i64 0)∧a0J B w' S c rs rh n { wd with over:=true } d∧Upd w w' (d.fp S) (d.fp S):=by
 obtain ⟨a1,a2,a3⟩:=a0A jR h.cell;have HM:=jH (c0R w h hp);rw [ho] at a1;have HF:=jH (show a0J B (w.setCell ⟨S,3,none⟩ (.bool true)) S c rs rh n { wd with over:=true } d∧Upd w (w.setCell ⟨S,3,none⟩ (.bool true)) (d.fp S) (d.fp S) from by
  have hk:∀r,r≠S→(w.setCell ⟨S,3,none⟩ (.bool true)).heap[r]?=w.heap[r]?:=fun r hr=>d0D hr
  refine ⟨(h.own3 (d':=d) (wd':={ wd with over:=true }) (by simp) (fun r h1 _ _=>hk r h1) rfl rfl rfl rfl rfl rfl ?_ ?_ (h.live.block (hk _ (Ne.symm h.ne.2.1))) h.keys h.cnt (fun i q hq=>?_)).1,t1I (c0L.2 (.inl rfl))⟩
  · rw [a0E h.cell]
    rfl
  · exact (hk _ (Ne.symm h.ne.1)).trans h.tab
  · rcases h.cut i q hq with h9|⟨h9,C,h10,h11⟩
    · exact .inl h9
    · exact .inr ⟨h9,C,h10,h11.keep (by simp) (fun b hb hlt=>⟨hk b (fun e=>hb.1 (c0L.2 (.inl e))),hb⟩)⟩)
 clear h ho
 go_enter Tryz.func37,Tryz.ntmps37
 go_wp2_with (first
  | (go_at_call 80;refine HM.out.mono ?_;rintro e w' ⟨rfl,rfl⟩))
 go_ret
 exact ⟨rfl,HF.out.1,HF.out.2⟩
end
end
end
section
open Go.RowKit Go.Lib
theorem k1H (h b:Nat) (h1:1≤2 ^ b):j0E h b<2 ^ b:=by
 unfold j0E
 split
 · exact h1
 · exact Nat.mod_lt _ h1
theorem t0U {hi lo:Nat} {n:Int} (hn:e0X n=true):0≤c0Z hi lo n∧c0Z hi lo n<n:=by
 unfold c0Z;rw [if_pos hn];obtain ⟨j,hj,rfl⟩:∃j,j<7∧n=((2 ^ j:Nat):Int):=by
  rcases (l0P n).1 hn with h|h|h|h|h|h|h
  · exact ⟨0,by omega,h⟩
  · exact ⟨1,by omega,h⟩
  · exact ⟨2,by omega,h⟩
  · exact ⟨3,by omega,h⟩
  · exact ⟨4,by omega,h⟩
  · exact ⟨5,by omega,h⟩
  · exact ⟨6,by omega,h⟩
 rw [w0T j hj];have:=k1H (j0D hi lo) j (Nat.two_pow_pos j);simp only [Int.toNat_natCast]
 omega
end
end Go.Proofs.YtmniiodpbebnmaaGreat
