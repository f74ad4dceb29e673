/- Part 35 of the proof. -/
import Derived.Test.YtmniiodpbebnmaaGreatJ34
namespace Go.Proofs.YtmniiodpbebnmaaGreat
set_option linter.unusedSimpArgs false
set_option linter.unusedVariables false
set_option linter.unusedSectionVars false
set_option maxRecDepth 100000
set_option maxHeartbeats 16000000
section
open Go.RowKit Go.Lib Go.Sort
theorem j1M {s t:ByteArray} (hs:idS s=true) (ht:idS t=true) (h:b0L s=b0L t):s=t:=by
 unfold b0L at h;rw [if_pos hs,if_pos ht] at h;injection h with h1 h2
 have a:w0D (hiN s.data.toList) (loN s.data.toList) s.data.toList:=⟨hs,rfl,rfl⟩;have b:w0D (hiN s.data.toList) (loN s.data.toList) t.data.toList:=⟨ht,h1.symm,h2.symm⟩;exact ByteArray.ext (Array.toList_inj.1 (a.one b))
theorem n0H {l:List Itm} {k:Ky} (h:a0Z l k=none):∀p∈l,p.1≠k:=by
 intro p hp e;unfold a0Z at h;rw [Option.map_eq_none_iff,List.find?_eq_none] at h;exact h p hp (by simpa using e)
theorem q0A (R:List Itm):f0K (R.map h1S)=R.map (·.1):=by
 unfold f0K;rw [List.map_map];rfl
theorem k1D {R:List Itm} (hs:j1D R) (k:Ky):u0F R k=true ↔ k∈R.map (·.1):=by
 have h1:=m0A (R.map h1S) k;rw [f0X] at h1;have h2:=r0B (l:=R.map h1S) (by rw [q0A];exact hs) k;rw [←h1,q0A] at h2;exact h2
theorem s0G {R:List Itm} (hs:j1D R) (k:Ky):u0F R k=(a0Z R k).isSome:=by
 rw [Bool.eq_iff_iff,k1D hs]
 constructor
 · intro h
   obtain ⟨p,hp,rfl⟩:=List.mem_map.1 h;rw [e0A hs (k:=p.1) (y:=p.2) hp];rfl
 · intro h
   obtain ⟨y,hy⟩:=Option.isSome_iff_exists.1 h;exact List.mem_map.2 ⟨_,f0E hy,rfl⟩
theorem f1Q {R:List Itm} (hs:j1D R) (k:Ky):x0R R k=(a0Z R k).getD nd0:=by
 cases hh:u0F R k with
 | true =>
   have h1:=m0A (R.map h1S) k;have h2:=y0M (R.map h1S) k;rw [f0X] at h1 h2;have h3:=z0A (h1.symm.trans hh);rw [f0X,←h2] at h3;rw [e0A hs h3];rfl
 | false =>
   have h1:=s0G hs k;rw [hh] at h1;have h2:a0Z R k=none:=by cases hf:a0Z R k with|none=>rfl|some y=>rw [hf] at h1;cases h1
   rw [h2];unfold u0F at hh;unfold x0R
   cases hx:R[atP R k]? with
   | none=>rfl
   | some x =>
     rw [hx] at hh;exact if_neg (of_decide_eq_false hh)
theorem q0Y {R:List Itm} (hs:j1D R) (k:Ky) (y:Nd) (q:Ky) (z:Nd):(q,z)∈o0L R k y ↔ (q=k∧z=y)∨((q,z)∈R∧q≠k):=by
 have h1:=i0C (l:=R.map h1S) (by rw [q0A];exact hs) k y q z;rw [←q0E,f0X] at h1;exact h1
theorem i0W {R:List Itm} (hs:j1D R) (k:Ky) (y:Nd):j1D (o0L R k y):=by
 have h1:=m0Q (l:=R.map h1S) (by rw [q0A];exact hs) k y;rw [←q0E,f0X] at h1;exact h1
theorem r0S {R:List Itm} (hs:j1D R) (k:Ky) (y:Nd) (q:Ky):a0Z (o0L R k y) q=if q=k then some y else a0Z R q:=by
 split
 · rename_i e
   rw [e];exact e0A (i0W hs k y) ((q0Y hs k y k y).2 (.inl ⟨rfl,rfl⟩))
 · rename_i e
   cases hf:a0Z R q with
   | some z=>exact e0A (i0W hs k y) ((q0Y hs k y q z).2 (.inr ⟨f0E hf,e⟩))
   | none =>
     refine g0U (fun p hp e2=>?_);obtain ⟨a,b⟩:=p;simp only at e2
     subst e2
     rcases (q0Y hs k y a b).1 hp with ⟨h9,_⟩|⟨h9,_⟩
     · exact e h9
     · exact n0H hf _ h9 rfl
theorem j1Y (R:List Itm) (k:Ky) (y:Nd):(o0L R k y).length=if u0F R k=true then R.length else R.length+1:=by
 unfold o0L;have hat:atP R k≤R.length:=by
  unfold atP;exact (List.takeWhile_sublist _).length_le
 cases hh:u0F R k with
 | true =>
   have:atP R k<R.length:=by
    unfold u0F at hh
    split at hh
    · cases hh
    · rename_i x hx
      exact (List.getElem?_eq_some_iff.1 hx).1
   simp
   omega
 | false =>
   simp
   omega
theorem q0K {c:Cfg} {wd:Wd} (h:b0V c wd) (hst:e0R c.st=true) (hl:(wd.st.length:Int)=c.st) (id:ByteArray):a0Z (d0D wd) (b0L id)=a0Z (wd.st.getD (atW c id) []) (b0L id):=by
 obtain ⟨h1,h2⟩:=y0N (id:=id) hst hl;rw [List.getD_eq_getElem?_getD,List.getElem?_eq_getElem h1];exact g0G h (List.getElem?_eq_getElem h1) h2
theorem n1G {c:Cfg} {es:List (SK × It)} {wd:Wd} (h:b0F c es wd) (i:Nat):j1D (wd.st.getD i []):=by
 rw [List.getD_eq_getElem?_getD]
 cases hx:wd.st[i]? with
 | none=>exact List.Pairwise.nil
 | some R=>exact h.srt R (List.mem_of_getElem? hx)
theorem b0F.load {c:Cfg} {es:List (SK × It)} {wd:Wd} (h:b0F c es wd) (s:SK) (hs:idS s.1=true):match a0L es s with|none=>h0O wd s.1=none|some x=>∃y,h0O wd s.1=some y∧f0U x.nd y:=h.has.2 s hs
theorem b0F.is {c:Cfg} {es:List (SK × It)} {wd:Wd} (h:b0F c es wd) (s:SK) (hs:idS s.1=true):d0B es s=(h0O wd s.1).isSome:=by
 have h1:=h.load s hs
 cases hh:d0B es s with
 | false =>
   rw [f0G hh] at h1;rw [h1];rfl
 | true =>
   obtain ⟨v,hv,_⟩:=c0F hh;rw [hv] at h1;obtain ⟨y,hy,_⟩:=h1;rw [hy];rfl
theorem b0F.here {c:Cfg} {es:List (SK × It)} {wd:Wd} (h:b0F c es wd) (hst:e0R c.st=true) (s:SK) (hs:idS s.1=true) :
 u0F (wd.st.getD (atW c s.1) []) (b0L s.1)=d0B es s∧f0U (((a0L es s).map (·.nd)).getD nd0) (x0R (wd.st.getD (atW c s.1) []) (b0L s.1)):=by
 have hr:=n1G h (atW c s.1);have hf:=q0K h.home hst h.lst s.1;have h1:=h.load s hs;have h2:=h.is s hs;unfold h0O at h1 h2;rw [hf] at h1 h2;refine ⟨(s0G hr _).trans h2.symm,?_⟩;rw [f1Q hr]
 cases hh:a0L es s with
 | none =>
   rw [hh] at h1;simp only at h1
   rw [h1];exact f0U.refl _
 | some x =>
   rw [hh] at h1;obtain ⟨y,hy,hxy⟩:=h1;rw [hy];exact hxy
theorem b0F.many {c:Cfg} {es:List (SK × It)} {wd:Wd} (h:b0F c es wd) (hst:e0R c.st=true) (id:ByteArray) :
 (wd.st.getD (atW c id) []).length=(es.map (·.1)).countP fun s=>decide (c0J (b0L s.1).1 (b0L s.1).2 c.st=c0J (b0L id).1 (b0L id).2 c.st):=by
 obtain ⟨h1,h2⟩:=y0N (id:=id) hst h.lst;rw [List.getD_eq_getElem?_getD,List.getElem?_eq_getElem h1,h2];exact h.cnt _ _ (List.getElem?_eq_getElem h1)
theorem b0F.put {c:Cfg} {es:List (SK × It)} {wd:Wd} (h:b0F c es wd) (hst:e0R c.st=true) (s:SK) (hs:idS s.1=true) (x:It) (y:Nd) (hxy:f0U x.nd y) :
 b0F c (d0F es s x) { wd with st:=wd.st.set (atW c s.1) (o0L (wd.st.getD (atW c s.1) []) (b0L s.1) y) }:=by
 obtain ⟨h1,h2⟩:=y0N (id:=s.1) hst h.lst;have hr:=n1G h (atW c s.1);have hRm:wd.st.getD (atW c s.1) []∈wd.st:=by
  rw [List.getD_eq_getElem?_getD,List.getElem?_eq_getElem h1];exact List.getElem_mem h1
 have hRa:wd.st[atW c s.1]?=some (wd.st.getD (atW c s.1) []):=by rw [List.getD_eq_getElem?_getD,List.getElem?_eq_getElem h1];rfl
 have hhas:=(h.here hst s hs).1;generalize hR:wd.st.getD (atW c s.1) []=R at *;have hmem:∀p∈o0L R (b0L s.1) y,p∈R∨p.1=b0L s.1:=fun p hp=>(p0Z hp).imp id (fun e=>by rw [e])
 have hhome:b0V c { wd with st:=wd.st.set (atW c s.1) (o0L R (b0L s.1) y) }:=h.home.set (fun p hp=>by
  rcases hmem p hp with h9|h9
  · exact h.home _ _ hRa p h9
  · rw [h9];exact h2)
 have hlst:((({ wd with st:=wd.st.set (atW c s.1) (o0L R (b0L s.1) y) }:Wd).st.length:Nat):Int)=c.st:=by
  show (((wd.st.set (atW c s.1) (o0L R (b0L s.1) y)).length:Nat):Int)=c.st
  rw [List.length_set];exact h.lst
 refine ⟨⟨fun p hp=>?_,fun t ht=>?_⟩,fun p hp=>?_,fun i Q hQ=>?_,fun Q hQ=>?_,hhome,hlst,h0U h.nod s x⟩
 · have:p.1∈(d0F es s x).map (·.1):=List.mem_map.2 ⟨p,hp,rfl⟩
   rw [h0L] at this;have h9:p.1∈es.map (·.1)∨p.1=s:=by
    split at this
    · exact .inl this
    · rcases List.mem_append.1 this with h|h
      · exact .inl h
      · exact .inr (List.mem_singleton.1 h)
   rcases h9 with h9|h9
   · obtain ⟨q,hq,e⟩:=List.mem_map.1 h9
     rw [←e];exact h.has.1 q hq
   · rw [h9];exact hs
 · have hq:=q0K hhome hst hlst t.1
   have hq0:=q0K h.home hst h.lst t.1;have hset:({ wd with st:=wd.st.set (atW c s.1) (o0L R (b0L s.1) y) }:Wd).st.getD (atW c t.1) []=if atW c s.1=atW c t.1 then o0L R (b0L s.1) y else wd.st.getD (atW c t.1) []:=by
    show (wd.st.set (atW c s.1) (o0L R (b0L s.1) y)).getD (atW c t.1) []=_
    rw [List.getD_eq_getElem?_getD,List.getElem?_set]
    split
    · rfl
    · rw [List.getD_eq_getElem?_getD]
   rw [hset] at hq;have hkey:a0Z (d0D { wd with st:=wd.st.set (atW c s.1) (o0L R (b0L s.1) y) }) (b0L t.1)=if t=s then some y else a0Z (d0D wd) (b0L t.1):=by
    rw [hq]
    by_cases e:t=s
    · subst e
      rw [if_pos rfl,if_pos rfl,r0S hr,if_pos rfl]
    · have hk:b0L t.1≠b0L s.1:=fun e2=>e (Subtype.ext (j1M ht hs e2))
      rw [if_neg e,hq0]
      split
      · rename_i e3
        rw [r0S hr,if_neg hk,←e3,hR]
      · rfl
   rw [hkey,j0U]
   by_cases e:t=s
   · rw [if_pos e,if_pos e]
     exact ⟨y,rfl,hxy⟩
   · rw [if_neg e,if_neg e]
     exact h.has.2 t ht
 · obtain ⟨Q,hQ,hp⟩:=List.mem_flatten.1 hp
   rcases List.mem_or_eq_of_mem_set hQ with hQ|rfl
   · exact h.keys p (List.mem_flatten.2 ⟨Q,hQ,hp⟩)
   · rcases hmem p hp with h9|h9
     · exact h.keys p (List.mem_flatten.2 ⟨R,hRm,h9⟩)
     · exact ⟨s,hs,h9.symm⟩
 · have hQ:(wd.st.set (atW c s.1) (o0L R (b0L s.1) y))[i]?=some Q:=hQ
   rw [List.getElem?_set] at hQ;rw [h0L]
   split at hQ
   · rename_i e
     injection hQ with hQ
     subst hQ;rw [j1Y,hhas];have hc:=h.cnt _ _ hRa;rw [e] at hc h2
     cases d0B es s with
     | true =>
       simp only [if_true]
       exact hc
     | false =>
       simp only [Bool.false_eq_true,if_false]
       rw [List.countP_append,List.countP_singleton,if_pos (by simpa using h2),hc]
   · rename_i e
     have hc:=h.cnt i Q hQ
     cases d0B es s with
     | true =>
       simp only [if_true]
       exact hc
     | false =>
       simp only [Bool.false_eq_true,if_false]
       rw [List.countP_append,List.countP_singleton,if_neg (by simp only [decide_eq_true_eq];omega),hc,Nat.add_zero]
 · rcases List.mem_or_eq_of_mem_set hQ with hQ|rfl
   · exact h.srt Q hQ
   · exact i0W hr _ _
def setF (x:Nd) (p:Pol):Nd:={ x with pol:=p,ruled:=true }
def a1Y (rh:Nat) (x:Nd) (a:Adv):Nd:={ x with past:=g0B x.past rh a }
def u0M (cut:Int) (x:Nd):Nd:={ x with smp:=x.smp.drop (a0N x.smp cut) }
def m0R (c:Cfg) (es:List (SK × It)) (s:SK):Bool:=!d0B es s && decide (c.lo≤(((es.map (·.1)).countP fun t=>decide (c0J (b0L t.1).1 (b0L t.1).2 c.st=c0J (b0L s.1).1 (b0L s.1).2 c.st):Nat):Int))
theorem e1Q (c:Cfg) (rs rh:Nat) (wd:Wd) (id:ByteArray) (a:d0U):h0E c rs rh wd id a=({ wd with st:=wd.st.set (atW c id) (i0N c rs rh (wd.st.getD (atW c id) []) (b0L id) a).1 },(i0N c rs rh (wd.st.getD (atW c id) []) (b0L id) a).2):=rfl
theorem o1G {wd:Wd} {i:Nat}:({ wd with st:=wd.st.set i (wd.st.getD i []) }:Wd)=wd:=by
 have:wd.st.set i (wd.st.getD i [])=wd.st:=by
  rw [List.getD_eq_getElem?_getD]
  apply List.ext_getElem?
  intro j;rw [List.getElem?_set]
  split
  · rename_i e
    subst e
    split
    · rename_i hl
      rw [List.getElem?_eq_getElem hl];rfl
    · rename_i hl
      rw [List.getElem?_eq_none (by omega)]
  · rfl
 cases wd
 simp only at this ⊢
 rw [this]
theorem b0F.one {c:Cfg} {rs rh:Nat} {es:List (SK × It)} {wd:Wd} (h:b0F c es wd) (hst:e0R c.st=true) (s:SK) (hs:idS s.1=true) (a:d0U) (h3:a.kind≠3)
    (he:(l0S rs rh (x0R (wd.st.getD (atW c s.1) []) (b0L s.1)) a).2.1=0) :
    (m0R c es s=true→h0E c rs rh wd s.1 a=(wd,6)) ∧
    (m0R c es s=false→(h0E c rs rh wd s.1 a).2=0∧∀x:It,f0U x.nd (l0S rs rh (x0R (wd.st.getD (atW c s.1) []) (b0L s.1)) a).1→b0F c (d0F es s x) (h0E c rs rh wd s.1 a).1):=by
  have hm:=h.many hst s.1;have hh:=(h.here hst s hs).1;rw [e1Q];unfold i0N m0R;rw [←hm,hh];dsimp only;rw [if_neg (not_not_intro he),if_neg (fun e=>h3 e.2)]
  constructor
  · intro hf
    rw [Bool.and_eq_true,Bool.not_eq_true',decide_eq_true_eq] at hf;rw [if_pos hf,o1G]
  · intro hf
    have hn:¬(d0B es s=false∧c.lo≤(((wd.st.getD (atW c s.1) []).length:Nat):Int)):=fun e=>by
     rw [e.1,decide_eq_true e.2] at hf
     cases hf
    rw [if_neg hn];exact ⟨rfl,fun x hx=>h.put hst s hs x _ hx⟩
theorem b0F.note {c:Cfg} {rs rh:Nat} {es:List (SK × It)} {wd:Wd} (h:b0F c es wd) (hst:e0R c.st=true) (s:SK) (hs:idS s.1=true) (a:Adv) (x0:It) (hx0:a0L es s=some x0) (x:It) (hx:x.nd=a1Y rh x0.nd a) :
 (e0D c rs rh wd s.1 a).2=true∧b0F c (d0F es s x) (e0D c rs rh wd s.1 a).1:=by
 have h1:=h.load s hs;rw [hx0] at h1;obtain ⟨y,hy,_⟩:=h1;obtain ⟨hh,hsame⟩:=h.here hst s hs;have hhas:d0B es s=true:=by
  rw [h.is s hs,hy];rfl
 unfold e0D;rw [hy];refine ⟨rfl,?_⟩
 show b0F c (d0F es s x) (h0E c rs rh wd s.1 ⟨3,(0,0),g0P,a⟩).1
 rw [e1Q];unfold i0N;rw [hh,hhas];have hd:l0S rs rh (x0R (wd.st.getD (atW c s.1) []) (b0L s.1)) ⟨3,(0,0),g0P,a⟩=({ x0R (wd.st.getD (atW c s.1) []) (b0L s.1) with past:=g0B (x0R (wd.st.getD (atW c s.1) []) (b0L s.1)).past rh a,ver:=(x0R (wd.st.getD (atW c s.1) []) (b0L s.1)).ver+1 },0,0):=rfl;rw [hd];dsimp only;rw [if_neg (by simp),if_neg (by simp),if_neg (by simp)];refine h.put hst s hs x _ ?_
 rw [hx0] at hsame;rw [hx];obtain ⟨a1,a2,a3,a4⟩:=hsame;exact ⟨a1,by show g0B x0.nd.past rh a=g0B _ rh a;rw [show x0.nd.past=_ from a2],a3,a4⟩
theorem b0F.note_no {c:Cfg} {rs rh:Nat} {es:List (SK × It)} {wd:Wd} (h:b0F c es wd) (s:SK) (hs:idS s.1=true) (a:Adv) (hx0:a0L es s=none):e0D c rs rh wd s.1 a=(wd,false):=by
 have h1:=h.load s hs;rw [hx0] at h1;unfold e0D;rw [show h0O wd s.1=none from h1]
theorem z0V {x y:Nd} (h:f0U x y) (cut:Int):f0U (u0M cut x) (f0T cut y):=by
 obtain ⟨a1,a2,a3,a4⟩:=h;unfold u0M f0T;rw [a1]
 split
 · rename_i e
   rw [e];exact ⟨by simp,a2,a3,a4⟩
 · exact ⟨rfl,a2,a3,a4⟩
theorem x0E (f:Nd→Nd) (l:List Itm) (k:Ky):a0Z (l.map fun p=>(p.1,f p.2)) k=(a0Z l k).map f:=by
 induction l with
 | nil=>rfl
 | cons p l ih =>
   unfold a0Z at ih ⊢;rw [List.map_cons,List.find?_cons,List.find?_cons]
   by_cases e:p.1=k
   · simp [e]
   · simp only [e,decide_false]
     exact ih
theorem y0O (wd:Wd) (cut:Int):d0D (i0E wd cut)=(d0D wd).map fun p=>(p.1,f0T cut p.2):=by
 unfold d0D i0E;rw [List.map_flatten]
theorem b0F.trim {c:Cfg} {es es':List (SK × It)} {wd:Wd} (h:b0F c es wd) (cut:Int) (hk:es'.map (·.1)=es.map (·.1)) (hv:∀s x,a0L es s=some x→∃x',a0L es' s=some x'∧x'.nd=u0M cut x.nd):b0F c es' (i0E wd cut):=by
 have hn:∀s,a0L es s=none→a0L es' s=none:=fun s hs=>by
  refine f0G ?_
  cases hh:d0B es' s with
  | false=>rfl
  | true =>
    rw [c0D,hk,←c0D] at hh;obtain ⟨v,hv,_⟩:=c0F hh;rw [hs] at hv
    cases hv
 refine ⟨⟨fun p hp=>?_,fun s hs=>?_⟩,fun p hp=>?_,fun i R hR=>?_,fun R hR=>?_,m0O h.home,?_,by rw [hk];exact h.nod⟩
 · have:p.1∈es.map (·.1):=by rw [←hk];exact List.mem_map.2 ⟨p,hp,rfl⟩
   obtain ⟨q,hq,e⟩:=List.mem_map.1 this;rw [←e];exact h.has.1 q hq
 · rw [y0O,x0E]
   have h1:=h.has.2 s hs
   cases hf:a0L es s with
   | none =>
     rw [hf] at h1;rw [hn s hf];simp only at h1 ⊢
     rw [h1];rfl
   | some x =>
     rw [hf] at h1;obtain ⟨x',hx',hnd⟩:=hv s x hf;rw [hx'];obtain ⟨y,hy,hxy⟩:=h1;refine ⟨f0T cut y,by rw [hy];rfl,?_⟩;rw [hnd];exact z0V hxy cut
 · rw [y0O] at hp
   obtain ⟨q,hq,rfl⟩:=List.mem_map.1 hp;exact h.keys q hq
 · have hR:(wd.st.map fun l=>l.map fun p=>(p.1,f0T cut p.2))[i]?=some R:=hR
   rw [List.getElem?_map] at hR;obtain ⟨Q,hQ,rfl⟩:=Option.map_eq_some_iff.1 hR;rw [List.length_map,hk];exact h.cnt i Q hQ
 · have hR:R∈wd.st.map fun l=>l.map fun p=>(p.1,f0T cut p.2):=hR
   obtain ⟨Q,hQ,rfl⟩:=List.mem_map.1 hR
   show (List.map _ _).Pairwise _
   rw [List.map_map];exact h.srt Q hQ
 · show (((wd.st.map fun l=>l.map fun p=>(p.1,f0T cut p.2)).length:Nat):Int)=c.st
   rw [List.length_map];exact h.lst
theorem b0F.same {c:Cfg} {es:List (SK × It)} {wd wd':Wd} (h:b0F c es wd) (hs:wd'.st=wd.st):b0F c es wd':=by
 have ha:d0D wd'=d0D wd:=by unfold d0D;rw [hs]
 refine ⟨by rw [ha];exact h.has,by rw [ha];exact h.keys,by rw [hs];exact h.cnt,by rw [hs];exact h.srt,?_,by rw [hs];exact h.lst,h.nod⟩;intro i R hR;rw [hs] at hR;exact h.home i R hR
theorem s0N {c:Cfg} {es:List (SK × It)} {wd:Wd} (h:b0F c es wd) (s:SK) (hs:idS s.1=true):w0C (a0L es s)=e0C wd s.1:=by
 have h1:=h.load s hs;unfold e0C w0C
 cases hf:a0L es s with
 | none =>
   rw [hf] at h1;rw [show h0O wd s.1=none from h1]
 | some x =>
   rw [hf] at h1;obtain ⟨y,hy,a1,a2,a3,a4⟩:=h1;rw [hy];simp only [a1,a2,a3,a4]
theorem g1Y {c:Cfg} {es:List (SK × It)} {wd:Wd} (h:b0F c es wd) (s:SK) (hs:idS s.1=true):k1Q (a0L es s)=n1A wd s.1:=by
 have h1:=h.load s hs;unfold n1A k1Q
 cases hf:a0L es s with
 | none =>
   rw [hf] at h1;rw [show h0O wd s.1=none from h1]
 | some x =>
   rw [hf] at h1;obtain ⟨y,hy,a1,a2,a3,a4⟩:=h1;rw [hy];simp only [a2]
   cases y.past.getLast? <;> rfl
theorem b0F.it {c:Cfg} {rs rh n:Nat} {es:List (SK × It)} {wd:Wd} (h:b0F c es wd) (hk:h0C c rs rh n wd):∀p∈es,NdOk rs rh p.2.nd∧u0E p.2.nd.smp∧(∀s∈p.2.nd.smp,0≤s.1∧0≤s.2)∧p.2.nd.pol.ok:=by
 intro p hp;have hf:a0L es p.1=some p.2:=by
  have hh:d0B es p.1=true:=(c0D _ _).2 (List.mem_map.2 ⟨p,hp,rfl⟩);obtain ⟨v,hv,hm⟩:=c0F hh;obtain ⟨i,hi⟩:=List.getElem?_of_mem hp;obtain ⟨j,hj⟩:=List.getElem?_of_mem hm;have e:i=j:=d0O h.nod (x:=p.1) (by simp [hi]) (by simp [hj]);subst e;rw [hi] at hj;injection hj with hj
  rw [hv,hj]
 have h1:=h.has.2 p.1 (h.has.1 p hp);rw [hf] at h1;obtain ⟨y,hy,a1,a2,a3,a4⟩:=h1;have ho:=u0W hk _ (f0E hy);refine ⟨⟨by rw [a1];exact ho.nd.ris,by rw [a1];exact ho.nd.len,by rw [a2];exact ho.nd.past⟩,by rw [a1];exact ho.smp,by rw [a1];exact ho.val,by rw [a3];exact ho.pol⟩
theorem e1R {l:List Smp} {x:Smp} {room:Int} (hr:b0K (l++[x])) (h:((l.length+1:Nat):Int)≤room):l0X l room x=l++[x]:=by
 have hp:a0N l x.1=l.length:=by
  unfold a0N;rw [List.countP_eq_length];intro y hy;have:=(List.pairwise_append.1 hr).2.2 y hy x (by simp);simp
  omega
 unfold l0X d1K h1X e1L;rw [hp,List.getElem?_eq_none (Nat.le_refl _),List.take_length,List.drop_length];rw [if_neg (by simp)];simp only [List.length_append,List.length_singleton]
 rw [if_neg (by omega)]
def l0A (room:Int) (l:List Smp):List Smp:=l.foldl (fun a x=>l0X a room x) []
theorem k0K (room:Int) (l:List Smp) (x:Smp):l0A room (l++[x])=l0X (l0A room l) room x:=by
 unfold l0A;rw [List.foldl_append];rfl
theorem o0W (room:Int) (l:List Smp) (k:Nat) (h:k<l.length):l0A room (l.take (k+1))=l0X (l0A room (l.take k)) room l[k]:=by
 rw [List.take_succ_eq_append_getElem h,k0K]
theorem p0J (room:Int) (l:List Smp) (hr:b0K l) (hl:(l.length:Int)≤room):∀k,k≤l.length→l0A room (l.take k)=l.take k
  | 0,_=>rfl
  | k+1,h=>by
    rw [o0W room l k (by omega),p0J room l hr hl k (by omega),List.take_succ_eq_append_getElem (by omega)];refine e1R ?_ ?_
    · rw [←List.take_succ_eq_append_getElem (by omega)]
      exact hr.sublist (List.take_sublist _ _)
    · rw [List.length_take]
      omega
theorem i1E (room:Int) (l:List Smp) (x:Smp) (hr:b0K l) (hl:(l.length:Int)≤room):l0A room (l++[x])=l0X l room x:=by
 rw [k0K];have:=p0J room l hr hl l.length (Nat.le_refl _);rw [List.take_length] at this;rw [this]
theorem l1B (room:Nat):∀l:List Smp,b0K (l0A (room:Nat) l)∧(l0A (room:Nat) l).length≤room:=by
 intro l
 induction hn:l.length generalizing l with
 | zero =>
   rw [List.eq_nil_of_length_eq_zero hn];exact ⟨List.Pairwise.nil,Nat.zero_le _⟩
 | succ n ih =>
   rcases List.eq_nil_or_concat l with rfl|⟨m,x,rfl⟩
   · cases hn
   · rw [List.concat_eq_append] at hn ⊢
     obtain ⟨a,b⟩:=ih m (by simpa using hn);rw [k0K];exact ⟨k0M a _ x,m0G b x⟩
end
end Go.Proofs.YtmniiodpbebnmaaGreat
