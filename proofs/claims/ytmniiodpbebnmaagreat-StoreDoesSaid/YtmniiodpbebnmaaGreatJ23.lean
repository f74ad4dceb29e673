/- Part 23 of the proof. -/
import Derived.Test.YtmniiodpbebnmaaGreatJ22
namespace Go.Proofs.YtmniiodpbebnmaaGreat
set_option linter.unusedSimpArgs false
set_option linter.unusedVariables false
set_option linter.unusedSectionVars false
set_option maxRecDepth 100000
set_option maxHeartbeats 16000000
section
open Go.RowKit Go.Lib Go.Sort
theorem r0M {l:List Itm} {k:Ky} {y:Nd} (h:b0O l k=some y):(k,y)∈l:=by
 unfold b0O at h;obtain ⟨q,hq,rfl⟩:=Option.map_eq_some_iff.1 h;have h1:=List.find?_some hq;simp at h1
 rw [←h1];exact List.mem_of_find?_eq_some hq
theorem k0A {l:List Itm} {k:Ky} (h:∀p∈l,p.1≠k):b0O l k=none:=by
 unfold b0O;rw [List.find?_eq_none.2 (fun p hp=>by simpa using h p hp)];rfl
theorem l0J (a b:List Itm) (k:Ky):b0O (a++b) k=(b0O a k).or (b0O b k):=by
 unfold b0O;rw [List.find?_append]
 cases List.find? (fun p=>decide (p.1=k)) a <;> rfl
theorem t0D {R:List Itm} (hs:(R.map (·.1)).Pairwise (fun a b=>ltK a b=true)) {k:Ky} {y:Nd} (h:(k,y)∈R):b0O R k=some y:=by
 unfold b0O
 cases hf:R.find? (fun p=>decide (p.1=k)) with
 | none=>exact absurd (List.find?_eq_none.1 hf (k,y) h) (by simp)
 | some q =>
   have h1:=List.find?_some hf;simp at h1
   have h2:=List.mem_of_find?_eq_some hf;obtain ⟨a,b⟩:=q;obtain rfl:a=k:=h1;rw [e0F hs h2 h];rfl
theorem r0O {S:List (KO × Nd)} {R:List Itm} (h:b0M S R) (k:KO):match a0V S k with|none=>b0O R k.1=none|some x=>∃y,b0O R k.1=some y∧j0R x y:=by
 cases hf:a0V S k with
 | some x =>
   obtain ⟨y,hy,hs⟩:=h.vals k x hf;exact ⟨y,t0D h.sorted hy,hs⟩
 | none =>
   refine k0A (fun p hp e=>?_);have hk:p.1∈c0T S:=(h.keys p.1).1 (List.mem_map.2 ⟨p,hp,rfl⟩);obtain ⟨q,hq,e2⟩:=List.mem_map.1 hk;have:q.1=k:=Subtype.ext (e2.trans e);have hh:g0A S k=true:=(d0W S k).2 (List.mem_map.2 ⟨q,hq,this⟩);obtain ⟨v,hv,_⟩:=e0M hh;rw [hf] at hv
   cases hv
theorem v0C {ll:List (List Itm)} {k:Ky} (h:∀l∈ll,b0O l k=none):b0O ll.flatten k=none:=by
 induction ll with
 | nil=>rfl
 | cons l ll ih =>
   rw [List.flatten_cons,l0J,h l (by simp),Option.none_or];exact ih (fun m hm=>h m (by simp [hm]))
theorem s1O {ll:List (List Itm)} {k:Ky} {i:Nat} {R:List Itm} (hi:ll[i]?=some R) (h:∀j l,ll[j]?=some l→j≠i→b0O l k=none):b0O ll.flatten k=b0O R k:=by
 induction ll generalizing i with
 | nil=>simp at hi
 | cons l ll ih =>
   rw [List.flatten_cons,l0J]
   cases i with
   | zero =>
     simp at hi
     subst hi;rw [v0C (fun m hm=>by
      obtain ⟨j,hj⟩:=List.getElem?_of_mem hm;exact h (j+1) m (by simpa using hj) (by omega))]
     exact Option.or_none
   | succ i =>
     rw [h 0 l (by simp) (by omega),Option.none_or];exact ih (by simpa using hi) (fun j m hm hj=>h (j+1) m (by simpa using hm) (by omega))
theorem i0W {c:Cfg} {wd:Wd} (h:c0F c wd) {k:Ky} {i:Nat} {R:List Itm} (hi:wd.st[i]?=some R) (hk:c0Z k.1 k.2 c.st=(i:Int)):b0O (g0C wd) k=b0O R k :=
 s1O hi (fun j l hl hj=>k0A (fun p hp e=>hj (by
  have:=h j l hl p hp;rw [e,hk] at this;omega)))
theorem c0F.set {c:Cfg} {wd:Wd} (h:c0F c wd) {i:Nat} {R:List Itm} (hR:∀p∈R,c0Z p.1.1 p.1.2 c.st=(i:Int)):c0F c { wd with st:=wd.st.set i R }:=by
 intro j Q hQ p hp;have hQ:(wd.st.set i R)[j]?=some Q:=hQ;rw [List.getElem?_set] at hQ
 split at hQ
 · rename_i e
   split at hQ
   · injection hQ with hQ
     subst hQ;rw [←e];exact hR p hp
   · cases hQ
 · exact h j Q hQ p hp
theorem l1Z {c:Cfg} {rs rh:Nat} {R:List Itm} {k:Ky} {a:c0W}:∀p∈(l0X c rs rh R k a).1,p∈R∨p.1=k:=by
 intro p hp;unfold l0X at hp;dsimp only at hp
 split at hp
 · exact .inl hp
 · split at hp
   · exact .inl hp
   · split at hp
     · exact .inl hp
     · rcases b1T hp with h|h
       · exact .inl h
       · exact .inr (by rw [h])
theorem atW_lt {c:Cfg} {wd:Wd} {id:ByteArray} (hst:e0X c.st=true) (hl:(wd.st.length:Int)=c.st):atW c id<wd.st.length∧c0Z (c0C id).1 (c0C id).2 c.st=(atW c id:Int):=by
 obtain ⟨h0,h1⟩:=t0U (hi:=(c0C id).1) (lo:=(c0C id).2) hst;unfold atW;omega
theorem m0U {c:Cfg} {rs rh:Nat} {wd:Wd} {id:ByteArray} {a:c0W} (h:c0F c wd) (hst:e0X c.st=true) (hl:(wd.st.length:Int)=c.st):c0F c (u0V c rs rh wd id a).1:=by
 obtain ⟨h1,h2⟩:=atW_lt (id:=id) hst hl;refine h.set (fun p hp=>?_)
 rcases l1Z p hp with h9|h9
 · rw [List.getD_eq_getElem?_getD,List.getElem?_eq_getElem h1] at h9
   exact h _ _ (List.getElem?_eq_getElem h1) p h9
 · rw [h9];exact h2
theorem a1U {c:Cfg} {wd:Wd} {cut:Int} (h:c0F c wd):c0F c (q0I wd cut):=by
 intro i R hR p hp;have hR:(wd.st.map fun l=>l.map fun p=>(p.1,g0R cut p.2))[i]?=some R:=hR;rw [List.getElem?_map] at hR;obtain ⟨Q,hQ,rfl⟩:=Option.map_eq_some_iff.1 hR;obtain ⟨q,hq,rfl⟩:=List.mem_map.1 hp;exact h i Q hQ q hq
theorem n1A {c:Cfg} {rs rh:Nat} {wd:Wd} {x:c0D} (h:c0F c wd) (hst:e0X c.st=true) (hl:(wd.st.length:Int)=c.st):c0F c (doW c rs rh wd x).1:=by
 unfold doW
 split
 · exact h
 · split
   · exact m0U h hst hl
   · split
     · exact a1U h
     · split
       · unfold j0B
         split
         · exact h
         · exact h
       · split
         · unfold l0Z
           split
           · exact h
           · exact h
         · split
           · exact h
           · split
             · exact m0U h hst hl
             · split
               · exact h
               · split
                 · exact h
                 · exact h
theorem y0P {c:Cfg} {rs rh:Nat} {wd:Wd} {id:ByteArray} {a:Adv} (h:c0F c wd) (hst:e0X c.st=true) (hl:(wd.st.length:Int)=c.st):c0F c (j0P c rs rh wd id a).1:=by
 unfold j0P
 split
 · exact h
 · exact m0U h hst hl
theorem h1I (c:Cfg) (n:Nat):c0F c (w0Z n):=by
 intro i R hR p hp;have:=List.mem_of_getElem? hR;rw [List.eq_of_mem_replicate this] at hp
 cases hp
theorem n1C {c:Cfg} {rs rh:Nat} {R:List Itm} {k:Ky} {a:c0W}:(l0X c rs rh R k a).1.length≤R.length+1:=by
 unfold l0X;dsimp only
 split
 · exact Nat.le_succ _
 · split
   · exact Nat.le_succ _
   · split
     · exact Nat.le_succ _
     · unfold s1S
       have hat:atP R k≤R.length:=by
        unfold atP;exact (List.takeWhile_sublist _).length_le
       cases hh:r1M R k
       · simp;omega
       · simp;omega
theorem x0N (ll:List (List Itm)) (i:Nat) (R:List Itm) (h:R.length≤(ll.getD i []).length+1):(ll.set i R).flatten.length≤ll.flatten.length+1:=by
 induction ll generalizing i with
 | nil=>simp
 | cons l ll ih =>
   cases i with
   | zero=>simp at h ⊢;omega
   | succ i =>
     have:=ih i (by simpa using h);simp at this ⊢
     omega
theorem y0I {c:Cfg} {rs rh:Nat} {wd:Wd} {id:ByteArray} {a:c0W}:(g0C (u0V c rs rh wd id a).1).length≤(g0C wd).length+1:=x0N _ _ _ n1C
theorem q1F {wd:Wd} {cut:Int}:(g0C (q0I wd cut)).length=(g0C wd).length:=by
 unfold g0C q0I;simp [List.length_flatten,List.map_map,Function.comp_def]
theorem tot_do {c:Cfg} {rs rh:Nat} {wd:Wd} {x:c0D}:(g0C (doW c rs rh wd x).1).length≤(g0C wd).length+1:=by
 unfold doW
 split
 · exact Nat.le_succ _
 · split
   · exact y0I
   · split
     · rw [show (q0I wd x.tick,c0N 0).1=q0I wd x.tick from rfl,q1F];exact Nat.le_succ _
     · split
       · unfold j0B
         split
         · exact Nat.le_succ _
         · exact Nat.le_succ _
       · split
         · unfold l0Z
           split
           · exact Nat.le_succ _
           · exact Nat.le_succ _
         · split
           · exact Nat.le_succ _
           · split
             · exact y0I
             · split
               · exact Nat.le_succ _
               · split
                 · exact Nat.le_succ _
                 · exact Nat.le_succ _
theorem p1X {c:Cfg} {rs rh:Nat} {wd:Wd} {id:ByteArray} {a:Adv}:(g0C (j0P c rs rh wd id a).1).length≤(g0C wd).length+1:=by
 unfold j0P
 split
 · exact Nat.le_succ _
 · exact y0I
theorem u1C (n:Nat):(g0C (w0Z n)).length=0:=by simp [g0C,w0Z]
end
section
open Go.RowKit Go.Lib Go.Sort
open Go.ChangeMaps (setBlock)
section
def q0B (es:List (KO × NE)):List En:=(risL (kyN es)).map fun q=>(q,j0O es q)
theorem d1D {es:List (KO × NE)} {x:En} (h:x∈q0B es):∃p∈es,p.1.1=x.1∧p.2.1=x.2:=by
 obtain ⟨q,hq,rfl⟩:=List.mem_map.1 h;obtain ⟨p,hp,e,hf⟩:=blk_at ((i0C _ _).1 hq);refine ⟨p,hp,e,?_⟩;unfold j0O;rw [hf];rfl
theorem k1F {es:List (KO × NE)} {R:List Itm} (ht:b0M (ab es) R) {k:Ky} (h:d0L (q0B es) k=none):b0O R k=none:=by
 refine k0A (fun p hp e=>?_);have hk:p.1∈c0T (ab es):=(ht.keys p.1).1 (List.mem_map.2 ⟨p,hp,rfl⟩);rw [←v0P,e] at hk;unfold d0L at h;rw [Option.map_eq_none_iff] at h;have:=List.find?_eq_none.1 h (k,j0O es k) (List.mem_map.2 ⟨k,(i0C _ _).2 hk,rfl⟩);simp at this
theorem o1W (es:List (KO × NE)) (K:List Ky):q0B (g0Y es K)=q0B es:=by
 have e:kyN (g0Y es K)=kyN es:=by simp [kyN,g0Y,Function.comp_def]
 unfold q0B;rw [e];exact List.map_congr_left (fun q _=>by rw [p1I])
theorem e1Z {es:List (KO × NE)} (h:(es.map (·.1)).Nodup):(kyN es).Nodup:=by
 have e:kyN es=kys (es.map (·.1)):=by simp [kyN,kys,Function.comp_def]
 rw [e];exact p0E h
theorem d1G {es:List (KO × NE)} (h:(es.map (·.1)).Nodup):(q0B es).length=es.length:=by
 unfold q0B;rw [List.length_map,e0K (e1Z h)];simp [kyN]
def n1U (es:List (KO × NE)):Prop:=∀p∈es,p.2.2.1.frz=true
theorem q0M {ll:List (List En)} {k:Ky} (h:d0L ll.flatten k=none):∀l∈ll,d0L l k=none:=by
 induction ll with
 | nil=>intro l hl;cases hl
 | cons a ll ih =>
   rw [List.flatten_cons,u0S] at h;intro l hl
   rcases List.mem_cons.1 hl with rfl|hl
   · cases h9:d0L l k with
     | none=>rfl
     | some v=>rw [h9] at h;cases h
   · refine ih ?_ l hl
     cases h9:d0L a k with
     | none=>rw [h9,Option.none_or] at h;exact h
     | some v=>rw [h9] at h;cases h
def q1S (sts:List St):List En:=(sts.map fun s=>q0B s.es).flatten
section
variable {B:Nat→Prop} {S:Nat} {c:Cfg} {rs rh n:Nat} {wd:Wd} {d:d0M}
theorem i1E:∀(sts:List St) (st:List (List Itm)),sts.length=st.length→(∀(i:Nat) (s:St) (R:List Itm),sts[i]?=some s→st[i]?=some R→(q0B s.es).length=R.length)→((sts.map fun s=>q0B s.es).flatten).length=st.flatten.length
  | [],[],_,_=>rfl
  | [],_::_,h,_=>by simp at h
  | _::_,[],h,_=>by simp at h
  | s::sts,R::st,h,hi=>by
    have h0:=hi 0 s R rfl rfl;have h1:=i1E sts st (by simpa using h) (fun i s' R' hs hR=>hi (i+1) s' R' (by simpa using hs) (by simpa using hR));simp only [List.map_cons,List.flatten_cons,List.length_append,h0,h1]
theorem a0J.ent_len {w:World} (h:a0J B w S c rs rh n wd d):(q1S d.sts).length=(g0C wd).length :=
 i1E d.sts wd.st h.len (fun i s R hs hR=>by
  have hk:=h.str i s R hs hR;rw [d1G hk.at_.nodup,←l0A,hk.tells.len])
theorem a0J.cut_has {w w':World} {C:Nat} {ep:Int} (h:a0J B w S c rs rh n wd d) (hB:∀b,w.heap.size≤b→B b) (hfz:∀s∈d.sts,n1U s.es) (hh:c0F c wd) (hl:(g0C wd).length≤400) (hC:p0C w.heap.size w' C ep (e0B (q1S d.sts))) (hb:jB w w') :
 e0P (fun b=>b∉d.fp S∧B b) w' C rs rh ep (g0C wd):=by
 obtain ⟨hC0,A,cc,hc1,hc2⟩:=hC;have hnew:∀b,w.heap.size≤b→b∉d.fp S∧B b:=fun b hb'=>⟨fun hq=>by have:=(h.fpLt b hq).1;omega,hB b hb'⟩
 have h':=h.below hb;refine ⟨A,cc,e0B (q1S d.sts),hnew C hC0,hc1,(e0U.own eEn hc2).imp (fun b hb'=>hnew b (by omega)),n1V _,?_,fun x hx=>?_,fun k hk=>?_⟩
 · rw [show (e0B (q1S d.sts)).length=(q1S d.sts).length from (List.mergeSort_perm _ _).length_eq,h.ent_len];exact hl
 · have hx:x∈q1S d.sts:=(l1M _ x).1 hx
   obtain ⟨l,hl',hxl⟩:=List.mem_flatten.1 hx;obtain ⟨s,hs,rfl⟩:=List.mem_map.1 hl';obtain ⟨p,hp,e1,e2⟩:=d1D hxl;obtain ⟨i,hi⟩:=List.getElem?_of_mem hs;obtain ⟨R,hR,hk⟩:=h'.get hi;have hfind:a0V (ab s.es) p.1=some p.2.2.1:=by
    have hm:g0A (ab s.es) p.1=true:=(d0W _ _).2 (List.mem_map.2 ⟨(p.1,p.2.2.1),List.mem_map.2 ⟨p,hp,rfl⟩,rfl⟩);obtain ⟨v,hv,hvm⟩:=e0M hm;obtain ⟨q,hq,e⟩:=List.mem_map.1 hvm;injection e with e3 e4
    have:q=p:=by
     obtain ⟨a,ha⟩:=List.getElem?_of_mem hq;obtain ⟨b,hb'⟩:=List.getElem?_of_mem hp;have hn:=hk.at_.nodup;have:a=b:=f0Z hn (x:=p.1) (by rw [List.getElem?_map,ha];simp [e3]) (by rw [List.getElem?_map,hb'];rfl);rw [this,hb'] at ha;injection ha with ha
     exact ha.symm
    rw [hv,←e4,this]
   have ht:=r0O hk.tells p.1;rw [hfind] at ht;obtain ⟨z,hz,hsame⟩:=ht;have hroute:c0Z p.1.1.1 p.1.1.2 c.st=(i:Int):=hh i R hR (p.1.1,z) (r0M hz);refine ⟨p.2.2.1,p.2.2.2,z,by rw [←e2];exact hk.at_.node p hp,fun r hr=>?_,by rw [←e1,i0W hh hR hroute];exact hz,hsame⟩;have hra:r∈s.all:=by
    simp only [St.all,List.mem_cons,List.mem_flatMap]
    exact .inr (.inr ⟨p,hp,hr⟩)
   refine ⟨fun hq=>?_,h.bs s hs r hra⟩;have hoff:=h.off s hs
   rcases c0L.1 hq with rfl|rfl|rfl|⟨t,ht',hr'⟩
   · exact hoff.1 hra
   · exact hoff.2.1 hra
   · exact hoff.2.2 hra
   · obtain ⟨j,hj⟩:=List.getElem?_of_mem ht'
     by_cases hij:i=j
     · subst hij
       rw [hi] at hj;injection hj with hj
       subst hj
       rcases l1H (hfz s hs) r hr' with rfl|rfl
       · exact (hk.at_.off p hp).1 hr
       · exact (hk.at_.off p hp).2 hr
     · exact h.pair i j s t hi hj hij r hra (t.sub r hr')
 · rw [g1O] at hk
   refine v0C (fun R hR=>?_);obtain ⟨i,hi⟩:=List.getElem?_of_mem hR;have hil:=(List.getElem?_eq_some_iff.1 hi).1;rw [←h.len] at hil;have hs:=List.getElem?_eq_getElem hil;exact k1F (h.str i _ R hs hi).tells (q0M hk _ (List.mem_map.2 ⟨_,List.mem_of_getElem? hs,rfl⟩))
theorem a1D (t:List Int) (e:Int) (h:0≤e):f0V (t++[e])=f0V t+1:=by
 unfold f0V;rw [List.countP_append];simp [h]
theorem a0J.opened {w w':World} {C:Nat} (h:a0J B w S c rs rh n wd d) (hl:wd.cuts.length≤900000) (hep:0≤wd.ep) (hC:e0P (fun b=>b∉d.fp S∧B b) w C rs rh (wd.ep+1) (g0C wd))
    (hos:w'.os=w.os) (hta:w'.tape=w.tape) (hou:w'.output=w.output) (hsz:w.heap.size=w'.heap.size) (hother:∀r,r≠S→r≠d.H→r≠d.L→w'.heap[r]?=w.heap[r]?)
    (hS:w'.heap[S]?=some (.cells #[.slice (some ⟨d.A,0,none⟩) d.sts.length d.cp,.pointer (some ⟨d.H,0,none⟩),.int .i64 (wd.ep+1),.bool wd.over] 148 (0,0)))
    (hH:w'.heap[d.H]?=some (.cells #[.map (some d.L),.int .i64 ((wd.cuts.length+1+1:Nat):Int)] 229 (0,0)))
    (ho:b0N hdV q0A w' d.L (f0A d.live (hdl (wd.cuts.length+1)) C)) :
    a0J B w' S c rs rh n { wd with ep:=wd.ep+1,cuts:=wd.cuts++[⟨wd.ep+1,g0C wd,false⟩] } { d with live:=f0A d.live (hdl (wd.cuts.length+1)) C }∧Upd w w' (d.fp S) (d.fp S):=by
  have hno:g0A d.live (hdl (wd.cuts.length+1))=false:=by
   cases hq:g0A d.live (hdl (wd.cuts.length+1)) with
   | false=>rfl
   | true =>
     obtain ⟨v,_,hm⟩:=e0M hq;have:=(h.keys _ hm).2;dsimp only at this;rw [i0Z (by omega)] at this;omega
  have hput:f0A d.live (hdl (wd.cuts.length+1)) C=d.live++[(hdl (wd.cuts.length+1),C)]:=by unfold f0A;rw [hno];rfl
  have hkP:∀b,(b∉d.fp S∧B b)→b<w.heap.size→w'.heap[b]?=w.heap[b]?∧(b∉d.fp S∧B b):=fun b hb _ =>
   ⟨hother b (fun e=>hb.1 (c0L.2 (.inl e))) (fun e=>hb.1 (c0L.2 (.inr (.inl e)))) (fun e=>hb.1 (c0L.2 (.inr (.inr (.inl e))))),hb⟩
  refine ⟨(h.own3 (d':={ d with live:=f0A d.live (hdl (wd.cuts.length+1)) C }) (wd':={ wd with ep:=wd.ep+1,cuts:=wd.cuts++[⟨wd.ep+1,g0C wd,false⟩] }) hsz hother rfl rfl rfl rfl rfl rfl hS ?_ ho (fun p hp=>?_) ?_ (fun i q hq=>?_)).1,?_⟩
  · rw [hH]
    simp
  · show _∧_≤(wd.cuts++[_]).length
    have hp:p∈f0A d.live (hdl (wd.cuts.length+1)) C:=hp;rw [hput] at hp;rw [List.length_append]
    rcases List.mem_append.1 hp with hp|hp
    · have:=h.keys p hp;exact ⟨this.1,by simp;omega⟩
    · rw [List.mem_singleton.1 hp]
      dsimp only;rw [i0Z (by omega)];simp
  · show (f0A d.live _ C).length=_
    have e:e0J { wd with ep:=wd.ep+1,cuts:=wd.cuts++[⟨wd.ep+1,g0C wd,false⟩] }=e0J wd++[wd.ep+1]:=by simp [e0J]
    rw [e,a1D _ _ (by omega),←h.cnt,hput];simp
  · have hq:(wd.cuts++[⟨wd.ep+1,g0C wd,false⟩])[i]?=some q:=hq
    show (_∧a0V (f0A d.live _ C) _=none)∨(_∧∃C',a0V (f0A d.live _ C) _=some C'∧_)
    rw [w0N]
    rcases Nat.lt_or_ge i wd.cuts.length with hi|hi
    · rw [List.getElem?_append_left hi] at hq
      rw [if_neg (fun e=>by have:=n1K (by omega) (by omega) e;omega)]
      rcases h.cut i q hq with h9|⟨h9,C',h10,h11⟩
      · exact .inl h9
      · exact .inr ⟨h9,C',h10,h11.keep (Nat.le_of_eq hsz) hkP⟩
    · rw [List.getElem?_append_right hi] at hq
      have hi2:i=wd.cuts.length:=by
       have:=(List.getElem?_eq_some_iff.1 hq).1;simp at this
       omega
      subst hi2;simp at hq
      subst hq;rw [if_pos rfl];exact .inr ⟨rfl,C,rfl,hC.keep (Nat.le_of_eq hsz) hkP⟩
  · refine ⟨hos,hta,hou,Nat.le_of_eq hsz,fun r _ hn=>hother r (fun e=>hn (c0L.2 (.inl e))) (fun e=>hn (c0L.2 (.inr (.inl e)))) (fun e=>hn (c0L.2 (.inr (.inr (.inl e))))),fun r hr=>.inl hr⟩
end
end
section
section
variable {B:Nat→Prop} {S:Nat} {c:Cfg} {rs rh n:Nat} {wd:Wd} {d:d0M}
theorem x0A (w:World) (h:a0J B w S c rs rh n wd d) (hl:wd.cuts.length≤900000) (C:Nat) (hf:64≤d.live.length) :
 Calls Tryz.prog 93 #[.pointer (some ⟨d.H,0,none⟩),.pointer (some ⟨C,0,none⟩)] w fun e w'=>e=.returned (.tuple #[.int .i64 0,.int .i64 6])∧w'=w:=by
 obtain ⟨a1,a2,a3⟩:=a0A jR h.tab;have hlen:=fun ty=>r1J h.live ty
 have z1:¬((wd.cuts.length+1:Nat):Int)<1:=by omega
 have z2:(64:Int)≤(d.live.length:Int):=by omega
 generalize ((wd.cuts.length+1:Nat):Int)=m at a1 z1;clear h hf
 go_enter Tryz.func93,Tryz.ntmps93
 go_wp2
 go_ret2
 exact ⟨rfl,rfl⟩
theorem e1M (w:World) (h:a0J B w S c rs rh n wd d) (hl:wd.cuts.length≤900000) (C:Nat) (hf:¬64≤d.live.length) :
 Calls Tryz.prog 93 #[.pointer (some ⟨d.H,0,none⟩),.pointer (some ⟨C,0,none⟩)] w fun e w'=>e=.returned (.tuple #[.int .i64 ((wd.cuts.length+1:Nat):Int),.int .i64 0])∧∃o,w'=(setBlock w d.L o).setCell ⟨d.H,1,none⟩ (.int .i64 ((wd.cuts.length+1+1:Nat):Int))∧b0N hdV q0A (setBlock w d.L o) d.L (f0A d.live (hdl (wd.cuts.length+1)) C):=by
 obtain ⟨a1,a2,a3⟩:=a0A jR h.tab;have hlen:=fun ty=>r1J h.live ty
 obtain ⟨o,ho1,ho2⟩:=q1M h.live (hdl (wd.cuts.length+1)) C;rw [i0Z (by omega)] at ho1;have HO2:=jH ho2;have htab2:(setBlock w d.L o).heap[d.H]?=_:=(b0Y h.ne.2.2).trans h.tab;obtain ⟨b1,b2,b3⟩:=a0A jR htab2;have hm:((wd.cuts.length+1+1:Nat):Int)=((wd.cuts.length+1:Nat):Int)+1:=by omega
 have z1:¬((wd.cuts.length+1:Nat):Int)<1:=by omega
 have z2:¬(64:Int)≤(d.live.length:Int):=by omega
 have z3:((wd.cuts.length+1:Nat):Int)≤1000000:=by omega
 rw [hm];have hB:∃q:Nat,q=wd.cuts.length+1:=⟨_,rfl⟩;generalize ((wd.cuts.length+1:Nat):Int)=m at a1 b1 z1 z3 ho1 ⊢;have hw:IntKind.i64.wrap (m+1)=m+1:=by rw [IntKind.wrap_i64];omega
 have hw2:wrap64 (m+1)=m+1:=by unfold wrap64;omega
 obtain ⟨m1,hm1⟩:∃m1,m1=m+1:=⟨_,rfl⟩;rw [←hm1] at hw hw2 ⊢;clear h hf hm htab2 ho2 hB
 go_enter Tryz.func93,Tryz.ntmps93
 go_wp2
 go_ret2
 exact ⟨rfl,o,rfl,HO2.out⟩
structure b1K (w:World) (v:Value) (d:d0M):Prop where
 fz:∀s∈d.sts,n1U s.es
 parts:∃ps:List m0A,p0L w v ps∧(ps.flatMap fun p=>d0P (fun _=>true) p.2.2)=q1S d.sts∧(∀p∈ps,∀x∈p.2.2,∀N,x.2=some N→FzN w N true)∧ps.length≤1000∧∀p∈ps,p.2.2.length≤1000000
theorem b1K.below {w w':World} {v:Value} (h:b1K w v d) (hb:jB w w'):b1K w' v d:=by
 obtain ⟨ps,h1,h2,h3,h4,h5⟩:=h.parts;exact ⟨h.fz,ps,h1.below hb,h2,fun p hp x hx N hN=>(h3 p hp x hx N hN).below hb,h4,h5⟩
theorem l1G (w:World) (v:Value) (h:a0J B w S c rs rh n wd d) (hB:∀b,w.heap.size≤b→B b) (hp:b1K w v d) (hh:c0F c wd) (hl:(g0C wd).length≤40) (ep:Int) :
 Calls Tryz.prog 94 #[.int .i64 ep,v] w fun e w'=>∃C,e=.returned (.pointer (some ⟨C,0,none⟩))∧e0P (fun b=>b∉d.fp S∧B b) w' C rs rh ep (g0C wd)∧w.heap.size≤C∧jB w w':=by
 obtain ⟨ps,h1,h2,h3,h4,h5⟩:=hp.parts;refine (h1Y ep v ps (fun _=>true) w h1 h3 (by rw [h2,h.ent_len];exact hl) h4 h5).mono ?_;rintro e w' ⟨C,rfl,hC,hb⟩;rw [h2] at hC;exact ⟨C,rfl,h.cut_has hB hp.fz hh (by omega) hC hb,hC.1,hb⟩
theorem p0M (w:World) (v:Value) (h:a0J B w S c rs rh n wd d) (hB:∀b,w.heap.size≤b→B b) (hp0:0<d.sts.length) (hp:b1K w v d) (hh:c0F c wd) (hl:(g0C wd).length≤40) (hc:wd.cuts.length≤900000) (hep:0≤wd.ep∧wd.ep≤1000000) (hf:64≤d.live.length) :
 Calls Tryz.prog 34 #[.pointer (some ⟨S,0,none⟩),v] w (jP w (.tuple #[.int .i64 0,.int .i64 0,.int .i64 6])):=by
 obtain ⟨a1,a2,a3⟩:=a0A jR h.cell;have HM:=jH (c0R w h hp0);obtain ⟨e1,he1⟩:∃e1,e1=wd.ep+1:=⟨_,rfl⟩;have hw:IntKind.i64.wrap (wd.ep+1)=e1:=by rw [IntKind.wrap_i64];omega
 have hw2:wrap64 (wd.ep+1)=e1:=by unfold wrap64;omega
 have CN:=jH (fun W (hW:jB w W)=>l1G W v (h.below hW) (fun b hb=>hB b (Nat.le_trans hW.size hb)) (hp.below hW) hh hl (wd.ep+1));have CO:=jH (fun W (hW:jB w W) C=>x0A W (h.below hW) hc C hf);rw [←he1] at CN;have rs1:∀U,jB w U→U.cell? ⟨S,1,none⟩=some (.pointer (some ⟨d.H,0,none⟩)):=fun U hU=>(hU.cell (p:=⟨S,_,none⟩) a3).trans (a1 1)
 have rs2:∀U,jB w U→U.cell? ⟨S,2,none⟩=some (.int .i64 wd.ep):=fun U hU=>(hU.cell (p:=⟨S,_,none⟩) a3).trans (a1 2)
 clear h hp hh hB he1 a1 a2 hp0 hep;generalize wd.ep=ep at *
 go_enter Tryz.func34,Tryz.ntmps34
 go_wp2_with (go_at_call 80;refine HM.out.mono ?_;rintro e w' ⟨rfl,rfl⟩)
 have hS00:jB w' w':=jR;have hS0:jB w' w'.drew:=hS00.drew
 go_region_held3 (fun U=>jB w' U)
   (first
     | with_reducible exact hS0
     | with_reducible exact HB5.out
     | with_reducible exact hS00)
   (first
   | (go_at_call 94
      refine (CN.out _ ‹jB w' _›).mono ?_;rintro e w5 ⟨C,rfl,_,_,hb5⟩;have HB5:=jH (a0D ‹jB w' _› hb5);clear hb5)
   | (go_at_call 93
      refine (CO.out _ ‹jB w' _› _).mono ?_;rintro e w6 ⟨rfl,rfl⟩))
 all_goals
   refine a0T ?_;intro W6 hW6;have hb6:jB w' W6:=by rw [hW6];first|exact HB5.out|exact HB5.out.drew|exact a0F HB5.out _
   clear hW6;go_wp2
   go_ret3
   exact ⟨rfl,hb6⟩
theorem t0Q (w:World) (v:Value) (h:a0J B w S c rs rh n wd d) (hB:∀b,w.heap.size≤b→B b) (hp0:0<d.sts.length) (hp:b1K w v d) (hh:c0F c wd) (hl:(g0C wd).length≤40) (hc:wd.cuts.length≤900000) (hep:0≤wd.ep∧wd.ep≤1000000) (hf:¬64≤d.live.length) :
 Calls Tryz.prog 34 #[.pointer (some ⟨S,0,none⟩),v] w fun e w'=>e=.returned (.tuple #[.int .i64 (wd.ep+1),.int .i64 ((wd.cuts.length+1:Nat):Int),.int .i64 0]) ∧
   ∃C,w.heap.size≤C∧a0J B w' S c rs rh n { wd with ep:=wd.ep+1,cuts:=wd.cuts++[⟨wd.ep+1,g0C wd,false⟩] } { d with live:=f0A d.live (hdl (wd.cuts.length+1)) C }∧Upd w w' (d.fp S) (d.fp S):=by
 obtain ⟨a1,a2,a3⟩:=a0A jR h.cell;have HM:=jH (c0R w h hp0);obtain ⟨e1,he1⟩:∃e1,e1=wd.ep+1:=⟨_,rfl⟩;have hw:IntKind.i64.wrap (wd.ep+1)=e1:=by rw [IntKind.wrap_i64];omega
 have hw2:wrap64 (wd.ep+1)=e1:=by unfold wrap64;omega
 have H:=jH h;have HEP:=jH hep;have HCL:=jH hc;have CN:=jH (fun W (hW:jB w W)=>l1G W v (h.below hW) (fun b hb=>hB b (Nat.le_trans hW.size hb)) (hp.below hW) hh hl (wd.ep+1));have CO:=jH (fun W (hW:jB w W) C=>e1M W (h.below hW) hc C hf);have rs1:∀U,jB w U→U.cell? ⟨S,1,none⟩=some (.pointer (some ⟨d.H,0,none⟩)):=fun U hU=>(hU.cell (p:=⟨S,_,none⟩) a3).trans (a1 1)
 have rs2:∀U,jB w U→U.cell? ⟨S,2,none⟩=some (.int .i64 wd.ep):=fun U hU=>(hU.cell (p:=⟨S,_,none⟩) a3).trans (a1 2)
 have HE1:=jH he1;rw [←he1] at CN ⊢;obtain ⟨m1,hm1⟩:∃m1,m1=((wd.cuts.length+1:Nat):Int):=⟨_,rfl⟩;obtain ⟨m2,hm2⟩:∃m2,m2=((wd.cuts.length+1+1:Nat):Int):=⟨_,rfl⟩;have HM2:=jH hm2;rw [←hm1,←hm2] at CO;rw [←hm1];clear h hp hh hB he1 a1 a2 hp0 hep hm1 hm2 hc hl hf
 go_enter Tryz.func34,Tryz.ntmps34
 go_wp2_with (go_at_call 80;refine HM.out.mono ?_;rintro e w' ⟨rfl,rfl⟩)
 go_region_with (first
  | (go_at_call 94
     refine a0B ?_;intro W2 hW2;have hb2:jB w' W2:=by rw [hW2];repeat (first|exact jR|refine a0C ?_ _|refine Below.drew ?_)
     clear hW2;refine (CN.out W2 hb2).mono ?_;rintro e w5 ⟨C,rfl,hC5,hge,hb5⟩;have HB5:=jH (a0D hb2 hb5);have HC5:=jH hC5;have HGE:=jH (Nat.le_trans hb2.size hge);have h5:=a0D hb2 hb5;clear hb2 hb5 hC5 hge)
  | (go_at_call 93
     refine a0B ?_;intro W4 hW4;have hb4:jB w5 W4:=by rw [hW4];repeat (first|exact jR|refine a0C ?_ _|refine Below.drew ?_)
     clear hW4;have HB4:=jH hb4;refine (CO.out W4 (a0D HB5.out hb4) C).mono ?_;rintro e w6 ⟨rfl,o,hw6,ho⟩;have HW6:=jH hw6;have HO:=jH ho;have hS6:=(show w6.heap[S]?=W4.heap[S]? by rw [hw6];exact (d0D H.out.ne.1).trans (b0Y H.out.ne.2.1)).trans (H.out.below (a0D HB5.out hb4)).cell;have HS6:=jH hS6;clear hb4 hw6 ho hS6))
 all_goals
   refine a0T ?_;intro W7 hW7;have hh7:W7.heap=w6.heap:=by rw [hW7]
   have h70:W7.os=w6.os∧W7.tape=w6.tape∧W7.output=w6.output:=by rw [hW7];refine ⟨?_,?_,?_⟩ <;> rfl
   have hS7:W7.heap[S]?=_:=(show W7.heap[S]?=w6.heap[S]? by rw [hh7]).trans HS6.out;obtain ⟨b1,b2,b3⟩:=a0A jR hS7;have HH7:=jH hh7;have H70:=jH h70;have HS7:=jH hS7;clear hW7 hh7 h70 hS7 h5 rs1 rs2 a3;go_wp2
   go_ret3
   refine ⟨rfl,C,HGE.out,?_⟩;have hb45:=a0D HB5.out HB4.out;have hat:=H.out.below hb45;have hC4:=HC5.out.keep HB4.out.size (fun b hb hlt=>⟨HB4.out.block b hlt,hb⟩);have hw6:=HW6.out;have hw7:=HH7.out;have hL7:W7.heap.size=W4.heap.size:=by rw [hw7,hw6];simp [g0H]
   have hk7:∀r,r≠d.H→r≠d.L→W7.heap[r]?=W4.heap[r]?:=fun r h1 h2=>by rw [hw7,hw6];exact (d0D h1).trans (b0Y h2)
   have hop:=hat.opened (w':=W7.setCell ⟨S,2,none⟩ (.int .i64 e1)) (C:=C) HCL.out HEP.out.1 (by rw [←HE1.out];exact hC4) (by show W7.os=_;rw [H70.out.1,hw6];rfl) (by show W7.tape=_;rw [H70.out.2.1,hw6];rfl) (by show W7.output=_;rw [H70.out.2.2,hw6];rfl) (by simp [hL7]) (fun r h1 h2 h3=>(d0D h1).trans (hk7 r h2 h3))
     (by rw [a0E HS7.out,←HE1.out];rfl)
     (by
       rw [d0D (Ne.symm H.out.ne.1),hw7,hw6,a0E ((b0Y H.out.ne.2.2).trans hat.tab),HM2.out];rfl)
     (HO.out.block ((d0D (Ne.symm H.out.ne.2.1)).trans (by rw [hw7,hw6];exact d0D (Ne.symm H.out.ne.2.2))))
   rw [←HE1.out] at hop;exact ⟨hop.1,(Upd.of_below hb45 _).trans hop.2⟩
end
end
end
section
open Go.RowKit Go.Lib
def b0J (w:World) (B i:Nat):List Value→World
  | []=>w
  | v::vs=>b0J (w.setCell ⟨B,i,none⟩ v) B (i+1) vs
theorem q1R {w:World} {B i:Nat} {cs:Array Value} {T:TypeId} {fr:Nat × Nat} {v:Value} (h:w.heap[B]?=some (.cells cs T fr)):(w.setCell ⟨B,i,none⟩ v).heap[B]?=some (.cells (cs.setIfInBounds i v) T fr):=by
 obtain ⟨hlt,hk⟩:=Array.getElem?_eq_some_iff.1 h
 show (w.heap.modify B _)[B]?=_
 rw [Array.getElem?_eq_getElem (by rw [Array.size_modify];exact hlt),Array.getElem_modify_self,hk];simp
theorem g1M {w:World} {B i k:Nat} {v:Value} (h:k≠B):(w.setCell ⟨B,i,none⟩ v).heap[k]?=w.heap[k]?:=by
 show (w.heap.modify B _)[k]?=_
 by_cases hk:k<w.heap.size
 · rw [Array.getElem?_eq_getElem (by rw [Array.size_modify];exact hk),Array.getElem_modify_of_ne (Ne.symm h),Array.getElem?_eq_getElem hk]
 · rw [Array.getElem?_eq_none (by rw [Array.size_modify];omega),Array.getElem?_eq_none (by omega)]
theorem p1H:∀(vs:List Value) (w:World) (B i:Nat) (cs:Array Value) (T:TypeId),w.heap[B]?=some (.cells cs T (0,0))→cs.size=i+vs.length →
    (b0J w B i vs).heap[B]?=some (.cells ((cs.toList.take i++vs).toArray) T (0,0))∧(∀k,k≠B→(b0J w B i vs).heap[k]?=w.heap[k]?)∧(b0J w B i vs).heap.size=w.heap.size∧∀n,n≤B→Below n w (b0J w B i vs):=by
  intro vs
  induction vs with
  | nil =>
    intro w B i cs T h hn;refine ⟨?_,fun _ _=>rfl,rfl,fun n _=>jR⟩;simp only [List.length_nil,Nat.add_zero] at hn
    rw [b0J,h,List.append_nil,List.take_of_length_le (by simp;omega)]
  | cons v vs ih =>
    intro w B i cs T h hn;simp only [List.length_cons] at hn
    have h1:=q1R (i:=i) (v:=v) h;obtain ⟨a1,a2,a3,a4⟩:=ih (w.setCell ⟨B,i,none⟩ v) B (i+1) _ T h1 (by simp;omega);refine ⟨?_,fun k hk=>(a2 k hk).trans (g1M hk),a3.trans (by simp [World.setCell]),fun n hn=>(jR.setCell hn _).trans (a4 n hn)⟩;rw [b0J,a1]
    congr 3
    rw [Array.toList_setIfInBounds,List.take_add_one,List.take_set_of_le (Nat.le_refl _)];rw [List.getElem?_set_self (by simp;omega)];simp
theorem a0P {w:World} {B:Nat} {cs:Array Value} {T:TypeId} (h:w.heap[B]?=some (.cells cs T (0,0))) (vs:List Value) (hn:cs.size=vs.length):∀W,W=b0J w B 0 vs →
    W.heap[B]?=some (.cells vs.toArray T (0,0))∧(∀k,k≠B→W.heap[k]?=w.heap[k]?)∧W.heap.size=w.heap.size∧∀n,n≤B→Below n w W:=by
  rintro W rfl;have:=p1H vs w B 0 cs T h (by omega)
  simpa using this
def zR:List Value:=[.int .i64 0,.int .i64 0,.int .i64 0,.int .i64 0,.int .i64 0,.int .i64 0,.int .i64 0,.int .i64 0,.int .i64 0,.int .i64 0,.int .i64 0,.int .i64 0,.int .i64 0]
end
end Go.Proofs.YtmniiodpbebnmaaGreat
