/- Part 19 of the proof. -/
import Derived.Test.YtmniiodpbebnmaaGreatJ18
import Derived.Sort.LotA
import Derived.Sort.Lot0
namespace Go.Proofs.YtmniiodpbebnmaaGreat
set_option linter.unusedSimpArgs false
set_option linter.unusedVariables false
set_option linter.unusedSectionVars false
set_option maxRecDepth 100000
set_option maxHeartbeats 16000000
section
open Go.RowKit Go.Lib Go.Sort
def n1K (c:Cfg) (rs rh:Nat) (l:List It) (k:Ky) (a:d0U):List (Ky × Nd) × Int × Int × Int :=
 if a.kind=1 then (l.map fun x=>(x.key,f0T a.smp.1 x.nd),0,(k1C l a.smp.1:Nat),(l1M l a.smp.1:Nat))
 else if a.kind<0∨3<a.kind then (l.map g0O,0,0,0)
 else ((i0T c rs rh l k a).1,(i0T c rs rh l k a).2.1,0,(i0T c rs rh l k a).2.2)
theorem y0C {c:Cfg} {rs rh:Nat} {l:List It} {k:Ky} {a:d0U} (h1:a.kind≠1) (h0:¬(a.kind<0∨3<a.kind)):n1K c rs rh l k a=((i0T c rs rh l k a).1,(i0T c rs rh l k a).2.1,0,(i0T c rs rh l k a).2.2):=by
 unfold n1K;rw [if_neg h1,if_neg h0]
theorem r0R {c:Cfg} {rs rh:Nat} {l:List It} {k:Ky} {a:d0U} {y:Nd} {e n:Int} (h:l0S rs rh (k0H l k).nd a=(y,e,n)) (he:e≠0):i0T c rs rh l k a=(l.map g0O,e,0):=by
 unfold i0T;simp only [h]
 rw [if_pos he]
theorem y0L {c:Cfg} {rs rh:Nat} {l:List It} {k:Ky} {a:d0U} {y:Nd} {n:Int} (h:l0S rs rh (k0H l k).nd a=(y,0,n)) (h3:a.kind≠3):i0T c rs rh l k a=if j0H l k=false∧c.lo≤(l.length:Nat) then (l.map g0O,6,0) else (j1A l k y,0,1):=by
 unfold i0T;simp only [h]
 rw [if_neg (by simp),if_neg (fun hh=>h3 hh.2)]
theorem c1D {c:Cfg} {rs rh:Nat} {l:List It} {k:Ky} {a:d0U} {y:Nd} {n:Int} (h:l0S rs rh (k0H l k).nd a=(y,0,n)) (h3:a.kind=3):i0T c rs rh l k a=if j0H l k=true then (j1A l k y,0,1) else (l.map g0O,5,0):=by
 unfold i0T;simp only [h]
 rw [if_neg (by simp)]
 cases hh:j0H l k with
 | true=>simp
 | false=>simp [h3]
def Same18 (ver:Nat) (r:DoR) (t:List (Ky × Nd) × Int × Int × Int):Prop :=
 b0N r.has t.1∧r.err=t.2.1∧((r.gone:Nat):Int)=t.2.2.1∧((r.ver:Nat):Int)=(ver:Int)+t.2.2.2
theorem r0V {S:List (KO × Nd)} {l:List It} (h:b0N S (l.map g0O)) (c:Cfg) (rs rh ver:Nat) (k:KO) (a:d0U) :
 Same18 ver (doS c rs rh ver S k a) (n1K c rs rh l k.1 a):=by
 have hhas:=h.has k;have hlen:S.length=l.length:=by have:=h.len;simpa using this
 obtain ⟨g1,g2,g3,g4⟩:=h.get k
 by_cases h1:a.kind=1
 · have e1:doS c rs rh ver S k a=⟨0,g0M S a.smp.1 (risL (c0M S)),ver+g0R S a.smp.1 (risL (c0M S)),f0Q S a.smp.1 (risL (c0M S))⟩:=by unfold doS;rw [if_neg (by omega),if_pos h1]
   have e2:n1K c rs rh l k.1 a=(l.map fun x=>(x.key,f0T a.smp.1 x.nd),0,((k1C l a.smp.1:Nat):Int),((l1M l a.smp.1:Nat):Int)):=by unfold n1K;rw [if_pos h1]
   rw [e1,e2];have ht:=h.trim a.smp.1 (K:=risL (c0M S)) (fun q hq=>(g0X _ q).2 hq);have hg:=b1F h a.smp.1;have e:(l.map g0O).map (fun p=>(p.1,f0T a.smp.1 p.2))=l.map fun x=>(x.key,f0T a.smp.1 x.nd):=by rw [List.map_map];rfl
   rw [e] at ht;exact ⟨ht,rfl,by simp only [hg.1],by simp only [hg.2];omega⟩
 by_cases hx:a.kind<0∨3<a.kind
 · have e1:doS c rs rh ver S k a=⟨0,0,ver,S.map fun p=>(p.1,if p.1.1∈risL (c0M S) then frz p.2 else p.2)⟩:=by unfold doS;rw [if_neg (by omega),if_neg h1,if_neg (by omega),if_neg (by omega)]
   have e2:n1K c rs rh l k.1 a=(l.map g0O,0,0,0):=by unfold n1K;rw [if_neg h1,if_pos hx]
   rw [e1,e2];exact ⟨r0Z h _,rfl,rfl,by simp⟩
 rw [y0C h1 hx]
 by_cases h0:a.kind=0
 · by_cases hs:g0C a.smp.1 a.smp.2=0
   · have e17:l0S rs rh (k0H l k.1).nd a=({ (k0H l k.1).nd with smp:=l0X (k0H l k.1).nd.smp (rs:Nat) a.smp,ver:=(k0H l k.1).nd.ver+1 },0,((k0H l k.1).nd.smp.length:Int) - ((l0X (k0H l k.1).nd.smp (rs:Nat) a.smp).length:Int)):=by unfold l0S;rw [if_pos h0,if_pos hs]
     have e1:doS c rs rh ver S k a=if d0B S k=false∧c.lo≤(S.length:Nat) then ⟨6,0,ver,S⟩ else ⟨0,0,ver+1,d0F S k { g0N (l0R S k) with smp:=l0X (l0R S k).smp (rs:Nat) a.smp }⟩:=by unfold doS;rw [if_pos h0,if_pos hs]
     rw [e1,y0L e17 (by omega),hhas,hlen]
     by_cases hf:j0H l k.1=false∧c.lo≤(l.length:Nat)
     · rw [if_pos hf,if_pos hf]
       exact ⟨h,rfl,rfl,by simp⟩
     · rw [if_neg hf,if_neg hf]
       exact ⟨h.put k ⟨by simp only [g1],by simp only [g0N,g2],by simp only [g0N,g3],by simp only [g0N,g4]⟩,rfl,rfl,by simp⟩
   · have e17:l0S rs rh (k0H l k.1).nd a=((k0H l k.1).nd,g0C a.smp.1 a.smp.2,0):=by unfold l0S;rw [if_pos h0,if_neg hs]
     have e1:doS c rs rh ver S k a=⟨g0C a.smp.1 a.smp.2,0,ver,S⟩:=by unfold doS;rw [if_pos h0,if_neg hs]
     rw [e1,r0R e17 hs];exact ⟨h,rfl,rfl,by simp⟩
 by_cases h2:a.kind=2
 · cases hp:g0Z a.pol with
   | true =>
     have e17:l0S rs rh (k0H l k.1).nd a=({ (k0H l k.1).nd with pol:=a.pol,ruled:=true,ver:=(k0H l k.1).nd.ver+1 },0,0):=by unfold l0S;rw [if_neg h0,if_neg h1,if_pos h2,if_pos hp]
     have e1:doS c rs rh ver S k a=if d0B S k=false∧c.lo≤(S.length:Nat) then ⟨6,0,ver,S⟩ else ⟨0,0,ver+1,d0F S k { g0N (l0R S k) with pol:=a.pol,ruled:=true }⟩:=by unfold doS;rw [if_neg h0,if_neg h1,if_pos h2,if_pos hp]
     rw [e1,y0L e17 (by omega),hhas,hlen]
     by_cases hf:j0H l k.1=false∧c.lo≤(l.length:Nat)
     · rw [if_pos hf,if_pos hf]
       exact ⟨h,rfl,rfl,by simp⟩
     · rw [if_neg hf,if_neg hf]
       exact ⟨h.put k ⟨by simp only [g0N,g1],by simp only [g0N,g2],rfl,rfl⟩,rfl,rfl,by simp⟩
   | false =>
     have e17:l0S rs rh (k0H l k.1).nd a=((k0H l k.1).nd,7,0):=by unfold l0S;rw [if_neg h0,if_neg h1,if_pos h2,if_neg (by rw [hp];simp)]
     have e1:doS c rs rh ver S k a=⟨7,0,ver,S⟩:=by unfold doS;rw [if_neg h0,if_neg h1,if_pos h2,if_neg (by rw [hp];simp)]
     rw [e1,r0R e17 (by decide)];exact ⟨h,rfl,rfl,by simp⟩
 have h3:a.kind=3:=by omega
 have e17:l0S rs rh (k0H l k.1).nd a=({ (k0H l k.1).nd with past:=g0B (k0H l k.1).nd.past rh a.adv,ver:=(k0H l k.1).nd.ver+1 },0,0):=by unfold l0S;rw [if_neg h0,if_neg h1,if_neg h2,if_pos h3]
 have e1:doS c rs rh ver S k a=if d0B S k=true then ⟨0,0,ver+1,d0F S k { g0N (l0R S k) with past:=g0B (l0R S k).past rh a.adv }⟩ else ⟨5,0,ver,S⟩:=by unfold doS;rw [if_neg h0,if_neg h1,if_neg h2,if_pos h3]
 rw [e1,c1D e17 h3,hhas]
 cases hh:j0H l k.1 with
 | true =>
   rw [if_pos rfl,if_pos rfl];exact ⟨h.put k ⟨by simp only [g0N,g1],by simp only [g2],by simp only [g0N,g3],by simp only [g0N,g4]⟩,rfl,rfl,by simp⟩
 | false =>
   rw [if_neg (by simp),if_neg (by simp)];exact ⟨h,rfl,rfl,by simp⟩
structure i0G (n:Nat) (ver:Nat) (S:List (KO × Nd)):Prop where
 len:S.length≤n
 vers:∀p∈S,p.2.ver≤n
theorem k1O {n ver:Nat} {S:List (KO × Nd)} (h:i0G n ver S) (k:KO):(l0R S k).ver≤n:=by
 unfold l0R
 cases hf:a0L S k with
 | none=>simp [nd0]
 | some x=>exact h.vers _ (b0B hf)
theorem m0S {n ver ver':Nat} {S:List (KO × Nd)} (h:i0G n ver S) (k:KO) {x:Nd} (hx:x.ver≤n+1):i0G (n+1) ver' (d0F S k x):=by
 refine ⟨?_,fun p hp=>?_⟩
 · rw [k1E]
   have:=h.len
   split <;> omega
 · rcases f0C hp with rfl|⟨hp,_⟩
   · exact hx
   · exact Nat.le_succ_of_le (h.vers p hp)
theorem i0G.more {n ver ver':Nat} {S:List (KO × Nd)} (h:i0G n ver S):i0G (n+1) ver' S:=⟨Nat.le_succ_of_le h.len,fun p hp=>Nat.le_succ_of_le (h.vers p hp)⟩
theorem t0K {n ver:Nat} {S:List (KO × Nd)} (h:i0G n ver S) (c:Cfg) (rs rh:Nat) (k:KO) (a:d0U):i0G (n+1) (doS c rs rh ver S k a).ver (doS c rs rh ver S k a).has:=by
 have hv:=k1O h k;unfold doS
 split
 · split
   · split
     · exact h.more
     · exact m0S h k (by simp only [g0N];omega)
   · exact h.more
 · split
   · refine ⟨by simp [f0Q];exact Nat.le_succ_of_le h.len,fun p hp=>?_⟩
     obtain ⟨q,hq,rfl⟩:=List.mem_map.1 hp;have:=h.vers q hq;dsimp only
     split
     · unfold o0Q
       split
       · omega
       · simp only [g0N];omega
     · omega
   · split
     · split
       · split
         · exact h.more
         · exact m0S h k (by simp only [g0N];omega)
       · exact h.more
     · split
       · split
         · exact m0S h k (by simp only [g0N];omega)
         · exact h.more
       · refine ⟨by simp;exact Nat.le_succ_of_le h.len,fun p hp=>?_⟩
         obtain ⟨q,hq,rfl⟩:=List.mem_map.1 hp;have:=h.vers q hq;dsimp only
         split
         · simp only [frz];omega
         · omega
theorem e1V {n ver:Nat} {S:List (KO × Nd)} (h:i0G n ver S) (c:Cfg) (rs rh:Nat) (k:KO) (a:d0U) (hn:(risL (c0M S)).length≤n):(doS c rs rh ver S k a).ver≤ver+n+1:=by
 have hm:g0R S a.smp.1 (risL (c0M S))≤n:=Nat.le_trans List.countP_le_length hn;unfold doS
 split
 · split
   · split
     · dsimp only;omega
     · dsimp only;omega
   · dsimp only;omega
 · split
   · dsimp only;omega
   · split
     · split
       · split
         · dsimp only;omega
         · dsimp only;omega
       · dsimp only;omega
     · split
       · split
         · dsimp only;omega
         · dsimp only;omega
       · dsimp only;omega


theorem b0G.ok {w:World} {N:Nat} {x:Nd} {rs rh:Nat} {fp:List Nat} (h:b0G w N x rs rh fp):NdOk rs rh x:=by
 obtain ⟨S,fs,H,fh,h1,h2,h3,h4,h5,h6,rfl,h7,h8⟩:=h;exact ⟨h7,h8,h3.len⟩
structure b0S (c:Cfg) (rs rh:Nat):Prop where
 cfg:h0A c=true
 sa:c.sa=(rs:Nat)
 hi:c.hi=(rh:Nat)
 ok:c.ok
theorem b0S.room {c:Cfg} {rs rh:Nat} (h:b0S c rs rh):RoomOk c rs rh:=by
 have hc:=h.cfg;have h1:=h.sa;have h2:=h.hi;unfold h0A at hc;simp only [Bool.and_eq_true,decide_eq_true_eq] at hc
 exact ⟨h1,h2,by omega,by omega,by omega,by omega⟩
theorem sok_of {W:World} {T M:Nat} {c:Cfg} {rs rh n ver:Nat} {es:List (KO × NE)} (hg:i0G n ver (ab es)) (hv:ver≤1000 * n) (hc:b0S c rs rh) (hn:n≤100):SOk c rs rh ver (ab es) :=
 ⟨hc.cfg,hc.sa,hc.hi,hc.ok,by have:=hg.len;omega,by omega,fun p hp=>by have:=hg.vers p hp;omega⟩
theorem h1E {W:World} {T M:Nat} {c:Cfg} {rs rh ver:Nat} {es:List (KO × NE)} (h:SAt W T M c ver es rs rh) (hr:rs≤256):∀p∈ab es,p.2.smp.length≤256:=by
 intro p hp;obtain ⟨q,hq,rfl⟩:=List.mem_map.1 hp;exact Nat.le_trans (h.node q hq).ok.len hr
end
section
open Go.RowKit Go.Lib Go.ChangeShapes Go.WideShapes Go.Joins
section
section
variable {H:Type} {enc:TypeId × Value→H} {w:World} {base:Nat} {spare:Nat→Bool} {held:Bool}
end
end
end
section
open Go.RowKit Go.Lib Go.Sort
open Go.ChangeMaps (setBlock)

end
section
open Go.RowKit Go.Lib Go.Sort


end
section
open Go.Sort
section
section
variable {β:Type} [Inhabited β]
def Rot (d d':Array β) (a m b:Nat):Prop:=∀t,d'[t]! = if t<a∨b≤t then d[t]! else if t<a+(b - m) then d[t+m - a]! else d[t - (b - m)]!
def Swr (d d':Array β) (a b n:Nat):Prop:=∀t,d'[t]! = if a≤t∧t<a+n then d[b+(t - a)]! else if b≤t∧t<b+n then d[a+(t - b)]! else d[t]!
theorem f0R (d:Array β) {i j:Nat} (h:i=j):d[i]! = d[j]!:=by rw [h]
theorem Swr.zero (d:Array β) (a b:Nat):Swr d d a b 0:=by
 intro t;rw [if_neg (by omega),if_neg (by omega)]
theorem Swr.step {d d1:Array β} {a b n:Nat} (h:Swr d d1 a b n) (hab:a+n<b) (hb:b+n<d1.size):Swr d (swp d1 (a+n) (b+n)) a b (n+1):=by
 intro t
 by_cases h1:t=a+n
 · subst h1
   rw [swp_left d1 _ _ (by omega) (by omega),h]
   repeat' split
   all_goals first|exact f0R d (by omega)|(exfalso;omega)
 · by_cases h2:t=b+n
   · subst h2
     rw [swp_right d1 _ _ (by omega),h]
     repeat' split
     all_goals first|exact f0R d (by omega)|(exfalso;omega)
   · rw [swp_other d1 _ _ _ h1 h2,h]
     repeat' split
     all_goals first|exact f0R d (by omega)|(exfalso;omega)
theorem Rot.half {d d':Array β} {a m b:Nat} (h:Swr d d' a m (m - a)) (ham:a≤m) (hb:b - m=m - a) (hmb:m≤b):Rot d d' a m b:=by
 intro t;rw [h]
 repeat' split
 all_goals first|exact f0R d (by omega)|(exfalso;omega)
theorem Rot.left {d d1 d2:Array β} {m i j:Nat} (h:Swr d d1 (m - i) m j) (hi:i≤m) (hij:j<i) (h2:Rot d1 d2 (m - (i - j)) m (m+j)):Rot d d2 (m - i) m (m+j):=by
 intro t;rw [h2]
 by_cases h1:t<m - (i - j)∨m+j≤t
 · rw [if_pos h1,h]
   repeat' split
   all_goals first|exact f0R d (by omega)|(exfalso;omega)
 · rw [if_neg h1]
   by_cases h4:t<m - (i - j)+(m+j - m)
   · rw [if_pos h4,h]
     repeat' split
     all_goals first|exact f0R d (by omega)|(exfalso;omega)
   · rw [if_neg h4,h]
     repeat' split
     all_goals first|exact f0R d (by omega)|(exfalso;omega)
theorem Rot.right {d d1 d2:Array β} {m i j:Nat} (h:Swr d d1 (m - i) (m+j - i) i) (hi:i≤m) (hij:i<j) (h2:Rot d1 d2 (m - i) m (m+(j - i))):Rot d d2 (m - i) m (m+j):=by
 intro t;rw [h2]
 by_cases h1:t<m - i∨m+(j - i)≤t
 · rw [if_pos h1,h]
   repeat' split
   all_goals first|exact f0R d (by omega)|(exfalso;omega)
 · rw [if_neg h1]
   by_cases h4:t<m - i+(m+(j - i) - m)
   · rw [if_pos h4,h]
     repeat' split
     all_goals first|exact f0R d (by omega)|(exfalso;omega)
   · rw [if_neg h4,h]
     repeat' split
     all_goals first|exact f0R d (by omega)|(exfalso;omega)
theorem Rot.none {d:Array β} {a m b:Nat} (h:m≤a∨b≤m) (h2:a≤m∧m≤b):Rot d d a m b:=by
 intro t
 repeat' split
 all_goals first|exact f0R d (by omega)|(exfalso;omega)
theorem Rot.up {d d1:Array β} {a k:Nat} (h:Rot d d1 a (a+1) (k+1)) (hak:a≤k) (hk:k+1<d1.size):Rot d (swp d1 k (k+1)) a (a+1) (k+2):=by
 intro t
 by_cases h1:t=k
 · subst h1
   rw [swp_left d1 _ _ (by omega) (by omega),h]
   repeat' split
   all_goals first|exact f0R d (by omega)|(exfalso;omega)
 · by_cases h2:t=k+1
   · subst h2
     rw [swp_right d1 _ _ (by omega),h]
     repeat' split
     all_goals first|exact f0R d (by omega)|(exfalso;omega)
   · rw [swp_other d1 _ _ _ h1 h2,h]
     repeat' split
     all_goals first|exact f0R d (by omega)|(exfalso;omega)
theorem Rot.down {d d1:Array β} {m k:Nat} (h:Rot d d1 (k+1) m (m+1)) (hkm:k<m) (hk:m<d1.size):Rot d (swp d1 (k+1) k) k m (m+1):=by
 intro t
 by_cases h1:t=k+1
 · subst h1
   rw [swp_left d1 _ _ (by omega) (by omega),h]
   repeat' split
   all_goals first|exact f0R d (by omega)|(exfalso;omega)
 · by_cases h2:t=k
   · subst h2
     rw [swp_right d1 _ _ (by omega),h]
     repeat' split
     all_goals first|exact f0R d (by omega)|(exfalso;omega)
   · rw [swp_other d1 _ _ _ h1 h2,h]
     repeat' split
     all_goals first|exact f0R d (by omega)|(exfalso;omega)
variable (lt:β→β→Bool) (R:β→β→Prop)
def Up (a b:Nat) (d:Array β):Prop:=∀i j,a≤i→i<j→j<b→R d[i]! d[j]!
def Crs (a m b:Nat) (d:Array β):Prop:=∀i j,a≤i→i<m→m≤j→j<b→lt d[j]! d[i]! = false→R d[i]! d[j]!
structure Ord:Prop where
 tr:∀x y z,R x y→R y z→R x z
 lt:∀x y,lt x y=true→R x y
variable {lt R}
theorem Up.join {a m b:Nat} {d:Array β} (h1:Up R a m d) (h2:Up R m b d) (h:∀i j,a≤i→i<m→m≤j→j<b→R d[i]! d[j]!):Up R a b d:=by
 intro i j hi hij hj
 by_cases h3:j<m
 · exact h1 i j hi hij h3
 · by_cases h4:m≤i
   · exact h2 i j h4 hij hj
   · exact h i j hi (by omega) (by omega) hj
theorem Up.le {a b:Nat} {d:Array β} (h:Up R a b d) {i j:Nat} (hi:a≤i) (hij:i≤j) (hj:j<b) {x:β} (O:Ord lt R) (hx:R d[j]! x):R d[i]! x:=by
 by_cases e:i=j
 · rw [e];exact hx
 · exact O.tr _ _ _ (h i j hi (by omega) hj) hx
theorem Up.ge {a b:Nat} {d:Array β} (h:Up R a b d) {i j:Nat} (hi:a≤i) (hij:i≤j) (hj:j<b) {x:β} (O:Ord lt R) (hx:R x d[i]!):R x d[j]!:=by
 by_cases e:i=j
 · rw [←e];exact hx
 · exact O.tr _ _ _ hx (h i j hi (by omega) hj)
theorem l1D (O:Ord lt R) {d d':Array β} {a b i:Nat} (hi:a+1≤i) (hib:i≤b) (hu:Up R (a+1) b d) (hc:Crs lt R a (a+1) b d)
    (h1:a+1<i→lt d[i - 1]! d[a]! = true) (h2:i<b→lt d[i]! d[a]! = false) (hr:Rot d d' a (a+1) i):Up R a b d':=by
  intro s t hs hst ht;rw [hr s,hr t];have lo:∀s,a+1≤s→s<i→R d[s]! d[a]!:=fun s p q=>hu.le (i:=s) (j:=i - 1) p (by omega) (by omega) O (O.lt _ _ (h1 (by omega)))
  have hi':∀s,i≤s→s<b→R d[a]! d[s]!:=fun s p q=>hu.ge (i:=i) (j:=s) (by omega) p q O (hc a i (Nat.le_refl _) (by omega) (by omega) (by omega) (h2 (by omega)))
  by_cases p1:s<a∨i≤s
  · rw [if_pos p1,if_pos (by omega)]
    exact hu s t (by omega) hst ht
  · rw [if_neg p1]
    by_cases p2:s<a+(i - (a+1))
    · rw [if_pos p2]
      by_cases p3:t<a∨i≤t
      · rw [if_pos p3]
        exact hu _ _ (by omega) (by omega) ht
      · rw [if_neg p3]
        by_cases p4:t<a+(i - (a+1))
        · rw [if_pos p4]
          exact hu _ _ (by omega) (by omega) (by omega)
        · rw [if_neg p4,f0R d (show t - (i - (a+1))=a by omega)]
          exact lo _ (by omega) (by omega)
    · rw [if_neg p2,f0R d (show s - (i - (a+1))=a by omega)]
      rw [if_pos (show t<a∨i≤t by omega)];exact hi' t (by omega) ht
theorem o1N (O:Ord lt R) {d d':Array β} {a m i:Nat} (hi:a≤i) (him:i≤m) (hu:Up R a m d) (hc:Crs lt R a m (m+1) d)
    (h1:a<i→lt d[m]! d[i - 1]! = false) (h2:i<m→lt d[m]! d[i]! = true) (hr:Rot d d' i m (m+1)):Up R a (m+1) d':=by
  intro s t hs hst ht;rw [hr s,hr t];have lo:∀s,a≤s→s<i→R d[s]! d[m]!:=fun s p q=>hu.le (i:=s) (j:=i - 1) p (by omega) (by omega) O (hc (i - 1) m (by omega) (by omega) (Nat.le_refl _) (by omega) (h1 (by omega)))
  have hi':∀s,i≤s→s<m→R d[m]! d[s]!:=fun s p q=>hu.ge (i:=i) (j:=s) (by omega) p q O (O.lt _ _ (h2 (by omega)))
  by_cases p1:s<i∨m+1≤s
  · rw [if_pos p1]
    by_cases p2:t<i∨m+1≤t
    · rw [if_pos p2]
      exact hu _ _ hs hst (by omega)
    · rw [if_neg p2]
      by_cases p3:t<i+(m+1 - m)
      · rw [if_pos p3,f0R d (show t+m - i=m by omega)]
        exact lo _ hs (by omega)
      · rw [if_neg p3]
        exact hu _ _ hs (by omega) (by omega)
  · rw [if_neg p1,if_neg (show ¬(t<i∨m+1≤t) by omega),if_neg (show ¬t<i+(m+1 - m) by omega)]
    by_cases p3:s<i+(m+1 - m)
    · rw [if_pos p3,f0R d (show s+m - i=m by omega)]
      exact hi' _ (by omega) (by omega)
    · rw [if_neg p3]
      exact hu _ _ (by omega) (by omega) (by omega)
structure s0X (lt:β→β→Bool) (R:β→β→Prop) (d1:Array β) (a start mid en b:Nat):Prop where
 u1:Up R a start d1
 u2:Up R start mid d1
 u3:Up R mid en d1
 u4:Up R en b d1
 c1:Crs lt R a start mid d1
 c2:Crs lt R mid en b d1
 all:∀i j,a≤i→i<mid→mid≤j→j<b→R d1[i]! d1[j]!
theorem y0I (O:Ord lt R) {d d1:Array β} {a m b mid start s0 r0:Nat} (ham:a<m) (hmb:m<b) (hmid:mid=(a+b) / 2)
    (h0:(mid<m∧s0=mid+m - b∧r0=mid)∨(m≤mid∧s0=a∧r0=m)) (hs:s0≤start) (hr:start≤r0)
    (hu1:Up R a m d) (hu2:Up R m b d) (hc:Crs lt R a m b d)
    (h1:s0<start→lt d[mid+m - start]! d[start - 1]! = false) (h2:start<r0→lt d[mid+m - 1 - start]! d[start]! = true)
    (hrot:Rot d d1 start m (mid+m - start)):s0X lt R d1 a start mid (mid+m - start) b:=by
  have g1:start≤m:=by omega
  have g2:start≤mid:=by omega
  have g3:a≤start:=by omega
  have g4:mid+m - start≤b:=by omega
  have q1:∀t,t<start→d1[t]! = d[t]!:=fun t ht=>by rw [hrot,if_pos (by omega)]
  have q2:∀t,start≤t→t<mid→d1[t]! = d[t+m - start]!:=fun t p q=>by rw [hrot,if_neg (by omega),if_pos (by omega)]
  have q3:∀t,mid≤t→t<mid+m - start→d1[t]! = d[t+start - mid]!:=fun t p q=>by rw [hrot,if_neg (by omega),if_neg (by omega)];exact f0R d (by omega)
  have q4:∀t,mid+m - start≤t→d1[t]! = d[t]!:=fun t ht=>by rw [hrot,if_pos (by omega)]
  refine ⟨?_,?_,?_,?_,?_,?_,?_⟩
  · intro i j p q r
    rw [q1 i (by omega),q1 j r];exact hu1 i j p q (by omega)
  · intro i j p q r
    rw [q2 i p (by omega),q2 j (by omega) r];exact hu2 _ _ (by omega) (by omega) (by omega)
  · intro i j p q r
    rw [q3 i p (by omega),q3 j (by omega) r];exact hu1 _ _ (by omega) (by omega) (by omega)
  · intro i j p q r
    rw [q4 i p,q4 j (by omega)];exact hu2 i j (by omega) q r
  · intro i j p q r s
    rw [q1 i q,q2 j r s];exact hc i _ p (by omega) (by omega) (by omega)
  · intro i j p q r s
    rw [q3 i p q,q4 j r];exact hc _ j (by omega) (by omega) (by omega) s
  · intro i j p q r s
    by_cases e1:i<start
    · rw [q1 i e1]
      by_cases e2:j<mid+m - start
      · rw [q3 j r e2];exact hu1 _ _ p (by omega) (by omega)
      · rw [q4 j (by omega)]
        have hx:R d[start - 1]! d[mid+m - start]!:=hc _ _ (by omega) (by omega) (by omega) (by omega) (h1 (by omega));exact hu1.le (i:=i) (j:=start - 1) p (by omega) (by omega) O (hu2.ge (i:=mid+m - start) (j:=j) (by omega) (by omega) s O hx)
    · rw [q2 i (by omega) q]
      by_cases e2:j<mid+m - start
      · rw [q3 j r e2]
        have hx:R d[mid+m - 1 - start]! d[start]!:=O.lt _ _ (h2 (by omega));exact hu2.le (i:=i+m - start) (j:=mid+m - 1 - start) (by omega) (by omega) (by omega) O (hu1.ge (i:=start) (j:=j+start - mid) (by omega) (by omega) (by omega) O hx)
      · rw [q4 j (by omega)];exact hu2 _ _ (by omega) (by omega) s
theorem p1V {d d':Array β} {a b:Nat} (h:PermIn a b d d'):d'.size=d.size:=h.1
theorem i0K {d d':Array β} {a b:Nat} (h:PermIn a b d d') {i:Nat} (hi:i<a∨b≤i):d'[i]! = d[i]!:=h.2.1 i hi
theorem Up.out {d d':Array β} {a b x y:Nat} (h:PermIn x y d d') (hu:Up R a b d) (ho:b≤x∨y≤a):Up R a b d':=fun i j p q r=>by
 rw [i0K h (show i<x∨y≤i by omega),i0K h (show j<x∨y≤j by omega)];exact hu i j p q r
theorem Crs.out {d d':Array β} {a m b x y:Nat} (h:PermIn x y d d') (hu:Crs lt R a m b d) (ho:b≤x∨y≤a) (hamb:a≤m∧m≤b):Crs lt R a m b d':=fun i j p q r s=>by
 rw [i0K h (show i<x∨y≤i by omega),i0K h (show j<x∨y≤j by omega)];exact hu i j p q r s
theorem k0U {d1 d2 d3:Array β} {a start mid en b:Nat} (S:s0X lt R d1 a start mid en b) (hb:b≤d1.size) (ham:a≤mid) (hmb:mid≤b) (h2:PermIn a mid d1 d2) (hu2:Up R a mid d2) (h3:PermIn mid b d2 d3) (hu3:Up R mid b d3):Up R a b d3:=by
 refine Up.join (hu2.out h3 (Or.inl (Nat.le_refl _))) hu3 ?_;intro i j p q r s;rw [i0K h3 (Or.inl q)];have k1:∀j,mid≤j→j<b→R d2[i]! d2[j]!:=fun j r s=>by
  rw [i0K h2 (i:=j) (Or.inr r)];exact permIn_all d1 d2 a mid (fun x=>R x d1[j]!) (by omega) h2 (fun i p q=>S.all i j p q r s) i p q
 exact permIn_all d2 d3 mid b (fun x=>R d2[i]! x) (by rw [p1V h2];exact hb) h3 (fun j r s=>k1 j r s) j r s
end
end
section
section
variable {α:Type} (lt:α→α→Bool)
def leS (x y:α):Bool:=!lt y x
def ltP (x y:α × Nat):Bool:=lt x.1 y.1
def ltZ (x y:α × Nat):Bool:=!List.zipIdxLE (leS lt) y x
def RZ (x y:α × Nat):Prop:=List.zipIdxLE (leS lt) x y=true
variable {lt}
theorem m0L (h:SWO lt) (a b c:α) (h1:leS lt a b=true) (h2:leS lt b c=true):leS lt a c=true:=by
 unfold leS at *;simp only [Bool.not_eq_true'] at *
 exact h.ntrans _ _ _ h2 h1
theorem o0A (h:SWO lt) (a b:α):(leS lt a b || leS lt b a)=true:=by
 unfold leS
 cases h1:lt b a with
 | false=>rfl
 | true=>rw [h.asymmA h1];rfl
theorem q0T (h:SWO lt) (x y z:α × Nat) (h1:RZ lt x y) (h2:RZ lt y z):RZ lt x z:=List.zipIdxLE_trans (m0L h) x y z h1 h2
theorem x0O (h:SWO lt) (x y:α × Nat):RZ lt x y∨RZ lt y x:=by
 have:=List.zipIdxLE_total (o0A h) x y
 simpa [RZ] using this
theorem o1Y (h:SWO lt):SWO (ltZ lt):=by
 refine ⟨fun x=>?_,fun x y z h1 h2=>?_,fun x y z h1 h2=>?_⟩
 · unfold ltZ
   rcases x0O h x x with k|k <;> (unfold RZ at k;rw [k];rfl)
 · unfold ltZ at *
   simp only [Bool.not_eq_true'] at *
   cases k:List.zipIdxLE (leS lt) z x with
   | false=>rfl
   | true =>
     rcases x0O h x y with k2|k2
     · have:=q0T h z x y k k2
       unfold RZ at this;rw [this] at h2;cases h2
     · unfold RZ at k2;rw [k2] at h1;cases h1
 · unfold ltZ at *
   simp only [Bool.not_eq_false'] at *
   exact q0T h z y x h2 h1
theorem ltZ_of {x y:α × Nat} (h:y.2<x.2):ltP lt x y=ltZ lt x y:=by
 unfold ltP ltZ List.zipIdxLE leS
 cases h1:lt x.1 y.1 <;> cases h2:lt y.1 x.1 <;> simp <;> omega
theorem l1I (h:SWO lt) {x y:α × Nat} (h1:ltP lt x y=true):RZ lt x y:=by
 unfold ltP at h1;unfold RZ List.zipIdxLE leS;rw [h1,h.asymmA h1];simp
theorem d1X {x y:α × Nat} (h1:ltP lt y x=false) (h2:x.2≤y.2):RZ lt x y:=by
 unfold ltP at h1;unfold RZ List.zipIdxLE leS;rw [h1];simp only [Bool.not_false,if_true]
 split <;> simp [h2]
theorem ordZ (h:SWO lt):Ord (ltP lt) (RZ lt):=⟨q0T h,fun x y=>l1I h⟩
def u0D (l:List α):Array (α × Nat):=l.zipIdx.toArray
theorem n0O (l:List α):(u0D l).size=l.length:=by simp [u0D]
end
section
variable {α:Type} [Inhabited α] {lt:α→α→Bool}
theorem r0P {a b:Nat} {d:Array (α × Nat)} (h:SortedIn (ltZ lt) a b d):Up (RZ lt) a b d:=by
 intro i j h1 h2 h3;have:=h i j h1 h2 h3;unfold ltZ at this
 simpa [RZ] using this
def Rise (a b:Nat) (d:Array (α × Nat)):Prop:=∀i j,a≤i→i<j→j<b→(d[i]!).2<(d[j]!).2
theorem k0A (a:Nat):∀(j:Nat) (d:Array (α × Nat)),(∀t,a≤t→t<j→(d[t]!).2<(d[j]!).2)→j<d.size→insInner (ltP lt) a j d=insInner (ltZ lt) a j d
  | 0,d,_,_=>rfl
  | j+1,d,hd,hj=>by
    unfold insInner
    by_cases h:j+1 > a
    · rw [ltZ_of (hd j (by omega) (by omega)),k0A a j (swp d (j+1) j) (fun t h1 h2=>by
       rw [swp_right d _ _ (by omega),swp_other d _ _ _ (by omega) (by omega)];exact hd t h1 (by omega)) (by rw [size_swp];omega)]
    · rw [if_neg (by simp [h]),if_neg (by simp [h])]
theorem j0M (l:α × Nat→α × Nat→Bool) (a b:Nat):∀(j:Nat) (d:Array (α × Nat)),a≤j→j<b→b≤d.size→PermIn a b d (insInner l a j d)
  | 0,d,_,_,_=>by unfold insInner;exact permIn_refl d a b
  | j+1,d,h1,h2,h3=>by
    unfold insInner
    split
    · rename_i hc
      simp only [Bool.and_eq_true,decide_eq_true_eq] at hc
      exact permIn_trans _ _ _ a b (swp_permIn d a b (j+1) j (by omega) (by omega) (by omega) (by omega) h3) (j0M l a b j _ (by omega) (by omega) (by rw [size_swp];exact h3))
    · exact permIn_refl d a b
theorem k0G (a b:Nat):∀(n i:Nat) (d:Array (α × Nat)),b - i=n→a<i→b≤d.size→(∀t u,a≤t→t<u→i≤u→u<b→(d[t]!).2<(d[u]!).2)→insOuter (ltP lt) a b i d=insOuter (ltZ lt) a b i d
  | 0,i,d,hn,_,_,_=>by
    rw [insOuter,if_neg (by omega),insOuter,if_neg (by omega)]
  | n+1,i,d,hn,hai,hb,hd=>by
    have hi:i<b:=by omega
    rw [insOuter,if_pos hi,k0A a i d (fun t h1 h2=>hd t i h1 h2 (Nat.le_refl _) hi) (by omega)]
    conv=>rhs;rw [insOuter,if_pos hi]
    have hp:=j0M (ltZ lt) a (i+1) i d (by omega) (by omega) (by omega);refine k0G a b n (i+1) _ (by omega) (by omega) (by rw [hp.1];exact hb) ?_;intro t u h1 h2 h3 h4;rw [i0K hp (i:=u) (Or.inr h3)]
    by_cases h5:t<i+1
    · exact permIn_all d _ a (i+1) (fun x=>x.2<(d[u]!).2) (by omega) hp (fun s p q=>hd s u p (by omega) (by omega) h4) t h1 h5
    · rw [i0K hp (i:=t) (Or.inr (by omega))]
      exact hd t u h1 h2 (by omega) h4
theorem d1Y (h:SWO lt) {a b:Nat} {d:Array (α × Nat)} (hab:a≤b) (hb:b≤d.size) (hr:Rise a b d) :
 PermIn a b d (insertionSort (ltP lt) d a b)∧Up (RZ lt) a b (insertionSort (ltP lt) d a b):=by
 have e:insertionSort (ltP lt) d a b=insertionSort (ltZ lt) d a b:=k0G a b _ (a+1) d rfl (by omega) hb (fun t u h1 h2 h3 h4=>hr t u h1 h2 h4);rw [e];obtain ⟨h1,h2⟩:=insertionSort_holds (o1Y h) d a b hab hb;exact ⟨h1,r0P h2⟩
theorem crs_of {a m b:Nat} {d:Array (α × Nat)} (h:∀i j,a≤i→i<m→m≤j→j<b→(d[i]!).2≤(d[j]!).2):Crs (ltP lt) (RZ lt) a m b d :=
 fun i j h1 h2 h3 h4 h5=>d1X h5 (h i j h1 h2 h3 h4)
theorem p1A (l:List α) (i:Nat) (h:i<l.length):(u0D l)[i]! = (l[i],i):=by
 unfold u0D;rw [getElem!_pos _ i (by simpa using h)];simp
theorem z0Y (h:SWO lt) (l:List α) (d:Array (α × Nat)) (hp:PermIn 0 l.length (u0D l) d) (hu:Up (RZ lt) 0 l.length d):d.toList.map (·.1)=l.mergeSort (leS lt):=by
 have hsz:d.size=l.length:=by rw [hp.1,n0O]
 have hperm:d.toList.Perm l.zipIdx:=by
  have h1:=hp.2.2;rw [←hsz,Array.extract_size] at h1;have h2:(u0D l).extract 0 d.size=u0D l:=by rw [hsz,←n0O l,Array.extract_size]
  rw [h2] at h1
  simpa [u0D] using h1
 have e:d.toList=l.zipIdx.mergeSort (List.zipIdxLE (leS lt)):=by
  refine List.Perm.eq_of_pairwise (le:=fun x y=>List.zipIdxLE (leS lt) x y=true) ?_ ?_ (List.pairwise_mergeSort (List.zipIdxLE_trans (m0L h)) (List.zipIdxLE_total (o0A h)) _) (hperm.trans (List.mergeSort_perm _ _).symm)
  · rintro ⟨a,i⟩ ⟨b,j⟩ ha hb h1 h2
    have ha:=hperm.mem_iff.1 ha;rw [List.mem_mergeSort] at hb;have hij:i=j:=by
     unfold List.zipIdxLE at h1 h2
     revert h1 h2
     cases leS lt a b <;> cases leS lt b a <;> simp <;> omega
    subst hij;have ka:=List.mem_zipIdx ha;have kb:=List.mem_zipIdx hb;simp only [Prod.mk.injEq,and_true]
    rw [ka.2.2,kb.2.2]
  · rw [List.pairwise_iff_getElem]
    intro i j hi hj hij;have:=hu i j (Nat.zero_le _) hij (by simpa [hsz] using hj);rw [getElem!_pos d i (by simpa using hi),getElem!_pos d j (by simpa using hj)] at this
    simpa [RZ] using this
 rw [e];exact List.mergeSort_zipIdx
end
end
end
end Go.Proofs.YtmniiodpbebnmaaGreat
