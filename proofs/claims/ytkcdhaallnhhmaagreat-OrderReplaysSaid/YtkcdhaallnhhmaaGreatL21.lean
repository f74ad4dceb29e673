/- Part 21 of the proof: W21Q, SLaw2, SPlay, StoP, RouteLt, StoQ, FlP, StoB, StoH, StoJ, CallRow. -/
import Derived.Sort.Lot0
import Derived.Shelf.SlicesE.Clone
import Derived.Maps.Keyed
import Derived.StringKeys
import Derived.Test.YtkcdhaallnhhmaaGreatL19
import Derived.Test.YtkcdhaallnhhmaaGreatL20
namespace Go.Proofs.YtkcdhaallnhhmaaGreat
set_option linter.unusedSimpArgs false
set_option linter.unusedVariables false
set_option linter.unusedSectionVars false
set_option maxRecDepth 100000
set_option maxHeartbeats 16000000
section
open Go.RowKit Go.Lib
structure ItOk (rs rh n:Nat) (p:Itm):Prop where
 nd:NdOk rs rh p.2
 ver:p.2.ver≤n
 key:p.1.ok
 smp:smpI p.2.smp
 val:∀s∈p.2.smp,0≤s.1∧0≤s.2
 pol:p.2.pol.ok
theorem ItOk.mono {rs rh n m:Nat} {p:Itm} (h:ItOk rs rh n p) (hm:n≤m):ItOk rs rh m p:=⟨h.nd,Nat.le_trans h.ver hm,h.key,h.smp,h.val,h.pol⟩
theorem pol0_ok:pol0.ok:=by unfold Pol.ok I64 pol0;dsimp only;omega
theorem nd0_ok (rs rh n:Nat) (k:Ky) (hk:k.ok):ItOk rs rh n (k,nd0) :=
 ⟨⟨List.Pairwise.nil,Nat.zero_le _,Nat.zero_le _⟩,Nat.zero_le _,hk,(fun s hs=>by cases hs),(fun s hs=>by cases hs),pol0_ok⟩
theorem getP_ok {rs rh n:Nat} {l:List Itm} (h:∀p∈l,ItOk rs rh n p) (k:Ky) (hk:k.ok):ItOk rs rh n (k,getP l k):=by
 unfold getP
 split
 · exact nd0_ok rs rh n k hk
 · rename_i x hx
   split
   · have hm:=List.mem_of_getElem? hx
     exact ⟨(h x hm).nd,(h x hm).ver,hk,(h x hm).smp,(h x hm).val,(h x hm).pol⟩
   · exact nd0_ok rs rh n k hk
theorem putS_mem {l:List Smp} {room:Int} {x s:Smp} (h:s∈putS l room x):s∈l∨s=x:=by
 unfold putS at h
 split at h
 · rcases List.mem_or_eq_of_mem_set h with h|h
   · exact .inl h
   · exact .inr h
 · have h2:s∈insS l x:=by
    unfold cutS at h
    split at h
    · exact List.mem_of_mem_drop h
    · exact h
   unfold insS at h2;simp only [List.mem_append,List.mem_cons,List.mem_singleton,List.not_mem_nil,or_false] at h2
   rcases h2 with h2|h2|h2
   · exact .inl (List.mem_of_mem_take h2)
   · exact .inr h2
   · exact .inl (List.mem_of_mem_drop h2)
structure ActOk (a:Act17):Prop where
 smp:I64 a.smp.1∧I64 a.smp.2
 pol:a.pol.ok
theorem do17_ok {rs rh n:Nat} {k:Ky} {x:Nd} {a:Act17} (h:ItOk rs rh n (k,x)) (ha:ActOk a) (h1:1≤rh):ItOk rs rh (n+1) (k,(do17 rs rh x a).1):=by
 have hver:=h.ver;have hnd:=h.nd;dsimp only at hver hnd;unfold do17
 split
 · split
   · rename_i _ hs
     refine ⟨⟨rising_put hnd.ris _ _,putS_len hnd.len _,hnd.past⟩,Nat.succ_le_succ hver,h.key,fun s hs'=>?_,fun s hs'=>?_,h.pol⟩
     · rcases putS_mem hs' with h9|h9
       · exact h.smp s h9
       · rw [h9];exact ha.smp
     · rcases putS_mem hs' with h9|h9
       · exact h.val s h9
       · rw [h9]
         unfold serE at hs
         split at hs
         · cases hs
         · split at hs
           · cases hs
           · exact ⟨by omega,by omega⟩
   · exact h.mono (Nat.le_succ n)
 · split
   · split
     · exact h.mono (Nat.le_succ n)
     · exact ⟨⟨rising_drop hnd.ris _,Nat.le_trans (by simp) hnd.len,hnd.past⟩,Nat.succ_le_succ hver,h.key,fun s hs=>h.smp s (List.mem_of_mem_drop hs),fun s hs=>h.val s (List.mem_of_mem_drop hs),h.pol⟩
   · split
     · split
       · exact ⟨⟨hnd.ris,hnd.len,hnd.past⟩,Nat.succ_le_succ hver,h.key,h.smp,h.val,ha.pol⟩
       · exact h.mono (Nat.le_succ n)
     · split
       · refine ⟨⟨hnd.ris,hnd.len,?_⟩,Nat.succ_le_succ hver,h.key,h.smp,h.val,h.pol⟩
         show (pushL x.past rh a.adv).length≤rh
         unfold pushL;have:=hnd.past
         split
         · simp;omega
         · simp;omega
       · exact h.mono (Nat.le_succ n)
theorem outP_mem {l:List Itm} {k:Ky} {y:Nd} {p:Itm} (h:p∈outP l k y):p∈l∨p=(k,y):=by
 unfold outP at h
 rcases List.mem_append.1 h with h|h
 · rcases List.mem_append.1 h with h|h
   · exact .inl (List.mem_of_mem_take h)
   · exact .inr (List.mem_singleton.1 h)
 · exact .inl (List.mem_of_mem_drop h)
theorem oneP_ok {c:Cfg} {rs rh n:Nat} {l:List Itm} {k:Ky} {a:Act17} (h:∀p∈l,ItOk rs rh n p) (hk:k.ok) (ha:ActOk a) (h1:1≤rh):∀p∈(oneP c rs rh l k a).1,ItOk rs rh (n+1) p:=by
 intro p hp;unfold oneP at hp;dsimp only at hp
 split at hp
 · exact (h p hp).mono (Nat.le_succ n)
 · split at hp
   · exact (h p hp).mono (Nat.le_succ n)
   · split at hp
     · exact (h p hp).mono (Nat.le_succ n)
     · rcases outP_mem hp with h9|h9
       · exact (h p h9).mono (Nat.le_succ n)
       · rw [h9];exact do17_ok (getP_ok h k hk) ha h1
theorem oneP_len {c:Cfg} {rs rh:Nat} {l:List Itm} {k:Ky} {a:Act17} (hc:c.lo≤256) (h:l.length≤256):(oneP c rs rh l k a).1.length≤256:=by
 unfold oneP;dsimp only
 split
 · exact h
 · split
   · exact h
   · split
     · exact h
     · rename_i _ _ h3
       unfold outP;have hat:atP l k≤l.length:=by
        unfold atP;exact (List.takeWhile_sublist _).length_le
       cases hh:hasP l k
       · rw [hh] at h3
         have:¬c.lo≤(l.length:Nat):=fun h9=>h3 ⟨rfl,h9⟩
         simp
         omega
       · have hlt:atP l k<l.length:=by
          unfold hasP at hh
          cases h9:l[atP l k]? with
          | none=>rw [h9] at hh;cases hh
          | some z=>exact (List.getElem?_eq_some_iff.1 h9).1
         simp
         omega
structure WdOk (c:Cfg) (rs rh n:Nat) (w:Wd):Prop where
 len:(w.st.length:Int)=c.st
 room:∀l∈w.st,l.length≤256
 it:∀l∈w.st,∀p∈l,ItOk rs rh n p
 cuts:w.cuts.length≤n
 cit:∀q∈w.cuts,q.items.length≤20000∧∀p∈q.items,ItOk rs rh n p
 cep:∀q∈w.cuts,0≤q.ep∧q.ep≤n
 ep:0≤w.ep∧w.ep≤n
theorem WdOk.mono {c:Cfg} {rs rh n m:Nat} {w:Wd} (h:WdOk c rs rh n w) (hm:n≤m):WdOk c rs rh m w :=
 ⟨h.len,h.room,fun l hl p hp=>(h.it l hl p hp).mono hm,Nat.le_trans h.cuts hm,fun q hq=>⟨(h.cit q hq).1,fun p hp=>((h.cit q hq).2 p hp).mono hm⟩,fun q hq=>⟨(h.cep q hq).1,by have:=(h.cep q hq).2;omega⟩,⟨h.ep.1,by have:=h.ep.2;omega⟩⟩
theorem newW_ok (c:Cfg) (rs rh:Nat) (k:Nat) (hk:(k:Int)=c.st):WdOk c rs rh 0 (newW k) :=
 ⟨by simpa [newW] using hk,(fun l hl=>by rw [List.eq_of_mem_replicate hl];exact Nat.zero_le _),(fun l hl p hp=>by rw [List.eq_of_mem_replicate hl] at hp;cases hp),Nat.le_refl _,(fun q hq=>by cases hq),(fun q hq=>by cases hq),⟨Int.le_refl _,Int.le_refl _⟩⟩
theorem oneW_ok {c:Cfg} {rs rh n:Nat} {w:Wd} {id:ByteArray} {a:Act17} (h:WdOk c rs rh n w) (hc:c.lo≤256) (ha:ActOk a) (h1:1≤rh):WdOk c rs rh (n+1) (oneW c rs rh w id a).1:=by
 have hl:∀p∈w.st.getD (atW c id) [],ItOk rs rh n p:=by
  intro p hp
  by_cases hlt:atW c id<w.st.length
  · rw [List.getD_eq_getElem?_getD,List.getElem?_eq_getElem hlt] at hp
    exact h.it _ (List.getElem_mem hlt) p hp
  · rw [List.getD_eq_getElem?_getD,List.getElem?_eq_none (by omega)] at hp
    cases hp
 have hl2:(w.st.getD (atW c id) []).length≤256:=by
  by_cases hlt:atW c id<w.st.length
  · rw [List.getD_eq_getElem?_getD,List.getElem?_eq_getElem hlt]
    exact h.room _ (List.getElem_mem hlt)
  · rw [List.getD_eq_getElem?_getD,List.getElem?_eq_none (by omega)]
    exact Nat.zero_le _
 have hm:=h.mono (Nat.le_succ n);refine ⟨by show (((w.st.set _ _).length:Nat):Int)=c.st;simpa using h.len,fun l hlm=>?_,fun l hlm=>?_,hm.cuts,hm.cit,hm.cep,hm.ep⟩
 · rcases List.mem_or_eq_of_mem_set hlm with h9|h9
   · exact h.room l h9
   · rw [h9];exact oneP_len hc hl2
 · rcases List.mem_or_eq_of_mem_set hlm with h9|h9
   · exact hm.it l h9
   · rw [h9];exact oneP_ok hl (keyK_ok id) ha h1
theorem trimR_ok {rs rh n:Nat} {p:Itm} (h:ItOk rs rh n p) (cut:Int):ItOk rs rh (n+1) (p.1,trimR cut p.2):=by
 have hver:=h.ver;unfold trimR
 split
 · exact (show ItOk rs rh n (p.1,p.2) from h).mono (Nat.le_succ n)
 · exact ⟨⟨rising_drop h.nd.ris _,Nat.le_trans (by simp) h.nd.len,h.nd.past⟩,Nat.succ_le_succ hver,h.key,fun s hs=>h.smp s (List.mem_of_mem_drop hs),fun s hs=>h.val s (List.mem_of_mem_drop hs),h.pol⟩
theorem trimW_ok {c:Cfg} {rs rh n:Nat} {w:Wd} {cut:Int} (h:WdOk c rs rh n w):WdOk c rs rh (n+1) (trimW w cut):=by
 have hm:=h.mono (Nat.le_succ n);refine ⟨by show (((w.st.map _).length:Nat):Int)=c.st;simpa using h.len,fun l hlm=>?_,fun l hlm p hp=>?_,hm.cuts,hm.cit,hm.cep,hm.ep⟩
 · obtain ⟨l2,h2,rfl⟩:=List.mem_map.1 hlm
   simpa using h.room l2 h2
 · obtain ⟨l2,h2,rfl⟩:=List.mem_map.1 hlm
   obtain ⟨q,hq,rfl⟩:=List.mem_map.1 hp;exact trimR_ok (h.it l2 h2 q hq) cut
theorem flat_len:∀(l:List (List Itm)),(∀x∈l,x.length≤256)→l.flatten.length≤256 * l.length
  | [],_=>Nat.le_refl _
  | a::l,h=>by
    have h1:=h a (List.mem_cons_self ..);have h2:=flat_len l (fun x hx=>h x (List.mem_cons_of_mem _ hx));simp only [List.flatten_cons,List.length_append,List.length_cons]
    omega
theorem allW_len {c:Cfg} {rs rh n:Nat} {w:Wd} (h:WdOk c rs rh n w) (hst:c.st≤64):(allW w).length≤16384:=by
 have h1:=flat_len w.st h.room;have h2:=h.len;unfold allW;omega
theorem allW_it {c:Cfg} {rs rh n:Nat} {w:Wd} (h:WdOk c rs rh n w):∀p∈allW w,ItOk rs rh n p:=fun p hp=>by
 obtain ⟨l,hl,hp2⟩:=List.mem_flatten.1 hp;exact h.it l hl p hp2
theorem snapW_ok {c:Cfg} {rs rh n:Nat} {w:Wd} (h:WdOk c rs rh n w) (hst:c.st≤64):WdOk c rs rh (n+1) (snapW w).1:=by
 have hm:=h.mono (Nat.le_succ n);have hep:=h.ep;unfold snapW
 split
 · exact hm
 · refine ⟨hm.len,hm.room,hm.it,?_,fun q hq=>?_,fun q hq=>?_,?_⟩
   · show (w.cuts++[_]).length≤n+1
     have:=h.cuts
     simp;omega
   · rcases List.mem_append.1 hq with h9|h9
     · exact hm.cit q h9
     · rw [List.mem_singleton.1 h9]
       exact ⟨by have:=allW_len h hst;show (allW w).length≤20000;omega,fun p hp=>(allW_it h p hp).mono (Nat.le_succ n)⟩
   · rcases List.mem_append.1 hq with h9|h9
     · exact hm.cep q h9
     · rw [List.mem_singleton.1 h9]
       show 0≤w.ep+1∧w.ep+1≤((n+1:Nat):Int)
       omega
   · show 0≤w.ep+1∧w.ep+1≤((n+1:Nat):Int)
     omega
theorem freeW_ok {c:Cfg} {rs rh n:Nat} {w:Wd} {k:Int} (h:WdOk c rs rh n w):WdOk c rs rh (n+1) (freeW w k).1:=by
 have hm:=h.mono (Nat.le_succ n);unfold freeW
 split
 · exact hm
 · refine ⟨hm.len,hm.room,hm.it,?_,fun q hq=>?_,fun q hq=>?_,hm.ep⟩
   · show (w.cuts.set _ _).length≤n+1
     have:=h.cuts
     simp;omega
   · rcases List.mem_or_eq_of_mem_set hq with h9|h9
     · exact hm.cit q h9
     · rw [h9];exact ⟨Nat.zero_le _,(fun p hp=>by cases hp)⟩
   · rcases List.mem_or_eq_of_mem_set hq with h9|h9
     · exact hm.cep q h9
     · rw [h9];show (0:Int)≤0∧(0:Int)≤((n+1:Nat):Int);omega
theorem doW_ok {c:Cfg} {rs rh n:Nat} {w:Wd} {x:CallD} (h:WdOk c rs rh n w) (hst:c.st≤64) (hlo:c.lo≤256) (h1:1≤rh) (hx:x.ok):WdOk c rs rh (n+1) (doW c rs rh w x).1:=by
 have hm:=h.mono (Nat.le_succ n);obtain ⟨x1,x2,x3,x4,x5,x6⟩:=hx;unfold doW
 split
 · exact hm
 · split
   · exact oneW_ok h hlo ⟨⟨x3,x4⟩,pol0_ok⟩ h1
   · split
     · exact trimW_ok h
     · split
       · exact snapW_ok h hst
       · split
         · exact freeW_ok h
         · split
           · exact hm
           · split
             · exact oneW_ok h hlo ⟨⟨i64_0,i64_0⟩,x6⟩ h1
             · split
               · exact hm
               · split
                 · exact hm
                 · exact ⟨hm.len,hm.room,hm.it,hm.cuts,hm.cit,hm.cep,hm.ep⟩
theorem noteW_ok {c:Cfg} {rs rh n:Nat} {w:Wd} {id:ByteArray} {a:Adv} (h:WdOk c rs rh n w) (hlo:c.lo≤256) (h1:1≤rh):WdOk c rs rh (n+1) (noteW c rs rh w id a).1:=by
 unfold noteW
 split
 · exact h.mono (Nat.le_succ n)
 · exact oneW_ok h hlo ⟨⟨i64_0,i64_0⟩,pol0_ok⟩ h1
end
section
open Go.RowKit Go.Lib Go.Sort
theorem getL_mem {l:List It} {k:Ky} (h:hasI l k=true):(k,(getL l k).nd)∈l.map absI:=by
 obtain ⟨hl,hg⟩:=getL_has h;unfold hasI at h;rw [dif_pos hl] at h;have hk:=of_decide_eq_true h;exact List.mem_map.2 ⟨l[atI l k],List.getElem_mem hl,by rw [hg,absI,hk]⟩
end
section
open Go.RowKit Go.Lib Go.Sort
structure CfgOk (c:Cfg) (rs rh:Nat):Prop where
 cfg:cfgB c=true
 sa:c.sa=(rs:Nat)
 hi:c.hi=(rh:Nat)
 ok:c.ok
theorem CfgOk.room {c:Cfg} {rs rh:Nat} (h:CfgOk c rs rh):RoomOk c rs rh:=by
 have hc:=h.cfg;have h1:=h.sa;have h2:=h.hi;unfold cfgB at hc;simp only [Bool.and_eq_true,decide_eq_true_eq] at hc
 exact ⟨h1,h2,by omega,by omega,by omega,by omega⟩
end
section
open Go.RowKit Go.Lib Go.Sort
def mkIt (p:Itm):It:=⟨p.1,none,0,none,0,p.2⟩
theorem mkIt_abs (R:List Itm):(R.map mkIt).map absI=R:=by
 rw [List.map_map];exact (List.map_congr_left (fun p _=>rfl)).trans (List.map_id R)
structure St where
 T:Nat
 M:Nat
 ver:Nat
 es:List (KO × NE)
abbrev HN:={ n:Nat // n≤1000000 }
def hdl (i:Nat):HN:=⟨min i 1000000,Nat.min_le_right ..⟩
structure StoD where
 A:Nat
 cp:Nat
 H:Nat
 L:Nat
 sts:List St
 live:List (HN × Nat)
def HomeOk (c:Cfg) (wd:Wd):Prop:=∀(i:Nat) R,wd.st[i]?=some R→∀p∈R,routeI p.1.1 p.1.2 c.st=(i:Int)
end
section
open Go.RowKit Go.Lib
theorem foldN_pow (h b:Nat) (h1:1≤2 ^ b):foldN h b<2 ^ b:=by
 unfold foldN
 split
 · exact h1
 · exact Nat.mod_lt _ h1
theorem route_lt {hi lo:Nat} {n:Int} (hn:okSt n=true):0≤routeI hi lo n∧routeI hi lo n<n:=by
 unfold routeI;rw [if_pos hn];obtain ⟨j,hj,rfl⟩:∃j,j<7∧n=((2 ^ j:Nat):Int):=by
  rcases (okSt_iff n).1 hn with h|h|h|h|h|h|h
  · exact ⟨0,by omega,h⟩
  · exact ⟨1,by omega,h⟩
  · exact ⟨2,by omega,h⟩
  · exact ⟨3,by omega,h⟩
  · exact ⟨4,by omega,h⟩
  · exact ⟨5,by omega,h⟩
  · exact ⟨6,by omega,h⟩
 rw [bitsI_pow j hj];have:=foldN_pow (fnvKey hi lo) j (Nat.two_pow_pos j);simp only [Int.toNat_natCast]
 omega
end
section
open Go.RowKit Go.Lib Go.Sort
theorem findIt_mem {l:List Itm} {k:Ky} {y:Nd} (h:findIt l k=some y):(k,y)∈l:=by
 unfold findIt at h;obtain ⟨q,hq,rfl⟩:=Option.map_eq_some_iff.1 h;have h1:=List.find?_some hq;simp at h1
 rw [←h1];exact List.mem_of_find?_eq_some hq
theorem findIt_none {l:List Itm} {k:Ky} (h:∀p∈l,p.1≠k):findIt l k=none:=by
 unfold findIt;rw [List.find?_eq_none.2 (fun p hp=>by simpa using h p hp)];rfl
theorem findIt_append (a b:List Itm) (k:Ky):findIt (a++b) k=(findIt a k).or (findIt b k):=by
 unfold findIt;rw [List.find?_append]
 cases List.find? (fun p=>decide (p.1=k)) a <;> rfl
theorem findIt_sorted {R:List Itm} (hs:(R.map (·.1)).Pairwise (fun a b=>ltK a b=true)) {k:Ky} {y:Nd} (h:(k,y)∈R):findIt R k=some y:=by
 unfold findIt
 cases hf:R.find? (fun p=>decide (p.1=k)) with
 | none=>exact absurd (List.find?_eq_none.1 hf (k,y) h) (by simp)
 | some q =>
   have h1:=List.find?_some hf;simp at h1
   have h2:=List.mem_of_find?_eq_some hf;obtain ⟨a,b⟩:=q;obtain rfl:a=k:=h1;rw [sorted_at_unique hs h2 h];rfl
theorem flat_none {ll:List (List Itm)} {k:Ky} (h:∀l∈ll,findIt l k=none):findIt ll.flatten k=none:=by
 induction ll with
 | nil=>rfl
 | cons l ll ih =>
   rw [List.flatten_cons,findIt_append,h l (by simp),Option.none_or];exact ih (fun m hm=>h m (by simp [hm]))
theorem flat_at {ll:List (List Itm)} {k:Ky} {i:Nat} {R:List Itm} (hi:ll[i]?=some R) (h:∀j l,ll[j]?=some l→j≠i→findIt l k=none):findIt ll.flatten k=findIt R k:=by
 induction ll generalizing i with
 | nil=>simp at hi
 | cons l ll ih =>
   rw [List.flatten_cons,findIt_append]
   cases i with
   | zero =>
     simp at hi
     subst hi;rw [flat_none (fun m hm=>by
      obtain ⟨j,hj⟩:=List.getElem?_of_mem hm;exact h (j+1) m (by simpa using hj) (by omega))]
     exact Option.or_none
   | succ i =>
     rw [h 0 l (by simp) (by omega),Option.none_or];exact ih (by simpa using hi) (fun j m hm hj=>h (j+1) m (by simpa using hm) (by omega))
theorem load_home {c:Cfg} {wd:Wd} (h:HomeOk c wd) {k:Ky} {i:Nat} {R:List Itm} (hi:wd.st[i]?=some R) (hk:routeI k.1 k.2 c.st=(i:Int)):findIt (allW wd) k=findIt R k :=
 flat_at hi (fun j l hl hj=>findIt_none (fun p hp e=>hj (by
  have:=h j l hl p hp;rw [e,hk] at this;omega)))
theorem HomeOk.set {c:Cfg} {wd:Wd} (h:HomeOk c wd) {i:Nat} {R:List Itm} (hR:∀p∈R,routeI p.1.1 p.1.2 c.st=(i:Int)):HomeOk c { wd with st:=wd.st.set i R }:=by
 intro j Q hQ p hp;have hQ:(wd.st.set i R)[j]?=some Q:=hQ;rw [List.getElem?_set] at hQ
 split at hQ
 · rename_i e
   split at hQ
   · injection hQ with hQ
     subst hQ;rw [←e];exact hR p hp
   · cases hQ
 · exact h j Q hQ p hp
theorem atW_lt {c:Cfg} {wd:Wd} {id:ByteArray} (hst:okSt c.st=true) (hl:(wd.st.length:Int)=c.st):atW c id<wd.st.length∧routeI (keyK id).1 (keyK id).2 c.st=(atW c id:Int):=by
 obtain ⟨h0,h1⟩:=route_lt (hi:=(keyK id).1) (lo:=(keyK id).2) hst;unfold atW;omega
theorem homeOk_trim {c:Cfg} {wd:Wd} {cut:Int} (h:HomeOk c wd):HomeOk c (trimW wd cut):=by
 intro i R hR p hp;have hR:(wd.st.map fun l=>l.map fun p=>(p.1,trimR cut p.2))[i]?=some R:=hR;rw [List.getElem?_map] at hR;obtain ⟨Q,hQ,rfl⟩:=Option.map_eq_some_iff.1 hR;obtain ⟨q,hq,rfl⟩:=List.mem_map.1 hp;exact h i Q hQ q hq
theorem homeOk_new (c:Cfg) (n:Nat):HomeOk c (newW n):=by
 intro i R hR p hp;have:=List.mem_of_getElem? hR;rw [List.eq_of_mem_replicate this] at hp
 cases hp
theorem tot_new (n:Nat):(allW (newW n)).length=0:=by simp [allW,newW]
end
section
open Go.RowKit Go.Lib
abbrev SK:={ s:ByteArray // s.size≤maxLen }
def skV (x:SK):Value:=.string x.1
theorem keysSk:KeysBy Tryz.prog 9 skV where
 law:=Go.Maps.string_keyed Tryz.underlying9
 key x:=⟨_,Go.WideMaps.keyOf_string_mk Tryz.underlying9 x.2⟩
 inj x y h:=by
  simp only [skV,Value.string.injEq] at h
  exact Subtype.ext h
def ldC (x:It):List Value:=[.slice x.sA x.nd.smp.length x.sc,.slice x.pA x.nd.past.length x.pc,.int .i64 x.nd.pol.mn,.int .i64 x.nd.pol.mx,.int .i64 x.nd.pol.tg,.int .i64 x.nd.pol.tol,.int .i64 x.nd.pol.win,.int .i64 x.nd.pol.hold,.bool x.nd.ruled]
def ldV (x:It):Value:=.agg (ldC x).toArray
def FlHas (es:List (SK × It)) (R:List Itm):Prop:=(∀p∈es,idS p.1.1=true)∧∀s:SK,idS s.1=true→match findM es s with
 | none=>findIt R (keyK s.1)=none
 | some x=>∃y,findIt R (keyK s.1)=some y∧sameN x.nd y
abbrev SrtR (R:List Itm):Prop:=(R.map (·.1)).Pairwise (fun a b=>ltK a b=true)
structure FlTells (c:Cfg) (es:List (SK × It)) (wd:Wd):Prop where
 has:FlHas es (allW wd)
 keys:∀p∈allW wd,∃s:SK,idS s.1=true∧keyK s.1=p.1
 cnt:∀(i:Nat) R,wd.st[i]?=some R→R.length=(es.map (·.1)).countP fun s=>decide (routeI (keyK s.1).1 (keyK s.1).2 c.st=(i:Int))
 srt:∀R∈wd.st,SrtR R
 home:HomeOk c wd
 lst:(wd.st.length:Int)=c.st
 nod:(es.map (·.1)).Nodup
structure FCut where
 ep:Int
 m:Option Nat
 es:List (SK × It)
 fr:Bool
def fcC (x:FCut):List Value:=[.int .i64 x.ep,.map x.m,.bool x.fr]
structure FlatD where
 L:Nat
 es:List (SK × It)
 A:Option Addr
 cp:Nat
 cuts:List FCut
structure FlMem (P:Nat→Prop) (w:World) (M:Nat) (c:Cfg) (wd:Wd) (d:FlatD):Prop where
 cell:w.heap[M]?=some (.cells #[.int .i64 c.st,.int .i64 c.sa,.int .i64 c.lo,.int .i64 c.hi,.map (some d.L),.slice d.A d.cuts.length d.cp,.int .i64 wd.ep,.bool wd.over] 97 (0,0))
 map:MapIn skV ldV w d.L d.es
 ne:M≠d.L
 off:∀b,P b→b≠M∧b≠d.L
 rows:∀p∈d.es,LoadIn P w p.2
 len:d.cuts.length=wd.cuts.length
 row:RowG P 3 fcC w (.slice d.A d.cuts.length d.cp) d.cuts
 cut:∀(i:Nat) x q,d.cuts[i]?=some x→wd.cuts[i]?=some q→x.fr=q.freed∧(q.freed=false→x.ep=q.ep∧∃l,x.m=some l∧P l∧MapIn skV ldV w l x.es∧(∀p∈x.es,LoadIn P w p.2)∧FlHas x.es q.items)
structure FlatAt (P:Nat→Prop) (w:World) (M:Nat) (c:Cfg) (rs rh n:Nat) (wd:Wd) (d:FlatD):Prop extends FlMem P w M c wd d where
 tells:FlTells c d.es wd
theorem FlMem.lt {P:Nat→Prop} {w:World} {M:Nat} {c:Cfg} {wd:Wd} {d:FlatD} (h:FlMem P w M c wd d):M<w.heap.size:=(Array.getElem?_eq_some_iff.1 h.cell).1
theorem FlatAt.lt {P:Nat→Prop} {w:World} {M:Nat} {c:Cfg} {rs rh n:Nat} {wd:Wd} {d:FlatD} (h:FlatAt P w M c rs rh n wd d):M<w.heap.size:=h.toFlMem.lt
theorem RowG.ltG {α:Type} {P:Nat→Prop} {n:Nat} {f:α→List Value} {w:World} {v:Value} {l:List α} (h:RowG P n f w v l):RowG (fun b=>P b∧b<w.heap.size) n f w v l:=by
 refine ⟨h.1,fun b o m c e hn=>⟨h.2 b o m c e hn,?_⟩⟩;obtain ⟨A,c2,rfl,hl,hx⟩:=h.1;obtain ⟨b2,o2,rfl,hb,-⟩:=hx hn;simp only [Value.slice.injEq,Option.some.injEq,Addr.mk.injEq] at e
 omega
theorem RowG.keepG {α:Type} {P Q:Nat→Prop} {n:Nat} {f:α→List Value} {w w':World} {v:Value} {l:List α} (h:RowG P n f w v l) (hs:w.heap.size≤w'.heap.size) (hk:∀b,P b→b<w.heap.size→w'.heap[b]?=w.heap[b]?∧Q b):RowG Q n f w' v l :=
 (h.ltG.keepP hs (fun b hb hlt=>(hk b hb.1 hlt).1)).imp (fun b hb=>(hk b hb.1 hb.2).2)
theorem LoadIn.keepG {P Q:Nat→Prop} {w w':World} {x:It} (h:LoadIn P w x) (hs:w.heap.size≤w'.heap.size) (hk:∀b,P b→b<w.heap.size→w'.heap[b]?=w.heap[b]?∧Q b):LoadIn Q w' x:=⟨h.1.keepG hs hk,h.2.keepG hs hk⟩
theorem FlMem.keep {P Q:Nat→Prop} {w w':World} {M:Nat} {c:Cfg} {wd:Wd} {d:FlatD} (h:FlMem P w M c wd d) (hs:w.heap.size≤w'.heap.size) (hM:w'.heap[M]?=w.heap[M]?) (hL:w'.heap[d.L]?=w.heap[d.L]?) (hk:∀b,P b→b<w.heap.size→w'.heap[b]?=w.heap[b]?∧Q b) (ho:∀b,Q b→b≠M∧b≠d.L):FlMem Q w' M c wd d :=
 ⟨hM.trans h.cell,h.map.block hL,h.ne,ho,fun p hp=>(h.rows p hp).keepG hs hk,h.len,h.row.keepG hs hk,fun i x q hx hq=>⟨(h.cut i x q hx hq).1,fun hf=>by
  obtain ⟨h1,l,h2,h3,h4,h5,h6⟩:=(h.cut i x q hx hq).2 hf;have h7:=hk l h3 h4.lt;exact ⟨h1,l,h2,h7.2,h4.block h7.1,fun p hp=>(h5 p hp).keepG hs hk,h6⟩⟩⟩
theorem FlatAt.keep {P Q:Nat→Prop} {w w':World} {M:Nat} {c:Cfg} {rs rh n:Nat} {wd:Wd} {d:FlatD} (h:FlatAt P w M c rs rh n wd d) (hs:w.heap.size≤w'.heap.size) (hM:w'.heap[M]?=w.heap[M]?) (hL:w'.heap[d.L]?=w.heap[d.L]?) (hk:∀b,P b→b<w.heap.size→w'.heap[b]?=w.heap[b]?∧Q b) (ho:∀b,Q b→b≠M∧b≠d.L):FlatAt Q w' M c rs rh n wd d :=
 ⟨h.toFlMem.keep hs hM hL hk ho,h.tells⟩
theorem FlMem.below {P:Nat→Prop} {w w':World} {M:Nat} {c:Cfg} {wd:Wd} {d:FlatD} (h:FlMem P w M c wd d) (hb:jB w w'):FlMem P w' M c wd d :=
 h.keep hb.size (hb.block _ h.lt) (hb.block _ h.map.lt) (fun b hP hlt=>⟨hb.block b hlt,hP⟩) h.off
theorem FlatAt.below {P:Nat→Prop} {w w':World} {M:Nat} {c:Cfg} {rs rh n:Nat} {wd:Wd} {d:FlatD} (h:FlatAt P w M c rs rh n wd d) (hb:jB w w'):FlatAt P w' M c rs rh n wd d :=
 ⟨h.toFlMem.below hb,h.tells⟩
theorem flMade_any {P:Nat→Prop} {M:Nat} {c:Cfg} {rs rh n:Nat} {wd:Wd} {d:FlatD} (w:World) (h:FlatAt P w M c rs rh n wd d) :
 Calls Tryz.prog 48 #[.pointer (some ⟨M,0,none⟩)] w fun e w'=>e=.returned (.bool true)∧w'=w:=by
 obtain ⟨a1,a2,a3⟩:=box_cells jR h.cell;have hq:∀W,(binOp .neq 94 (.map (some d.L)) (.map none)).run Tryz.prog W=.ok (.bool true) W:=fun W=>run_neq_map_nil W _ _ _ (some d.L) Tryz.underlying94
 clear h
 go_enter Tryz.func48,Tryz.ntmps48
 go_wp2_with fail
 go_ret
 exact ⟨rfl,rfl⟩
end
section
open Go.RowKit Go.Lib Go.Sort
open Go.ChangeMaps (setBlock)
section
variable {B:Nat→Prop} {S:Nat} {c:Cfg} {rs rh n:Nat} {wd:Wd} {d:StoD}
theorem findT_out {t:List Int} {k:Int} (h:k<1∨(t.length:Nat)<k):findT t k=5:=by
 unfold findT;rw [if_pos h]
end
end
section
open Go.RowKit Go.Lib Go.Sort
section
variable {B:Nat→Prop} {S:Nat} {c:Cfg} {rs rh n:Nat} {wd:Wd} {d:StoD}
theorem getLast_nth {α:Type} {l:List α} (h:0<l.length):l.getLast?=some (l[l.length - 1]'(by omega)):=by
 rw [List.getLast?_eq_getElem?,List.getElem?_eq_getElem (by omega)]
end
end
section
open Go.RowKit Go.Lib Go.Sort
open Go.ChangeMaps (setBlock)
section
variable {B:Nat→Prop} {S:Nat} {c:Cfg} {rs rh n:Nat} {wd:Wd} {d:StoD}
theorem upd_at {w w':World} {fp fp':List Nat} {X:Nat} (hu:Upd w w' fp fp') (hX:X∉fp) {o:Obj} (h:w.heap[X]?=some o):w'.heap[X]?=some o:=(hu.block X (jL h) hX).trans h
end
end
section
open Go.RowKit Go.Lib Go.ChangeShapes Go.WideShapes Go.Joins
theorem i64_of_wf {n:Int} (h:(Lit.int .i64 n).wf=true):I64 n:=by simpa [Lit.wf,IntKind.min,IntKind.max,IntKind.signed,IntKind.bits,I64] using h
theorem cl_pol:Tryz.prog.cellsOf 46=6:=by kernel_rfl
theorem cl_call:Tryz.prog.cellsOf 69=11:=by kernel_rfl
theorem cl_i64:Tryz.prog.cellsOf 2=1:=by kernel_rfl
theorem cl_int:Tryz.prog.cellsOf 3=1:=by kernel_rfl
theorem cl_str:Tryz.prog.cellsOf 9=1:=by kernel_rfl
theorem list6 {α:Type} {l:List α} (h:l.length=6):∃a0 a1 a2 a3 a4 a5,l=[a0,a1,a2,a3,a4,a5]:=by
 match l,h with
 | [a0,a1,a2,a3,a4,a5],_=>exact ⟨_,_,_,_,_,_,rfl⟩
theorem list11 {α:Type} {l:List α} (h:l.length=11):∃a0 a1 a2 a3 a4 a5 a6 a7 a8 a9 a10,l=[a0,a1,a2,a3,a4,a5,a6,a7,a8,a9,a10]:=by
 match l,h with
 | [a0,a1,a2,a3,a4,a5,a6,a7,a8,a9,a10],_=>exact ⟨_,_,_,_,_,_,_,_,_,_,_,rfl⟩
section
variable {H:Type} {enc:TypeId × Value→H} {w:World} {base:Nat} {spare:Nat→Bool} {held:Bool}
theorem field_i64 {fuel:Nat} {t:TypeId} (ht:Tryz.prog.underlying t=some (.int .i64)) (hc:Tryz.prog.cellsOf t=1) {cs:List Value} {xs:List (DataW H × List MemPlace)} {i o:Nat} (hi:i<xs.length) {v:Value} (hv:cs.drop o=v::cs.drop (o+1))
    (h:DataW.trod enc Tryz.prog w base spare held fuel t ((cs.drop o).take (Tryz.prog.cellsOf t))=xs[i]?):∃n,v=.int .i64 n∧I64 n:=by
  rw [hc,hv,List.take_succ_cons,List.take_zero,List.getElem?_eq_getElem hi] at h;obtain ⟨n,hn,_,hw⟩:=DataW.trod_int ht h;simp only [List.cons.injEq,and_true] at hn
  exact ⟨n,hn,i64_of_wf hw⟩
theorem field_str {fuel:Nat} {t:TypeId} (ht:Tryz.prog.underlying t=some .string) (hc:Tryz.prog.cellsOf t=1) {cs:List Value} {xs:List (DataW H × List MemPlace)} {i o:Nat} (hi:i<xs.length) {v:Value} (hv:cs.drop o=v::cs.drop (o+1))
    (h:DataW.trod enc Tryz.prog w base spare held fuel t ((cs.drop o).take (Tryz.prog.cellsOf t))=xs[i]?):∃s:ByteArray,v=.string s∧s.size≤maxLen:=by
  rw [hc,hv,List.take_succ_cons,List.take_zero,List.getElem?_eq_getElem hi] at h;obtain ⟨n,hn,_,hw⟩:=DataW.trod_string ht h;simp only [List.cons.injEq,and_true] at hn
  exact ⟨n,hn,hw⟩
theorem pol_reads {fuel:Nat} {cs:List Value} {x:DataW H × List MemPlace} (h:DataW.trod enc Tryz.prog w base spare held fuel 46 cs=some x) :
 ∃p:Pol,p.ok∧cs=[.int .i64 p.mn,.int .i64 p.mx,.int .i64 p.tg,.int .i64 p.tol,.int .i64 p.win,.int .i64 p.hold]:=by
 obtain ⟨xs,n,_,_,hl,hx,hf⟩:=DataW.trod_struct Tryz.underlying46 h;rw [cl_pol] at hl
 replace hx:xs.length=6:=hx
 obtain ⟨a0,a1,a2,a3,a4,a5,rfl⟩:=list6 hl;obtain ⟨n0,rfl,k0⟩:=field_i64 Tryz.underlying2 cl_i64 (i:=0) (by omega) (o:=0) rfl (hf 0 _ rfl);obtain ⟨n1,rfl,k1⟩:=field_i64 Tryz.underlying2 cl_i64 (i:=1) (by omega) (o:=1) rfl (hf 1 _ rfl);obtain ⟨n2,rfl,k2⟩:=field_i64 Tryz.underlying2 cl_i64 (i:=2) (by omega) (o:=2) rfl (hf 2 _ rfl);obtain ⟨n3,rfl,k3⟩:=field_i64 Tryz.underlying2 cl_i64 (i:=3) (by omega) (o:=3) rfl (hf 3 _ rfl)
 obtain ⟨n4,rfl,k4⟩:=field_i64 Tryz.underlying2 cl_i64 (i:=4) (by omega) (o:=4) rfl (hf 4 _ rfl);obtain ⟨n5,rfl,k5⟩:=field_i64 Tryz.underlying2 cl_i64 (i:=5) (by omega) (o:=5) rfl (hf 5 _ rfl);exact ⟨⟨n0,n1,n2,n3,n4,n5⟩,⟨k0,k1,k2,k3,k4,k5⟩,rfl⟩
theorem call_reads {fuel:Nat} {cs:List Value} {x:DataW H × List MemPlace} (h:DataW.trod enc Tryz.prog w base spare held fuel 69 cs=some x) :
 ∃c:CallD,c.ok∧cs=callCells c:=by
 obtain ⟨xs,n,_,_,hl,hx,hf⟩:=DataW.trod_struct Tryz.underlying69 h;rw [cl_call] at hl
 replace hx:xs.length=6:=hx
 obtain ⟨a0,a1,a2,a3,a4,a5,a6,a7,a8,a9,a10,rfl⟩:=list11 hl;obtain ⟨n0,rfl,k0⟩:=field_i64 Tryz.underlying3 cl_int (i:=0) (by omega) (o:=0) rfl (hf 0 _ rfl);obtain ⟨n1,rfl,k1⟩:=field_str Tryz.underlying9 cl_str (i:=1) (by omega) (o:=1) rfl (hf 1 _ rfl);obtain ⟨n2,rfl,k2⟩:=field_i64 Tryz.underlying2 cl_i64 (i:=2) (by omega) (o:=2) rfl (hf 2 _ rfl);obtain ⟨n3,rfl,k3⟩:=field_i64 Tryz.underlying2 cl_i64 (i:=3) (by omega) (o:=3) rfl (hf 3 _ rfl)
 obtain ⟨n4,rfl,k4⟩:=field_i64 Tryz.underlying3 cl_int (i:=4) (by omega) (o:=4) rfl (hf 4 _ rfl);have h5:=hf 5 _ rfl;rw [List.getElem?_eq_getElem (by omega)] at h5;obtain ⟨p,k5,hp⟩:=pol_reads h5
 replace hp:([a5,a6,a7,a8,a9,a10]:List Value).take (Tryz.prog.cellsOf 46)=_:=hp
 rw [cl_pol] at hp;simp only [List.take_succ_cons,List.take_zero,List.cons.injEq,and_true] at hp
 obtain ⟨rfl,rfl,rfl,rfl,rfl,rfl⟩:=hp;exact ⟨⟨n0,n1,n2,n3,n4,p⟩,⟨k0,k1,k2,k3,k4,k5⟩,rfl⟩
end
end
end Go.Proofs.YtkcdhaallnhhmaaGreat
