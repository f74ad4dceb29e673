/- Part 19 of the proof: SerRest, W21Q, NPast, MapRange, StripeAt, SLaw, SFreeze2, SLaw4, SPlay, Alike, CutFz, StoP, RouteLt, FlP, HeldE, CallsIn. -/
import Derived.Sort.WalkB12
import Derived.Lib.OwnBridge
import Derived.Shelf.SlicesE.Clone
import Derived.Maps.Keyed
import Derived.StringKeys
import Derived.Deep.RegionHeld
import Derived.Test.YtpmfcpdelkchaaaGreatL18
namespace Go.Proofs.YtpmfcpdelkchaaaGreat
set_option linter.unusedSimpArgs false
set_option linter.unusedVariables false
set_option linter.unusedSectionVars false
set_option maxRecDepth 100000
set_option maxHeartbeats 16000000
section
open Go.RowKit Go.Lib Go.Sort
def NewSer (w:World) (l:List Smp) (room:Int) (e:Ending) (w':World):Prop :=
 ∃S fp,e=.returned (.pointer (some ⟨S,0,none⟩))∧SerIn w' S l room fp∧(∀k∈fp,w.heap.size≤k)∧jB w w'
theorem serNew_any (room:Int) (w:World) (h1:1≤room) (h2:room≤256) :
 Calls Tryz.prog 213 #[.int .i64 room] w (NewSer w [] room):=by
 have q1:¬room<1:=by omega
 have q2:¬256<room:=by omega
 go_enter Tryz.func213,Tryz.ntmps213
 go_wp2
 go_ret
 refine ⟨w.heap.size,[w.heap.size],rfl,⟨.slice none 0 0,[],heap_alloc_new _ _,SRow.nil _,by simp,rfl⟩,fun k hk=>by simp at hk;omega,balloc jR _⟩
theorem serList_any (S:Nat) (l:List Smp) (room:Int) (fp:List Nat) (w:World) (h:SerIn w S l room fp) (hl:l.length≤1000000) :
 Calls Tryz.prog 160 #[.pointer (some ⟨S,0,none⟩)] w (CloneS smpC 138 2 w l):=by
 obtain ⟨v,fr,hS,hrow,_,_⟩:=h;have C:=jH (cloneS_any v l w (hrow.row eSmp) hl);have z0:w.cell? ⟨S,0,none⟩=some v:=by simp only [World.cell?,hS];rfl
 clear hS hrow
 go_enter Tryz.func160,Tryz.ntmps160
 go_wp2_with (go_at_call 159;refine C.out.mono ?_;rintro e w2 ⟨A,c,fp,rfl,h1,h2,h3⟩;have H1:=jH h1;have H2:=jH h2;have H3:=jH h3;clear h1 h2 h3)
 go_ret
 exact ⟨A,c,fp,rfl,H1.out,H2.out,H3.out⟩
end
section
open Go.RowKit Go.Lib
structure ItOk (rs rh n:Nat) (p:Itm):Prop where
 nd:NdOk rs rh p.2
 ver:p.2.ver≤n
 key:p.1.ok
 smp:smpI p.2.smp
 val:∀s∈p.2.smp,0≤s.1∧0≤s.2
 pol:p.2.pol.ok
theorem ItOk.mono {rs rh n m:Nat} {p:Itm} (h:ItOk rs rh n p) (hm:n≤m):ItOk rs rh m p:=⟨h.nd,Nat.le_trans h.ver hm,h.key,h.smp,h.val,h.pol⟩
theorem pol0_ok:pol0.ok:=by unfold Pol.ok I64 pol0;dsimp only;omega
theorem nd0_ok (rs rh n:Nat) (k:Ky) (hk:k.ok):ItOk rs rh n (k,nd0) :=
 ⟨⟨List.Pairwise.nil,Nat.zero_le _,Nat.zero_le _⟩,Nat.zero_le _,hk,(fun s hs=>by cases hs),(fun s hs=>by cases hs),pol0_ok⟩
theorem getP_ok {rs rh n:Nat} {l:List Itm} (h:∀p∈l,ItOk rs rh n p) (k:Ky) (hk:k.ok):ItOk rs rh n (k,getP l k):=by
 unfold getP
 split
 · exact nd0_ok rs rh n k hk
 · rename_i x hx
   split
   · have hm:=List.mem_of_getElem? hx
     exact ⟨(h x hm).nd,(h x hm).ver,hk,(h x hm).smp,(h x hm).val,(h x hm).pol⟩
   · exact nd0_ok rs rh n k hk
theorem putS_mem {l:List Smp} {room:Int} {x s:Smp} (h:s∈putS l room x):s∈l∨s=x:=by
 unfold putS at h
 split at h
 · rcases List.mem_or_eq_of_mem_set h with h|h
   · exact .inl h
   · exact .inr h
 · have h2:s∈insS l x:=by
    unfold cutS at h
    split at h
    · exact List.mem_of_mem_drop h
    · exact h
   unfold insS at h2;simp only [List.mem_append,List.mem_cons,List.mem_singleton,List.not_mem_nil,or_false] at h2
   rcases h2 with h2|h2|h2
   · exact .inl (List.mem_of_mem_take h2)
   · exact .inr h2
   · exact .inl (List.mem_of_mem_drop h2)
structure ActOk (a:Act17):Prop where
 smp:I64 a.smp.1∧I64 a.smp.2
 pol:a.pol.ok
theorem do17_ok {rs rh n:Nat} {k:Ky} {x:Nd} {a:Act17} (h:ItOk rs rh n (k,x)) (ha:ActOk a) (h1:1≤rh):ItOk rs rh (n+1) (k,(do17 rs rh x a).1):=by
 have hver:=h.ver;have hnd:=h.nd;dsimp only at hver hnd;unfold do17
 split
 · split
   · rename_i _ hs
     refine ⟨⟨rising_put hnd.ris _ _,putS_len hnd.len _,hnd.past⟩,Nat.succ_le_succ hver,h.key,fun s hs'=>?_,fun s hs'=>?_,h.pol⟩
     · rcases putS_mem hs' with h9|h9
       · exact h.smp s h9
       · rw [h9];exact ha.smp
     · rcases putS_mem hs' with h9|h9
       · exact h.val s h9
       · rw [h9]
         unfold serE at hs
         split at hs
         · cases hs
         · split at hs
           · cases hs
           · exact ⟨by omega,by omega⟩
   · exact h.mono (Nat.le_succ n)
 · split
   · split
     · exact h.mono (Nat.le_succ n)
     · exact ⟨⟨rising_drop hnd.ris _,Nat.le_trans (by simp) hnd.len,hnd.past⟩,Nat.succ_le_succ hver,h.key,fun s hs=>h.smp s (List.mem_of_mem_drop hs),fun s hs=>h.val s (List.mem_of_mem_drop hs),h.pol⟩
   · split
     · split
       · exact ⟨⟨hnd.ris,hnd.len,hnd.past⟩,Nat.succ_le_succ hver,h.key,h.smp,h.val,ha.pol⟩
       · exact h.mono (Nat.le_succ n)
     · split
       · refine ⟨⟨hnd.ris,hnd.len,?_⟩,Nat.succ_le_succ hver,h.key,h.smp,h.val,h.pol⟩
         show (pushL x.past rh a.adv).length≤rh
         unfold pushL;have:=hnd.past
         split
         · simp;omega
         · simp;omega
       · exact h.mono (Nat.le_succ n)
theorem outP_mem {l:List Itm} {k:Ky} {y:Nd} {p:Itm} (h:p∈outP l k y):p∈l∨p=(k,y):=by
 unfold outP at h
 rcases List.mem_append.1 h with h|h
 · rcases List.mem_append.1 h with h|h
   · exact .inl (List.mem_of_mem_take h)
   · exact .inr (List.mem_singleton.1 h)
 · exact .inl (List.mem_of_mem_drop h)
theorem oneP_ok {c:Cfg} {rs rh n:Nat} {l:List Itm} {k:Ky} {a:Act17} (h:∀p∈l,ItOk rs rh n p) (hk:k.ok) (ha:ActOk a) (h1:1≤rh):∀p∈(oneP c rs rh l k a).1,ItOk rs rh (n+1) p:=by
 intro p hp;unfold oneP at hp;dsimp only at hp
 split at hp
 · exact (h p hp).mono (Nat.le_succ n)
 · split at hp
   · exact (h p hp).mono (Nat.le_succ n)
   · split at hp
     · exact (h p hp).mono (Nat.le_succ n)
     · rcases outP_mem hp with h9|h9
       · exact (h p h9).mono (Nat.le_succ n)
       · rw [h9];exact do17_ok (getP_ok h k hk) ha h1
theorem oneP_len {c:Cfg} {rs rh:Nat} {l:List Itm} {k:Ky} {a:Act17} (hc:c.lo≤256) (h:l.length≤256):(oneP c rs rh l k a).1.length≤256:=by
 unfold oneP;dsimp only
 split
 · exact h
 · split
   · exact h
   · split
     · exact h
     · rename_i _ _ h3
       unfold outP;have hat:atP l k≤l.length:=by
        unfold atP;exact (List.takeWhile_sublist _).length_le
       cases hh:hasP l k
       · rw [hh] at h3
         have:¬c.lo≤(l.length:Nat):=fun h9=>h3 ⟨rfl,h9⟩
         simp
         omega
       · have hlt:atP l k<l.length:=by
          unfold hasP at hh
          cases h9:l[atP l k]? with
          | none=>rw [h9] at hh;cases hh
          | some z=>exact (List.getElem?_eq_some_iff.1 h9).1
         simp
         omega
structure WdOk (c:Cfg) (rs rh n:Nat) (w:Wd):Prop where
 len:(w.st.length:Int)=c.st
 room:∀l∈w.st,l.length≤256
 it:∀l∈w.st,∀p∈l,ItOk rs rh n p
 cuts:w.cuts.length≤n
 cit:∀q∈w.cuts,q.items.length≤20000∧∀p∈q.items,ItOk rs rh n p
 cep:∀q∈w.cuts,0≤q.ep∧q.ep≤n
 ep:0≤w.ep∧w.ep≤n
theorem WdOk.mono {c:Cfg} {rs rh n m:Nat} {w:Wd} (h:WdOk c rs rh n w) (hm:n≤m):WdOk c rs rh m w :=
 ⟨h.len,h.room,fun l hl p hp=>(h.it l hl p hp).mono hm,Nat.le_trans h.cuts hm,fun q hq=>⟨(h.cit q hq).1,fun p hp=>((h.cit q hq).2 p hp).mono hm⟩,fun q hq=>⟨(h.cep q hq).1,by have:=(h.cep q hq).2;omega⟩,⟨h.ep.1,by have:=h.ep.2;omega⟩⟩
theorem newW_ok (c:Cfg) (rs rh:Nat) (k:Nat) (hk:(k:Int)=c.st):WdOk c rs rh 0 (newW k) :=
 ⟨by simpa [newW] using hk,(fun l hl=>by rw [List.eq_of_mem_replicate hl];exact Nat.zero_le _),(fun l hl p hp=>by rw [List.eq_of_mem_replicate hl] at hp;cases hp),Nat.le_refl _,(fun q hq=>by cases hq),(fun q hq=>by cases hq),⟨Int.le_refl _,Int.le_refl _⟩⟩
theorem oneW_ok {c:Cfg} {rs rh n:Nat} {w:Wd} {id:ByteArray} {a:Act17} (h:WdOk c rs rh n w) (hc:c.lo≤256) (ha:ActOk a) (h1:1≤rh):WdOk c rs rh (n+1) (oneW c rs rh w id a).1:=by
 have hl:∀p∈w.st.getD (atW c id) [],ItOk rs rh n p:=by
  intro p hp
  by_cases hlt:atW c id<w.st.length
  · rw [List.getD_eq_getElem?_getD,List.getElem?_eq_getElem hlt] at hp
    exact h.it _ (List.getElem_mem hlt) p hp
  · rw [List.getD_eq_getElem?_getD,List.getElem?_eq_none (by omega)] at hp
    cases hp
 have hl2:(w.st.getD (atW c id) []).length≤256:=by
  by_cases hlt:atW c id<w.st.length
  · rw [List.getD_eq_getElem?_getD,List.getElem?_eq_getElem hlt]
    exact h.room _ (List.getElem_mem hlt)
  · rw [List.getD_eq_getElem?_getD,List.getElem?_eq_none (by omega)]
    exact Nat.zero_le _
 have hm:=h.mono (Nat.le_succ n);refine ⟨by show (((w.st.set _ _).length:Nat):Int)=c.st;simpa using h.len,fun l hlm=>?_,fun l hlm=>?_,hm.cuts,hm.cit,hm.cep,hm.ep⟩
 · rcases List.mem_or_eq_of_mem_set hlm with h9|h9
   · exact h.room l h9
   · rw [h9];exact oneP_len hc hl2
 · rcases List.mem_or_eq_of_mem_set hlm with h9|h9
   · exact hm.it l h9
   · rw [h9];exact oneP_ok hl (keyK_ok id) ha h1
theorem trimR_ok {rs rh n:Nat} {p:Itm} (h:ItOk rs rh n p) (cut:Int):ItOk rs rh (n+1) (p.1,trimR cut p.2):=by
 have hver:=h.ver;unfold trimR
 split
 · exact (show ItOk rs rh n (p.1,p.2) from h).mono (Nat.le_succ n)
 · exact ⟨⟨rising_drop h.nd.ris _,Nat.le_trans (by simp) h.nd.len,h.nd.past⟩,Nat.succ_le_succ hver,h.key,fun s hs=>h.smp s (List.mem_of_mem_drop hs),fun s hs=>h.val s (List.mem_of_mem_drop hs),h.pol⟩
theorem trimW_ok {c:Cfg} {rs rh n:Nat} {w:Wd} {cut:Int} (h:WdOk c rs rh n w):WdOk c rs rh (n+1) (trimW w cut):=by
 have hm:=h.mono (Nat.le_succ n);refine ⟨by show (((w.st.map _).length:Nat):Int)=c.st;simpa using h.len,fun l hlm=>?_,fun l hlm p hp=>?_,hm.cuts,hm.cit,hm.cep,hm.ep⟩
 · obtain ⟨l2,h2,rfl⟩:=List.mem_map.1 hlm
   simpa using h.room l2 h2
 · obtain ⟨l2,h2,rfl⟩:=List.mem_map.1 hlm
   obtain ⟨q,hq,rfl⟩:=List.mem_map.1 hp;exact trimR_ok (h.it l2 h2 q hq) cut
theorem flat_len:∀(l:List (List Itm)),(∀x∈l,x.length≤256)→l.flatten.length≤256 * l.length
  | [],_=>Nat.le_refl _
  | a::l,h=>by
    have h1:=h a (List.mem_cons_self ..);have h2:=flat_len l (fun x hx=>h x (List.mem_cons_of_mem _ hx));simp only [List.flatten_cons,List.length_append,List.length_cons]
    omega
theorem allW_len {c:Cfg} {rs rh n:Nat} {w:Wd} (h:WdOk c rs rh n w) (hst:c.st≤64):(allW w).length≤16384:=by
 have h1:=flat_len w.st h.room;have h2:=h.len;unfold allW;omega
theorem allW_it {c:Cfg} {rs rh n:Nat} {w:Wd} (h:WdOk c rs rh n w):∀p∈allW w,ItOk rs rh n p:=fun p hp=>by
 obtain ⟨l,hl,hp2⟩:=List.mem_flatten.1 hp;exact h.it l hl p hp2
theorem snapW_ok {c:Cfg} {rs rh n:Nat} {w:Wd} (h:WdOk c rs rh n w) (hst:c.st≤64):WdOk c rs rh (n+1) (snapW w).1:=by
 have hm:=h.mono (Nat.le_succ n);have hep:=h.ep;unfold snapW
 split
 · exact hm
 · refine ⟨hm.len,hm.room,hm.it,?_,fun q hq=>?_,fun q hq=>?_,?_⟩
   · show (w.cuts++[_]).length≤n+1
     have:=h.cuts
     simp;omega
   · rcases List.mem_append.1 hq with h9|h9
     · exact hm.cit q h9
     · rw [List.mem_singleton.1 h9]
       exact ⟨by have:=allW_len h hst;show (allW w).length≤20000;omega,fun p hp=>(allW_it h p hp).mono (Nat.le_succ n)⟩
   · rcases List.mem_append.1 hq with h9|h9
     · exact hm.cep q h9
     · rw [List.mem_singleton.1 h9]
       show 0≤w.ep+1∧w.ep+1≤((n+1:Nat):Int)
       omega
   · show 0≤w.ep+1∧w.ep+1≤((n+1:Nat):Int)
     omega
theorem freeW_ok {c:Cfg} {rs rh n:Nat} {w:Wd} {k:Int} (h:WdOk c rs rh n w):WdOk c rs rh (n+1) (freeW w k).1:=by
 have hm:=h.mono (Nat.le_succ n);unfold freeW
 split
 · exact hm
 · refine ⟨hm.len,hm.room,hm.it,?_,fun q hq=>?_,fun q hq=>?_,hm.ep⟩
   · show (w.cuts.set _ _).length≤n+1
     have:=h.cuts
     simp;omega
   · rcases List.mem_or_eq_of_mem_set hq with h9|h9
     · exact hm.cit q h9
     · rw [h9];exact ⟨Nat.zero_le _,(fun p hp=>by cases hp)⟩
   · rcases List.mem_or_eq_of_mem_set hq with h9|h9
     · exact hm.cep q h9
     · rw [h9];show (0:Int)≤0∧(0:Int)≤((n+1:Nat):Int);omega
theorem doW_ok {c:Cfg} {rs rh n:Nat} {w:Wd} {x:CallD} (h:WdOk c rs rh n w) (hst:c.st≤64) (hlo:c.lo≤256) (h1:1≤rh) (hx:x.ok):WdOk c rs rh (n+1) (doW c rs rh w x).1:=by
 have hm:=h.mono (Nat.le_succ n);obtain ⟨x1,x2,x3,x4,x5,x6⟩:=hx;unfold doW
 split
 · exact hm
 · split
   · exact oneW_ok h hlo ⟨⟨x3,x4⟩,pol0_ok⟩ h1
   · split
     · exact trimW_ok h
     · split
       · exact snapW_ok h hst
       · split
         · exact freeW_ok h
         · split
           · exact hm
           · split
             · exact oneW_ok h hlo ⟨⟨i64_0,i64_0⟩,x6⟩ h1
             · split
               · exact hm
               · split
                 · exact hm
                 · exact ⟨hm.len,hm.room,hm.it,hm.cuts,hm.cit,hm.cep,hm.ep⟩
theorem noteW_ok {c:Cfg} {rs rh n:Nat} {w:Wd} {id:ByteArray} {a:Adv} (h:WdOk c rs rh n w) (hlo:c.lo≤256) (h1:1≤rh):WdOk c rs rh (n+1) (noteW c rs rh w id a).1:=by
 unfold noteW
 split
 · exact h.mono (Nat.le_succ n)
 · exact oneW_ok h hlo ⟨⟨i64_0,i64_0⟩,pol0_ok⟩ h1
end
section
open Go.RowKit Go.Lib Go.Shelf
attribute [local go_sem] Oper.semAt_some
end
section
open Go.RowKit Go.Lib
open Go.Maps (Keyed)
open Go.ChangeMaps
structure EntsOf {α β:Type} (K:α→Value) (V:β→Value) (ents:Array MapEntry) (clock:Nat) (es:List (α × β)):Prop where
 kv:ents.toList.map (fun e=>(e.key,e.val))=es.map (fun p=>(K p.1,V p.2))
 born:(ents.toList.map (·.born)).Nodup
 old:∀e∈ents.toList,e.born<clock
 keys:(es.map (·.1)).Nodup
def RangeIn {α β:Type} (K:α→Value) (V:β→Value) (w:World) (b r:Nat) (es pre:List (α × β)) (cnt:Nat):Prop :=
 ∃ (ents:Array MapEntry) (clock since:Nat) (seen:Array Nat) (c0:Nat) (ps:List MapEntry),w.heap[b]?=some (.map ents clock)∧EntsOf K V ents clock es∧w.heap[r]?=some (.mapIter (some b) since seen c0)∧(∀e∈ents.toList,e.born<since)∧since≤c0∧since≤clock ∧
   ps.map (fun e=>(e.key,e.val))=pre.map (fun p=>(K p.1,V p.2))∧seen.toList=ps.map (·.born)∧(∀e∈ps,e∈ents.toList)∧(∀p∈pre,p∈es)∧(pre.map (·.1)).Nodup∧(leftOf ents seen).size=cnt∧pre.length+cnt≤es.length
section
variable {α β:Type} [DecidableEq α] {K:α→Value} {V:β→Value} {P:Program} {k t e:TypeId} {w:World} {b r:Nat} {es pre:List (α × β)} {cnt:Nat}
theorem RangeIn.map_ (h:RangeIn K V w b r es pre cnt):MapIn K V w b es:=by
 obtain ⟨ents,clock,_,_,_,_,hb,hE,_⟩:=h;exact ⟨ents,clock,hb,hE.kv,hE.born,hE.old,hE.keys⟩
theorem RangeIn.lt (h:RangeIn K V w b r es pre cnt):r<w.heap.size:=by
 obtain ⟨_,_,_,_,_,_,_,_,hr,_⟩:=h;exact (jL hr)
theorem RangeIn.ne (h:RangeIn K V w b r es pre cnt):r≠b:=by
 obtain ⟨_,_,_,_,_,_,hb,_,hr,_⟩:=h;intro e;rw [e,hb] at hr
 cases hr
theorem RangeIn.left_eq (h:RangeIn K V w b r es pre cnt):w.rangeLeft b r=cnt:=by
 obtain ⟨_,_,_,_,_,_,hb,_,hr,_,_,_,_,_,_,_,_,hc,_⟩:=h;simp only [World.rangeLeft,hb,hr]
 exact hc
theorem RangeIn.kept {w':World} (h:RangeIn K V w b r es pre cnt) (h1:w'.heap[b]?=w.heap[b]?) (h2:w'.heap[r]?=w.heap[r]?):RangeIn K V w' b r es pre cnt:=by
 obtain ⟨ents,clock,since,seen,c0,ps,hb,hE,hr,rest⟩:=h;exact ⟨ents,clock,since,seen,c0,ps,h1.trans hb,hE,h2.trans hr,rest⟩
theorem MapIn.range (h:MapIn K V w b es) (ht:P.underlying t=some (.map k e)) :
 ∃w',(Instr.range t (.map (some b))).run P w=.ok (.pointer (some ⟨w.heap.size,0,none⟩)) w'∧RangeIn K V w' b w.heap.size es [] es.length∧w.grownBy w' none∧w'.heap.size=w.heap.size+1:=by
 have hlt:=h.lt;obtain ⟨ents,clock,hb,h1,h2,h3,h4⟩:=h;have hs:ents.size=es.length:=by simpa using congrArg List.length h1
 exact ⟨_,run_range_map w t k e b ents clock ht hb,⟨ents,clock,clock,#[],clock,[],((MapKept.heap_alloc w _).2 b hlt).trans hb,⟨h1,h2,h3,h4⟩,(MapKept.heap_alloc w _).1,h3,Nat.le_refl _,Nat.le_refl _,rfl,rfl,fun _ h=>by simp at h,fun _ h=>by simp at h,List.nodup_nil,by rw [←hs];simp [leftOf],by simp⟩,World.grownBy_alloc w _ none,by simp⟩
theorem RangeIn.next (h:RangeIn K V w b r es pre cnt) (inj:∀x y,K x=K y→x=y) (ty:TypeId) :
 (cnt=0∧(pre.map (·.1)).Perm (es.map (·.1))∧(Instr.next (.pointer (some ⟨r,0,none⟩)) false ty).run P w=.ok (.tuple #[.bool false]) w) ∨
 ∃ p w' cnt',p∈es∧p.1∉pre.map (·.1)∧(Instr.next (.pointer (some ⟨r,0,none⟩)) false ty).run P w=.ok (.tuple #[.bool true,K p.1,V p.2]) w' ∧
   RangeIn K V w' b r es (pre++[p]) cnt'∧cnt'<cnt∧w.grownBy w' (some r)∧w'.heap.size=w.heap.size∧(Instr.entry (.pointer (some ⟨r,0,none⟩))).run P w'=.ok (.tuple #[K p.1,V p.2]) w':=by
 have hne:=h.ne;obtain ⟨ents,clock,since,seen,c0,ps,hb,hE,hr,hold,hsc,hsk,hps,hseen,hsub,hpre,hnd,rfl,hcnt⟩:=h
 rcases run_next_at (P:=P) w ty r b since c0 seen ents clock hr hb hold hsc with ⟨h0,hrun⟩|⟨e,he,w1,hal,hrun⟩
 · refine Or.inl ⟨h0,?_,hrun⟩
   refine (List.perm_ext_iff_of_nodup hnd hE.keys).2 (fun x=>⟨fun hx=>?_,fun hx=>?_⟩)
   · obtain ⟨p,hp,rfl⟩:=List.mem_map.1 hx
     exact List.mem_map.2 ⟨p,hpre p hp,rfl⟩
   · obtain ⟨p,hp,rfl⟩:=List.mem_map.1 hx
     obtain ⟨j,hj⟩:=List.getElem?_of_mem hp;have:=congrArg (·[j]?) hE.kv;simp only [List.getElem?_map,hj,Option.map_some] at this
     cases hej:ents.toList[j]? with
     | none=>rw [hej] at this;cases this
     | some e0 =>
       rw [hej] at this;simp only [Option.map_some,Option.some.injEq,Prod.mk.injEq] at this
       have hs:=all_seen ents seen h0 e0 (List.mem_of_getElem? hej);have hs':e0.born∈ps.map (·.born):=by rw [←hseen];simpa using hs
       obtain ⟨e1,he1,hborn⟩:=List.mem_map.1 hs';obtain rfl:=born_inj hE.born (hsub e1 he1) (List.mem_of_getElem? hej) hborn;obtain ⟨q,hq,hk,hv⟩:=ents_mem hps he1;exact List.mem_map.2 ⟨q,hq,inj _ _ (hk.symm.trans this.1)⟩
 · obtain ⟨hem,hes⟩:=mem_left he
   obtain ⟨j,hj⟩:=List.getElem?_of_mem hem;obtain ⟨p,hp,hk,hv⟩:=ents_at hE.kv hj;have hpm:=List.mem_of_getElem? hp;have hnew:p.1∉pre.map (·.1):=by
    intro hx;obtain ⟨q,hq,hqp⟩:=List.mem_map.1 hx;obtain ⟨i,hi⟩:=List.getElem?_of_mem hq;have:=congrArg (·[i]?) hps;simp only [List.getElem?_map,hi,Option.map_some] at this
    cases hei:ps[i]? with
    | none=>rw [hei] at this;cases this
    | some e0 =>
      rw [hei] at this;simp only [Option.map_some,Option.some.injEq,Prod.mk.injEq] at this
      have he0:=List.mem_of_getElem? hei;obtain ⟨m,hm⟩:=List.getElem?_of_mem (hsub e0 he0);obtain ⟨q',hq',hk',hv'⟩:=ents_at hE.kv hm;have h1:q'.1=p.1:=(inj _ _ (hk'.symm.trans this.1)).trans hqp;have hm1:(es.map (·.1))[m]?=some p.1:=by simp [hq',h1]
      have hj1:(es.map (·.1))[j]?=some p.1:=by simp [hp]
      obtain rfl:=nodup_inj hE.keys hm1 hj1;rw [hj] at hm;injection hm with hm
      subst hm;have:e.born∈seen.toList:=by rw [hseen];exact List.mem_map.2 ⟨e,he0,rfl⟩
      have:seen.contains e.born=true:=by simpa using this
      rw [this] at hes
      cases hes
   have hr1:w1.heap[r]?=some (.mapIter (some b) since seen c0):=by rcases hal with rfl|rfl <;> exact hr
   have hb1:w1.heap[b]?=some (.map ents clock):=by rcases hal with rfl|rfl <;> exact hb
   have hset:=Go.MapKept.heap_set (o':=.mapIter (some b) since (seen.push e.born) clock) hr1;have hb':(setBlock w1 r (.mapIter (some b) since (seen.push e.born) clock)).heap[b]?=some (.map ents clock):=(hset.2 b (fun e1=>hne e1.symm)).trans hb1;have hsh:=left_shrinks ents seen e he
   refine Or.inr ⟨p,_,_,hpm,hnew,by rw [←hk,←hv];exact hrun,
     ⟨ents,clock,since,seen.push e.born,clock,ps++[e],hb',hE,hset.1,hold,hsk,hsk,by rw [List.map_append,List.map_append,hps];simp [hk,hv],by rw [Array.toList_push,hseen];simp,fun x hx=>?_,fun q hq=>?_,?_,rfl,?_⟩,hsh,?_,?_,?_⟩
   · rcases List.mem_append.1 hx with h|h
     · exact hsub x h
     · rw [List.mem_singleton.1 h];exact hem
   · rcases List.mem_append.1 hq with h|h
     · exact hpre q h
     · rw [List.mem_singleton.1 h];exact hpm
   · rw [List.map_append,List.nodup_append]
     refine ⟨hnd,by simp,fun a ha c hc=>?_⟩;simp only [List.map_cons,List.map_nil,List.mem_singleton] at hc
     subst hc;exact fun e1=>hnew (e1 ▸ ha)
   · rw [List.length_append,List.length_singleton];omega
   · rcases hal with rfl|rfl <;> exact ⟨rfl,rfl,rfl,by simp [setBlock],fun i _ hi=>hset.2 i (fun e1=>hi (by rw [e1]))⟩
   · rcases hal with rfl|rfl <;> simp [setBlock]
   · rw [←hk,←hv]
     exact run_entry_at _ r b since seen ents clock e hset.1 hb' hem hE.born
end
end
section
open Go.RowKit Go.Lib Go.Sort
open Go.ChangeMaps (setBlock)
section
variable {α β:Type} [DecidableEq α]
theorem mem_putM {es:List (α × β)} {x:α} {v:β} {p:α × β} (h:p∈putM es x v):p=(x,v)∨(p∈es∧p.1≠x):=by
 unfold putM at h
 split at h
 · obtain ⟨q,hq,e⟩:=List.mem_map.1 h
   split at e
   · exact .inl e.symm
   · rename_i hn
     subst e;exact .inr ⟨hq,hn⟩
 · rename_i hn
   rcases List.mem_append.1 h with h|h
   · refine .inr ⟨h,fun e=>hn ?_⟩
     rw [hasM_iff];exact List.mem_map.2 ⟨p,h,e⟩
   · exact .inl (List.mem_singleton.1 h)
theorem find_mem {es:List (α × β)} {x:α} {v:β} (h:findM es x=some v):(x,v)∈es:=by
 unfold findM at h;obtain ⟨q,hq,rfl⟩:=Option.map_eq_some_iff.1 h;have h1:=List.find?_some hq;simp at h1
 rw [←h1];exact List.mem_of_find?_eq_some hq
theorem find_putM (es:List (α × β)) (x y:α) (v:β):findM (putM es x v) y=if y=x then some v else findM es y:=by
 unfold putM
 split
 · rename_i hh
   induction es with
   | nil=>simp [hasM] at hh
   | cons p es ih =>
     unfold findM;simp only [List.map_cons,List.find?_cons]
     by_cases hp:p.1=x
     · rw [if_pos hp]
       by_cases hy:y=x
       · subst hy
         simp
       · rw [if_neg hy]
         have e1:decide (x=y)=false:=by simpa using fun e=>hy e.symm
         have e2:decide (p.1=y)=false:=by rw [hp];exact e1
         simp only [e1,e2]
         by_cases hq:hasM es x=true
         · have:=ih hq
           unfold findM at this;rw [if_neg hy] at this;exact this
         · have:es.map (fun p=>if p.1=x then (x,v) else p)=es:=by
            conv=>rhs;rw [←List.map_id es]
            refine List.map_congr_left fun q hq'=>?_
            rw [if_neg]
            · rfl
            · intro e
              exact hq ((hasM_iff es x).2 (List.mem_map.2 ⟨q,hq',e⟩))
           rw [this]
     · rw [if_neg hp]
       have hq:hasM es x=true:=by simpa [hasM,hp] using hh
       have:=ih hq;unfold findM at this
       by_cases hpy:p.1=y
       · have hy:¬y=x:=fun e=>hp (hpy.trans e)
         rw [if_neg hy];simp [hpy]
       · have e2:decide (p.1=y)=false:=by simpa using hpy
         simp only [e2]
         exact this
 · rename_i hh
   unfold findM;rw [List.find?_append]
   by_cases hy:y=x
   · subst hy
     rw [if_pos rfl];have:List.find? (fun p=>decide (p.1=y)) es=none:=by
      rw [List.find?_eq_none];intro p hp hpy;exact hh ((hasM_iff es y).2 (List.mem_map.2 ⟨p,hp,by simpa using hpy⟩))
     rw [this];simp
   · rw [if_neg hy]
     have e1:decide (x=y)=false:=by simpa using fun e=>hy e.symm
     simp [e1]
end
end
section
open Go.RowKit Go.Lib Go.Sort
def sameN (x y:Nd):Prop:=x.smp=y.smp∧x.past=y.past∧x.pol=y.pol∧x.ruled=y.ruled
theorem sameN.refl (x:Nd):sameN x x:=⟨rfl,rfl,rfl,rfl⟩
def keysI (l:List It):List Ky:=l.map (·.key)
theorem sorted_at_unique {R:List (Ky × Nd)} (hs:(R.map (·.1)).Pairwise (fun a b=>ltK a b=true)) {q:Ky} {y z:Nd} (hy:(q,y)∈R) (hz:(q,z)∈R):y=z:=by
 induction R with
 | nil=>cases hy
 | cons a R ih =>
   rw [List.map_cons,List.pairwise_cons] at hs
   rcases List.mem_cons.1 hy with hy|hy
   · rcases List.mem_cons.1 hz with hz|hz
     · rw [←hy] at hz;injection hz with _ hz;exact hz.symm
     · have:=hs.1 q (List.mem_map.2 ⟨_,hz,rfl⟩)
       rw [←hy] at this;exact absurd this (by rw [ltK_irrefl q];simp)
   · rcases List.mem_cons.1 hz with hz|hz
     · have:=hs.1 q (List.mem_map.2 ⟨_,hy,rfl⟩)
       rw [←hz] at this;exact absurd this (by rw [ltK_irrefl q];simp)
     · exact ih hs.2 hy hz
theorem key_at {l:List It} {i:Nat} (h:i<l.length):(keysI l)[i]?=some l[i].key:=by simp [keysI,h]
theorem sorted_get {l:List It} (hs:(keysI l).Pairwise (fun a b=>ltK a b=true)) {i j:Nat} (hj:j<l.length) (hij:i<j):ltK (l[i]'(by omega)).key l[j].key=true:=by
 have:=(List.pairwise_iff_getElem.1 hs) i j (by simp [keysI];omega) (by simp [keysI];omega) hij
 simpa [keysI] using this
theorem hasI_iff {l:List It} (hs:(keysI l).Pairwise (fun a b=>ltK a b=true)) (k:Ky):hasI l k=true ↔ k∈keysI l:=by
 constructor
 · intro h
   unfold hasI at h
   split at h
   · rename_i hl
     rw [←of_decide_eq_true h];exact List.mem_map.2 ⟨_,List.getElem_mem hl,rfl⟩
   · cases h
 · intro h
   obtain ⟨x,hx,hk⟩:=List.mem_map.1 h;obtain ⟨i,hi,rfl⟩:=List.getElem_of_mem hx;have h1:atI l k≤i:=by
    rcases Nat.lt_or_ge i (atI l k) with h'|h'
    · have:=atI_lt hi h'
      rw [hk,ltK_irrefl] at this
      cases this
    · exact h'
   have h2:atI l k=i:=by
    rcases Nat.lt_or_ge (atI l k) i with h'|h'
    · have h3:=sorted_get hs hi h'
      rw [hk] at h3;rw [atI_ge (by omega)] at h3
      cases h3
    · omega
   unfold hasI;rw [dif_pos (by omega)];simp only [h2,hk,decide_true]
theorem above_at {l:List It} (hs:(keysI l).Pairwise (fun a b=>ltK a b=true)) {k:Ky} {j:Nat} (hj:j<l.length) (h:(if hasI l k=true then atI l k+1 else atI l k)≤j):ltK k l[j].key=true:=by
 cases hh:hasI l k with
 | true =>
   rw [hh,if_pos rfl] at h;have h1:∃hl:atI l k<l.length,l[atI l k].key=k:=by
    unfold hasI at hh
    split at hh
    · rename_i hl
      exact ⟨hl,of_decide_eq_true hh⟩
    · cases hh
   obtain ⟨hl,hk⟩:=h1;have:=sorted_get hs hj (show atI l k<j by omega);rw [hk] at this;exact this
 | false =>
   rw [hh,if_neg (by simp)] at h;have hne:l[j].key≠k:=fun e=>by
    have:=(hasI_iff hs k).2 (List.mem_map.2 ⟨_,List.getElem_mem hj,e⟩);rw [hh] at this
    cases this
   have hn:ltK l[j].key k=false:=by
    have h0:=atI_ge (l:=l) (k:=k) (by omega)
    cases hx:ltK l[j].key k with
    | false=>rfl
    | true =>
      rcases Nat.lt_or_ge (atI l k) j with h'|h'
      · rw [ltK_trans (sorted_get hs hj h') hx] at h0
        cases h0
      · have:atI l k=j:=by omega
        simp only [this] at h0
        rw [h0] at hx
        cases hx
   cases hx:ltK k l[j].key with
   | true=>rfl
   | false=>exact absurd (ltK_total hn hx) hne
theorem mem_outI {l:List It} (hs:(keysI l).Pairwise (fun a b=>ltK a b=true)) (k:Ky) (y:Nd) (q:Ky) (z:Nd):(q,z)∈outI l k y ↔ (q=k∧z=y)∨((q,z)∈l.map absI∧q≠k):=by
 unfold outI;rw [List.mem_append,List.mem_append,List.mem_singleton]
 constructor
 · rintro ((h|h)|h)
   · obtain ⟨i,hi⟩:=List.getElem?_of_mem h
     rw [List.getElem?_take] at hi
     split at hi
     · rename_i hlt
       obtain ⟨hil,he⟩:=List.getElem?_eq_some_iff.1 hi;simp only [List.length_map] at hil
       simp only [List.getElem_map,absI,Prod.mk.injEq] at he
       refine .inr ⟨List.mem_of_mem_take h,fun e=>?_⟩;have:=atI_lt hil hlt;rw [he.1,e,ltK_irrefl] at this
       cases this
     · cases hi
   · injection h with h1 h2
     exact .inl ⟨h1,h2⟩
   · obtain ⟨i,hi⟩:=List.getElem?_of_mem h
     rw [List.getElem?_drop] at hi;obtain ⟨hil,he⟩:=List.getElem?_eq_some_iff.1 hi;simp only [List.length_map] at hil
     simp only [List.getElem_map,absI,Prod.mk.injEq] at he
     refine .inr ⟨List.mem_of_mem_drop h,fun e=>?_⟩;have:=above_at hs hil (Nat.le_add_right _ i);rw [he.1,e,ltK_irrefl] at this
     cases this
 · rintro (⟨rfl,rfl⟩|⟨h,hq⟩)
   · exact .inl (.inr rfl)
   · obtain ⟨x,hx,he⟩:=List.mem_map.1 h
     obtain ⟨i,hi,rfl⟩:=List.getElem_of_mem hx;simp only [absI,Prod.mk.injEq] at he
     by_cases h1:i<atI l k
     · refine .inl (.inl ?_)
       refine List.mem_of_getElem? (i:=i) ?_;rw [List.getElem?_take,if_pos h1];simp [hi,absI,he]
     · by_cases h2:(if hasI l k=true then atI l k+1 else atI l k)≤i
       · refine .inr ?_
         refine List.mem_of_getElem? (i:=i - (if hasI l k=true then atI l k+1 else atI l k)) ?_;rw [List.getElem?_drop,Nat.add_sub_cancel' h2];simp [hi,absI,he]
       · exfalso
         split at h2
         · rename_i hh
           have h3:i=atI l k:=by omega
           subst h3;obtain ⟨hl,hg⟩:=getL_has hh;unfold hasI at hh;rw [dif_pos hl] at hh;exact hq (he.1.symm.trans (of_decide_eq_true hh))
         · omega
theorem outI_sorted {l:List It} (hs:(keysI l).Pairwise (fun a b=>ltK a b=true)) (k:Ky) (y:Nd):((outI l k y).map (·.1)).Pairwise (fun a b=>ltK a b=true):=by
 unfold outI;simp only [List.map_append,List.map_cons,List.map_nil,List.map_take,List.map_drop,List.map_map]
 have e:(Prod.fst ∘ absI:It→Ky)=(·.key):=rfl;rw [show List.map ((fun x:Ky × Nd=>x.1) ∘ absI) l=keysI l from rfl];have hlow:∀q∈(keysI l).take (atI l k),ltK q k=true:=fun q hq=>by
  obtain ⟨i,hi⟩:=List.getElem?_of_mem hq;rw [List.getElem?_take] at hi
  split at hi
  · rename_i hlt
    have hil:i<l.length:=by have:=(List.getElem?_eq_some_iff.1 hi).1;simpa [keysI] using this
    rw [key_at hil] at hi;injection hi with hi
    rw [←hi];exact atI_lt hil hlt
  · cases hi
 have hhigh:∀q∈(keysI l).drop (if hasI l k=true then atI l k+1 else atI l k),ltK k q=true:=fun q hq=>by
  obtain ⟨i,hi⟩:=List.getElem?_of_mem hq;rw [List.getElem?_drop] at hi;have hil:(if hasI l k=true then atI l k+1 else atI l k)+i<l.length:=by have:=(List.getElem?_eq_some_iff.1 hi).1;simpa [keysI] using this
  rw [key_at hil] at hi;injection hi with hi
  rw [←hi];exact above_at hs hil (Nat.le_add_right _ i)
 rw [List.pairwise_append,List.pairwise_append];refine ⟨⟨hs.sublist (List.take_sublist _ _),List.pairwise_singleton _ _,fun a ha b hb=>?_⟩,hs.sublist (List.drop_sublist _ _),fun a ha b hb=>?_⟩
 · rw [List.mem_singleton.1 hb];exact hlow a ha
 · rcases List.mem_append.1 ha with ha|ha
   · exact ltK_trans (hlow a ha) (hhigh b hb)
   · rw [List.mem_singleton.1 ha];exact hhigh b hb
end
section
open Go.RowKit Go.Lib Go.Sort
open Go.ChangeMaps (setBlock)
theorem Upd.thenB {w a b:World} {fp fq:List Nat} (h:Upd w a fp fq) (hb:Below w.heap.size a b):Upd w b fp fq :=
 ⟨hb.os.trans h.os,hb.tape.trans h.tape,hb.output.trans h.output,Nat.le_trans h.size hb.size,fun k hk hn=>(hb.block k hk).trans (h.block k hk hn),h.fresh⟩
end
section
open Go.RowKit Go.Lib Go.Sort
theorem sameN.ok {rs rh:Nat} {x y:Nd} (h:sameN x y) (hx:NdOk rs rh x):NdOk rs rh y:=⟨by rw [←h.1];exact hx.ris,by rw [←h.1];exact hx.len,by rw [←h.2.1];exact hx.past⟩
end
section
open Go.RowKit Go.Lib Go.Sort
structure CfgOk (c:Cfg) (rs rh:Nat):Prop where
 cfg:cfgB c=true
 sa:c.sa=(rs:Nat)
 hi:c.hi=(rh:Nat)
 ok:c.ok
theorem CfgOk.room {c:Cfg} {rs rh:Nat} (h:CfgOk c rs rh):RoomOk c rs rh:=by
 have hc:=h.cfg;have h1:=h.sa;have h2:=h.hi;unfold cfgB at hc;simp only [Bool.and_eq_true,decide_eq_true_eq] at hc
 exact ⟨h1,h2,by omega,by omega,by omega,by omega⟩
end
section
open Go.RowKit Go.Lib Go.Sort
deriving instance DecidableEq for Pol
end
section
open Go.RowKit Go.Lib Go.Sort
theorem RowG.lt {α:Type} {P:Nat→Prop} {n:Nat} {f:α→List Value} {w:World} {v:Value} {l:List α} (h:RowG P n f w v l):RowG (fun b=>P b∧b<w.heap.size) n f w v l:=by
 refine ⟨h.1,fun b o m c e hn=>⟨h.2 b o m c e hn,?_⟩⟩;obtain ⟨A,c2,rfl,hl,hx⟩:=h.1;obtain ⟨b2,o2,rfl,hb,-⟩:=hx hn;simp only [Value.slice.injEq,Option.some.injEq,Addr.mk.injEq,and_true] at e
 rw [←e.1.1];exact hb
theorem ItemsIn.lt {P:Nat→Prop} {w:World} {v:Value} {l:List It} (h:ItemsIn P w v l):ItemsIn (fun b=>P b∧b<w.heap.size) w v l :=
 ⟨h.1.lt,fun x hx=>⟨(h.2 x hx).1.lt,(h.2 x hx).2.lt⟩⟩
end
section
open Go.RowKit Go.Lib Go.Sort
def mkIt (p:Itm):It:=⟨p.1,none,0,none,0,p.2⟩
theorem mkIt_abs (R:List Itm):(R.map mkIt).map absI=R:=by
 rw [List.map_map];exact (List.map_congr_left (fun p _=>rfl)).trans (List.map_id R)
structure St where
 T:Nat
 M:Nat
 ver:Nat
 es:List (KO × NE)
abbrev HN:={ n:Nat // n≤1000000 }
def hdl (i:Nat):HN:=⟨min i 1000000,Nat.min_le_right ..⟩
structure StoD where
 A:Nat
 cp:Nat
 H:Nat
 L:Nat
 sts:List St
 live:List (HN × Nat)
def HomeOk (c:Cfg) (wd:Wd):Prop:=∀(i:Nat) R,wd.st[i]?=some R→∀p∈R,routeI p.1.1 p.1.2 c.st=(i:Int)
end
section
open Go.RowKit Go.Lib
theorem foldN_pow (h b:Nat) (h1:1≤2 ^ b):foldN h b<2 ^ b:=by
 unfold foldN
 split
 · exact h1
 · exact Nat.mod_lt _ h1
theorem route_lt {hi lo:Nat} {n:Int} (hn:okSt n=true):0≤routeI hi lo n∧routeI hi lo n<n:=by
 unfold routeI;rw [if_pos hn];obtain ⟨j,hj,rfl⟩:∃j,j<7∧n=((2 ^ j:Nat):Int):=by
  rcases (okSt_iff n).1 hn with h|h|h|h|h|h|h
  · exact ⟨0,by omega,h⟩
  · exact ⟨1,by omega,h⟩
  · exact ⟨2,by omega,h⟩
  · exact ⟨3,by omega,h⟩
  · exact ⟨4,by omega,h⟩
  · exact ⟨5,by omega,h⟩
  · exact ⟨6,by omega,h⟩
 rw [bitsI_pow j hj];have:=foldN_pow (fnvKey hi lo) j (Nat.two_pow_pos j);simp only [Int.toNat_natCast]
 omega
end
section
open Go.RowKit Go.Lib
abbrev SK:={ s:ByteArray // s.size≤maxLen }
def skV (x:SK):Value:=.string x.1
theorem keysSk:KeysBy Tryz.prog 9 skV where
 law:=Go.Maps.string_keyed Tryz.underlying9
 key x:=⟨_,Go.WideMaps.keyOf_string_mk Tryz.underlying9 x.2⟩
 inj x y h:=by
  simp only [skV,Value.string.injEq] at h
  exact Subtype.ext h
def ldC (x:It):List Value:=[.slice x.sA x.nd.smp.length x.sc,.slice x.pA x.nd.past.length x.pc,.int .i64 x.nd.pol.mn,.int .i64 x.nd.pol.mx,.int .i64 x.nd.pol.tg,.int .i64 x.nd.pol.tol,.int .i64 x.nd.pol.win,.int .i64 x.nd.pol.hold,.bool x.nd.ruled]
def ldV (x:It):Value:=.agg (ldC x).toArray
def FlHas (es:List (SK × It)) (R:List Itm):Prop:=(∀p∈es,idS p.1.1=true)∧∀s:SK,idS s.1=true→match findM es s with
 | none=>findIt R (keyK s.1)=none
 | some x=>∃y,findIt R (keyK s.1)=some y∧sameN x.nd y
abbrev SrtR (R:List Itm):Prop:=(R.map (·.1)).Pairwise (fun a b=>ltK a b=true)
structure FlTells (c:Cfg) (es:List (SK × It)) (wd:Wd):Prop where
 has:FlHas es (allW wd)
 keys:∀p∈allW wd,∃s:SK,idS s.1=true∧keyK s.1=p.1
 cnt:∀(i:Nat) R,wd.st[i]?=some R→R.length=(es.map (·.1)).countP fun s=>decide (routeI (keyK s.1).1 (keyK s.1).2 c.st=(i:Int))
 srt:∀R∈wd.st,SrtR R
 home:HomeOk c wd
 lst:(wd.st.length:Int)=c.st
 nod:(es.map (·.1)).Nodup
structure FCut where
 ep:Int
 m:Option Nat
 es:List (SK × It)
 fr:Bool
def fcC (x:FCut):List Value:=[.int .i64 x.ep,.map x.m,.bool x.fr]
structure FlatD where
 L:Nat
 es:List (SK × It)
 A:Option Addr
 cp:Nat
 cuts:List FCut
structure FlMem (P:Nat→Prop) (w:World) (M:Nat) (c:Cfg) (wd:Wd) (d:FlatD):Prop where
 cell:w.heap[M]?=some (.cells #[.int .i64 c.st,.int .i64 c.sa,.int .i64 c.lo,.int .i64 c.hi,.map (some d.L),.slice d.A d.cuts.length d.cp,.int .i64 wd.ep,.bool wd.over] 120 (0,0))
 map:MapIn skV ldV w d.L d.es
 ne:M≠d.L
 off:∀b,P b→b≠M∧b≠d.L
 rows:∀p∈d.es,LoadIn P w p.2
 len:d.cuts.length=wd.cuts.length
 row:RowG P 3 fcC w (.slice d.A d.cuts.length d.cp) d.cuts
 cut:∀(i:Nat) x q,d.cuts[i]?=some x→wd.cuts[i]?=some q→x.fr=q.freed∧(q.freed=false→x.ep=q.ep∧∃l,x.m=some l∧P l∧MapIn skV ldV w l x.es∧(∀p∈x.es,LoadIn P w p.2)∧FlHas x.es q.items)
structure FlatAt (P:Nat→Prop) (w:World) (M:Nat) (c:Cfg) (rs rh n:Nat) (wd:Wd) (d:FlatD):Prop extends FlMem P w M c wd d where
 tells:FlTells c d.es wd
theorem FlMem.lt {P:Nat→Prop} {w:World} {M:Nat} {c:Cfg} {wd:Wd} {d:FlatD} (h:FlMem P w M c wd d):M<w.heap.size:=(Array.getElem?_eq_some_iff.1 h.cell).1
theorem FlatAt.lt {P:Nat→Prop} {w:World} {M:Nat} {c:Cfg} {rs rh n:Nat} {wd:Wd} {d:FlatD} (h:FlatAt P w M c rs rh n wd d):M<w.heap.size:=h.toFlMem.lt
theorem RowG.ltG {α:Type} {P:Nat→Prop} {n:Nat} {f:α→List Value} {w:World} {v:Value} {l:List α} (h:RowG P n f w v l):RowG (fun b=>P b∧b<w.heap.size) n f w v l:=by
 refine ⟨h.1,fun b o m c e hn=>⟨h.2 b o m c e hn,?_⟩⟩;obtain ⟨A,c2,rfl,hl,hx⟩:=h.1;obtain ⟨b2,o2,rfl,hb,-⟩:=hx hn;simp only [Value.slice.injEq,Option.some.injEq,Addr.mk.injEq] at e
 omega
theorem RowG.keepG {α:Type} {P Q:Nat→Prop} {n:Nat} {f:α→List Value} {w w':World} {v:Value} {l:List α} (h:RowG P n f w v l) (hs:w.heap.size≤w'.heap.size) (hk:∀b,P b→b<w.heap.size→w'.heap[b]?=w.heap[b]?∧Q b):RowG Q n f w' v l :=
 (h.ltG.keepP hs (fun b hb hlt=>(hk b hb.1 hlt).1)).imp (fun b hb=>(hk b hb.1 hb.2).2)
theorem LoadIn.keepG {P Q:Nat→Prop} {w w':World} {x:It} (h:LoadIn P w x) (hs:w.heap.size≤w'.heap.size) (hk:∀b,P b→b<w.heap.size→w'.heap[b]?=w.heap[b]?∧Q b):LoadIn Q w' x:=⟨h.1.keepG hs hk,h.2.keepG hs hk⟩
theorem FlMem.keep {P Q:Nat→Prop} {w w':World} {M:Nat} {c:Cfg} {wd:Wd} {d:FlatD} (h:FlMem P w M c wd d) (hs:w.heap.size≤w'.heap.size) (hM:w'.heap[M]?=w.heap[M]?) (hL:w'.heap[d.L]?=w.heap[d.L]?) (hk:∀b,P b→b<w.heap.size→w'.heap[b]?=w.heap[b]?∧Q b) (ho:∀b,Q b→b≠M∧b≠d.L):FlMem Q w' M c wd d :=
 ⟨hM.trans h.cell,h.map.block hL,h.ne,ho,fun p hp=>(h.rows p hp).keepG hs hk,h.len,h.row.keepG hs hk,fun i x q hx hq=>⟨(h.cut i x q hx hq).1,fun hf=>by
  obtain ⟨h1,l,h2,h3,h4,h5,h6⟩:=(h.cut i x q hx hq).2 hf;have h7:=hk l h3 h4.lt;exact ⟨h1,l,h2,h7.2,h4.block h7.1,fun p hp=>(h5 p hp).keepG hs hk,h6⟩⟩⟩
theorem FlatAt.keep {P Q:Nat→Prop} {w w':World} {M:Nat} {c:Cfg} {rs rh n:Nat} {wd:Wd} {d:FlatD} (h:FlatAt P w M c rs rh n wd d) (hs:w.heap.size≤w'.heap.size) (hM:w'.heap[M]?=w.heap[M]?) (hL:w'.heap[d.L]?=w.heap[d.L]?) (hk:∀b,P b→b<w.heap.size→w'.heap[b]?=w.heap[b]?∧Q b) (ho:∀b,Q b→b≠M∧b≠d.L):FlatAt Q w' M c rs rh n wd d :=
 ⟨h.toFlMem.keep hs hM hL hk ho,h.tells⟩
theorem FlMem.below {P:Nat→Prop} {w w':World} {M:Nat} {c:Cfg} {wd:Wd} {d:FlatD} (h:FlMem P w M c wd d) (hb:jB w w'):FlMem P w' M c wd d :=
 h.keep hb.size (hb.block _ h.lt) (hb.block _ h.map.lt) (fun b hP hlt=>⟨hb.block b hlt,hP⟩) h.off
theorem FlatAt.below {P:Nat→Prop} {w w':World} {M:Nat} {c:Cfg} {rs rh n:Nat} {wd:Wd} {d:FlatD} (h:FlatAt P w M c rs rh n wd d) (hb:jB w w'):FlatAt P w' M c rs rh n wd d :=
 ⟨h.toFlMem.below hb,h.tells⟩
theorem flMade_any {P:Nat→Prop} {M:Nat} {c:Cfg} {rs rh n:Nat} {wd:Wd} {d:FlatD} (w:World) (h:FlatAt P w M c rs rh n wd d) :
 Calls Tryz.prog 66 #[.pointer (some ⟨M,0,none⟩)] w fun e w'=>e=.returned (.bool true)∧w'=w:=by
 obtain ⟨a1,a2,a3⟩:=box_cells jR h.cell;have hq:∀W,(binOp .neq 117 (.map (some d.L)) (.map none)).run Tryz.prog W=.ok (.bool true) W:=fun W=>run_neq_map_nil W _ _ _ (some d.L) Tryz.underlying117
 clear h
 go_enter Tryz.func66,Tryz.ntmps66
 go_wp2_with fail
 go_ret
 exact ⟨rfl,rfl⟩
end
section
open Go
section
variable {P:Program} {ops:Array Oper} {Q:Exit→Act→World→Prop} {md:Region.Mode} {S:World→Prop} {k:Nat}
def wpAnyE (P:Program) (md:Region.Mode) (ops:Array Oper) (Q:Exit→Act→World→Prop) (S:World→Prop) (k:Nat):Nat→Array Bool→Act→World→Prop
  | 0,listed,a,w=>Region.ready md ops listed=[]∧Q .normal a w
  | fuel+1,listed,a,w =>
    (Region.ready md ops listed=[]→Q .normal a w) ∧
    ∀i∈Region.ready md ops listed,wpOp P ops Q i (fun a' w'=>((listed.setIfInBounds i true).getD k true=false→S w')∧wpAnyE P md ops Q S k fuel (listed.setIfInBounds i true) a' w') a w
theorem wpAny_of_E:∀(fuel:Nat) (listed:Array Bool) (a:Act) (w:World),wpAnyE P md ops Q S k fuel listed a w→wpAny P md ops Q fuel listed a w
  | 0,_,_,_,h=>h
  | fuel+1,_,_,_,h=>⟨h.1,fun i hi=>wpOp_mono (fun a' w' h'=>wpAny_of_E fuel _ a' w' h'.2) (h.2 i hi)⟩
def waitersE (md:Region.Mode) (ops:Array Oper) (i:Nat):List Nat :=
 (List.range ops.size).foldl (fun W j=>if (match ops[j]? with|some o=>o.after.any (fun e=>Region.binds md e && (e.on == i || W.contains e.on))|none=>false)=true then j::W else W) []
def waitsE (md:Region.Mode) (ops:Array Oper) (W:List Nat) (i:Nat):Bool:=W.all fun j=>match ops[j]? with|some o=>o.after.any (fun e=>Region.binds md e && (e.on == i || W.contains e.on))|none=>false
theorem wpAnyE_first {i:Nat} {oi:Oper} {v:Value} {W:List Nat} (hi:ops[i]?=some oi) (hik:i≠k) (hsel:∀(j:Nat) (o:Oper) cs b,ops[j]?=some o→o.op≠.select cs b)
    (hQ:∀c a w,Q (.panic c) (a.put oi.dst v) w→Q (.panic c) a w) (hkW:k∈W) (hw:waitsE md ops W i=true) :
    ∀ (fuel:Nat) (listed:Array Bool) (a:Act) (w:World),
      (∀j oj,ops[j]?=some oj→j≠i→listed.getD j true=false→(∀e∈oj.after,Region.binds md e=true→e.on≠i)→oi.apart ops oj=true) →
      i∈Region.ready md ops listed→(∀j∈W,listed.getD j true=false)→YieldsIf P ops S oi v a→S w →
      wpAnyE P md ops Q S k fuel (listed.setIfInBounds i true) (a.put oi.dst v) w→wpAnyE P md ops Q S k (fuel+1) listed a w:=by
  intro fuel
  induction fuel with
  | zero =>
    intro listed a w _ hr _ hy hS H;refine ⟨fun h=>(by rw [h] at hr;cases hr),fun j hj=>?_⟩
    by_cases hji:j=i
    · subst hji;exact hy.wpOp hi hS ⟨fun _=>hS,H⟩
    · have:=ready_mono hj hji
      rw [H.1] at this
      cases this
  | succ fuel ih =>
    intro listed a w hfree hr hWl hy hS H;refine ⟨fun h=>(by rw [h] at hr;cases hr),fun j hj=>?_⟩
    by_cases hji:j=i
    · subst hji;exact hy.wpOp hi hS ⟨fun _=>hS,H⟩
    · have h1:=H.2 j (ready_mono hj hji)
      obtain ⟨hjun,oj,hoj,hall⟩:=mem_ready.1 hj;have hlist:∀e∈oj.after,Region.binds md e=true→listed.getD e.on true=true:=fun e he hb=>by
       have h1:=hall e he hb
       rcases Nat.lt_or_ge e.on listed.size with h'|h'
       · simpa [h'] using h1
       · simp [Array.getElem?_eq_none h'] at h1 ⊢
      have hiun:listed.getD i true=false:=(mem_ready.1 hr).1;have hnot:∀e∈oj.after,Region.binds md e=true→e.on≠i:=fun e he hb heq=>by
       have h1:=hlist e he hb;rw [heq,hiun] at h1
       cases h1
      have hjW:j∉W:=fun hm=>by
       have h2:=List.all_eq_true.1 hw j hm;rw [hoj] at h2;simp only [Array.any_eq_true'] at h2
       obtain ⟨e,he,hb⟩:=h2;simp only [Bool.and_eq_true,Bool.or_eq_true,beq_iff_eq,List.contains_iff_mem] at hb
       have h3:=hlist e he hb.1
       rcases hb.2 with h4|h4
       · exact hnot e he hb.1 h4
       · rw [hWl _ h4] at h3;cases h3
      have hjk:j≠k:=fun e=>hjW (e ▸ hkW)
      have h2:=wpOp_putIf hoj (hfree j oj hoj hji hjun hnot) (fun cs b=>hsel i oi cs b hi) (fun cs b=>hsel j oj cs b hoj) hQ hy h1
      have hfree':∀k ok,ops[k]?=some ok→k≠i→(listed.setIfInBounds j true).getD k true=false →
          (∀e∈ok.after,Region.binds md e=true→e.on≠i)→oi.apart ops ok=true:=fun k ok hk hki hun hno=>by
        refine hfree k ok hk hki ?_ hno
        by_cases hjk:j=k
        · subst hjk;exact hjun
        · rw [getD_set_ne true hjk] at hun;exact hun
      have hWl':∀j'∈W,(listed.setIfInBounds j true).getD j' true=false:=fun j' hj'=>by
       have hne:j≠j':=fun e=>hjW (by rw [e];exact hj')
       rw [getD_set_ne true hne];exact hWl j' hj'
      have hc:((listed.setIfInBounds i true).setIfInBounds j true).getD k true=false:=by
       rw [Array.setIfInBounds_comm _ _ (Ne.symm hji),getD_set_ne true hik];exact hWl' k hkW
      refine wpOp_mono (fun a' w' h3=>⟨fun _=>h3.2.1 hc,ih (listed.setIfInBounds j true) a' w' hfree' (ready_mono hr (Ne.symm hji)) hWl' h3.1 (h3.2.1 hc) ?_⟩) h2;rw [Array.setIfInBounds_comm _ _ hji];exact h3.2.2
theorem wpAnyE_pure {i:Nat} {oi:Oper} {v:Value} (hi:ops[i]?=some oi) (hik:i≠k) (hsel:∀(j:Nat) (o:Oper) cs b,ops[j]?=some o→o.op≠.select cs b)
    (hQ:∀c a w,Q (.panic c) (a.put oi.dst v) w→Q (.panic c) a w) :
    ∀ (fuel:Nat) (listed:Array Bool) (a:Act) (w:World),
      (∀j oj,ops[j]?=some oj→j≠i→listed.getD j true=false→(∀e∈oj.after,Region.binds md e=true→e.on≠i)→oi.apart ops oj=true) →
      i∈Region.ready md ops listed→YieldsIf P ops (fun _=>True) oi v a→(listed.getD k true=false→S w) →
      wpAnyE P md ops Q S k fuel (listed.setIfInBounds i true) (a.put oi.dst v) w→wpAnyE P md ops Q S k (fuel+1) listed a w:=by
  intro fuel
  induction fuel with
  | zero =>
    intro listed a w _ hr hy hS H;refine ⟨fun h=>(by rw [h] at hr;cases hr),fun j hj=>?_⟩
    by_cases hji:j=i
    · subst hji;exact hy.wpOp hi trivial ⟨fun h=>hS (by rwa [getD_set_ne true hik] at h),H⟩
    · have:=ready_mono hj hji
      rw [H.1] at this
      cases this
  | succ fuel ih =>
    intro listed a w hfree hr hy hS H;refine ⟨fun h=>(by rw [h] at hr;cases hr),fun j hj=>?_⟩
    by_cases hji:j=i
    · subst hji;exact hy.wpOp hi trivial ⟨fun h=>hS (by rwa [getD_set_ne true hik] at h),H⟩
    · have h1:=H.2 j (ready_mono hj hji)
      obtain ⟨hjun,oj,hoj,hall⟩:=mem_ready.1 hj;have hnot:∀e∈oj.after,Region.binds md e=true→e.on≠i:=fun e he hb heq=>by
       have h1:=hall e he hb;have h0:=(mem_ready.1 hr).1;rw [heq] at h1
       rcases Nat.lt_or_ge i listed.size with h'|h'
       · simp [h'] at h0 h1;rw [h0] at h1;cases h1
       · simp [Array.getElem?_eq_none h'] at h1
      have h2:=wpOp_putIf hoj (hfree j oj hoj hji hjun hnot) (fun cs b=>hsel i oi cs b hi) (fun cs b=>hsel j oj cs b hoj) hQ hy h1
      have hfree':∀k ok,ops[k]?=some ok→k≠i→(listed.setIfInBounds j true).getD k true=false →
          (∀e∈ok.after,Region.binds md e=true→e.on≠i)→oi.apart ops ok=true:=fun k ok hk hki hun hno=>by
        refine hfree k ok hk hki ?_ hno
        by_cases hjk:j=k
        · subst hjk;exact hjun
        · rw [getD_set_ne true hjk] at hun;exact hun
      have hc:((listed.setIfInBounds i true).setIfInBounds j true).getD k true=(listed.setIfInBounds j true).getD k true:=by
       rw [Array.setIfInBounds_comm _ _ (Ne.symm hji),getD_set_ne true hik]
      refine wpOp_mono (fun a' w' h3=>⟨fun h=>h3.2.1 (hc.trans h),ih (listed.setIfInBounds j true) a' w' hfree' (ready_mono hr (Ne.symm hji)) h3.1 (fun h=>h3.2.1 (hc.trans h)) ?_⟩) h2;rw [Array.setIfInBounds_comm _ _ hji];exact h3.2.2
theorem wpAnyE_takeP {i:Nat} {oi:Oper} {v:Value} {fuel:Nat} {listed:Array Bool} {a:Act} {w:World} (hi:ops[i]?=some oi)
    (hs:Region.noSelect ops=true) (hf:Region.free md ops listed i=true) (hr:(Region.ready md ops listed).contains i=true) (hik:decide (i≠k)=true)
    (hQ:∀c a w,Q (.panic c) (a.put oi.dst v) w→Q (.panic c) a w) (hy:YieldsIf P ops (fun _=>True) oi v a) (hS:S w)
    (h:wpAnyE P md ops Q S k fuel (listed.setIfInBounds i true) (a.put oi.dst v) w):wpAnyE P md ops Q S k (fuel+1) listed a w :=
  wpAnyE_pure hi (of_decide_eq_true hik) (Region.noSelect_spec hs) hQ fuel listed a w (Region.free_spec hi hf) (by simpa using hr) hy (fun _=>hS) h
def takesE (md:Region.Mode) (ops:Array Oper) (listed:Array Bool) (k i:Nat):Bool :=
 decide (i≠k) && (waitersE md ops i).contains k && waitsE md ops (waitersE md ops i) i && (waitersE md ops i).all fun j=>listed.getD j true == false
theorem wpAnyE_take {i:Nat} {oi:Oper} {v:Value} {fuel:Nat} {listed:Array Bool} {a:Act} {w:World} (hi:ops[i]?=some oi)
    (hs:Region.noSelect ops=true) (hf:Region.free md ops listed i=true) (hr:(Region.ready md ops listed).contains i=true) (hw:takesE md ops listed k i=true)
    (hQ:∀c a w,Q (.panic c) (a.put oi.dst v) w→Q (.panic c) a w) (hy:YieldsIf P ops S oi v a) (hS:S w)
    (h:wpAnyE P md ops Q S k fuel (listed.setIfInBounds i true) (a.put oi.dst v) w):wpAnyE P md ops Q S k (fuel+1) listed a w:=by
  simp only [takesE,Bool.and_eq_true,decide_eq_true_eq,List.contains_iff_mem,List.all_eq_true,beq_iff_eq] at hw
  obtain ⟨⟨⟨h1,h2⟩,h3⟩,h4⟩:=hw;exact wpAnyE_first hi h1 (Region.noSelect_spec hs) hQ h2 h3 fuel listed a w (Region.free_spec hi hf) (by simpa using hr) h4 hy hS h
theorem wpAnyE_one {i:Nat} {o:Oper} {fuel:Nat} {listed:Array Bool} {a:Act} {w:World} (hr:Region.ready md ops listed=[i]) (ho:ops[i]?=some o)
    (h:∀K':Act→World→Prop,Shut (∀a w,((listed.setIfInBounds i true).getD k true=false→S w)→(((listed.setIfInBounds i true).getD k true=false→S w)→wpAnyE P md ops Q S k fuel (listed.setIfInBounds i true) a w)→K' a w)→if Region.wanted o (yielded ops a.tmps)=true then Oper.wp P o a w K' Q else K' (a.put o.dst undef) w) :
    wpAnyE P md ops Q S k (fuel+1) listed a w:=by
  refine ⟨fun h0=>(by rw [hr] at h0;cases h0),fun j hj=>?_⟩;rw [hr] at hj;obtain rfl:=List.mem_singleton.1 hj;have h2:=h (fun a' w'=>((listed.setIfInBounds j true).getD k true=false→S w')∧wpAnyE P md ops Q S k fuel (listed.setIfInBounds j true) a' w') (fun a w h1 h2=>⟨h1,h2 h1⟩);unfold Go.wpOp;simp only [ho]
  split
  · rename_i hw
    rw [if_pos hw] at h2;exact Or.inl h2
  · rename_i hw
    rw [if_neg hw] at h2;exact h2
theorem wpAnyE_done {listed:Array Bool} {a:Act} {w:World} (hr:Region.ready md ops listed=[]) (h:Q .normal a w) :
 ∀fuel,wpAnyE P md ops Q S k fuel listed a w
 | 0=>⟨hr,h⟩
 | _+1=>⟨fun _=>h,by rw [hr];simp⟩
theorem wp_region_E {id:Nat} {a:Act} {w:World} (k:Nat) (hm:P.follows .mixedOrders=true) (hS:S w.drew)
    (h:S w.drew→wpAnyE P .any ops Q S k ops.size (Array.replicate ops.size false) a w.drew):(Code.region id ops true).wp P Q a w :=
  wp_region_any hm (wpAny_of_E _ _ _ _ (h hS))
end
end
section
open Go.RowKit Go.Lib
def CallIn (w:World) (b o:Nat) (x:CallD):Prop :=
 w.cell? ⟨b,o,none⟩=some (.int .i64 x.kind)∧w.cell? ⟨b,o+1,none⟩=some (.string x.id)∧w.cell? ⟨b,o+2,none⟩=some (.int .i64 x.tick)∧w.cell? ⟨b,o+3,none⟩=some (.int .i64 x.val)∧w.cell? ⟨b,o+4,none⟩=some (.int .i64 x.handle) ∧
 w.cell? ⟨b,o+5,none⟩=some (.int .i64 x.pol.mn)∧w.cell? ⟨b,o+6,none⟩=some (.int .i64 x.pol.mx)∧w.cell? ⟨b,o+7,none⟩=some (.int .i64 x.pol.tg)∧w.cell? ⟨b,o+8,none⟩=some (.int .i64 x.pol.tol)∧w.cell? ⟨b,o+9,none⟩=some (.int .i64 x.pol.win)∧w.cell? ⟨b,o+10,none⟩=some (.int .i64 x.pol.hold)
theorem calls_at {w:World} {A:Option Addr} {m c:Nat} {l:List CallD} (h:RowIn 11 callCells w (.slice A m c) l) {k:Nat} (hk:k<l.length) :
 ∃b o,A=some ⟨b,o,none⟩∧b<w.heap.size∧∀W,jB w W→CallIn W b (o+k * 11) l[k]:=by
 obtain ⟨b,o,hA,hb,hc⟩:=h.at_ hk;have hW:∀W,jB w W→∀j u,(callCells l[k])[j]?=some u→W.cell? ⟨b,o+k * 11+j,none⟩=some u:=fun W hW j u hu=>(hW.cell (p:=⟨b,_,none⟩) hb).trans (hc j u hu)
 exact ⟨b,o,hA,hb,fun W h=>⟨hW W h 0 _ rfl,hW W h 1 _ rfl,hW W h 2 _ rfl,hW W h 3 _ rfl,hW W h 4 _ rfl,hW W h 5 _ rfl,hW W h 6 _ rfl,hW W h 7 _ rfl,hW W h 8 _ rfl,hW W h 9 _ rfl,hW W h 10 _ rfl⟩⟩
end
end Go.Proofs.YtpmfcpdelkchaaaGreat
