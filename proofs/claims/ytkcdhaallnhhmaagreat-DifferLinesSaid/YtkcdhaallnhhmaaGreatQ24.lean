/- Part 24 of the proof: W21Q, StripeAt, StoP, FlP, FlM. -/
import Derived.Maps.Keyed
import Derived.StringKeys
import Derived.Test.YtkcdhaallnhhmaaGreatQ21
import Derived.Test.YtkcdhaallnhhmaaGreatQ23
namespace Go.Proofs.YtkcdhaallnhhmaaGreat
set_option linter.unusedSimpArgs false
set_option linter.unusedVariables false
set_option linter.unusedSectionVars false
set_option maxRecDepth 100000
set_option maxHeartbeats 16000000
section
open Go.RowKit Go.Lib
structure ItOk (rs rh n:Nat) (p:Itm):Prop where
 nd:NdOk rs rh p.2
 ver:p.2.ver≤n
 key:p.1.ok
 smp:smpI p.2.smp
 val:∀s∈p.2.smp,0≤s.1∧0≤s.2
 pol:p.2.pol.ok
theorem ItOk.mono {rs rh n m:Nat} {p:Itm} (h:ItOk rs rh n p) (hm:n≤m):ItOk rs rh m p:=⟨h.nd,Nat.le_trans h.ver hm,h.key,h.smp,h.val,h.pol⟩
theorem pol0_ok:pol0.ok:=by unfold Pol.ok I64 pol0;dsimp only;omega
theorem nd0_ok (rs rh n:Nat) (k:Ky) (hk:k.ok):ItOk rs rh n (k,nd0) :=
 ⟨⟨List.Pairwise.nil,Nat.zero_le _,Nat.zero_le _⟩,Nat.zero_le _,hk,(fun s hs=>by cases hs),(fun s hs=>by cases hs),pol0_ok⟩
theorem getP_ok {rs rh n:Nat} {l:List Itm} (h:∀p∈l,ItOk rs rh n p) (k:Ky) (hk:k.ok):ItOk rs rh n (k,getP l k):=by
 unfold getP
 split
 · exact nd0_ok rs rh n k hk
 · rename_i x hx
   split
   · have hm:=List.mem_of_getElem? hx
     exact ⟨(h x hm).nd,(h x hm).ver,hk,(h x hm).smp,(h x hm).val,(h x hm).pol⟩
   · exact nd0_ok rs rh n k hk
theorem putS_mem {l:List Smp} {room:Int} {x s:Smp} (h:s∈putS l room x):s∈l∨s=x:=by
 unfold putS at h
 split at h
 · rcases List.mem_or_eq_of_mem_set h with h|h
   · exact .inl h
   · exact .inr h
 · have h2:s∈insS l x:=by
    unfold cutS at h
    split at h
    · exact List.mem_of_mem_drop h
    · exact h
   unfold insS at h2;simp only [List.mem_append,List.mem_cons,List.mem_singleton,List.not_mem_nil,or_false] at h2
   rcases h2 with h2|h2|h2
   · exact .inl (List.mem_of_mem_take h2)
   · exact .inr h2
   · exact .inl (List.mem_of_mem_drop h2)
structure ActOk (a:Act17):Prop where
 smp:I64 a.smp.1∧I64 a.smp.2
 pol:a.pol.ok
theorem do17_ok {rs rh n:Nat} {k:Ky} {x:Nd} {a:Act17} (h:ItOk rs rh n (k,x)) (ha:ActOk a) (h1:1≤rh):ItOk rs rh (n+1) (k,(do17 rs rh x a).1):=by
 have hver:=h.ver;have hnd:=h.nd;dsimp only at hver hnd;unfold do17
 split
 · split
   · rename_i _ hs
     refine ⟨⟨rising_put hnd.ris _ _,putS_len hnd.len _,hnd.past⟩,Nat.succ_le_succ hver,h.key,fun s hs'=>?_,fun s hs'=>?_,h.pol⟩
     · rcases putS_mem hs' with h9|h9
       · exact h.smp s h9
       · rw [h9];exact ha.smp
     · rcases putS_mem hs' with h9|h9
       · exact h.val s h9
       · rw [h9]
         unfold serE at hs
         split at hs
         · cases hs
         · split at hs
           · cases hs
           · exact ⟨by omega,by omega⟩
   · exact h.mono (Nat.le_succ n)
 · split
   · split
     · exact h.mono (Nat.le_succ n)
     · exact ⟨⟨rising_drop hnd.ris _,Nat.le_trans (by simp) hnd.len,hnd.past⟩,Nat.succ_le_succ hver,h.key,fun s hs=>h.smp s (List.mem_of_mem_drop hs),fun s hs=>h.val s (List.mem_of_mem_drop hs),h.pol⟩
   · split
     · split
       · exact ⟨⟨hnd.ris,hnd.len,hnd.past⟩,Nat.succ_le_succ hver,h.key,h.smp,h.val,ha.pol⟩
       · exact h.mono (Nat.le_succ n)
     · split
       · refine ⟨⟨hnd.ris,hnd.len,?_⟩,Nat.succ_le_succ hver,h.key,h.smp,h.val,h.pol⟩
         show (pushL x.past rh a.adv).length≤rh
         unfold pushL;have:=hnd.past
         split
         · simp;omega
         · simp;omega
       · exact h.mono (Nat.le_succ n)
theorem outP_mem {l:List Itm} {k:Ky} {y:Nd} {p:Itm} (h:p∈outP l k y):p∈l∨p=(k,y):=by
 unfold outP at h
 rcases List.mem_append.1 h with h|h
 · rcases List.mem_append.1 h with h|h
   · exact .inl (List.mem_of_mem_take h)
   · exact .inr (List.mem_singleton.1 h)
 · exact .inl (List.mem_of_mem_drop h)
theorem oneP_ok {c:Cfg} {rs rh n:Nat} {l:List Itm} {k:Ky} {a:Act17} (h:∀p∈l,ItOk rs rh n p) (hk:k.ok) (ha:ActOk a) (h1:1≤rh):∀p∈(oneP c rs rh l k a).1,ItOk rs rh (n+1) p:=by
 intro p hp;unfold oneP at hp;dsimp only at hp
 split at hp
 · exact (h p hp).mono (Nat.le_succ n)
 · split at hp
   · exact (h p hp).mono (Nat.le_succ n)
   · split at hp
     · exact (h p hp).mono (Nat.le_succ n)
     · rcases outP_mem hp with h9|h9
       · exact (h p h9).mono (Nat.le_succ n)
       · rw [h9];exact do17_ok (getP_ok h k hk) ha h1
theorem oneP_len {c:Cfg} {rs rh:Nat} {l:List Itm} {k:Ky} {a:Act17} (hc:c.lo≤256) (h:l.length≤256):(oneP c rs rh l k a).1.length≤256:=by
 unfold oneP;dsimp only
 split
 · exact h
 · split
   · exact h
   · split
     · exact h
     · rename_i _ _ h3
       unfold outP;have hat:atP l k≤l.length:=by
        unfold atP;exact (List.takeWhile_sublist _).length_le
       cases hh:hasP l k
       · rw [hh] at h3
         have:¬c.lo≤(l.length:Nat):=fun h9=>h3 ⟨rfl,h9⟩
         simp
         omega
       · have hlt:atP l k<l.length:=by
          unfold hasP at hh
          cases h9:l[atP l k]? with
          | none=>rw [h9] at hh;cases hh
          | some z=>exact (List.getElem?_eq_some_iff.1 h9).1
         simp
         omega
structure WdOk (c:Cfg) (rs rh n:Nat) (w:Wd):Prop where
 len:(w.st.length:Int)=c.st
 room:∀l∈w.st,l.length≤256
 it:∀l∈w.st,∀p∈l,ItOk rs rh n p
 cuts:w.cuts.length≤n
 cit:∀q∈w.cuts,q.items.length≤20000∧∀p∈q.items,ItOk rs rh n p
 cep:∀q∈w.cuts,0≤q.ep∧q.ep≤n
 ep:0≤w.ep∧w.ep≤n
theorem WdOk.mono {c:Cfg} {rs rh n m:Nat} {w:Wd} (h:WdOk c rs rh n w) (hm:n≤m):WdOk c rs rh m w :=
 ⟨h.len,h.room,fun l hl p hp=>(h.it l hl p hp).mono hm,Nat.le_trans h.cuts hm,fun q hq=>⟨(h.cit q hq).1,fun p hp=>((h.cit q hq).2 p hp).mono hm⟩,fun q hq=>⟨(h.cep q hq).1,by have:=(h.cep q hq).2;omega⟩,⟨h.ep.1,by have:=h.ep.2;omega⟩⟩
theorem newW_ok (c:Cfg) (rs rh:Nat) (k:Nat) (hk:(k:Int)=c.st):WdOk c rs rh 0 (newW k) :=
 ⟨by simpa [newW] using hk,(fun l hl=>by rw [List.eq_of_mem_replicate hl];exact Nat.zero_le _),(fun l hl p hp=>by rw [List.eq_of_mem_replicate hl] at hp;cases hp),Nat.le_refl _,(fun q hq=>by cases hq),(fun q hq=>by cases hq),⟨Int.le_refl _,Int.le_refl _⟩⟩
theorem oneW_ok {c:Cfg} {rs rh n:Nat} {w:Wd} {id:ByteArray} {a:Act17} (h:WdOk c rs rh n w) (hc:c.lo≤256) (ha:ActOk a) (h1:1≤rh):WdOk c rs rh (n+1) (oneW c rs rh w id a).1:=by
 have hl:∀p∈w.st.getD (atW c id) [],ItOk rs rh n p:=by
  intro p hp
  by_cases hlt:atW c id<w.st.length
  · rw [List.getD_eq_getElem?_getD,List.getElem?_eq_getElem hlt] at hp
    exact h.it _ (List.getElem_mem hlt) p hp
  · rw [List.getD_eq_getElem?_getD,List.getElem?_eq_none (by omega)] at hp
    cases hp
 have hl2:(w.st.getD (atW c id) []).length≤256:=by
  by_cases hlt:atW c id<w.st.length
  · rw [List.getD_eq_getElem?_getD,List.getElem?_eq_getElem hlt]
    exact h.room _ (List.getElem_mem hlt)
  · rw [List.getD_eq_getElem?_getD,List.getElem?_eq_none (by omega)]
    exact Nat.zero_le _
 have hm:=h.mono (Nat.le_succ n);refine ⟨by show (((w.st.set _ _).length:Nat):Int)=c.st;simpa using h.len,fun l hlm=>?_,fun l hlm=>?_,hm.cuts,hm.cit,hm.cep,hm.ep⟩
 · rcases List.mem_or_eq_of_mem_set hlm with h9|h9
   · exact h.room l h9
   · rw [h9];exact oneP_len hc hl2
 · rcases List.mem_or_eq_of_mem_set hlm with h9|h9
   · exact hm.it l h9
   · rw [h9];exact oneP_ok hl (keyK_ok id) ha h1
theorem trimR_ok {rs rh n:Nat} {p:Itm} (h:ItOk rs rh n p) (cut:Int):ItOk rs rh (n+1) (p.1,trimR cut p.2):=by
 have hver:=h.ver;unfold trimR
 split
 · exact (show ItOk rs rh n (p.1,p.2) from h).mono (Nat.le_succ n)
 · exact ⟨⟨rising_drop h.nd.ris _,Nat.le_trans (by simp) h.nd.len,h.nd.past⟩,Nat.succ_le_succ hver,h.key,fun s hs=>h.smp s (List.mem_of_mem_drop hs),fun s hs=>h.val s (List.mem_of_mem_drop hs),h.pol⟩
theorem trimW_ok {c:Cfg} {rs rh n:Nat} {w:Wd} {cut:Int} (h:WdOk c rs rh n w):WdOk c rs rh (n+1) (trimW w cut):=by
 have hm:=h.mono (Nat.le_succ n);refine ⟨by show (((w.st.map _).length:Nat):Int)=c.st;simpa using h.len,fun l hlm=>?_,fun l hlm p hp=>?_,hm.cuts,hm.cit,hm.cep,hm.ep⟩
 · obtain ⟨l2,h2,rfl⟩:=List.mem_map.1 hlm
   simpa using h.room l2 h2
 · obtain ⟨l2,h2,rfl⟩:=List.mem_map.1 hlm
   obtain ⟨q,hq,rfl⟩:=List.mem_map.1 hp;exact trimR_ok (h.it l2 h2 q hq) cut
theorem flat_len:∀(l:List (List Itm)),(∀x∈l,x.length≤256)→l.flatten.length≤256 * l.length
  | [],_=>Nat.le_refl _
  | a::l,h=>by
    have h1:=h a (List.mem_cons_self ..);have h2:=flat_len l (fun x hx=>h x (List.mem_cons_of_mem _ hx));simp only [List.flatten_cons,List.length_append,List.length_cons]
    omega
theorem allW_len {c:Cfg} {rs rh n:Nat} {w:Wd} (h:WdOk c rs rh n w) (hst:c.st≤64):(allW w).length≤16384:=by
 have h1:=flat_len w.st h.room;have h2:=h.len;unfold allW;omega
theorem allW_it {c:Cfg} {rs rh n:Nat} {w:Wd} (h:WdOk c rs rh n w):∀p∈allW w,ItOk rs rh n p:=fun p hp=>by
 obtain ⟨l,hl,hp2⟩:=List.mem_flatten.1 hp;exact h.it l hl p hp2
theorem snapW_ok {c:Cfg} {rs rh n:Nat} {w:Wd} (h:WdOk c rs rh n w) (hst:c.st≤64):WdOk c rs rh (n+1) (snapW w).1:=by
 have hm:=h.mono (Nat.le_succ n);have hep:=h.ep;unfold snapW
 split
 · exact hm
 · refine ⟨hm.len,hm.room,hm.it,?_,fun q hq=>?_,fun q hq=>?_,?_⟩
   · show (w.cuts++[_]).length≤n+1
     have:=h.cuts
     simp;omega
   · rcases List.mem_append.1 hq with h9|h9
     · exact hm.cit q h9
     · rw [List.mem_singleton.1 h9]
       exact ⟨by have:=allW_len h hst;show (allW w).length≤20000;omega,fun p hp=>(allW_it h p hp).mono (Nat.le_succ n)⟩
   · rcases List.mem_append.1 hq with h9|h9
     · exact hm.cep q h9
     · rw [List.mem_singleton.1 h9]
       show 0≤w.ep+1∧w.ep+1≤((n+1:Nat):Int)
       omega
   · show 0≤w.ep+1∧w.ep+1≤((n+1:Nat):Int)
     omega
theorem freeW_ok {c:Cfg} {rs rh n:Nat} {w:Wd} {k:Int} (h:WdOk c rs rh n w):WdOk c rs rh (n+1) (freeW w k).1:=by
 have hm:=h.mono (Nat.le_succ n);unfold freeW
 split
 · exact hm
 · refine ⟨hm.len,hm.room,hm.it,?_,fun q hq=>?_,fun q hq=>?_,hm.ep⟩
   · show (w.cuts.set _ _).length≤n+1
     have:=h.cuts
     simp;omega
   · rcases List.mem_or_eq_of_mem_set hq with h9|h9
     · exact hm.cit q h9
     · rw [h9];exact ⟨Nat.zero_le _,(fun p hp=>by cases hp)⟩
   · rcases List.mem_or_eq_of_mem_set hq with h9|h9
     · exact hm.cep q h9
     · rw [h9];show (0:Int)≤0∧(0:Int)≤((n+1:Nat):Int);omega
theorem doW_ok {c:Cfg} {rs rh n:Nat} {w:Wd} {x:CallD} (h:WdOk c rs rh n w) (hst:c.st≤64) (hlo:c.lo≤256) (h1:1≤rh) (hx:x.ok):WdOk c rs rh (n+1) (doW c rs rh w x).1:=by
 have hm:=h.mono (Nat.le_succ n);obtain ⟨x1,x2,x3,x4,x5,x6⟩:=hx;unfold doW
 split
 · exact hm
 · split
   · exact oneW_ok h hlo ⟨⟨x3,x4⟩,pol0_ok⟩ h1
   · split
     · exact trimW_ok h
     · split
       · exact snapW_ok h hst
       · split
         · exact freeW_ok h
         · split
           · exact hm
           · split
             · exact oneW_ok h hlo ⟨⟨i64_0,i64_0⟩,x6⟩ h1
             · split
               · exact hm
               · split
                 · exact hm
                 · exact ⟨hm.len,hm.room,hm.it,hm.cuts,hm.cit,hm.cep,hm.ep⟩
theorem noteW_ok {c:Cfg} {rs rh n:Nat} {w:Wd} {id:ByteArray} {a:Adv} (h:WdOk c rs rh n w) (hlo:c.lo≤256) (h1:1≤rh):WdOk c rs rh (n+1) (noteW c rs rh w id a).1:=by
 unfold noteW
 split
 · exact h.mono (Nat.le_succ n)
 · exact oneW_ok h hlo ⟨⟨i64_0,i64_0⟩,pol0_ok⟩ h1
end
section
open Go.RowKit Go.Lib Go.Sort
open Go.ChangeMaps (setBlock)
section
variable {α β:Type} [DecidableEq α]
theorem mem_putM {es:List (α × β)} {x:α} {v:β} {p:α × β} (h:p∈putM es x v):p=(x,v)∨(p∈es∧p.1≠x):=by
 unfold putM at h
 split at h
 · obtain ⟨q,hq,e⟩:=List.mem_map.1 h
   split at e
   · exact .inl e.symm
   · rename_i hn
     subst e;exact .inr ⟨hq,hn⟩
 · rename_i hn
   rcases List.mem_append.1 h with h|h
   · refine .inr ⟨h,fun e=>hn ?_⟩
     rw [hasM_iff];exact List.mem_map.2 ⟨p,h,e⟩
   · exact .inl (List.mem_singleton.1 h)
theorem find_mem {es:List (α × β)} {x:α} {v:β} (h:findM es x=some v):(x,v)∈es:=by
 unfold findM at h;obtain ⟨q,hq,rfl⟩:=Option.map_eq_some_iff.1 h;have h1:=List.find?_some hq;simp at h1
 rw [←h1];exact List.mem_of_find?_eq_some hq
theorem find_putM (es:List (α × β)) (x y:α) (v:β):findM (putM es x v) y=if y=x then some v else findM es y:=by
 unfold putM
 split
 · rename_i hh
   induction es with
   | nil=>simp [hasM] at hh
   | cons p es ih =>
     unfold findM;simp only [List.map_cons,List.find?_cons]
     by_cases hp:p.1=x
     · rw [if_pos hp]
       by_cases hy:y=x
       · subst hy
         simp
       · rw [if_neg hy]
         have e1:decide (x=y)=false:=by simpa using fun e=>hy e.symm
         have e2:decide (p.1=y)=false:=by rw [hp];exact e1
         simp only [e1,e2]
         by_cases hq:hasM es x=true
         · have:=ih hq
           unfold findM at this;rw [if_neg hy] at this;exact this
         · have:es.map (fun p=>if p.1=x then (x,v) else p)=es:=by
            conv=>rhs;rw [←List.map_id es]
            refine List.map_congr_left fun q hq'=>?_
            rw [if_neg]
            · rfl
            · intro e
              exact hq ((hasM_iff es x).2 (List.mem_map.2 ⟨q,hq',e⟩))
           rw [this]
     · rw [if_neg hp]
       have hq:hasM es x=true:=by simpa [hasM,hp] using hh
       have:=ih hq;unfold findM at this
       by_cases hpy:p.1=y
       · have hy:¬y=x:=fun e=>hp (hpy.trans e)
         rw [if_neg hy];simp [hpy]
       · have e2:decide (p.1=y)=false:=by simpa using hpy
         simp only [e2]
         exact this
 · rename_i hh
   unfold findM;rw [List.find?_append]
   by_cases hy:y=x
   · subst hy
     rw [if_pos rfl];have:List.find? (fun p=>decide (p.1=y)) es=none:=by
      rw [List.find?_eq_none];intro p hp hpy;exact hh ((hasM_iff es y).2 (List.mem_map.2 ⟨p,hp,by simpa using hpy⟩))
     rw [this];simp
   · rw [if_neg hy]
     have e1:decide (x=y)=false:=by simpa using fun e=>hy e.symm
     simp [e1]
end
def ab (es:List (KO × NE)):List (KO × Nd):=es.map fun p=>(p.1,p.2.2.1)
end
section
open Go.RowKit Go.Lib Go.Sort
def mkIt (p:Itm):It:=⟨p.1,none,0,none,0,p.2⟩
theorem mkIt_abs (R:List Itm):(R.map mkIt).map absI=R:=by
 rw [List.map_map];exact (List.map_congr_left (fun p _=>rfl)).trans (List.map_id R)
structure St where
 T:Nat
 M:Nat
 ver:Nat
 es:List (KO × NE)
abbrev HN:={ n:Nat // n≤1000000 }
def hdl (i:Nat):HN:=⟨min i 1000000,Nat.min_le_right ..⟩
structure StoD where
 A:Nat
 cp:Nat
 H:Nat
 L:Nat
 sts:List St
 live:List (HN × Nat)
def HomeOk (c:Cfg) (wd:Wd):Prop:=∀(i:Nat) R,wd.st[i]?=some R→∀p∈R,routeI p.1.1 p.1.2 c.st=(i:Int)
end
section
open Go.RowKit Go.Lib
abbrev SK:={ s:ByteArray // s.size≤maxLen }
def skV (x:SK):Value:=.string x.1
theorem keysSk:KeysBy Tryz.prog 9 skV where
 law:=Go.Maps.string_keyed Tryz.underlying9
 key x:=⟨_,Go.WideMaps.keyOf_string_mk Tryz.underlying9 x.2⟩
 inj x y h:=by
  simp only [skV,Value.string.injEq] at h
  exact Subtype.ext h
def ldC (x:It):List Value:=[.slice x.sA x.nd.smp.length x.sc,.slice x.pA x.nd.past.length x.pc,.int .i64 x.nd.pol.mn,.int .i64 x.nd.pol.mx,.int .i64 x.nd.pol.tg,.int .i64 x.nd.pol.tol,.int .i64 x.nd.pol.win,.int .i64 x.nd.pol.hold,.bool x.nd.ruled]
def ldV (x:It):Value:=.agg (ldC x).toArray
def FlHas (es:List (SK × It)) (R:List Itm):Prop:=(∀p∈es,idS p.1.1=true)∧∀s:SK,idS s.1=true→match findM es s with
 | none=>findIt R (keyK s.1)=none
 | some x=>∃y,findIt R (keyK s.1)=some y∧sameN x.nd y
abbrev SrtR (R:List Itm):Prop:=(R.map (·.1)).Pairwise (fun a b=>ltK a b=true)
structure FlTells (c:Cfg) (es:List (SK × It)) (wd:Wd):Prop where
 has:FlHas es (allW wd)
 keys:∀p∈allW wd,∃s:SK,idS s.1=true∧keyK s.1=p.1
 cnt:∀(i:Nat) R,wd.st[i]?=some R→R.length=(es.map (·.1)).countP fun s=>decide (routeI (keyK s.1).1 (keyK s.1).2 c.st=(i:Int))
 srt:∀R∈wd.st,SrtR R
 home:HomeOk c wd
 lst:(wd.st.length:Int)=c.st
 nod:(es.map (·.1)).Nodup
structure FCut where
 ep:Int
 m:Option Nat
 es:List (SK × It)
 fr:Bool
def fcC (x:FCut):List Value:=[.int .i64 x.ep,.map x.m,.bool x.fr]
structure FlatD where
 L:Nat
 es:List (SK × It)
 A:Option Addr
 cp:Nat
 cuts:List FCut
structure FlMem (P:Nat→Prop) (w:World) (M:Nat) (c:Cfg) (wd:Wd) (d:FlatD):Prop where
 cell:w.heap[M]?=some (.cells #[.int .i64 c.st,.int .i64 c.sa,.int .i64 c.lo,.int .i64 c.hi,.map (some d.L),.slice d.A d.cuts.length d.cp,.int .i64 wd.ep,.bool wd.over] 97 (0,0))
 map:MapIn skV ldV w d.L d.es
 ne:M≠d.L
 off:∀b,P b→b≠M∧b≠d.L
 rows:∀p∈d.es,LoadIn P w p.2
 len:d.cuts.length=wd.cuts.length
 row:RowG P 3 fcC w (.slice d.A d.cuts.length d.cp) d.cuts
 cut:∀(i:Nat) x q,d.cuts[i]?=some x→wd.cuts[i]?=some q→x.fr=q.freed∧(q.freed=false→x.ep=q.ep∧∃l,x.m=some l∧P l∧MapIn skV ldV w l x.es∧(∀p∈x.es,LoadIn P w p.2)∧FlHas x.es q.items)
structure FlatAt (P:Nat→Prop) (w:World) (M:Nat) (c:Cfg) (rs rh n:Nat) (wd:Wd) (d:FlatD):Prop extends FlMem P w M c wd d where
 tells:FlTells c d.es wd
theorem FlMem.lt {P:Nat→Prop} {w:World} {M:Nat} {c:Cfg} {wd:Wd} {d:FlatD} (h:FlMem P w M c wd d):M<w.heap.size:=(Array.getElem?_eq_some_iff.1 h.cell).1
theorem FlatAt.lt {P:Nat→Prop} {w:World} {M:Nat} {c:Cfg} {rs rh n:Nat} {wd:Wd} {d:FlatD} (h:FlatAt P w M c rs rh n wd d):M<w.heap.size:=h.toFlMem.lt
theorem RowG.ltG {α:Type} {P:Nat→Prop} {n:Nat} {f:α→List Value} {w:World} {v:Value} {l:List α} (h:RowG P n f w v l):RowG (fun b=>P b∧b<w.heap.size) n f w v l:=by
 refine ⟨h.1,fun b o m c e hn=>⟨h.2 b o m c e hn,?_⟩⟩;obtain ⟨A,c2,rfl,hl,hx⟩:=h.1;obtain ⟨b2,o2,rfl,hb,-⟩:=hx hn;simp only [Value.slice.injEq,Option.some.injEq,Addr.mk.injEq] at e
 omega
theorem RowG.keepG {α:Type} {P Q:Nat→Prop} {n:Nat} {f:α→List Value} {w w':World} {v:Value} {l:List α} (h:RowG P n f w v l) (hs:w.heap.size≤w'.heap.size) (hk:∀b,P b→b<w.heap.size→w'.heap[b]?=w.heap[b]?∧Q b):RowG Q n f w' v l :=
 (h.ltG.keepP hs (fun b hb hlt=>(hk b hb.1 hlt).1)).imp (fun b hb=>(hk b hb.1 hb.2).2)
theorem LoadIn.keepG {P Q:Nat→Prop} {w w':World} {x:It} (h:LoadIn P w x) (hs:w.heap.size≤w'.heap.size) (hk:∀b,P b→b<w.heap.size→w'.heap[b]?=w.heap[b]?∧Q b):LoadIn Q w' x:=⟨h.1.keepG hs hk,h.2.keepG hs hk⟩
theorem FlMem.keep {P Q:Nat→Prop} {w w':World} {M:Nat} {c:Cfg} {wd:Wd} {d:FlatD} (h:FlMem P w M c wd d) (hs:w.heap.size≤w'.heap.size) (hM:w'.heap[M]?=w.heap[M]?) (hL:w'.heap[d.L]?=w.heap[d.L]?) (hk:∀b,P b→b<w.heap.size→w'.heap[b]?=w.heap[b]?∧Q b) (ho:∀b,Q b→b≠M∧b≠d.L):FlMem Q w' M c wd d :=
 ⟨hM.trans h.cell,h.map.block hL,h.ne,ho,fun p hp=>(h.rows p hp).keepG hs hk,h.len,h.row.keepG hs hk,fun i x q hx hq=>⟨(h.cut i x q hx hq).1,fun hf=>by
  obtain ⟨h1,l,h2,h3,h4,h5,h6⟩:=(h.cut i x q hx hq).2 hf;have h7:=hk l h3 h4.lt;exact ⟨h1,l,h2,h7.2,h4.block h7.1,fun p hp=>(h5 p hp).keepG hs hk,h6⟩⟩⟩
theorem FlatAt.keep {P Q:Nat→Prop} {w w':World} {M:Nat} {c:Cfg} {rs rh n:Nat} {wd:Wd} {d:FlatD} (h:FlatAt P w M c rs rh n wd d) (hs:w.heap.size≤w'.heap.size) (hM:w'.heap[M]?=w.heap[M]?) (hL:w'.heap[d.L]?=w.heap[d.L]?) (hk:∀b,P b→b<w.heap.size→w'.heap[b]?=w.heap[b]?∧Q b) (ho:∀b,Q b→b≠M∧b≠d.L):FlatAt Q w' M c rs rh n wd d :=
 ⟨h.toFlMem.keep hs hM hL hk ho,h.tells⟩
theorem FlMem.below {P:Nat→Prop} {w w':World} {M:Nat} {c:Cfg} {wd:Wd} {d:FlatD} (h:FlMem P w M c wd d) (hb:jB w w'):FlMem P w' M c wd d :=
 h.keep hb.size (hb.block _ h.lt) (hb.block _ h.map.lt) (fun b hP hlt=>⟨hb.block b hlt,hP⟩) h.off
theorem FlatAt.below {P:Nat→Prop} {w w':World} {M:Nat} {c:Cfg} {rs rh n:Nat} {wd:Wd} {d:FlatD} (h:FlatAt P w M c rs rh n wd d) (hb:jB w w'):FlatAt P w' M c rs rh n wd d :=
 ⟨h.toFlMem.below hb,h.tells⟩
theorem flMade_any {P:Nat→Prop} {M:Nat} {c:Cfg} {rs rh n:Nat} {wd:Wd} {d:FlatD} (w:World) (h:FlatAt P w M c rs rh n wd d) :
 Calls Tryz.prog 48 #[.pointer (some ⟨M,0,none⟩)] w fun e w'=>e=.returned (.bool true)∧w'=w:=by
 obtain ⟨a1,a2,a3⟩:=box_cells jR h.cell;have hq:∀W,(binOp .neq 94 (.map (some d.L)) (.map none)).run Tryz.prog W=.ok (.bool true) W:=fun W=>run_neq_map_nil W _ _ _ (some d.L) Tryz.underlying94
 clear h
 go_enter Tryz.func48,Tryz.ntmps48
 go_wp2_with fail
 go_ret
 exact ⟨rfl,rfl⟩
end
section
open Go.RowKit Go.Lib Go.Sort
theorem putS_snoc {l:List Smp} {x:Smp} {room:Int} (hr:risingS (l++[x])) (h:((l.length+1:Nat):Int)≤room):putS l room x=l++[x]:=by
 have hp:placeS l x.1=l.length:=by
  unfold placeS;rw [List.countP_eq_length];intro y hy;have:=(List.pairwise_append.1 hr).2.2 y hy x (by simp);simp
  omega
 unfold putS hitS insS cutS;rw [hp,List.getElem?_eq_none (Nat.le_refl _),List.take_length,List.drop_length];rw [if_neg (by simp)];simp only [List.length_append,List.length_singleton]
 rw [if_neg (by omega)]
def foldS (room:Int) (l:List Smp):List Smp:=l.foldl (fun a x=>putS a room x) []
theorem foldS_snoc (room:Int) (l:List Smp) (x:Smp):foldS room (l++[x])=putS (foldS room l) room x:=by
 unfold foldS;rw [List.foldl_append];rfl
theorem foldS_take (room:Int) (l:List Smp) (k:Nat) (h:k<l.length):foldS room (l.take (k+1))=putS (foldS room (l.take k)) room l[k]:=by
 rw [List.take_succ_eq_append_getElem h,foldS_snoc]
theorem foldS_self (room:Int) (l:List Smp) (hr:risingS l) (hl:(l.length:Int)≤room):∀k,k≤l.length→foldS room (l.take k)=l.take k
  | 0,_=>rfl
  | k+1,h=>by
    rw [foldS_take room l k (by omega),foldS_self room l hr hl k (by omega),List.take_succ_eq_append_getElem (by omega)];refine putS_snoc ?_ ?_
    · rw [←List.take_succ_eq_append_getElem (by omega)]
      exact hr.sublist (List.take_sublist _ _)
    · rw [List.length_take]
      omega
theorem foldS_one (room:Int) (l:List Smp) (x:Smp) (hr:risingS l) (hl:(l.length:Int)≤room):foldS room (l++[x])=putS l room x:=by
 rw [foldS_snoc];have:=foldS_self room l hr hl l.length (Nat.le_refl _);rw [List.take_length] at this;rw [this]
theorem foldS_ok (room:Nat):∀l:List Smp,risingS (foldS (room:Nat) l)∧(foldS (room:Nat) l).length≤room:=by
 intro l
 induction hn:l.length generalizing l with
 | zero =>
   rw [List.eq_nil_of_length_eq_zero hn];exact ⟨List.Pairwise.nil,Nat.zero_le _⟩
 | succ n ih =>
   rcases List.eq_nil_or_concat l with rfl|⟨m,x,rfl⟩
   · cases hn
   · rw [List.concat_eq_append] at hn ⊢
     obtain ⟨a,b⟩:=ih m (by simpa using hn);rw [foldS_snoc];exact ⟨rising_put a _ x,putS_len b x⟩
end
end Go.Proofs.YtkcdhaallnhhmaaGreat
