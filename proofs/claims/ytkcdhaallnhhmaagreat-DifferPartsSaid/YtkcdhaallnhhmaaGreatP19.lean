/- Part 19 of the proof: R17C, MapRange, SLaw, SLaw2, SLaw4, SPlay, Alike, RouteLt. -/
import Derived.Test.YtkcdhaallnhhmaaGreatP15
import Derived.Test.YtkcdhaallnhhmaaGreatP16
import Derived.Test.YtkcdhaallnhhmaaGreatP18
namespace Go.Proofs.YtkcdhaallnhhmaaGreat
set_option linter.unusedSimpArgs false
set_option linter.unusedVariables false
set_option linter.unusedSectionVars false
set_option maxRecDepth 100000
set_option maxHeartbeats 16000000
section
open Go.RowKit Go.Lib Go.Sort
structure NdOk (rs rh:Nat) (x:Nd):Prop where
 ris:risingS x.smp
 len:x.smp.length≤rs
 past:x.past.length≤rh
structure RoomOk (c:Cfg) (rs rh:Nat):Prop where
 sa:c.sa=(rs:Nat)
 hi:c.hi=(rh:Nat)
 r1:1≤rs
 r2:rs≤256
 h1:1≤rh
 h2:rh≤64
end
section
open Go.RowKit Go.Lib
open Go.Maps (Keyed)
open Go.ChangeMaps
structure EntsOf {α β:Type} (K:α→Value) (V:β→Value) (ents:Array MapEntry) (clock:Nat) (es:List (α × β)):Prop where
 kv:ents.toList.map (fun e=>(e.key,e.val))=es.map (fun p=>(K p.1,V p.2))
 born:(ents.toList.map (·.born)).Nodup
 old:∀e∈ents.toList,e.born<clock
 keys:(es.map (·.1)).Nodup
def RangeIn {α β:Type} (K:α→Value) (V:β→Value) (w:World) (b r:Nat) (es pre:List (α × β)) (cnt:Nat):Prop :=
 ∃ (ents:Array MapEntry) (clock since:Nat) (seen:Array Nat) (c0:Nat) (ps:List MapEntry),w.heap[b]?=some (.map ents clock)∧EntsOf K V ents clock es∧w.heap[r]?=some (.mapIter (some b) since seen c0)∧(∀e∈ents.toList,e.born<since)∧since≤c0∧since≤clock ∧
   ps.map (fun e=>(e.key,e.val))=pre.map (fun p=>(K p.1,V p.2))∧seen.toList=ps.map (·.born)∧(∀e∈ps,e∈ents.toList)∧(∀p∈pre,p∈es)∧(pre.map (·.1)).Nodup∧(leftOf ents seen).size=cnt∧pre.length+cnt≤es.length
section
variable {α β:Type} [DecidableEq α] {K:α→Value} {V:β→Value} {P:Program} {k t e:TypeId} {w:World} {b r:Nat} {es pre:List (α × β)} {cnt:Nat}
theorem RangeIn.map_ (h:RangeIn K V w b r es pre cnt):MapIn K V w b es:=by
 obtain ⟨ents,clock,_,_,_,_,hb,hE,_⟩:=h;exact ⟨ents,clock,hb,hE.kv,hE.born,hE.old,hE.keys⟩
theorem RangeIn.lt (h:RangeIn K V w b r es pre cnt):r<w.heap.size:=by
 obtain ⟨_,_,_,_,_,_,_,_,hr,_⟩:=h;exact (jL hr)
theorem RangeIn.ne (h:RangeIn K V w b r es pre cnt):r≠b:=by
 obtain ⟨_,_,_,_,_,_,hb,_,hr,_⟩:=h;intro e;rw [e,hb] at hr
 cases hr
theorem RangeIn.left_eq (h:RangeIn K V w b r es pre cnt):w.rangeLeft b r=cnt:=by
 obtain ⟨_,_,_,_,_,_,hb,_,hr,_,_,_,_,_,_,_,_,hc,_⟩:=h;simp only [World.rangeLeft,hb,hr]
 exact hc
theorem RangeIn.kept {w':World} (h:RangeIn K V w b r es pre cnt) (h1:w'.heap[b]?=w.heap[b]?) (h2:w'.heap[r]?=w.heap[r]?):RangeIn K V w' b r es pre cnt:=by
 obtain ⟨ents,clock,since,seen,c0,ps,hb,hE,hr,rest⟩:=h;exact ⟨ents,clock,since,seen,c0,ps,h1.trans hb,hE,h2.trans hr,rest⟩
theorem MapIn.range (h:MapIn K V w b es) (ht:P.underlying t=some (.map k e)) :
 ∃w',(Instr.range t (.map (some b))).run P w=.ok (.pointer (some ⟨w.heap.size,0,none⟩)) w'∧RangeIn K V w' b w.heap.size es [] es.length∧w.grownBy w' none∧w'.heap.size=w.heap.size+1:=by
 have hlt:=h.lt;obtain ⟨ents,clock,hb,h1,h2,h3,h4⟩:=h;have hs:ents.size=es.length:=by simpa using congrArg List.length h1
 exact ⟨_,run_range_map w t k e b ents clock ht hb,⟨ents,clock,clock,#[],clock,[],((MapKept.heap_alloc w _).2 b hlt).trans hb,⟨h1,h2,h3,h4⟩,(MapKept.heap_alloc w _).1,h3,Nat.le_refl _,Nat.le_refl _,rfl,rfl,fun _ h=>by simp at h,fun _ h=>by simp at h,List.nodup_nil,by rw [←hs];simp [leftOf],by simp⟩,World.grownBy_alloc w _ none,by simp⟩
theorem RangeIn.next (h:RangeIn K V w b r es pre cnt) (inj:∀x y,K x=K y→x=y) (ty:TypeId) :
 (cnt=0∧(pre.map (·.1)).Perm (es.map (·.1))∧(Instr.next (.pointer (some ⟨r,0,none⟩)) false ty).run P w=.ok (.tuple #[.bool false]) w) ∨
 ∃ p w' cnt',p∈es∧p.1∉pre.map (·.1)∧(Instr.next (.pointer (some ⟨r,0,none⟩)) false ty).run P w=.ok (.tuple #[.bool true,K p.1,V p.2]) w' ∧
   RangeIn K V w' b r es (pre++[p]) cnt'∧cnt'<cnt∧w.grownBy w' (some r)∧w'.heap.size=w.heap.size∧(Instr.entry (.pointer (some ⟨r,0,none⟩))).run P w'=.ok (.tuple #[K p.1,V p.2]) w':=by
 have hne:=h.ne;obtain ⟨ents,clock,since,seen,c0,ps,hb,hE,hr,hold,hsc,hsk,hps,hseen,hsub,hpre,hnd,rfl,hcnt⟩:=h
 rcases run_next_at (P:=P) w ty r b since c0 seen ents clock hr hb hold hsc with ⟨h0,hrun⟩|⟨e,he,w1,hal,hrun⟩
 · refine Or.inl ⟨h0,?_,hrun⟩
   refine (List.perm_ext_iff_of_nodup hnd hE.keys).2 (fun x=>⟨fun hx=>?_,fun hx=>?_⟩)
   · obtain ⟨p,hp,rfl⟩:=List.mem_map.1 hx
     exact List.mem_map.2 ⟨p,hpre p hp,rfl⟩
   · obtain ⟨p,hp,rfl⟩:=List.mem_map.1 hx
     obtain ⟨j,hj⟩:=List.getElem?_of_mem hp;have:=congrArg (·[j]?) hE.kv;simp only [List.getElem?_map,hj,Option.map_some] at this
     cases hej:ents.toList[j]? with
     | none=>rw [hej] at this;cases this
     | some e0 =>
       rw [hej] at this;simp only [Option.map_some,Option.some.injEq,Prod.mk.injEq] at this
       have hs:=all_seen ents seen h0 e0 (List.mem_of_getElem? hej);have hs':e0.born∈ps.map (·.born):=by rw [←hseen];simpa using hs
       obtain ⟨e1,he1,hborn⟩:=List.mem_map.1 hs';obtain rfl:=born_inj hE.born (hsub e1 he1) (List.mem_of_getElem? hej) hborn;obtain ⟨q,hq,hk,hv⟩:=ents_mem hps he1;exact List.mem_map.2 ⟨q,hq,inj _ _ (hk.symm.trans this.1)⟩
 · obtain ⟨hem,hes⟩:=mem_left he
   obtain ⟨j,hj⟩:=List.getElem?_of_mem hem;obtain ⟨p,hp,hk,hv⟩:=ents_at hE.kv hj;have hpm:=List.mem_of_getElem? hp;have hnew:p.1∉pre.map (·.1):=by
    intro hx;obtain ⟨q,hq,hqp⟩:=List.mem_map.1 hx;obtain ⟨i,hi⟩:=List.getElem?_of_mem hq;have:=congrArg (·[i]?) hps;simp only [List.getElem?_map,hi,Option.map_some] at this
    cases hei:ps[i]? with
    | none=>rw [hei] at this;cases this
    | some e0 =>
      rw [hei] at this;simp only [Option.map_some,Option.some.injEq,Prod.mk.injEq] at this
      have he0:=List.mem_of_getElem? hei;obtain ⟨m,hm⟩:=List.getElem?_of_mem (hsub e0 he0);obtain ⟨q',hq',hk',hv'⟩:=ents_at hE.kv hm;have h1:q'.1=p.1:=(inj _ _ (hk'.symm.trans this.1)).trans hqp;have hm1:(es.map (·.1))[m]?=some p.1:=by simp [hq',h1]
      have hj1:(es.map (·.1))[j]?=some p.1:=by simp [hp]
      obtain rfl:=nodup_inj hE.keys hm1 hj1;rw [hj] at hm;injection hm with hm
      subst hm;have:e.born∈seen.toList:=by rw [hseen];exact List.mem_map.2 ⟨e,he0,rfl⟩
      have:seen.contains e.born=true:=by simpa using this
      rw [this] at hes
      cases hes
   have hr1:w1.heap[r]?=some (.mapIter (some b) since seen c0):=by rcases hal with rfl|rfl <;> exact hr
   have hb1:w1.heap[b]?=some (.map ents clock):=by rcases hal with rfl|rfl <;> exact hb
   have hset:=Go.MapKept.heap_set (o':=.mapIter (some b) since (seen.push e.born) clock) hr1;have hb':(setBlock w1 r (.mapIter (some b) since (seen.push e.born) clock)).heap[b]?=some (.map ents clock):=(hset.2 b (fun e1=>hne e1.symm)).trans hb1;have hsh:=left_shrinks ents seen e he
   refine Or.inr ⟨p,_,_,hpm,hnew,by rw [←hk,←hv];exact hrun,
     ⟨ents,clock,since,seen.push e.born,clock,ps++[e],hb',hE,hset.1,hold,hsk,hsk,by rw [List.map_append,List.map_append,hps];simp [hk,hv],by rw [Array.toList_push,hseen];simp,fun x hx=>?_,fun q hq=>?_,?_,rfl,?_⟩,hsh,?_,?_,?_⟩
   · rcases List.mem_append.1 hx with h|h
     · exact hsub x h
     · rw [List.mem_singleton.1 h];exact hem
   · rcases List.mem_append.1 hq with h|h
     · exact hpre q h
     · rw [List.mem_singleton.1 h];exact hpm
   · rw [List.map_append,List.nodup_append]
     refine ⟨hnd,by simp,fun a ha c hc=>?_⟩;simp only [List.map_cons,List.map_nil,List.mem_singleton] at hc
     subst hc;exact fun e1=>hnew (e1 ▸ ha)
   · rw [List.length_append,List.length_singleton];omega
   · rcases hal with rfl|rfl <;> exact ⟨rfl,rfl,rfl,by simp [setBlock],fun i _ hi=>hset.2 i (fun e1=>hi (by rw [e1]))⟩
   · rcases hal with rfl|rfl <;> simp [setBlock]
   · rw [←hk,←hv]
     exact run_entry_at _ r b since seen ents clock e hset.1 hb' hem hE.born
end
end
section
open Go.RowKit Go.Lib Go.Sort
def sameN (x y:Nd):Prop:=x.smp=y.smp∧x.past=y.past∧x.pol=y.pol∧x.ruled=y.ruled
theorem sameN.refl (x:Nd):sameN x x:=⟨rfl,rfl,rfl,rfl⟩
def keysI (l:List It):List Ky:=l.map (·.key)
theorem sorted_at_unique {R:List (Ky × Nd)} (hs:(R.map (·.1)).Pairwise (fun a b=>ltK a b=true)) {q:Ky} {y z:Nd} (hy:(q,y)∈R) (hz:(q,z)∈R):y=z:=by
 induction R with
 | nil=>cases hy
 | cons a R ih =>
   rw [List.map_cons,List.pairwise_cons] at hs
   rcases List.mem_cons.1 hy with hy|hy
   · rcases List.mem_cons.1 hz with hz|hz
     · rw [←hy] at hz;injection hz with _ hz;exact hz.symm
     · have:=hs.1 q (List.mem_map.2 ⟨_,hz,rfl⟩)
       rw [←hy] at this;exact absurd this (by rw [ltK_irrefl q];simp)
   · rcases List.mem_cons.1 hz with hz|hz
     · have:=hs.1 q (List.mem_map.2 ⟨_,hy,rfl⟩)
       rw [←hz] at this;exact absurd this (by rw [ltK_irrefl q];simp)
     · exact ih hs.2 hy hz
theorem key_at {l:List It} {i:Nat} (h:i<l.length):(keysI l)[i]?=some l[i].key:=by simp [keysI,h]
theorem sorted_get {l:List It} (hs:(keysI l).Pairwise (fun a b=>ltK a b=true)) {i j:Nat} (hj:j<l.length) (hij:i<j):ltK (l[i]'(by omega)).key l[j].key=true:=by
 have:=(List.pairwise_iff_getElem.1 hs) i j (by simp [keysI];omega) (by simp [keysI];omega) hij
 simpa [keysI] using this
theorem hasI_iff {l:List It} (hs:(keysI l).Pairwise (fun a b=>ltK a b=true)) (k:Ky):hasI l k=true ↔ k∈keysI l:=by
 constructor
 · intro h
   unfold hasI at h
   split at h
   · rename_i hl
     rw [←of_decide_eq_true h];exact List.mem_map.2 ⟨_,List.getElem_mem hl,rfl⟩
   · cases h
 · intro h
   obtain ⟨x,hx,hk⟩:=List.mem_map.1 h;obtain ⟨i,hi,rfl⟩:=List.getElem_of_mem hx;have h1:atI l k≤i:=by
    rcases Nat.lt_or_ge i (atI l k) with h'|h'
    · have:=atI_lt hi h'
      rw [hk,ltK_irrefl] at this
      cases this
    · exact h'
   have h2:atI l k=i:=by
    rcases Nat.lt_or_ge (atI l k) i with h'|h'
    · have h3:=sorted_get hs hi h'
      rw [hk] at h3;rw [atI_ge (by omega)] at h3
      cases h3
    · omega
   unfold hasI;rw [dif_pos (by omega)];simp only [h2,hk,decide_true]
theorem above_at {l:List It} (hs:(keysI l).Pairwise (fun a b=>ltK a b=true)) {k:Ky} {j:Nat} (hj:j<l.length) (h:(if hasI l k=true then atI l k+1 else atI l k)≤j):ltK k l[j].key=true:=by
 cases hh:hasI l k with
 | true =>
   rw [hh,if_pos rfl] at h;have h1:∃hl:atI l k<l.length,l[atI l k].key=k:=by
    unfold hasI at hh
    split at hh
    · rename_i hl
      exact ⟨hl,of_decide_eq_true hh⟩
    · cases hh
   obtain ⟨hl,hk⟩:=h1;have:=sorted_get hs hj (show atI l k<j by omega);rw [hk] at this;exact this
 | false =>
   rw [hh,if_neg (by simp)] at h;have hne:l[j].key≠k:=fun e=>by
    have:=(hasI_iff hs k).2 (List.mem_map.2 ⟨_,List.getElem_mem hj,e⟩);rw [hh] at this
    cases this
   have hn:ltK l[j].key k=false:=by
    have h0:=atI_ge (l:=l) (k:=k) (by omega)
    cases hx:ltK l[j].key k with
    | false=>rfl
    | true =>
      rcases Nat.lt_or_ge (atI l k) j with h'|h'
      · rw [ltK_trans (sorted_get hs hj h') hx] at h0
        cases h0
      · have:atI l k=j:=by omega
        simp only [this] at h0
        rw [h0] at hx
        cases hx
   cases hx:ltK k l[j].key with
   | true=>rfl
   | false=>exact absurd (ltK_total hn hx) hne
theorem mem_outI {l:List It} (hs:(keysI l).Pairwise (fun a b=>ltK a b=true)) (k:Ky) (y:Nd) (q:Ky) (z:Nd):(q,z)∈outI l k y ↔ (q=k∧z=y)∨((q,z)∈l.map absI∧q≠k):=by
 unfold outI;rw [List.mem_append,List.mem_append,List.mem_singleton]
 constructor
 · rintro ((h|h)|h)
   · obtain ⟨i,hi⟩:=List.getElem?_of_mem h
     rw [List.getElem?_take] at hi
     split at hi
     · rename_i hlt
       obtain ⟨hil,he⟩:=List.getElem?_eq_some_iff.1 hi;simp only [List.length_map] at hil
       simp only [List.getElem_map,absI,Prod.mk.injEq] at he
       refine .inr ⟨List.mem_of_mem_take h,fun e=>?_⟩;have:=atI_lt hil hlt;rw [he.1,e,ltK_irrefl] at this
       cases this
     · cases hi
   · injection h with h1 h2
     exact .inl ⟨h1,h2⟩
   · obtain ⟨i,hi⟩:=List.getElem?_of_mem h
     rw [List.getElem?_drop] at hi;obtain ⟨hil,he⟩:=List.getElem?_eq_some_iff.1 hi;simp only [List.length_map] at hil
     simp only [List.getElem_map,absI,Prod.mk.injEq] at he
     refine .inr ⟨List.mem_of_mem_drop h,fun e=>?_⟩;have:=above_at hs hil (Nat.le_add_right _ i);rw [he.1,e,ltK_irrefl] at this
     cases this
 · rintro (⟨rfl,rfl⟩|⟨h,hq⟩)
   · exact .inl (.inr rfl)
   · obtain ⟨x,hx,he⟩:=List.mem_map.1 h
     obtain ⟨i,hi,rfl⟩:=List.getElem_of_mem hx;simp only [absI,Prod.mk.injEq] at he
     by_cases h1:i<atI l k
     · refine .inl (.inl ?_)
       refine List.mem_of_getElem? (i:=i) ?_;rw [List.getElem?_take,if_pos h1];simp [hi,absI,he]
     · by_cases h2:(if hasI l k=true then atI l k+1 else atI l k)≤i
       · refine .inr ?_
         refine List.mem_of_getElem? (i:=i - (if hasI l k=true then atI l k+1 else atI l k)) ?_;rw [List.getElem?_drop,Nat.add_sub_cancel' h2];simp [hi,absI,he]
       · exfalso
         split at h2
         · rename_i hh
           have h3:i=atI l k:=by omega
           subst h3;obtain ⟨hl,hg⟩:=getL_has hh;unfold hasI at hh;rw [dif_pos hl] at hh;exact hq (he.1.symm.trans (of_decide_eq_true hh))
         · omega
theorem outI_sorted {l:List It} (hs:(keysI l).Pairwise (fun a b=>ltK a b=true)) (k:Ky) (y:Nd):((outI l k y).map (·.1)).Pairwise (fun a b=>ltK a b=true):=by
 unfold outI;simp only [List.map_append,List.map_cons,List.map_nil,List.map_take,List.map_drop,List.map_map]
 have e:(Prod.fst ∘ absI:It→Ky)=(·.key):=rfl;rw [show List.map ((fun x:Ky × Nd=>x.1) ∘ absI) l=keysI l from rfl];have hlow:∀q∈(keysI l).take (atI l k),ltK q k=true:=fun q hq=>by
  obtain ⟨i,hi⟩:=List.getElem?_of_mem hq;rw [List.getElem?_take] at hi
  split at hi
  · rename_i hlt
    have hil:i<l.length:=by have:=(List.getElem?_eq_some_iff.1 hi).1;simpa [keysI] using this
    rw [key_at hil] at hi;injection hi with hi
    rw [←hi];exact atI_lt hil hlt
  · cases hi
 have hhigh:∀q∈(keysI l).drop (if hasI l k=true then atI l k+1 else atI l k),ltK k q=true:=fun q hq=>by
  obtain ⟨i,hi⟩:=List.getElem?_of_mem hq;rw [List.getElem?_drop] at hi;have hil:(if hasI l k=true then atI l k+1 else atI l k)+i<l.length:=by have:=(List.getElem?_eq_some_iff.1 hi).1;simpa [keysI] using this
  rw [key_at hil] at hi;injection hi with hi
  rw [←hi];exact above_at hs hil (Nat.le_add_right _ i)
 rw [List.pairwise_append,List.pairwise_append];refine ⟨⟨hs.sublist (List.take_sublist _ _),List.pairwise_singleton _ _,fun a ha b hb=>?_⟩,hs.sublist (List.drop_sublist _ _),fun a ha b hb=>?_⟩
 · rw [List.mem_singleton.1 hb];exact hlow a ha
 · rcases List.mem_append.1 ha with ha|ha
   · exact ltK_trans (hlow a ha) (hhigh b hb)
   · rw [List.mem_singleton.1 ha];exact hhigh b hb
end
section
open Go.RowKit Go.Lib Go.Sort
theorem getL_mem {l:List It} {k:Ky} (h:hasI l k=true):(k,(getL l k).nd)∈l.map absI:=by
 obtain ⟨hl,hg⟩:=getL_has h;unfold hasI at h;rw [dif_pos hl] at h;have hk:=of_decide_eq_true h;exact List.mem_map.2 ⟨l[atI l k],List.getElem_mem hl,by rw [hg,absI,hk]⟩
end
section
open Go.RowKit Go.Lib Go.Sort
theorem sameN.ok {rs rh:Nat} {x y:Nd} (h:sameN x y) (hx:NdOk rs rh x):NdOk rs rh y:=⟨by rw [←h.1];exact hx.ris,by rw [←h.1];exact hx.len,by rw [←h.2.1];exact hx.past⟩
end
section
open Go.RowKit Go.Lib Go.Sort
structure CfgOk (c:Cfg) (rs rh:Nat):Prop where
 cfg:cfgB c=true
 sa:c.sa=(rs:Nat)
 hi:c.hi=(rh:Nat)
 ok:c.ok
theorem CfgOk.room {c:Cfg} {rs rh:Nat} (h:CfgOk c rs rh):RoomOk c rs rh:=by
 have hc:=h.cfg;have h1:=h.sa;have h2:=h.hi;unfold cfgB at hc;simp only [Bool.and_eq_true,decide_eq_true_eq] at hc
 exact ⟨h1,h2,by omega,by omega,by omega,by omega⟩
end
section
open Go.RowKit Go.Lib Go.Sort
deriving instance DecidableEq for Pol
end
section
open Go.RowKit Go.Lib
theorem foldN_pow (h b:Nat) (h1:1≤2 ^ b):foldN h b<2 ^ b:=by
 unfold foldN
 split
 · exact h1
 · exact Nat.mod_lt _ h1
theorem route_lt {hi lo:Nat} {n:Int} (hn:okSt n=true):0≤routeI hi lo n∧routeI hi lo n<n:=by
 unfold routeI;rw [if_pos hn];obtain ⟨j,hj,rfl⟩:∃j,j<7∧n=((2 ^ j:Nat):Int):=by
  rcases (okSt_iff n).1 hn with h|h|h|h|h|h|h
  · exact ⟨0,by omega,h⟩
  · exact ⟨1,by omega,h⟩
  · exact ⟨2,by omega,h⟩
  · exact ⟨3,by omega,h⟩
  · exact ⟨4,by omega,h⟩
  · exact ⟨5,by omega,h⟩
  · exact ⟨6,by omega,h⟩
 rw [bitsI_pow j hj];have:=foldN_pow (fnvKey hi lo) j (Nat.two_pow_pos j);simp only [Int.toNat_natCast]
 omega
end
end Go.Proofs.YtkcdhaallnhhmaaGreat
