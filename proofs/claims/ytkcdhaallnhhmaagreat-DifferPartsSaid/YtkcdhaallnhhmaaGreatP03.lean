/- Part 3 of the proof: MapIn, NumP, NPost. -/
import Derived.Maps.OwnSet
import Derived.Maps.RangeRun
import Derived.Test.YtkcdhaallnhhmaaGreatP01
namespace Go.Proofs.YtkcdhaallnhhmaaGreat
set_option linter.unusedSimpArgs false
set_option linter.unusedVariables false
set_option linter.unusedSectionVars false
set_option maxRecDepth 100000
set_option maxHeartbeats 16000000
section
open Go.RowKit Go.Lib
open Go.Maps (Keyed)
open Go.ChangeMaps (setBlock modify_eq_set map_eraseIdx)
theorem nodup_inj {α:Type}:∀{l:List α},l.Nodup→∀{i j:Nat} {x:α},l[i]?=some x→l[j]?=some x→i=j
  | [],_,i,j,x,h,_=>by simp at h
  | a::l,hn,0,0,x,_,_=>rfl
  | a::l,hn,0,j+1,x,h,k=>by
    rw [List.nodup_cons] at hn;simp at h k
    exact absurd (h ▸ List.mem_of_getElem? k) hn.1
  | a::l,hn,i+1,0,x,h,k=>by
    rw [List.nodup_cons] at hn;simp at h k
    exact absurd (k ▸ List.mem_of_getElem? h) hn.1
  | a::l,hn,i+1,j+1,x,h,k=>by
    rw [List.nodup_cons] at hn;simp at h k
    rw [nodup_inj hn.2 h k]
def MapIn {α β:Type} (K:α→Value) (V:β→Value) (w:World) (b:Nat) (es:List (α × β)):Prop :=
 ∃ents clock,w.heap[b]?=some (.map ents clock)∧ents.toList.map (fun e=>(e.key,e.val))=es.map (fun p=>(K p.1,V p.2))∧(ents.toList.map (·.born)).Nodup∧(∀e∈ents.toList,e.born<clock)∧(es.map (·.1)).Nodup
section
variable {α β:Type} [DecidableEq α]
def findM (es:List (α × β)) (x:α):Option β:=(es.find? (fun p=>p.1=x)).map (·.2)
def hasM (es:List (α × β)) (x:α):Bool:=es.any (fun p=>p.1=x)
def putM (es:List (α × β)) (x:α) (v:β):List (α × β):=if hasM es x then es.map (fun p=>if p.1=x then (x,v) else p) else es++[(x,v)]
def delM (es:List (α × β)) (x:α):List (α × β):=es.filter (fun p=>¬p.1=x)
theorem keys_putM (es:List (α × β)) (x:α) (v:β):(putM es x v).map (·.1)=if hasM es x then es.map (·.1) else es.map (·.1)++[x]:=by
 unfold putM
 split
 · rw [List.map_map]
   refine List.map_congr_left (fun p _=>?_);simp only [Function.comp]
   split
   · rename_i h;exact h.symm
   · rfl
 · simp
theorem hasM_iff (es:List (α × β)) (x:α):hasM es x=true ↔ x∈es.map (·.1):=by
 simp [hasM]
theorem nodup_putM {es:List (α × β)} (h:(es.map (·.1)).Nodup) (x:α) (v:β):((putM es x v).map (·.1)).Nodup:=by
 rw [keys_putM]
 split
 · exact h
 · rename_i hn
   have:x∉es.map (·.1):=fun hx=>hn ((hasM_iff es x).2 hx)
   rw [List.nodup_append];refine ⟨h,by simp,fun a ha b hb=>?_⟩;rw [List.mem_singleton.1 hb];exact fun e=>this (e ▸ ha)
theorem nodup_delM {es:List (α × β)} (h:(es.map (·.1)).Nodup) (x:α):((delM es x).map (·.1)).Nodup :=
 h.sublist (List.Sublist.map _ List.filter_sublist)
theorem findM_none {es:List (α × β)} {x:α} (h:hasM es x=false):findM es x=none:=by
 simp only [findM,Option.map_eq_none_iff,List.find?_eq_none]
 intro p hp;simp only [hasM,List.any_eq_false] at h
 exact h p hp
theorem findM_some {es:List (α × β)} {x:α} (h:hasM es x=true):∃v,findM es x=some v∧(x,v)∈es:=by
 simp only [hasM,List.any_eq_true,decide_eq_true_eq] at h
 obtain ⟨p,hp,rfl⟩:=h
 cases hf:es.find? (fun q=>q.1=p.1) with
 | none =>
   rw [List.find?_eq_none] at hf;exact absurd (decide_eq_true rfl) (hf p hp)
 | some q =>
   have h1:=List.find?_some hf;have h2:=List.mem_of_find?_eq_some hf;simp at h1
   exact ⟨q.2,by simp [findM,hf],by rw [←h1];exact h2⟩
end
section
variable {α β:Type} [DecidableEq α] {K:α→Value} {V:β→Value} {P:Program} {k t e:TypeId} {w:World} {b:Nat} {es:List (α × β)}
theorem MapIn.lt (h:MapIn K V w b es):b<w.heap.size:=by
 obtain ⟨ents,clock,hb,_⟩:=h;exact (jL hb)
theorem MapIn.block {w':World} (h:MapIn K V w b es) (hb:w'.heap[b]?=w.heap[b]?):MapIn K V w' b es:=by
 obtain ⟨ents,clock,h1,h2⟩:=h;exact ⟨ents,clock,hb.trans h1,h2⟩
theorem MapIn.below {w':World} (h:MapIn K V w b es) (hb:jB w w'):MapIn K V w' b es:=h.block (hb.block b h.lt)
theorem MapIn.made (w:World):MapIn K V (w.alloc (.map #[] 0)) w.heap.size ([]:List (α × β)) :=
 ⟨#[],0,(MapKept.heap_alloc w _).1,rfl,List.nodup_nil,fun _ h=>by simp at h,List.nodup_nil⟩
structure KeysBy (P:Program) (k:TypeId) (K:α→Value):Prop where
 law:Keyed P k
 key:∀x,∃l,keyOf P k (K x)=some l
 inj:∀x y,K x=K y→x=y
theorem ents_at {ents:List MapEntry} (hm:ents.map (fun e=>(e.key,e.val))=es.map (fun p=>(K p.1,V p.2))) {j:Nat} {e0:MapEntry} (h:ents[j]?=some e0):∃p,es[j]?=some p∧e0.key=K p.1∧e0.val=V p.2:=by
 have:=congrArg (·[j]?) hm;simp only [List.getElem?_map,h,Option.map_some] at this
 cases hp:es[j]? with
 | none=>rw [hp] at this;cases this
 | some p =>
   rw [hp] at this;simp only [Option.map_some,Option.some.injEq,Prod.mk.injEq] at this
   exact ⟨p,rfl,this.1,this.2⟩
theorem ents_mem {ents:List MapEntry} (hm:ents.map (fun e=>(e.key,e.val))=es.map (fun p=>(K p.1,V p.2))) {e0:MapEntry} (h:e0∈ents):∃p∈es,e0.key=K p.1∧e0.val=V p.2:=by
 obtain ⟨j,hj⟩:=List.getElem?_of_mem h;obtain ⟨p,h1,h2⟩:=ents_at hm hj;exact ⟨p,List.mem_of_getElem? h1,h2⟩
theorem MapIn.find (B:KeysBy P k K) {ents:Array MapEntry} (hm:ents.toList.map (fun e=>(e.key,e.val))=es.map (fun p=>(K p.1,V p.2))) (hn:(es.map (·.1)).Nodup) (w:World) (x:α) :
 ((Instr.findKey k (K x) ents.toList).run P w=.ok none w∧hasM es x=false) ∨
 ∃j e0 v,(Instr.findKey k (K x) ents.toList).run P w=.ok (some (j,V v)) w∧ents.toList[j]?=some e0∧e0.key=K x∧es[j]?=some (x,v)∧findM es x=some v∧hasM es x=true:=by
 obtain ⟨l,hl⟩:=B.key x
 rcases B.law.find w hl ents.toList (fun e he=>by obtain ⟨p,_,h1,_⟩:=ents_mem hm he;rw [h1];exact B.key p.1) with ⟨h1,h2⟩|⟨j,e0,h1,h2,h3⟩
 · refine .inl ⟨h1,?_⟩
   rw [hasM,List.any_eq_false];intro p hp;simp only [decide_eq_true_eq]
   rintro rfl;obtain ⟨j,hj⟩:=List.getElem?_of_mem hp;have:=congrArg (·[j]?) hm;simp only [List.getElem?_map,hj,Option.map_some] at this
   cases he:ents.toList[j]? with
   | none=>rw [he] at this;cases this
   | some e0 =>
     rw [he] at this;simp only [Option.map_some,Option.some.injEq,Prod.mk.injEq] at this
     exact h2 e0 (List.mem_of_getElem? he) this.1
 · obtain ⟨p,hp,hk,hv⟩:=ents_at hm h2
   have hpx:p.1=x:=B.inj _ _ (hk.symm.trans h3);obtain ⟨x',v⟩:=p;simp only at hpx hv
   subst hpx;have hh:hasM es x'=true:=by rw [hasM_iff];exact List.mem_map.2 ⟨_,List.mem_of_getElem? hp,rfl⟩
   obtain ⟨v',hf,hmem⟩:=findM_some hh;refine .inr ⟨j,e0,v,by rw [h1,hv],h2,h3,hp,?_,hh⟩;rw [hf];obtain ⟨i,hi⟩:=List.getElem?_of_mem hmem;have hi1:(es.map (·.1))[i]?=some x':=by simp [hi]
   have hj1:(es.map (·.1))[j]?=some x':=by simp [hp]
   have hij:i=j:=nodup_inj hn hi1 hj1;subst hij;rw [hp] at hi;injection hi with hi
   injection hi with _ hi
   rw [hi]
theorem MapIn.look (h:MapIn K V w b es) (B:KeysBy P k K) (ht:P.underlying t=some (.map k e)) {z:Value} (hz:(zeroValue e).run P w=.ok z w) (c:Bool) (x:α) :
 (Instr.lookup t (.map (some b)) (K x) c).run P w=.ok (if c then .tuple #[((findM es x).map V).getD z,.bool (hasM es x)] else ((findM es x).map V).getD z) w:=by
 obtain ⟨ents,clock,hb,hm,_,_,hn⟩:=h;obtain ⟨l,hl⟩:=B.key x
 rcases MapIn.find B hm hn w x with ⟨h1,h2⟩|⟨j,e0,v,h1,_,_,_,h5,h6⟩
 · simp [Instr.lookup,run_underlying ht,MapKept.run_getObj_map hb,B.law.check w _ hl,h1,hz,findM_none h2,h2,Result.andThen]
 · simp [Instr.lookup,run_underlying ht,MapKept.run_getObj_map hb,B.law.check w _ hl,h1,h5,h6,Result.andThen]
theorem map_set_eq {γ δ:Type} (f:γ→δ) (l:List γ) (j:Nat) (y:γ):(l.set j y).map f=(l.map f).set j (f y):=by simp
theorem MapIn.store (h:MapIn K V w b es) (B:KeysBy P k K) (ht:P.underlying t=some (.map k e)) (x:α) (v:β) :
 ∃o,(Instr.mapUpdate t (.map (some b)) (K x) (V v)).run P w=.ok () (setBlock w b o)∧MapIn K V (setBlock w b o) b (putM es x v):=by
 have hlt:=h.lt;obtain ⟨ents,clock,hb,hm,hbn,hcl,hn⟩:=h;obtain ⟨l,hl⟩:=B.key x;have hself:∀o,(setBlock w b o).heap[b]?=some o:=fun o=>by simp [setBlock,hlt]
 rcases MapIn.find B hm hn w x with ⟨h1,h2⟩|⟨j,e0,v0,h1,h3,h4,h5,_,h6⟩
 · refine ⟨.map (ents.push ⟨K x,V v,clock⟩) (clock+1),?_,_,_,hself _,?_,?_,?_,nodup_putM hn x v⟩
   · simp [Instr.mapUpdate,run_underlying ht,MapKept.run_getObj_map hb,B.law.check w false hl,h1,MapKept.run_setObj_map _ hb,Result.andThen,setBlock]
   · rw [putM,if_neg (by rw [h2];simp),Array.toList_push,List.map_append,hm,List.map_append]
     rfl
   · rw [Array.toList_push,List.map_append,List.nodup_append]
     refine ⟨hbn,by simp,fun a ha c hc=>?_⟩;simp only [List.map_cons,List.map_nil,List.mem_singleton] at hc
     obtain ⟨e1,he1,rfl⟩:=List.mem_map.1 ha;have:=hcl e1 he1;omega
   · intro e1 he1
     rw [Array.toList_push,List.mem_append,List.mem_singleton] at he1
     rcases he1 with he1|rfl
     · have:=hcl e1 he1;omega
     · exact Nat.lt_succ_self _
 · have hjl:j<ents.toList.length:=(List.getElem?_eq_some_iff.1 h3).1
   have hj:ents[j]?=some e0:=by simpa using h3
   have hlist:(ents.modify j (fun e'=>{ e' with key:=K x,val:=V v })).toList=ents.toList.set j { e0 with key:=K x,val:=V v }:=by rw [Array.toList_modify,modify_eq_set _ _ _ _ h3]
   refine ⟨.map (ents.modify j (fun e'=>{ e' with key:=K x,val:=V v })) clock,?_,_,_,hself _,?_,?_,?_,nodup_putM hn x v⟩
   · simp [Instr.mapUpdate,run_underlying ht,MapKept.run_getObj_map hb,B.law.check w false hl,h1,hj,h4,B.law.stays w hl,MapKept.run_setObj_map _ hb,Result.andThen,setBlock]
   · rw [hlist,map_set_eq,hm,putM,if_pos h6]
     apply List.ext_getElem?
     intro i;simp only [List.getElem?_set,List.getElem?_map,List.length_map]
     by_cases hij:j=i
     · subst hij
       have hjl':=(List.getElem?_eq_some_iff.1 h5).1;rw [if_pos rfl,if_pos hjl',h5];simp
     · rw [if_neg hij]
       cases hi:es[i]? with
       | none=>rfl
       | some q =>
         have hne:¬q.1=x:=by
          intro hq;have hi1:(es.map (·.1))[i]?=some x:=by simp [hi,hq]
          have hj1:(es.map (·.1))[j]?=some x:=by simp [h5]
          exact hij (nodup_inj hn hj1 hi1)
         simp [hne]
   · rw [hlist,map_set_eq]
     have:(ents.toList.map (·.born)).set j e0.born=ents.toList.map (·.born):=by
      apply List.ext_getElem?
      intro i;rw [List.getElem?_set]
      split
      · rename_i h
        subst h;rw [if_pos (by simpa using hjl),List.getElem?_map,h3];rfl
      · rfl
     simp only [this]
     exact hbn
   · intro e1 he1
     rw [hlist] at he1
     rcases List.mem_or_eq_of_mem_set he1 with he1|rfl
     · exact hcl e1 he1
     · exact hcl e0 (List.mem_of_getElem? h3)
theorem filter_erase {es:List (α × β)} (hn:(es.map (·.1)).Nodup) {x:α} {v:β} {j:Nat} (h:es[j]?=some (x,v)):delM es x=es.eraseIdx j:=by
 induction es generalizing j with
 | nil=>simp at h
 | cons p es ih =>
   rw [List.map_cons,List.nodup_cons] at hn
   cases j with
   | zero =>
     simp at h
     subst h;rw [delM,List.filter_cons_of_neg (by simp),List.eraseIdx_zero,List.tail_cons];refine List.filter_eq_self.2 (fun q hq=>?_);simp only [decide_eq_true_eq]
     intro e1;exact hn.1 (List.mem_map.2 ⟨q,hq,e1⟩)
   | succ j =>
     simp at h
     have hpx:¬p.1=x:=fun e1=>hn.1 (List.mem_map.2 ⟨_,List.mem_of_getElem? h,e1.symm⟩)
     rw [delM,List.filter_cons_of_pos (by simpa using hpx),List.eraseIdx_cons_succ];exact congrArg (p::·) (ih hn.2 h)
theorem MapIn.drop (h:MapIn K V w b es) (B:KeysBy P k K) (ht:P.underlying t=some (.map k e)) (x:α) (ty:TypeId) :
 ∃o,(Builtin.delete_ #[t,k] ty #[.map (some b),K x]).run P w=.ok (.tuple #[]) (setBlock w b o)∧MapIn K V (setBlock w b o) b (delM es x):=by
 have hlt:=h.lt;obtain ⟨ents,clock,hb,hm,hbn,hcl,hn⟩:=h;obtain ⟨l,hl⟩:=B.key x;have hself:∀o,(setBlock w b o).heap[b]?=some o:=fun o=>by simp [setBlock,hlt]
 rcases MapIn.find B hm hn w x with ⟨h1,h2⟩|⟨j,e0,v0,h1,h3,h4,h5,_,h6⟩
 · refine ⟨.map ents clock,?_,_,_,hself _,?_,hbn,hcl,nodup_delM hn x⟩
   · simp [Builtin.delete_,run_underlying ht,MapKept.run_getObj_map hb,B.law.check w _ hl,h1,MapKept.run_setObj_map _ hb,Result.andThen,setBlock]
   · rw [hm]
     have:delM es x=es:=List.filter_eq_self.2 (fun q hq=>by
      simp only [hasM,List.any_eq_false,decide_eq_true_eq] at h2
      simpa using h2 q hq)
     rw [this]
 · have hjl:j<ents.toList.length:=(List.getElem?_eq_some_iff.1 h3).1
   have hjs:j<ents.size:=by simpa using hjl
   have hsub:(ents.eraseIdxIfInBounds j).toList=ents.toList.eraseIdx j:=by
    unfold Array.eraseIdxIfInBounds;rw [dif_pos hjs];simp
   refine ⟨.map (ents.eraseIdxIfInBounds j) clock,?_,_,_,hself _,?_,?_,?_,nodup_delM hn x⟩
   · simp [Builtin.delete_,run_underlying ht,MapKept.run_getObj_map hb,B.law.check w _ hl,h1,MapKept.run_setObj_map _ hb,Result.andThen,setBlock]
   · rw [hsub,map_eraseIdx,hm,filter_erase hn h5,map_eraseIdx]
   · rw [hsub]
     exact hbn.sublist ((List.eraseIdx_sublist _ _).map _)
   · intro e1 he1
     rw [hsub] at he1;exact hcl e1 ((List.eraseIdx_sublist _ _).subset he1)
end
end
section
open Go.RowKit Go.Lib
theorem bit_nat (n i:Nat):(n.testBit i).toNat=n / 2 ^ i % 2:=by
 rw [Nat.testBit_eq_decide_div_mod_eq];have h:=Nat.mod_two_eq_zero_or_one (n / 2 ^ i)
 rcases h with h|h <;> simp [h]
theorem top_bit (n i:Nat):n / 2 ^ i=2 * (n / 2 ^ (i+1))+(n.testBit i).toNat:=by
 rw [bit_nat,Nat.pow_succ,←Nat.div_div_eq_div_mul];omega
def totN:List Int→Nat
  | []=>0
  | n::l=>n.toNat+totN l
theorem totN_append:∀a b:List Int,totN (a++b)=totN a+totN b
  | [],b=>by simp [totN]
  | n::a,b=>by simp [totN,totN_append a b];omega
theorem totN_le {l:List Int} (h:∀n∈l,n≤9223372036854775807):totN l≤l.length * 9223372036854775807:=by
 induction l with
 | nil=>simp [totN]
 | cons n l ih =>
   have h1:=h n (by simp);have h2:=ih (fun m hm=>h m (by simp [hm]));simp only [totN,List.length_cons]
   omega
def meanN (l:List Int):Nat:=if l=[] then 0 else (totN l+(l.length - 1)) / l.length
theorem meanN_le {l:List Int} (h:∀n∈l,n≤9223372036854775807):meanN l≤9223372036854775807:=by
 unfold meanN
 split
 · omega
 · rename_i hne
   have hp:0<l.length:=List.length_pos_iff.2 hne;have:=totN_le h
   apply Nat.le_of_lt_succ
   rw [Nat.div_lt_iff_lt_mul hp];rw [Nat.mul_comm] at this;generalize l.length=n at *;have e:(9223372036854775807+1) * n=9223372036854775807 * n+n:=by omega
   rw [e];omega
end
section
theorem post_named {P:Program} {f:Func} {Q:Ending→World→Prop} {e:Exit} {a:Act} {w:World} (h:∀W,W=w→bodyPost P f Q e a W):bodyPost P f Q e a w:=h w rfl
theorem then_named {K:Act→World→Prop} {Q:Exit→Act→World→Prop} {a:Act} {w:World} (h:∀W,W=w→Exit.then K Q Exit.normal a W):Exit.then K Q Exit.normal a w:=h w rfl
end
end Go.Proofs.YtkcdhaallnhhmaaGreat
