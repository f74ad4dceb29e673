/- Part 3 of the proof. -/
import Derived.Maps.OwnSet
import Derived.Maps.RangeRun
import Derived.Test.YtmniiodpbebnmaaGreatJ02
import Derived.DeepKeys5
import Derived.ChangeMaps5
namespace Go.Proofs.YtmniiodpbebnmaaGreat
set_option linter.unusedSimpArgs false
set_option linter.unusedVariables false
set_option linter.unusedSectionVars false
set_option maxRecDepth 100000
set_option maxHeartbeats 16000000
section
open Go.RowKit Go.Lib
open Go.Maps (Keyed)
open Go.ChangeMaps (setBlock modify_eq_set map_eraseIdx)
section
theorem d0O {α:Type}:∀{l:List α},l.Nodup→∀{i j:Nat} {x:α},l[i]?=some x→l[j]?=some x→i=j
  | [],_,i,j,x,h,_=>by simp at h
  | a::l,hn,0,0,x,_,_=>rfl
  | a::l,hn,0,j+1,x,h,k=>by
    rw [List.nodup_cons] at hn;simp at h k
    exact absurd (h ▸ List.mem_of_getElem? k) hn.1
  | a::l,hn,i+1,0,x,h,k=>by
    rw [List.nodup_cons] at hn;simp at h k
    exact absurd (k ▸ List.mem_of_getElem? h) hn.1
  | a::l,hn,i+1,j+1,x,h,k=>by
    rw [List.nodup_cons] at hn;simp at h k
    rw [d0O hn.2 h k]
def a0V {α β:Type} (K:α→Value) (V:β→Value) (w:World) (b:Nat) (es:List (α × β)):Prop :=
 ∃ents clock,w.heap[b]?=some (.map ents clock)∧ents.toList.map (fun e=>(e.key,e.val))=es.map (fun p=>(K p.1,V p.2))∧(ents.toList.map (·.born)).Nodup∧(∀e∈ents.toList,e.born<clock)∧(es.map (·.1)).Nodup
section
variable {α β:Type} [DecidableEq α]
def a0L (es:List (α × β)) (x:α):Option β:=(es.find? (fun p=>p.1=x)).map (·.2)
def d0B (es:List (α × β)) (x:α):Bool:=es.any (fun p=>p.1=x)
def d0F (es:List (α × β)) (x:α) (v:β):List (α × β):=if d0B es x then es.map (fun p=>if p.1=x then (x,v) else p) else es++[(x,v)]
def r0G (es:List (α × β)) (x:α):List (α × β):=es.filter (fun p=>¬p.1=x)
theorem h0L (es:List (α × β)) (x:α) (v:β):(d0F es x v).map (·.1)=if d0B es x then es.map (·.1) else es.map (·.1)++[x]:=by
 unfold d0F
 split
 · rw [List.map_map]
   refine List.map_congr_left (fun p _=>?_);simp only [Function.comp]
   split
   · rename_i h;exact h.symm
   · rfl
 · simp
theorem c0D (es:List (α × β)) (x:α):d0B es x=true ↔ x∈es.map (·.1):=by
 simp [d0B]
theorem h0U {es:List (α × β)} (h:(es.map (·.1)).Nodup) (x:α) (v:β):((d0F es x v).map (·.1)).Nodup:=by
 rw [h0L]
 split
 · exact h
 · rename_i hn
   have:x∉es.map (·.1):=fun hx=>hn ((c0D es x).2 hx)
   rw [List.nodup_append];refine ⟨h,by simp,fun a ha b hb=>?_⟩;rw [List.mem_singleton.1 hb];exact fun e=>this (e ▸ ha)
theorem p0L {es:List (α × β)} (h:(es.map (·.1)).Nodup) (x:α):((r0G es x).map (·.1)).Nodup :=
 h.sublist (List.Sublist.map _ List.filter_sublist)
theorem f0G {es:List (α × β)} {x:α} (h:d0B es x=false):a0L es x=none:=by
 simp only [a0L,Option.map_eq_none_iff,List.find?_eq_none]
 intro p hp;simp only [d0B,List.any_eq_false] at h
 exact h p hp
theorem c0F {es:List (α × β)} {x:α} (h:d0B es x=true):∃v,a0L es x=some v∧(x,v)∈es:=by
 simp only [d0B,List.any_eq_true,decide_eq_true_eq] at h
 obtain ⟨p,hp,rfl⟩:=h
 cases hf:es.find? (fun q=>q.1=p.1) with
 | none =>
   rw [List.find?_eq_none] at hf;exact absurd (decide_eq_true rfl) (hf p hp)
 | some q =>
   have h1:=List.find?_some hf;have h2:=List.mem_of_find?_eq_some hf;simp at h1
   exact ⟨q.2,by simp [a0L,hf],by rw [←h1];exact h2⟩
end
section
variable {α β:Type} [DecidableEq α] {K:α→Value} {V:β→Value} {P:Program} {k t e:TypeId} {w:World} {b:Nat} {es:List (α × β)}
theorem a0V.lt (h:a0V K V w b es):b<w.heap.size:=by
 obtain ⟨ents,clock,hb,_⟩:=h;exact (jL hb)
theorem a0V.block {w':World} (h:a0V K V w b es) (hb:w'.heap[b]?=w.heap[b]?):a0V K V w' b es:=by
 obtain ⟨ents,clock,h1,h2⟩:=h;exact ⟨ents,clock,hb.trans h1,h2⟩
theorem a0V.below {w':World} (h:a0V K V w b es) (hb:jB w w'):a0V K V w' b es:=h.block (hb.block b h.lt)
theorem a0V.made (w:World):a0V K V (w.alloc (.map #[] 0)) w.heap.size ([]:List (α × β)) :=
 ⟨#[],0,(MapKept.heap_alloc w _).1,rfl,List.nodup_nil,fun _ h=>by simp at h,List.nodup_nil⟩
structure m0T (P:Program) (k:TypeId) (K:α→Value):Prop where
 law:Keyed P k
 key:∀x,∃l,keyOf P k (K x)=some l
 inj:∀x y,K x=K y→x=y
theorem q0Z {ents:List MapEntry} (hm:ents.map (fun e=>(e.key,e.val))=es.map (fun p=>(K p.1,V p.2))) {j:Nat} {e0:MapEntry} (h:ents[j]?=some e0):∃p,es[j]?=some p∧e0.key=K p.1∧e0.val=V p.2:=by
 have:=congrArg (·[j]?) hm;simp only [List.getElem?_map,h,Option.map_some] at this
 cases hp:es[j]? with
 | none=>rw [hp] at this;cases this
 | some p =>
   rw [hp] at this;simp only [Option.map_some,Option.some.injEq,Prod.mk.injEq] at this
   exact ⟨p,rfl,this.1,this.2⟩
theorem r0E {ents:List MapEntry} (hm:ents.map (fun e=>(e.key,e.val))=es.map (fun p=>(K p.1,V p.2))) {e0:MapEntry} (h:e0∈ents):∃p∈es,e0.key=K p.1∧e0.val=V p.2:=by
 obtain ⟨j,hj⟩:=List.getElem?_of_mem h;obtain ⟨p,h1,h2⟩:=q0Z hm hj;exact ⟨p,List.mem_of_getElem? h1,h2⟩
theorem a0V.find (B:m0T P k K) {ents:Array MapEntry} (hm:ents.toList.map (fun e=>(e.key,e.val))=es.map (fun p=>(K p.1,V p.2))) (hn:(es.map (·.1)).Nodup) (w:World) (x:α) :
 ((Instr.findKey k (K x) ents.toList).run P w=.ok none w∧d0B es x=false) ∨
 ∃j e0 v,(Instr.findKey k (K x) ents.toList).run P w=.ok (some (j,V v)) w∧ents.toList[j]?=some e0∧e0.key=K x∧es[j]?=some (x,v)∧a0L es x=some v∧d0B es x=true:=by
 obtain ⟨l,hl⟩:=B.key x
 rcases B.law.find w hl ents.toList (fun e he=>by obtain ⟨p,_,h1,_⟩:=r0E hm he;rw [h1];exact B.key p.1) with ⟨h1,h2⟩|⟨j,e0,h1,h2,h3⟩
 · refine .inl ⟨h1,?_⟩
   rw [d0B,List.any_eq_false];intro p hp;simp only [decide_eq_true_eq]
   rintro rfl;obtain ⟨j,hj⟩:=List.getElem?_of_mem hp;have:=congrArg (·[j]?) hm;simp only [List.getElem?_map,hj,Option.map_some] at this
   cases he:ents.toList[j]? with
   | none=>rw [he] at this;cases this
   | some e0 =>
     rw [he] at this;simp only [Option.map_some,Option.some.injEq,Prod.mk.injEq] at this
     exact h2 e0 (List.mem_of_getElem? he) this.1
 · obtain ⟨p,hp,hk,hv⟩:=q0Z hm h2
   have hpx:p.1=x:=B.inj _ _ (hk.symm.trans h3);obtain ⟨x',v⟩:=p;simp only at hpx hv
   subst hpx;have hh:d0B es x'=true:=by rw [c0D];exact List.mem_map.2 ⟨_,List.mem_of_getElem? hp,rfl⟩
   obtain ⟨v',hf,hmem⟩:=c0F hh;refine .inr ⟨j,e0,v,by rw [h1,hv],h2,h3,hp,?_,hh⟩;rw [hf];obtain ⟨i,hi⟩:=List.getElem?_of_mem hmem;have hi1:(es.map (·.1))[i]?=some x':=by simp [hi]
   have hj1:(es.map (·.1))[j]?=some x':=by simp [hp]
   have hij:i=j:=d0O hn hi1 hj1;subst hij;rw [hp] at hi;injection hi with hi
   injection hi with _ hi
   rw [hi]
theorem a0V.look (h:a0V K V w b es) (B:m0T P k K) (ht:P.underlying t=some (.map k e)) {z:Value} (hz:(zeroValue e).run P w=.ok z w) (c:Bool) (x:α) :
 (Instr.lookup t (.map (some b)) (K x) c).run P w=.ok (if c then .tuple #[((a0L es x).map V).getD z,.bool (d0B es x)] else ((a0L es x).map V).getD z) w:=by
 obtain ⟨ents,clock,hb,hm,_,_,hn⟩:=h;obtain ⟨l,hl⟩:=B.key x
 rcases a0V.find B hm hn w x with ⟨h1,h2⟩|⟨j,e0,v,h1,_,_,_,h5,h6⟩
 · simp [Instr.lookup,run_underlying ht,MapKept.run_getObj_map hb,B.law.check w _ hl,h1,hz,f0G h2,h2,Result.andThen]
 · simp [Instr.lookup,run_underlying ht,MapKept.run_getObj_map hb,B.law.check w _ hl,h1,h5,h6,Result.andThen]
theorem p0B {γ δ:Type} (f:γ→δ) (l:List γ) (j:Nat) (y:γ):(l.set j y).map f=(l.map f).set j (f y):=by simp
theorem a0V.store (h:a0V K V w b es) (B:m0T P k K) (ht:P.underlying t=some (.map k e)) (x:α) (v:β) :
 ∃o,(Instr.mapUpdate t (.map (some b)) (K x) (V v)).run P w=.ok () (setBlock w b o)∧a0V K V (setBlock w b o) b (d0F es x v):=by
 have hlt:=h.lt;obtain ⟨ents,clock,hb,hm,hbn,hcl,hn⟩:=h;obtain ⟨l,hl⟩:=B.key x;have hself:∀o,(setBlock w b o).heap[b]?=some o:=fun o=>by simp [setBlock,hlt]
 rcases a0V.find B hm hn w x with ⟨h1,h2⟩|⟨j,e0,v0,h1,h3,h4,h5,_,h6⟩
 · refine ⟨.map (ents.push ⟨K x,V v,clock⟩) (clock+1),?_,_,_,hself _,?_,?_,?_,h0U hn x v⟩
   · simp [Instr.mapUpdate,run_underlying ht,MapKept.run_getObj_map hb,B.law.check w false hl,h1,MapKept.run_setObj_map _ hb,Result.andThen,setBlock]
   · rw [d0F,if_neg (by rw [h2];simp),Array.toList_push,List.map_append,hm,List.map_append]
     rfl
   · rw [Array.toList_push,List.map_append,List.nodup_append]
     refine ⟨hbn,by simp,fun a ha c hc=>?_⟩;simp only [List.map_cons,List.map_nil,List.mem_singleton] at hc
     obtain ⟨e1,he1,rfl⟩:=List.mem_map.1 ha;have:=hcl e1 he1;omega
   · intro e1 he1
     rw [Array.toList_push,List.mem_append,List.mem_singleton] at he1
     rcases he1 with he1|rfl
     · have:=hcl e1 he1;omega
     · exact Nat.lt_succ_self _
 · have hjl:j<ents.toList.length:=(List.getElem?_eq_some_iff.1 h3).1
   have hj:ents[j]?=some e0:=by simpa using h3
   have hlist:(ents.modify j (fun e'=>{ e' with key:=K x,val:=V v })).toList=ents.toList.set j { e0 with key:=K x,val:=V v }:=by rw [Array.toList_modify,modify_eq_set _ _ _ _ h3]
   refine ⟨.map (ents.modify j (fun e'=>{ e' with key:=K x,val:=V v })) clock,?_,_,_,hself _,?_,?_,?_,h0U hn x v⟩
   · simp [Instr.mapUpdate,run_underlying ht,MapKept.run_getObj_map hb,B.law.check w false hl,h1,hj,h4,B.law.stays w hl,MapKept.run_setObj_map _ hb,Result.andThen,setBlock]
   · rw [hlist,p0B,hm,d0F,if_pos h6]
     apply List.ext_getElem?
     intro i;simp only [List.getElem?_set,List.getElem?_map,List.length_map]
     by_cases hij:j=i
     · subst hij
       have hjl':=(List.getElem?_eq_some_iff.1 h5).1;rw [if_pos rfl,if_pos hjl',h5];simp
     · rw [if_neg hij]
       cases hi:es[i]? with
       | none=>rfl
       | some q =>
         have hne:¬q.1=x:=by
          intro hq;have hi1:(es.map (·.1))[i]?=some x:=by simp [hi,hq]
          have hj1:(es.map (·.1))[j]?=some x:=by simp [h5]
          exact hij (d0O hn hj1 hi1)
         simp [hne]
   · rw [hlist,p0B]
     have:(ents.toList.map (·.born)).set j e0.born=ents.toList.map (·.born):=by
      apply List.ext_getElem?
      intro i;rw [List.getElem?_set]
      split
      · rename_i h
        subst h;rw [if_pos (by simpa using hjl),List.getElem?_map,h3];rfl
      · rfl
     simp only [this]
     exact hbn
   · intro e1 he1
     rw [hlist] at he1
     rcases List.mem_or_eq_of_mem_set he1 with he1|rfl
     · exact hcl e1 he1
     · exact hcl e0 (List.mem_of_getElem? h3)
theorem l0Q {es:List (α × β)} (hn:(es.map (·.1)).Nodup) {x:α} {v:β} {j:Nat} (h:es[j]?=some (x,v)):r0G es x=es.eraseIdx j:=by
 induction es generalizing j with
 | nil=>simp at h
 | cons p es ih =>
   rw [List.map_cons,List.nodup_cons] at hn
   cases j with
   | zero =>
     simp at h
     subst h;rw [r0G,List.filter_cons_of_neg (by simp),List.eraseIdx_zero,List.tail_cons];refine List.filter_eq_self.2 (fun q hq=>?_);simp only [decide_eq_true_eq]
     intro e1;exact hn.1 (List.mem_map.2 ⟨q,hq,e1⟩)
   | succ j =>
     simp at h
     have hpx:¬p.1=x:=fun e1=>hn.1 (List.mem_map.2 ⟨_,List.mem_of_getElem? h,e1.symm⟩)
     rw [r0G,List.filter_cons_of_pos (by simpa using hpx),List.eraseIdx_cons_succ];exact congrArg (p::·) (ih hn.2 h)
theorem a0V.drop (h:a0V K V w b es) (B:m0T P k K) (ht:P.underlying t=some (.map k e)) (x:α) (ty:TypeId) :
 ∃o,(Builtin.delete_ #[t,k] ty #[.map (some b),K x]).run P w=.ok (.tuple #[]) (setBlock w b o)∧a0V K V (setBlock w b o) b (r0G es x):=by
 have hlt:=h.lt;obtain ⟨ents,clock,hb,hm,hbn,hcl,hn⟩:=h;obtain ⟨l,hl⟩:=B.key x;have hself:∀o,(setBlock w b o).heap[b]?=some o:=fun o=>by simp [setBlock,hlt]
 rcases a0V.find B hm hn w x with ⟨h1,h2⟩|⟨j,e0,v0,h1,h3,h4,h5,_,h6⟩
 · refine ⟨.map ents clock,?_,_,_,hself _,?_,hbn,hcl,p0L hn x⟩
   · simp [Builtin.delete_,run_underlying ht,MapKept.run_getObj_map hb,B.law.check w _ hl,h1,MapKept.run_setObj_map _ hb,Result.andThen,setBlock]
   · rw [hm]
     have:r0G es x=es:=List.filter_eq_self.2 (fun q hq=>by
      simp only [d0B,List.any_eq_false,decide_eq_true_eq] at h2
      simpa using h2 q hq)
     rw [this]
 · have hjl:j<ents.toList.length:=(List.getElem?_eq_some_iff.1 h3).1
   have hjs:j<ents.size:=by simpa using hjl
   have hsub:(ents.eraseIdxIfInBounds j).toList=ents.toList.eraseIdx j:=by
    unfold Array.eraseIdxIfInBounds;rw [dif_pos hjs];simp
   refine ⟨.map (ents.eraseIdxIfInBounds j) clock,?_,_,_,hself _,?_,?_,?_,p0L hn x⟩
   · simp [Builtin.delete_,run_underlying ht,MapKept.run_getObj_map hb,B.law.check w _ hl,h1,MapKept.run_setObj_map _ hb,Result.andThen,setBlock]
   · rw [hsub,map_eraseIdx,hm,l0Q hn h5,map_eraseIdx]
   · rw [hsub]
     exact hbn.sublist ((List.eraseIdx_sublist _ _).map _)
   · intro e1 he1
     rw [hsub] at he1;exact hcl e1 ((List.eraseIdx_sublist _ _).subset he1)
theorem a0V.len (h:a0V K V w b es) (ht:P.underlying t=some (.map k e)) (ty:TypeId):(Builtin.len_ #[t] ty #[.map (some b)]).run P w=.ok (.int .i64 es.length) w:=by
 obtain ⟨ents,clock,hb,hm,_⟩:=h;have hs:ents.size=es.length:=by simpa using congrArg List.length hm
 simp [Builtin.len_,run_underlying ht,MapKept.run_getObj_map hb,goInt,hs,Result.andThen]
end
end
end
section
open Go.RowKit Go.Lib
open Go.ChangeMaps (setBlock)
open Go.Maps (Keyed)
abbrev KO:={ p:Ky // p.ok }
def koV (x:KO):Value:=.agg #[.int .u64 x.1.1,.int .u64 x.1.2]
theorem m1U:laidOutB Tryz.prog=true:=by kernel_rfl
theorem rowKey:(74:TypeId)<Tryz.prog.types.size:=of_decide_eq_true (by kernel_rfl)
theorem o1X:Tryz.prog.keyType 74=true:=by kernel_rfl
theorem p1T:(match Tryz.prog.underlying 74 with|some (.array _ _)|some (.struct _)=>true|_=>false)=true:=by kernel_rfl
theorem h1M:2≤Tryz.prog.types.size:=of_decide_eq_true (by kernel_rfl)
theorem lawKey:Keyed Tryz.prog 74:=Keyed.of_law (deep_law_laid m1U (m:=9) (by decide) rowKey (by kernel_rfl) p1T)
theorem l1G (x:KO):∃l,keyOf Tryz.prog 74 (koV x)=some l:=by
 obtain ⟨⟨a,b⟩,h1,h2⟩:=x;simp only at h1 h2
 have hform:(koV ⟨(a,b),h1,h2⟩).formed Tryz.prog 74=true:=by simp [koV,Value.formed,Tryz.underlying74,n1I]
 obtain ⟨d,hd⟩:∃d,Tryz.prog.types.size=d+1:=⟨_,(Nat.sub_add_cancel (Nat.le_trans (by decide) h1M)).symm⟩;have hlits:Tryz.prog.keyLits (Tryz.prog.types.size+1) 74 [.int .u64 a,.int .u64 b]=some [.int .u64 a,.int .u64 b]:=by
  have hw1:(Lit.int .u64 (a:Int)).wf=true:=by simp [Lit.wf,IntKind.min,IntKind.max,IntKind.signed,IntKind.bits];omega
  have hw2:(Lit.int .u64 (b:Int)).wf=true:=by simp [Lit.wf,IntKind.min,IntKind.max,IntKind.signed,IntKind.bits];omega
  simp [Program.keyLits,hd,Tryz.underlying74,Tryz.underlying72,n1I,cl_u64,hw1,hw2]
 refine ⟨.string (keyBytes [.int .u64 a,.int .u64 b]),?_⟩;unfold keyOf;simp only [Tryz.underlying74,o1X,hform]
 show (if _ then (Tryz.prog.keyLits (Tryz.prog.types.size+1) 74 [.int .u64 a,.int .u64 b]).map _ else none)=_
 rw [hlits];rfl
theorem h1P:m0T Tryz.prog 74 koV where
 law:=lawKey
 key:=l1G
 inj x y h:=by
  simp only [koV,Value.agg.injEq,Array.mk.injEq,List.cons.injEq,Value.int.injEq,and_true,true_and] at h
  exact Subtype.ext (Prod.ext (by omega) (by omega))
def bit (b:Bool):Int:=if b then 1 else 0
def kys (l:List KO):List Ky:=l.map (·.1)
theorem b0I {w:World} {d k:Nat} {o:Obj} (h:k≠d):(setBlock w d o).heap[k]?=w.heap[k]?:=by
 simp [setBlock,Array.getElem?_setIfInBounds,Ne.symm h]
theorem d0I {w:World} {d:Nat} {o:Obj}:(setBlock w d o).heap.size=w.heap.size:=by simp [setBlock]
end
section
open Go.RowKit Go.Lib
theorem a0B {P:Program} {f:Nat} {args:Array Value} {w:World} {Q:Ending→World→Prop} (h:∀W,W=w→Calls P f args W Q):Calls P f args w Q:=h w rfl
theorem a0J {P:Program} {c:Code} {Q:Exit→Act→World→Prop} {a:Act} {w:World} (h:∀W,W=w→c.wp P Q a W):c.wp P Q a w:=h w rfl
theorem j0T {W w1:World} (hb:jB W w1) {B:Nat} {cs:Array Value} {T:TypeId} (hB:W.heap[B]?=some (.cells cs T (0,0))):(∀j,w1.cell? ⟨B,j,none⟩=cs[j]?)∧(∀j,w1.frozen? ⟨B,j,none⟩=false)∧B<w1.heap.size∧w1.heap[B]?=some (.cells cs T (0,0)):=by
 obtain ⟨h1,h2,h3⟩:=a0A hb hB;exact ⟨h1,h2,h3,(hb.block B (jL hB)).trans hB⟩
end
section
open Go.RowKit Go.Lib
open Go.ChangeMaps (setBlock)

end
section
open Go.RowKit Go.Lib

theorem m0W (w:World) (o1 o2 o3:Obj):∀W,W=((w.alloc o1).alloc o2).alloc o3→W.heap[w.heap.size]?=some o1∧W.heap[w.heap.size+1]?=some o2∧W.heap[w.heap.size+1+1]?=some o3∧W.heap.size=w.heap.size+3∧jB w W:=by
 rintro W rfl;refine ⟨?_,?_,?_,by simp,a0C (a0C (a0C jR _) _) _⟩
 · exact (Below.heap_alloc _ _ _ (by simp;omega)).trans ((Below.heap_alloc _ _ _ (by simp)).trans (heap_alloc_new _ _))
 · have:=heap_alloc_new (w.alloc o1) o2
   rw [World.size_alloc] at this;exact (Below.heap_alloc _ _ _ (by simp)).trans this
 · have:=heap_alloc_new ((w.alloc o1).alloc o2) o3
   rw [World.size_alloc,World.size_alloc] at this;exact this
theorem a0E {w:World} {B i:Nat} {cs:Array Value} {T:TypeId} {fr:Nat × Nat} {v:Value} (h:w.heap[B]?=some (.cells cs T fr)):(w.setCell ⟨B,i,none⟩ v).heap[B]?=some (.cells (cs.setIfInBounds i v) T fr):=by
 obtain ⟨hlt,hk⟩:=Array.getElem?_eq_some_iff.1 h
 show (w.heap.modify B _)[B]?=_
 rw [Array.getElem?_eq_getElem (by rw [Array.size_modify];exact hlt),Array.getElem_modify_self,hk];simp
theorem below4 {w a:World} {B:Nat} (h:jB w a) (hB:w.heap.size≤B) (v0 v1 v2 v3:Value):jB w ((((a.setCell ⟨B,0,none⟩ v0).setCell ⟨B,1,none⟩ v1).setCell ⟨B,2,none⟩ v2).setCell ⟨B,3,none⟩ v3) :=
 (((h.setCell hB _).setCell hB _).setCell hB _).setCell hB _
end
end Go.Proofs.YtmniiodpbebnmaaGreat
