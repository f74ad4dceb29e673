/- Part 15 of the proof. -/
import Derived.Test.YtmniiodpbebnmaaGreatJ14
namespace Go.Proofs.YtmniiodpbebnmaaGreat
set_option linter.unusedSimpArgs false
set_option linter.unusedVariables false
set_option linter.unusedSectionVars false
set_option maxRecDepth 100000
set_option maxHeartbeats 16000000
section
open Go.RowKit Go.Lib Go.Sort
open Go.ChangeMaps (setBlock)
section
section
variable {α β:Type} [DecidableEq α]
theorem f0C {es:List (α × β)} {x:α} {v:β} {p:α × β} (h:p∈d0F es x v):p=(x,v)∨(p∈es∧p.1≠x):=by
 unfold d0F at h
 split at h
 · obtain ⟨q,hq,e⟩:=List.mem_map.1 h
   split at e
   · exact .inl e.symm
   · rename_i hn
     subst e;exact .inr ⟨hq,hn⟩
 · rename_i hn
   rcases List.mem_append.1 h with h|h
   · refine .inr ⟨h,fun e=>hn ?_⟩
     rw [c0D];exact List.mem_map.2 ⟨p,h,e⟩
   · exact .inl (List.mem_singleton.1 h)
theorem b0B {es:List (α × β)} {x:α} {v:β} (h:a0L es x=some v):(x,v)∈es:=by
 unfold a0L at h;obtain ⟨q,hq,rfl⟩:=Option.map_eq_some_iff.1 h;have h1:=List.find?_some hq;simp at h1
 rw [←h1];exact List.mem_of_find?_eq_some hq
theorem m0H {es:List (α × β)} {x:α} {v:β} (h:a0L es x=some v):d0B es x=true :=
 (c0D es x).2 (List.mem_map.2 ⟨_,b0B h,rfl⟩)
theorem k1Z {γ:Type} (f:β→γ) (es:List (α × β)) (x:α) (v:β):(d0F es x v).map (fun p=>(p.1,f p.2))=d0F (es.map fun p=>(p.1,f p.2)) x (f v):=by
 have hh:d0B (es.map fun p=>(p.1,f p.2)) x=d0B es x:=by simp [d0B,List.any_map,Function.comp_def]
 unfold d0F;rw [hh]
 split
 · simp only [List.map_map]
   refine List.map_congr_left fun p _=>?_
   simp only [Function.comp]
   split <;> rfl
 · simp
theorem k1I {γ:Type} (f:β→γ) (es:List (α × β)) (x:α):a0L (es.map fun p=>(p.1,f p.2)) x=(a0L es x).map f:=by
 unfold a0L;rw [List.find?_map];simp [Function.comp_def]
theorem o1L {γ:Type} (f:β→γ) (es:List (α × β)) (x:α):d0B (es.map fun p=>(p.1,f p.2)) x=d0B es x:=by simp [d0B,List.any_map,Function.comp_def]
theorem j0U (es:List (α × β)) (x y:α) (v:β):a0L (d0F es x v) y=if y=x then some v else a0L es y:=by
 unfold d0F
 split
 · rename_i hh
   induction es with
   | nil=>simp [d0B] at hh
   | cons p es ih =>
     unfold a0L;simp only [List.map_cons,List.find?_cons]
     by_cases hp:p.1=x
     · rw [if_pos hp]
       by_cases hy:y=x
       · subst hy
         simp
       · rw [if_neg hy]
         have e1:decide (x=y)=false:=by simpa using fun e=>hy e.symm
         have e2:decide (p.1=y)=false:=by rw [hp];exact e1
         simp only [e1,e2]
         by_cases hq:d0B es x=true
         · have:=ih hq
           unfold a0L at this;rw [if_neg hy] at this;exact this
         · have:es.map (fun p=>if p.1=x then (x,v) else p)=es:=by
            conv=>rhs;rw [←List.map_id es]
            refine List.map_congr_left fun q hq'=>?_
            rw [if_neg]
            · rfl
            · intro e
              exact hq ((c0D es x).2 (List.mem_map.2 ⟨q,hq',e⟩))
           rw [this]
     · rw [if_neg hp]
       have hq:d0B es x=true:=by simpa [d0B,hp] using hh
       have:=ih hq;unfold a0L at this
       by_cases hpy:p.1=y
       · have hy:¬y=x:=fun e=>hp (hpy.trans e)
         rw [if_neg hy];simp [hpy]
       · have e2:decide (p.1=y)=false:=by simpa using hpy
         simp only [e2]
         exact this
 · rename_i hh
   unfold a0L;rw [List.find?_append]
   by_cases hy:y=x
   · subst hy
     rw [if_pos rfl];have:List.find? (fun p=>decide (p.1=y)) es=none:=by
      rw [List.find?_eq_none];intro p hp hpy;exact hh ((c0D es y).2 (List.mem_map.2 ⟨p,hp,by simpa using hpy⟩))
     rw [this];simp
   · rw [if_neg hy]
     have e1:decide (x=y)=false:=by simpa using fun e=>hy e.symm
     simp [e1]
theorem k1E (es:List (α × β)) (x:α) (v:β):(d0F es x v).length=if d0B es x=true then es.length else es.length+1:=by
 unfold d0F
 split
 · rename_i h;simp
 · rename_i h;simp
end
def ab (es:List (KO × NE)):List (KO × Nd):=es.map fun p=>(p.1,p.2.2.1)
theorem d1Z (es:List (KO × NE)) (k:KO) (N:Nat) (y:Nd) (fq:List Nat):ab (d0F es k (N,y,fq))=d0F (ab es) k y:=k1Z (fun b:NE=>b.2.1) es k (N,y,fq)
theorem o0F (es:List (KO × NE)) (k:KO):a0L (ab es) k=(a0L es k).map (fun b=>b.2.1):=k1I (fun b:NE=>b.2.1) es k
theorem n0B (es:List (KO × NE)) (k:KO):d0B (ab es) k=d0B es k:=o1L (fun b:NE=>b.2.1) es k
theorem l0T (es:List (KO × NE)):(ab es).length=es.length:=by simp [ab]
theorem e0L (x:Nd) (fp:List Nat):∀k∈mfp x fp,k∈fp:=by
 intro k hk;unfold mfp at hk
 split at hk
 · cases hk
 · exact hk
def n1V (es:List (KO × NE)):List Nat:=es.flatMap fun p=>mfp p.2.2.1 p.2.2.2
def sfp (T M:Nat) (es:List (KO × NE)):List Nat:=T::M::n1V es
structure SAt (w:World) (T M:Nat) (c:Cfg) (ver:Nat) (es:List (KO × NE)) (rs rh:Nat):Prop where
 cell:w.heap[T]?=some (.cells #[.map (some M),.int .i64 c.st,.int .i64 c.sa,.int .i64 c.lo,.int .i64 c.hi,.int .i64 (ver:Nat)] 232 (0,0))
 map:a0V koV neV w M es
 node:∀p∈es,b0G w p.2.1 p.2.2.1 rs rh p.2.2.2
 pair:∀p∈es,∀q∈es,p.1≠q.1→apart p.2.2.2 q.2.2.2
 off:∀p∈es,T∉p.2.2.2∧M∉p.2.2.2
 ne:T≠M
structure r0A (w:World) (T M:Nat) (c:Cfg) (ver:Nat) (es:List (KO × NE)) (rs rh:Nat) (k:KO) (fq:List Nat):Prop where
 cell:w.heap[T]?=some (.cells #[.map (some M),.int .i64 c.st,.int .i64 c.sa,.int .i64 c.lo,.int .i64 c.hi,.int .i64 (ver:Nat)] 232 (0,0))
 map:a0V koV neV w M es
 node:∀p∈es,p.1≠k→b0G w p.2.1 p.2.2.1 rs rh p.2.2.2
 pair:∀p∈es,∀q∈es,p.1≠k→q.1≠k→p.1≠q.1→apart p.2.2.2 q.2.2.2
 off:∀p∈es,p.1≠k→T∉p.2.2.2∧M∉p.2.2.2
 ne:T≠M
 new:∀p∈es,p.1≠k→apart fq p.2.2.2
 offn:T∉fq∧M∉fq
theorem SAt.nodup {w:World} {T M:Nat} {c:Cfg} {ver:Nat} {es:List (KO × NE)} {rs rh:Nat} (h:SAt w T M c ver es rs rh):(es.map (·.1)).Nodup:=by
 obtain ⟨_,_,_,_,_,_,hn⟩:=h.map;exact hn
theorem SAt.in_ {w:World} {T M:Nat} {c:Cfg} {ver:Nat} {es:List (KO × NE)} {rs rh:Nat} (h:SAt w T M c ver es rs rh):h0V w T c ver es rs rh (T::M::es.flatMap (fun p=>p.2.2.2)) :=
 ⟨M,h.cell,h.map,h.node,h.pair,h.off,h.ne,rfl⟩
theorem h0V.at_ {w:World} {T:Nat} {c:Cfg} {ver:Nat} {es:List (KO × NE)} {rs rh:Nat} {fp:List Nat} (h:h0V w T c ver es rs rh fp):∃M,SAt w T M c ver es rs rh∧fp=T::M::es.flatMap (fun p=>p.2.2.2):=by
 obtain ⟨M,h1,h2,h3,h4,h5,h6,h7⟩:=h;exact ⟨M,⟨h1,h2,h3,h4,h5,h6⟩,h7⟩
theorem SAt.below {w w':World} {T M:Nat} {c:Cfg} {ver:Nat} {es:List (KO × NE)} {rs rh:Nat} (h:SAt w T M c ver es rs rh) (hb:jB w w'):SAt w' T M c ver es rs rh :=
 ⟨(hb.block T (Array.getElem?_eq_some_iff.1 h.cell).1).trans h.cell,h.map.below hb,fun p hp=>(h.node p hp).below hb,h.pair,h.off,h.ne⟩
theorem SAt.ltT {w:World} {T M:Nat} {c:Cfg} {ver:Nat} {es:List (KO × NE)} {rs rh:Nat} (h:SAt w T M c ver es rs rh):T<w.heap.size:=(Array.getElem?_eq_some_iff.1 h.cell).1
theorem SAt.hole {w w':World} {T M:Nat} {c:Cfg} {ver:Nat} {es:List (KO × NE)} {rs rh:Nat} {k:KO} {b:NE} {fq:List Nat} (h:SAt w T M c ver es rs rh) (hm:(k,b)∈es) (hu:Upd w w' (mfp b.2.1 b.2.2) fq):r0A w' T M c ver es rs rh k fq:=by
 have ho:=h.off _ hm;have hsub:=e0L b.2.1 b.2.2
 refine ⟨(hu.block T h.ltT (fun hk=>ho.1 (hsub T hk))).trans h.cell,h.map.block (hu.block M h.map.lt (fun hk=>ho.2 (hsub M hk))),
   fun p hp hn=>(h.node p hp).kept (fun r hr=>hu.block r ((h.node p hp).lt r hr) (fun hk=>h.pair _ hm p hp (Ne.symm hn) r (hsub r hk) hr)),fun p hp q hq _ _ hn=>h.pair p hp q hq hn,fun p hp _=>h.off p hp,h.ne,
   fun p hp hn r hr hr'=>?_,?_,?_⟩
 · rcases hu.fresh r hr with hk|hk
   · exact h.pair _ hm p hp (Ne.symm hn) r (hsub r hk) hr'
   · have:=(h.node p hp).lt r hr';omega
 · intro hr
   rcases hu.fresh T hr with hk|hk
   · exact ho.1 (hsub T hk)
   · have:=h.ltT;omega
 · intro hr
   rcases hu.fresh M hr with hk|hk
   · exact ho.2 (hsub M hk)
   · have:=h.map.lt;omega
theorem SAt.hole_new {w w':World} {T M:Nat} {c:Cfg} {ver:Nat} {es:List (KO × NE)} {rs rh:Nat} {k:KO} {fq:List Nat} (h:SAt w T M c ver es rs rh) (hb:jB w w') (hf:∀r∈fq,w.heap.size≤r):r0A w' T M c ver es rs rh k fq:=by
 have h':=h.below hb
 exact ⟨h'.cell,h'.map,fun p hp _=>h'.node p hp,fun p hp q hq _ _ hn=>h.pair p hp q hq hn,fun p hp _=>h.off p hp,h.ne,
   fun p hp hn r hr hr'=>by have:=hf r hr;have:=(h.node p hp).lt r hr';omega,fun hr=>by have:=hf T hr;have:=h.ltT;omega,fun hr=>by have:=hf M hr;have:=h.map.lt;omega⟩
theorem r0A.below {w w':World} {T M:Nat} {c:Cfg} {ver:Nat} {es:List (KO × NE)} {rs rh:Nat} {k:KO} {fq:List Nat} (h:r0A w T M c ver es rs rh k fq) (hb:jB w w'):r0A w' T M c ver es rs rh k fq :=
 ⟨(hb.block T (Array.getElem?_eq_some_iff.1 h.cell).1).trans h.cell,h.map.below hb,fun p hp hn=>(h.node p hp hn).below hb,h.pair,h.off,h.ne,h.new,h.offn⟩
theorem r0A.keep {w:World} {T M:Nat} {c:Cfg} {ver:Nat} {es:List (KO × NE)} {rs rh:Nat} {k:KO} {N:Nat} {y:Nd} {fq:List Nat} {o:Obj} (h:r0A w T M c ver es rs rh k fq) (hn:b0G w N y rs rh fq)
    (hm:a0V koV neV (setBlock w M o) M (d0F es k (N,y,fq))) :
    SAt ((setBlock w M o).setCell ⟨T,5,none⟩ (.int .i64 ((ver+1:Nat):Int))) T M c (ver+1) (d0F es k (N,y,fq)) rs rh∧Upd w ((setBlock w M o).setCell ⟨T,5,none⟩ (.int .i64 ((ver+1:Nat):Int))) [T,M] [T,M]:=by
  have hT:T<w.heap.size:=(Array.getElem?_eq_some_iff.1 h.cell).1;have hc:(setBlock w M o).heap[T]?=_:=(b0I (o:=o) h.ne).trans h.cell;have hblk:∀r,r≠T→r≠M→((setBlock w M o).setCell ⟨T,5,none⟩ (.int .i64 ((ver+1:Nat):Int))).heap[r]?=w.heap[r]?:=fun r h1 h2 =>
   (Below.heap_setCell _ _ _ _ h1).trans (b0I h2)
  have hsz:((setBlock w M o).setCell ⟨T,5,none⟩ (.int .i64 ((ver+1:Nat):Int))).heap.size=w.heap.size:=by simp [World.setCell,setBlock]
  refine ⟨⟨(a0E hc).trans (by rfl),hm.block (Below.heap_setCell _ _ _ _ (Ne.symm h.ne)),fun p hp=>?_,fun p hp q hq hpq=>?_,fun p hp=>?_,h.ne⟩,⟨rfl,rfl,rfl,Nat.le_of_eq hsz.symm,fun r hr hn=>hblk r (fun e=>hn (by rw [e];simp)) (fun e=>hn (by rw [e];simp)),fun r hr=>.inl hr⟩⟩
  · rcases f0C hp with rfl|⟨hp,hk⟩
    · exact hn.kept (fun r hr=>hblk r (fun e=>h.offn.1 (by rw [←e];exact hr)) (fun e=>h.offn.2 (by rw [←e];exact hr)))
    · exact (h.node p hp hk).kept (fun r hr=>hblk r (fun e=>(h.off p hp hk).1 (by rw [←e];exact hr)) (fun e=>(h.off p hp hk).2 (by rw [←e];exact hr)))
  · rcases f0C hp with rfl|⟨hp,hk⟩
    · rcases f0C hq with rfl|⟨hq,hk'⟩
      · exact absurd rfl hpq
      · exact h.new q hq hk'
    · rcases f0C hq with rfl|⟨hq,hk'⟩
      · exact fun r hr hr'=>h.new p hp hk r hr' hr
      · exact h.pair p hp q hq hk hk' hpq
  · rcases f0C hp with rfl|⟨hp,hk⟩
    · exact h.offn
    · exact h.off p hp hk
def Old (n:Nat) (es es':List (KO × NE)):Prop:=∀p∈es',∀r∈p.2.2.2,n≤r∨∃q∈es,r∈q.2.2.2
theorem Old.refl (n:Nat) (es:List (KO × NE)):Old n es es:=fun p hp r hr=>.inr ⟨p,hp,hr⟩
theorem Old.trans {n m:Nat} {a b c:List (KO × NE)} (h1:Old n a b) (h2:Old m b c) (hn:n≤m):Old n a c:=fun p hp r hr =>
 (h2 p hp r hr).elim (fun h=>.inl (Nat.le_trans hn h)) (fun ⟨q,hq,hr⟩=>h1 q hq r hr)
def f0S (w:World) (T M:Nat) (c:Cfg) (es:List (KO × NE)) (rs rh:Nat) (v:Value) (ver':Nat) (l':List (KO × Nd)) (e:Ending) (w':World):Prop :=
 ∃es',e=.returned v∧SAt w' T M c ver' es' rs rh∧ab es'=l'∧Upd w w' (sfp T M es) (sfp T M es')∧Old w.heap.size es es'
theorem d0S {es:List (KO × NE)} {r:Nat}:r∈n1V es ↔ ∃p∈es,r∈mfp p.2.2.1 p.2.2.2:=by
 simp [n1V,List.mem_flatMap]
theorem Old.put {w w3:World} {es:List (KO × NE)} {k:KO} {N:Nat} {y:Nd} {mf fq:List Nat} (hu:Upd w w3 mf fq) (hm:∀r∈mf,r∈n1V es):Old w.heap.size es (d0F es k (N,y,fq)):=fun p hp r hr=>by
 rcases f0C hp with rfl|⟨hp,_⟩
 · rcases hu.fresh r hr with h|h
   · obtain ⟨q,hq,hr⟩:=d0S.1 (hm r h)
     exact .inr ⟨q,hq,e0L _ _ r hr⟩
   · exact .inl h
 · exact .inr ⟨p,hp,hr⟩
theorem y0R {w w3 w':World} {T M:Nat} {es:List (KO × NE)} {k:KO} {N:Nat} {y:Nd} {mf fq:List Nat} (h1:Upd w w3 mf fq) (h2:Upd w3 w' [T,M] [T,M]) (hm:∀r∈mf,r∈n1V es):Upd w w' (sfp T M es) (sfp T M (d0F es k (N,y,fq))):=by
 refine ⟨h2.os.trans h1.os,h2.tape.trans h1.tape,h2.output.trans h1.output,Nat.le_trans h1.size h2.size,fun r hr hn=>?_,fun r hr=>?_⟩
 · refine (h2.block r (Nat.lt_of_lt_of_le hr h1.size) (fun hk=>hn ?_)).trans (h1.block r hr (fun hk=>hn ?_))
   · simp only [List.mem_cons,List.not_mem_nil,or_false] at hk
     simp only [sfp,List.mem_cons]
     rcases hk with rfl|rfl
     · exact .inl rfl
     · exact .inr (.inl rfl)
   · simp only [sfp,List.mem_cons]
     exact .inr (.inr (hm r hk))
 · simp only [sfp,List.mem_cons] at hr ⊢
   rcases hr with rfl|rfl|hr
   · exact .inl (.inl rfl)
   · exact .inl (.inr (.inl rfl))
   · obtain ⟨p,hp,hr⟩:=d0S.1 hr
     rcases f0C hp with rfl|⟨hp,hk⟩
     · rcases h1.fresh r (e0L _ _ r hr) with h|h
       · exact .inl (.inr (.inr (hm r h)))
       · exact .inr h
     · exact .inl (.inr (.inr (d0S.2 ⟨p,hp,hr⟩)))
theorem f0S.of_below {w w':World} {T M:Nat} {c:Cfg} {ver:Nat} {es:List (KO × NE)} {rs rh:Nat} (v:Value) (h:SAt w T M c ver es rs rh) (hb:jB w w'):f0S w T M c es rs rh v ver (ab es) (.returned v) w' :=
 ⟨es,rfl,h.below hb,rfl,Upd.of_below hb _,Old.refl _ _⟩
end
theorem k0Z {w:World} {M:Nat} {es:List (KO × NE)} (h:a0V koV neV w M es) (x:KO) (c:Bool) :
 (Instr.lookup 230 (.map (some M)) (.agg #[.int .u64 x.1.1,.int .u64 x.1.2]) c).run Tryz.prog w=.ok (if c then .tuple #[((a0L es x).map neV).getD (.pointer none),.bool (d0B es x)] else ((a0L es x).map neV).getD (.pointer none)) w :=
 a0V.look (V:=neV) h h1P Tryz.underlying230 (Tryz.zeroValue170 w) c x
theorem j1O {w:World} {M:Nat} {es:List (KO × NE)} (h:a0V koV neV w M es) (x:KO) (b:NE) :
 ∃o,(Instr.mapUpdate 230 (.map (some M)) (.agg #[.int .u64 x.1.1,.int .u64 x.1.2]) (.pointer (some ⟨b.1,0,none⟩))).run Tryz.prog w=.ok () (setBlock w M o)∧a0V koV neV (setBlock w M o) M (d0F es x b) :=
 a0V.store (V:=neV) h h1P Tryz.underlying230 x b
theorem m0E {es:List (KO × NE)} {k:KO} (h:a0L es k=none):d0B es k=false:=by
 cases hh:d0B es k with
 | false=>rfl
 | true=>obtain ⟨v,hv,_⟩:=c0F hh;rw [hv] at h;cases h
theorem SAt.cells {w:World} {T M:Nat} {c:Cfg} {ver:Nat} {es:List (KO × NE)} {rs rh:Nat} (h:SAt w T M c ver es rs rh) {j:Nat} {v:Value}
    (e:(#[.map (some M),.int .i64 c.st,.int .i64 c.sa,.int .i64 c.lo,.int .i64 c.hi,.int .i64 (ver:Nat)]:Array Value)[j]?=some v):∀W,jB w W→W.cell? ⟨T,j,none⟩=some v:=fun W hW =>
  (hW.cell (p:=⟨T,j,none⟩) h.ltT).trans (by simp only [World.cell?,h.cell];exact e)
theorem f1H (T M:Nat) (c:Cfg) (ver:Nat) (es:List (KO × NE)) (rs rh:Nat) (k:KO) (b:NE) (w:World) (h:SAt w T M c ver es rs rh) (hb:a0L es k=some b) :
 Calls Tryz.prog 150 #[.pointer (some ⟨T,0,none⟩),.agg #[.int .u64 k.1.1,.int .u64 k.1.2]] w (jP w (.tuple #[.pointer (some ⟨b.1,0,none⟩),.int .i64 0])):=by
 have r1:=h.cells (j:=0) rfl;have r4:∀n,(Instr.lookup 230 (.map (some M)) (.agg #[.int .u64 k.1.1,.int .u64 k.1.2]) true).run Tryz.prog ((w.alloc (.cells #[.int .u64 k.1.1,.int .u64 k.1.2] 74)).drewN n)=.ok (.tuple #[.pointer (some ⟨b.1,0,none⟩),.bool true]) ((w.alloc (.cells #[.int .u64 k.1.1,.int .u64 k.1.2] 74)).drewN n):=fun n=>by
  have:=k0Z ((h.below (a0G (a0C jR (.cells #[.int .u64 k.1.1,.int .u64 k.1.2] 74)) n)).map) k true
  simpa [hb,m0H hb,neV] using this
 have hlt:=h.ltT;clear h hb
 go_enter Tryz.func150,Tryz.ntmps150
 go_wp2_with fail
 go_quiet (fail)
 go_wp2
 exact bodyPost_ret (v:=.tuple #[.pointer (some ⟨b.1,0,none⟩),.int .i64 0]) (by simp [results,Tryz.results150,go_sem]) rfl ⟨rfl,a0G (a0C jR _) _⟩
theorem s0A (T M:Nat) (c:Cfg) (ver:Nat) (es:List (KO × NE)) (rs rh:Nat) (k:KO) (w:World) (h:SAt w T M c ver es rs rh) (hb:a0L es k=none) (hl:c.lo≤(es.length:Nat)) :
 Calls Tryz.prog 150 #[.pointer (some ⟨T,0,none⟩),.agg #[.int .u64 k.1.1,.int .u64 k.1.2]] w (jP w (.tuple #[.pointer none,.int .i64 6])):=by
 have r1:=h.cells (j:=0) rfl;have r2:=h.cells (j:=3) rfl;have r4:∀n,(Instr.lookup 230 (.map (some M)) (.agg #[.int .u64 k.1.1,.int .u64 k.1.2]) true).run Tryz.prog ((w.alloc (.cells #[.int .u64 k.1.1,.int .u64 k.1.2] 74)).drewN n)=.ok (.tuple #[.pointer none,.bool false]) ((w.alloc (.cells #[.int .u64 k.1.1,.int .u64 k.1.2] 74)).drewN n):=fun n=>by
  have:=k0Z ((h.below (a0G (a0C jR (.cells #[.int .u64 k.1.1,.int .u64 k.1.2] 74)) n)).map) k true
  simpa [hb,m0E hb] using this
 have H:=jH h;have hlt:=h.ltT;clear h hb
 go_enter Tryz.func150,Tryz.ntmps150
 go_wp2_with fail
 go_quiet (fail)
 obtain ⟨W1,hW1⟩:∃W1:World,W1=(w.alloc (.cells #[.int .u64 k.1.1,.int .u64 k.1.2] 74)).drewN nq:=⟨_,rfl⟩;rw [←hW1];have hb1:jB w W1:=by rw [hW1];exact a0G (a0C jR _) _
 have h1:=H.out.below hb1;have s1:=h1.cells (j:=0) rfl;have s2:=h1.cells (j:=3) rfl;have r5:∀n ty,(Builtin.len_ #[230] ty #[.map (some M)]).run Tryz.prog (W1.drewN n)=.ok (.int .i64 es.length) (W1.drewN n):=fun n ty=>a0V.len (h1.map.below (a0G jR n)) Tryz.underlying230 ty
 have hlt1:=h1.ltT;have HB1:=jH hb1;clear hW1 h1 r1 r2 r4 hb1;go_wp2_with fail
 go_quiet (fail)
 go_wp2
 exact bodyPost_ret (v:=.tuple #[.pointer none,.int .i64 6]) (by simp [results,Tryz.results150,go_sem]) rfl ⟨rfl,a0G HB1.out _⟩
theorem m1J (T M:Nat) (c:Cfg) (ver:Nat) (es:List (KO × NE)) (rs rh:Nat) (k:KO) (w:World) (h:SAt w T M c ver es rs rh) (hb:a0L es k=none) (hl:¬c.lo≤(es.length:Nat)) (hc:h0A c=true) (hrs:c.sa=(rs:Nat)) (hrh:c.hi=(rh:Nat)) (hok:c.ok) :
 Calls Tryz.prog 150 #[.pointer (some ⟨T,0,none⟩),.agg #[.int .u64 k.1.1,.int .u64 k.1.2]] w (p0P w nd0 rs rh [] (fun q=>.tuple #[q,.int .i64 0])):=by
 have r1:=h.cells (j:=0) rfl;have r2:=h.cells (j:=3) rfl;have r4:∀n,(Instr.lookup 230 (.map (some M)) (.agg #[.int .u64 k.1.1,.int .u64 k.1.2]) true).run Tryz.prog ((w.alloc (.cells #[.int .u64 k.1.1,.int .u64 k.1.2] 74)).drewN n)=.ok (.tuple #[.pointer none,.bool false]) ((w.alloc (.cells #[.int .u64 k.1.1,.int .u64 k.1.2] 74)).drewN n):=fun n=>by
  have:=k0Z ((h.below (a0G (a0C jR (.cells #[.int .u64 k.1.1,.int .u64 k.1.2] 74)) n)).map) k true
  simpa [hb,m0E hb] using this
 have H:=jH h;have HNN:=jH (fun W=>g0S c rs rh W hc hrs hrh hok);obtain ⟨st,sa,lo,hi⟩:=c;unfold n0D at HNN;dsimp only at HNN hl r2;have hlt:=h.ltT;clear h hb hc hrs hrh hok
 go_enter Tryz.func150,Tryz.ntmps150
 go_wp2_with fail
 go_quiet (fail)
 obtain ⟨W1,hW1⟩:∃W1:World,W1=(w.alloc (.cells #[.int .u64 k.1.1,.int .u64 k.1.2] 74)).drewN nq:=⟨_,rfl⟩;rw [←hW1];have hb1:jB w W1:=by rw [hW1];exact a0G (a0C jR _) _
 have h1:=H.out.below hb1;have s1:=h1.cells (j:=0) rfl;have s2:=h1.cells (j:=3) rfl;have r5:∀n ty,(Builtin.len_ #[230] ty #[.map (some M)]).run Tryz.prog (W1.drewN n)=.ok (.int .i64 es.length) (W1.drewN n):=fun n ty=>a0V.len (h1.map.below (a0G jR n)) Tryz.underlying230 ty
 have hlt1:=h1.ltT;have HB1:=jH hb1;have H1:=jH h1;clear hW1 h1 r1 r2 r4 hb1;go_wp2_with fail
 go_quiet (fail)
 obtain ⟨W2,hW2⟩:∃W2:World,W2=W1.drewN nq:=⟨_,rfl⟩;rw [←hW2];have hb2:jB W1 W2:=by rw [hW2];exact a0G jR _
 have h2:=H1.out.below hb2;have t1:=h2.cells (j:=1) rfl W2 jR;have t2:=h2.cells (j:=2) rfl W2 jR;have t3:=h2.cells (j:=3) rfl W2 jR;have t4:=h2.cells (j:=4) rfl W2 jR;have hlt2:=h2.ltT;have HB2:=jH (a0D HB1.out hb2);clear hW2 h2 s1 s2 r5 hb2
 go_wp2_with (go_at_call 156;refine (HNN.out W2).mono ?_;rintro e w3 ⟨N,fq,rfl,h1,h2,h3⟩)
 refine bodyPost_ret (v:=.tuple #[.pointer (some ⟨N,0,none⟩),.int .i64 0]) (by simp [results,Tryz.results150,go_sem]) rfl ?_;have hb3:jB w w3:=a0D HB2.out h3;exact ⟨N,fq,rfl,h1,hb3.os,hb3.tape,hb3.output,hb3.size,fun r hr _=>hb3.block r hr,fun r hr=>.inr (by have:=h2 r hr;have:=HB2.out.size;omega)⟩
theorem m0D (T M:Nat) (c:Cfg) (ver:Nat) (es:List (KO × NE)) (rs rh:Nat) (k:KO) (N:Nat) (y:Nd) (fq:List Nat) (w:World) (h:r0A w T M c ver es rs rh k fq) (hn:b0G w N y rs rh fq) (hv:ver≤1000000) :
 Calls Tryz.prog 152 #[.pointer (some ⟨T,0,none⟩),.agg #[.int .u64 k.1.1,.int .u64 k.1.2],.pointer (some ⟨N,0,none⟩)] w fun e w'=>e=.returned (.tuple #[])∧SAt w' T M c (ver+1) (d0F es k (N,y,fq)) rs rh∧Upd w w' [T,M] [T,M]:=by
 have hw:IntKind.i64.wrap ((ver:Int)+1)=((ver+1:Nat):Int):=by rw [IntKind.wrap_i64];omega
 have hlt:T<w.heap.size:=(Array.getElem?_eq_some_iff.1 h.cell).1;have H:=jH h;have HN:=jH hn;have hne:=h.ne;clear h hn
 go_enter Tryz.func152,Tryz.ntmps152
 go_wp2_with fail
 refine a0J ?_;intro W hW;have hb1:jB w W:=by rw [hW];exact a0C jR _
 have hx1:W.heap[w.heap.size]?=some (.cells #[.int .u64 k.1.1,.int .u64 k.1.2] 74 (0,0)):=by rw [hW];exact heap_alloc_new _ _
 have a1:W.cell? ⟨w.heap.size,0,none⟩=some (.int .u64 k.1.1):=by simp [World.cell?,hx1]
 have a2:W.cell? ⟨w.heap.size,1,none⟩=some (.int .u64 k.1.2):=by simp [World.cell?,hx1]
 have h1:=H.out.below hb1;have hltW:T<W.heap.size:=(Array.getElem?_eq_some_iff.1 h1.cell).1;have z0:W.cell? ⟨T,0,none⟩=some (.map (some M)):=by simp only [World.cell?,h1.cell];rfl
 obtain ⟨o5,hs5,hset5⟩:=j1O (w:=W.drew) (M:=M) (h1.map.below ((Below.refl _ W).drew)) k (N,y,fq);dsimp only at hs5;have hd:=(h1.below ((Below.refl _ W).drew)).keep (o:=o5) (HN.out.below (hb1.drew)) hset5;have hcT:(setBlock W.drew M o5).heap[T]?=_:=(b0I (o:=o5) hne).trans (h1.below ((Below.refl _ W).drew)).cell;have HD:=jH hd;have HT:=jH hcT;have HB1:=jH hb1;clear hW hset5 h1 hd hcT hx1
 go_region
 obtain ⟨W2,hW2⟩:∃W2:World,W2=setBlock W.drew M o5:=⟨_,rfl⟩;rw [←hW2];rw [←hW2] at HD HT;have y0:W2.cell? ⟨T,5,none⟩=some (.int .i64 (ver:Nat)):=by simp only [World.cell?,HT.out];rfl
 have y1:W2.frozen? ⟨T,5,none⟩=false:=e0J HT.out;have y2:T<W2.heap.size:=(jL HT.out);clear hW2 z0 a1 a2 hs5;go_wp2
 go_end0
 refine ⟨rfl,HD.out.1,?_⟩;exact (Upd.of_below (HB1.out.drew) _).trans HD.out.2
end
end Go.Proofs.YtmniiodpbebnmaaGreat
