/- Part 14 of the proof. -/
import Derived.Test.YtmniiodpbebnmaaGreatJ13
import Derived.Maps.Range
import Derived.RangeFuncSeq
import Derived.Sort.MapsRangeIn
namespace Go.Proofs.YtmniiodpbebnmaaGreat
set_option linter.unusedSimpArgs false
set_option linter.unusedVariables false
set_option linter.unusedSectionVars false
set_option maxRecDepth 100000
set_option maxHeartbeats 16000000
section
open Go.RowKit Go.Lib Go.Sort Go.Shelf
theorem h0Z:(ltOf fun x y:Ky=>h0B x.1 x.2 y.1 y.2)=ltK:=by
 funext x y
 show decide (h0B x.1 x.2 y.1 y.2<0)=ltK x y
 unfold ltK
 by_cases h1:x.1=y.1
 · by_cases h2:x.2=y.2
   · have:h0B x.1 x.2 y.1 y.2=0:=by simp [h0B,h1,h2]
     rw [this];simp [h1,h2]
   · by_cases h3:x.2<y.2
     · have:h0B x.1 x.2 y.1 y.2 = -1:=by simp [h0B,h1,h2,h3]
       rw [this];simp [h1,h3]
     · have:h0B x.1 x.2 y.1 y.2=1:=by simp [h0B,h1,h2,h3]
       rw [this];simp [h1,h3]
 · by_cases h3:x.1<y.1
   · have:h0B x.1 x.2 y.1 y.2 = -1:=by simp [h0B,h1,h3]
     rw [this];simp [h1,h3]
   · have:h0B x.1 x.2 y.1 y.2=1:=by simp [h0B,h1,h3]
     rw [this];simp [h1,h3]
theorem swoK:SWO (ltOf fun x y:Ky=>h0B x.1 x.2 y.1 y.2):=by
 rw [h0Z];refine ⟨c0H,fun x y z h1 h2=>d0A h1 h2,fun x y z h1 h2=>?_⟩
 cases h:ltK x z with
 | false=>rfl
 | true =>
   cases h3:ltK y x with
   | true=>rw [d0A h3 h] at h2;exact h2
   | false =>
     have:=d0P h1 h3;subst this;rw [h] at h2;exact h2
theorem q0O (x y:Ky) (W:World):Calls Tryz.prog 168 #[.agg #[.int .u64 x.1,.int .u64 x.2],.agg #[.int .u64 y.1,.int .u64 y.2]] W fun e w'=>e=.returned (.int .i64 (h0B x.1 x.2 y.1 y.2))∧∃q os',w'=grow (W.drewN q) os':=by
 obtain ⟨a,b⟩:=x;obtain ⟨c,d⟩:=y;simp only
 by_cases e1:a=c
 · subst e1
   by_cases e2:b=d
   · subst e2
     have hv:h0B a b a b=0:=by simp [h0B]
     rw [hv];clear hv
     go_enter Tryz.func168,Tryz.ntmps168
     go_wp2
     go_ret
     exact ⟨rfl,0,_,by rw [alloc_eq_grow,alloc_eq_grow,grow_grow];rfl⟩
   · have q:((b:Int) == (d:Int))=false:=by simp;omega
     by_cases e3:b<d
     · have hv:h0B a b a d = -1:=by simp [h0B,e2,e3]
       rw [hv];clear hv
       go_enter Tryz.func168,Tryz.ntmps168
       go_wp2
       go_ret
       exact ⟨rfl,0,_,by rw [alloc_eq_grow,alloc_eq_grow,grow_grow];rfl⟩
     · have hv:h0B a b a d=1:=by simp [h0B,e2,e3]
       rw [hv];clear hv
       go_enter Tryz.func168,Tryz.ntmps168
       go_wp2
       go_ret
       exact ⟨rfl,0,_,by rw [alloc_eq_grow,alloc_eq_grow,grow_grow];rfl⟩
 · have q:((a:Int) == (c:Int))=false:=by simp;omega
   by_cases e3:a<c
   · have hv:h0B a b c d = -1:=by simp [h0B,e1,e3]
     rw [hv];clear hv
     go_enter Tryz.func168,Tryz.ntmps168
     go_wp2
     go_ret
     exact ⟨rfl,0,_,by rw [alloc_eq_grow,alloc_eq_grow,grow_grow];rfl⟩
   · have hv:h0B a b c d=1:=by simp [h0B,e1,e3]
     rw [hv];clear hv
     go_enter Tryz.func168,Tryz.ntmps168
     go_wp2
     go_ret
     exact ⟨rfl,0,_,by rw [alloc_eq_grow,alloc_eq_grow,grow_grow];rfl⟩
theorem u0O (blk off size:Nat) (w:World):CmpLays Tryz.prog 168 #[] l0I 2 (fun x y:Ky=>h0B x.1 x.2 y.1 y.2) blk off size w :=
 fun _ _ _ _ x y=>q0O x y _
theorem y0D (x:Ky):(l0I x).length=2:=rfl
theorem i1O (x:Ky):∀u∈l0I x,u.oneCell'=true:=by
 intro u hu;simp only [l0I,List.mem_cons,List.not_mem_nil,or_false] at hu
 rcases hu with rfl|rfl <;> rfl
def k0O (l:List Ky):List Ky:=l.mergeSort fun x y=>!ltK y x
theorem k1M {base:Nat} (v:Value) (l:List Ky) (w:World) (h:w.ownsRow base 74 2 v l.length (a0F l0I l)) (hl:l.length≤1000000) :
 Calls Tryz.prog 167 #[v,.func (.func 168) #[] #[]] w fun e w' =>
  e=.returned (.tuple #[])∧w'.ownsRow base 74 2 v l.length (a0F l0I (k0O l))∧w.grownBy w' v.ownBlock:=by
 have eg:∀args w,(callFunc 168 args).run Tryz.prog w=.ok (.enter 168 args) w:=enters_of Tryz.func168 (by kernel_rfl) rfl
 rcases Go.Joins.ownsRow_forms h with ⟨rfl,h0⟩|⟨g,cap,rfl⟩
 · obtain rfl:l=[]:=List.eq_nil_of_length_eq_zero h0
   refine (AnyF.slices_SortFunc_none sortK none 0 (.func (.func 168) #[] #[]) w).mono ?_;rintro e w' ⟨rfl,rfl⟩;exact ⟨rfl,by simpa [k0O] using h,⟨rfl,rfl,rfl,Nat.le_refl _,fun _ _ _=>rfl⟩⟩
 · have hH:=p0E (f:=l0I) (n:=2) y0D (by decide) h
   have hg:=(h.lt g rfl).2
   have hs:=AnyQ.slices_SortFunc_total sortK 2 Tryz.isAgg74 Tryz.sizeOf74 l0I (fun _=>rfl) i1O (fun x y:Ky=>h0B x.1 x.2 y.1 y.2) swoK 168 #[] g 0 cap l.toArray w eg (u0O g 0 l.toArray.size w) hH hg (by simp;omega)
     (fun x y h1 h2=>by rw [h0Z] at h1 h2;exact d0P h1 h2)
   rw [h0Z] at hs;refine Calls.mono hs ?_;rintro e w' ⟨rfl,n,os,rfl⟩;have hm:(k0O l).length=l.length:=by simp [k0O]
   obtain ⟨h1,h2⟩:=n0R (f:=l0I) (n:=2) (m:=k0O l) (k:=n) y0D (by decide) h hm os;rw [hm] at h1;exact ⟨rfl,h1,h2⟩
end
section
open Go.RowKit Go.Lib
open Go.Maps (Keyed)
open Go.ChangeMaps
section
structure EntsOf {α β:Type} (K:α→Value) (V:β→Value) (ents:Array MapEntry) (clock:Nat) (es:List (α × β)):Prop where
 kv:ents.toList.map (fun e=>(e.key,e.val))=es.map (fun p=>(K p.1,V p.2))
 born:(ents.toList.map (·.born)).Nodup
 old:∀e∈ents.toList,e.born<clock
 keys:(es.map (·.1)).Nodup
def b0T {α β:Type} (K:α→Value) (V:β→Value) (w:World) (b r:Nat) (es pre:List (α × β)) (cnt:Nat):Prop :=
 ∃ (ents:Array MapEntry) (clock since:Nat) (seen:Array Nat) (c0:Nat) (ps:List MapEntry),w.heap[b]?=some (.map ents clock)∧EntsOf K V ents clock es∧w.heap[r]?=some (.mapIter (some b) since seen c0)∧(∀e∈ents.toList,e.born<since)∧since≤c0∧since≤clock ∧
   ps.map (fun e=>(e.key,e.val))=pre.map (fun p=>(K p.1,V p.2))∧seen.toList=ps.map (·.born)∧(∀e∈ps,e∈ents.toList)∧(∀p∈pre,p∈es)∧(pre.map (·.1)).Nodup∧(leftOf ents seen).size=cnt∧pre.length+cnt≤es.length
section
variable {α β:Type} [DecidableEq α] {K:α→Value} {V:β→Value} {P:Program} {k t e:TypeId} {w:World} {b r:Nat} {es pre:List (α × β)} {cnt:Nat}
theorem b0T.map_ (h:b0T K V w b r es pre cnt):a0V K V w b es:=by
 obtain ⟨ents,clock,_,_,_,_,hb,hE,_⟩:=h;exact ⟨ents,clock,hb,hE.kv,hE.born,hE.old,hE.keys⟩
theorem b0T.lt (h:b0T K V w b r es pre cnt):r<w.heap.size:=by
 obtain ⟨_,_,_,_,_,_,_,_,hr,_⟩:=h;exact (jL hr)
theorem b0T.ne (h:b0T K V w b r es pre cnt):r≠b:=by
 obtain ⟨_,_,_,_,_,_,hb,_,hr,_⟩:=h;intro e;rw [e,hb] at hr
 cases hr
theorem b0T.left_eq (h:b0T K V w b r es pre cnt):w.rangeLeft b r=cnt:=by
 obtain ⟨_,_,_,_,_,_,hb,_,hr,_,_,_,_,_,_,_,_,hc,_⟩:=h;simp only [World.rangeLeft,hb,hr]
 exact hc
theorem b0T.iter_walk (h:b0T K V w b r es pre cnt):∃o:Obj,w.heap[r]?=some o∧o.isWalk=true:=by
 obtain ⟨_,_,_,_,_,_,hb,_,hr,_⟩:=h;exact ⟨_,hr,rfl⟩
theorem b0T.of_walks {w':World} (h:b0T K V w b r es pre cnt) (hk:KeepsWalks w w'):b0T K V w' b r es pre cnt:=by
 obtain ⟨ents,clock,since,seen,c0,ps,hb,hE,hr,rest⟩:=h;exact ⟨ents,clock,since,seen,c0,ps,hk.same b _ hb rfl,hE,hk.same r _ hr rfl,rest⟩
theorem b0T.kept {w':World} (h:b0T K V w b r es pre cnt) (h1:w'.heap[b]?=w.heap[b]?) (h2:w'.heap[r]?=w.heap[r]?):b0T K V w' b r es pre cnt:=by
 obtain ⟨ents,clock,since,seen,c0,ps,hb,hE,hr,rest⟩:=h;exact ⟨ents,clock,since,seen,c0,ps,h1.trans hb,hE,h2.trans hr,rest⟩
theorem a0V.range (h:a0V K V w b es) (ht:P.underlying t=some (.map k e)) :
 ∃w',(Instr.range t (.map (some b))).run P w=.ok (.pointer (some ⟨w.heap.size,0,none⟩)) w'∧b0T K V w' b w.heap.size es [] es.length∧w.grownBy w' none∧w'.heap.size=w.heap.size+1:=by
 have hlt:=h.lt;obtain ⟨ents,clock,hb,h1,h2,h3,h4⟩:=h;have hs:ents.size=es.length:=by simpa using congrArg List.length h1
 exact ⟨_,run_range_map w t k e b ents clock ht hb,⟨ents,clock,clock,#[],clock,[],((MapKept.heap_alloc w _).2 b hlt).trans hb,⟨h1,h2,h3,h4⟩,(MapKept.heap_alloc w _).1,h3,Nat.le_refl _,Nat.le_refl _,rfl,rfl,fun _ h=>by simp at h,fun _ h=>by simp at h,List.nodup_nil,by rw [←hs];simp [leftOf],by simp⟩,World.grownBy_alloc w _ none,by simp⟩
theorem b0T.next (h:b0T K V w b r es pre cnt) (inj:∀x y,K x=K y→x=y) (ty:TypeId) :
 (cnt=0∧(pre.map (·.1)).Perm (es.map (·.1))∧(Instr.next (.pointer (some ⟨r,0,none⟩)) false ty).run P w=.ok (.tuple #[.bool false]) w) ∨
 ∃ p w' cnt',p∈es∧p.1∉pre.map (·.1)∧(Instr.next (.pointer (some ⟨r,0,none⟩)) false ty).run P w=.ok (.tuple #[.bool true,K p.1,V p.2]) w' ∧
   b0T K V w' b r es (pre++[p]) cnt'∧cnt'<cnt∧w.grownBy w' (some r)∧w'.heap.size=w.heap.size∧(Instr.entry (.pointer (some ⟨r,0,none⟩))).run P w'=.ok (.tuple #[K p.1,V p.2]) w':=by
 have hne:=h.ne;obtain ⟨ents,clock,since,seen,c0,ps,hb,hE,hr,hold,hsc,hsk,hps,hseen,hsub,hpre,hnd,rfl,hcnt⟩:=h
 rcases run_next_at (P:=P) w ty r b since c0 seen ents clock hr hb hold hsc with ⟨h0,hrun⟩|⟨e,he,w1,hal,hrun⟩
 · refine Or.inl ⟨h0,?_,hrun⟩
   refine (List.perm_ext_iff_of_nodup hnd hE.keys).2 (fun x=>⟨fun hx=>?_,fun hx=>?_⟩)
   · obtain ⟨p,hp,rfl⟩:=List.mem_map.1 hx
     exact List.mem_map.2 ⟨p,hpre p hp,rfl⟩
   · obtain ⟨p,hp,rfl⟩:=List.mem_map.1 hx
     obtain ⟨j,hj⟩:=List.getElem?_of_mem hp;have:=congrArg (·[j]?) hE.kv;simp only [List.getElem?_map,hj,Option.map_some] at this
     cases hej:ents.toList[j]? with
     | none=>rw [hej] at this;cases this
     | some e0 =>
       rw [hej] at this;simp only [Option.map_some,Option.some.injEq,Prod.mk.injEq] at this
       have hs:=all_seen ents seen h0 e0 (List.mem_of_getElem? hej);have hs':e0.born∈ps.map (·.born):=by rw [←hseen];simpa using hs
       obtain ⟨e1,he1,hborn⟩:=List.mem_map.1 hs';obtain rfl:=born_inj hE.born (hsub e1 he1) (List.mem_of_getElem? hej) hborn;obtain ⟨q,hq,hk,hv⟩:=r0E hps he1;exact List.mem_map.2 ⟨q,hq,inj _ _ (hk.symm.trans this.1)⟩
 · obtain ⟨hem,hes⟩:=mem_left he
   obtain ⟨j,hj⟩:=List.getElem?_of_mem hem;obtain ⟨p,hp,hk,hv⟩:=q0Z hE.kv hj;have hpm:=List.mem_of_getElem? hp;have hnew:p.1∉pre.map (·.1):=by
    intro hx;obtain ⟨q,hq,hqp⟩:=List.mem_map.1 hx;obtain ⟨i,hi⟩:=List.getElem?_of_mem hq;have:=congrArg (·[i]?) hps;simp only [List.getElem?_map,hi,Option.map_some] at this
    cases hei:ps[i]? with
    | none=>rw [hei] at this;cases this
    | some e0 =>
      rw [hei] at this;simp only [Option.map_some,Option.some.injEq,Prod.mk.injEq] at this
      have he0:=List.mem_of_getElem? hei;obtain ⟨m,hm⟩:=List.getElem?_of_mem (hsub e0 he0);obtain ⟨q',hq',hk',hv'⟩:=q0Z hE.kv hm;have h1:q'.1=p.1:=(inj _ _ (hk'.symm.trans this.1)).trans hqp;have hm1:(es.map (·.1))[m]?=some p.1:=by simp [hq',h1]
      have hj1:(es.map (·.1))[j]?=some p.1:=by simp [hp]
      obtain rfl:=d0O hE.keys hm1 hj1;rw [hj] at hm;injection hm with hm
      subst hm;have:e.born∈seen.toList:=by rw [hseen];exact List.mem_map.2 ⟨e,he0,rfl⟩
      have:seen.contains e.born=true:=by simpa using this
      rw [this] at hes
      cases hes
   have hr1:w1.heap[r]?=some (.mapIter (some b) since seen c0):=by rcases hal with rfl|rfl <;> exact hr
   have hb1:w1.heap[b]?=some (.map ents clock):=by rcases hal with rfl|rfl <;> exact hb
   have hset:=Go.MapKept.heap_set (o':=.mapIter (some b) since (seen.push e.born) clock) hr1;have hb':(setBlock w1 r (.mapIter (some b) since (seen.push e.born) clock)).heap[b]?=some (.map ents clock):=(hset.2 b (fun e1=>hne e1.symm)).trans hb1;have hsh:=left_shrinks ents seen e he
   refine Or.inr ⟨p,_,_,hpm,hnew,by rw [←hk,←hv];exact hrun,
     ⟨ents,clock,since,seen.push e.born,clock,ps++[e],hb',hE,hset.1,hold,hsk,hsk,by rw [List.map_append,List.map_append,hps];simp [hk,hv],by rw [Array.toList_push,hseen];simp,fun x hx=>?_,fun q hq=>?_,?_,rfl,?_⟩,hsh,?_,?_,?_⟩
   · rcases List.mem_append.1 hx with h|h
     · exact hsub x h
     · rw [List.mem_singleton.1 h];exact hem
   · rcases List.mem_append.1 hq with h|h
     · exact hpre q h
     · rw [List.mem_singleton.1 h];exact hpm
   · rw [List.map_append,List.nodup_append]
     refine ⟨hnd,by simp,fun a ha c hc=>?_⟩;simp only [List.map_cons,List.map_nil,List.mem_singleton] at hc
     subst hc;exact fun e1=>hnew (e1 ▸ ha)
   · rw [List.length_append,List.length_singleton];omega
   · rcases hal with rfl|rfl <;> exact ⟨rfl,rfl,rfl,by simp [setBlock],fun i _ hi=>hset.2 i (fun e1=>hi (by rw [e1]))⟩
   · rcases hal with rfl|rfl <;> simp [setBlock]
   · rw [←hk,←hv]
     exact run_entry_at _ r b since seen ents clock e hset.1 hb' hem hE.born
end
end
end
section
open Go.RowKit Go.Lib Go.Shelf
section
attribute [local go_sem] Oper.semAt_some
section
variable {F:Fence} {nF:Nat} {P:Program} {ops:Array Oper} {rest:List Oper} {o:Oper} {a:Act} {w:World} {Q:Exit→Act→World→Prop}
variable {α β:Type} [DecidableEq α] {K:α→Value} {V:β→Value} {b r:Nat} {es pre:List (α × β)} {cnt:Nat}
theorem n0S (hg:o.guard=none) (m:Operand) (t:TypeId) (hop:o.op=Op.range t m) (k e:TypeId) (ht:P.underlying t=some (.map k e)) (hm:a.eval m=.map (some b)) (hown:a0V K V w b es)
    (hK:∀w',b0T K V w' b w.heap.size es [] es.length→w.grownBy w' none→w'.heap.size=w.heap.size+1→wpListIn F nF P ops Q rest (a.put o.dst (.pointer (some ⟨w.heap.size,0,none⟩))) w') :
    wpListIn F nF P ops Q (o::rest) a w:=by
  refine wpListIn_plain hg fun K' hK'=>?_
  obtain ⟨w',hrun,r1,r2,r3⟩:=a0V.range hown ht;unfold Oper.wpIn;refine ⟨?_,?_⟩
  · simp [Oper.about,hop]
  · rw [Oper.semAt_plain F _ _ (by rw [hop];intro c hc';cases hc')]
    simp [execOp,hop,hm,hrun,Result.andThen]
    exact hK' _ _ (hK w' r1 r2 r3)
theorem o0T (hg:o.guard=none) (it:Operand) (hop:o.op=Op.next it false) (inj:∀x y,K x=K y→x=y) (hit:a.eval it=.pointer (some ⟨r,0,none⟩)) (h:b0T K V w b r es pre cnt)
    (hDone:cnt=0→(pre.map (·.1)).Perm (es.map (·.1))→wpListIn F nF P ops Q rest (a.put o.dst (.tuple #[.bool false])) w)
    (hMore:∀(p:α × β) (w':World) (cnt':Nat),p∈es→p.1∉pre.map (·.1)→b0T K V w' b r es (pre++[p]) cnt'→cnt'<cnt→w.grownBy w' (some r)→w'.heap.size=w.heap.size →
      (Instr.entry (.pointer (some ⟨r,0,none⟩))).run P w'=.ok (.tuple #[K p.1,V p.2]) w'→wpListIn F nF P ops Q rest (a.put o.dst (.tuple #[.bool true,K p.1,V p.2])) w') :
    wpListIn F nF P ops Q (o::rest) a w:=by
  refine wpListIn_plain hg fun K' hK'=>?_
  unfold Oper.wpIn;refine ⟨by simp [Oper.about,hop],?_⟩;rw [Oper.semAt_plain F _ _ (by rw [hop];intro c hc';cases hc')]
  rcases h.next (P:=P) inj o.type with ⟨h0,hl,hrun⟩|⟨p,w',cnt',h1,h2,hrun,hrg,hlt,hgr,hsz,hen⟩
  · simp [execOp,hop,hit,hrun,Result.andThen]
    exact hK' _ _ (hDone h0 hl)
  · simp [execOp,hop,hit,hrun,Result.andThen]
    exact hK' _ _ (hMore p w' cnt' h1 h2 hrg hlt hgr hsz hen)
end
theorem sorted_in (n:Nat) (hn:4≤n) (gf:Nat) (lb:Array Value) (eg:∀args w,(callFunc gf args).run Tryz.prog w=.ok (.enter gf args) w)
    (S Sp:List Ky→Prop) (N:Nat) (hN:N≤1000000) (hS:∀ss,S ss→ss.length≤N) (w:World) (hseq:SeqStopsK Fence.wide (n - 1 - 1 - 1) Tryz.prog gf lb encA (Kp w.heap.size) S Sp N w) :
    CallsIn Fence.wide n Tryz.prog 208 #[.func (.func gf) #[] lb,.func (.func 168) #[] #[]] w fun e w'=>∃(v:Value) (ss:List Ky),e=.returned v∧S ss∧w'.ownsRow w.heap.size 74 2 v ss.length (a0F l0I (k0O ss))∧jB w w':=by
  have h1:1≤n:=by omega
  refine callsIn_of_wp Tryz.func208 rfl trivial ?_ rfl;simp only [Tryz.ntmps208,List.size_toArray,List.length_cons,List.length_nil,Nat.reduceAdd,Nat.reduceSub,Array.replicate_succ,Array.replicate_zero,List.push_toArray,List.append_toArray,List.nil_append,List.cons_append]
  gi_wp2_with (first
   | (refine ⟨trivial,?_⟩;gi_at_call 257;refine (c1R (n - 1) (by omega) gf lb eg S Sp N hN _ hseq).mono ?_;rintro e w1 ⟨v,ss,rfl,hS1,hrow,hb⟩;obtain ⟨A,c,rfl⟩:=i0A hrow;have HR:=jH hrow;clear hrow)
   | (refine ⟨trivial,?_⟩;gi_at_call 167;refine CallsIn.mono (callsIn_wide.2 (k1M _ _ _ HR.out (by have:=hS _ hS1;omega))) ?_;rintro e w2 ⟨rfl,hrow2,hg2⟩;have HR2:=jH hrow2;clear hrow2))
  go_ret
  exact ⟨_,ss,rfl,hS1,HR2.out,hb.trans (c0C hg2 hb.size (fun k hk=>(HR.out.lt k hk).1))⟩
theorem n0T {ss l:List Ky} (hp:ss.Perm l) (hn:l.Nodup):k0O ss=risL l:=by
 have hperm:(k0O ss).Perm ss:=List.mergeSort_perm _ _;refine i0X ?_ (u0C l) (fun y=>by rw [g0X,hperm.mem_iff,hp.mem_iff]);have h1:(k0O ss).Pairwise (fun a b=>(!ltK b a)=true):=List.pairwise_mergeSort (le:=fun x y=>!ltK y x) (fun a b c h1 h2=>by
  simp only [Bool.not_eq_true'] at *
  cases h:ltK c a with
  | false=>rfl
  | true =>
    cases h3:ltK a b with
    | true=>rw [d0A h h3] at h2;cases h2
    | false=>have:=d0P h1 h3;subst this;rw [h] at h2;cases h2) (fun a b=>by
  cases h:ltK b a with
  | false=>rfl
  | true=>simp [r0J h]) ss
 have h2:(k0O ss).Nodup:=(hperm.trans hp).nodup_iff.2 hn;refine (List.Pairwise.and h1 h2).imp ?_;rintro a b ⟨h3,h4⟩
 cases h:ltK a b with
 | true=>rfl
 | false=>exact absurd (d0P h (by simpa using h3)) h4
theorem n0L {l:List KO} (h:l.Nodup):(kys l).Nodup:=by
 unfold kys;exact List.Pairwise.map _ (fun a b hab e=>hab (Subtype.ext e)) h
end
section
attribute [local go_sem] Oper.semAt_some
def kyN (pre:List (KO × NE)):List Ky:=pre.map fun p=>p.1.1
theorem g1T (n:Nat) (hn:1≤n) (l Bm d:Nat) (ks:List (KO × NE)) (n₀ B0:Nat) (J Jx:List Ky→World→Prop) (hJ:AbidesFrom B0 J)
    (hY:∀pre x W,J pre W→pre.length<ks.length→YieldAt Fence.wide (n - 1) Tryz.prog l #[.agg #[.int .u64 x.1,.int .u64 x.2]] W fun e W' =>
      (e=.returned (.bool true)∧J (pre++[x]) W'∧Kp n₀ W W')∨(e=.returned (.bool false)∧Jx (pre++[x]) W'))
    (W:World) (hB0:B0≤W.heap.size) (hBm:W.cell? ⟨Bm,0,none⟩=some (.map (some d))) (hown:a0V koV neV W d ks) (h0:J [] W) :
    CallsIn Fence.wide n Tryz.prog 258 #[.func (.yield l) #[] #[],.pointer (some ⟨Bm,0,none⟩)] W fun e W'=>(∃v,e=.returned v) ∧
      ((∃ys,ys.Perm (kyN ks)∧J ys W')∨(∃pre,True∧Jx pre W')):=by
  refine callsIn_of_wp Tryz.func258 rfl trivial ?_ rfl;simp only [Tryz.ntmps258,List.size_toArray,List.length_cons,List.length_nil,Nat.reduceAdd,Nat.reduceSub,Array.replicate_succ,Array.replicate_zero,List.push_toArray,List.append_toArray,List.nil_append,List.cons_append]
  gi_wp2_with (first
   | (gi_at_range;refine n0S rfl _ 230 rfl 74 170 Tryz.underlying230 rfl hown ?_;intro w0 hrg0 hg0 hs0)
   | gi_in)
  go_frame
  gi_loopw [3] (fun _ wr=>∃(cnt:Nat) (pre:List (KO × NE)),b0T koV neV wr d W.heap.size (ks) pre cnt∧pre.length+cnt≤ks.length∧J (kyN pre) wr)
    (fun _ wr=>wr.rangeLeft d W.heap.size)
  case atStart =>
   exact ⟨_,[],hrg0,by simp,hJ [] W w0 none h0 hg0 (fun r e=>by cases e)⟩
  case round =>
   obtain ⟨cnt,pre,hrg,hcs,hJs⟩:=hrel
   gi_wp2_with (first
    | (gi_at_next;refine o0T rfl _ rfl h1P.inj rfl hrg ?_ (fun p w2 cnt2 hx hnew hrg2 hlt hg2 hs2 hen=>?_)
       rotate_left
       obtain ⟨x,u⟩:=p;have hJ2:J (kyN pre) w2:=hJ _ wr w2 (some W.heap.size) hJs hg2 (fun r e=>by cases e;exact ⟨hB0,hrg.iter_walk⟩);have hJ3:=hJ _ w2 (w2.alloc (.cells #[.int .u64 x.1.1,.int .u64 x.1.2] 74)) none hJ2 (World.grownBy_alloc _ _ none) (fun r e=>by cases e);obtain ⟨fn,tmps,assign,body,hy,hR⟩:=hY (kyN pre) x.1 _ hJ3 (by simp [kyN];omega);have hrg3:b0T koV neV (w2.alloc (.cells #[.int .u64 x.1.1,.int .u64 x.1.2] 74)) d W.heap.size (ks) (pre++[(x,u)]) cnt2 :=
        hrg2.kept (Below.heap_alloc _ _ _ (a0V.lt hrg2.map_)) (Below.heap_alloc _ _ _ hrg2.lt)
       have HR:=jH hrg3;clear hs2 hg2 hJ2 hJ3 hrg2 hrg3;simp only [koV,neV] at hen ⊢
       rotate_left)
    | gi_in)
   · intro hc0 hp
     gi_wp2
     go_end0
     refine ⟨⟨_,rfl⟩,.inl ⟨kyN pre,?_,hJs⟩⟩;have:=hp.map (·.1)
     simpa [kyN,List.map_map,Function.comp_def] using this
   · gi_wp2
     refine hR.mono ?_;rintro e W3 (⟨rfl,hJ4,hk4⟩|⟨rfl,hJx4⟩)
     · gi_wp2
       have hrg4:=HR.out.of_walks hk4.2
       go_roundw
       case rel=>exact ⟨cnt2,pre++[(x,u)],hrg4,by simp;omega,by simpa [kyN] using hJ4⟩
       case measure=>rw [hrg4.left_eq,hrg.left_eq];exact hlt
     · gi_wp2
       refine bodyPost_ret (results_none rfl _ _ _) rfl ?_;exact ⟨⟨_,rfl⟩,.inr ⟨_,trivial,hJx4⟩⟩
theorem a1C (n:Nat) (m:Option Nat) (w:World) :
 CallsIn Fence.wide n Tryz.prog 209 #[.map m] w fun e w'=>e=.returned (.func (.func 258) #[] #[.pointer (some ⟨w.heap.size,0,none⟩)])∧∃t,w'=w.alloc (.cells #[.map m] t):=by
 refine callsIn_of_wp Tryz.func209 rfl trivial ?_ rfl;simp only [Tryz.ntmps209,List.size_toArray,List.length_cons,List.length_nil,Nat.reduceAdd,Nat.reduceSub,Array.replicate_succ,Array.replicate_zero,List.push_toArray,List.append_toArray,List.nil_append,List.cons_append]
 gi_wp2
 go_ret
 exact ⟨rfl,_,rfl⟩
theorem v0O (n:Nat) (hn:1≤n) (d:Nat) (ks:List (KO × NE)) (w:World) (t:TypeId) (h:a0V koV neV w d ks) :
 SeqStopsK Fence.wide n Tryz.prog 258 #[.pointer (some ⟨w.heap.size,0,none⟩)] encA (Kp (w.alloc (.cells #[.map (some d)] t)).heap.size) (fun ss=>ss.Perm (kyN ks)) (fun _=>True) ks.length (w.alloc (.cells #[.map (some d)] t)) :=
 fun l J Jx W hW hJ hJx hY h0=>by
  have hc:=(hW.cell (p:=⟨w.heap.size,0,none⟩) (by simp)).trans (Boxed.new w t (.map (some d))).cell;refine g1T n hn l w.heap.size d ks _ _ J Jx hJ hY W (Nat.le_refl _) hc ?_ h0;exact a0V.block h ((hW.block d (by have:=h.lt;simp;omega)).trans (Below.heap_alloc _ _ _ h.lt))
theorem m0Y {w:World} {d:Nat} {es:List (KO × NE)} (h:a0V koV neV w d es):(kyN es).Nodup:=by
 obtain ⟨_,_,_,_,_,_,hn⟩:=h;have:kyN es=kys (es.map (·.1)):=by simp [kyN,kys,List.map_map,Function.comp_def]
 rw [this];exact n0L hn
theorem r0O (T:Nat) (c:Cfg) (ver:Nat) (es:List (KO × NE)) (rs rh:Nat) (fp:List Nat) (w:World) (h:h0V w T c ver es rs rh fp) (hl:es.length<1000000) :
 Calls Tryz.prog 153 #[.pointer (some ⟨T,0,none⟩)] w (Lists w (risL (kyN es))):=by
 refine (callsIn_wide (n:=9)).1 ?_;have HM:=jH (g0H T c ver es rs rh fp w h);obtain ⟨M,h1,h2,h3,h4,h5,h6,rfl⟩:=h;have hnd:=m0Y h2;have hlt:=(jL h1);have HT:=jH h1;have HE:=jH h2;clear h1 h2 h3 h4 h5 h6;refine callsIn_of_wp Tryz.func153 rfl trivial ?_ rfl;simp only [Tryz.ntmps153,List.size_toArray,List.length_cons,List.length_nil,Nat.reduceAdd,Nat.reduceSub,Array.replicate_succ,Array.replicate_zero,List.push_toArray,List.append_toArray,List.nil_append,List.cons_append]
 gi_wp2_with (first
  | (refine ⟨trivial,?_⟩;gi_at_call 149;refine CallsIn.mono (callsIn_wide.2 HM.out) ?_
     rintro e w2 ⟨rfl,hb2⟩;have hx2:w2.heap[T]?=_:=(hb2.block T hlt).trans HT.out;have z0:w2.cell? ⟨T,0,none⟩=some (.map (some M)):=by simp only [World.cell?,hx2];rfl
     have hE2:a0V koV neV w2 M es:=HE.out.below hb2;have HE2:=jH hE2;have HB2:=jH hb2;clear hx2 hE2 hb2)
  | (refine ⟨trivial,?_⟩;gi_at_call 209;refine (a1C 8 _ _).mono ?_;rintro e w' ⟨rfl,t,rfl⟩)
  | (refine ⟨trivial,?_⟩;gi_at_call 208;refine (sorted_in 8 (by omega) 258 _ (enters_of Tryz.func258 (by kernel_rfl) rfl) (fun ss=>ss.Perm (kyN es)) (fun _=>True) es.length (by omega) (fun ss hss=>by rw [hss.length_eq];simp [kyN]) _ (v0O (8 - 1 - 1 - 1) (by omega) M es w2 t HE2.out)).mono ?_;rintro e w' ⟨v,ss,rfl,hp,hrow,hb⟩))
 go_ret
 have e1:=n0T hp hnd;have e2:(k0O ss).length=ss.length:=by simp [k0O]
 rw [e1] at hrow e2;rw [←e2] at hrow;have hsz:=HB2.out.size;exact ⟨v,rfl,m0V hrow (by simp;omega),a0D HB2.out (((Below.refl _ w2).alloc (Nat.le_refl _) _).trans (hb.mono (by simp)))⟩
theorem e0G {l:List Ky} (hn:l.Nodup):(risL l).length=l.length:=by
 have h:=n0T (List.Perm.refl l) hn;rw [←h];simp [k0O]
end
end
end Go.Proofs.YtmniiodpbebnmaaGreat
