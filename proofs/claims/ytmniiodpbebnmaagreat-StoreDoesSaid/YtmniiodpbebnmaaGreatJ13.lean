/- Part 13 of the proof. -/
import Derived.Maps.Range
import Derived.RangeFuncSeq
import Derived.Test.YtmniiodpbebnmaaGreatJ12
import Derived.Sort.MapsRangeIn
namespace Go.Proofs.YtmniiodpbebnmaaGreat
set_option linter.unusedSimpArgs false
set_option linter.unusedVariables false
set_option linter.unusedSectionVars false
set_option maxRecDepth 100000
set_option maxHeartbeats 16000000
section
open Go.RowKit Go.Lib
open Go.Maps (Keyed)
open Go.ChangeMaps
section
structure EntsOf {α β:Type} (K:α→Value) (V:β→Value) (ents:Array MapEntry) (clock:Nat) (es:List (α × β)):Prop where
 kv:ents.toList.map (fun e=>(e.key,e.val))=es.map (fun p=>(K p.1,V p.2))
 born:(ents.toList.map (·.born)).Nodup
 old:∀e∈ents.toList,e.born<clock
 keys:(es.map (·.1)).Nodup
def c0I {α β:Type} (K:α→Value) (V:β→Value) (w:World) (b r:Nat) (es pre:List (α × β)) (cnt:Nat):Prop :=
 ∃ (ents:Array MapEntry) (clock since:Nat) (seen:Array Nat) (c0:Nat) (ps:List MapEntry),w.heap[b]?=some (.map ents clock)∧EntsOf K V ents clock es∧w.heap[r]?=some (.mapIter (some b) since seen c0)∧(∀e∈ents.toList,e.born<since)∧since≤c0∧since≤clock ∧
   ps.map (fun e=>(e.key,e.val))=pre.map (fun p=>(K p.1,V p.2))∧seen.toList=ps.map (·.born)∧(∀e∈ps,e∈ents.toList)∧(∀p∈pre,p∈es)∧(pre.map (·.1)).Nodup∧(leftOf ents seen).size=cnt∧pre.length+cnt≤es.length
section
variable {α β:Type} [DecidableEq α] {K:α→Value} {V:β→Value} {P:Program} {k t e:TypeId} {w:World} {b r:Nat} {es pre:List (α × β)} {cnt:Nat}
theorem c0I.map_ (h:c0I K V w b r es pre cnt):b0N K V w b es:=by
 obtain ⟨ents,clock,_,_,_,_,hb,hE,_⟩:=h;exact ⟨ents,clock,hb,hE.kv,hE.born,hE.old,hE.keys⟩
theorem c0I.lt (h:c0I K V w b r es pre cnt):r<w.heap.size:=by
 obtain ⟨_,_,_,_,_,_,_,_,hr,_⟩:=h;exact (jL hr)
theorem c0I.ne (h:c0I K V w b r es pre cnt):r≠b:=by
 obtain ⟨_,_,_,_,_,_,hb,_,hr,_⟩:=h;intro e;rw [e,hb] at hr
 cases hr
theorem c0I.left_eq (h:c0I K V w b r es pre cnt):w.rangeLeft b r=cnt:=by
 obtain ⟨_,_,_,_,_,_,hb,_,hr,_,_,_,_,_,_,_,_,hc,_⟩:=h;simp only [World.rangeLeft,hb,hr]
 exact hc
theorem c0I.iter_walk (h:c0I K V w b r es pre cnt):∃o:Obj,w.heap[r]?=some o∧o.isWalk=true:=by
 obtain ⟨_,_,_,_,_,_,hb,_,hr,_⟩:=h;exact ⟨_,hr,rfl⟩
theorem c0I.of_walks {w':World} (h:c0I K V w b r es pre cnt) (hk:KeepsWalks w w'):c0I K V w' b r es pre cnt:=by
 obtain ⟨ents,clock,since,seen,c0,ps,hb,hE,hr,rest⟩:=h;exact ⟨ents,clock,since,seen,c0,ps,hk.same b _ hb rfl,hE,hk.same r _ hr rfl,rest⟩
theorem c0I.kept {w':World} (h:c0I K V w b r es pre cnt) (h1:w'.heap[b]?=w.heap[b]?) (h2:w'.heap[r]?=w.heap[r]?):c0I K V w' b r es pre cnt:=by
 obtain ⟨ents,clock,since,seen,c0,ps,hb,hE,hr,rest⟩:=h;exact ⟨ents,clock,since,seen,c0,ps,h1.trans hb,hE,h2.trans hr,rest⟩
theorem b0N.range (h:b0N K V w b es) (ht:P.underlying t=some (.map k e)) :
 ∃w',(Instr.range t (.map (some b))).run P w=.ok (.pointer (some ⟨w.heap.size,0,none⟩)) w'∧c0I K V w' b w.heap.size es [] es.length∧w.grownBy w' none∧w'.heap.size=w.heap.size+1:=by
 have hlt:=h.lt;obtain ⟨ents,clock,hb,h1,h2,h3,h4⟩:=h;have hs:ents.size=es.length:=by simpa using congrArg List.length h1
 exact ⟨_,run_range_map w t k e b ents clock ht hb,⟨ents,clock,clock,#[],clock,[],((MapKept.heap_alloc w _).2 b hlt).trans hb,⟨h1,h2,h3,h4⟩,(MapKept.heap_alloc w _).1,h3,Nat.le_refl _,Nat.le_refl _,rfl,rfl,fun _ h=>by simp at h,fun _ h=>by simp at h,List.nodup_nil,by rw [←hs];simp [leftOf],by simp⟩,World.grownBy_alloc w _ none,by simp⟩
theorem c0I.next (h:c0I K V w b r es pre cnt) (inj:∀x y,K x=K y→x=y) (ty:TypeId) :
 (cnt=0∧(pre.map (·.1)).Perm (es.map (·.1))∧(Instr.next (.pointer (some ⟨r,0,none⟩)) false ty).run P w=.ok (.tuple #[.bool false]) w) ∨
 ∃ p w' cnt',p∈es∧p.1∉pre.map (·.1)∧(Instr.next (.pointer (some ⟨r,0,none⟩)) false ty).run P w=.ok (.tuple #[.bool true,K p.1,V p.2]) w' ∧
   c0I K V w' b r es (pre++[p]) cnt'∧cnt'<cnt∧w.grownBy w' (some r)∧w'.heap.size=w.heap.size∧(Instr.entry (.pointer (some ⟨r,0,none⟩))).run P w'=.ok (.tuple #[K p.1,V p.2]) w':=by
 have hne:=h.ne;obtain ⟨ents,clock,since,seen,c0,ps,hb,hE,hr,hold,hsc,hsk,hps,hseen,hsub,hpre,hnd,rfl,hcnt⟩:=h
 rcases run_next_at (P:=P) w ty r b since c0 seen ents clock hr hb hold hsc with ⟨h0,hrun⟩|⟨e,he,w1,hal,hrun⟩
 · refine Or.inl ⟨h0,?_,hrun⟩
   refine (List.perm_ext_iff_of_nodup hnd hE.keys).2 (fun x=>⟨fun hx=>?_,fun hx=>?_⟩)
   · obtain ⟨p,hp,rfl⟩:=List.mem_map.1 hx
     exact List.mem_map.2 ⟨p,hpre p hp,rfl⟩
   · obtain ⟨p,hp,rfl⟩:=List.mem_map.1 hx
     obtain ⟨j,hj⟩:=List.getElem?_of_mem hp;have:=congrArg (·[j]?) hE.kv;simp only [List.getElem?_map,hj,Option.map_some] at this
     cases hej:ents.toList[j]? with
     | none=>rw [hej] at this;cases this
     | some e0 =>
       rw [hej] at this;simp only [Option.map_some,Option.some.injEq,Prod.mk.injEq] at this
       have hs:=all_seen ents seen h0 e0 (List.mem_of_getElem? hej);have hs':e0.born∈ps.map (·.born):=by rw [←hseen];simpa using hs
       obtain ⟨e1,he1,hborn⟩:=List.mem_map.1 hs';obtain rfl:=born_inj hE.born (hsub e1 he1) (List.mem_of_getElem? hej) hborn;obtain ⟨q,hq,hk,hv⟩:=c1B hps he1;exact List.mem_map.2 ⟨q,hq,inj _ _ (hk.symm.trans this.1)⟩
 · obtain ⟨hem,hes⟩:=mem_left he
   obtain ⟨j,hj⟩:=List.getElem?_of_mem hem;obtain ⟨p,hp,hk,hv⟩:=t0Z hE.kv hj;have hpm:=List.mem_of_getElem? hp;have hnew:p.1∉pre.map (·.1):=by
    intro hx;obtain ⟨q,hq,hqp⟩:=List.mem_map.1 hx;obtain ⟨i,hi⟩:=List.getElem?_of_mem hq;have:=congrArg (·[i]?) hps;simp only [List.getElem?_map,hi,Option.map_some] at this
    cases hei:ps[i]? with
    | none=>rw [hei] at this;cases this
    | some e0 =>
      rw [hei] at this;simp only [Option.map_some,Option.some.injEq,Prod.mk.injEq] at this
      have he0:=List.mem_of_getElem? hei;obtain ⟨m,hm⟩:=List.getElem?_of_mem (hsub e0 he0);obtain ⟨q',hq',hk',hv'⟩:=t0Z hE.kv hm;have h1:q'.1=p.1:=(inj _ _ (hk'.symm.trans this.1)).trans hqp;have hm1:(es.map (·.1))[m]?=some p.1:=by simp [hq',h1]
      have hj1:(es.map (·.1))[j]?=some p.1:=by simp [hp]
      obtain rfl:=f0Z hE.keys hm1 hj1;rw [hj] at hm;injection hm with hm
      subst hm;have:e.born∈seen.toList:=by rw [hseen];exact List.mem_map.2 ⟨e,he0,rfl⟩
      have:seen.contains e.born=true:=by simpa using this
      rw [this] at hes
      cases hes
   have hr1:w1.heap[r]?=some (.mapIter (some b) since seen c0):=by rcases hal with rfl|rfl <;> exact hr
   have hb1:w1.heap[b]?=some (.map ents clock):=by rcases hal with rfl|rfl <;> exact hb
   have hset:=Go.MapKept.heap_set (o':=.mapIter (some b) since (seen.push e.born) clock) hr1;have hb':(setBlock w1 r (.mapIter (some b) since (seen.push e.born) clock)).heap[b]?=some (.map ents clock):=(hset.2 b (fun e1=>hne e1.symm)).trans hb1;have hsh:=left_shrinks ents seen e he
   refine Or.inr ⟨p,_,_,hpm,hnew,by rw [←hk,←hv];exact hrun,
     ⟨ents,clock,since,seen.push e.born,clock,ps++[e],hb',hE,hset.1,hold,hsk,hsk,by rw [List.map_append,List.map_append,hps];simp [hk,hv],by rw [Array.toList_push,hseen];simp,fun x hx=>?_,fun q hq=>?_,?_,rfl,?_⟩,hsh,?_,?_,?_⟩
   · rcases List.mem_append.1 hx with h|h
     · exact hsub x h
     · rw [List.mem_singleton.1 h];exact hem
   · rcases List.mem_append.1 hq with h|h
     · exact hpre q h
     · rw [List.mem_singleton.1 h];exact hpm
   · rw [List.map_append,List.nodup_append]
     refine ⟨hnd,by simp,fun a ha c hc=>?_⟩;simp only [List.map_cons,List.map_nil,List.mem_singleton] at hc
     subst hc;exact fun e1=>hnew (e1 ▸ ha)
   · rw [List.length_append,List.length_singleton];omega
   · rcases hal with rfl|rfl <;> exact ⟨rfl,rfl,rfl,by simp [setBlock],fun i _ hi=>hset.2 i (fun e1=>hi (by rw [e1]))⟩
   · rcases hal with rfl|rfl <;> simp [setBlock]
   · rw [←hk,←hv]
     exact run_entry_at _ r b since seen ents clock e hset.1 hb' hem hE.born
end
end
end
section
open Go.RowKit Go.Lib Go.Shelf
section
attribute [local go_sem] Oper.semAt_some
section
variable {F:Fence} {nF:Nat} {P:Program} {ops:Array Oper} {rest:List Oper} {o:Oper} {a:Act} {w:World} {Q:Exit→Act→World→Prop}
variable {α β:Type} [DecidableEq α] {K:α→Value} {V:β→Value} {b r:Nat} {es pre:List (α × β)} {cnt:Nat}
theorem o0T (hg:o.guard=none) (m:Operand) (t:TypeId) (hop:o.op=Op.range t m) (k e:TypeId) (ht:P.underlying t=some (.map k e)) (hm:a.eval m=.map (some b)) (hown:b0N K V w b es)
    (hK:∀w',c0I K V w' b w.heap.size es [] es.length→w.grownBy w' none→w'.heap.size=w.heap.size+1→wpListIn F nF P ops Q rest (a.put o.dst (.pointer (some ⟨w.heap.size,0,none⟩))) w') :
    wpListIn F nF P ops Q (o::rest) a w:=by
  refine wpListIn_plain hg fun K' hK'=>?_
  obtain ⟨w',hrun,r1,r2,r3⟩:=b0N.range hown ht;unfold Oper.wpIn;refine ⟨?_,?_⟩
  · simp [Oper.about,hop]
  · rw [Oper.semAt_plain F _ _ (by rw [hop];intro c hc';cases hc')]
    simp [execOp,hop,hm,hrun,Result.andThen]
    exact hK' _ _ (hK w' r1 r2 r3)
theorem q0N (hg:o.guard=none) (it:Operand) (hop:o.op=Op.next it false) (inj:∀x y,K x=K y→x=y) (hit:a.eval it=.pointer (some ⟨r,0,none⟩)) (h:c0I K V w b r es pre cnt)
    (hDone:cnt=0→(pre.map (·.1)).Perm (es.map (·.1))→wpListIn F nF P ops Q rest (a.put o.dst (.tuple #[.bool false])) w)
    (hMore:∀(p:α × β) (w':World) (cnt':Nat),p∈es→p.1∉pre.map (·.1)→c0I K V w' b r es (pre++[p]) cnt'→cnt'<cnt→w.grownBy w' (some r)→w'.heap.size=w.heap.size →
      (Instr.entry (.pointer (some ⟨r,0,none⟩))).run P w'=.ok (.tuple #[K p.1,V p.2]) w'→wpListIn F nF P ops Q rest (a.put o.dst (.tuple #[.bool true,K p.1,V p.2])) w') :
    wpListIn F nF P ops Q (o::rest) a w:=by
  refine wpListIn_plain hg fun K' hK'=>?_
  unfold Oper.wpIn;refine ⟨by simp [Oper.about,hop],?_⟩;rw [Oper.semAt_plain F _ _ (by rw [hop];intro c hc';cases hc')]
  rcases h.next (P:=P) inj o.type with ⟨h0,hl,hrun⟩|⟨p,w',cnt',h1,h2,hrun,hrg,hlt,hgr,hsz,hen⟩
  · simp [execOp,hop,hit,hrun,Result.andThen]
    exact hK' _ _ (hDone h0 hl)
  · simp [execOp,hop,hit,hrun,Result.andThen]
    exact hK' _ _ (hMore p w' cnt' h1 h2 hrg hlt hgr hsz hen)
end
theorem k1O (n:Nat) (hn:4≤n) (gf:Nat) (lb:Array Value) (eg:∀args w,(callFunc gf args).run Tryz.prog w=.ok (.enter gf args) w)
    (S Sp:List Ky→Prop) (N:Nat) (hN:N≤1000000) (hS:∀ss,S ss→ss.length≤N) (w:World) (hseq:SeqStopsK Fence.wide (n - 1 - 1 - 1) Tryz.prog gf lb encA (Kp w.heap.size) S Sp N w) :
    CallsIn Fence.wide n Tryz.prog 208 #[.func (.func gf) #[] lb,.func (.func 168) #[] #[]] w fun e w'=>∃(v:Value) (ss:List Ky),e=.returned v∧S ss∧w'.ownsRow w.heap.size 74 2 v ss.length (a0G m0E (m0Q ss))∧jB w w':=by
  have h1:1≤n:=by omega
  refine callsIn_of_wp Tryz.func208 rfl trivial ?_ rfl;simp only [Tryz.ntmps208,List.size_toArray,List.length_cons,List.length_nil,Nat.reduceAdd,Nat.reduceSub,Array.replicate_succ,Array.replicate_zero,List.push_toArray,List.append_toArray,List.nil_append,List.cons_append]
  gi_wp2_with (first
   | (refine ⟨trivial,?_⟩;gi_at_call 257;refine (f1J (n - 1) (by omega) gf lb eg S Sp N hN _ hseq).mono ?_;rintro e w1 ⟨v,ss,rfl,hS1,hrow,hb⟩;obtain ⟨A,c,rfl⟩:=h0X hrow;have HR:=jH hrow;clear hrow)
   | (refine ⟨trivial,?_⟩;gi_at_call 167;refine CallsIn.mono (callsIn_wide.2 (o1H _ _ _ HR.out (by have:=hS _ hS1;omega))) ?_;rintro e w2 ⟨rfl,hrow2,hg2⟩;have HR2:=jH hrow2;clear hrow2))
  go_ret
  exact ⟨_,ss,rfl,hS1,HR2.out,hb.trans (c0H hg2 hb.size (fun k hk=>(HR.out.lt k hk).1))⟩
theorem o0X {ss l:List Ky} (hp:ss.Perm l) (hn:l.Nodup):m0Q ss=risL l:=by
 have hperm:(m0Q ss).Perm ss:=List.mergeSort_perm _ _;refine k0I ?_ (v0U l) (fun y=>by rw [i0C,hperm.mem_iff,hp.mem_iff]);have h1:(m0Q ss).Pairwise (fun a b=>(!ltK b a)=true):=List.pairwise_mergeSort (le:=fun x y=>!ltK y x) (fun a b c h1 h2=>by
  simp only [Bool.not_eq_true'] at *
  cases h:ltK c a with
  | false=>rfl
  | true =>
    cases h3:ltK a b with
    | true=>rw [d0T h h3] at h2;cases h2
    | false=>have:=e0D h1 h3;subst this;rw [h] at h2;cases h2) (fun a b=>by
  cases h:ltK b a with
  | false=>rfl
  | true=>simp [u0U h]) ss
 have h2:(m0Q ss).Nodup:=(hperm.trans hp).nodup_iff.2 hn;refine (List.Pairwise.and h1 h2).imp ?_;rintro a b ⟨h3,h4⟩
 cases h:ltK a b with
 | true=>rfl
 | false=>exact absurd (e0D h (by simpa using h3)) h4
theorem p0E {l:List KO} (h:l.Nodup):(kys l).Nodup:=by
 unfold kys;exact List.Pairwise.map _ (fun a b hab e=>hab (Subtype.ext e)) h
end
section
attribute [local go_sem] Oper.semAt_some
def kyN (pre:List (KO × NE)):List Ky:=pre.map fun p=>p.1.1
theorem k1W (n:Nat) (hn:1≤n) (l Bm d:Nat) (ks:List (KO × NE)) (n₀ B0:Nat) (J Jx:List Ky→World→Prop) (hJ:AbidesFrom B0 J)
    (hY:∀pre x W,J pre W→pre.length<ks.length→YieldAt Fence.wide (n - 1) Tryz.prog l #[.agg #[.int .u64 x.1,.int .u64 x.2]] W fun e W' =>
      (e=.returned (.bool true)∧J (pre++[x]) W'∧Kp n₀ W W')∨(e=.returned (.bool false)∧Jx (pre++[x]) W'))
    (W:World) (hB0:B0≤W.heap.size) (hBm:W.cell? ⟨Bm,0,none⟩=some (.map (some d))) (hown:b0N koV neV W d ks) (h0:J [] W) :
    CallsIn Fence.wide n Tryz.prog 258 #[.func (.yield l) #[] #[],.pointer (some ⟨Bm,0,none⟩)] W fun e W'=>(∃v,e=.returned v) ∧
      ((∃ys,ys.Perm (kyN ks)∧J ys W')∨(∃pre,True∧Jx pre W')):=by
  refine callsIn_of_wp Tryz.func258 rfl trivial ?_ rfl;simp only [Tryz.ntmps258,List.size_toArray,List.length_cons,List.length_nil,Nat.reduceAdd,Nat.reduceSub,Array.replicate_succ,Array.replicate_zero,List.push_toArray,List.append_toArray,List.nil_append,List.cons_append]
  gi_wp2_with (first
   | (gi_at_range;refine o0T rfl _ 230 rfl 74 170 Tryz.underlying230 rfl hown ?_;intro w0 hrg0 hg0 hs0)
   | gi_in)
  go_frame
  gi_loopw [3] (fun _ wr=>∃(cnt:Nat) (pre:List (KO × NE)),c0I koV neV wr d W.heap.size (ks) pre cnt∧pre.length+cnt≤ks.length∧J (kyN pre) wr)
    (fun _ wr=>wr.rangeLeft d W.heap.size)
  case atStart =>
   exact ⟨_,[],hrg0,by simp,hJ [] W w0 none h0 hg0 (fun r e=>by cases e)⟩
  case round =>
   obtain ⟨cnt,pre,hrg,hcs,hJs⟩:=hrel
   gi_wp2_with (first
    | (gi_at_next;refine q0N rfl _ rfl j1P.inj rfl hrg ?_ (fun p w2 cnt2 hx hnew hrg2 hlt hg2 hs2 hen=>?_)
       rotate_left
       obtain ⟨x,u⟩:=p;have hJ2:J (kyN pre) w2:=hJ _ wr w2 (some W.heap.size) hJs hg2 (fun r e=>by cases e;exact ⟨hB0,hrg.iter_walk⟩);have hJ3:=hJ _ w2 (w2.alloc (.cells #[.int .u64 x.1.1,.int .u64 x.1.2] 74)) none hJ2 (World.grownBy_alloc _ _ none) (fun r e=>by cases e);obtain ⟨fn,tmps,assign,body,hy,hR⟩:=hY (kyN pre) x.1 _ hJ3 (by simp [kyN];omega);have hrg3:c0I koV neV (w2.alloc (.cells #[.int .u64 x.1.1,.int .u64 x.1.2] 74)) d W.heap.size (ks) (pre++[(x,u)]) cnt2 :=
        hrg2.kept (Below.heap_alloc _ _ _ (b0N.lt hrg2.map_)) (Below.heap_alloc _ _ _ hrg2.lt)
       have HR:=jH hrg3;clear hs2 hg2 hJ2 hJ3 hrg2 hrg3;simp only [koV,neV] at hen ⊢
       rotate_left)
    | gi_in)
   · intro hc0 hp
     gi_wp2
     go_end0
     refine ⟨⟨_,rfl⟩,.inl ⟨kyN pre,?_,hJs⟩⟩;have:=hp.map (·.1)
     simpa [kyN,List.map_map,Function.comp_def] using this
   · gi_wp2
     refine hR.mono ?_;rintro e W3 (⟨rfl,hJ4,hk4⟩|⟨rfl,hJx4⟩)
     · gi_wp2
       have hrg4:=HR.out.of_walks hk4.2
       go_roundw
       case rel=>exact ⟨cnt2,pre++[(x,u)],hrg4,by simp;omega,by simpa [kyN] using hJ4⟩
       case measure=>rw [hrg4.left_eq,hrg.left_eq];exact hlt
     · gi_wp2
       refine bodyPost_ret (results_none rfl _ _ _) rfl ?_;exact ⟨⟨_,rfl⟩,.inr ⟨_,trivial,hJx4⟩⟩
theorem g1F (n:Nat) (m:Option Nat) (w:World) :
 CallsIn Fence.wide n Tryz.prog 209 #[.map m] w fun e w'=>e=.returned (.func (.func 258) #[] #[.pointer (some ⟨w.heap.size,0,none⟩)])∧∃t,w'=w.alloc (.cells #[.map m] t):=by
 refine callsIn_of_wp Tryz.func209 rfl trivial ?_ rfl;simp only [Tryz.ntmps209,List.size_toArray,List.length_cons,List.length_nil,Nat.reduceAdd,Nat.reduceSub,Array.replicate_succ,Array.replicate_zero,List.push_toArray,List.append_toArray,List.nil_append,List.cons_append]
 gi_wp2
 go_ret
 exact ⟨rfl,_,rfl⟩
theorem y0D (n:Nat) (hn:1≤n) (d:Nat) (ks:List (KO × NE)) (w:World) (t:TypeId) (h:b0N koV neV w d ks) :
 SeqStopsK Fence.wide n Tryz.prog 258 #[.pointer (some ⟨w.heap.size,0,none⟩)] encA (Kp (w.alloc (.cells #[.map (some d)] t)).heap.size) (fun ss=>ss.Perm (kyN ks)) (fun _=>True) ks.length (w.alloc (.cells #[.map (some d)] t)) :=
 fun l J Jx W hW hJ hJx hY h0=>by
  have hc:=(hW.cell (p:=⟨w.heap.size,0,none⟩) (by simp)).trans (Boxed.new w t (.map (some d))).cell;refine k1W n hn l w.heap.size d ks _ _ J Jx hJ hY W (Nat.le_refl _) hc ?_ h0;exact b0N.block h ((hW.block d (by have:=h.lt;simp;omega)).trans (Below.heap_alloc _ _ _ h.lt))
theorem l0C {w:World} {d:Nat} {es:List (KO × NE)} (h:b0N koV neV w d es):(kyN es).Nodup:=by
 obtain ⟨_,_,_,_,_,_,hn⟩:=h;have:kyN es=kys (es.map (·.1)):=by simp [kyN,kys,List.map_map,Function.comp_def]
 rw [this];exact p0E hn
theorem p0O (T:Nat) (c:Cfg) (ver:Nat) (es:List (KO × NE)) (rs rh:Nat) (fp:List Nat) (w:World) (h:h0Y w T c ver es rs rh fp) (hl:es.length<1000000) :
 Calls Tryz.prog 153 #[.pointer (some ⟨T,0,none⟩)] w (Lists w (risL (kyN es))):=by
 refine (callsIn_wide (n:=9)).1 ?_;have HM:=jH (h0R T c ver es rs rh fp w h);obtain ⟨M,h1,h2,h3,h4,h5,h6,rfl⟩:=h;have hnd:=l0C h2;have hlt:=(jL h1);have HT:=jH h1;have HE:=jH h2;clear h1 h2 h3 h4 h5 h6;refine callsIn_of_wp Tryz.func153 rfl trivial ?_ rfl;simp only [Tryz.ntmps153,List.size_toArray,List.length_cons,List.length_nil,Nat.reduceAdd,Nat.reduceSub,Array.replicate_succ,Array.replicate_zero,List.push_toArray,List.append_toArray,List.nil_append,List.cons_append]
 gi_wp2_with (first
  | (refine ⟨trivial,?_⟩;gi_at_call 149;refine CallsIn.mono (callsIn_wide.2 HM.out) ?_
     rintro e w2 ⟨rfl,hb2⟩;have hx2:w2.heap[T]?=_:=(hb2.block T hlt).trans HT.out;have z0:w2.cell? ⟨T,0,none⟩=some (.map (some M)):=by simp only [World.cell?,hx2];rfl
     have hE2:b0N koV neV w2 M es:=HE.out.below hb2;have HE2:=jH hE2;have HB2:=jH hb2;clear hx2 hE2 hb2)
  | (refine ⟨trivial,?_⟩;gi_at_call 209;refine (g1F 8 _ _).mono ?_;rintro e w' ⟨rfl,t,rfl⟩)
  | (refine ⟨trivial,?_⟩;gi_at_call 208;refine (k1O 8 (by omega) 258 _ (enters_of Tryz.func258 (by kernel_rfl) rfl) (fun ss=>ss.Perm (kyN es)) (fun _=>True) es.length (by omega) (fun ss hss=>by rw [hss.length_eq];simp [kyN]) _ (y0D (8 - 1 - 1 - 1) (by omega) M es w2 t HE2.out)).mono ?_;rintro e w' ⟨v,ss,rfl,hp,hrow,hb⟩))
 go_ret
 have e1:=o0X hp hnd;have e2:(m0Q ss).length=ss.length:=by simp [m0Q]
 rw [e1] at hrow e2;rw [←e2] at hrow;have hsz:=HB2.out.size;exact ⟨v,rfl,w0F hrow (by simp;omega),a0D HB2.out (((Below.refl _ w2).alloc (Nat.le_refl _) _).trans (hb.mono (by simp)))⟩
theorem e0K {l:List Ky} (hn:l.Nodup):(risL l).length=l.length:=by
 have h:=o0X (List.Perm.refl l) hn;rw [←h];simp [m0Q]
theorem q1Q (T:Nat) (c:Cfg) (ver:Nat) (es:List (KO × NE)) (rs rh:Nat) (fp:List Nat) (w:World) (h:h0Y w T c ver es rs rh fp) (hl:es.length<1000000) :
 Calls Tryz.prog 104 #[.pointer (some ⟨T,0,none⟩)] w (jP w (.int .i64 es.length)):=by
 have HK:=jH (p0O T c ver es rs rh fp w h hl);have hlen:(risL (kyN es)).length=es.length:=by
  obtain ⟨M,h1,h2,_⟩:=h;rw [e0K (l0C h2)];simp [kyN]
 have HL:=jH hlen;clear h hlen
 go_enter Tryz.func104,Tryz.ntmps104
 go_wp2_with (go_at_call 153;refine HK.out.mono ?_;rintro e w2 ⟨v,rfl,hrow,hb⟩;obtain ⟨A,cc,rfl⟩:=h0X hrow;have HB:=jH hb;clear hb hrow)
 go_ret
 exact ⟨by rw [←HL.out];rfl,HB.out⟩
end
end
section
open Go.RowKit Go.Lib Go.Sort
open Go.ChangeMaps (setBlock)
section
section
variable {α β:Type} [DecidableEq α]
theorem h0E {es:List (α × β)} {x:α} {v:β} {p:α × β} (h:p∈f0A es x v):p=(x,v)∨(p∈es∧p.1≠x):=by
 unfold f0A at h
 split at h
 · obtain ⟨q,hq,e⟩:=List.mem_map.1 h
   split at e
   · exact .inl e.symm
   · rename_i hn
     subst e;exact .inr ⟨hq,hn⟩
 · rename_i hn
   rcases List.mem_append.1 h with h|h
   · refine .inr ⟨h,fun e=>hn ?_⟩
     rw [d0W];exact List.mem_map.2 ⟨p,h,e⟩
   · exact .inl (List.mem_singleton.1 h)
theorem b0U {es:List (α × β)} {x:α} {v:β} (h:a0V es x=some v):(x,v)∈es:=by
 unfold a0V at h;obtain ⟨q,hq,rfl⟩:=Option.map_eq_some_iff.1 h;have h1:=List.find?_some hq;simp at h1
 rw [←h1];exact List.mem_of_find?_eq_some hq
theorem n0Q {es:List (α × β)} {x:α} {v:β} (h:a0V es x=some v):g0A es x=true :=
 (d0W es x).2 (List.mem_map.2 ⟨_,b0U h,rfl⟩)
theorem p1R {γ:Type} (f:β→γ) (es:List (α × β)) (x:α) (v:β):(f0A es x v).map (fun p=>(p.1,f p.2))=f0A (es.map fun p=>(p.1,f p.2)) x (f v):=by
 have hh:g0A (es.map fun p=>(p.1,f p.2)) x=g0A es x:=by simp [g0A,List.any_map,Function.comp_def]
 unfold f0A;rw [hh]
 split
 · simp only [List.map_map]
   refine List.map_congr_left fun p _=>?_
   simp only [Function.comp]
   split <;> rfl
 · simp
theorem p1W {γ:Type} (f:β→γ) (es:List (α × β)) (x:α):a0V (es.map fun p=>(p.1,f p.2)) x=(a0V es x).map f:=by
 unfold a0V;rw [List.find?_map];simp [Function.comp_def]
theorem t1A {γ:Type} (f:β→γ) (es:List (α × β)) (x:α):g0A (es.map fun p=>(p.1,f p.2)) x=g0A es x:=by simp [g0A,List.any_map,Function.comp_def]
theorem w0N (es:List (α × β)) (x y:α) (v:β):a0V (f0A es x v) y=if y=x then some v else a0V es y:=by
 unfold f0A
 split
 · rename_i hh
   induction es with
   | nil=>simp [g0A] at hh
   | cons p es ih =>
     unfold a0V;simp only [List.map_cons,List.find?_cons]
     by_cases hp:p.1=x
     · rw [if_pos hp]
       by_cases hy:y=x
       · subst hy
         simp
       · rw [if_neg hy]
         have e1:decide (x=y)=false:=by simpa using fun e=>hy e.symm
         have e2:decide (p.1=y)=false:=by rw [hp];exact e1
         simp only [e1,e2]
         by_cases hq:g0A es x=true
         · have:=ih hq
           unfold a0V at this;rw [if_neg hy] at this;exact this
         · have:es.map (fun p=>if p.1=x then (x,v) else p)=es:=by
            conv=>rhs;rw [←List.map_id es]
            refine List.map_congr_left fun q hq'=>?_
            rw [if_neg]
            · rfl
            · intro e
              exact hq ((d0W es x).2 (List.mem_map.2 ⟨q,hq',e⟩))
           rw [this]
     · rw [if_neg hp]
       have hq:g0A es x=true:=by simpa [g0A,hp] using hh
       have:=ih hq;unfold a0V at this
       by_cases hpy:p.1=y
       · have hy:¬y=x:=fun e=>hp (hpy.trans e)
         rw [if_neg hy];simp [hpy]
       · have e2:decide (p.1=y)=false:=by simpa using hpy
         simp only [e2]
         exact this
 · rename_i hh
   unfold a0V;rw [List.find?_append]
   by_cases hy:y=x
   · subst hy
     rw [if_pos rfl];have:List.find? (fun p=>decide (p.1=y)) es=none:=by
      rw [List.find?_eq_none];intro p hp hpy;exact hh ((d0W es y).2 (List.mem_map.2 ⟨p,hp,by simpa using hpy⟩))
     rw [this];simp
   · rw [if_neg hy]
     have e1:decide (x=y)=false:=by simpa using fun e=>hy e.symm
     simp [e1]
theorem q1K (es:List (α × β)) (x:α) (v:β):(f0A es x v).length=if g0A es x=true then es.length else es.length+1:=by
 unfold f0A
 split
 · rename_i h;simp
 · rename_i h;simp
end
def ab (es:List (KO × NE)):List (KO × Nd):=es.map fun p=>(p.1,p.2.2.1)
theorem n1G (es:List (KO × NE)) (k:KO) (N:Nat) (y:Nd) (fq:List Nat):ab (f0A es k (N,y,fq))=f0A (ab es) k y:=p1R (fun b:NE=>b.2.1) es k (N,y,fq)
theorem m0C (es:List (KO × NE)) (k:KO):a0V (ab es) k=(a0V es k).map (fun b=>b.2.1):=p1W (fun b:NE=>b.2.1) es k
theorem o0V (es:List (KO × NE)) (k:KO):g0A (ab es) k=g0A es k:=t1A (fun b:NE=>b.2.1) es k
theorem l0A (es:List (KO × NE)):(ab es).length=es.length:=by simp [ab]
theorem f0G (x:Nd) (fp:List Nat):∀k∈mfp x fp,k∈fp:=by
 intro k hk;unfold mfp at hk
 split at hk
 · cases hk
 · exact hk
def r1P (es:List (KO × NE)):List Nat:=es.flatMap fun p=>mfp p.2.2.1 p.2.2.2
def sfp (T M:Nat) (es:List (KO × NE)):List Nat:=T::M::r1P es
structure SAt (w:World) (T M:Nat) (c:Cfg) (ver:Nat) (es:List (KO × NE)) (rs rh:Nat):Prop where
 cell:w.heap[T]?=some (.cells #[.map (some M),.int .i64 c.st,.int .i64 c.sa,.int .i64 c.lo,.int .i64 c.hi,.int .i64 (ver:Nat)] 232 (0,0))
 map:b0N koV neV w M es
 node:∀p∈es,b0B w p.2.1 p.2.2.1 rs rh p.2.2.2
 pair:∀p∈es,∀q∈es,p.1≠q.1→apart p.2.2.2 q.2.2.2
 off:∀p∈es,T∉p.2.2.2∧M∉p.2.2.2
 ne:T≠M
structure s0X (w:World) (T M:Nat) (c:Cfg) (ver:Nat) (es:List (KO × NE)) (rs rh:Nat) (k:KO) (fq:List Nat):Prop where
 cell:w.heap[T]?=some (.cells #[.map (some M),.int .i64 c.st,.int .i64 c.sa,.int .i64 c.lo,.int .i64 c.hi,.int .i64 (ver:Nat)] 232 (0,0))
 map:b0N koV neV w M es
 node:∀p∈es,p.1≠k→b0B w p.2.1 p.2.2.1 rs rh p.2.2.2
 pair:∀p∈es,∀q∈es,p.1≠k→q.1≠k→p.1≠q.1→apart p.2.2.2 q.2.2.2
 off:∀p∈es,p.1≠k→T∉p.2.2.2∧M∉p.2.2.2
 ne:T≠M
 new:∀p∈es,p.1≠k→apart fq p.2.2.2
 offn:T∉fq∧M∉fq
theorem SAt.nodup {w:World} {T M:Nat} {c:Cfg} {ver:Nat} {es:List (KO × NE)} {rs rh:Nat} (h:SAt w T M c ver es rs rh):(es.map (·.1)).Nodup:=by
 obtain ⟨_,_,_,_,_,_,hn⟩:=h.map;exact hn
theorem SAt.in_ {w:World} {T M:Nat} {c:Cfg} {ver:Nat} {es:List (KO × NE)} {rs rh:Nat} (h:SAt w T M c ver es rs rh):h0Y w T c ver es rs rh (T::M::es.flatMap (fun p=>p.2.2.2)) :=
 ⟨M,h.cell,h.map,h.node,h.pair,h.off,h.ne,rfl⟩
theorem h0Y.at_ {w:World} {T:Nat} {c:Cfg} {ver:Nat} {es:List (KO × NE)} {rs rh:Nat} {fp:List Nat} (h:h0Y w T c ver es rs rh fp):∃M,SAt w T M c ver es rs rh∧fp=T::M::es.flatMap (fun p=>p.2.2.2):=by
 obtain ⟨M,h1,h2,h3,h4,h5,h6,h7⟩:=h;exact ⟨M,⟨h1,h2,h3,h4,h5,h6⟩,h7⟩
theorem SAt.below {w w':World} {T M:Nat} {c:Cfg} {ver:Nat} {es:List (KO × NE)} {rs rh:Nat} (h:SAt w T M c ver es rs rh) (hb:jB w w'):SAt w' T M c ver es rs rh :=
 ⟨(hb.block T (Array.getElem?_eq_some_iff.1 h.cell).1).trans h.cell,h.map.below hb,fun p hp=>(h.node p hp).below hb,h.pair,h.off,h.ne⟩
theorem SAt.ltT {w:World} {T M:Nat} {c:Cfg} {ver:Nat} {es:List (KO × NE)} {rs rh:Nat} (h:SAt w T M c ver es rs rh):T<w.heap.size:=(Array.getElem?_eq_some_iff.1 h.cell).1
theorem SAt.hole {w w':World} {T M:Nat} {c:Cfg} {ver:Nat} {es:List (KO × NE)} {rs rh:Nat} {k:KO} {b:NE} {fq:List Nat} (h:SAt w T M c ver es rs rh) (hm:(k,b)∈es) (hu:Upd w w' (mfp b.2.1 b.2.2) fq):s0X w' T M c ver es rs rh k fq:=by
 have ho:=h.off _ hm;have hsub:=f0G b.2.1 b.2.2
 refine ⟨(hu.block T h.ltT (fun hk=>ho.1 (hsub T hk))).trans h.cell,h.map.block (hu.block M h.map.lt (fun hk=>ho.2 (hsub M hk))),
   fun p hp hn=>(h.node p hp).kept (fun r hr=>hu.block r ((h.node p hp).lt r hr) (fun hk=>h.pair _ hm p hp (Ne.symm hn) r (hsub r hk) hr)),fun p hp q hq _ _ hn=>h.pair p hp q hq hn,fun p hp _=>h.off p hp,h.ne,
   fun p hp hn r hr hr'=>?_,?_,?_⟩
 · rcases hu.fresh r hr with hk|hk
   · exact h.pair _ hm p hp (Ne.symm hn) r (hsub r hk) hr'
   · have:=(h.node p hp).lt r hr';omega
 · intro hr
   rcases hu.fresh T hr with hk|hk
   · exact ho.1 (hsub T hk)
   · have:=h.ltT;omega
 · intro hr
   rcases hu.fresh M hr with hk|hk
   · exact ho.2 (hsub M hk)
   · have:=h.map.lt;omega
theorem SAt.hole_new {w w':World} {T M:Nat} {c:Cfg} {ver:Nat} {es:List (KO × NE)} {rs rh:Nat} {k:KO} {fq:List Nat} (h:SAt w T M c ver es rs rh) (hb:jB w w') (hf:∀r∈fq,w.heap.size≤r):s0X w' T M c ver es rs rh k fq:=by
 have h':=h.below hb
 exact ⟨h'.cell,h'.map,fun p hp _=>h'.node p hp,fun p hp q hq _ _ hn=>h.pair p hp q hq hn,fun p hp _=>h.off p hp,h.ne,
   fun p hp hn r hr hr'=>by have:=hf r hr;have:=(h.node p hp).lt r hr';omega,fun hr=>by have:=hf T hr;have:=h.ltT;omega,fun hr=>by have:=hf M hr;have:=h.map.lt;omega⟩
theorem s0X.below {w w':World} {T M:Nat} {c:Cfg} {ver:Nat} {es:List (KO × NE)} {rs rh:Nat} {k:KO} {fq:List Nat} (h:s0X w T M c ver es rs rh k fq) (hb:jB w w'):s0X w' T M c ver es rs rh k fq :=
 ⟨(hb.block T (Array.getElem?_eq_some_iff.1 h.cell).1).trans h.cell,h.map.below hb,fun p hp hn=>(h.node p hp hn).below hb,h.pair,h.off,h.ne,h.new,h.offn⟩
theorem s0X.keep {w:World} {T M:Nat} {c:Cfg} {ver:Nat} {es:List (KO × NE)} {rs rh:Nat} {k:KO} {N:Nat} {y:Nd} {fq:List Nat} {o:Obj} (h:s0X w T M c ver es rs rh k fq) (hn:b0B w N y rs rh fq)
    (hm:b0N koV neV (setBlock w M o) M (f0A es k (N,y,fq))) :
    SAt ((setBlock w M o).setCell ⟨T,5,none⟩ (.int .i64 ((ver+1:Nat):Int))) T M c (ver+1) (f0A es k (N,y,fq)) rs rh∧Upd w ((setBlock w M o).setCell ⟨T,5,none⟩ (.int .i64 ((ver+1:Nat):Int))) [T,M] [T,M]:=by
  have hT:T<w.heap.size:=(Array.getElem?_eq_some_iff.1 h.cell).1;have hc:(setBlock w M o).heap[T]?=_:=(b0Y (o:=o) h.ne).trans h.cell;have hblk:∀r,r≠T→r≠M→((setBlock w M o).setCell ⟨T,5,none⟩ (.int .i64 ((ver+1:Nat):Int))).heap[r]?=w.heap[r]?:=fun r h1 h2 =>
   (Below.heap_setCell _ _ _ _ h1).trans (b0Y h2)
  have hsz:((setBlock w M o).setCell ⟨T,5,none⟩ (.int .i64 ((ver+1:Nat):Int))).heap.size=w.heap.size:=by simp [World.setCell,setBlock]
  refine ⟨⟨(a0E hc).trans (by rfl),hm.block (Below.heap_setCell _ _ _ _ (Ne.symm h.ne)),fun p hp=>?_,fun p hp q hq hpq=>?_,fun p hp=>?_,h.ne⟩,⟨rfl,rfl,rfl,Nat.le_of_eq hsz.symm,fun r hr hn=>hblk r (fun e=>hn (by rw [e];simp)) (fun e=>hn (by rw [e];simp)),fun r hr=>.inl hr⟩⟩
  · rcases h0E hp with rfl|⟨hp,hk⟩
    · exact hn.kept (fun r hr=>hblk r (fun e=>h.offn.1 (by rw [←e];exact hr)) (fun e=>h.offn.2 (by rw [←e];exact hr)))
    · exact (h.node p hp hk).kept (fun r hr=>hblk r (fun e=>(h.off p hp hk).1 (by rw [←e];exact hr)) (fun e=>(h.off p hp hk).2 (by rw [←e];exact hr)))
  · rcases h0E hp with rfl|⟨hp,hk⟩
    · rcases h0E hq with rfl|⟨hq,hk'⟩
      · exact absurd rfl hpq
      · exact h.new q hq hk'
    · rcases h0E hq with rfl|⟨hq,hk'⟩
      · exact fun r hr hr'=>h.new p hp hk r hr' hr
      · exact h.pair p hp q hq hk hk' hpq
  · rcases h0E hp with rfl|⟨hp,hk⟩
    · exact h.offn
    · exact h.off p hp hk
def Old (n:Nat) (es es':List (KO × NE)):Prop:=∀p∈es',∀r∈p.2.2.2,n≤r∨∃q∈es,r∈q.2.2.2
theorem Old.refl (n:Nat) (es:List (KO × NE)):Old n es es:=fun p hp r hr=>.inr ⟨p,hp,hr⟩
theorem Old.trans {n m:Nat} {a b c:List (KO × NE)} (h1:Old n a b) (h2:Old m b c) (hn:n≤m):Old n a c:=fun p hp r hr =>
 (h2 p hp r hr).elim (fun h=>.inl (Nat.le_trans hn h)) (fun ⟨q,hq,hr⟩=>h1 q hq r hr)
def g0Z (w:World) (T M:Nat) (c:Cfg) (es:List (KO × NE)) (rs rh:Nat) (v:Value) (ver':Nat) (l':List (KO × Nd)) (e:Ending) (w':World):Prop :=
 ∃es',e=.returned v∧SAt w' T M c ver' es' rs rh∧ab es'=l'∧Upd w w' (sfp T M es) (sfp T M es')∧Old w.heap.size es es'
theorem e0G {es:List (KO × NE)} {r:Nat}:r∈r1P es ↔ ∃p∈es,r∈mfp p.2.2.1 p.2.2.2:=by
 simp [r1P,List.mem_flatMap]
theorem Old.put {w w3:World} {es:List (KO × NE)} {k:KO} {N:Nat} {y:Nd} {mf fq:List Nat} (hu:Upd w w3 mf fq) (hm:∀r∈mf,r∈r1P es):Old w.heap.size es (f0A es k (N,y,fq)):=fun p hp r hr=>by
 rcases h0E hp with rfl|⟨hp,_⟩
 · rcases hu.fresh r hr with h|h
   · obtain ⟨q,hq,hr⟩:=e0G.1 (hm r h)
     exact .inr ⟨q,hq,f0G _ _ r hr⟩
   · exact .inl h
 · exact .inr ⟨p,hp,hr⟩
theorem d1L {w w3 w':World} {T M:Nat} {es:List (KO × NE)} {k:KO} {N:Nat} {y:Nd} {mf fq:List Nat} (h1:Upd w w3 mf fq) (h2:Upd w3 w' [T,M] [T,M]) (hm:∀r∈mf,r∈r1P es):Upd w w' (sfp T M es) (sfp T M (f0A es k (N,y,fq))):=by
 refine ⟨h2.os.trans h1.os,h2.tape.trans h1.tape,h2.output.trans h1.output,Nat.le_trans h1.size h2.size,fun r hr hn=>?_,fun r hr=>?_⟩
 · refine (h2.block r (Nat.lt_of_lt_of_le hr h1.size) (fun hk=>hn ?_)).trans (h1.block r hr (fun hk=>hn ?_))
   · simp only [List.mem_cons,List.not_mem_nil,or_false] at hk
     simp only [sfp,List.mem_cons]
     rcases hk with rfl|rfl
     · exact .inl rfl
     · exact .inr (.inl rfl)
   · simp only [sfp,List.mem_cons]
     exact .inr (.inr (hm r hk))
 · simp only [sfp,List.mem_cons] at hr ⊢
   rcases hr with rfl|rfl|hr
   · exact .inl (.inl rfl)
   · exact .inl (.inr (.inl rfl))
   · obtain ⟨p,hp,hr⟩:=e0G.1 hr
     rcases h0E hp with rfl|⟨hp,hk⟩
     · rcases h1.fresh r (f0G _ _ r hr) with h|h
       · exact .inl (.inr (.inr (hm r h)))
       · exact .inr h
     · exact .inl (.inr (.inr (e0G.2 ⟨p,hp,hr⟩)))
theorem g0Z.of_below {w w':World} {T M:Nat} {c:Cfg} {ver:Nat} {es:List (KO × NE)} {rs rh:Nat} (v:Value) (h:SAt w T M c ver es rs rh) (hb:jB w w'):g0Z w T M c es rs rh v ver (ab es) (.returned v) w' :=
 ⟨es,rfl,h.below hb,rfl,Upd.of_below hb _,Old.refl _ _⟩
end
end
end Go.Proofs.YtmniiodpbebnmaaGreat
