/- Part 5 of the proof. -/
import Derived.Test.YtmniiodpbebnmaaGreatJ04
import Derived.ArgAppend
import Derived.Lib.SliceRun
import Derived.Shelf.SlSorted.Search
namespace Go.Proofs.YtmniiodpbebnmaaGreat
set_option linter.unusedSimpArgs false
set_option linter.unusedVariables false
set_option linter.unusedSectionVars false
set_option maxRecDepth 100000
set_option maxHeartbeats 16000000
section
open Go.RowKit Go.Lib
section
section
variable {P:Program} (w:World)
theorem d1B {o:Oper} {a:Act} {K:Act→World→Prop} {Q:Exit→Act→World→Prop} (d s:Operand) (t t':TypeId)
    (ho:o.op=.call { callee:=.builtin .append,args:=#[d,s],argTypes:=#[t,t'] }) (v u:Value) (hd:a.eval d=v) (hs:a.eval s=u) {v':Value} {w':World}
    (hr:(Builtin.append_ #[t,t'] o.type #[v,u]).run P w=.ok v' w') (h:K (a.put o.dst v') w'):o.wp P a w K Q:=by
  unfold Oper.wp execOp;simp only [ho,resolve,invoke,builtin,Sem.run_bind,Sem.run_pure,Result.andThen_ok,List.map_toArray,List.map_cons,List.map_nil,hd,hs,hr]
  exact h
theorem s0K {ops:Array Oper} {o:Oper} {a:Act} {K:Act→World→Prop} {Q:Exit→Act→World→Prop} {E:Prop} (hg:o.guard=none) (d s:Operand) (t t':TypeId)
    (ho:o.op=.call { callee:=.builtin .append,args:=#[d,s],argTypes:=#[t,t'] }) (v u:Value) (hd:a.eval d=v) (hs:a.eval s=u) {v':Value} {w':World}
    (hr:(Builtin.append_ #[t,t'] o.type #[v,u]).run P w=.ok v' w') (hK:K (a.put o.dst v') w') :
    if Region.wanted o (yielded ops a.tmps)=true then Oper.wp P o a w K Q else E:=by
  have hw:Region.wanted o (yielded ops a.tmps)=true:=by simp [Region.wanted,hg]
  rw [if_pos hw];exact d1B w d s t t' ho v u hd hs hr hK
theorem p0S (t e ty:TypeId) (z:Value) (ht:P.underlying t=some (.slice e)) (hv:∀w,(zeroValue e).run P w=.ok z w) (h1:∀u∈z.cells.toList,u.oneCell'=true) (g o n c:Nat) (cur:Array Value) (T:TypeId) (hn:0<n)
    (hg:w.heap[g]?=some (.cells cur T (0,0))) (hfit:o+(Builtin.zeroCells z.cells n).size≤cur.size) :
    (Builtin.clear_ #[t] ty #[.slice (some ⟨g,o,none⟩) n c]).run P w=.ok (.tuple #[]) (w.setRow g (cur.toList.take o++(Builtin.zeroCells z.cells n).toList++cur.toList.drop (o+(Builtin.zeroCells z.cells n).toList.length)).toArray):=by
  have h1':∀v∈(Builtin.zeroCells z.cells n).toList,v.oneCell'=true:=by
   intro v hv';rw [Builtin.zeroCells,Array.toList_map] at hv';obtain ⟨i,hi,rfl⟩:=List.mem_map.1 hv';have hi2:i<n * z.cells.size:=by simpa using hi
   have hpos:0<z.cells.size:=by
    rcases Nat.eq_zero_or_pos z.cells.size with h0|h0
    · rw [h0] at hi2;omega
    · exact h0
   have hlt:=Nat.mod_lt i hpos;rw [getElem!_pos z.cells _ hlt];exact h1 _ (by simp)
  have hst:=run_storeCells_at P g o T (Builtin.zeroCells z.cells n).toList 0 cur w hg (by simpa using hfit) h1';simp only [Nat.add_zero] at hst
  obtain ⟨m,rfl⟩:∃m,n=m+1:=⟨n - 1,by omega⟩;simp [Builtin.clear_,run_underlying ht,hv,hst]
end
theorem j0W (w:World) (ty:TypeId) (base g c:Nat) (l m:List Smp) (v2:Value) (hown:b0Q c0B 111 2 base w (.slice (some ⟨g,0,none⟩) l.length c) l) (hm:a0Q 2 c0B w v2 m) (hroom:l.length+m.length≤c) :
 ∃w',(Builtin.append_ #[57,57] ty #[.slice (some ⟨g,0,none⟩) l.length c,v2]).run Tryz.prog w=.ok (.slice (some ⟨g,0,none⟩) (l.length+m.length) c) w'∧b0Q c0B 111 2 base w' (.slice (some ⟨g,0,none⟩) (l++m).length c) (l++m)∧w.grownBy w' (some g):=by
 obtain ⟨i0,hi0,hz0,hz1,hz2⟩:=info_parts d0C.hi;obtain ⟨A2,c2,rfl,hc2,hr⟩:=hm
 cases A2 with
 | none =>
   have h0:m.length=0:=by
    rcases Nat.eq_zero_or_pos m.length with h|h
    · exact h
    · obtain ⟨_,_,hA,_⟩:=hr h;cases hA
   obtain rfl:m=[]:=List.eq_nil_of_length_eq_zero h0;refine ⟨w,?_,by rw [List.append_nil];exact hown,⟨rfl,rfl,rfl,Nat.le_refl _,fun _ _ _=>rfl⟩⟩;exact run_append_nil (P:=Tryz.prog) (w:=w) base _ ty _ i0 2 c2 d0C.ht hi0 _ _ _ hown
 | some ad =>
   obtain ⟨w',h1,h2,h3⟩:=run_append_fits (P:=Tryz.prog) w base _ ty _ i0 2 d0C.ht hi0 hz1 g l.length c _ hown ad m.length c2 (a0F c0B m) (e0I m) (fun j u hu=>by
    obtain ⟨y,hy,hyu⟩:=e0V d0C.hn d0C.len m j u hu;have hml:0<m.length:=Nat.lt_of_le_of_lt (Nat.zero_le _) (List.getElem?_eq_some_iff.1 hy).1;obtain ⟨b,o',hA,hlt,hat⟩:=hr hml;injection hA with hA
    subst hA;have h:=hat (j / 2) y hy (j % 2) u hyu;rw [j0L,←h];have hd:j / 2 * 2+j % 2=j:=by omega
    rw [Nat.add_assoc,hd]) (e0N d0C.one m) hroom
   refine ⟨w',h1,?_,h3⟩;unfold b0Q;rw [List.length_append,b0W];exact h2
theorem b1J {base:Nat} {w:World} {g c:Nat} {l:List Smp} (h:b0Q c0B 111 2 base w (.slice (some ⟨g,0,none⟩) l.length c) l):b0Q c0B 111 2 base w (.slice (some ⟨g,0,none⟩) 0 c) []:=by
 obtain ⟨cur,hg,h1,h3,h4,h5,h6⟩:=e0B h;exact ⟨rfl,.inr ⟨g,c,cur,rfl,h1,hg,Nat.zero_le _,h4,h5,by simp [a0F]⟩⟩
theorem w0Q (base:Nat) (v:Value) (l:List Smp) (w:World) (h:b0Q c0B 111 2 base w v l) (hl:l.length≤1000000) :
 Calls Tryz.prog 234 #[v,.int .i64 0,.int .i64 0] w (e0T base w v l):=by
 obtain ⟨A,c,rfl⟩:=h.form;have HO:=jH h;have hcl:l.length≤c:=by obtain ⟨_,_,hv,hc,_⟩:=h.row d0C;injection hv with _ _ e3;omega
 clear h
 go_enter Tryz.func234,Tryz.ntmps234
 go_wp2
 all_goals go_ret
 all_goals exact ⟨A,c,rfl,HO.out,⟨rfl,rfl,rfl,Nat.le_refl _,fun _ _ _=>rfl⟩,.inl rfl⟩
theorem u0N (base g c:Nat) (l:List Smp) (j:Nat) (w:World) (h:b0Q c0B 111 2 base w (.slice (some ⟨g,0,none⟩) l.length c) l) (hj:0<j) (hjl:j≤l.length) (hl:l.length≤1000000) :
 Calls Tryz.prog 234 #[.slice (some ⟨g,0,none⟩) l.length c,.int .i64 0,.int .i64 j] w (e0T base w (.slice (some ⟨g,0,none⟩) l.length c) (l.drop j)):=by
 have hcl:l.length≤c:=by obtain ⟨_,_,_,hc,_⟩:=e0B h;exact hc
 have hcm:c≤9223372036854775807:=by obtain ⟨_,_,_,_,hc,_⟩:=e0B h;exact hc
 obtain ⟨i0,hi0,hz0,hz1,hz2⟩:=info_parts d0C.hi;have hd:b0Q c0B 111 2 base w.drew (.slice (some ⟨g,0,none⟩) l.length c) l:=h.below (Below.drew jR);obtain ⟨m,A2,c2,hm,hrf,hRf⟩:=z0B d0C (hd.row d0C) j hjl;have hml:m.length=l.length - j:=by rw [hm,List.length_drop]
 have hall:∀ty,∃w',(Builtin.append_ #[57,57] ty #[.slice (some ⟨g,0,none⟩) 0 c,.slice A2 m.length c2]).run Tryz.prog w.drew=.ok (.slice (some ⟨g,0,none⟩) m.length c) w'∧b0Q c0B 111 2 base w' (.slice (some ⟨g,0,none⟩) m.length c) m∧w.drew.grownBy w' (some g):=fun ty=>by
  obtain ⟨w',q1,q2,q3⟩:=j0W w.drew ty base g c [] m _ (b1J hd) hRf (by simp;omega);refine ⟨w',?_,q2,q3⟩;rw [List.length_nil,Nat.zero_add] at q1;exact q1
 obtain ⟨W1,hrun,ho1,hg1⟩:=hall 57;obtain ⟨cur,hG1,h1,h3,h4,h5,h6⟩:=e0B ho1;have hzc:(Builtin.zeroCells (Value.agg #[.int .i64 0,.int .i64 0]).cells (l.length - m.length)).size=(l.length - m.length) * 2:=by
  rw [size_zeroCells];rfl
 obtain ⟨W2,hW2⟩:∃W2,W2=W1.setRow g (cur.toList.take (m.length * 2)++(Builtin.zeroCells (Value.agg #[.int .i64 0,.int .i64 0]).cells (l.length - m.length)).toList++cur.toList.drop (m.length * 2+(Builtin.zeroCells (Value.agg #[.int .i64 0,.int .i64 0]).cells (l.length - m.length)).toList.length)).toArray:=⟨_,rfl⟩;have hclr:∀ty dc,(Builtin.clear_ #[57] ty #[.slice (some ⟨g,m.length * 2,none⟩) (l.length - m.length) dc]).run Tryz.prog W1=.ok (.tuple #[]) W2:=fun ty dc=>by
  rw [hW2];exact p0S W1 57 111 ty _ d0C.ht (fun w=>by simp [zeroValue,typeInfo,hi0,hz0]) (fun u hu=>by simp [Value.cells] at hu;rcases hu with rfl|rfl <;> rfl) g _ _ dc cur _ (by omega) hG1 (by rw [hzc,h5];omega)
 have HFIN:e0T base w (.slice (some ⟨g,0,none⟩) l.length c) (l.drop j) (.returned (.slice (some ⟨g,0,none⟩) m.length c)) W2:=by
  rw [←hm];refine ⟨some ⟨g,0,none⟩,c,rfl,?_,?_,.inl rfl⟩
  · have hcl2:cur.toList.length=c * 2:=by simpa using h5
    have hzl:(Builtin.zeroCells (Value.agg #[.int .i64 0,.int .i64 0]).cells (l.length - m.length)).toList.length=(l.length - m.length) * 2:=by simpa using hzc
    refine j0N (cur:=(cur.toList.take (m.length * 2)++(Builtin.zeroCells (Value.agg #[.int .i64 0,.int .i64 0]).cells (l.length - m.length)).toList++cur.toList.drop (m.length * 2+(Builtin.zeroCells (Value.agg #[.int .i64 0,.int .i64 0]).cells (l.length - m.length)).toList.length)).toArray) ?_ h1 h3 h4 ?_ ?_
    · rw [hW2];exact setRow_heap W1 g _ _ _ _ hG1
    · simp only [List.size_toArray,List.length_append,List.length_take,List.length_drop,hcl2,hzl];omega
    · show List.take _ (_++_++_)=_
      rw [List.append_assoc,List.take_append_of_le_length (by rw [List.length_take,hcl2];omega),List.take_take,Nat.min_self,h6]
  · rw [hW2]
    exact b0D (b0D (b0X (Below.drew jR)) hg1) (e0P _ _ _)
 have HF:=jH HFIN;have HR:=jH hrun;have HC:=jH hclr;have hj1:¬(0:Int)=(j:Int):=by omega
 have hj0:(0:Int)≤(j:Int):=by omega
 have hj2:(j:Int)≤(l.length:Int):=by omega
 have hml1:m.length≤l.length:=by omega
 have hne:¬c=m.length:=by omega
 have hc0:¬c=0:=by omega
 clear HFIN hrun hclr hW2 hzc h6 h5 hG1 hg1 ho1 hd hRf hm hml h hall;have hclr:=HC.out
 go_enter Tryz.func234,Tryz.ntmps234
 go_wp2_with fail
 go_region_law (refine s0K _ (by rfl) (.tmp 22) (.tmp 25) 57 57 (by rfl) _ _ (by rfl) (by rfl) HR.out ?_)
 go_wp2
 go_ret
 exact HF.out
theorem l0F (base:Nat) (v:Value) (l:List Smp) (j:Nat) (w:World) (h:b0Q c0B 111 2 base w v l) (hj:j≤l.length) (hl:l.length≤1000000) :
 Calls Tryz.prog 234 #[v,.int .i64 0,.int .i64 j] w (e0T base w v (l.drop j)):=by
 by_cases h0:j=0
 · subst h0
   exact w0Q base v l w h hl
 · rcases Go.Joins.ownsRow_forms h with ⟨rfl,hz⟩|⟨g,c,rfl⟩
   · omega
   · exact u0N base g c l j w h (by omega) hj hl
end
section
section
variable {α:Type} {t e:TypeId} {n bytes:Nat} {z:Value} {f:α→List Value}
def j0P (f:α→List Value) (e:TypeId) (n:Nat) (w:World) (v:Value) (l:List α) (fp:List Nat):Prop:=b0Q f e n 0 w v l∧fp=v.ownBlock.toList
theorem j0P.form {w:World} {v:Value} {l:List α} {fp:List Nat} (h:j0P f e n w v l fp):∃A c,v=.slice A l.length c:=h.1.form
theorem j0P.row (E:g0Y t e n bytes z f) {w:World} {v:Value} {l:List α} {fp:List Nat} (h:j0P f e n w v l fp):a0Q n f w v l:=h.1.row E
theorem j0P.kept {w w':World} {v:Value} {l:List α} {fp:List Nat} (h:j0P f e n w v l fp) (hb:∀r∈fp,w'.heap[r]?=w.heap[r]?):j0P f e n w' v l fp:=by
 obtain ⟨h,rfl⟩:=h;exact ⟨h.kept (fun r hr=>hb r (by rw [hr];simp)),rfl⟩
theorem j0P.lt {w:World} {v:Value} {l:List α} {fp:List Nat} (h:j0P f e n w v l fp):∀r∈fp,r<w.heap.size:=by
 obtain ⟨h,rfl⟩:=h;intro r hr;have:v.ownBlock=some r:=by simpa using hr
 exact (h.lt this).2
theorem j0P.below {w w':World} {v:Value} {l:List α} {fp:List Nat} (h:j0P f e n w v l fp) (hb:jB w w'):j0P f e n w' v l fp:=h.kept (fun r hr=>hb.block r (h.lt r hr))
theorem j0P.nil (w:World):j0P f e n w (.slice none 0 0) ([]:List α) []:=⟨b0Q.nil _ _,rfl⟩
theorem j0P.of (w:World) {v:Value} {l:List α} {base:Nat} (h:b0Q f e n base w v l):j0P f e n w v l v.ownBlock.toList:=⟨h.lower (Nat.zero_le _),rfl⟩
end
structure Upd (w w':World) (fp fp':List Nat):Prop where
 os:w'.os=w.os
 tape:w'.tape=w.tape
 output:w'.output=w.output
 size:w.heap.size≤w'.heap.size
 block:∀k,k<w.heap.size→k∉fp→w'.heap[k]?=w.heap[k]?
 fresh:∀k∈fp',k∈fp∨w.heap.size≤k
theorem Upd.refl (w:World) (fp:List Nat):Upd w w fp fp:=⟨rfl,rfl,rfl,Nat.le_refl _,fun _ _ _=>rfl,fun _ h=>.inl h⟩
theorem Upd.trans {w a b:World} {fp fq fr:List Nat} (h:Upd w a fp fq) (k:Upd a b fq fr):Upd w b fp fr :=
 ⟨k.os.trans h.os,k.tape.trans h.tape,k.output.trans h.output,Nat.le_trans h.size k.size,
   fun i hi hn=>(k.block i (Nat.lt_of_lt_of_le hi h.size) (fun hq=>(h.fresh i hq).elim hn (fun h'=>by omega))).trans (h.block i hi hn),
   fun i hi=>(k.fresh i hi).elim (h.fresh i) (fun h'=>.inr (Nat.le_trans h.size h'))⟩
theorem Upd.of_below {w w':World} (h:jB w w') (fp:List Nat):Upd w w' fp fp:=⟨h.os,h.tape,h.output,h.size,fun k hk _=>h.block k hk,fun _ h=>.inl h⟩
theorem Upd.below {w w':World} {fp fp':List Nat} {B:Nat} (h:Upd w w' fp fp') (hB:B≤w.heap.size) (hf:∀k∈fp,B≤k):Below B w w' :=
 ⟨h.os,h.tape,h.output,h.size,fun k hk=>h.block k (by omega) (fun hk'=>by have:=hf k hk';omega)⟩
theorem Upd.mono {w w':World} {fp fp' fq fq':List Nat} (h:Upd w w' fp fp') (h1:∀k∈fp,k∈fq) (h2:∀k∈fq',k∈fq∨w.heap.size≤k):Upd w w' fq fq' :=
 ⟨h.os,h.tape,h.output,h.size,fun k hk hn=>h.block k hk (fun hk'=>hn (h1 k hk')),h2⟩
theorem Upd.set {w:World} (r i:Nat) (v:Value) (fp:List Nat) (h:r∈fp):Upd w (w.setCell ⟨r,i,none⟩ v) fp fp :=
 ⟨rfl,rfl,rfl,by simp [World.setCell],fun k _ hk=>Below.heap_setCell _ _ _ _ (fun e=>hk (by have e':k=r:=e;rw [e'];exact h)),fun _ h=>.inl h⟩
def i0L {α:Type} (f:α→List Value) (e:TypeId) (n:Nat) (w:World) (l:List α) (en:Ending) (w':World):Prop :=
 ∃A c fp,en=.returned (.slice A l.length c)∧j0P f e n w' (.slice A l.length c) l fp∧(∀k∈fp,w.heap.size≤k)∧jB w w'
structure Adv where
 tick:Int
 load:Int
 want:Int
 repl:Int
 why:Int
def b0O:Adv:=⟨0,0,0,0,0⟩
def c0U (a:Adv):List Value:=[.int .i64 a.tick,.int .i64 a.load,.int .i64 a.want,.int .i64 a.repl,.int .i64 a.why]
theorem p0Q:g0Y 58 44 5 40 (.agg #[.int .i64 0,.int .i64 0,.int .i64 0,.int .i64 0,.int .i64 0]) c0U :=
 ⟨by kernel_rfl,by kernel_rfl,rfl,by decide,by decide,fun _=>rfl,fun x u hu=>by
  simp only [c0U,List.mem_cons,List.not_mem_nil,or_false] at hu
  rcases hu with rfl|rfl|rfl|rfl|rfl <;> rfl⟩
theorem h0Y (v:Value) (l:List Smp) (w:World) (hv:a0Q 2 c0B w v l) (hl:l.length≤1000000) :
 Calls Tryz.prog 127 #[v] w (i0L c0B 111 2 w l):=by
 obtain ⟨A,c,rfl⟩:=hv.form
 cases A with
 | none =>
   have h0:l.length=0:=by
    obtain ⟨A1,c1,e1,_,hr⟩:=hv;injection e1 with e1 _ _
    rcases Nat.eq_zero_or_pos l.length with h|h
    · exact h
    · obtain ⟨_,_,hA,_⟩:=hr h;rw [hA] at e1;cases e1
   obtain rfl:l=[]:=List.eq_nil_of_length_eq_zero h0;have hq:∀W,(binOp .eql 57 (.slice none 0 c) (.slice none 0 0)).run Tryz.prog W=.ok (.bool true) W:=fun W=>Lib.run_eql_slice_nil W _ _ none 0 c 0 0 d0C.ht
   clear hv h0
   go_enter Tryz.func127,Tryz.ntmps127
   go_wp2
   go_ret
   exact ⟨none,0,[],rfl,j0P.nil _,fun k hk=>by simp at hk,jR⟩
 | some ad =>
   have HV:=jH hv;have hq:∀W,(binOp .eql 57 (.slice (some ad) l.length c) (.slice none 0 0)).run Tryz.prog W=.ok (.bool false) W:=fun W=>Lib.run_eql_slice_nil W _ _ (some ad) l.length c 0 0 d0C.ht
   clear hv
   go_enter Tryz.func127,Tryz.ntmps127
   go_wp2_with (at_builtin;refine b0Y d0C (by rfl) (s:=.tmp 5) (x:=.tmp 6) (by rfl) w.heap.size [] l _ _ (by rfl) (by rfl) (b0Q.lit0 _ w _ _ rfl (Nat.le_refl _)) (HV.out.below (a0C jR _)) (by simp;omega) (by simp) ?_;intro out A2 c2 w2 hout hown hg _;have HOUT:=jH hout;have HO:=jH hown;have HG:=jH hg;clear hout hown hg)
   go_ret
   have e1:out=l:=by rw [HOUT.out];rfl
   subst e1;exact ⟨A2,c2,_,rfl,j0P.of _ HO.out,fun k hk=>(HO.out.lt (by simpa using hk)).1,(a0C jR _).trans (c0C HG.out (by simp) (fun r hr=>by have hr':some w.heap.size=some r:=hr;injection hr';omega))⟩
theorem p0O (v:Value) (l:List Adv) (w:World) (hv:a0Q 5 c0U w v l) (hl:l.length≤1000000) :
 Calls Tryz.prog 137 #[v] w (i0L c0U 44 5 w l):=by
 obtain ⟨A,c,rfl⟩:=hv.form
 cases A with
 | none =>
   have h0:l.length=0:=by
    obtain ⟨A1,c1,e1,_,hr⟩:=hv;injection e1 with e1 _ _
    rcases Nat.eq_zero_or_pos l.length with h|h
    · exact h
    · obtain ⟨_,_,hA,_⟩:=hr h;rw [hA] at e1;cases e1
   obtain rfl:l=[]:=List.eq_nil_of_length_eq_zero h0;have hq:∀W,(binOp .eql 58 (.slice none 0 c) (.slice none 0 0)).run Tryz.prog W=.ok (.bool true) W:=fun W=>Lib.run_eql_slice_nil W _ _ none 0 c 0 0 p0Q.ht
   clear hv h0
   go_enter Tryz.func137,Tryz.ntmps137
   go_wp2
   go_ret
   exact ⟨none,0,[],rfl,j0P.nil _,fun k hk=>by simp at hk,jR⟩
 | some ad =>
   have HV:=jH hv;have hq:∀W,(binOp .eql 58 (.slice (some ad) l.length c) (.slice none 0 0)).run Tryz.prog W=.ok (.bool false) W:=fun W=>Lib.run_eql_slice_nil W _ _ (some ad) l.length c 0 0 p0Q.ht
   clear hv
   go_enter Tryz.func137,Tryz.ntmps137
   go_wp2_with (at_builtin;refine b0Y p0Q (by rfl) (s:=.tmp 5) (x:=.tmp 6) (by rfl) w.heap.size [] l _ _ (by rfl) (by rfl) (b0Q.lit0 _ w _ _ rfl (Nat.le_refl _)) (HV.out.below (a0C jR _)) (by simp;omega) (by simp) ?_;intro out A2 c2 w2 hout hown hg _;have HOUT:=jH hout;have HO:=jH hown;have HG:=jH hg;clear hout hown hg)
   go_ret
   have e1:out=l:=by rw [HOUT.out];rfl
   subst e1;exact ⟨A2,c2,_,rfl,j0P.of _ HO.out,fun k hk=>(HO.out.lt (by simpa using hk)).1,(a0C jR _).trans (c0C HG.out (by simp) (fun r hr=>by have hr':some w.heap.size=some r:=hr;injection hr';omega))⟩
end
def n0V (til wd:Int):Int:=e0K (e0K (til - wd)+1)
def q0Q (l:List Smp) (a b:Int):List Smp:=l.filter fun s=>decide (a≤s.1) && decide (s.1≤b)
def f0L (l:List Smp):List Int:=l.map fun s=>max s.2 0
def d1H:List Int→Int
  | []=>0
  | n::l=>l.foldl min n
def d1I:List Int→Int
  | []=>0
  | n::l=>l.foldl max n
structure StD where
 cnt:Int
 sum:Int
 least:Int
 most:Int
 mean:Int
def stV (s:StD):Value:=.agg #[.int .i64 s.cnt,.int .i64 s.sum,.int .i64 s.least,.int .i64 s.most,.int .i64 s.mean]
def st0:StD:=⟨0,0,0,0,0⟩
def x0F (v:List Int):StD:=if v=[] then st0 else ⟨v.length,x0V v 0,d1H v,d1I v,k0N v⟩
def h0P (l:List Smp) (til wd:Int):StD:=x0F (f0L (q0Q l (n0V til wd) til))
def u0E (l:List Smp):Prop:=∀s∈l,I64 s.1∧I64 s.2
theorem u0E.cut {l:List Smp} (h:u0E l) (a b:Int):u0E (q0Q l a b):=fun s hs=>h s (List.mem_filter.1 hs).1
theorem z0G {l:List Smp} (h:u0E l):∀n∈f0L l,0≤n∧n≤9223372036854775807:=fun n hn=>by
 obtain ⟨s,hs,rfl⟩:=List.mem_map.1 hn;have:=(h s hs).2;unfold I64 at this;omega
theorem y0Q (l:List Smp):(f0L l).length=l.length:=by simp [f0L]
theorem g1P (l:List Smp) (a b:Int):(q0Q l a b).length≤l.length:=List.length_filter_le _ _
theorem i1W (l:List Smp) (a b:Int) (s:Smp):q0Q (l++[s]) a b=q0Q l a b++if a≤s.1∧s.1≤b then [s] else []:=by
 unfold q0Q;rw [List.filter_append]
 congr 1
 by_cases h1:a≤s.1 <;> by_cases h2:s.1≤b <;> simp [h1,h2]
theorem b1I (l:List Smp) (s:Smp):f0L (l++[s])=f0L l++[max s.2 0]:=by simp [f0L]
theorem i1V {l:List Int} (h:l≠[]) (n:Int):d1H (l++[n])=min (d1H l) n:=by
 cases l with
 | nil=>exact absurd rfl h
 | cons a l=>simp [d1H,List.foldl_append]
theorem d1M {l:List Int} (h:l≠[]) (n:Int):d1I (l++[n])=max (d1I l) n:=by
 cases l with
 | nil=>exact absurd rfl h
 | cons a l=>simp [d1I,List.foldl_append]
theorem f1S (l:List Int) (n:Int):i0B (l++[n])=i0B l+n.toNat:=by rw [o0B];simp [i0B]
theorem k1X {a b:Int} (h:I64 a):I64 (n0G a b):=by
 unfold n0G I64 at *
 split
 · omega
 · rename_i hb
   split
   · have:a.tdiv b = -((-a) / b):=by rw [←Int.neg_neg a,Int.neg_tdiv,Int.tdiv_eq_ediv_of_nonneg (by omega)];simp
     rw [this];have h3:0≤(-a) / b:=Int.ediv_nonneg (by omega) (by omega);have h4:(-a) / b≤-a:=Int.ediv_le_self _ (by omega);omega
   · rw [Int.tdiv_eq_ediv_of_nonneg (by omega)]
     have h3:0≤(a - 1) / b:=Int.ediv_nonneg (by omega) (by omega);have h4:(a - 1) / b≤a - 1:=Int.ediv_le_self _ (by omega);omega
def q0L (p:Pol) (load now:Int):Bool :=
 g0Z p && (decide (1≤now∧now≤1073741824) &&
   (decide (load.toNat * 1000≤now.toNat * p.tg.toNat * 1000+now.toNat * p.tg.toNat * p.tol.toNat) &&
    decide (now.toNat * p.tg.toNat * 1000≤load.toNat * 1000+now.toNat * p.tg.toNat * p.tol.toNat)))
def t0S (p:Pol) (load:Int):Int:=if g0Z p=true then n0G (max load 0) p.tg else 0
def g0E (p:Pol) (n:Int):Int:=if g0Z p=true then z0N n p.mn p.mx else 0
def l1N (p:Pol) (load now:Int):Int:=if q0L p load now=true then now else t0S p load
def i0D (a b:Int) (s:Int × Bool) (x:Adv):Int × Bool :=
 if a<x.tick∧x.tick≤b∧(s.2=false∨s.1<x.want) then (x.want,true) else s
def w0B (l:List Adv) (tick hold:Int):Int × Bool:=l.foldl (i0D (e0K (tick - hold)) tick) (0,false)
theorem c1O (l:List Adv) (x:Adv) (a b:Int) (s:Int × Bool):(l++[x]).foldl (i0D a b) s=i0D a b (l.foldl (i0D a b) s) x:=by simp
def j0F (p:Pol) (tick want:Int) (past:List Adv):Int × Bool :=
 if (w0B past tick p.hold).2=true∧want<(w0B past tick p.hold).1 then ((w0B past tick p.hold).1,true) else (want,false)
def k0Q:List Smp→Int
  | []=>0
  | s::l=>l.foldl (fun b x=>max b x.1) s.1
def p1P (p:Pol) (past:List Adv):Int:=match past.getLast? with
 | none=>p.mn
 | some a=>a.repl
def whyI (p:Pol) (held:Bool) (op now til:Int):Int :=
 if held=true then 4 else if p.mx<op then 6 else if op<p.mn then 5 else if now<til then 2 else if til<now then 3 else 1
def o0G (p:Pol) (l:List Smp) (past:List Adv):Adv × Int :=
 if g0Z p=false then (b0O,7)
 else if l=[] then (b0O,5)
 else
  let tick:=k0Q l
  let load:Int:=(k0N (f0L (q0Q l (n0V tick p.win) tick)):Nat)
  let now:=p1P p past
  let op:=l1N p load now
  let want:=g0E p op
  let st:=j0F p tick want past
  let til:=g0E p st.1
  (⟨tick,load,want,til,whyI p st.2 op now til⟩,0)
theorem a1V (l:List Smp) (til wd:Int):(h0P l til wd).mean=(k0N (f0L (q0Q l (n0V til wd) til)):Nat):=by
 unfold h0P x0F
 split
 · rename_i h;rw [h];rfl
 · rfl
end
section
open Go.Shelf
def u0Z:Go.Shelf.Ren:=⟨fun|16=>279|n=>n,fun|3=>3|35=>185|4=>4|38=>233|n=>n,fun|n=>n⟩
theorem q1H:Go.Proofs.SlLaysO.n16 Tryz.prog u0Z:={
  mixed:=by kernel_rfl
  f16:=Tryz.func279.trans (congrArg some (by kernel_rfl))
  t3:=Tryz.underlying3
  a3:=Tryz.isAgg3
  z3:=Tryz.sizeOf3
  v3:=Tryz.zeroValue3
  t4:=Tryz.underlying4
  a4:=Tryz.isAgg4
  z4:=Tryz.sizeOf4
  v4:=Tryz.zeroValue4
  t35:=Tryz.underlying185
  a35:=Tryz.isAgg185
  z35:=Tryz.sizeOf185
  v35:=Tryz.zeroValue185
  t38:=Tryz.underlying233
  a38:=Tryz.isAgg233
  z38:=Tryz.sizeOf233
  v38:=Tryz.zeroValue233 }
end
section
open Go.RowKit Go.Lib Go.Sort Go.Shelf
def e0S (w:World) (S:Nat) (l:List Smp) (room:Int) (fp:List Nat):Prop :=
 ∃v fr,w.heap[S]?=some (.cells #[v,.int .i64 room] 270 (0,0))∧j0P c0B 111 2 w v l fr∧S∉fr∧fp=S::fr
theorem e0S.kept {w w':World} {S:Nat} {l:List Smp} {room:Int} {fp:List Nat} (h:e0S w S l room fp) (hb:∀r∈fp,w'.heap[r]?=w.heap[r]?):e0S w' S l room fp:=by
 obtain ⟨v,fr,h1,h2,h3,rfl⟩:=h;exact ⟨v,fr,(hb S (List.mem_cons_self ..)).trans h1,h2.kept (fun r hr=>hb r (List.mem_cons_of_mem _ hr)),h3,rfl⟩
theorem e0S.lt {w:World} {S:Nat} {l:List Smp} {room:Int} {fp:List Nat} (h:e0S w S l room fp):∀r∈fp,r<w.heap.size:=by
 obtain ⟨v,fr,h1,h2,h3,rfl⟩:=h;intro r hr
 rcases List.mem_cons.1 hr with rfl|hr
 · exact (jL h1)
 · exact h2.lt r hr
theorem e0S.below {w w':World} {S:Nat} {l:List Smp} {room:Int} {fp:List Nat} (h:e0S w S l room fp) (hb:jB w w'):e0S w' S l room fp:=h.kept (fun r hr=>hb.block r (h.lt r hr))
def b0K (l:List Smp):Prop:=l.Pairwise (fun a b=>a.1<b.1)
def a0N (l:List Smp) (t:Int):Nat:=l.countP (fun x=>!decide (t≤x.1))
theorem f0N (l:List Smp) (t:Int):a0N l t≤l.length:=List.countP_le_length ..
theorem l0U (bs bt S g o c n:Nat) (t y:Int) (i:Nat) (W:World) (hi:i<n)
    (h1:W.cell? ⟨bs,0,none⟩=some (.pointer (some ⟨S,0,none⟩))) (h2:W.cell? ⟨bt,0,none⟩=some (.int .i64 t)) (h3:W.cell? ⟨S,0,none⟩=some (.slice (some ⟨g,o,none⟩) n c)) (h4:W.cell? ⟨g,o+i * 2,none⟩=some (.int .i64 y)) :
    Calls Tryz.prog 280 (#[.int .i64 i]++#[.pointer (some ⟨bs,0,none⟩),.pointer (some ⟨bt,0,none⟩)]) W fun e w'=>e=.returned (.bool (decide (t≤y)))∧∃q,w'=W.drewN q:=by
  have hi0:(0:Int)≤(i:Int):=by omega
  have hi1:(i:Int)<(n:Int):=by omega
  go_enter Tryz.func280,Tryz.ntmps280
  go_wp2_with fail
  go_quiet (fail)
  go_wp2
  go_ret
  exact ⟨x0T (by first|rfl|simp),_,rfl⟩
theorem c1B (w:World) (x y:Value) (T U:TypeId):∀W,W=(w.alloc (.cells #[x] T)).alloc (.cells #[y] U)→W.heap[w.heap.size]?=some (.cells #[x] T (0,0))∧W.heap[w.heap.size+1]?=some (.cells #[y] U (0,0))∧jB w W∧W.heap.size=w.heap.size+2:=by
 rintro W rfl;exact ⟨d0V _ _ _,c0G _ _ _,a0C (a0C jR _) _,by simp⟩
theorem q0G {W:World} {a:Addr} {v:Value} (h:W.cell? a=some v) (hb:a.block<W.heap.size) (m:Nat) (os:Array Obj):(grow (W.drewN m) os).cell? a=some v:=by
 rw [←h];refine World.cell?_of_block ?_;exact Array.getElem?_append_left hb
theorem l1Y (w:World) (q:Nat) (os:Array Obj):jB w (grow (w.drewN q) os):=⟨rfl,rfl,rfl,by simp [grow],fun k hk=>Array.getElem?_append_left hk⟩
theorem h0J (S:Nat) (l:List Smp) (room:Int) (fp:List Nat) (t:Int) (w:World) (h:e0S w S l room fp) (hr:b0K l) (hl:l.length≤1000000) :
 Calls Tryz.prog 232 #[.pointer (some ⟨S,0,none⟩),.int .i64 t] w (jP w (.int .i64 (a0N l t:Nat))):=by
 obtain ⟨v,fr,hS,hrow,_,_⟩:=h;have hSlt:=(jL hS);obtain ⟨A,c,rfl⟩:=hrow.form;have hR:=hrow.row d0C;obtain ⟨W,hW⟩:∃W,W=(w.alloc (.cells #[.pointer (some ⟨S,0,none⟩)] 209)).alloc (.cells #[.int .i64 t] 2):=⟨_,rfl⟩;obtain ⟨b1,b2,hbW,hsz⟩:=c1B w _ _ _ _ W hW;have hS1:=(hbW.block S hSlt).trans hS;obtain ⟨k1,k2,k3⟩:=a0A jR hS1;obtain ⟨k4,k5,k6⟩:=a0A jR b1;obtain ⟨k7,k8,k9⟩:=a0A jR b2
 have eg:∀args w,(callFunc 280 args).run Tryz.prog w=.ok (.enter 280 args) w:=enters_of Tryz.func280 (by kernel_rfl) rfl;have hcall:Calls Tryz.prog 279 #[.int .i64 l.length,.func (.func 280) #[] #[.pointer (some ⟨w.heap.size,0,none⟩),.pointer (some ⟨w.heap.size+1,0,none⟩)]] W fun e w'=>e=.returned (.int .i64 (a0N l t:Nat))∧∃q os,w'=grow (W.drewN q) os:=by
  have hS:=Any.sort_Search q1H 280 #[.pointer (some ⟨w.heap.size,0,none⟩),.pointer (some ⟨w.heap.size+1,0,none⟩)] l.length (fun i=>decide (t≤((l.map (·.1)).toArray[i]!))) W eg (by omega)
    (fun m os i hi=>by
      obtain ⟨g,o,rfl,hg,hc⟩:=(hR.below hbW).at_ hi;have hy:(l.map (·.1)).toArray[i]! = l[i].1:=by rw [getElem!_pos _ i (by simpa using hi)];simp
      simp only [hy]
      have:=l0U w.heap.size (w.heap.size+1) S g o c l.length t l[i].1 i (grow (W.drewN m) os) hi (q0G (k4 0) k6 m os) (q0G (k7 0) k9 m os) (q0G (k1 0) k3 m os) (q0G (hc 0 _ rfl) hg m os);exact this.mono fun _ _ ⟨he,q,hq⟩=>⟨he,q,#[],by rw [hq,grow_empty]⟩)
    (fun a b hab hb h=>by
      have ha:a<l.length:=by omega
      have e1:(l.map (·.1)).toArray[a]! = l[a].1:=by rw [getElem!_pos _ a (by simpa using ha)];simp
      have e2:(l.map (·.1)).toArray[b]! = l[b].1:=by rw [getElem!_pos _ b (by simpa using hb)];simp
      simp only [e1,e2,decide_eq_true_eq] at h ⊢
      rcases Nat.lt_or_ge a b with hlt|hge
      · have:=List.pairwise_iff_getElem.1 hr a b ha hb hlt
        omega
      · obtain rfl:a=b:=by omega
        exact h)
  have hlen:l.length=(l.map (·.1)).toArray.size:=by simp
  rw [show (List.range l.length).countP (fun i=>!decide (t≤(l.map (·.1)).toArray[i]!))=a0N l t from by
   rw [hlen,Lib.countP_range (l.map (·.1)).toArray (fun y=>!decide (t≤y))];simp only [a0N,List.countP_map]
   rfl] at hS
  exact hS
 have HC:=jH hcall;have hc0:=k1 0;have hc1:=k4 0;simp only [List.getElem?_toArray,List.getElem?_cons_zero] at hc0 hc1
 clear hcall k1 k4 k7 hS1 hr hrow hR eg
 go_enter Tryz.func232,Tryz.ntmps232
 have q0:w.cell? ⟨S,0,none⟩=some (.slice A l.length c):=by simp only [World.cell?,hS];rfl
 go_wp2_with (go_at_call 279;rw [←hW];refine HC.out.mono ?_;rintro e w1 ⟨rfl,q1,os1,rfl⟩)
 go_ret
 exact ⟨rfl,by rw [←hW];exact a0D hbW (l1Y W _ _)⟩
end
end Go.Proofs.YtmniiodpbebnmaaGreat
