/- Part 6 of the proof: Delete. -/
import Derived.Test.YtkcdhaallnhhmaaGreatQ03
namespace Go.Proofs.YtkcdhaallnhhmaaGreat
set_option linter.unusedSimpArgs false
set_option linter.unusedVariables false
set_option linter.unusedSectionVars false
set_option maxRecDepth 100000
set_option maxHeartbeats 16000000
section
open Go.RowKit Go.Lib
section
variable {P:Program} (w:World)
theorem wp_appendN {o:Oper} {a:Act} {K:Act→World→Prop} {Q:Exit→Act→World→Prop} (d s:Operand) (t t':TypeId)
    (ho:o.op=.call { callee:=.builtin .append,args:=#[d,s],argTypes:=#[t,t'] }) (v u:Value) (hd:a.eval d=v) (hs:a.eval s=u) {v':Value} {w':World}
    (hr:(Builtin.append_ #[t,t'] o.type #[v,u]).run P w=.ok v' w') (h:K (a.put o.dst v') w'):o.wp P a w K Q:=by
  unfold Oper.wp execOp;simp only [ho,resolve,invoke,builtin,Sem.run_bind,Sem.run_pure,Result.andThen_ok,List.map_toArray,List.map_cons,List.map_nil,hd,hs,hr]
  exact h
theorem step_appendN {ops:Array Oper} {o:Oper} {a:Act} {K:Act→World→Prop} {Q:Exit→Act→World→Prop} {E:Prop} (hg:o.guard=none) (d s:Operand) (t t':TypeId)
    (ho:o.op=.call { callee:=.builtin .append,args:=#[d,s],argTypes:=#[t,t'] }) (v u:Value) (hd:a.eval d=v) (hs:a.eval s=u) {v':Value} {w':World}
    (hr:(Builtin.append_ #[t,t'] o.type #[v,u]).run P w=.ok v' w') (hK:K (a.put o.dst v') w') :
    if Region.wanted o (yielded ops a.tmps)=true then Oper.wp P o a w K Q else E:=by
  have hw:Region.wanted o (yielded ops a.tmps)=true:=by simp [Region.wanted,hg]
  rw [if_pos hw];exact wp_appendN w d s t t' ho v u hd hs hr hK
theorem run_clearN (t e ty:TypeId) (z:Value) (ht:P.underlying t=some (.slice e)) (hv:∀w,(zeroValue e).run P w=.ok z w) (h1:∀u∈z.cells.toList,u.oneCell'=true) (g o n c:Nat) (cur:Array Value) (T:TypeId) (hn:0<n)
    (hg:w.heap[g]?=some (.cells cur T (0,0))) (hfit:o+(Builtin.zeroCells z.cells n).size≤cur.size) :
    (Builtin.clear_ #[t] ty #[.slice (some ⟨g,o,none⟩) n c]).run P w=.ok (.tuple #[]) (w.setRow g (cur.toList.take o++(Builtin.zeroCells z.cells n).toList++cur.toList.drop (o+(Builtin.zeroCells z.cells n).toList.length)).toArray):=by
  have h1':∀v∈(Builtin.zeroCells z.cells n).toList,v.oneCell'=true:=by
   intro v hv';rw [Builtin.zeroCells,Array.toList_map] at hv';obtain ⟨i,hi,rfl⟩:=List.mem_map.1 hv';have hi2:i<n * z.cells.size:=by simpa using hi
   have hpos:0<z.cells.size:=by
    rcases Nat.eq_zero_or_pos z.cells.size with h0|h0
    · rw [h0] at hi2;omega
    · exact h0
   have hlt:=Nat.mod_lt i hpos;rw [getElem!_pos z.cells _ hlt];exact h1 _ (by simp)
  have hst:=run_storeCells_at P g o T (Builtin.zeroCells z.cells n).toList 0 cur w hg (by simpa using hfit) h1';simp only [Nat.add_zero] at hst
  obtain ⟨m,rfl⟩:∃m,n=m+1:=⟨n - 1,by omega⟩;simp [Builtin.clear_,run_underlying ht,hv,hst]
end
theorem run_append_inplace (w:World) (ty:TypeId) (base g c:Nat) (l m:List Smp) (v2:Value) (hown:OwnL smpC 118 2 base w (.slice (some ⟨g,0,none⟩) l.length c) l) (hm:RowIn 2 smpC w v2 m) (hroom:l.length+m.length≤c) :
 ∃w',(Builtin.append_ #[43,43] ty #[.slice (some ⟨g,0,none⟩) l.length c,v2]).run Tryz.prog w=.ok (.slice (some ⟨g,0,none⟩) (l.length+m.length) c) w'∧OwnL smpC 118 2 base w' (.slice (some ⟨g,0,none⟩) (l++m).length c) (l++m)∧w.grownBy w' (some g):=by
 obtain ⟨i0,hi0,hz0,hz1,hz2⟩:=info_parts eSmp.hi;obtain ⟨A2,c2,rfl,hc2,hr⟩:=hm
 cases A2 with
 | none =>
   have h0:m.length=0:=by
    rcases Nat.eq_zero_or_pos m.length with h|h
    · exact h
    · obtain ⟨_,_,hA,_⟩:=hr h;cases hA
   obtain rfl:m=[]:=List.eq_nil_of_length_eq_zero h0;refine ⟨w,?_,by rw [List.append_nil];exact hown,⟨rfl,rfl,rfl,Nat.le_refl _,fun _ _ _=>rfl⟩⟩;exact run_append_nil (P:=Tryz.prog) (w:=w) base _ ty _ i0 2 c2 eSmp.ht hi0 _ _ _ hown
 | some ad =>
   obtain ⟨w',h1,h2,h3⟩:=run_append_fits (P:=Tryz.prog) w base _ ty _ i0 2 eSmp.ht hi0 hz1 g l.length c _ hown ad m.length c2 (cellsOfRow smpC m) (smpRow_len m) (fun j u hu=>by
    obtain ⟨y,hy,hyu⟩:=cellsOfRow_split eSmp.hn eSmp.len m j u hu;have hml:0<m.length:=Nat.lt_of_le_of_lt (Nat.zero_le _) (List.getElem?_eq_some_iff.1 hy).1;obtain ⟨b,o',hA,hlt,hat⟩:=hr hml;injection hA with hA
    subst hA;have h:=hat (j / 2) y hy (j % 2) u hyu;rw [add_at,←h];have hd:j / 2 * 2+j % 2=j:=by omega
    rw [Nat.add_assoc,hd]) (cellsOfRow_one eSmp.one m) hroom
   refine ⟨w',h1,?_,h3⟩;unfold OwnL;rw [List.length_append,cellsOfRow_append];exact h2
theorem own_prefix {base:Nat} {w:World} {g c:Nat} {l:List Smp} (h:OwnL smpC 118 2 base w (.slice (some ⟨g,0,none⟩) l.length c) l):OwnL smpC 118 2 base w (.slice (some ⟨g,0,none⟩) 0 c) []:=by
 obtain ⟨cur,hg,h1,h3,h4,h5,h6⟩:=own_open h;exact ⟨rfl,.inr ⟨g,c,cur,rfl,h1,hg,Nat.zero_le _,h4,h5,by simp [cellsOfRow]⟩⟩
theorem delete_none (base:Nat) (v:Value) (l:List Smp) (w:World) (h:OwnL smpC 118 2 base w v l) (hl:l.length≤1000000) :
 Calls Tryz.prog 196 #[v,.int .i64 0,.int .i64 0] w (RowSays base w v l):=by
 obtain ⟨A,c,rfl⟩:=h.form;have HO:=jH h;have hcl:l.length≤c:=by obtain ⟨_,_,hv,hc,_⟩:=h.row eSmp;injection hv with _ _ e3;omega
 clear h
 go_enter Tryz.func196,Tryz.ntmps196
 go_wp2
 all_goals go_ret
 all_goals exact ⟨A,c,rfl,HO.out,⟨rfl,rfl,rfl,Nat.le_refl _,fun _ _ _=>rfl⟩,.inl rfl⟩
theorem delete_some (base g c:Nat) (l:List Smp) (j:Nat) (w:World) (h:OwnL smpC 118 2 base w (.slice (some ⟨g,0,none⟩) l.length c) l) (hj:0<j) (hjl:j≤l.length) (hl:l.length≤1000000) :
 Calls Tryz.prog 196 #[.slice (some ⟨g,0,none⟩) l.length c,.int .i64 0,.int .i64 j] w (RowSays base w (.slice (some ⟨g,0,none⟩) l.length c) (l.drop j)):=by
 have hcl:l.length≤c:=by obtain ⟨_,_,_,hc,_⟩:=own_open h;exact hc
 have hcm:c≤9223372036854775807:=by obtain ⟨_,_,_,_,hc,_⟩:=own_open h;exact hc
 obtain ⟨i0,hi0,hz0,hz1,hz2⟩:=info_parts eSmp.hi;have hd:OwnL smpC 118 2 base w.drew (.slice (some ⟨g,0,none⟩) l.length c) l:=h.below (Below.drew jR);obtain ⟨m,A2,c2,hm,hrf,hRf⟩:=row_from eSmp (hd.row eSmp) j hjl;have hml:m.length=l.length - j:=by rw [hm,List.length_drop]
 have hall:∀ty,∃w',(Builtin.append_ #[43,43] ty #[.slice (some ⟨g,0,none⟩) 0 c,.slice A2 m.length c2]).run Tryz.prog w.drew=.ok (.slice (some ⟨g,0,none⟩) m.length c) w'∧OwnL smpC 118 2 base w' (.slice (some ⟨g,0,none⟩) m.length c) m∧w.drew.grownBy w' (some g):=fun ty=>by
  obtain ⟨w',q1,q2,q3⟩:=run_append_inplace w.drew ty base g c [] m _ (own_prefix hd) hRf (by simp;omega);refine ⟨w',?_,q2,q3⟩;rw [List.length_nil,Nat.zero_add] at q1;exact q1
 obtain ⟨W1,hrun,ho1,hg1⟩:=hall 43;obtain ⟨cur,hG1,h1,h3,h4,h5,h6⟩:=own_open ho1;have hzc:(Builtin.zeroCells (Value.agg #[.int .i64 0,.int .i64 0]).cells (l.length - m.length)).size=(l.length - m.length) * 2:=by
  rw [size_zeroCells];rfl
 obtain ⟨W2,hW2⟩:∃W2,W2=W1.setRow g (cur.toList.take (m.length * 2)++(Builtin.zeroCells (Value.agg #[.int .i64 0,.int .i64 0]).cells (l.length - m.length)).toList++cur.toList.drop (m.length * 2+(Builtin.zeroCells (Value.agg #[.int .i64 0,.int .i64 0]).cells (l.length - m.length)).toList.length)).toArray:=⟨_,rfl⟩;have hclr:∀ty dc,(Builtin.clear_ #[43] ty #[.slice (some ⟨g,m.length * 2,none⟩) (l.length - m.length) dc]).run Tryz.prog W1=.ok (.tuple #[]) W2:=fun ty dc=>by
  rw [hW2];exact run_clearN W1 43 118 ty _ eSmp.ht (fun w=>by simp [zeroValue,typeInfo,hi0,hz0]) (fun u hu=>by simp [Value.cells] at hu;rcases hu with rfl|rfl <;> rfl) g _ _ dc cur _ (by omega) hG1 (by rw [hzc,h5];omega)
 have HFIN:RowSays base w (.slice (some ⟨g,0,none⟩) l.length c) (l.drop j) (.returned (.slice (some ⟨g,0,none⟩) m.length c)) W2:=by
  rw [←hm];refine ⟨some ⟨g,0,none⟩,c,rfl,?_,?_,.inl rfl⟩
  · have hcl2:cur.toList.length=c * 2:=by simpa using h5
    have hzl:(Builtin.zeroCells (Value.agg #[.int .i64 0,.int .i64 0]).cells (l.length - m.length)).toList.length=(l.length - m.length) * 2:=by simpa using hzc
    refine own_close (cur:=(cur.toList.take (m.length * 2)++(Builtin.zeroCells (Value.agg #[.int .i64 0,.int .i64 0]).cells (l.length - m.length)).toList++cur.toList.drop (m.length * 2+(Builtin.zeroCells (Value.agg #[.int .i64 0,.int .i64 0]).cells (l.length - m.length)).toList.length)).toArray) ?_ h1 h3 h4 ?_ ?_
    · rw [hW2];exact setRow_heap W1 g _ _ _ _ hG1
    · simp only [List.size_toArray,List.length_append,List.length_take,List.length_drop,hcl2,hzl];omega
    · show List.take _ (_++_++_)=_
      rw [List.append_assoc,List.take_append_of_le_length (by rw [List.length_take,hcl2];omega),List.take_take,Nat.min_self,h6]
  · rw [hW2]
    exact grownBy_trans (grownBy_trans (grownBy_below (Below.drew jR)) hg1) (grown_setRow _ _ _)
 have HF:=jH HFIN;have HR:=jH hrun;have HC:=jH hclr;have hj1:¬(0:Int)=(j:Int):=by omega
 have hj0:(0:Int)≤(j:Int):=by omega
 have hj2:(j:Int)≤(l.length:Int):=by omega
 have hml1:m.length≤l.length:=by omega
 have hne:¬c=m.length:=by omega
 have hc0:¬c=0:=by omega
 clear HFIN hrun hclr hW2 hzc h6 h5 hG1 hg1 ho1 hd hRf hm hml h hall;have hclr:=HC.out
 go_enter Tryz.func196,Tryz.ntmps196
 go_wp2_with fail
 go_region_law (refine step_appendN _ (by rfl) (.tmp 22) (.tmp 25) 43 43 (by rfl) _ _ (by rfl) (by rfl) HR.out ?_)
 go_wp2
 go_ret
 exact HF.out
theorem delete_any (base:Nat) (v:Value) (l:List Smp) (j:Nat) (w:World) (h:OwnL smpC 118 2 base w v l) (hj:j≤l.length) (hl:l.length≤1000000) :
 Calls Tryz.prog 196 #[v,.int .i64 0,.int .i64 j] w (RowSays base w v (l.drop j)):=by
 by_cases h0:j=0
 · subst h0
   exact delete_none base v l w h hl
 · rcases Go.Joins.ownsRow_forms h with ⟨rfl,hz⟩|⟨g,c,rfl⟩
   · omega
   · exact delete_some base g c l j w h (by omega) hj hl
end
end Go.Proofs.YtkcdhaallnhhmaaGreat
