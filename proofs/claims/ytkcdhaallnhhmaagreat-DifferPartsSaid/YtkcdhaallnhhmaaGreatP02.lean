/- Part 2 of the proof: Keys, KeyOwn, Seqs. -/
import Derived.Lib.SlicesCompact
import Derived.Laws.AppendOwnNone
import Derived.OwnWalk
import Derived.Deep.AppendLies
import Derived.Test.YtkcdhaallnhhmaaGreatP01
namespace Go.Proofs.YtkcdhaallnhhmaaGreat
set_option linter.unusedSimpArgs false
set_option linter.unusedVariables false
set_option linter.unusedSectionVars false
set_option maxRecDepth 100000
set_option maxHeartbeats 16000000
section
open Go.RowKit Go.Lib
abbrev Ky:=Nat × Nat
def Ky.ok (p:Ky):Prop:=p.1<18446744073709551616∧p.2<18446744073709551616
def ltK (p q:Ky):Bool:=if p.1=q.1 then decide (p.2<q.2) else decide (p.1<q.1)
theorem ltK_irrefl (p:Ky):ltK p p=false:=by simp [ltK]
theorem ltK_trans {p q r:Ky} (h1:ltK p q=true) (h2:ltK q r=true):ltK p r=true:=by
 simp only [ltK] at *
 split at h1 <;> split at h2 <;> split <;> simp at * <;> omega
theorem ltK_total {p q:Ky} (h1:ltK p q=false) (h2:ltK q p=false):p=q:=by
 obtain ⟨a,b⟩:=p;obtain ⟨c,d⟩:=q;simp only [ltK] at *
 split at h1 <;> split at h2 <;> simp at * <;> omega
end
section
open Go.RowKit Go.Lib
theorem grown_below {B:Nat} {a b:World} {row:Option Nat} (h:a.grownBy b row) (hB:B≤a.heap.size) (hr:∀k,row=some k→B≤k):Below B a b:=(Below.refl B a).grown h hB hr
theorem own_lower {w:World} {base base':Nat} {e:TypeId} {size:Nat} {v:Value} {n:Nat} {xs:List Value} (h:w.ownsRow base e size v n xs) (hb:base'≤base):w.ownsRow base' e size v n xs:=by
 refine ⟨h.1,?_⟩
 rcases h.2 with hn|⟨g,cap,cur,hv,hg,rest⟩
 · exact .inl hn
 · exact .inr ⟨g,cap,cur,hv,Nat.le_trans hb hg,rest⟩
end
section
open Go.RowKit Go.Lib
structure EltOf {α:Type} (t e:TypeId) (n bytes:Nat) (z:Value) (f:α→List Value):Prop where
 ht:Tryz.prog.underlying t=some (.slice e)
 hi:(Tryz.prog.info? e).map (fun i=>(i.zero,i.size,i.bytes))=some (some z,n,bytes)
 hz:z.cells.size=n
 hn:0<n
 hb:bytes≤1024
 len:∀x,(f x).length=n
 one:∀x,∀u∈f x,u.oneCell'=true
section
variable {α:Type} {t e:TypeId} {n bytes:Nat} {z:Value} {f:α→List Value}
def OwnL (f:α→List Value) (e:TypeId) (n base:Nat) (w:World) (v:Value) (l:List α):Prop:=w.ownsRow base e n v l.length (cellsOfRow f l)
theorem OwnL.row (E:EltOf t e n bytes z f) {base:Nat} {w:World} {v:Value} {l:List α} (h:OwnL f e n base w v l):RowIn n f w v l:=RowIn.own E.len h
theorem OwnL.below {base:Nat} {w w':World} {v:Value} {l:List α} (h:OwnL f e n base w v l) (hb:jB w w'):OwnL f e n base w' v l:=own_below h hb
theorem OwnL.lower {base base':Nat} {w:World} {v:Value} {l:List α} (h:OwnL f e n base w v l) (hb:base'≤base):OwnL f e n base' w v l:=own_lower h hb
theorem OwnL.nil (base:Nat) (w:World):OwnL f e n base w (.slice none 0 0) ([]:List α):=⟨by simp [cellsOfRow],.inl ⟨rfl,rfl⟩⟩
theorem OwnL.form {base:Nat} {w:World} {v:Value} {l:List α} (h:OwnL f e n base w v l):∃A c,v=.slice A l.length c:=own_form h
theorem OwnL.lt {base:Nat} {w:World} {v:Value} {l:List α} (h:OwnL f e n base w v l) {r:Nat} (hr:v.ownBlock=some r):base≤r∧r<w.heap.size:=World.ownsRow.lt h r hr
theorem OwnL.kept {base:Nat} {w w':World} {v:Value} {l:List α} (h:OwnL f e n base w v l) (hb:∀r,v.ownBlock=some r→w'.heap[r]?=w.heap[r]?):OwnL f e n base w' v l:=by
 refine ⟨h.1,?_⟩
 rcases h.2 with hn|⟨g,cap,cur,rfl,hg,hbk,rest⟩
 · exact .inl hn
 · exact .inr ⟨g,cap,cur,rfl,hg,(hb g rfl).trans hbk,rest⟩
theorem RowIn.form {w:World} {v:Value} {l:List α} (h:RowIn n f w v l):∃A c,v=.slice A l.length c:=by
 obtain ⟨A,c,hv,_⟩:=h;exact ⟨A,c,hv⟩
theorem RowIn.lit (w:World) (x:α) (cs:Array Value) (T:TypeId) (B:Nat) (hB:w.heap.size=B) (hcs:f x=cs.toList):RowIn n f (w.alloc (.cells cs T)) (.slice (some ⟨B,0,none⟩) 1 1) [x]:=by
 subst hB;refine ⟨some ⟨w.heap.size,0,none⟩,1,rfl,Nat.le_refl _,fun _=>⟨w.heap.size,0,rfl,by simp,fun k y hk j u hu=>?_⟩⟩;obtain rfl:k=0:=by
  have:=(List.getElem?_eq_some_iff.1 hk).1;simp at this;omega
 obtain rfl:x=y:=by simpa using hk
 rw [hcs] at hu;rw [Nat.zero_mul,Nat.add_zero,Nat.zero_add,(startA w cs T).1 j]
 simpa using hu
theorem OwnL.lit0 (base:Nat) (w:World) (T:TypeId) (B:Nat) (hB:w.heap.size=B) (hb:base≤B):OwnL f T n base (w.alloc (.cells #[] T)) (.slice (some ⟨B,0,none⟩) 0 0) ([]:List α):=by
 subst hB;exact World.ownsRow_made w #[] 0 hb (Nat.zero_le _) (by simp)
theorem run_append_nil {P:Program} {w:World} (base:Nat) (t ty e:TypeId) (i:TypeInfo) (size c:Nat) (ht:P.underlying t=some (.slice e)) (hi:P.info? e=some i)
    (v:Value) (n:Nat) (xs:List Value) (hown:w.ownsRow base e size v n xs) :
    (Builtin.append_ #[t,t] ty #[v,.slice none 0 c]).run P w=.ok v w:=by
  rcases hown.2 with ⟨rfl,rfl⟩|⟨g,cap,cur,rfl,_,_,hnc,_⟩
  · simp [Builtin.append_,run_underlying ht,sizeOf,typeInfo,hi,Builtin.lenOf,Builtin.firstCells]
  · simp [Builtin.append_,run_underlying ht,sizeOf,typeInfo,hi,Builtin.lenOf,Builtin.firstCells,hnc,storeCells]
theorem run_appendL (E:EltOf t e n bytes z f) (w:World) (ty:TypeId) (base:Nat) (l m:List α) (v v2:Value)
    (hown:OwnL f e n base w v l) (hm:RowIn n f w v2 m) (hlen:l.length+m.length≤100000000) (hbase:base≤w.heap.size) :
    ∃A c w',(Builtin.append_ #[t,t] ty #[v,v2]).run Tryz.prog w=.ok (.slice A (l++m).length c) w'∧OwnL f e n base w' (.slice A (l++m).length c) (l++m)∧w.grownBy w' v.ownBlock∧((Value.slice A (l++m).length c).ownBlock=v.ownBlock∨(Value.slice A (l++m).length c).ownBlock=some w.heap.size):=by
  obtain ⟨i0,hi0,hz0,hz1,hz2⟩:=info_parts E.hi;have hby:=E.hb;obtain ⟨A2,c2,rfl,hc2,hr⟩:=hm
  cases A2 with
  | none =>
    have h0:m.length=0:=by
     rcases Nat.eq_zero_or_pos m.length with h|h
     · exact h
     · obtain ⟨_,_,hA,_⟩:=hr h;cases hA
    obtain rfl:m=[]:=List.eq_nil_of_length_eq_zero h0;obtain ⟨A,c,rfl⟩:=own_form hown;refine ⟨A,c,w,?_,?_,⟨rfl,rfl,rfl,Nat.le_refl _,fun _ _ _=>rfl⟩,.inl ?_⟩
    · rw [List.append_nil]
      exact run_append_nil (P:=Tryz.prog) (w:=w) base t ty e i0 n c2 E.ht hi0 _ _ _ hown
    · rw [List.append_nil];exact hown
    · rw [List.append_nil]
  | some ad =>
    obtain ⟨v',w',hrun,h2,h3,_,h5⟩:=run_append_own_at (P:=Tryz.prog) w base t ty e i0 z n bytes E.ht hi0 hz0 hz1 hz2 E.hz E.hn v l.length (cellsOfRow f l) hown ad m.length c2 (cellsOfRow f m) (cellsOfRow_len E.len m) (fun j u hu=>by
     obtain ⟨y,hy,hyu⟩:=cellsOfRow_split E.hn E.len m j u hu;have hml:0<m.length:=Nat.lt_of_le_of_lt (Nat.zero_le _) (List.getElem?_eq_some_iff.1 hy).1;obtain ⟨b,o',hA,hlt,hat⟩:=hr hml;injection hA with hA
     subst hA;have h:=hat (j / n) y hy (j % n) u hyu;rw [add_at,←h];have hd:j / n * n+j % n=j:=by rw [Nat.mul_comm];exact Nat.div_add_mod j n
     rw [Nat.add_assoc,hd]) (cellsOfRow_one E.one m) (by simp only [maxLen];omega) (Nat.le_trans (Nat.mul_le_mul (by omega:l.length+m.length≤100000000) hby) (by omega)) hbase
    have hlen2:(l++m).length=l.length+m.length:=by simp
    have h2':OwnL f e n base w' v' (l++m):=by
     unfold OwnL;rw [hlen2,cellsOfRow_append];exact h2
    obtain ⟨A,c,rfl⟩:=own_form h2';exact ⟨A,c,w',hrun,h2',h3,h5⟩
theorem wpList_appendL (E:EltOf t e n bytes z f) {w:World} {ops:Array Oper} {rest:List Oper} {o:Oper} {a:Act} {Q:Exit→Act→World→Prop} (hgd:o.guard=none) {s x:Operand}
    (ho:o.op=.call { callee:=.builtin .append,args:=#[s,x],argTypes:=#[t,t] }) (base:Nat) (l m:List α) (v v2:Value) (hs:a.eval s=v) (hx:a.eval x=v2)
    (hown:OwnL f e n base w v l) (hm:RowIn n f w v2 m) (hlen:l.length+m.length≤100000000) (hbase:base≤w.heap.size)
    (h:∀(out:List α) A c w',out=l++m→OwnL f e n base w' (.slice A out.length c) out→w.grownBy w' v.ownBlock→((Value.slice A out.length c).ownBlock=v.ownBlock∨(Value.slice A out.length c).ownBlock=some w.heap.size)→wpList Tryz.prog ops Q rest (a.put o.dst (.slice A out.length c)) w') :
    wpList Tryz.prog ops Q (o::rest) a w:=by
  refine wpList_plain hgd fun K hK=>?_
  obtain ⟨A,c,w',hrun,h2,h3,h4⟩:=run_appendL E w o.type base l m v v2 hown hm hlen hbase;unfold Oper.wp;simp [execOp,ho,resolve,invoke,builtin,hs,hx,hrun,Result.andThen]
  have h6:=hK _ _ (h _ A c w' rfl h2 h3 h4);rw [List.length_append] at h6;exact h6
theorem step_appendL (E:EltOf t e n bytes z f) {w:World} {ops:Array Oper} {o:Oper} {a:Act} {K:Act→World→Prop} {Q:Exit→Act→World→Prop} {X:Prop} (hgd:o.guard=none) (s x:Operand)
    (ho:o.op=.call { callee:=.builtin .append,args:=#[s,x],argTypes:=#[t,t] }) (base:Nat) (l m:List α) (v v2:Value) (hs:a.eval s=v) (hx:a.eval x=v2)
    (hown:OwnL f e n base w v l) (hm:RowIn n f w v2 m) (hlen:l.length+m.length≤100000000) (hbase:base≤w.heap.size)
    (h:∀(out:List α) A c w',out=l++m→OwnL f e n base w' (.slice A out.length c) out→w.grownBy w' v.ownBlock→((Value.slice A out.length c).ownBlock=v.ownBlock∨(Value.slice A out.length c).ownBlock=some w.heap.size)→K (a.put o.dst (.slice A out.length c)) w') :
    if Region.wanted o (yielded ops a.tmps)=true then Oper.wp Tryz.prog o a w K Q else X:=by
  have hw:Region.wanted o (yielded ops a.tmps)=true:=by simp [Region.wanted,hgd]
  rw [if_pos hw];obtain ⟨A,c,w',hrun,h2,h3,h4⟩:=run_appendL E w o.type base l m v v2 hown hm hlen hbase;unfold Oper.wp;simp [execOp,ho,resolve,invoke,builtin,hs,hx,hrun,Result.andThen]
  have h6:=h _ A c w' rfl h2 h3 h4;rw [List.length_append] at h6;exact h6
theorem grown_own {base:Nat} {w w' W:World} {v:Value} {l:List α} (hg:w.grownBy w' v.ownBlock) (hown:OwnL f e n base W v l) (hb:base≤w.heap.size):Below base w w' :=
 grown_below hg hb (fun r hr=>(hown.lt hr).1)
theorem row_from (E:EltOf t e n bytes z f) {w:World} {A:Option Addr} {c:Nat} {l:List α} (h:RowIn n f w (.slice A l.length c) l) (a:Nat) (ha:a≤l.length) :
 ∃(m:List α) (A2:Option Addr) (c2:Nat),m=l.drop a∧(∀w':World,(Instr.sliceAt t (.slice A l.length c) (some (.int .i64 a)) none none).run Tryz.prog w'=.ok (.slice A2 m.length c2) w')∧RowIn n f w (.slice A2 m.length c2) m:=by
 obtain ⟨i0,hi0,hz0,hz1,hz2⟩:=info_parts E.hi;have hp:=RowIn.part h (i:=a) (j:=l.length) ha (Nat.le_refl _);rw [List.take_length] at hp;have hlen:(l.drop a).length=l.length - a:=by simp
 have hel:Tryz.prog.elem t=e:=by simp [Program.elem,E.ht]
 refine ⟨l.drop a,_,_,rfl,fun w'=>?_,by rw [hlen];exact hp⟩;rw [run_sliceAt_slice _ t _ _ _ _ (by rw [hel];exact E.ht),run_slice_l _ t A l.length c (by rw [hel];exact E.ht) _ _ (by omega) (by omega),hel];simp [sizeOf,typeInfo,hi0,hz1,Result.andThen,sliced,hlen]
end
end
end Go.Proofs.YtkcdhaallnhhmaaGreat
