/- Part 3 of the proof: Seqs, Insert. -/
import Derived.OwnWalk
import Derived.Deep.AppendLies
import Derived.Sort.Grow
import Derived.Deep.RegionLaw
import Derived.BigRegion
import Derived.DeepKeys5
import Derived.ChangeMaps5
import Derived.Lib.Overlaps
import Derived.Lib.AppendZeros
import Derived.Laws.Externs
import Derived.Laws.CopyRow
import Derived.Shelf.RegionOpenPlain
import Derived.Test.YtkcdhaallnhhmaaGreatQ01
namespace Go.Proofs.YtkcdhaallnhhmaaGreat
set_option linter.unusedSimpArgs false
set_option linter.unusedVariables false
set_option linter.unusedSectionVars false
set_option maxRecDepth 100000
set_option maxHeartbeats 16000000
section
open Go.RowKit Go.Lib
structure EltOf {α:Type} (t e:TypeId) (n bytes:Nat) (z:Value) (f:α→List Value):Prop where
 ht:Tryz.prog.underlying t=some (.slice e)
 hi:(Tryz.prog.info? e).map (fun i=>(i.zero,i.size,i.bytes))=some (some z,n,bytes)
 hz:z.cells.size=n
 hn:0<n
 hb:bytes≤1024
 len:∀x,(f x).length=n
 one:∀x,∀u∈f x,u.oneCell'=true
section
variable {α:Type} {t e:TypeId} {n bytes:Nat} {z:Value} {f:α→List Value}
def OwnL (f:α→List Value) (e:TypeId) (n base:Nat) (w:World) (v:Value) (l:List α):Prop:=w.ownsRow base e n v l.length (cellsOfRow f l)
theorem OwnL.row (E:EltOf t e n bytes z f) {base:Nat} {w:World} {v:Value} {l:List α} (h:OwnL f e n base w v l):RowIn n f w v l:=RowIn.own E.len h
theorem OwnL.below {base:Nat} {w w':World} {v:Value} {l:List α} (h:OwnL f e n base w v l) (hb:jB w w'):OwnL f e n base w' v l:=own_below h hb
theorem OwnL.lower {base base':Nat} {w:World} {v:Value} {l:List α} (h:OwnL f e n base w v l) (hb:base'≤base):OwnL f e n base' w v l:=own_lower h hb
theorem OwnL.nil (base:Nat) (w:World):OwnL f e n base w (.slice none 0 0) ([]:List α):=⟨by simp [cellsOfRow],.inl ⟨rfl,rfl⟩⟩
theorem OwnL.form {base:Nat} {w:World} {v:Value} {l:List α} (h:OwnL f e n base w v l):∃A c,v=.slice A l.length c:=own_form h
theorem OwnL.lt {base:Nat} {w:World} {v:Value} {l:List α} (h:OwnL f e n base w v l) {r:Nat} (hr:v.ownBlock=some r):base≤r∧r<w.heap.size:=World.ownsRow.lt h r hr
theorem OwnL.kept {base:Nat} {w w':World} {v:Value} {l:List α} (h:OwnL f e n base w v l) (hb:∀r,v.ownBlock=some r→w'.heap[r]?=w.heap[r]?):OwnL f e n base w' v l:=by
 refine ⟨h.1,?_⟩
 rcases h.2 with hn|⟨g,cap,cur,rfl,hg,hbk,rest⟩
 · exact .inl hn
 · exact .inr ⟨g,cap,cur,rfl,hg,(hb g rfl).trans hbk,rest⟩
theorem RowIn.form {w:World} {v:Value} {l:List α} (h:RowIn n f w v l):∃A c,v=.slice A l.length c:=by
 obtain ⟨A,c,hv,_⟩:=h;exact ⟨A,c,hv⟩
theorem RowIn.lit (w:World) (x:α) (cs:Array Value) (T:TypeId) (B:Nat) (hB:w.heap.size=B) (hcs:f x=cs.toList):RowIn n f (w.alloc (.cells cs T)) (.slice (some ⟨B,0,none⟩) 1 1) [x]:=by
 subst hB;refine ⟨some ⟨w.heap.size,0,none⟩,1,rfl,Nat.le_refl _,fun _=>⟨w.heap.size,0,rfl,by simp,fun k y hk j u hu=>?_⟩⟩;obtain rfl:k=0:=by
  have:=(List.getElem?_eq_some_iff.1 hk).1;simp at this;omega
 obtain rfl:x=y:=by simpa using hk
 rw [hcs] at hu;rw [Nat.zero_mul,Nat.add_zero,Nat.zero_add,(startA w cs T).1 j]
 simpa using hu
theorem OwnL.lit0 (base:Nat) (w:World) (T:TypeId) (B:Nat) (hB:w.heap.size=B) (hb:base≤B):OwnL f T n base (w.alloc (.cells #[] T)) (.slice (some ⟨B,0,none⟩) 0 0) ([]:List α):=by
 subst hB;exact World.ownsRow_made w #[] 0 hb (Nat.zero_le _) (by simp)
theorem run_append_nil {P:Program} {w:World} (base:Nat) (t ty e:TypeId) (i:TypeInfo) (size c:Nat) (ht:P.underlying t=some (.slice e)) (hi:P.info? e=some i)
    (v:Value) (n:Nat) (xs:List Value) (hown:w.ownsRow base e size v n xs) :
    (Builtin.append_ #[t,t] ty #[v,.slice none 0 c]).run P w=.ok v w:=by
  rcases hown.2 with ⟨rfl,rfl⟩|⟨g,cap,cur,rfl,_,_,hnc,_⟩
  · simp [Builtin.append_,run_underlying ht,sizeOf,typeInfo,hi,Builtin.lenOf,Builtin.firstCells]
  · simp [Builtin.append_,run_underlying ht,sizeOf,typeInfo,hi,Builtin.lenOf,Builtin.firstCells,hnc,storeCells]
theorem run_appendL (E:EltOf t e n bytes z f) (w:World) (ty:TypeId) (base:Nat) (l m:List α) (v v2:Value)
    (hown:OwnL f e n base w v l) (hm:RowIn n f w v2 m) (hlen:l.length+m.length≤100000000) (hbase:base≤w.heap.size) :
    ∃A c w',(Builtin.append_ #[t,t] ty #[v,v2]).run Tryz.prog w=.ok (.slice A (l++m).length c) w'∧OwnL f e n base w' (.slice A (l++m).length c) (l++m)∧w.grownBy w' v.ownBlock∧((Value.slice A (l++m).length c).ownBlock=v.ownBlock∨(Value.slice A (l++m).length c).ownBlock=some w.heap.size):=by
  obtain ⟨i0,hi0,hz0,hz1,hz2⟩:=info_parts E.hi;have hby:=E.hb;obtain ⟨A2,c2,rfl,hc2,hr⟩:=hm
  cases A2 with
  | none =>
    have h0:m.length=0:=by
     rcases Nat.eq_zero_or_pos m.length with h|h
     · exact h
     · obtain ⟨_,_,hA,_⟩:=hr h;cases hA
    obtain rfl:m=[]:=List.eq_nil_of_length_eq_zero h0;obtain ⟨A,c,rfl⟩:=own_form hown;refine ⟨A,c,w,?_,?_,⟨rfl,rfl,rfl,Nat.le_refl _,fun _ _ _=>rfl⟩,.inl ?_⟩
    · rw [List.append_nil]
      exact run_append_nil (P:=Tryz.prog) (w:=w) base t ty e i0 n c2 E.ht hi0 _ _ _ hown
    · rw [List.append_nil];exact hown
    · rw [List.append_nil]
  | some ad =>
    obtain ⟨v',w',hrun,h2,h3,_,h5⟩:=run_append_own_at (P:=Tryz.prog) w base t ty e i0 z n bytes E.ht hi0 hz0 hz1 hz2 E.hz E.hn v l.length (cellsOfRow f l) hown ad m.length c2 (cellsOfRow f m) (cellsOfRow_len E.len m) (fun j u hu=>by
     obtain ⟨y,hy,hyu⟩:=cellsOfRow_split E.hn E.len m j u hu;have hml:0<m.length:=Nat.lt_of_le_of_lt (Nat.zero_le _) (List.getElem?_eq_some_iff.1 hy).1;obtain ⟨b,o',hA,hlt,hat⟩:=hr hml;injection hA with hA
     subst hA;have h:=hat (j / n) y hy (j % n) u hyu;rw [add_at,←h];have hd:j / n * n+j % n=j:=by rw [Nat.mul_comm];exact Nat.div_add_mod j n
     rw [Nat.add_assoc,hd]) (cellsOfRow_one E.one m) (by simp only [maxLen];omega) (Nat.le_trans (Nat.mul_le_mul (by omega:l.length+m.length≤100000000) hby) (by omega)) hbase
    have hlen2:(l++m).length=l.length+m.length:=by simp
    have h2':OwnL f e n base w' v' (l++m):=by
     unfold OwnL;rw [hlen2,cellsOfRow_append];exact h2
    obtain ⟨A,c,rfl⟩:=own_form h2';exact ⟨A,c,w',hrun,h2',h3,h5⟩
theorem wpList_appendL (E:EltOf t e n bytes z f) {w:World} {ops:Array Oper} {rest:List Oper} {o:Oper} {a:Act} {Q:Exit→Act→World→Prop} (hgd:o.guard=none) {s x:Operand}
    (ho:o.op=.call { callee:=.builtin .append,args:=#[s,x],argTypes:=#[t,t] }) (base:Nat) (l m:List α) (v v2:Value) (hs:a.eval s=v) (hx:a.eval x=v2)
    (hown:OwnL f e n base w v l) (hm:RowIn n f w v2 m) (hlen:l.length+m.length≤100000000) (hbase:base≤w.heap.size)
    (h:∀(out:List α) A c w',out=l++m→OwnL f e n base w' (.slice A out.length c) out→w.grownBy w' v.ownBlock→((Value.slice A out.length c).ownBlock=v.ownBlock∨(Value.slice A out.length c).ownBlock=some w.heap.size)→wpList Tryz.prog ops Q rest (a.put o.dst (.slice A out.length c)) w') :
    wpList Tryz.prog ops Q (o::rest) a w:=by
  refine wpList_plain hgd fun K hK=>?_
  obtain ⟨A,c,w',hrun,h2,h3,h4⟩:=run_appendL E w o.type base l m v v2 hown hm hlen hbase;unfold Oper.wp;simp [execOp,ho,resolve,invoke,builtin,hs,hx,hrun,Result.andThen]
  have h6:=hK _ _ (h _ A c w' rfl h2 h3 h4);rw [List.length_append] at h6;exact h6
theorem step_appendL (E:EltOf t e n bytes z f) {w:World} {ops:Array Oper} {o:Oper} {a:Act} {K:Act→World→Prop} {Q:Exit→Act→World→Prop} {X:Prop} (hgd:o.guard=none) (s x:Operand)
    (ho:o.op=.call { callee:=.builtin .append,args:=#[s,x],argTypes:=#[t,t] }) (base:Nat) (l m:List α) (v v2:Value) (hs:a.eval s=v) (hx:a.eval x=v2)
    (hown:OwnL f e n base w v l) (hm:RowIn n f w v2 m) (hlen:l.length+m.length≤100000000) (hbase:base≤w.heap.size)
    (h:∀(out:List α) A c w',out=l++m→OwnL f e n base w' (.slice A out.length c) out→w.grownBy w' v.ownBlock→((Value.slice A out.length c).ownBlock=v.ownBlock∨(Value.slice A out.length c).ownBlock=some w.heap.size)→K (a.put o.dst (.slice A out.length c)) w') :
    if Region.wanted o (yielded ops a.tmps)=true then Oper.wp Tryz.prog o a w K Q else X:=by
  have hw:Region.wanted o (yielded ops a.tmps)=true:=by simp [Region.wanted,hgd]
  rw [if_pos hw];obtain ⟨A,c,w',hrun,h2,h3,h4⟩:=run_appendL E w o.type base l m v v2 hown hm hlen hbase;unfold Oper.wp;simp [execOp,ho,resolve,invoke,builtin,hs,hx,hrun,Result.andThen]
  have h6:=h _ A c w' rfl h2 h3 h4;rw [List.length_append] at h6;exact h6
theorem grown_own {base:Nat} {w w' W:World} {v:Value} {l:List α} (hg:w.grownBy w' v.ownBlock) (hown:OwnL f e n base W v l) (hb:base≤w.heap.size):Below base w w' :=
 grown_below hg hb (fun r hr=>(hown.lt hr).1)
theorem row_from (E:EltOf t e n bytes z f) {w:World} {A:Option Addr} {c:Nat} {l:List α} (h:RowIn n f w (.slice A l.length c) l) (a:Nat) (ha:a≤l.length) :
 ∃(m:List α) (A2:Option Addr) (c2:Nat),m=l.drop a∧(∀w':World,(Instr.sliceAt t (.slice A l.length c) (some (.int .i64 a)) none none).run Tryz.prog w'=.ok (.slice A2 m.length c2) w')∧RowIn n f w (.slice A2 m.length c2) m:=by
 obtain ⟨i0,hi0,hz0,hz1,hz2⟩:=info_parts E.hi;have hp:=RowIn.part h (i:=a) (j:=l.length) ha (Nat.le_refl _);rw [List.take_length] at hp;have hlen:(l.drop a).length=l.length - a:=by simp
 have hel:Tryz.prog.elem t=e:=by simp [Program.elem,E.ht]
 refine ⟨l.drop a,_,_,rfl,fun w'=>?_,by rw [hlen];exact hp⟩;rw [run_sliceAt_slice _ t _ _ _ _ (by rw [hel];exact E.ht),run_slice_l _ t A l.length c (by rw [hel];exact E.ht) _ _ (by omega) (by omega),hel];simp [sizeOf,typeInfo,hi0,hz1,Result.andThen,sliced,hlen]
theorem row_to (E:EltOf t e n bytes z f) {w:World} {A:Option Addr} {c:Nat} {l:List α} (h:RowIn n f w (.slice A l.length c) l) (a:Nat) (ha:a≤l.length) :
 ∃(m:List α) (A2:Option Addr) (c2:Nat),m=l.take a∧(∀w':World,(Instr.sliceAt t (.slice A l.length c) none (some (.int .i64 a)) none).run Tryz.prog w'=.ok (.slice A2 m.length c2) w')∧RowIn n f w (.slice A2 m.length c2) m:=by
 obtain ⟨i0,hi0,hz0,hz1,hz2⟩:=info_parts E.hi;have hcl:l.length≤c:=by obtain ⟨_,_,hv,hc,_⟩:=h;injection hv with _ _ e3;omega
 have hp:=RowIn.part h (i:=0) (j:=a) (Nat.zero_le _) ha;rw [List.drop_zero,Nat.zero_mul,Nat.sub_zero,Nat.sub_zero] at hp;have hlen:(l.take a).length=a:=by simp;omega
 have hel:Tryz.prog.elem t=e:=by simp [Program.elem,E.ht]
 refine ⟨l.take a,_,_,rfl,fun w'=>?_,by rw [hlen];exact hp⟩;rw [run_sliceAt_slice _ t _ _ _ _ (by rw [hel];exact E.ht),run_slice_h _ t A l.length c (by rw [hel];exact E.ht) _ _ (by omega) (by omega),hel];simp [sizeOf,typeInfo,hi0,hz1,Result.andThen,sliced,hlen]
end
end
section
open Go.RowKit Go.Lib
abbrev Smp:=Int × Int
def smpC (s:Smp):List Value:=[.int .i64 s.1,.int .i64 s.2]
theorem eSmp:EltOf 43 118 2 16 (.agg #[.int .i64 0,.int .i64 0]) smpC :=
 ⟨by kernel_rfl,by kernel_rfl,rfl,by decide,by decide,fun _=>rfl,fun x u hu=>by
  simp only [smpC,List.mem_cons,List.not_mem_nil,or_false] at hu
  rcases hu with rfl|rfl <;> rfl⟩
section
variable {P:Program} (w:World)
theorem run_copy_rowN (dT sT ty elem:TypeId) (k:Nat) (g o dLen dCap:Nat) (a:Addr) (sLen sCap:Nat) (cur:Array Value) (t:TypeId) (cs:List Value)
    (hu:P.underlying dT=some (.slice elem)) (hs:(P.info? elem).map (·.size)=some k)
    (hg:w.heap[g]?=some (.cells cur t (0,0))) (hn:cs.length=Nat.min sLen dLen * k)
    (hsrc:∀j v,cs[j]?=some v→w.cell? (a.add j)=some v) (hfit:o+cs.length≤cur.size) (h1:∀v∈cs,v.oneCell'=true) :
    (Builtin.copy_ #[dT,sT] ty #[.slice (some ⟨g,o,none⟩) dLen dCap,.slice (some a) sLen sCap]).run P w =
      .ok (goInt (Nat.min sLen dLen)) (w.setRow g (cur.toList.take o++cs++cur.toList.drop (o+cs.length)).toArray):=by
  have hl:=run_loadCells_list (P:=P) w a cs hsrc;have hst:=run_storeCells_at P g o t cs 0 cur w hg (by simpa using hfit) h1
  cases hq:P.info? elem with
  | none=>simp [hq] at hs
  | some i =>
    have hi:i.size=k:=by simpa [hq] using hs
    rw [hn] at hl;simp only [Nat.add_zero] at hst
    simp [Builtin.copy_,run_underlying hu,Builtin.lenOf,Builtin.firstCells,sizeOf,typeInfo,hq,hi,hl,hst]
theorem run_append_grow_zeros (t tn ty e:TypeId) (i:TypeInfo) (z:Value) (k kn:IntKind) (ht:P.underlying t=some (.slice e)) (htn:P.underlying tn=some (.int kn)) (hi:P.info? e=some i) (hz:i.zero=some z)
    (base:Option Addr) (sLen sCap:Nat) (olds:List Value) (hold:(Builtin.firstCells i.size sLen (.slice base sLen sCap)).run P w.drew=.ok olds.toArray w.drew)
    (n:Nat) (h0:0<n) (hs:0<i.size) (hg:sCap<sLen+n) (h63:((sLen+n:Nat):Int)≤9223372036854775807) (hfit:Builtin.nextslicecap (sLen+n) sCap * i.bytes≤281474976710656) (h48:n * i.bytes≤281474976710656) :
    (Builtin.append_ #[t,tn] ty #[.slice base sLen sCap,.int k n]).run P w =
      .ok (.slice (some ⟨w.heap.size,0,none⟩) (sLen+n) (grownCap w (sLen+n) sCap e)) (w.drew.alloc (.cells (olds.toArray++Builtin.zeroCells z.cells n++Builtin.zeroCells z.cells (grownCap w (sLen+n) sCap e - (sLen+n))) e)):=by
  have hn:¬(sLen+n≤sCap):=by omega
  have hw:IntKind.i64.wrap (n:Int)=n:=by rw [IntKind.wrap_i64];omega
  have h63':¬(9223372036854775807<((sLen:Int)+(n:Int))):=by omega
  have h48':¬(281474976710656<Builtin.nextslicecap (sLen+n) sCap * i.bytes):=by omega
  have h48i:¬(281474976710656<(n:Int) * (i.bytes:Int)):=by
   rw [←Int.natCast_mul];omega
  have hneg:¬((n:Int)<0):=by omega
  have hns:¬(n * i.size=0):=Nat.mul_ne_zero (by omega) (by omega);have hn0:¬n=0:=by omega
  simp [Builtin.append_,run_underlying ht,run_underlying htn,sizeOf,typeInfo,zeroValue,hi,hz,asInt,asIntOf,hw,hn,hneg,hns,h63',h48',h48i,Question.forced,hold,newRow,grownCap]
end
theorem RowIn.block {α:Type} {n:Nat} {f:α→List Value} {w:World} {B:Nat} {cs:Array Value} {T:TypeId} {fr:Nat × Nat} {x:α} (hB:w.heap[B]?=some (.cells cs T fr)) (hcs:f x=cs.toList):RowIn n f w (.slice (some ⟨B,0,none⟩) 1 1) [x]:=by
 refine ⟨some ⟨B,0,none⟩,1,rfl,Nat.le_refl _,fun _=>⟨B,0,rfl,(jL hB),fun k y hk j u hu=>?_⟩⟩;obtain rfl:k=0:=by
  have:=(List.getElem?_eq_some_iff.1 hk).1;simp at this;omega
 obtain rfl:x=y:=by simpa using hk
 rw [hcs] at hu;rw [Nat.zero_mul,Nat.add_zero,Nat.zero_add];simp only [World.cell?,hB]
 simpa using hu
def RowSays (base:Nat) (w:World) (v:Value) (out:List Smp) (e:Ending) (w':World):Prop :=
 ∃A c,e=.returned (.slice A out.length c)∧OwnL smpC 118 2 base w' (.slice A out.length c) out∧w.grownBy w' v.ownBlock∧((Value.slice A out.length c).ownBlock=v.ownBlock∨∀r,(Value.slice A out.length c).ownBlock=some r→w.heap.size≤r)
theorem smpRow_len (l:List Smp):(cellsOfRow smpC l).length=l.length * 2:=cellsOfRow_len eSmp.len l
theorem smpRow_take (l:List Smp) (i:Nat):cellsOfRow smpC (l.take i)=(cellsOfRow smpC l).take (i * 2):=by
 induction l generalizing i with
 | nil=>simp [cellsOfRow]
 | cons a l ih =>
   cases i with
   | zero=>simp [cellsOfRow]
   | succ i=>rw [List.take_succ_cons,cellsOfRow_cons,cellsOfRow_cons,ih,show (i+1) * 2=(smpC a).length+i * 2 by rw [eSmp.len];omega,List.take_length_add_append]
theorem smpRow_drop (l:List Smp) (i:Nat):cellsOfRow smpC (l.drop i)=(cellsOfRow smpC l).drop (i * 2):=by
 induction l generalizing i with
 | nil=>simp [cellsOfRow]
 | cons a l ih =>
   cases i with
   | zero=>simp
   | succ i=>rw [List.drop_succ_cons,cellsOfRow_cons,ih,show (i+1) * 2=(smpC a).length+i * 2 by rw [eSmp.len];omega,List.drop_length_add_append]
theorem shape_cells {w:World} {r:Nat} {cs:Array Value} {T:TypeId} {fr:Nat × Nat} (h:w.heap[r]?=some (.cells cs T fr)):w.shape? r=some (T,cs.size):=by simp [World.shape?,h]
theorem plain_cells {w:World} {r j:Nat} {cs:Array Value} {T:TypeId} (h:w.heap[r]?=some (.cells cs T (0,0))):w.frozen? ⟨r,j,none⟩=false:=by simp [World.frozen?,h]
theorem own_open {base:Nat} {w:World} {g c:Nat} {l:List Smp} (h:OwnL smpC 118 2 base w (.slice (some ⟨g,0,none⟩) l.length c) l) :
 ∃cur,w.heap[g]?=some (.cells cur 118 (0,0))∧base≤g∧l.length≤c∧c≤maxLen∧cur.size=c * 2∧cur.toList.take (l.length * 2)=cellsOfRow smpC l:=by
 rcases h.2 with ⟨hv,_⟩|⟨g',cap,cur,hv,h1,h2,h3,h4,h5,h6⟩
 · cases hv
 · injection hv with e1 _ e3
   injection e1 with e1
   injection e1 with e1
   subst e1 e3;exact ⟨cur,h2,h1,h3,h4,h5,h6⟩
theorem own_close {base:Nat} {w:World} {g c:Nat} {cur:Array Value} {l:List Smp} (h2:w.heap[g]?=some (.cells cur 118 (0,0))) (h1:base≤g) (h3:l.length≤c) (h4:c≤maxLen) (h5:cur.size=c * 2) (h6:cur.toList.take (l.length * 2)=cellsOfRow smpC l) :
 OwnL smpC 118 2 base w (.slice (some ⟨g,0,none⟩) l.length c) l:=⟨smpRow_len l,.inr ⟨g,c,cur,rfl,h1,h2,h3,h4,h5,h6⟩⟩
theorem grown_setRow (w:World) (g:Nat) (cs:Array Value):w.grownBy (w.setRow g cs) (some g) :=
 ⟨rfl,rfl,rfl,by rw [setRow_size];exact Nat.le_refl _,fun k _ hk=>setRow_other w g k cs (fun e=>hk (by rw [e]))⟩
theorem grownBy_trans {w a b:World} {r:Option Nat} (h:w.grownBy a r) (k:a.grownBy b r):w.grownBy b r :=
 ⟨k.os.trans h.os,k.tape.trans h.tape,k.output.trans h.output,Nat.le_trans h.size k.size,fun i hi hne=>(k.block i (Nat.lt_of_lt_of_le hi h.size) hne).trans (h.block i hi hne)⟩
theorem grownBy_below {w a:World} {r:Option Nat} (h:jB w a):w.grownBy a r:=⟨h.os,h.tape,h.output,h.size,fun k hk _=>h.block k hk⟩
theorem insert_end (base:Nat) (v:Value) (l:List Smp) (x:Smp) (B:Nat) (w:World) (h:OwnL smpC 118 2 base w v l) (hl:l.length≤1000000) (hB:w.heap[B]?=some (.cells #[.int .i64 x.1,.int .i64 x.2] 118 (0,0))) (hbase:base≤w.heap.size) :
 Calls Tryz.prog 195 #[v,.int .i64 l.length,.slice (some ⟨B,0,none⟩) 1 1] w (RowSays base w v (l++[x])):=by
 obtain ⟨A,c,rfl⟩:=h.form;have HO:=jH h;have HB:=jH hB;have hcl:l.length≤c:=by obtain ⟨_,_,hv,hc,_⟩:=h.row eSmp;injection hv with _ _ e3;omega
 obtain ⟨mq,Aq,cq,_,hrq,_⟩:=row_from eSmp (h.row eSmp) l.length (Nat.le_refl _);clear h hB
 go_enter Tryz.func195,Tryz.ntmps195
 go_wp2_with (at_builtin;refine wpList_appendL eSmp (by rfl) (s:=.tmp 23) (x:=.tmp 24) (by rfl) base l [x] _ _ (by rfl) (by rfl) HO.out (RowIn.block HB.out rfl) (by simp;omega) hbase ?_;intro out A2 c2 w2 hout hown hg hblk;have HOUT:=jH hout;have HW:=jH hown;have HG:=jH hg;have HK:=jH hblk;clear hout hown hg hblk)
 go_ret
 have e:l++[x]=out:=HOUT.out.symm;rw [e];exact ⟨A2,c2,rfl,HW.out,HG.out,HK.out.imp id (fun h r hr=>by rw [h] at hr;injection hr with hr;omega)⟩
theorem row_at {w:World} {g k:Nat} {cur:Array Value} {T:TypeId} {fr:Nat × Nat} {cs:List Value} (h:w.heap[g]?=some (.cells cur T fr)) (hc:∀j u,cs[j]?=some u→cur.toList[k+j]?=some u):∀j u,cs[j]?=some u→w.cell? ((⟨g,k,none⟩:Addr).add j)=some u:=fun j u hu=>by
 rw [add_at];simp only [World.cell?,h]
 simpa using hc j u hu
theorem splice_ins (cur D xs:List Value) (i n:Nat) (hx:xs.length=2) (hi:i<n) (hn:(n+1) * 2≤cur.length) (hD:D.length=(n - i) * 2) :
 ((cur.take ((i+1) * 2)++D++cur.drop ((i+1) * 2+D.length)).take (i * 2)++xs++(cur.take ((i+1) * 2)++D++cur.drop ((i+1) * 2+D.length)).drop (i * 2+xs.length)).take ((n+1) * 2)=cur.take (i * 2)++(xs++D):=by
 have hA:(cur.take ((i+1) * 2)).length=(i+1) * 2:=by rw [List.length_take];omega
 have e1:(cur.take ((i+1) * 2)++D++cur.drop ((i+1) * 2+D.length)).take (i * 2)=cur.take (i * 2):=by
  rw [List.append_assoc,List.take_append_of_le_length (by omega),List.take_take,Nat.min_eq_left (by omega)]
 have e2:(cur.take ((i+1) * 2)++D++cur.drop ((i+1) * 2+D.length)).drop (i * 2+xs.length)=D++cur.drop ((i+1) * 2+D.length):=by
  rw [List.append_assoc,show i * 2+xs.length=(cur.take ((i+1) * 2)).length by rw [hA,hx];omega,List.drop_left]
 rw [e1,e2,←List.append_assoc,List.take_append_of_le_length (by simp only [List.length_append,List.length_take,hx,hD];omega),List.take_of_length_le (by simp only [List.length_append,List.length_take,hx,hD];omega),List.append_assoc]
theorem insert_room (base g c:Nat) (l:List Smp) (i:Nat) (x:Smp) (B:Nat) (w:World) (h:OwnL smpC 118 2 base w (.slice (some ⟨g,0,none⟩) l.length c) l) (hi:i<l.length) (hroom:l.length+1≤c) (hl:l.length≤1000000) (hB:w.heap[B]?=some (.cells #[.int .i64 x.1,.int .i64 x.2] 118 (0,0))) (hBg:B≠g) :
 Calls Tryz.prog 195 #[.slice (some ⟨g,0,none⟩) l.length c,.int .i64 i,.slice (some ⟨B,0,none⟩) 1 1] w (RowSays base w (.slice (some ⟨g,0,none⟩) l.length c) (l.take i++x::l.drop i)):=by
 obtain ⟨cur,hg,h1,h3,h4,h5,h6⟩:=own_open h;have hlen:=smpRow_len l;have hcm:c≤9223372036854775807:=h4;have hdrop:=smpRow_drop l i;have hsz:(Tryz.prog.info? 118).map (·.size)=some 2:=by obtain ⟨i0,hi0,_,h1,_⟩:=info_parts eSmp.hi;rw [hi0];simp [h1]
 have hzz:∀w,(Go.sizeOf 118).run Tryz.prog w=.ok 2 w:=fun w=>by obtain ⟨i0,hi0,_,h1,_⟩:=info_parts eSmp.hi;simp [sizeOf,typeInfo,hi0,h1]
 have hov:∀lb cb,(callFunc 222 #[.slice (some ⟨B,0,none⟩) 1 1,.slice (some ⟨g,(i+1) * 2,none⟩) lb cb]).run Tryz.prog w=.ok (.value (.bool false)) w:=fun lb cb=>by
  rw [run_callFunc_extern Tryz.func222 (by kernel_rfl) (by kernel_rfl) (by kernel_rfl) (e:=Extern.SlicesOverlaps.overlaps #[43,43] #[4]) (by kernel_rfl),
    Lib.run_overlaps_apart w 43 4 118 eSmp.ht 2 hzz ⟨B,0,none⟩ ⟨g,(i+1) * 2,none⟩ 1 1 lb cb hBg _ _ _ _ (shape_cells hB) (shape_cells hg) (by omega) (plain_cells hB) (plain_cells hB)]
  rfl
 have hcl:cur.toList.length=c * 2:=by simpa using h5
 obtain ⟨W1,hW1⟩:∃W1,W1=w.drew.setRow g (cur.toList.take ((i+1) * 2)++cellsOfRow smpC (l.drop i)++cur.toList.drop ((i+1) * 2+(cellsOfRow smpC (l.drop i)).length)).toArray:=⟨_,rfl⟩;have hdl:(cellsOfRow smpC (l.drop i)).length=(l.length - i) * 2:=by rw [smpRow_len,List.length_drop]
 have hcp1:∀ty dc sc,(Builtin.copy_ #[43,43] ty #[.slice (some ⟨g,(i+1) * 2,none⟩) (l.length - i) dc,.slice (some ⟨g,i * 2,none⟩) (l.length+1 - i) sc]).run Tryz.prog w.drew=.ok (goInt (Nat.min (l.length+1 - i) (l.length - i))) W1:=fun ty dc sc=>by
  rw [hW1];refine run_copy_rowN w.drew _ _ ty 118 2 g ((i+1) * 2) _ dc ⟨g,i * 2,none⟩ _ sc cur _ (cellsOfRow smpC (l.drop i)) eSmp.ht hsz hg ?_ (row_at hg fun j u hu=>?_) ?_ (cellsOfRow_one eSmp.one _)
  · rw [hdl];simp only [Nat.min_def];split <;> omega
  · have hj:=(List.getElem?_eq_some_iff.1 hu).1
    rw [hdl] at hj;rw [hdrop,List.getElem?_drop,←h6,List.getElem?_take,if_pos (by omega)] at hu;exact hu
  · rw [hdl,h5];omega
 have hg1:W1.heap[g]?=some (.cells (cur.toList.take ((i+1) * 2)++cellsOfRow smpC (l.drop i)++cur.toList.drop ((i+1) * 2+(cellsOfRow smpC (l.drop i)).length)).toArray 118 (0,0)):=by rw [hW1];exact setRow_heap w.drew g _ _ _ _ hg
 have hB1:W1.heap[B]?=some (.cells #[.int .i64 x.1,.int .i64 x.2] 118 (0,0)):=by rw [hW1];exact (setRow_other w.drew g B _ hBg).trans hB
 generalize hcur1:(cur.toList.take ((i+1) * 2)++cellsOfRow smpC (l.drop i)++cur.toList.drop ((i+1) * 2+(cellsOfRow smpC (l.drop i)).length))=cur1 at hg1;have hc1l:cur1.length=c * 2:=by rw [←hcur1];simp only [List.length_append,List.length_take,List.length_drop,hcl,hdl];omega
 have hcp2:∀ty dc,(Builtin.copy_ #[43,43] ty #[.slice (some ⟨g,i * 2,none⟩) (l.length+1 - i) dc,.slice (some ⟨B,0,none⟩) 1 1]).run Tryz.prog W1=.ok (goInt (Nat.min 1 (l.length+1 - i))) (W1.setRow g (cur1.take (i * 2)++smpC x++cur1.drop (i * 2+(smpC x).length)).toArray):=fun ty dc=>by
  have:=run_copy_rowN (P:=Tryz.prog) W1 43 43 ty 118 2 g (i * 2) (l.length+1 - i) dc ⟨B,0,none⟩ 1 1 cur1.toArray _ (smpC x) eSmp.ht hsz hg1 (by rw [eSmp.len];simp only [Nat.min_def];split <;> omega) (row_at hB1 (fun j u hu=>by rw [Nat.zero_add];exact hu)) (by rw [eSmp.len,List.size_toArray,hc1l];omega) (eSmp.one x);exact this
 obtain ⟨W2,hW2⟩:∃W2,W2=W1.setRow g (cur1.take (i * 2)++smpC x++cur1.drop (i * 2+(smpC x).length)).toArray:=⟨_,rfl⟩;rw [←hW2] at hcp2;have HFIN:RowSays base w (.slice (some ⟨g,0,none⟩) l.length c) (l.take i++x::l.drop i) (.returned (.slice (some ⟨g,0,none⟩) (l.length+1) c)) W2:=by
  have hol:(l.take i++x::l.drop i).length=l.length+1:=by simp;omega
  refine ⟨some ⟨g,0,none⟩,c,by rw [hol],?_,?_,.inl rfl⟩
  · refine own_close (cur:=(cur1.take (i * 2)++smpC x++cur1.drop (i * 2+(smpC x).length)).toArray) ?_ h1 (by rw [hol];exact hroom) h4 ?_ ?_
    · rw [hW2];exact setRow_heap W1 g _ _ _ _ hg1
    · simp only [List.size_toArray,List.length_append,List.length_take,List.length_drop,hc1l,eSmp.len];omega
    · rw [hol,cellsOfRow_append,cellsOfRow_cons,smpRow_take,←h6,←hcur1,splice_ins cur.toList _ _ i l.length (eSmp.len x) hi (by rw [hcl];omega) hdl,List.take_take,Nat.min_eq_left (by omega)]
  · rw [hW2,hW1]
    exact grownBy_trans (grownBy_trans (grownBy_below (Below.drew jR)) (grown_setRow _ _ _)) (grown_setRow _ _ _)
 have HF:=jH HFIN;have HOV:=jH hov;have HC1:=jH hcp1;have HC2:=jH hcp2;clear HFIN hcp1 hcp2 hW2 hg1 hB1 hW1 hcur1 hc1l hdl hov hcl h6 hdrop hlen hzz hsz hg hB h;have hw1:IntKind.i64.wrap ((i:Int)+1)=(i:Int)+1:=by rw [IntKind.wrap_i64];omega
 have hb1:(0:Int)≤(i:Int)+1:=by omega
 have hii:((i:Int)+1).toNat=i+1:=by omega
 have hi0:(0:Int)≤(i:Int):=by omega
 have hne1:¬(i:Int)=(l.length:Int):=by omega
 have hne2:¬(c=i):=by omega
 have hne3:¬(c=i+1):=by omega
 have hb2:i≤l.length:=by omega
 have hb3:(i:Int)≤(l.length:Int)+1:=by omega
 have hb4:(i:Int)+1≤(l.length:Int)+1:=by omega
 have hov:=HOV.out
 go_enter Tryz.func195,Tryz.ntmps195
 go_wp2_with (simp only [hov])
 have hc1:=HC1.out;have hc2:=HC2.out;clear hov
 go_region
 go_wp2
 go_ret
 exact HF.out
theorem insert_grow (base g:Nat) (l:List Smp) (i:Nat) (x:Smp) (B:Nat) (w:World) (h:OwnL smpC 118 2 base w (.slice (some ⟨g,0,none⟩) l.length l.length) l) (hi:i<l.length) (hl:l.length≤1000000) (hB:w.heap[B]?=some (.cells #[.int .i64 x.1,.int .i64 x.2] 118 (0,0))) (hbase:base≤w.heap.size) :
 Calls Tryz.prog 195 #[.slice (some ⟨g,0,none⟩) l.length l.length,.int .i64 i,.slice (some ⟨B,0,none⟩) 1 1] w (RowSays base w (.slice (some ⟨g,0,none⟩) l.length l.length) (l.take i++x::l.drop i)):=by
 obtain ⟨cur,hg,h1,h3,h4,h5,h6⟩:=own_open h;have hglt:=(jL hg);have hBlt:=(jL hB);have hlen:=smpRow_len l;have hdrop:=smpRow_drop l i;have htake:=smpRow_take l i;obtain ⟨i0,hi0,hz0,hz1,hz2⟩:=info_parts eSmp.hi;have hsz:(Tryz.prog.info? 118).map (·.size)=some 2:=by rw [hi0];simp [hz1]
 have htl:(cellsOfRow smpC (l.take i)).length=i * 2:=by rw [smpRow_len,List.length_take,Nat.min_eq_left (by omega)]
 have hdl:(cellsOfRow smpC (l.drop i)).length=(l.length - i) * 2:=by rw [smpRow_len,List.length_drop]
 have hold:(Builtin.firstCells i0.size i (.slice (some ⟨g,0,none⟩) i l.length)).run Tryz.prog w.drew=.ok (cellsOfRow smpC (l.take i)).toArray w.drew:=by
  rw [hz1];refine run_firstCells_some w.drew 2 i ⟨g,0,none⟩ i l.length _ (by rw [htl]) (fun j u hu=>?_);have hj:=(List.getElem?_eq_some_iff.1 hu).1;rw [htl] at hj;rw [htake,←h6,List.take_take,List.getElem?_take,if_pos (by omega)] at hu;rw [add_at,Nat.zero_add]
  show w.cell? ⟨g,j,none⟩=some u
  simp only [World.cell?,hg]
  simpa using hu
 obtain ⟨K,hK⟩:∃K,K=grownCap w (i+(l.length+1 - i)) l.length 118:=⟨_,rfl⟩;obtain ⟨C1,hC1⟩:∃C1,C1=(cellsOfRow smpC (l.take i)).toArray++Builtin.zeroCells (Value.agg #[.int .i64 0,.int .i64 0]).cells (l.length+1 - i)++Builtin.zeroCells (Value.agg #[.int .i64 0,.int .i64 0]).cells (K - (i+(l.length+1 - i))):=⟨_,rfl⟩;have hrun:∀ty,(Builtin.append_ #[43,3] ty #[.slice (some ⟨g,0,none⟩) i l.length,.int .i64 ((l.length:Int)+1 - (i:Int))]).run Tryz.prog w=.ok (.slice (some ⟨w.heap.size,0,none⟩) (l.length+1) K) (w.drew.alloc (.cells C1 118)):=fun ty=>by
  have:=run_append_grow_zeros (P:=Tryz.prog) w 43 3 ty 118 i0 _ .i64 .i64 eSmp.ht Tryz.underlying3 hi0 hz0 (some ⟨g,0,none⟩) i l.length _ hold (l.length+1 - i) (by omega) (by omega) (by omega) (by omega) (by rw [hz2];exact growslice_fits (by omega) (by omega)) (by rw [hz2];omega);rw [show ((l.length+1 - i:Nat):Int)=(l.length:Int)+1 - (i:Int) by omega] at this;rw [this,hC1,hK]
  congr 2
  omega
 have hKge:l.length+1≤K∧K≤maxLen:=by
  rw [hK];exact ⟨by have:=grownCap_ge w (i+(l.length+1 - i)) l.length 118;omega,grownCap_le_maxLen w _ _ _ (by simp only [maxLen];omega)⟩
 have hC1l:C1.size=K * 2:=by
  rw [hC1];simp only [Array.size_append,List.size_toArray,htl,size_zeroCells]
  have:(Value.agg #[.int .i64 0,.int .i64 0]).cells.size=2:=rfl;rw [this];omega
 have hC1t:C1.toList.take (i * 2)=cellsOfRow smpC (l.take i):=by
  rw [hC1];simp only [Array.toList_append,List.append_assoc]
  rw [List.take_append_of_le_length (by simp [htl]),List.take_of_length_le (by simp [htl])]
 clear hK hC1 hold;obtain ⟨W0,hW0⟩:∃W0,W0=w.drew.alloc (.cells C1 118):=⟨_,rfl⟩;have hb0:jB w W0:=by rw [hW0];exact balloc (Below.drew jR) _
 have hG0:W0.heap[w.heap.size]?=some (.cells C1 118 (0,0)):=by rw [hW0];exact heap_alloc_new w.drew _
 rw [←hW0] at hrun;clear hW0;have hg0:=(hb0.block g hglt).trans hg;have hB0:=(hb0.block B hBlt).trans hB;have hcl:C1.toList.length=K * 2:=by simpa using hC1l
 obtain ⟨W1,hW1⟩:∃W1,W1=W0.setRow w.heap.size (C1.toList.take (i * 2)++smpC x++C1.toList.drop (i * 2+(smpC x).length)).toArray:=⟨_,rfl⟩;have hcp1:∀ty dc,(Builtin.copy_ #[43,43] ty #[.slice (some ⟨w.heap.size,i * 2,none⟩) (l.length+1 - i) dc,.slice (some ⟨B,0,none⟩) 1 1]).run Tryz.prog W0=.ok (goInt (Nat.min 1 (l.length+1 - i))) W1:=fun ty dc=>by
  rw [hW1];exact run_copy_rowN (P:=Tryz.prog) W0 43 43 ty 118 2 w.heap.size (i * 2) (l.length+1 - i) dc ⟨B,0,none⟩ 1 1 C1 _ (smpC x) eSmp.ht hsz hG0 (by rw [eSmp.len];simp only [Nat.min_def];split <;> omega) (row_at hB0 (fun j u hu=>by rw [Nat.zero_add];exact hu)) (by rw [eSmp.len,hC1l];omega) (eSmp.one x)
 have hG1:W1.heap[w.heap.size]?=some (.cells (C1.toList.take (i * 2)++smpC x++C1.toList.drop (i * 2+(smpC x).length)).toArray 118 (0,0)):=by rw [hW1];exact setRow_heap W0 _ _ _ _ _ hG0
 have hg1:W1.heap[g]?=some (.cells cur 118 (0,0)):=by rw [hW1];exact (setRow_other W0 _ g _ (by omega)).trans hg0
 have hgr1:w.grownBy W1 (some w.heap.size):=by rw [hW1];exact grownBy_trans (grownBy_below hb0) (grown_setRow _ _ _)
 clear hW1;generalize hC2:(C1.toList.take (i * 2)++smpC x++C1.toList.drop (i * 2+(smpC x).length))=C2 at hG1;have hC2l:C2.length=K * 2:=by rw [←hC2];simp only [List.length_append,List.length_take,List.length_drop,hcl,eSmp.len];omega
 obtain ⟨W2,hW2⟩:∃W2,W2=W1.drew.setRow w.heap.size (C2.take ((i+1) * 2)++cellsOfRow smpC (l.drop i)++C2.drop ((i+1) * 2+(cellsOfRow smpC (l.drop i)).length)).toArray:=⟨_,rfl⟩;have hcp2:∀ty dc sc,(Builtin.copy_ #[43,43] ty #[.slice (some ⟨w.heap.size,(i+1) * 2,none⟩) (l.length - i) dc,.slice (some ⟨g,i * 2,none⟩) (l.length - i) sc]).run Tryz.prog W1.drew=.ok (goInt (Nat.min (l.length - i) (l.length - i))) W2:=fun ty dc sc=>by
  rw [hW2];refine run_copy_rowN W1.drew _ _ ty 118 2 w.heap.size ((i+1) * 2) _ dc ⟨g,i * 2,none⟩ _ sc C2.toArray _ (cellsOfRow smpC (l.drop i)) eSmp.ht hsz hG1 ?_ (row_at (w:=W1.drew) hg1 fun j u hu=>?_) ?_ (cellsOfRow_one eSmp.one _)
  · rw [hdl];simp only [Nat.min_def];split <;> omega
  · have hj:=(List.getElem?_eq_some_iff.1 hu).1
    rw [hdl] at hj;rw [hdrop,List.getElem?_drop,←h6,List.getElem?_take,if_pos (by omega)] at hu;exact hu
  · rw [hdl,List.size_toArray,hC2l];omega
 have HFIN:RowSays base w (.slice (some ⟨g,0,none⟩) l.length l.length) (l.take i++x::l.drop i) (.returned (.slice (some ⟨w.heap.size,0,none⟩) (l.length+1) K)) W2:=by
  have hol:(l.take i++x::l.drop i).length=l.length+1:=by simp;omega
  refine ⟨some ⟨w.heap.size,0,none⟩,K,by rw [hol],?_,?_,.inr (fun r hr=>by injection hr with hr;exact Nat.le_of_eq hr)⟩
  · refine own_close (cur:=(C2.take ((i+1) * 2)++cellsOfRow smpC (l.drop i)++C2.drop ((i+1) * 2+(cellsOfRow smpC (l.drop i)).length)).toArray) ?_ hbase (by rw [hol];exact hKge.1) hKge.2 ?_ ?_
    · rw [hW2];exact setRow_heap W1.drew _ _ _ _ _ hG1
    · simp only [List.size_toArray,List.length_append,List.length_take,List.length_drop,hC2l,hdl];omega
    · have e1:C2.take ((i+1) * 2)=cellsOfRow smpC (l.take i)++smpC x:=by
       rw [←hC2,List.take_append_of_le_length (by simp only [List.length_append,List.length_take,hcl,eSmp.len];omega),hC1t,List.take_of_length_le (by simp only [List.length_append,htl,eSmp.len];omega)]
      rw [hol,cellsOfRow_append,cellsOfRow_cons,e1]
      show List.take _ (_++_++_++_)=_
      rw [List.take_append_of_le_length (by simp only [List.length_append,htl,hdl,eSmp.len];omega),List.take_of_length_le (by simp only [List.length_append,htl,hdl,eSmp.len];omega),List.append_assoc]
  · have hne:∀k,k<w.heap.size→W2.heap[k]?=w.heap[k]?:=fun k hk=>by
     rw [hW2];exact (setRow_other W1.drew _ k _ (by omega)).trans (hgr1.block k hk (fun e=>by injection e with e;omega))
    refine ⟨by rw [hW2];exact hgr1.os,by rw [hW2];exact hgr1.tape,by rw [hW2];exact hgr1.output,by rw [hW2,setRow_size];exact hgr1.size,fun k hk _=>hne k hk⟩
 have HF:=jH HFIN;have HR:=jH hrun;have HC1:=jH hcp1;have HC2:=jH hcp2;clear HFIN hcp1 hcp2 hW2 hG1 hg1 hgr1 hC2 hC2l hdl htl hrun hcl hC1t hC1l h6 hdrop htake hlen hsz hg hB h hG0 hg0 hB0 hb0 h5;have hw1:IntKind.i64.wrap ((i:Int)+1)=(i:Int)+1:=by rw [IntKind.wrap_i64];omega
 have hw2:IntKind.i64.wrap ((l.length:Int)+1 - (i:Int))=(l.length:Int)+1 - (i:Int):=by rw [IntKind.wrap_i64];omega
 have hb1:(0:Int)≤(i:Int)+1:=by omega
 have hii:((i:Int)+1).toNat=i+1:=by omega
 have hi0:(0:Int)≤(i:Int):=by omega
 have hne1:¬(i:Int)=(l.length:Int):=by omega
 have hne2:¬(l.length=i):=by omega
 have hne4:¬(l.length=0):=by omega
 obtain ⟨hk1,hk2⟩:=hKge;have hne3:¬(K=i+1):=by omega
 have hne5:¬(K=i):=by omega
 have hb2:i≤l.length:=by omega
 have hb3:(i:Int)≤(l.length:Int)+1:=by omega
 have hb4:(i:Int)+1≤(l.length:Int)+1:=by omega
 have hc1:=HC1.out;have hc2:=HC2.out
 go_enter Tryz.func195,Tryz.ntmps195
 go_wp2_with (at_builtin;refine Lib.wpList_append_run _ (by rfl) (.tmp 34) (.tmp 39) 43 3 (by rfl) _ _ (by rfl) (by rfl) _ _ (HR.out _) ?_)
 go_region
 go_wp2
 go_ret
 exact HF.out
theorem insert_any (base:Nat) (v:Value) (l:List Smp) (i:Nat) (x:Smp) (B:Nat) (w:World) (h:OwnL smpC 118 2 base w v l) (hi:i≤l.length) (hl:l.length≤1000000) (hB:w.heap[B]?=some (.cells #[.int .i64 x.1,.int .i64 x.2] 118 (0,0))) (hBv:v.ownBlock≠some B) (hbase:base≤w.heap.size) :
 Calls Tryz.prog 195 #[v,.int .i64 i,.slice (some ⟨B,0,none⟩) 1 1] w (RowSays base w v (l.take i++x::l.drop i)):=by
 by_cases he:i=l.length
 · subst he
   rw [List.take_length,List.drop_length];exact insert_end base v l x B w h hl hB hbase
 · have hlt:i<l.length:=by omega
   rcases Go.Joins.ownsRow_forms h with ⟨rfl,h0⟩|⟨g,c,rfl⟩
   · omega
   · have hcl:l.length≤c:=by obtain ⟨_,_,_,hc,_⟩:=own_open h;exact hc
     by_cases hroom:l.length+1≤c
     · exact insert_room base g c l i x B w h hlt hroom hl hB (fun e=>hBv (by rw [e];rfl))
     · obtain rfl:c=l.length:=by omega
       exact insert_grow base g l i x B w h hlt hl hB hbase
end
end Go.Proofs.YtkcdhaallnhhmaaGreat
