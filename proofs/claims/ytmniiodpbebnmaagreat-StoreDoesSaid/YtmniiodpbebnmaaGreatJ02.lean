/- Part 2 of the proof. -/
import Derived.Test.YtmniiodpbebnmaaGreatJ01
import Derived.OwnWalk
import Derived.Deep.AppendLies
import Derived.Shelf.SlicesQ.Reverse
import Derived.Shelf.GgSortFunc.RowK
import Derived.Sort.Grow
import Derived.Deep.RegionLaw
import Derived.BigRegion
import Derived.Maps.OwnSet
import Derived.Maps.RangeRun
import Derived.DeepKeys5
import Derived.ChangeMaps5
namespace Go.Proofs.YtmniiodpbebnmaaGreat
set_option linter.unusedSimpArgs false
set_option linter.unusedVariables false
set_option linter.unusedSectionVars false
set_option maxRecDepth 100000
set_option maxHeartbeats 16000000
section
open Go.RowKit Go.Lib
section
structure i0N {α:Type} (t e:TypeId) (n bytes:Nat) (z:Value) (f:α→List Value):Prop where
 ht:Tryz.prog.underlying t=some (.slice e)
 hi:(Tryz.prog.info? e).map (fun i=>(i.zero,i.size,i.bytes))=some (some z,n,bytes)
 hz:z.cells.size=n
 hn:0<n
 hb:bytes≤1024
 len:∀x,(f x).length=n
 one:∀x,∀u∈f x,u.oneCell'=true
section
variable {α:Type} {t e:TypeId} {n bytes:Nat} {z:Value} {f:α→List Value}
def b0Q (f:α→List Value) (e:TypeId) (n base:Nat) (w:World) (v:Value) (l:List α):Prop:=w.ownsRow base e n v l.length (a0G f l)
theorem b0Q.row (E:i0N t e n bytes z f) {base:Nat} {w:World} {v:Value} {l:List α} (h:b0Q f e n base w v l):a0O n f w v l:=a0O.own E.len h
theorem b0Q.below {base:Nat} {w w':World} {v:Value} {l:List α} (h:b0Q f e n base w v l) (hb:jB w w'):b0Q f e n base w' v l:=p0F h hb
theorem b0Q.lower {base base':Nat} {w:World} {v:Value} {l:List α} (h:b0Q f e n base w v l) (hb:base'≤base):b0Q f e n base' w v l:=w0F h hb
theorem b0Q.nil (base:Nat) (w:World):b0Q f e n base w (.slice none 0 0) ([]:List α):=⟨by simp [a0G],.inl ⟨rfl,rfl⟩⟩
theorem b0Q.form {base:Nat} {w:World} {v:Value} {l:List α} (h:b0Q f e n base w v l):∃A c,v=.slice A l.length c:=h0X h
theorem b0Q.lt {base:Nat} {w:World} {v:Value} {l:List α} (h:b0Q f e n base w v l) {r:Nat} (hr:v.ownBlock=some r):base≤r∧r<w.heap.size:=World.ownsRow.lt h r hr
theorem b0Q.kept {base:Nat} {w w':World} {v:Value} {l:List α} (h:b0Q f e n base w v l) (hb:∀r,v.ownBlock=some r→w'.heap[r]?=w.heap[r]?):b0Q f e n base w' v l:=by
 refine ⟨h.1,?_⟩
 rcases h.2 with hn|⟨g,cap,cur,rfl,hg,hbk,rest⟩
 · exact .inl hn
 · exact .inr ⟨g,cap,cur,rfl,hg,(hb g rfl).trans hbk,rest⟩
theorem a0O.form {w:World} {v:Value} {l:List α} (h:a0O n f w v l):∃A c,v=.slice A l.length c:=by
 obtain ⟨A,c,hv,_⟩:=h;exact ⟨A,c,hv⟩
theorem a0O.lit (w:World) (x:α) (cs:Array Value) (T:TypeId) (B:Nat) (hB:w.heap.size=B) (hcs:f x=cs.toList):a0O n f (w.alloc (.cells cs T)) (.slice (some ⟨B,0,none⟩) 1 1) [x]:=by
 subst hB;refine ⟨some ⟨w.heap.size,0,none⟩,1,rfl,Nat.le_refl _,fun _=>⟨w.heap.size,0,rfl,by simp,fun k y hk j u hu=>?_⟩⟩;obtain rfl:k=0:=by
  have:=(List.getElem?_eq_some_iff.1 hk).1;simp at this;omega
 obtain rfl:x=y:=by simpa using hk
 rw [hcs] at hu;rw [Nat.zero_mul,Nat.add_zero,Nat.zero_add,(i0K w cs T).1 j]
 simpa using hu
theorem b0Q.lit0 (base:Nat) (w:World) (T:TypeId) (B:Nat) (hB:w.heap.size=B) (hb:base≤B):b0Q f T n base (w.alloc (.cells #[] T)) (.slice (some ⟨B,0,none⟩) 0 0) ([]:List α):=by
 subst hB;exact World.ownsRow_made w #[] 0 hb (Nat.zero_le _) (by simp)
theorem j0V {P:Program} {w:World} (base:Nat) (t ty e:TypeId) (i:TypeInfo) (size c:Nat) (ht:P.underlying t=some (.slice e)) (hi:P.info? e=some i)
    (v:Value) (n:Nat) (xs:List Value) (hown:w.ownsRow base e size v n xs) :
    (Builtin.append_ #[t,t] ty #[v,.slice none 0 c]).run P w=.ok v w:=by
  rcases hown.2 with ⟨rfl,rfl⟩|⟨g,cap,cur,rfl,_,_,hnc,_⟩
  · simp [Builtin.append_,run_underlying ht,sizeOf,typeInfo,hi,Builtin.lenOf,Builtin.firstCells]
  · simp [Builtin.append_,run_underlying ht,sizeOf,typeInfo,hi,Builtin.lenOf,Builtin.firstCells,hnc,storeCells]
theorem o0H (E:i0N t e n bytes z f) (w:World) (ty:TypeId) (base:Nat) (l m:List α) (v v2:Value)
    (hown:b0Q f e n base w v l) (hm:a0O n f w v2 m) (hlen:l.length+m.length≤100000000) (hbase:base≤w.heap.size) :
    ∃A c w',(Builtin.append_ #[t,t] ty #[v,v2]).run Tryz.prog w=.ok (.slice A (l++m).length c) w'∧b0Q f e n base w' (.slice A (l++m).length c) (l++m)∧w.grownBy w' v.ownBlock∧((Value.slice A (l++m).length c).ownBlock=v.ownBlock∨(Value.slice A (l++m).length c).ownBlock=some w.heap.size):=by
  obtain ⟨i0,hi0,hz0,hz1,hz2⟩:=info_parts E.hi;have hby:=E.hb;obtain ⟨A2,c2,rfl,hc2,hr⟩:=hm
  cases A2 with
  | none =>
    have h0:m.length=0:=by
     rcases Nat.eq_zero_or_pos m.length with h|h
     · exact h
     · obtain ⟨_,_,hA,_⟩:=hr h;cases hA
    obtain rfl:m=[]:=List.eq_nil_of_length_eq_zero h0;obtain ⟨A,c,rfl⟩:=h0X hown;refine ⟨A,c,w,?_,?_,⟨rfl,rfl,rfl,Nat.le_refl _,fun _ _ _=>rfl⟩,.inl ?_⟩
    · rw [List.append_nil]
      exact j0V (P:=Tryz.prog) (w:=w) base t ty e i0 n c2 E.ht hi0 _ _ _ hown
    · rw [List.append_nil];exact hown
    · rw [List.append_nil]
  | some ad =>
    obtain ⟨v',w',hrun,h2,h3,_,h5⟩:=run_append_own_at (P:=Tryz.prog) w base t ty e i0 z n bytes E.ht hi0 hz0 hz1 hz2 E.hz E.hn v l.length (a0G f l) hown ad m.length c2 (a0G f m) (b0S E.len m) (fun j u hu=>by
     obtain ⟨y,hy,hyu⟩:=i0J E.hn E.len m j u hu;have hml:0<m.length:=Nat.lt_of_le_of_lt (Nat.zero_le _) (List.getElem?_eq_some_iff.1 hy).1;obtain ⟨b,o',hA,hlt,hat⟩:=hr hml;injection hA with hA
     subst hA;have h:=hat (j / n) y hy (j % n) u hyu;rw [m0X,←h];have hd:j / n * n+j % n=j:=by rw [Nat.mul_comm];exact Nat.div_add_mod j n
     rw [Nat.add_assoc,hd]) (f0L E.one m) (by simp only [maxLen];omega) (Nat.le_trans (Nat.mul_le_mul (by omega:l.length+m.length≤100000000) hby) (by omega)) hbase
    have hlen2:(l++m).length=l.length+m.length:=by simp
    have h2':b0Q f e n base w' v' (l++m):=by
     unfold b0Q;rw [hlen2,c0M];exact h2
    obtain ⟨A,c,rfl⟩:=h0X h2';exact ⟨A,c,w',hrun,h2',h3,h5⟩
theorem a0N (E:i0N t e n bytes z f) {w:World} {ops:Array Oper} {rest:List Oper} {o:Oper} {a:Act} {Q:Exit→Act→World→Prop} (hgd:o.guard=none) {s x:Operand}
    (ho:o.op=.call { callee:=.builtin .append,args:=#[s,x],argTypes:=#[t,t] }) (base:Nat) (l m:List α) (v v2:Value) (hs:a.eval s=v) (hx:a.eval x=v2)
    (hown:b0Q f e n base w v l) (hm:a0O n f w v2 m) (hlen:l.length+m.length≤100000000) (hbase:base≤w.heap.size)
    (h:∀(out:List α) A c w',out=l++m→b0Q f e n base w' (.slice A out.length c) out→w.grownBy w' v.ownBlock→((Value.slice A out.length c).ownBlock=v.ownBlock∨(Value.slice A out.length c).ownBlock=some w.heap.size)→wpList Tryz.prog ops Q rest (a.put o.dst (.slice A out.length c)) w') :
    wpList Tryz.prog ops Q (o::rest) a w:=by
  refine wpList_plain hgd fun K hK=>?_
  obtain ⟨A,c,w',hrun,h2,h3,h4⟩:=o0H E w o.type base l m v v2 hown hm hlen hbase;unfold Oper.wp;simp [execOp,ho,resolve,invoke,builtin,hs,hx,hrun,Result.andThen]
  have h6:=hK _ _ (h _ A c w' rfl h2 h3 h4);rw [List.length_append] at h6;exact h6
theorem d0B (E:i0N t e n bytes z f) {w:World} {ops:Array Oper} {o:Oper} {a:Act} {K:Act→World→Prop} {Q:Exit→Act→World→Prop} {X:Prop} (hgd:o.guard=none) (s x:Operand)
    (ho:o.op=.call { callee:=.builtin .append,args:=#[s,x],argTypes:=#[t,t] }) (base:Nat) (l m:List α) (v v2:Value) (hs:a.eval s=v) (hx:a.eval x=v2)
    (hown:b0Q f e n base w v l) (hm:a0O n f w v2 m) (hlen:l.length+m.length≤100000000) (hbase:base≤w.heap.size)
    (h:∀(out:List α) A c w',out=l++m→b0Q f e n base w' (.slice A out.length c) out→w.grownBy w' v.ownBlock→((Value.slice A out.length c).ownBlock=v.ownBlock∨(Value.slice A out.length c).ownBlock=some w.heap.size)→K (a.put o.dst (.slice A out.length c)) w') :
    if Region.wanted o (yielded ops a.tmps)=true then Oper.wp Tryz.prog o a w K Q else X:=by
  have hw:Region.wanted o (yielded ops a.tmps)=true:=by simp [Region.wanted,hgd]
  rw [if_pos hw];obtain ⟨A,c,w',hrun,h2,h3,h4⟩:=o0H E w o.type base l m v v2 hown hm hlen hbase;unfold Oper.wp;simp [execOp,ho,resolve,invoke,builtin,hs,hx,hrun,Result.andThen]
  have h6:=h _ A c w' rfl h2 h3 h4;rw [List.length_append] at h6;exact h6
theorem a0Z {base:Nat} {w w' W:World} {v:Value} {l:List α} (hg:w.grownBy w' v.ownBlock) (hown:b0Q f e n base W v l) (hb:base≤w.heap.size):Below base w w' :=
 c0H hg hb (fun r hr=>(hown.lt hr).1)
theorem s0U (E:i0N t e n bytes z f) {w:World} {A:Option Addr} {c:Nat} {l:List α} (h:a0O n f w (.slice A l.length c) l) (a:Nat) (ha:a≤l.length) :
 ∃(m:List α) (A2:Option Addr) (c2:Nat),m=l.drop a∧(∀w':World,(Instr.sliceAt t (.slice A l.length c) (some (.int .i64 a)) none none).run Tryz.prog w'=.ok (.slice A2 m.length c2) w')∧a0O n f w (.slice A2 m.length c2) m:=by
 obtain ⟨i0,hi0,hz0,hz1,hz2⟩:=info_parts E.hi;have hp:=a0O.part h (i:=a) (j:=l.length) ha (Nat.le_refl _);rw [List.take_length] at hp;have hlen:(l.drop a).length=l.length - a:=by simp
 have hel:Tryz.prog.elem t=e:=by simp [Program.elem,E.ht]
 refine ⟨l.drop a,_,_,rfl,fun w'=>?_,by rw [hlen];exact hp⟩;rw [run_sliceAt_slice _ t _ _ _ _ (by rw [hel];exact E.ht),run_slice_l _ t A l.length c (by rw [hel];exact E.ht) _ _ (by omega) (by omega),hel];simp [sizeOf,typeInfo,hi0,hz1,Result.andThen,sliced,hlen]
theorem row_to (E:i0N t e n bytes z f) {w:World} {A:Option Addr} {c:Nat} {l:List α} (h:a0O n f w (.slice A l.length c) l) (a:Nat) (ha:a≤l.length) :
 ∃(m:List α) (A2:Option Addr) (c2:Nat),m=l.take a∧(∀w':World,(Instr.sliceAt t (.slice A l.length c) none (some (.int .i64 a)) none).run Tryz.prog w'=.ok (.slice A2 m.length c2) w')∧a0O n f w (.slice A2 m.length c2) m:=by
 obtain ⟨i0,hi0,hz0,hz1,hz2⟩:=info_parts E.hi;have hcl:l.length≤c:=by obtain ⟨_,_,hv,hc,_⟩:=h;injection hv with _ _ e3;omega
 have hp:=a0O.part h (i:=0) (j:=a) (Nat.zero_le _) ha;rw [List.drop_zero,Nat.zero_mul,Nat.sub_zero,Nat.sub_zero] at hp;have hlen:(l.take a).length=a:=by simp;omega
 have hel:Tryz.prog.elem t=e:=by simp [Program.elem,E.ht]
 refine ⟨l.take a,_,_,rfl,fun w'=>?_,by rw [hlen];exact hp⟩;rw [run_sliceAt_slice _ t _ _ _ _ (by rw [hel];exact E.ht),run_slice_h _ t A l.length c (by rw [hel];exact E.ht) _ _ (by omega) (by omega),hel];simp [sizeOf,typeInfo,hi0,hz1,Result.andThen,sliced,hlen]
end
end
end
section
open Go.RowKit Go.Lib Go.ChangeShapes Go.WideShapes Go.Joins
section
theorem r1G:Tryz.prog.cellsOf 74=2:=by kernel_rfl
theorem cl_u64:Tryz.prog.cellsOf 72=1:=by kernel_rfl
def m0E (p:Ky):List Value:=[.int .u64 p.1,.int .u64 p.2]
section
variable {H:Type} {enc:TypeId × Value→H} {w:World} {base:Nat} {spare:Nat→Bool} {held:Bool}
end
end
end
section
open Go.Shelf

end
section
open Go.RowKit Go.Lib Go.Sort
section
section
variable {α:Type} [Inhabited α] {f:α→List Value} {n:Nat}
theorem c1W (hf:∀x,(f x).length=n) (hn:0<n) (l:List α):flatK f n l.toArray=(a0G f l).toArray:=by
 refine ext_get! (by simp [b0S hf]) fun t ht=>?_
 have ht':t<l.length * n:=by simpa using ht
 rw [get_flatK _ _ _ t (by simpa using ht')];have hk:t / n<l.length:=by rw [Nat.div_lt_iff_lt_mul hn];exact ht'
 have hm:t % n<(f l[t / n]).length:=by rw [hf];exact Nat.mod_lt _ hn
 have hlt:t<(a0G f l).length:=by rw [b0S hf];exact ht'
 have h:=i0G hf l (t / n) l[t / n] (List.getElem?_eq_getElem hk) (t % n) _ (List.getElem?_eq_getElem hm);rw [show t / n * n+t % n=t by rw [Nat.mul_comm];exact Nat.div_add_mod t n] at h;have e1:(a0G f l).toArray[t]! = (f l[t / n])[t % n]:=by
  rw [getElem!_pos _ t (by simpa using hlt)];have:=(List.getElem?_eq_some_iff.1 h).2
  simpa using this
 rw [e1];have e2:l.toArray[t / n]! = l[t / n]:=by rw [getElem!_pos _ _ (by simpa using hk)];simp
 rw [e2];exact getElem!_pos (f l[t / n]) (t % n) hm
theorem r0D (hf:∀x,(f x).length=n) (hn:0<n) {w:World} {base g cap:Nat} {e:TypeId} {l:List α} (h:w.ownsRow base e n (.slice (some ⟨g,0,none⟩) l.length cap) l.length (a0G f l)) :
 HoldsK f n w g 0 l.toArray:=by
 unfold HoldsK;rw [c1W hf hn];intro j hj;have hj':j<(a0G f l).length:=by simpa using hj
 have hjl:=hj';rw [b0S hf] at hjl;have hc:=h.cellAt j hjl
 rcases h.2 with ⟨hv,_⟩|⟨g',cap',cur,hv,_,hg,_⟩
 · cases hv
 · injection hv with e1 e2 e3
   injection e1 with e1
   injection e1 with e1
   subst e1;refine ⟨?_,Go.Joins.unfrozen_of_block hg (0+j)⟩;rw [Nat.zero_add,hc,List.getElem?_eq_getElem hj',getElem!_pos _ j hj];simp
theorem o1V (F:List Value) (c:Array Value) (h:F.length≤c.size):(putCells id 0 F.toArray c).toList.take F.length=F:=by
 apply List.ext_getElem?
 intro i;rw [List.getElem?_take]
 by_cases hi:i<F.length
 · rw [if_pos hi,Array.getElem?_toList,putCells,Array.getElem?_mapIdx,Array.getElem?_eq_getElem (by omega),Option.map_some,if_pos ⟨Nat.zero_le _,by simpa using hi⟩,Nat.sub_zero,List.getElem?_eq_getElem hi]
   simp [hi]
 · rw [if_neg hi,List.getElem?_eq_none (by omega)]
theorem z0S {w:World} {g:Nat} {cur:Array Value} {e:TypeId} {fr:Nat × Nat} (F:Array Value) (hb:w.heap[g]?=some (.cells cur e fr)) :
 (putRow id w g 0 F).heap[g]?=some (.cells (putCells id 0 F cur) e fr):=by
 simp only [putRow,mapBlock,Array.getElem?_modify,if_pos]
 rw [hb];rfl
theorem w0Y {w:World} {g k:Nat} (F:Array Value) (h:k≠g):(putRow id w g 0 F).heap[k]?=w.heap[k]?:=by
 simp only [putRow,mapBlock,Array.getElem?_modify,if_neg (Ne.symm h)]
theorem p0I (hf:∀x,(f x).length=n) (hn:0<n) {w:World} {base g cap k:Nat} {e:TypeId} {l m:List α} (h:w.ownsRow base e n (.slice (some ⟨g,0,none⟩) l.length cap) l.length (a0G f l)) (hm:m.length=l.length) (os:Array Obj) :
 (grow (putRowK f n (Sort.ahead w k) g 0 m.toArray) os).ownsRow base e n (.slice (some ⟨g,0,none⟩) m.length cap) m.length (a0G f m)∧w.grownBy (grow (putRowK f n (Sort.ahead w k) g 0 m.toArray) os) (some g):=by
 rcases h.2 with ⟨hv,_⟩|⟨g',cap',cur,hv,hbase,hg,h1,h2,h3,h4⟩
 · cases hv
 · injection hv with e1 e2 e3
   injection e1 with e1
   injection e1 with e1
   subst e1 e3;have hglt:g<w.heap.size:=(jL hg);unfold putRowK;rw [c1W hf hn];have hsz:(putRow id (Sort.ahead w k) g 0 (a0G f m).toArray).heap.size=w.heap.size:=by simp [putRow,mapBlock,Sort.ahead]
   have hblk:(grow (putRow id (Sort.ahead w k) g 0 (a0G f m).toArray) os).heap[g]?=some (.cells (putCells id 0 (a0G f m).toArray cur) e (0,0)):=by
    rw [heap_grow_old _ _ (by rw [hsz];exact hglt)];exact z0S (w:=Sort.ahead w k) _ hg
   have hle:(a0G f m).length≤cur.size:=by
    rw [b0S hf,hm,h3];exact Nat.mul_le_mul_right _ h1
   refine ⟨⟨b0S hf m,.inr ⟨g,cap,_,rfl,hbase,hblk,by omega,h2,by simp [putCells,h3],?_⟩⟩,⟨rfl,rfl,rfl,by simp only [grow,Array.size_append,hsz];omega,fun j hj hne=>?_⟩⟩
   · have:=o1V (a0G f m) cur hle
     rwa [b0S hf] at this
   · rw [heap_grow_old _ _ (by rw [hsz];exact hj)]
     exact w0Y (w:=Sort.ahead w k) _ (fun e=>hne (by rw [e]))
end
end
end
section
open Go.RowKit Go.Lib
theorem n1Y (x:Ky):∀u∈m0E x,u.oneCell'=true:=by
 intro u hu;simp only [m0E,List.mem_cons,List.not_mem_nil,or_false] at hu
 rcases hu with rfl|rfl <;> rfl
theorem c1Y (w:World) (cs:Array Value) (T B:Nat) (hB:w.heap.size=B):∀j u,cs.toList[j]?=some u→(w.alloc (.cells cs T)).cell? ((⟨B,0,none⟩:Addr).add j)=some u:=by
 subst hB;exact World.news_of_block (heap_alloc_new _ _)
end
section
open Go.RowKit Go.Lib
open Go.Maps (Keyed)
open Go.ChangeMaps (setBlock modify_eq_set map_eraseIdx)
section
theorem f0Z {α:Type}:∀{l:List α},l.Nodup→∀{i j:Nat} {x:α},l[i]?=some x→l[j]?=some x→i=j
  | [],_,i,j,x,h,_=>by simp at h
  | a::l,hn,0,0,x,_,_=>rfl
  | a::l,hn,0,j+1,x,h,k=>by
    rw [List.nodup_cons] at hn;simp at h k
    exact absurd (h ▸ List.mem_of_getElem? k) hn.1
  | a::l,hn,i+1,0,x,h,k=>by
    rw [List.nodup_cons] at hn;simp at h k
    exact absurd (k ▸ List.mem_of_getElem? h) hn.1
  | a::l,hn,i+1,j+1,x,h,k=>by
    rw [List.nodup_cons] at hn;simp at h k
    rw [f0Z hn.2 h k]
def b0N {α β:Type} (K:α→Value) (V:β→Value) (w:World) (b:Nat) (es:List (α × β)):Prop :=
 ∃ents clock,w.heap[b]?=some (.map ents clock)∧ents.toList.map (fun e=>(e.key,e.val))=es.map (fun p=>(K p.1,V p.2))∧(ents.toList.map (·.born)).Nodup∧(∀e∈ents.toList,e.born<clock)∧(es.map (·.1)).Nodup
section
variable {α β:Type} [DecidableEq α]
def a0V (es:List (α × β)) (x:α):Option β:=(es.find? (fun p=>p.1=x)).map (·.2)
def g0A (es:List (α × β)) (x:α):Bool:=es.any (fun p=>p.1=x)
def f0A (es:List (α × β)) (x:α) (v:β):List (α × β):=if g0A es x then es.map (fun p=>if p.1=x then (x,v) else p) else es++[(x,v)]
def u0D (es:List (α × β)) (x:α):List (α × β):=es.filter (fun p=>¬p.1=x)
theorem u0H (es:List (α × β)) (x:α) (v:β):(f0A es x v).map (·.1)=if g0A es x then es.map (·.1) else es.map (·.1)++[x]:=by
 unfold f0A
 split
 · rw [List.map_map]
   refine List.map_congr_left (fun p _=>?_);simp only [Function.comp]
   split
   · rename_i h;exact h.symm
   · rfl
 · simp
theorem d0W (es:List (α × β)) (x:α):g0A es x=true ↔ x∈es.map (·.1):=by
 simp [g0A]
theorem m0N {es:List (α × β)} (h:(es.map (·.1)).Nodup) (x:α) (v:β):((f0A es x v).map (·.1)).Nodup:=by
 rw [u0H]
 split
 · exact h
 · rename_i hn
   have:x∉es.map (·.1):=fun hx=>hn ((d0W es x).2 hx)
   rw [List.nodup_append];refine ⟨h,by simp,fun a ha b hb=>?_⟩;rw [List.mem_singleton.1 hb];exact fun e=>this (e ▸ ha)
theorem s0A {es:List (α × β)} (h:(es.map (·.1)).Nodup) (x:α):((u0D es x).map (·.1)).Nodup :=
 h.sublist (List.Sublist.map _ List.filter_sublist)
theorem q0Y {es:List (α × β)} {x:α} (h:g0A es x=false):a0V es x=none:=by
 simp only [a0V,Option.map_eq_none_iff,List.find?_eq_none]
 intro p hp;simp only [g0A,List.any_eq_false] at h
 exact h p hp
theorem e0M {es:List (α × β)} {x:α} (h:g0A es x=true):∃v,a0V es x=some v∧(x,v)∈es:=by
 simp only [g0A,List.any_eq_true,decide_eq_true_eq] at h
 obtain ⟨p,hp,rfl⟩:=h
 cases hf:es.find? (fun q=>q.1=p.1) with
 | none =>
   rw [List.find?_eq_none] at hf;exact absurd (decide_eq_true rfl) (hf p hp)
 | some q =>
   have h1:=List.find?_some hf;have h2:=List.mem_of_find?_eq_some hf;simp at h1
   exact ⟨q.2,by simp [a0V,hf],by rw [←h1];exact h2⟩
end
section
variable {α β:Type} [DecidableEq α] {K:α→Value} {V:β→Value} {P:Program} {k t e:TypeId} {w:World} {b:Nat} {es:List (α × β)}
theorem b0N.lt (h:b0N K V w b es):b<w.heap.size:=by
 obtain ⟨ents,clock,hb,_⟩:=h;exact (jL hb)
theorem b0N.block {w':World} (h:b0N K V w b es) (hb:w'.heap[b]?=w.heap[b]?):b0N K V w' b es:=by
 obtain ⟨ents,clock,h1,h2⟩:=h;exact ⟨ents,clock,hb.trans h1,h2⟩
theorem b0N.below {w':World} (h:b0N K V w b es) (hb:jB w w'):b0N K V w' b es:=h.block (hb.block b h.lt)
theorem b0N.made (w:World):b0N K V (w.alloc (.map #[] 0)) w.heap.size ([]:List (α × β)) :=
 ⟨#[],0,(MapKept.heap_alloc w _).1,rfl,List.nodup_nil,fun _ h=>by simp at h,List.nodup_nil⟩
structure r0A (P:Program) (k:TypeId) (K:α→Value):Prop where
 law:Keyed P k
 key:∀x,∃l,keyOf P k (K x)=some l
 inj:∀x y,K x=K y→x=y
theorem t0Z {ents:List MapEntry} (hm:ents.map (fun e=>(e.key,e.val))=es.map (fun p=>(K p.1,V p.2))) {j:Nat} {e0:MapEntry} (h:ents[j]?=some e0):∃p,es[j]?=some p∧e0.key=K p.1∧e0.val=V p.2:=by
 have:=congrArg (·[j]?) hm;simp only [List.getElem?_map,h,Option.map_some] at this
 cases hp:es[j]? with
 | none=>rw [hp] at this;cases this
 | some p =>
   rw [hp] at this;simp only [Option.map_some,Option.some.injEq,Prod.mk.injEq] at this
   exact ⟨p,rfl,this.1,this.2⟩
theorem c1B {ents:List MapEntry} (hm:ents.map (fun e=>(e.key,e.val))=es.map (fun p=>(K p.1,V p.2))) {e0:MapEntry} (h:e0∈ents):∃p∈es,e0.key=K p.1∧e0.val=V p.2:=by
 obtain ⟨j,hj⟩:=List.getElem?_of_mem h;obtain ⟨p,h1,h2⟩:=t0Z hm hj;exact ⟨p,List.mem_of_getElem? h1,h2⟩
theorem b0N.find (B:r0A P k K) {ents:Array MapEntry} (hm:ents.toList.map (fun e=>(e.key,e.val))=es.map (fun p=>(K p.1,V p.2))) (hn:(es.map (·.1)).Nodup) (w:World) (x:α) :
 ((Instr.findKey k (K x) ents.toList).run P w=.ok none w∧g0A es x=false) ∨
 ∃j e0 v,(Instr.findKey k (K x) ents.toList).run P w=.ok (some (j,V v)) w∧ents.toList[j]?=some e0∧e0.key=K x∧es[j]?=some (x,v)∧a0V es x=some v∧g0A es x=true:=by
 obtain ⟨l,hl⟩:=B.key x
 rcases B.law.find w hl ents.toList (fun e he=>by obtain ⟨p,_,h1,_⟩:=c1B hm he;rw [h1];exact B.key p.1) with ⟨h1,h2⟩|⟨j,e0,h1,h2,h3⟩
 · refine .inl ⟨h1,?_⟩
   rw [g0A,List.any_eq_false];intro p hp;simp only [decide_eq_true_eq]
   rintro rfl;obtain ⟨j,hj⟩:=List.getElem?_of_mem hp;have:=congrArg (·[j]?) hm;simp only [List.getElem?_map,hj,Option.map_some] at this
   cases he:ents.toList[j]? with
   | none=>rw [he] at this;cases this
   | some e0 =>
     rw [he] at this;simp only [Option.map_some,Option.some.injEq,Prod.mk.injEq] at this
     exact h2 e0 (List.mem_of_getElem? he) this.1
 · obtain ⟨p,hp,hk,hv⟩:=t0Z hm h2
   have hpx:p.1=x:=B.inj _ _ (hk.symm.trans h3);obtain ⟨x',v⟩:=p;simp only at hpx hv
   subst hpx;have hh:g0A es x'=true:=by rw [d0W];exact List.mem_map.2 ⟨_,List.mem_of_getElem? hp,rfl⟩
   obtain ⟨v',hf,hmem⟩:=e0M hh;refine .inr ⟨j,e0,v,by rw [h1,hv],h2,h3,hp,?_,hh⟩;rw [hf];obtain ⟨i,hi⟩:=List.getElem?_of_mem hmem;have hi1:(es.map (·.1))[i]?=some x':=by simp [hi]
   have hj1:(es.map (·.1))[j]?=some x':=by simp [hp]
   have hij:i=j:=f0Z hn hi1 hj1;subst hij;rw [hp] at hi;injection hi with hi
   injection hi with _ hi
   rw [hi]
theorem b0N.look (h:b0N K V w b es) (B:r0A P k K) (ht:P.underlying t=some (.map k e)) {z:Value} (hz:(zeroValue e).run P w=.ok z w) (c:Bool) (x:α) :
 (Instr.lookup t (.map (some b)) (K x) c).run P w=.ok (if c then .tuple #[((a0V es x).map V).getD z,.bool (g0A es x)] else ((a0V es x).map V).getD z) w:=by
 obtain ⟨ents,clock,hb,hm,_,_,hn⟩:=h;obtain ⟨l,hl⟩:=B.key x
 rcases b0N.find B hm hn w x with ⟨h1,h2⟩|⟨j,e0,v,h1,_,_,_,h5,h6⟩
 · simp [Instr.lookup,run_underlying ht,MapKept.run_getObj_map hb,B.law.check w _ hl,h1,hz,q0Y h2,h2,Result.andThen]
 · simp [Instr.lookup,run_underlying ht,MapKept.run_getObj_map hb,B.law.check w _ hl,h1,h5,h6,Result.andThen]
theorem r0T {γ δ:Type} (f:γ→δ) (l:List γ) (j:Nat) (y:γ):(l.set j y).map f=(l.map f).set j (f y):=by simp
theorem b0N.store (h:b0N K V w b es) (B:r0A P k K) (ht:P.underlying t=some (.map k e)) (x:α) (v:β) :
 ∃o,(Instr.mapUpdate t (.map (some b)) (K x) (V v)).run P w=.ok () (setBlock w b o)∧b0N K V (setBlock w b o) b (f0A es x v):=by
 have hlt:=h.lt;obtain ⟨ents,clock,hb,hm,hbn,hcl,hn⟩:=h;obtain ⟨l,hl⟩:=B.key x;have hself:∀o,(setBlock w b o).heap[b]?=some o:=fun o=>by simp [setBlock,hlt]
 rcases b0N.find B hm hn w x with ⟨h1,h2⟩|⟨j,e0,v0,h1,h3,h4,h5,_,h6⟩
 · refine ⟨.map (ents.push ⟨K x,V v,clock⟩) (clock+1),?_,_,_,hself _,?_,?_,?_,m0N hn x v⟩
   · simp [Instr.mapUpdate,run_underlying ht,MapKept.run_getObj_map hb,B.law.check w false hl,h1,MapKept.run_setObj_map _ hb,Result.andThen,setBlock]
   · rw [f0A,if_neg (by rw [h2];simp),Array.toList_push,List.map_append,hm,List.map_append]
     rfl
   · rw [Array.toList_push,List.map_append,List.nodup_append]
     refine ⟨hbn,by simp,fun a ha c hc=>?_⟩;simp only [List.map_cons,List.map_nil,List.mem_singleton] at hc
     obtain ⟨e1,he1,rfl⟩:=List.mem_map.1 ha;have:=hcl e1 he1;omega
   · intro e1 he1
     rw [Array.toList_push,List.mem_append,List.mem_singleton] at he1
     rcases he1 with he1|rfl
     · have:=hcl e1 he1;omega
     · exact Nat.lt_succ_self _
 · have hjl:j<ents.toList.length:=(List.getElem?_eq_some_iff.1 h3).1
   have hj:ents[j]?=some e0:=by simpa using h3
   have hlist:(ents.modify j (fun e'=>{ e' with key:=K x,val:=V v })).toList=ents.toList.set j { e0 with key:=K x,val:=V v }:=by rw [Array.toList_modify,modify_eq_set _ _ _ _ h3]
   refine ⟨.map (ents.modify j (fun e'=>{ e' with key:=K x,val:=V v })) clock,?_,_,_,hself _,?_,?_,?_,m0N hn x v⟩
   · simp [Instr.mapUpdate,run_underlying ht,MapKept.run_getObj_map hb,B.law.check w false hl,h1,hj,h4,B.law.stays w hl,MapKept.run_setObj_map _ hb,Result.andThen,setBlock]
   · rw [hlist,r0T,hm,f0A,if_pos h6]
     apply List.ext_getElem?
     intro i;simp only [List.getElem?_set,List.getElem?_map,List.length_map]
     by_cases hij:j=i
     · subst hij
       have hjl':=(List.getElem?_eq_some_iff.1 h5).1;rw [if_pos rfl,if_pos hjl',h5];simp
     · rw [if_neg hij]
       cases hi:es[i]? with
       | none=>rfl
       | some q =>
         have hne:¬q.1=x:=by
          intro hq;have hi1:(es.map (·.1))[i]?=some x:=by simp [hi,hq]
          have hj1:(es.map (·.1))[j]?=some x:=by simp [h5]
          exact hij (f0Z hn hj1 hi1)
         simp [hne]
   · rw [hlist,r0T]
     have:(ents.toList.map (·.born)).set j e0.born=ents.toList.map (·.born):=by
      apply List.ext_getElem?
      intro i;rw [List.getElem?_set]
      split
      · rename_i h
        subst h;rw [if_pos (by simpa using hjl),List.getElem?_map,h3];rfl
      · rfl
     simp only [this]
     exact hbn
   · intro e1 he1
     rw [hlist] at he1
     rcases List.mem_or_eq_of_mem_set he1 with he1|rfl
     · exact hcl e1 he1
     · exact hcl e0 (List.mem_of_getElem? h3)
theorem n0E {es:List (α × β)} (hn:(es.map (·.1)).Nodup) {x:α} {v:β} {j:Nat} (h:es[j]?=some (x,v)):u0D es x=es.eraseIdx j:=by
 induction es generalizing j with
 | nil=>simp at h
 | cons p es ih =>
   rw [List.map_cons,List.nodup_cons] at hn
   cases j with
   | zero =>
     simp at h
     subst h;rw [u0D,List.filter_cons_of_neg (by simp),List.eraseIdx_zero,List.tail_cons];refine List.filter_eq_self.2 (fun q hq=>?_);simp only [decide_eq_true_eq]
     intro e1;exact hn.1 (List.mem_map.2 ⟨q,hq,e1⟩)
   | succ j =>
     simp at h
     have hpx:¬p.1=x:=fun e1=>hn.1 (List.mem_map.2 ⟨_,List.mem_of_getElem? h,e1.symm⟩)
     rw [u0D,List.filter_cons_of_pos (by simpa using hpx),List.eraseIdx_cons_succ];exact congrArg (p::·) (ih hn.2 h)
theorem b0N.drop (h:b0N K V w b es) (B:r0A P k K) (ht:P.underlying t=some (.map k e)) (x:α) (ty:TypeId) :
 ∃o,(Builtin.delete_ #[t,k] ty #[.map (some b),K x]).run P w=.ok (.tuple #[]) (setBlock w b o)∧b0N K V (setBlock w b o) b (u0D es x):=by
 have hlt:=h.lt;obtain ⟨ents,clock,hb,hm,hbn,hcl,hn⟩:=h;obtain ⟨l,hl⟩:=B.key x;have hself:∀o,(setBlock w b o).heap[b]?=some o:=fun o=>by simp [setBlock,hlt]
 rcases b0N.find B hm hn w x with ⟨h1,h2⟩|⟨j,e0,v0,h1,h3,h4,h5,_,h6⟩
 · refine ⟨.map ents clock,?_,_,_,hself _,?_,hbn,hcl,s0A hn x⟩
   · simp [Builtin.delete_,run_underlying ht,MapKept.run_getObj_map hb,B.law.check w _ hl,h1,MapKept.run_setObj_map _ hb,Result.andThen,setBlock]
   · rw [hm]
     have:u0D es x=es:=List.filter_eq_self.2 (fun q hq=>by
      simp only [g0A,List.any_eq_false,decide_eq_true_eq] at h2
      simpa using h2 q hq)
     rw [this]
 · have hjl:j<ents.toList.length:=(List.getElem?_eq_some_iff.1 h3).1
   have hjs:j<ents.size:=by simpa using hjl
   have hsub:(ents.eraseIdxIfInBounds j).toList=ents.toList.eraseIdx j:=by
    unfold Array.eraseIdxIfInBounds;rw [dif_pos hjs];simp
   refine ⟨.map (ents.eraseIdxIfInBounds j) clock,?_,_,_,hself _,?_,?_,?_,s0A hn x⟩
   · simp [Builtin.delete_,run_underlying ht,MapKept.run_getObj_map hb,B.law.check w _ hl,h1,MapKept.run_setObj_map _ hb,Result.andThen,setBlock]
   · rw [hsub,map_eraseIdx,hm,n0E hn h5,map_eraseIdx]
   · rw [hsub]
     exact hbn.sublist ((List.eraseIdx_sublist _ _).map _)
   · intro e1 he1
     rw [hsub] at he1;exact hcl e1 ((List.eraseIdx_sublist _ _).subset he1)
theorem b0N.len (h:b0N K V w b es) (ht:P.underlying t=some (.map k e)) (ty:TypeId):(Builtin.len_ #[t] ty #[.map (some b)]).run P w=.ok (.int .i64 es.length) w:=by
 obtain ⟨ents,clock,hb,hm,_⟩:=h;have hs:ents.size=es.length:=by simpa using congrArg List.length hm
 simp [Builtin.len_,run_underlying ht,MapKept.run_getObj_map hb,goInt,hs,Result.andThen]
end
end
end
section
open Go.RowKit Go.Lib
open Go.ChangeMaps (setBlock)
open Go.Maps (Keyed)
abbrev KO:={ p:Ky // p.ok }
def koV (x:KO):Value:=.agg #[.int .u64 x.1.1,.int .u64 x.1.2]
theorem p1Y:laidOutB Tryz.prog=true:=by kernel_rfl
theorem rowKey:(74:TypeId)<Tryz.prog.types.size:=of_decide_eq_true (by kernel_rfl)
theorem t1H:Tryz.prog.keyType 74=true:=by kernel_rfl
theorem t1J:(match Tryz.prog.underlying 74 with|some (.array _ _)|some (.struct _)=>true|_=>false)=true:=by kernel_rfl
theorem n1H:2≤Tryz.prog.types.size:=of_decide_eq_true (by kernel_rfl)
theorem lawKey:Keyed Tryz.prog 74:=Keyed.of_law (deep_law_laid p1Y (m:=9) (by decide) rowKey (by kernel_rfl) t1J)
theorem p1Z (x:KO):∃l,keyOf Tryz.prog 74 (koV x)=some l:=by
 obtain ⟨⟨a,b⟩,h1,h2⟩:=x;simp only at h1 h2
 have hform:(koV ⟨(a,b),h1,h2⟩).formed Tryz.prog 74=true:=by simp [koV,Value.formed,Tryz.underlying74,r1G]
 obtain ⟨d,hd⟩:∃d,Tryz.prog.types.size=d+1:=⟨_,(Nat.sub_add_cancel (Nat.le_trans (by decide) n1H)).symm⟩;have hlits:Tryz.prog.keyLits (Tryz.prog.types.size+1) 74 [.int .u64 a,.int .u64 b]=some [.int .u64 a,.int .u64 b]:=by
  have hw1:(Lit.int .u64 (a:Int)).wf=true:=by simp [Lit.wf,IntKind.min,IntKind.max,IntKind.signed,IntKind.bits];omega
  have hw2:(Lit.int .u64 (b:Int)).wf=true:=by simp [Lit.wf,IntKind.min,IntKind.max,IntKind.signed,IntKind.bits];omega
  simp [Program.keyLits,hd,Tryz.underlying74,Tryz.underlying72,r1G,cl_u64,hw1,hw2]
 refine ⟨.string (keyBytes [.int .u64 a,.int .u64 b]),?_⟩;unfold keyOf;simp only [Tryz.underlying74,t1H,hform]
 show (if _ then (Tryz.prog.keyLits (Tryz.prog.types.size+1) 74 [.int .u64 a,.int .u64 b]).map _ else none)=_
 rw [hlits];rfl
theorem j1P:r0A Tryz.prog 74 koV where
 law:=lawKey
 key:=p1Z
 inj x y h:=by
  simp only [koV,Value.agg.injEq,Array.mk.injEq,List.cons.injEq,Value.int.injEq,and_true,true_and] at h
  exact Subtype.ext (Prod.ext (by omega) (by omega))
def bit (b:Bool):Int:=if b then 1 else 0
def kys (l:List KO):List Ky:=l.map (·.1)
theorem b0Y {w:World} {d k:Nat} {o:Obj} (h:k≠d):(setBlock w d o).heap[k]?=w.heap[k]?:=by
 simp [setBlock,Array.getElem?_setIfInBounds,Ne.symm h]
theorem g0H {w:World} {d:Nat} {o:Obj}:(setBlock w d o).heap.size=w.heap.size:=by simp [setBlock]
end
section
open Go.RowKit Go.Lib
theorem a0B {P:Program} {f:Nat} {args:Array Value} {w:World} {Q:Ending→World→Prop} (h:∀W,W=w→Calls P f args W Q):Calls P f args w Q:=h w rfl
theorem a0I {P:Program} {c:Code} {Q:Exit→Act→World→Prop} {a:Act} {w:World} (h:∀W,W=w→c.wp P Q a W):c.wp P Q a w:=h w rfl
theorem b0F {W w1:World} (hb:jB W w1) {B:Nat} {cs:Array Value} {T:TypeId} (hB:W.heap[B]?=some (.cells cs T (0,0))):(∀j,w1.cell? ⟨B,j,none⟩=cs[j]?)∧(∀j,w1.frozen? ⟨B,j,none⟩=false)∧B<w1.heap.size∧w1.heap[B]?=some (.cells cs T (0,0)):=by
 obtain ⟨h1,h2,h3⟩:=a0A hb hB;exact ⟨h1,h2,h3,(hb.block B (jL hB)).trans hB⟩
end
section
open Go.RowKit Go.Lib
open Go.ChangeMaps (setBlock)

end
section
open Go.RowKit Go.Lib
theorem p0D (w:World) (x:Ky):∀W,W=w.alloc (.cells #[.int .u64 x.1,.int .u64 x.2] 74)→W.cell? ⟨w.heap.size,0,none⟩=some (.int .u64 x.1)∧W.cell? ⟨w.heap.size,1,none⟩=some (.int .u64 x.2)∧W.heap.size=w.heap.size+1∧jB w W:=by
 rintro W rfl;exact ⟨(i0K w _ _).1 0,(i0K w _ _).1 1,by simp,a0C jR _⟩
theorem p0N (w:World) (o1 o2 o3:Obj):∀W,W=((w.alloc o1).alloc o2).alloc o3→W.heap[w.heap.size]?=some o1∧W.heap[w.heap.size+1]?=some o2∧W.heap[w.heap.size+1+1]?=some o3∧W.heap.size=w.heap.size+3∧jB w W:=by
 rintro W rfl;refine ⟨?_,?_,?_,by simp,a0C (a0C (a0C jR _) _) _⟩
 · exact (Below.heap_alloc _ _ _ (by simp;omega)).trans ((Below.heap_alloc _ _ _ (by simp)).trans (heap_alloc_new _ _))
 · have:=heap_alloc_new (w.alloc o1) o2
   rw [World.size_alloc] at this;exact (Below.heap_alloc _ _ _ (by simp)).trans this
 · have:=heap_alloc_new ((w.alloc o1).alloc o2) o3
   rw [World.size_alloc,World.size_alloc] at this;exact this
theorem a0E {w:World} {B i:Nat} {cs:Array Value} {T:TypeId} {fr:Nat × Nat} {v:Value} (h:w.heap[B]?=some (.cells cs T fr)):(w.setCell ⟨B,i,none⟩ v).heap[B]?=some (.cells (cs.setIfInBounds i v) T fr):=by
 obtain ⟨hlt,hk⟩:=Array.getElem?_eq_some_iff.1 h
 show (w.heap.modify B _)[B]?=_
 rw [Array.getElem?_eq_getElem (by rw [Array.size_modify];exact hlt),Array.getElem_modify_self,hk];simp
theorem below4 {w a:World} {B:Nat} (h:jB w a) (hB:w.heap.size≤B) (v0 v1 v2 v3:Value):jB w ((((a.setCell ⟨B,0,none⟩ v0).setCell ⟨B,1,none⟩ v1).setCell ⟨B,2,none⟩ v2).setCell ⟨B,3,none⟩ v3) :=
 (((h.setCell hB _).setCell hB _).setCell hB _).setCell hB _
end
end Go.Proofs.YtmniiodpbebnmaaGreat
