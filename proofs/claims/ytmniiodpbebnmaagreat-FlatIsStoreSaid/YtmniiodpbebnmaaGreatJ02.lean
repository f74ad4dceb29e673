/- Part 2 of the proof. -/
import Derived.Test.YtmniiodpbebnmaaGreatJ01
import Derived.Lib.SlicesCompact
import Derived.Laws.AppendOwnNone
import Derived.OwnWalk
import Derived.Deep.AppendLies
import Derived.Shelf.SlicesQ.Reverse
import Derived.Shelf.GgSortFunc.RowK
import Derived.Sort.Grow
import Derived.Deep.RegionLaw
import Derived.BigRegion
namespace Go.Proofs.YtmniiodpbebnmaaGreat
set_option linter.unusedSimpArgs false
set_option linter.unusedVariables false
set_option linter.unusedSectionVars false
set_option maxRecDepth 100000
set_option maxHeartbeats 16000000
section
open Go.RowKit Go.Lib
def e0K (n:Int):Int:=if 9223372036854775807<n then 9223372036854775807 else if n < -9223372036854775808 then -9223372036854775808 else n
theorem n0N (n:Int):I64 (e0K n):=by
 unfold e0K I64
 split
 · omega
 · split <;> omega
def x0V:List Int→Int→Int
  | [],a=>a
  | n::l,a=>x0V l (e0K (a+n))
theorem x0W:∀(l:List Int) (a:Int),I64 a→I64 (x0V l a)
  | [],a,h=>h
  | n::l,a,h=>x0W l _ (n0N _)
theorem s0Z:∀(l:List Int) (a n:Int),x0V (l++[n]) a=e0K (x0V l a+n)
  | [],a,n=>rfl
  | m::l,a,n=>s0Z l _ n
def n0G (a b:Int):Int:=if b<1 then 0 else if a≤0 then a.tdiv b else (a - 1).tdiv b+1
def z0N (n lo hi:Int):Int:=if n<lo∨hi<lo then lo else if hi<n then hi else n
def nmC (n:Int):List Value:=[.int .i64 n]
theorem e1Z:I64 0:=by unfold I64;omega
theorem g0I (a b:Int) (w:World) (ha:I64 a) (hb:I64 b) :
 Calls Tryz.prog 240 #[.int .i64 a,.int .i64 b] w fun e w'=>e=.returned (.int .i64 (e0K (a+b)))∧w=w':=by
 obtain ⟨a1,a2⟩:=ha;obtain ⟨b1,b2⟩:=hb
 go_enter Tryz.func240,Tryz.ntmps240
 go_wp2
 all_goals
   go_ret
   refine ⟨e0U ?_,rfl⟩
   (try unfold wrap64 at *)
   unfold e0K
   repeat' split
   all_goals omega
theorem b1C (b:Bool) (w:World) :
 Calls Tryz.prog 286 #[.bool b] w fun e w'=>e=.returned (.int .i64 (if b=true then 1 else 0))∧w=w':=by
 cases b
 all_goals
   go_enter Tryz.func286,Tryz.ntmps286
   go_wp2
   go_ret
   exact ⟨rfl,rfl⟩
theorem k1L {a b:Int} (ha:I64 a) (hb:I64 b) (h:b≠-9223372036854775808):e0K (a+IntKind.i64.wrap (-b))=e0K (a - b):=by
 unfold I64 at ha hb;rw [IntKind.wrap_i64]
 congr 1
 omega
theorem o1M {a:Int} (ha:I64 a) (q:Bool) (hq:q=decide (a<0)):e0K (e0K (a+9223372036854775807)+if q=true then 1 else 0)=e0K (a - -9223372036854775808):=by
 subst hq;unfold I64 at ha
 by_cases h:a<0
 · simp only [h,decide_true,if_true]
   unfold e0K
   repeat' split
   all_goals omega
 · simp only [h,decide_false]
   unfold e0K;simp only [Bool.false_eq_true,if_false]
   repeat' split
   all_goals omega
theorem i1G (n i:Nat):(n.testBit i).toNat=n / 2 ^ i % 2:=by
 rw [Nat.testBit_eq_decide_div_mod_eq];have h:=Nat.mod_two_eq_zero_or_one (n / 2 ^ i)
 rcases h with h|h <;> simp [h]
theorem o1I (n i:Nat):n / 2 ^ i=2 * (n / 2 ^ (i+1))+(n.testBit i).toNat:=by
 rw [i1G,Nat.pow_succ,←Nat.div_div_eq_div_mul];omega
def cmpN (a b:Nat):Int:=if a=b then 0 else if a<b then -1 else 1
def i0B:List Int→Nat
  | []=>0
  | n::l=>n.toNat+i0B l
theorem o0B:∀a b:List Int,i0B (a++b)=i0B a+i0B b
  | [],b=>by simp [i0B]
  | n::a,b=>by simp [i0B,o0B a b];omega
theorem w0X {l:List Int} (h:∀n∈l,n≤9223372036854775807):i0B l≤l.length * 9223372036854775807:=by
 induction l with
 | nil=>simp [i0B]
 | cons n l ih =>
   have h1:=h n (by simp);have h2:=ih (fun m hm=>h m (by simp [hm]));simp only [i0B,List.length_cons]
   omega
def k0N (l:List Int):Nat:=if l=[] then 0 else (i0B l+(l.length - 1)) / l.length
theorem z0J {l:List Int} (h:∀n∈l,n≤9223372036854775807):k0N l≤9223372036854775807:=by
 unfold k0N
 split
 · omega
 · rename_i hne
   have hp:0<l.length:=List.length_pos_iff.2 hne;have:=w0X h
   apply Nat.le_of_lt_succ
   rw [Nat.div_lt_iff_lt_mul hp];rw [Nat.mul_comm] at this;generalize l.length=n at *;have e:(9223372036854775807+1) * n=9223372036854775807 * n+n:=by omega
   rw [e];omega
abbrev Ky:=Nat × Nat
def Ky.ok (p:Ky):Prop:=p.1<18446744073709551616∧p.2<18446744073709551616
def ltK (p q:Ky):Bool:=if p.1=q.1 then decide (p.2<q.2) else decide (p.1<q.1)
theorem c0H (p:Ky):ltK p p=false:=by simp [ltK]
theorem d0A {p q r:Ky} (h1:ltK p q=true) (h2:ltK q r=true):ltK p r=true:=by
 simp only [ltK] at *
 split at h1 <;> split at h2 <;> split <;> simp at * <;> omega
theorem d0P {p q:Ky} (h1:ltK p q=false) (h2:ltK q p=false):p=q:=by
 obtain ⟨a,b⟩:=p;obtain ⟨c,d⟩:=q;simp only [ltK] at *
 split at h1 <;> split at h2 <;> simp at * <;> omega
theorem r0J {p q:Ky} (h:ltK p q=true):ltK q p=false:=by
 cases h2:ltK q p with
 | false=>rfl
 | true=>exact absurd (d0A h h2) (by simp [c0H])
def f1X (x:Ky):List Ky→List Ky
  | []=>[x]
  | a::l=>if ltK a x then a::f1X x l else if a=x then a::l else x::a::l
def risL (l:List Ky):List Ky:=l.foldl (fun out x=>f1X x out) []
theorem p0X (x y:Ky):∀l:List Ky,y∈f1X x l ↔ y=x∨y∈l
  | []=>by simp [f1X]
  | a::l=>by
    rw [f1X]
    split
    · rw [List.mem_cons,p0X x y l,List.mem_cons]
      constructor
      · rintro (h|h|h)
        · exact .inr (.inl h)
        · exact .inl h
        · exact .inr (.inr h)
      · rintro (h|h|h)
        · exact .inr (.inl h)
        · exact .inl h
        · exact .inr (.inr h)
    · split
      · rename_i h
        subst h;simp
      · simp
theorem z0H (x:Ky):∀l:List Ky,l.Pairwise (fun a b=>ltK a b=true)→(f1X x l).Pairwise (fun a b=>ltK a b=true)
  | [],_=>by simp [f1X]
  | a::l,h=>by
    rw [f1X];rw [List.pairwise_cons] at h
    split
    · rename_i h1
      rw [List.pairwise_cons];refine ⟨fun y hy=>?_,z0H x l h.2⟩
      rcases (p0X x y l).1 hy with rfl|hy
      · exact h1
      · exact h.1 y hy
    · rename_i h1
      split
      · exact List.pairwise_cons.2 h
      · rename_i h2
        have h3:ltK x a=true:=by
         cases h4:ltK x a with
         | true=>rfl
         | false=>exact absurd (d0P (by simpa using h1) h4) h2
        rw [List.pairwise_cons];refine ⟨fun y hy=>?_,List.pairwise_cons.2 h⟩
        rcases List.mem_cons.1 hy with rfl|hy
        · exact h3
        · exact d0A h3 (h.1 y hy)
theorem r0X (l:List Ky):∀out:List Ky,out.Pairwise (fun a b=>ltK a b=true) →
    (l.foldl (fun out x=>f1X x out) out).Pairwise (fun a b=>ltK a b=true)∧∀y,y∈l.foldl (fun out x=>f1X x out) out ↔ y∈out∨y∈l:=by
  induction l with
  | nil=>intro out h;exact ⟨h,by simp⟩
  | cons a l ih =>
    intro out h;obtain ⟨h1,h2⟩:=ih (f1X a out) (z0H a out h);refine ⟨h1,fun y=>?_⟩;rw [List.foldl_cons,h2,p0X,List.mem_cons]
    constructor
    · rintro ((h|h)|h)
      · exact .inr (.inl h)
      · exact .inl h
      · exact .inr (.inr h)
    · rintro (h|h|h)
      · exact .inl (.inr h)
      · exact .inl (.inl h)
      · exact .inr h
theorem u0C (l:List Ky):(risL l).Pairwise (fun a b=>ltK a b=true):=(r0X l [] List.Pairwise.nil).1
theorem g0X (l:List Ky) (y:Ky):y∈risL l ↔ y∈l:=by simpa [risL] using (r0X l [] List.Pairwise.nil).2 y
theorem i0X:∀{l m:List Ky},l.Pairwise (fun a b=>ltK a b=true)→m.Pairwise (fun a b=>ltK a b=true)→(∀y,y∈l ↔ y∈m)→l=m
  | [],[],_,_,_=>rfl
  | [],b::m,_,_,h=>absurd ((h b).2 (by simp)) (by simp)
  | a::l,[],_,_,h=>absurd ((h a).1 (by simp)) (by simp)
  | a::l,b::m,h1,h2,h=>by
    rw [List.pairwise_cons] at h1 h2;have e:a=b:=by
     have ha:=(h a).1 (by simp);have hb:=(h b).2 (by simp)
     rcases List.mem_cons.1 ha with e|ha
     · exact e
     · rcases List.mem_cons.1 hb with e|hb
       · exact e.symm
       · have:=d0A (h1.1 b hb) (h2.1 a ha)
         rw [c0H] at this;exact absurd this (by simp)
    subst e
    congr 1
    refine i0X h1.2 h2.2 fun y=>?_
    have hy:=h y;simp only [List.mem_cons] at hy
    constructor
    · intro hm
      rcases hy.1 (.inr hm) with rfl|hm'
      · have:=h1.1 _ hm
        rw [c0H] at this;exact absurd this (by simp)
      · exact hm'
    · intro hm
      rcases hy.2 (.inr hm) with rfl|hm'
      · have:=h2.1 _ hm
        rw [c0H] at this;exact absurd this (by simp)
      · exact hm'
theorem l1U:(Tryz.prog.info? 74).map (fun i=>(i.zero,i.size,i.bytes))=some (some (.agg #[.int .u64 0,.int .u64 0]),2,16):=by kernel_rfl
theorem c0C {B:Nat} {a b:World} {row:Option Nat} (h:a.grownBy b row) (hB:B≤a.heap.size) (hr:∀k,row=some k→B≤k):Below B a b:=(Below.refl B a).grown h hB hr
theorem m0V {w:World} {base base':Nat} {e:TypeId} {size:Nat} {v:Value} {n:Nat} {xs:List Value} (h:w.ownsRow base e size v n xs) (hb:base'≤base):w.ownsRow base' e size v n xs:=by
 refine ⟨h.1,?_⟩
 rcases h.2 with hn|⟨g,cap,cur,hv,hg,rest⟩
 · exact .inl hn
 · exact .inr ⟨g,cap,cur,hv,Nat.le_trans hb hg,rest⟩
section
structure g0Y {α:Type} (t e:TypeId) (n bytes:Nat) (z:Value) (f:α→List Value):Prop where
 ht:Tryz.prog.underlying t=some (.slice e)
 hi:(Tryz.prog.info? e).map (fun i=>(i.zero,i.size,i.bytes))=some (some z,n,bytes)
 hz:z.cells.size=n
 hn:0<n
 hb:bytes≤1024
 len:∀x,(f x).length=n
 one:∀x,∀u∈f x,u.oneCell'=true
section
variable {α:Type} {t e:TypeId} {n bytes:Nat} {z:Value} {f:α→List Value}
def b0Q (f:α→List Value) (e:TypeId) (n base:Nat) (w:World) (v:Value) (l:List α):Prop:=w.ownsRow base e n v l.length (a0F f l)
theorem b0Q.row (E:g0Y t e n bytes z f) {base:Nat} {w:World} {v:Value} {l:List α} (h:b0Q f e n base w v l):a0Q n f w v l:=a0Q.own E.len h
theorem b0Q.below {base:Nat} {w w':World} {v:Value} {l:List α} (h:b0Q f e n base w v l) (hb:jB w w'):b0Q f e n base w' v l:=n0X h hb
theorem b0Q.lower {base base':Nat} {w:World} {v:Value} {l:List α} (h:b0Q f e n base w v l) (hb:base'≤base):b0Q f e n base' w v l:=m0V h hb
theorem b0Q.nil (base:Nat) (w:World):b0Q f e n base w (.slice none 0 0) ([]:List α):=⟨by simp [a0F],.inl ⟨rfl,rfl⟩⟩
theorem b0Q.form {base:Nat} {w:World} {v:Value} {l:List α} (h:b0Q f e n base w v l):∃A c,v=.slice A l.length c:=i0A h
theorem b0Q.lt {base:Nat} {w:World} {v:Value} {l:List α} (h:b0Q f e n base w v l) {r:Nat} (hr:v.ownBlock=some r):base≤r∧r<w.heap.size:=World.ownsRow.lt h r hr
theorem b0Q.kept {base:Nat} {w w':World} {v:Value} {l:List α} (h:b0Q f e n base w v l) (hb:∀r,v.ownBlock=some r→w'.heap[r]?=w.heap[r]?):b0Q f e n base w' v l:=by
 refine ⟨h.1,?_⟩
 rcases h.2 with hn|⟨g,cap,cur,rfl,hg,hbk,rest⟩
 · exact .inl hn
 · exact .inr ⟨g,cap,cur,rfl,hg,(hb g rfl).trans hbk,rest⟩
theorem a0Q.form {w:World} {v:Value} {l:List α} (h:a0Q n f w v l):∃A c,v=.slice A l.length c:=by
 obtain ⟨A,c,hv,_⟩:=h;exact ⟨A,c,hv⟩
theorem a0Q.lit (w:World) (x:α) (cs:Array Value) (T:TypeId) (B:Nat) (hB:w.heap.size=B) (hcs:f x=cs.toList):a0Q n f (w.alloc (.cells cs T)) (.slice (some ⟨B,0,none⟩) 1 1) [x]:=by
 subst hB;refine ⟨some ⟨w.heap.size,0,none⟩,1,rfl,Nat.le_refl _,fun _=>⟨w.heap.size,0,rfl,by simp,fun k y hk j u hu=>?_⟩⟩;obtain rfl:k=0:=by
  have:=(List.getElem?_eq_some_iff.1 hk).1;simp at this;omega
 obtain rfl:x=y:=by simpa using hk
 rw [hcs] at hu;rw [Nat.zero_mul,Nat.add_zero,Nat.zero_add,(i0O w cs T).1 j]
 simpa using hu
theorem b0Q.lit0 (base:Nat) (w:World) (T:TypeId) (B:Nat) (hB:w.heap.size=B) (hb:base≤B):b0Q f T n base (w.alloc (.cells #[] T)) (.slice (some ⟨B,0,none⟩) 0 0) ([]:List α):=by
 subst hB;exact World.ownsRow_made w #[] 0 hb (Nat.zero_le _) (by simp)
theorem run_append_nil {P:Program} {w:World} (base:Nat) (t ty e:TypeId) (i:TypeInfo) (size c:Nat) (ht:P.underlying t=some (.slice e)) (hi:P.info? e=some i)
    (v:Value) (n:Nat) (xs:List Value) (hown:w.ownsRow base e size v n xs) :
    (Builtin.append_ #[t,t] ty #[v,.slice none 0 c]).run P w=.ok v w:=by
  rcases hown.2 with ⟨rfl,rfl⟩|⟨g,cap,cur,rfl,_,_,hnc,_⟩
  · simp [Builtin.append_,run_underlying ht,sizeOf,typeInfo,hi,Builtin.lenOf,Builtin.firstCells]
  · simp [Builtin.append_,run_underlying ht,sizeOf,typeInfo,hi,Builtin.lenOf,Builtin.firstCells,hnc,storeCells]
theorem o0E (E:g0Y t e n bytes z f) (w:World) (ty:TypeId) (base:Nat) (l m:List α) (v v2:Value)
    (hown:b0Q f e n base w v l) (hm:a0Q n f w v2 m) (hlen:l.length+m.length≤100000000) (hbase:base≤w.heap.size) :
    ∃A c w',(Builtin.append_ #[t,t] ty #[v,v2]).run Tryz.prog w=.ok (.slice A (l++m).length c) w'∧b0Q f e n base w' (.slice A (l++m).length c) (l++m)∧w.grownBy w' v.ownBlock∧((Value.slice A (l++m).length c).ownBlock=v.ownBlock∨(Value.slice A (l++m).length c).ownBlock=some w.heap.size):=by
  obtain ⟨i0,hi0,hz0,hz1,hz2⟩:=info_parts E.hi;have hby:=E.hb;obtain ⟨A2,c2,rfl,hc2,hr⟩:=hm
  cases A2 with
  | none =>
    have h0:m.length=0:=by
     rcases Nat.eq_zero_or_pos m.length with h|h
     · exact h
     · obtain ⟨_,_,hA,_⟩:=hr h;cases hA
    obtain rfl:m=[]:=List.eq_nil_of_length_eq_zero h0;obtain ⟨A,c,rfl⟩:=i0A hown;refine ⟨A,c,w,?_,?_,⟨rfl,rfl,rfl,Nat.le_refl _,fun _ _ _=>rfl⟩,.inl ?_⟩
    · rw [List.append_nil]
      exact run_append_nil (P:=Tryz.prog) (w:=w) base t ty e i0 n c2 E.ht hi0 _ _ _ hown
    · rw [List.append_nil];exact hown
    · rw [List.append_nil]
  | some ad =>
    obtain ⟨v',w',hrun,h2,h3,_,h5⟩:=run_append_own_at (P:=Tryz.prog) w base t ty e i0 z n bytes E.ht hi0 hz0 hz1 hz2 E.hz E.hn v l.length (a0F f l) hown ad m.length c2 (a0F f m) (a0T E.len m) (fun j u hu=>by
     obtain ⟨y,hy,hyu⟩:=e0V E.hn E.len m j u hu;have hml:0<m.length:=Nat.lt_of_le_of_lt (Nat.zero_le _) (List.getElem?_eq_some_iff.1 hy).1;obtain ⟨b,o',hA,hlt,hat⟩:=hr hml;injection hA with hA
     subst hA;have h:=hat (j / n) y hy (j % n) u hyu;rw [j0L,←h];have hd:j / n * n+j % n=j:=by rw [Nat.mul_comm];exact Nat.div_add_mod j n
     rw [Nat.add_assoc,hd]) (e0N E.one m) (by simp only [maxLen];omega) (Nat.le_trans (Nat.mul_le_mul (by omega:l.length+m.length≤100000000) hby) (by omega)) hbase
    have hlen2:(l++m).length=l.length+m.length:=by simp
    have h2':b0Q f e n base w' v' (l++m):=by
     unfold b0Q;rw [hlen2,b0W];exact h2
    obtain ⟨A,c,rfl⟩:=i0A h2';exact ⟨A,c,w',hrun,h2',h3,h5⟩
theorem b0Y (E:g0Y t e n bytes z f) {w:World} {ops:Array Oper} {rest:List Oper} {o:Oper} {a:Act} {Q:Exit→Act→World→Prop} (hgd:o.guard=none) {s x:Operand}
    (ho:o.op=.call { callee:=.builtin .append,args:=#[s,x],argTypes:=#[t,t] }) (base:Nat) (l m:List α) (v v2:Value) (hs:a.eval s=v) (hx:a.eval x=v2)
    (hown:b0Q f e n base w v l) (hm:a0Q n f w v2 m) (hlen:l.length+m.length≤100000000) (hbase:base≤w.heap.size)
    (h:∀(out:List α) A c w',out=l++m→b0Q f e n base w' (.slice A out.length c) out→w.grownBy w' v.ownBlock→((Value.slice A out.length c).ownBlock=v.ownBlock∨(Value.slice A out.length c).ownBlock=some w.heap.size)→wpList Tryz.prog ops Q rest (a.put o.dst (.slice A out.length c)) w') :
    wpList Tryz.prog ops Q (o::rest) a w:=by
  refine wpList_plain hgd fun K hK=>?_
  obtain ⟨A,c,w',hrun,h2,h3,h4⟩:=o0E E w o.type base l m v v2 hown hm hlen hbase;unfold Oper.wp;simp [execOp,ho,resolve,invoke,builtin,hs,hx,hrun,Result.andThen]
  have h6:=hK _ _ (h _ A c w' rfl h2 h3 h4);rw [List.length_append] at h6;exact h6
theorem d0W (E:g0Y t e n bytes z f) {w:World} {ops:Array Oper} {o:Oper} {a:Act} {K:Act→World→Prop} {Q:Exit→Act→World→Prop} {X:Prop} (hgd:o.guard=none) (s x:Operand)
    (ho:o.op=.call { callee:=.builtin .append,args:=#[s,x],argTypes:=#[t,t] }) (base:Nat) (l m:List α) (v v2:Value) (hs:a.eval s=v) (hx:a.eval x=v2)
    (hown:b0Q f e n base w v l) (hm:a0Q n f w v2 m) (hlen:l.length+m.length≤100000000) (hbase:base≤w.heap.size)
    (h:∀(out:List α) A c w',out=l++m→b0Q f e n base w' (.slice A out.length c) out→w.grownBy w' v.ownBlock→((Value.slice A out.length c).ownBlock=v.ownBlock∨(Value.slice A out.length c).ownBlock=some w.heap.size)→K (a.put o.dst (.slice A out.length c)) w') :
    if Region.wanted o (yielded ops a.tmps)=true then Oper.wp Tryz.prog o a w K Q else X:=by
  have hw:Region.wanted o (yielded ops a.tmps)=true:=by simp [Region.wanted,hgd]
  rw [if_pos hw];obtain ⟨A,c,w',hrun,h2,h3,h4⟩:=o0E E w o.type base l m v v2 hown hm hlen hbase;unfold Oper.wp;simp [execOp,ho,resolve,invoke,builtin,hs,hx,hrun,Result.andThen]
  have h6:=h _ A c w' rfl h2 h3 h4;rw [List.length_append] at h6;exact h6
theorem f0J {base:Nat} {w w' W:World} {v:Value} {l:List α} (hg:w.grownBy w' v.ownBlock) (hown:b0Q f e n base W v l) (hb:base≤w.heap.size):Below base w w' :=
 c0C hg hb (fun r hr=>(hown.lt hr).1)
theorem z0B (E:g0Y t e n bytes z f) {w:World} {A:Option Addr} {c:Nat} {l:List α} (h:a0Q n f w (.slice A l.length c) l) (a:Nat) (ha:a≤l.length) :
 ∃(m:List α) (A2:Option Addr) (c2:Nat),m=l.drop a∧(∀w':World,(Instr.sliceAt t (.slice A l.length c) (some (.int .i64 a)) none none).run Tryz.prog w'=.ok (.slice A2 m.length c2) w')∧a0Q n f w (.slice A2 m.length c2) m:=by
 obtain ⟨i0,hi0,hz0,hz1,hz2⟩:=info_parts E.hi;have hp:=a0Q.part h (i:=a) (j:=l.length) ha (Nat.le_refl _);rw [List.take_length] at hp;have hlen:(l.drop a).length=l.length - a:=by simp
 have hel:Tryz.prog.elem t=e:=by simp [Program.elem,E.ht]
 refine ⟨l.drop a,_,_,rfl,fun w'=>?_,by rw [hlen];exact hp⟩;rw [run_sliceAt_slice _ t _ _ _ _ (by rw [hel];exact E.ht),run_slice_l _ t A l.length c (by rw [hel];exact E.ht) _ _ (by omega) (by omega),hel];simp [sizeOf,typeInfo,hi0,hz1,Result.andThen,sliced,hlen]
end
end
end
section
open Go.RowKit Go.Lib Go.ChangeShapes Go.WideShapes Go.Joins
section
theorem n1I:Tryz.prog.cellsOf 74=2:=by kernel_rfl
theorem cl_u64:Tryz.prog.cellsOf 72=1:=by kernel_rfl
def l0I (p:Ky):List Value:=[.int .u64 p.1,.int .u64 p.2]
section
variable {H:Type} {enc:TypeId × Value→H} {w:World} {base:Nat} {spare:Nat→Bool} {held:Bool}
end
end
end
section
open Go.Shelf

end
section
open Go.RowKit Go.Lib Go.Sort
section
section
variable {α:Type} [Inhabited α] {f:α→List Value} {n:Nat}
theorem y0K (hf:∀x,(f x).length=n) (hn:0<n) (l:List α):flatK f n l.toArray=(a0F f l).toArray:=by
 refine ext_get! (by simp [a0T hf]) fun t ht=>?_
 have ht':t<l.length * n:=by simpa using ht
 rw [get_flatK _ _ _ t (by simpa using ht')];have hk:t / n<l.length:=by rw [Nat.div_lt_iff_lt_mul hn];exact ht'
 have hm:t % n<(f l[t / n]).length:=by rw [hf];exact Nat.mod_lt _ hn
 have hlt:t<(a0F f l).length:=by rw [a0T hf];exact ht'
 have h:=g0V hf l (t / n) l[t / n] (List.getElem?_eq_getElem hk) (t % n) _ (List.getElem?_eq_getElem hm);rw [show t / n * n+t % n=t by rw [Nat.mul_comm];exact Nat.div_add_mod t n] at h;have e1:(a0F f l).toArray[t]! = (f l[t / n])[t % n]:=by
  rw [getElem!_pos _ t (by simpa using hlt)];have:=(List.getElem?_eq_some_iff.1 h).2
  simpa using this
 rw [e1];have e2:l.toArray[t / n]! = l[t / n]:=by rw [getElem!_pos _ _ (by simpa using hk)];simp
 rw [e2];exact getElem!_pos (f l[t / n]) (t % n) hm
theorem p0E (hf:∀x,(f x).length=n) (hn:0<n) {w:World} {base g cap:Nat} {e:TypeId} {l:List α} (h:w.ownsRow base e n (.slice (some ⟨g,0,none⟩) l.length cap) l.length (a0F f l)) :
 HoldsK f n w g 0 l.toArray:=by
 unfold HoldsK;rw [y0K hf hn];intro j hj;have hj':j<(a0F f l).length:=by simpa using hj
 have hjl:=hj';rw [a0T hf] at hjl;have hc:=h.cellAt j hjl
 rcases h.2 with ⟨hv,_⟩|⟨g',cap',cur,hv,_,hg,_⟩
 · cases hv
 · injection hv with e1 e2 e3
   injection e1 with e1
   injection e1 with e1
   subst e1;refine ⟨?_,Go.Joins.unfrozen_of_block hg (0+j)⟩;rw [Nat.zero_add,hc,List.getElem?_eq_getElem hj',getElem!_pos _ j hj];simp
theorem m1T (F:List Value) (c:Array Value) (h:F.length≤c.size):(putCells id 0 F.toArray c).toList.take F.length=F:=by
 apply List.ext_getElem?
 intro i;rw [List.getElem?_take]
 by_cases hi:i<F.length
 · rw [if_pos hi,Array.getElem?_toList,putCells,Array.getElem?_mapIdx,Array.getElem?_eq_getElem (by omega),Option.map_some,if_pos ⟨Nat.zero_le _,by simpa using hi⟩,Nat.sub_zero,List.getElem?_eq_getElem hi]
   simp [hi]
 · rw [if_neg hi,List.getElem?_eq_none (by omega)]
theorem w0I {w:World} {g:Nat} {cur:Array Value} {e:TypeId} {fr:Nat × Nat} (F:Array Value) (hb:w.heap[g]?=some (.cells cur e fr)) :
 (putRow id w g 0 F).heap[g]?=some (.cells (putCells id 0 F cur) e fr):=by
 simp only [putRow,mapBlock,Array.getElem?_modify,if_pos]
 rw [hb];rfl
theorem s0J {w:World} {g k:Nat} (F:Array Value) (h:k≠g):(putRow id w g 0 F).heap[k]?=w.heap[k]?:=by
 simp only [putRow,mapBlock,Array.getElem?_modify,if_neg (Ne.symm h)]
theorem n0R (hf:∀x,(f x).length=n) (hn:0<n) {w:World} {base g cap k:Nat} {e:TypeId} {l m:List α} (h:w.ownsRow base e n (.slice (some ⟨g,0,none⟩) l.length cap) l.length (a0F f l)) (hm:m.length=l.length) (os:Array Obj) :
 (grow (putRowK f n (Sort.ahead w k) g 0 m.toArray) os).ownsRow base e n (.slice (some ⟨g,0,none⟩) m.length cap) m.length (a0F f m)∧w.grownBy (grow (putRowK f n (Sort.ahead w k) g 0 m.toArray) os) (some g):=by
 rcases h.2 with ⟨hv,_⟩|⟨g',cap',cur,hv,hbase,hg,h1,h2,h3,h4⟩
 · cases hv
 · injection hv with e1 e2 e3
   injection e1 with e1
   injection e1 with e1
   subst e1 e3;have hglt:g<w.heap.size:=(jL hg);unfold putRowK;rw [y0K hf hn];have hsz:(putRow id (Sort.ahead w k) g 0 (a0F f m).toArray).heap.size=w.heap.size:=by simp [putRow,mapBlock,Sort.ahead]
   have hblk:(grow (putRow id (Sort.ahead w k) g 0 (a0F f m).toArray) os).heap[g]?=some (.cells (putCells id 0 (a0F f m).toArray cur) e (0,0)):=by
    rw [heap_grow_old _ _ (by rw [hsz];exact hglt)];exact w0I (w:=Sort.ahead w k) _ hg
   have hle:(a0F f m).length≤cur.size:=by
    rw [a0T hf,hm,h3];exact Nat.mul_le_mul_right _ h1
   refine ⟨⟨a0T hf m,.inr ⟨g,cap,_,rfl,hbase,hblk,by omega,h2,by simp [putCells,h3],?_⟩⟩,⟨rfl,rfl,rfl,by simp only [grow,Array.size_append,hsz];omega,fun j hj hne=>?_⟩⟩
   · have:=m1T (a0F f m) cur hle
     rwa [a0T hf] at this
   · rw [heap_grow_old _ _ (by rw [hsz];exact hj)]
     exact s0J (w:=Sort.ahead w k) _ (fun e=>hne (by rw [e]))
end
end
end
section
open Go.RowKit Go.Lib
theorem l1L (x:Ky):∀u∈l0I x,u.oneCell'=true:=by
 intro u hu;simp only [l0I,List.mem_cons,List.not_mem_nil,or_false] at hu
 rcases hu with rfl|rfl <;> rfl
theorem y0B (w:World) (cs:Array Value) (T B:Nat) (hB:w.heap.size=B):∀j u,cs.toList[j]?=some u→(w.alloc (.cells cs T)).cell? ((⟨B,0,none⟩:Addr).add j)=some u:=by
 subst hB;exact World.news_of_block (heap_alloc_new _ _)
end
end Go.Proofs.YtmniiodpbebnmaaGreat
