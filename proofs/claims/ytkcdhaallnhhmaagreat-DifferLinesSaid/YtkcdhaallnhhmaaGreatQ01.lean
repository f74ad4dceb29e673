/- Part 1 of the proof: Base, Row, Keys, KeyOwn, MapIn. -/
import Derived.Test.YtkcdhaallnhhmaaGreatRows
import Derived.WalkKit
import Derived.WalkSpells
import Derived.WalkLawsBesides
import Derived.Lib.OthersKept
import Derived.Lib.Hide
import Derived.StillTailTactics
import Derived.Deep.QuietTactic
import Derived.BigQuiet
import Derived.Deep.RegionWith
import Derived.Deep.RegionHeld3
import Derived.Deep.Slices
import Derived.Deep.LoopGhost
import Derived.Lib.SmallJoins
import Derived.Lib.SlicesCompact
import Derived.Laws.AppendOwnNone
import Derived.Maps.OwnSet
import Derived.Maps.RangeRun
namespace Go.Proofs.YtkcdhaallnhhmaaGreat
set_option linter.unusedSimpArgs false
set_option linter.unusedVariables false
set_option linter.unusedSectionVars false
set_option maxRecDepth 100000
set_option maxHeartbeats 16000000
section
open Go.RowKit Go.Lib
@[go_sem] theorem setCell_drewN (w:World) (n:Nat) (a:Addr) (v:Value):(w.drewN n).setCell a v=(w.setCell a v).drewN n:=rfl
theorem bcell {W w1:World} (hb:Below W.heap.size W w1):(∀b o,b<W.heap.size→w1.cell? ⟨b,o,none⟩=W.cell? ⟨b,o,none⟩)∧(∀b o,b<W.heap.size→w1.frozen? ⟨b,o,none⟩=W.frozen? ⟨b,o,none⟩) :=
 ⟨fun b o h=>hb.cell (p:=⟨b,o,none⟩) h,fun b o h=>hb.frozen (p:=⟨b,o,none⟩) h⟩
theorem below_drewN {B:Nat} {a w:World} (h:Below B a w) (n:Nat):Below B a (w.drewN n):=⟨h.os,h.tape,h.output,h.size,h.block⟩
theorem bthen {w a b:World} (h:Below w.heap.size w a) (k:Below a.heap.size a b):Below w.heap.size w b:=h.trans (k.mono h.size)
theorem balloc {w a:World} (h:Below w.heap.size w a) (o:Obj):Below w.heap.size w (a.alloc o):=h.alloc h.size o
theorem startA (w:World) (cs:Array Value) (T:TypeId) :
 (∀j,(w.alloc (.cells cs T)).cell? ⟨w.heap.size,j,none⟩=cs[j]?)∧Below w.heap.size w (w.alloc (.cells cs T))∧w.heap.size<(w.alloc (.cells cs T)).heap.size :=
 ⟨fun j=>by simp [go_sem],balloc (Below.refl _ _) _,by simp⟩
theorem next_ascii_n {P:Program} (w:World) (s:ByteArray) (pos n H:Nat) (ty:TypeId) (hH:w.heap.size=H) (h:pos<s.size) (ha:(s[pos]'h).toNat<128) :
 (Instr.next (.pointer (some ⟨H,0,none⟩)) true ty).run P ((w.alloc (.stringIter s pos)).drewN n)=.ok (.tuple #[.bool true,.int .i64 pos,.int .i32 (s[pos]'h).toNat]) ((w.alloc (.stringIter s (pos+1))).drewN n):=by
 subst hH
 show (Instr.next (.pointer (some ⟨w.heap.size,0,none⟩)) true ty).run P ((w.iter s pos).drewN n)=.ok (.tuple #[.bool true,.int .i64 pos,.int .i32 (s[pos]'h).toNat]) ((w.iter s (pos+1)).drewN n)
 rw [run_next_ascii_at _ w.heap.size s pos ty (by simp [World.iter_heap]) h ha];have:=World.iter_set w s pos (pos+1);simp only [World.iterAt,World.drewN] at this ⊢
 rw [←this]
theorem next_end_n {P:Program} (w:World) (s:ByteArray) (pos n H:Nat) (ty:TypeId) (hH:w.heap.size=H) (h:¬pos<s.size) :
 (Instr.next (.pointer (some ⟨H,0,none⟩)) true ty).run P ((w.alloc (.stringIter s pos)).drewN n)=.ok (.tuple #[.bool false]) ((w.alloc (.stringIter s pos)).drewN n):=by
 subst hH
 show (Instr.next (.pointer (some ⟨w.heap.size,0,none⟩)) true ty).run P ((w.iter s pos).drewN n)=.ok (.tuple #[.bool false]) ((w.iter s pos).drewN n)
 rw [run_next_end_at _ w.heap.size s pos ty (by simp [World.iter_heap]) h]
theorem iterPos_n (w:World) (s:ByteArray) (pos n H:Nat) (hH:w.heap.size=H):((w.alloc (.stringIter s pos)).drewN n).iterPos H=pos:=by
 subst hH;exact World.iterPos_iter w s pos
@[go_sem] theorem below_alloc_s {w a:World} {o:Obj} (h:Below w.heap.size w a):Below w.heap.size w (a.alloc o)=True:=eq_true (balloc h o)
@[go_sem] theorem below_drewN_s {n:Nat} {w a:World} {k:Nat} (h:Below n w a):Below n w (a.drewN k)=True:=eq_true (below_drewN h k)
@[go_sem] theorem below_drew_s {n:Nat} {w a:World} (h:Below n w a):Below n w a.drew=True:=eq_true h.drew
@[go_sem] theorem below_setCell_s {n:Nat} {w a:World} {p:Addr} {v:Value} (h:Below n w a) (hp:n≤p.block):Below n w (a.setCell p v)=True:=eq_true (h.setCell hp v)
@[go_sem] theorem below_refl_s {n:Nat} {w:World}:Below n w w=True:=eq_true (Below.refl n w)
theorem box_cells {W w1:World} (hb:Below W.heap.size W w1) {B:Nat} {cs:Array Value} {T:TypeId} (hB:W.heap[B]?=some (.cells cs T (0,0))):(∀j,w1.cell? ⟨B,j,none⟩=cs[j]?)∧(∀j,w1.frozen? ⟨B,j,none⟩=false)∧B<w1.heap.size:=by
 have hlt:B<W.heap.size:=(Array.getElem?_eq_some_iff.1 hB).1;have h1:=(hb.block B hlt).trans hB;exact ⟨fun j=>by simp [World.cell?,h1],fun j=>by simp [World.frozen?,h1],Nat.lt_of_lt_of_le hlt hb.size⟩
theorem box_old (w:World) (o1 o2:Obj):((w.alloc o1).alloc o2).heap[w.heap.size]?=some o1:=(Below.heap_alloc _ _ _ (by simp)).trans (heap_alloc_new _ _)
theorem box_new (w:World) (o1 o2:Obj):((w.alloc o1).alloc o2).heap[w.heap.size+1]?=some o2:=by
 have h:=heap_alloc_new (w.alloc o1) o2
 rwa [World.size_alloc] at h
def keyV (hi lo:Nat):Value:=.agg #[.int .u64 (hi:Nat),.int .u64 (lo:Nat)]
theorem u64_wrap (n:Nat) (h:n<18446744073709551616):IntKind.u64.wrap (n:Int)=(n:Int):=by
 simp only [IntKind.wrap,IntKind.signed,IntKind.bits]
 simp
 omega
theorem ret_int {k:IntKind} {a b:Int} (h:a=b):Ending.returned (.int k a)=.returned (.int k b):=by rw [h]
theorem ret_bool {a b:Bool} (h:a=b):Ending.returned (.bool a)=.returned (.bool b):=by rw [h]
theorem own_form {w:World} {base:Nat} {e:TypeId} {size:Nat} {v:Value} {n:Nat} {xs:List Value} (h:w.ownsRow base e size v n xs):∃A c,v=.slice A n c:=by
 rcases h.2 with ⟨rfl,rfl⟩|⟨g,cap,cur,rfl,_⟩
 · exact ⟨_,_,rfl⟩
 · exact ⟨_,_,rfl⟩
theorem own_below {w w':World} {base:Nat} {e:TypeId} {size:Nat} {v:Value} {n:Nat} {xs:List Value} (h:w.ownsRow base e size v n xs) (hb:Below w.heap.size w w'):w'.ownsRow base e size v n xs :=
 h.kept (row:=none) ⟨hb.os,hb.tape,hb.output,hb.size,fun k hk _=>hb.block k hk⟩ (by cases v.ownBlock <;> simp)
theorem jH {p : Prop} (h : p) : Go.RowKit.Hid p := Go.Lib.hid h
theorem jL {α : Type} {a : Array α} {i : Nat} {v : α} (h : a[i]? = some v) : i < a.size := (Array.getElem?_eq_some_iff.1 h).1
theorem jR {n : Nat} {w : World} : Below n w w := Below.refl _ _
abbrev jB (w w' : World) : Prop := Below w.heap.size w w'
abbrev jP (w : World) (v : Value) (e : Ending) (w' : World) : Prop := e = .returned v ∧ Below w.heap.size w w'
theorem jA {α : Type} : type_of% (@List.getElem_toArray α) ∧ type_of% (@List.getElem_cons_succ α) ∧ type_of% (@List.getElem_cons_zero α) ∧ type_of% (@List.setIfInBounds_toArray α) ∧ type_of% (@List.set_cons_zero α) ∧ type_of% (@List.set_cons_succ α) :=
  ⟨@List.getElem_toArray α, @List.getElem_cons_succ α, @List.getElem_cons_zero α, @List.setIfInBounds_toArray α, @List.set_cons_zero α, @List.set_cons_succ α⟩
theorem jK {w w' : World} {k : Nat} {o : Obj} (hb : Below w.heap.size w w') (h : w.heap[k]? = some o) : w'.heap[k]? = some o := (hb.block _ (Array.getElem?_eq_some_iff.1 h).1).trans h
end
section
open Go.RowKit Go.Lib Go.ChangeShapes Go.WideShapes Go.Joins
theorem add_at (b o i:Nat):(Addr.mk b o none).add i=⟨b,o+i,none⟩:=by
 unfold Addr.add
 split
 · subst_vars;rfl
 · rfl
def RowIn {α:Type} (n:Nat) (f:α→List Value) (w:World) (v:Value) (l:List α):Prop :=
 ∃A c,v=.slice A l.length c∧l.length≤c∧(0<l.length→∃b o,A=some ⟨b,o,none⟩∧b<w.heap.size∧∀k x,l[k]?=some x→∀j u,(f x)[j]?=some u→w.cell? ⟨b,o+k * n+j,none⟩=some u)
theorem RowIn.below {α:Type} {n:Nat} {f:α→List Value} {w w':World} {v:Value} {l:List α} (h:RowIn n f w v l) (hb:jB w w'):RowIn n f w' v l:=by
 obtain ⟨A,c,hv,hc,h⟩:=h;refine ⟨A,c,hv,hc,fun hn=>?_⟩;obtain ⟨b,o,hA,hlt,h⟩:=h hn;exact ⟨b,o,hA,Nat.lt_of_lt_of_le hlt hb.size,fun k x hk j u hu=>(hb.cell (p:=⟨b,_,none⟩) hlt).trans (h k x hk j u hu)⟩
theorem RowIn.nil {α:Type} {n:Nat} {f:α→List Value} {w:World} {A:Option Addr} {c:Nat}:RowIn n f w (.slice A 0 c) ([]:List α) :=
 ⟨A,c,rfl,Nat.zero_le _,fun h=>absurd h (Nat.lt_irrefl _)⟩
theorem RowIn.at_ {α:Type} {n:Nat} {f:α→List Value} {w:World} {A:Option Addr} {m c:Nat} {l:List α} (h:RowIn n f w (.slice A m c) l) {k:Nat} (hk:k<l.length) :
 ∃b o,A=some ⟨b,o,none⟩∧b<w.heap.size∧∀j u,(f l[k])[j]?=some u→w.cell? ⟨b,o+k * n+j,none⟩=some u:=by
 obtain ⟨A1,c1,hv,_,h⟩:=h;injection hv with e1 e2 e3
 subst e1;obtain ⟨b,o,hA,hlt,h⟩:=h (by omega);exact ⟨b,o,hA,hlt,h k l[k] (List.getElem?_eq_getElem hk)⟩
def cellsOfRow {α:Type} (f:α→List Value) (l:List α):List Value:=l.flatMap f
theorem cellsOfRow_cons {α:Type} (f:α→List Value) (x:α) (l:List α):cellsOfRow f (x::l)=f x++cellsOfRow f l:=rfl
theorem cellsOfRow_append {α:Type} (f:α→List Value) (l m:List α):cellsOfRow f (l++m)=cellsOfRow f l++cellsOfRow f m:=by simp [cellsOfRow]
theorem cellsOfRow_len {α:Type} {f:α→List Value} {n:Nat} (hf:∀x,(f x).length=n) (l:List α):(cellsOfRow f l).length=l.length * n:=by
 induction l with
 | nil=>simp [cellsOfRow]
 | cons a l ih=>rw [cellsOfRow_cons,List.length_append,ih,hf,List.length_cons,Nat.succ_mul];omega
theorem cellsOfRow_at {α:Type} {f:α→List Value} {n:Nat} (hf:∀x,(f x).length=n) (l:List α):∀(k:Nat) (x:α),l[k]?=some x→∀j u,(f x)[j]?=some u→(cellsOfRow f l)[k * n+j]?=some u:=by
 induction l with
 | nil=>intro k x h;simp at h
 | cons a l ih =>
   intro k x h j u hu
   cases k with
   | zero =>
     simp at h;subst h
     rw [cellsOfRow_cons,Nat.zero_mul,Nat.zero_add,List.getElem?_append_left (List.getElem?_eq_some_iff.1 hu).1,hu]
   | succ k =>
     simp at h
     rw [cellsOfRow_cons,List.getElem?_append_right (by rw [hf,Nat.succ_mul];omega),hf,show (k+1) * n+j - n=k * n+j by rw [Nat.succ_mul];omega];exact ih k x h j u hu
theorem cellsOfRow_one {α:Type} {f:α→List Value} (h1:∀x,∀u∈f x,u.oneCell'=true) (l:List α):∀u∈cellsOfRow f l,u.oneCell'=true:=by
 intro u hu;obtain ⟨x,_,hx⟩:=List.mem_flatMap.1 hu;exact h1 x u hx
theorem cellsOfRow_split {α:Type} {f:α→List Value} {n:Nat} (hn:0<n) (hf:∀x,(f x).length=n) (l:List α) (j:Nat) (u:Value) (h:(cellsOfRow f l)[j]?=some u):∃x,l[j / n]?=some x∧(f x)[j % n]?=some u:=by
 have hj:=(List.getElem?_eq_some_iff.1 h).1;rw [cellsOfRow_len hf] at hj;have hk:j / n<l.length:=by rw [Nat.div_lt_iff_lt_mul hn];exact hj
 refine ⟨l[j / n],List.getElem?_eq_getElem hk,?_⟩;have hm:j % n<(f l[j / n]).length:=by rw [hf];exact Nat.mod_lt _ hn
 have:=cellsOfRow_at hf l (j / n) l[j / n] (List.getElem?_eq_getElem hk) (j % n) _ (List.getElem?_eq_getElem hm);rw [show j / n * n+j % n=j by rw [Nat.mul_comm];exact Nat.div_add_mod j n,h] at this;rw [List.getElem?_eq_getElem hm,this]
theorem RowIn.own {α:Type} {n:Nat} {f:α→List Value} (hf:∀x,(f x).length=n) {w:World} {base:Nat} {e:TypeId} {v:Value} {l:List α} (h:w.ownsRow base e n v l.length (cellsOfRow f l)):RowIn n f w v l:=by
 rcases h.2 with ⟨hv,h0⟩|⟨g,cap,cur,hv,_,_,hc',_⟩
 · obtain rfl:l=[]:=List.eq_nil_of_length_eq_zero h0
   rw [hv];exact RowIn.nil
 · refine ⟨some ⟨g,0,none⟩,cap,hv,hc',fun hn=>⟨g,0,rfl,(h.lt g (by rw [hv];rfl)).2,fun k x hk j u hu=>?_⟩⟩
   have hat:=cellsOfRow_at hf l k x hk j u hu;have hj:=(List.getElem?_eq_some_iff.1 hat).1;rw [cellsOfRow_len hf] at hj;have hkl:=(List.getElem?_eq_some_iff.1 hk).1;subst hv;rw [Nat.zero_add,h.cellAt (k * n+j) hj,hat]
theorem RowIn.part {α:Type} {n:Nat} {f:α→List Value} {w:World} {A:Option Addr} {m c:Nat} {l:List α} (h:RowIn n f w (.slice A m c) l) {i j:Nat} (hij:i≤j) (hj:j≤l.length) :
 RowIn n f w (.slice (if c=i then A else A.map (·.add (i * n))) (j - i) (c - i)) ((l.take j).drop i):=by
 obtain ⟨A1,c1,hv,hc,h⟩:=h;injection hv with e1 e2 e3
 subst e1 e2 e3;have hlen:((l.take j).drop i).length=j - i:=by simp;omega
 refine ⟨_,c - i,by rw [hlen],by omega,fun hn=>?_⟩;rw [hlen] at hn;obtain ⟨b,o,rfl,hlt,h⟩:=h (by omega);rw [if_neg (by omega)];refine ⟨b,o+i * n,by rw [Option.map_some,add_at],hlt,fun k x hk t u hu=>?_⟩;rw [List.getElem?_drop,List.getElem?_take] at hk
 split at hk
 · have:=h (i+k) x hk t u hu
   rw [Nat.add_mul] at this;rw [show o+i * n+k * n+t=o+(i * n+k * n)+t by omega];exact this
 · cases hk
section
variable {H:Type} {enc:TypeId × Value→H} {P:Program} {w:World} {base:Nat} {spare:Nat→Bool} {held:Bool}
theorem cells_first {a:Addr} {n:Nat} {cs:List Value} (h:w.cells? base a n=some cs) (hn:0<n):a.spot=none∧a.block<w.heap.size:=by
 obtain ⟨_,hl,hc⟩:=World.cells?_some h;have h0:=hc 0 hn;rw [List.getElem?_eq_getElem (by omega)] at h0;have ha:a.add 0=a:=rfl;rw [ha] at h0;exact ⟨World.cell?_spot h0,World.block_lt_of_cell? w _ h0⟩
theorem row_read {α:Type} [Inhabited α] {n:Nat} {f:α→List Value} {ok:α→Prop} {t e:TypeId} (ht:P.underlying t=some (.slice e)) (hn:P.cellsOf e=n) (hpos:0<n)
    (hread:∀fuel cs x,DataW.trod enc P w base spare held fuel e cs=some x→∃d,ok d∧cs=f d)
    {fuel:Nat} {cs:List Value} {x:DataW H × List MemPlace} (h:DataW.trod enc P w base spare held fuel t cs=some x) :
    ∃(v:Value) (l:List α),cs=[v]∧l.length≤maxLen∧(∀p∈l,ok p)∧RowIn n f w v l:=by
  rcases Go.Deep.open_slice ht h with ⟨rfl,_⟩|⟨a,len,cap,m,fu,D,Pl,rfl,_,hlc,hcm,hm,_,hr⟩
  · exact ⟨_,[],rfl,Nat.zero_le _,fun _ h=>(by simp at h),RowIn.nil⟩
  · have hlm:len≤m:=by rw [hm];split <;> omega
    rw [hn] at hr;have hch:∀i,i<len→∃c:α,ok c∧w.cells? base (a.add (i * n)) n=some (f c):=by
     intro i hi;obtain ⟨cs',hcs,ht⟩:=hr i (Nat.lt_of_lt_of_le hi hlm);obtain ⟨c,hok,rfl⟩:=hread _ _ _ ht;exact ⟨c,hok,hcs⟩
    obtain ⟨g,hg⟩:=Go.Deep.choose_lt hch;have hlen:((List.range len).map g).length=len:=by simp
    refine ⟨_,(List.range len).map g,rfl,by rw [hlen];omega,fun p hp=>?_,some a,cap,by rw [hlen],by rw [hlen];exact hlc,fun hpos'=>?_⟩
    · obtain ⟨i,hi,rfl⟩:=List.mem_map.1 hp
      exact (hg i (List.mem_range.1 hi)).1
    rw [hlen] at hpos';obtain ⟨b,o,s⟩:=a;obtain ⟨hs,hb⟩:=cells_first (hg 0 hpos').2 hpos;have hs':s=none:=by simpa [Addr.add] using hs
    subst hs';refine ⟨b,o,rfl,by simpa [Addr.add] using hb,fun k x hk j u hu=>?_⟩;simp only [List.getElem?_map,List.getElem?_range] at hk
    by_cases hkl:k<len
    · simp [hkl] at hk
      subst hk;obtain ⟨_,hl,hc⟩:=World.cells?_some (hg k hkl).2;have hj:j<n:=by have:=(List.getElem?_eq_some_iff.1 hu).1;omega
      have:=hc j hj;rw [add_at,add_at] at this;rw [this,hu]
    · simp [hkl] at hk
end
end
section
open Go.RowKit Go.Lib
abbrev Ky:=Nat × Nat
def Ky.ok (p:Ky):Prop:=p.1<18446744073709551616∧p.2<18446744073709551616
def ltK (p q:Ky):Bool:=if p.1=q.1 then decide (p.2<q.2) else decide (p.1<q.1)
theorem ltK_irrefl (p:Ky):ltK p p=false:=by simp [ltK]
theorem ltK_trans {p q r:Ky} (h1:ltK p q=true) (h2:ltK q r=true):ltK p r=true:=by
 simp only [ltK] at *
 split at h1 <;> split at h2 <;> split <;> simp at * <;> omega
theorem ltK_total {p q:Ky} (h1:ltK p q=false) (h2:ltK q p=false):p=q:=by
 obtain ⟨a,b⟩:=p;obtain ⟨c,d⟩:=q;simp only [ltK] at *
 split at h1 <;> split at h2 <;> simp at * <;> omega
theorem less_any (p q:Ky) (w:World) (hp:p.ok) (hq:q.ok) :
 Calls Tryz.prog 232 #[keyV p.1 p.2,keyV q.1 q.2] w (jP w (.bool (ltK p q))):=by
 obtain ⟨a,b⟩:=p;obtain ⟨c,d⟩:=q;obtain ⟨h1,h2⟩:=hp;obtain ⟨h3,h4⟩:=hq;simp only at h1 h2 h3 h4 ⊢
 unfold keyV
 by_cases e1:a=c
 · subst e1
   by_cases e3:b<d
   · have hv:ltK (a,b) (a,d)=true:=by simp [ltK,e3]
     rw [hv];clear hv
     go_enter Tryz.func232,Tryz.ntmps232
     go_wp2
     go_ret
     exact ⟨rfl,(jR.alloc (Nat.le_refl _) _).alloc (by simp) _⟩
   · have hv:ltK (a,b) (a,d)=false:=by simp [ltK,e3]
     rw [hv];clear hv
     go_enter Tryz.func232,Tryz.ntmps232
     go_wp2
     go_ret
     exact ⟨rfl,(jR.alloc (Nat.le_refl _) _).alloc (by simp) _⟩
 · have q:((a:Int) != (c:Int))=true:=by simp;omega
   by_cases e3:a<c
   · have hv:ltK (a,b) (c,d)=true:=by simp [ltK,e1,e3]
     rw [hv];clear hv
     go_enter Tryz.func232,Tryz.ntmps232
     go_wp2
     go_ret
     exact ⟨rfl,(jR.alloc (Nat.le_refl _) _).alloc (by simp) _⟩
   · have hv:ltK (a,b) (c,d)=false:=by simp [ltK,e1,e3]
     rw [hv];clear hv
     go_enter Tryz.func232,Tryz.ntmps232
     go_wp2
     go_ret
     exact ⟨rfl,(jR.alloc (Nat.le_refl _) _).alloc (by simp) _⟩
end
section
open Go.RowKit Go.Lib
theorem grown_below {B:Nat} {a b:World} {row:Option Nat} (h:a.grownBy b row) (hB:B≤a.heap.size) (hr:∀k,row=some k→B≤k):Below B a b:=(Below.refl B a).grown h hB hr
theorem own_lower {w:World} {base base':Nat} {e:TypeId} {size:Nat} {v:Value} {n:Nat} {xs:List Value} (h:w.ownsRow base e size v n xs) (hb:base'≤base):w.ownsRow base' e size v n xs:=by
 refine ⟨h.1,?_⟩
 rcases h.2 with hn|⟨g,cap,cur,hv,hg,rest⟩
 · exact .inl hn
 · exact .inr ⟨g,cap,cur,hv,Nat.le_trans hb hg,rest⟩
end
section
open Go.RowKit Go.Lib
open Go.Maps (Keyed)
open Go.ChangeMaps (setBlock modify_eq_set map_eraseIdx)
theorem nodup_inj {α:Type}:∀{l:List α},l.Nodup→∀{i j:Nat} {x:α},l[i]?=some x→l[j]?=some x→i=j
  | [],_,i,j,x,h,_=>by simp at h
  | a::l,hn,0,0,x,_,_=>rfl
  | a::l,hn,0,j+1,x,h,k=>by
    rw [List.nodup_cons] at hn;simp at h k
    exact absurd (h ▸ List.mem_of_getElem? k) hn.1
  | a::l,hn,i+1,0,x,h,k=>by
    rw [List.nodup_cons] at hn;simp at h k
    exact absurd (k ▸ List.mem_of_getElem? h) hn.1
  | a::l,hn,i+1,j+1,x,h,k=>by
    rw [List.nodup_cons] at hn;simp at h k
    rw [nodup_inj hn.2 h k]
def MapIn {α β:Type} (K:α→Value) (V:β→Value) (w:World) (b:Nat) (es:List (α × β)):Prop :=
 ∃ents clock,w.heap[b]?=some (.map ents clock)∧ents.toList.map (fun e=>(e.key,e.val))=es.map (fun p=>(K p.1,V p.2))∧(ents.toList.map (·.born)).Nodup∧(∀e∈ents.toList,e.born<clock)∧(es.map (·.1)).Nodup
section
variable {α β:Type} [DecidableEq α]
def findM (es:List (α × β)) (x:α):Option β:=(es.find? (fun p=>p.1=x)).map (·.2)
def hasM (es:List (α × β)) (x:α):Bool:=es.any (fun p=>p.1=x)
def putM (es:List (α × β)) (x:α) (v:β):List (α × β):=if hasM es x then es.map (fun p=>if p.1=x then (x,v) else p) else es++[(x,v)]
def delM (es:List (α × β)) (x:α):List (α × β):=es.filter (fun p=>¬p.1=x)
theorem keys_putM (es:List (α × β)) (x:α) (v:β):(putM es x v).map (·.1)=if hasM es x then es.map (·.1) else es.map (·.1)++[x]:=by
 unfold putM
 split
 · rw [List.map_map]
   refine List.map_congr_left (fun p _=>?_);simp only [Function.comp]
   split
   · rename_i h;exact h.symm
   · rfl
 · simp
theorem hasM_iff (es:List (α × β)) (x:α):hasM es x=true ↔ x∈es.map (·.1):=by
 simp [hasM]
theorem nodup_putM {es:List (α × β)} (h:(es.map (·.1)).Nodup) (x:α) (v:β):((putM es x v).map (·.1)).Nodup:=by
 rw [keys_putM]
 split
 · exact h
 · rename_i hn
   have:x∉es.map (·.1):=fun hx=>hn ((hasM_iff es x).2 hx)
   rw [List.nodup_append];refine ⟨h,by simp,fun a ha b hb=>?_⟩;rw [List.mem_singleton.1 hb];exact fun e=>this (e ▸ ha)
theorem nodup_delM {es:List (α × β)} (h:(es.map (·.1)).Nodup) (x:α):((delM es x).map (·.1)).Nodup :=
 h.sublist (List.Sublist.map _ List.filter_sublist)
theorem findM_none {es:List (α × β)} {x:α} (h:hasM es x=false):findM es x=none:=by
 simp only [findM,Option.map_eq_none_iff,List.find?_eq_none]
 intro p hp;simp only [hasM,List.any_eq_false] at h
 exact h p hp
theorem findM_some {es:List (α × β)} {x:α} (h:hasM es x=true):∃v,findM es x=some v∧(x,v)∈es:=by
 simp only [hasM,List.any_eq_true,decide_eq_true_eq] at h
 obtain ⟨p,hp,rfl⟩:=h
 cases hf:es.find? (fun q=>q.1=p.1) with
 | none =>
   rw [List.find?_eq_none] at hf;exact absurd (decide_eq_true rfl) (hf p hp)
 | some q =>
   have h1:=List.find?_some hf;have h2:=List.mem_of_find?_eq_some hf;simp at h1
   exact ⟨q.2,by simp [findM,hf],by rw [←h1];exact h2⟩
end
section
variable {α β:Type} [DecidableEq α] {K:α→Value} {V:β→Value} {P:Program} {k t e:TypeId} {w:World} {b:Nat} {es:List (α × β)}
theorem MapIn.lt (h:MapIn K V w b es):b<w.heap.size:=by
 obtain ⟨ents,clock,hb,_⟩:=h;exact (jL hb)
theorem MapIn.block {w':World} (h:MapIn K V w b es) (hb:w'.heap[b]?=w.heap[b]?):MapIn K V w' b es:=by
 obtain ⟨ents,clock,h1,h2⟩:=h;exact ⟨ents,clock,hb.trans h1,h2⟩
theorem MapIn.below {w':World} (h:MapIn K V w b es) (hb:jB w w'):MapIn K V w' b es:=h.block (hb.block b h.lt)
theorem MapIn.made (w:World):MapIn K V (w.alloc (.map #[] 0)) w.heap.size ([]:List (α × β)) :=
 ⟨#[],0,(MapKept.heap_alloc w _).1,rfl,List.nodup_nil,fun _ h=>by simp at h,List.nodup_nil⟩
structure KeysBy (P:Program) (k:TypeId) (K:α→Value):Prop where
 law:Keyed P k
 key:∀x,∃l,keyOf P k (K x)=some l
 inj:∀x y,K x=K y→x=y
theorem ents_at {ents:List MapEntry} (hm:ents.map (fun e=>(e.key,e.val))=es.map (fun p=>(K p.1,V p.2))) {j:Nat} {e0:MapEntry} (h:ents[j]?=some e0):∃p,es[j]?=some p∧e0.key=K p.1∧e0.val=V p.2:=by
 have:=congrArg (·[j]?) hm;simp only [List.getElem?_map,h,Option.map_some] at this
 cases hp:es[j]? with
 | none=>rw [hp] at this;cases this
 | some p =>
   rw [hp] at this;simp only [Option.map_some,Option.some.injEq,Prod.mk.injEq] at this
   exact ⟨p,rfl,this.1,this.2⟩
theorem ents_mem {ents:List MapEntry} (hm:ents.map (fun e=>(e.key,e.val))=es.map (fun p=>(K p.1,V p.2))) {e0:MapEntry} (h:e0∈ents):∃p∈es,e0.key=K p.1∧e0.val=V p.2:=by
 obtain ⟨j,hj⟩:=List.getElem?_of_mem h;obtain ⟨p,h1,h2⟩:=ents_at hm hj;exact ⟨p,List.mem_of_getElem? h1,h2⟩
theorem MapIn.find (B:KeysBy P k K) {ents:Array MapEntry} (hm:ents.toList.map (fun e=>(e.key,e.val))=es.map (fun p=>(K p.1,V p.2))) (hn:(es.map (·.1)).Nodup) (w:World) (x:α) :
 ((Instr.findKey k (K x) ents.toList).run P w=.ok none w∧hasM es x=false) ∨
 ∃j e0 v,(Instr.findKey k (K x) ents.toList).run P w=.ok (some (j,V v)) w∧ents.toList[j]?=some e0∧e0.key=K x∧es[j]?=some (x,v)∧findM es x=some v∧hasM es x=true:=by
 obtain ⟨l,hl⟩:=B.key x
 rcases B.law.find w hl ents.toList (fun e he=>by obtain ⟨p,_,h1,_⟩:=ents_mem hm he;rw [h1];exact B.key p.1) with ⟨h1,h2⟩|⟨j,e0,h1,h2,h3⟩
 · refine .inl ⟨h1,?_⟩
   rw [hasM,List.any_eq_false];intro p hp;simp only [decide_eq_true_eq]
   rintro rfl;obtain ⟨j,hj⟩:=List.getElem?_of_mem hp;have:=congrArg (·[j]?) hm;simp only [List.getElem?_map,hj,Option.map_some] at this
   cases he:ents.toList[j]? with
   | none=>rw [he] at this;cases this
   | some e0 =>
     rw [he] at this;simp only [Option.map_some,Option.some.injEq,Prod.mk.injEq] at this
     exact h2 e0 (List.mem_of_getElem? he) this.1
 · obtain ⟨p,hp,hk,hv⟩:=ents_at hm h2
   have hpx:p.1=x:=B.inj _ _ (hk.symm.trans h3);obtain ⟨x',v⟩:=p;simp only at hpx hv
   subst hpx;have hh:hasM es x'=true:=by rw [hasM_iff];exact List.mem_map.2 ⟨_,List.mem_of_getElem? hp,rfl⟩
   obtain ⟨v',hf,hmem⟩:=findM_some hh;refine .inr ⟨j,e0,v,by rw [h1,hv],h2,h3,hp,?_,hh⟩;rw [hf];obtain ⟨i,hi⟩:=List.getElem?_of_mem hmem;have hi1:(es.map (·.1))[i]?=some x':=by simp [hi]
   have hj1:(es.map (·.1))[j]?=some x':=by simp [hp]
   have hij:i=j:=nodup_inj hn hi1 hj1;subst hij;rw [hp] at hi;injection hi with hi
   injection hi with _ hi
   rw [hi]
theorem MapIn.look (h:MapIn K V w b es) (B:KeysBy P k K) (ht:P.underlying t=some (.map k e)) {z:Value} (hz:(zeroValue e).run P w=.ok z w) (c:Bool) (x:α) :
 (Instr.lookup t (.map (some b)) (K x) c).run P w=.ok (if c then .tuple #[((findM es x).map V).getD z,.bool (hasM es x)] else ((findM es x).map V).getD z) w:=by
 obtain ⟨ents,clock,hb,hm,_,_,hn⟩:=h;obtain ⟨l,hl⟩:=B.key x
 rcases MapIn.find B hm hn w x with ⟨h1,h2⟩|⟨j,e0,v,h1,_,_,_,h5,h6⟩
 · simp [Instr.lookup,run_underlying ht,MapKept.run_getObj_map hb,B.law.check w _ hl,h1,hz,findM_none h2,h2,Result.andThen]
 · simp [Instr.lookup,run_underlying ht,MapKept.run_getObj_map hb,B.law.check w _ hl,h1,h5,h6,Result.andThen]
theorem map_set_eq {γ δ:Type} (f:γ→δ) (l:List γ) (j:Nat) (y:γ):(l.set j y).map f=(l.map f).set j (f y):=by simp
theorem MapIn.store (h:MapIn K V w b es) (B:KeysBy P k K) (ht:P.underlying t=some (.map k e)) (x:α) (v:β) :
 ∃o,(Instr.mapUpdate t (.map (some b)) (K x) (V v)).run P w=.ok () (setBlock w b o)∧MapIn K V (setBlock w b o) b (putM es x v):=by
 have hlt:=h.lt;obtain ⟨ents,clock,hb,hm,hbn,hcl,hn⟩:=h;obtain ⟨l,hl⟩:=B.key x;have hself:∀o,(setBlock w b o).heap[b]?=some o:=fun o=>by simp [setBlock,hlt]
 rcases MapIn.find B hm hn w x with ⟨h1,h2⟩|⟨j,e0,v0,h1,h3,h4,h5,_,h6⟩
 · refine ⟨.map (ents.push ⟨K x,V v,clock⟩) (clock+1),?_,_,_,hself _,?_,?_,?_,nodup_putM hn x v⟩
   · simp [Instr.mapUpdate,run_underlying ht,MapKept.run_getObj_map hb,B.law.check w false hl,h1,MapKept.run_setObj_map _ hb,Result.andThen,setBlock]
   · rw [putM,if_neg (by rw [h2];simp),Array.toList_push,List.map_append,hm,List.map_append]
     rfl
   · rw [Array.toList_push,List.map_append,List.nodup_append]
     refine ⟨hbn,by simp,fun a ha c hc=>?_⟩;simp only [List.map_cons,List.map_nil,List.mem_singleton] at hc
     obtain ⟨e1,he1,rfl⟩:=List.mem_map.1 ha;have:=hcl e1 he1;omega
   · intro e1 he1
     rw [Array.toList_push,List.mem_append,List.mem_singleton] at he1
     rcases he1 with he1|rfl
     · have:=hcl e1 he1;omega
     · exact Nat.lt_succ_self _
 · have hjl:j<ents.toList.length:=(List.getElem?_eq_some_iff.1 h3).1
   have hj:ents[j]?=some e0:=by simpa using h3
   have hlist:(ents.modify j (fun e'=>{ e' with key:=K x,val:=V v })).toList=ents.toList.set j { e0 with key:=K x,val:=V v }:=by rw [Array.toList_modify,modify_eq_set _ _ _ _ h3]
   refine ⟨.map (ents.modify j (fun e'=>{ e' with key:=K x,val:=V v })) clock,?_,_,_,hself _,?_,?_,?_,nodup_putM hn x v⟩
   · simp [Instr.mapUpdate,run_underlying ht,MapKept.run_getObj_map hb,B.law.check w false hl,h1,hj,h4,B.law.stays w hl,MapKept.run_setObj_map _ hb,Result.andThen,setBlock]
   · rw [hlist,map_set_eq,hm,putM,if_pos h6]
     apply List.ext_getElem?
     intro i;simp only [List.getElem?_set,List.getElem?_map,List.length_map]
     by_cases hij:j=i
     · subst hij
       have hjl':=(List.getElem?_eq_some_iff.1 h5).1;rw [if_pos rfl,if_pos hjl',h5];simp
     · rw [if_neg hij]
       cases hi:es[i]? with
       | none=>rfl
       | some q =>
         have hne:¬q.1=x:=by
          intro hq;have hi1:(es.map (·.1))[i]?=some x:=by simp [hi,hq]
          have hj1:(es.map (·.1))[j]?=some x:=by simp [h5]
          exact hij (nodup_inj hn hj1 hi1)
         simp [hne]
   · rw [hlist,map_set_eq]
     have:(ents.toList.map (·.born)).set j e0.born=ents.toList.map (·.born):=by
      apply List.ext_getElem?
      intro i;rw [List.getElem?_set]
      split
      · rename_i h
        subst h;rw [if_pos (by simpa using hjl),List.getElem?_map,h3];rfl
      · rfl
     simp only [this]
     exact hbn
   · intro e1 he1
     rw [hlist] at he1
     rcases List.mem_or_eq_of_mem_set he1 with he1|rfl
     · exact hcl e1 he1
     · exact hcl e0 (List.mem_of_getElem? h3)
theorem filter_erase {es:List (α × β)} (hn:(es.map (·.1)).Nodup) {x:α} {v:β} {j:Nat} (h:es[j]?=some (x,v)):delM es x=es.eraseIdx j:=by
 induction es generalizing j with
 | nil=>simp at h
 | cons p es ih =>
   rw [List.map_cons,List.nodup_cons] at hn
   cases j with
   | zero =>
     simp at h
     subst h;rw [delM,List.filter_cons_of_neg (by simp),List.eraseIdx_zero,List.tail_cons];refine List.filter_eq_self.2 (fun q hq=>?_);simp only [decide_eq_true_eq]
     intro e1;exact hn.1 (List.mem_map.2 ⟨q,hq,e1⟩)
   | succ j =>
     simp at h
     have hpx:¬p.1=x:=fun e1=>hn.1 (List.mem_map.2 ⟨_,List.mem_of_getElem? h,e1.symm⟩)
     rw [delM,List.filter_cons_of_pos (by simpa using hpx),List.eraseIdx_cons_succ];exact congrArg (p::·) (ih hn.2 h)
theorem MapIn.drop (h:MapIn K V w b es) (B:KeysBy P k K) (ht:P.underlying t=some (.map k e)) (x:α) (ty:TypeId) :
 ∃o,(Builtin.delete_ #[t,k] ty #[.map (some b),K x]).run P w=.ok (.tuple #[]) (setBlock w b o)∧MapIn K V (setBlock w b o) b (delM es x):=by
 have hlt:=h.lt;obtain ⟨ents,clock,hb,hm,hbn,hcl,hn⟩:=h;obtain ⟨l,hl⟩:=B.key x;have hself:∀o,(setBlock w b o).heap[b]?=some o:=fun o=>by simp [setBlock,hlt]
 rcases MapIn.find B hm hn w x with ⟨h1,h2⟩|⟨j,e0,v0,h1,h3,h4,h5,_,h6⟩
 · refine ⟨.map ents clock,?_,_,_,hself _,?_,hbn,hcl,nodup_delM hn x⟩
   · simp [Builtin.delete_,run_underlying ht,MapKept.run_getObj_map hb,B.law.check w _ hl,h1,MapKept.run_setObj_map _ hb,Result.andThen,setBlock]
   · rw [hm]
     have:delM es x=es:=List.filter_eq_self.2 (fun q hq=>by
      simp only [hasM,List.any_eq_false,decide_eq_true_eq] at h2
      simpa using h2 q hq)
     rw [this]
 · have hjl:j<ents.toList.length:=(List.getElem?_eq_some_iff.1 h3).1
   have hjs:j<ents.size:=by simpa using hjl
   have hsub:(ents.eraseIdxIfInBounds j).toList=ents.toList.eraseIdx j:=by
    unfold Array.eraseIdxIfInBounds;rw [dif_pos hjs];simp
   refine ⟨.map (ents.eraseIdxIfInBounds j) clock,?_,_,_,hself _,?_,?_,?_,nodup_delM hn x⟩
   · simp [Builtin.delete_,run_underlying ht,MapKept.run_getObj_map hb,B.law.check w _ hl,h1,MapKept.run_setObj_map _ hb,Result.andThen,setBlock]
   · rw [hsub,map_eraseIdx,hm,filter_erase hn h5,map_eraseIdx]
   · rw [hsub]
     exact hbn.sublist ((List.eraseIdx_sublist _ _).map _)
   · intro e1 he1
     rw [hsub] at he1;exact hcl e1 ((List.eraseIdx_sublist _ _).subset he1)
theorem MapIn.len (h:MapIn K V w b es) (ht:P.underlying t=some (.map k e)) (ty:TypeId):(Builtin.len_ #[t] ty #[.map (some b)]).run P w=.ok (.int .i64 es.length) w:=by
 obtain ⟨ents,clock,hb,hm,_⟩:=h;have hs:ents.size=es.length:=by simpa using congrArg List.length hm
 simp [Builtin.len_,run_underlying ht,MapKept.run_getObj_map hb,goInt,hs,Result.andThen]
end
end
end Go.Proofs.YtkcdhaallnhhmaaGreat
