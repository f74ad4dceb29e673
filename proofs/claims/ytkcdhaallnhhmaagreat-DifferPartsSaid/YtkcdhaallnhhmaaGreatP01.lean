/- Part 1 of the proof: Base, Row. -/
import Derived.Test.YtkcdhaallnhhmaaGreatRows
import Derived.WalkKit
import Derived.WalkSpells
import Derived.WalkLawsBesides
import Derived.Lib.OthersKept
import Derived.Lib.Hide
import Derived.StillTailTactics
import Derived.Deep.QuietTactic
import Derived.BigQuiet
import Derived.Deep.RegionWith
import Derived.Deep.RegionHeld3
import Derived.Deep.Slices
import Derived.Deep.LoopGhost
import Derived.Lib.SmallJoins
namespace Go.Proofs.YtkcdhaallnhhmaaGreat
set_option linter.unusedSimpArgs false
set_option linter.unusedVariables false
set_option linter.unusedSectionVars false
set_option maxRecDepth 100000
set_option maxHeartbeats 16000000
section
open Go.RowKit Go.Lib
@[go_sem] theorem setCell_drewN (w:World) (n:Nat) (a:Addr) (v:Value):(w.drewN n).setCell a v=(w.setCell a v).drewN n:=rfl
theorem bcell {W w1:World} (hb:Below W.heap.size W w1):(∀b o,b<W.heap.size→w1.cell? ⟨b,o,none⟩=W.cell? ⟨b,o,none⟩)∧(∀b o,b<W.heap.size→w1.frozen? ⟨b,o,none⟩=W.frozen? ⟨b,o,none⟩) :=
 ⟨fun b o h=>hb.cell (p:=⟨b,o,none⟩) h,fun b o h=>hb.frozen (p:=⟨b,o,none⟩) h⟩
theorem below_drewN {B:Nat} {a w:World} (h:Below B a w) (n:Nat):Below B a (w.drewN n):=⟨h.os,h.tape,h.output,h.size,h.block⟩
theorem bthen {w a b:World} (h:Below w.heap.size w a) (k:Below a.heap.size a b):Below w.heap.size w b:=h.trans (k.mono h.size)
theorem balloc {w a:World} (h:Below w.heap.size w a) (o:Obj):Below w.heap.size w (a.alloc o):=h.alloc h.size o
theorem startA (w:World) (cs:Array Value) (T:TypeId) :
 (∀j,(w.alloc (.cells cs T)).cell? ⟨w.heap.size,j,none⟩=cs[j]?)∧Below w.heap.size w (w.alloc (.cells cs T))∧w.heap.size<(w.alloc (.cells cs T)).heap.size :=
 ⟨fun j=>by simp [go_sem],balloc (Below.refl _ _) _,by simp⟩
theorem next_ascii_n {P:Program} (w:World) (s:ByteArray) (pos n H:Nat) (ty:TypeId) (hH:w.heap.size=H) (h:pos<s.size) (ha:(s[pos]'h).toNat<128) :
 (Instr.next (.pointer (some ⟨H,0,none⟩)) true ty).run P ((w.alloc (.stringIter s pos)).drewN n)=.ok (.tuple #[.bool true,.int .i64 pos,.int .i32 (s[pos]'h).toNat]) ((w.alloc (.stringIter s (pos+1))).drewN n):=by
 subst hH
 show (Instr.next (.pointer (some ⟨w.heap.size,0,none⟩)) true ty).run P ((w.iter s pos).drewN n)=.ok (.tuple #[.bool true,.int .i64 pos,.int .i32 (s[pos]'h).toNat]) ((w.iter s (pos+1)).drewN n)
 rw [run_next_ascii_at _ w.heap.size s pos ty (by simp [World.iter_heap]) h ha];have:=World.iter_set w s pos (pos+1);simp only [World.iterAt,World.drewN] at this ⊢
 rw [←this]
theorem next_end_n {P:Program} (w:World) (s:ByteArray) (pos n H:Nat) (ty:TypeId) (hH:w.heap.size=H) (h:¬pos<s.size) :
 (Instr.next (.pointer (some ⟨H,0,none⟩)) true ty).run P ((w.alloc (.stringIter s pos)).drewN n)=.ok (.tuple #[.bool false]) ((w.alloc (.stringIter s pos)).drewN n):=by
 subst hH
 show (Instr.next (.pointer (some ⟨w.heap.size,0,none⟩)) true ty).run P ((w.iter s pos).drewN n)=.ok (.tuple #[.bool false]) ((w.iter s pos).drewN n)
 rw [run_next_end_at _ w.heap.size s pos ty (by simp [World.iter_heap]) h]
theorem iterPos_n (w:World) (s:ByteArray) (pos n H:Nat) (hH:w.heap.size=H):((w.alloc (.stringIter s pos)).drewN n).iterPos H=pos:=by
 subst hH;exact World.iterPos_iter w s pos
@[go_sem] theorem below_alloc_s {w a:World} {o:Obj} (h:Below w.heap.size w a):Below w.heap.size w (a.alloc o)=True:=eq_true (balloc h o)
@[go_sem] theorem below_drewN_s {n:Nat} {w a:World} {k:Nat} (h:Below n w a):Below n w (a.drewN k)=True:=eq_true (below_drewN h k)
@[go_sem] theorem below_drew_s {n:Nat} {w a:World} (h:Below n w a):Below n w a.drew=True:=eq_true h.drew
@[go_sem] theorem below_setCell_s {n:Nat} {w a:World} {p:Addr} {v:Value} (h:Below n w a) (hp:n≤p.block):Below n w (a.setCell p v)=True:=eq_true (h.setCell hp v)
@[go_sem] theorem below_refl_s {n:Nat} {w:World}:Below n w w=True:=eq_true (Below.refl n w)
theorem box_cells {W w1:World} (hb:Below W.heap.size W w1) {B:Nat} {cs:Array Value} {T:TypeId} (hB:W.heap[B]?=some (.cells cs T (0,0))):(∀j,w1.cell? ⟨B,j,none⟩=cs[j]?)∧(∀j,w1.frozen? ⟨B,j,none⟩=false)∧B<w1.heap.size:=by
 have hlt:B<W.heap.size:=(Array.getElem?_eq_some_iff.1 hB).1;have h1:=(hb.block B hlt).trans hB;exact ⟨fun j=>by simp [World.cell?,h1],fun j=>by simp [World.frozen?,h1],Nat.lt_of_lt_of_le hlt hb.size⟩
theorem box_old (w:World) (o1 o2:Obj):((w.alloc o1).alloc o2).heap[w.heap.size]?=some o1:=(Below.heap_alloc _ _ _ (by simp)).trans (heap_alloc_new _ _)
theorem box_new (w:World) (o1 o2:Obj):((w.alloc o1).alloc o2).heap[w.heap.size+1]?=some o2:=by
 have h:=heap_alloc_new (w.alloc o1) o2
 rwa [World.size_alloc] at h
def keyV (hi lo:Nat):Value:=.agg #[.int .u64 (hi:Nat),.int .u64 (lo:Nat)]
theorem u64_wrap (n:Nat) (h:n<18446744073709551616):IntKind.u64.wrap (n:Int)=(n:Int):=by
 simp only [IntKind.wrap,IntKind.signed,IntKind.bits]
 simp
 omega
theorem ret_int {k:IntKind} {a b:Int} (h:a=b):Ending.returned (.int k a)=.returned (.int k b):=by rw [h]
theorem ret_bool {a b:Bool} (h:a=b):Ending.returned (.bool a)=.returned (.bool b):=by rw [h]
theorem own_form {w:World} {base:Nat} {e:TypeId} {size:Nat} {v:Value} {n:Nat} {xs:List Value} (h:w.ownsRow base e size v n xs):∃A c,v=.slice A n c:=by
 rcases h.2 with ⟨rfl,rfl⟩|⟨g,cap,cur,rfl,_⟩
 · exact ⟨_,_,rfl⟩
 · exact ⟨_,_,rfl⟩
theorem own_below {w w':World} {base:Nat} {e:TypeId} {size:Nat} {v:Value} {n:Nat} {xs:List Value} (h:w.ownsRow base e size v n xs) (hb:Below w.heap.size w w'):w'.ownsRow base e size v n xs :=
 h.kept (row:=none) ⟨hb.os,hb.tape,hb.output,hb.size,fun k hk _=>hb.block k hk⟩ (by cases v.ownBlock <;> simp)
theorem jH {p : Prop} (h : p) : Go.RowKit.Hid p := Go.Lib.hid h
theorem jL {α : Type} {a : Array α} {i : Nat} {v : α} (h : a[i]? = some v) : i < a.size := (Array.getElem?_eq_some_iff.1 h).1
theorem jR {n : Nat} {w : World} : Below n w w := Below.refl _ _
abbrev jB (w w' : World) : Prop := Below w.heap.size w w'
abbrev jP (w : World) (v : Value) (e : Ending) (w' : World) : Prop := e = .returned v ∧ Below w.heap.size w w'
theorem jA {α : Type} : type_of% (@List.getElem_toArray α) ∧ type_of% (@List.getElem_cons_succ α) ∧ type_of% (@List.getElem_cons_zero α) ∧ type_of% (@List.setIfInBounds_toArray α) ∧ type_of% (@List.set_cons_zero α) ∧ type_of% (@List.set_cons_succ α) :=
  ⟨@List.getElem_toArray α, @List.getElem_cons_succ α, @List.getElem_cons_zero α, @List.setIfInBounds_toArray α, @List.set_cons_zero α, @List.set_cons_succ α⟩
theorem jK {w w' : World} {k : Nat} {o : Obj} (hb : Below w.heap.size w w') (h : w.heap[k]? = some o) : w'.heap[k]? = some o := (hb.block _ (Array.getElem?_eq_some_iff.1 h).1).trans h
end
section
open Go.RowKit Go.Lib Go.ChangeShapes Go.WideShapes Go.Joins
theorem add_at (b o i:Nat):(Addr.mk b o none).add i=⟨b,o+i,none⟩:=by
 unfold Addr.add
 split
 · subst_vars;rfl
 · rfl
def RowIn {α:Type} (n:Nat) (f:α→List Value) (w:World) (v:Value) (l:List α):Prop :=
 ∃A c,v=.slice A l.length c∧l.length≤c∧(0<l.length→∃b o,A=some ⟨b,o,none⟩∧b<w.heap.size∧∀k x,l[k]?=some x→∀j u,(f x)[j]?=some u→w.cell? ⟨b,o+k * n+j,none⟩=some u)
theorem RowIn.below {α:Type} {n:Nat} {f:α→List Value} {w w':World} {v:Value} {l:List α} (h:RowIn n f w v l) (hb:jB w w'):RowIn n f w' v l:=by
 obtain ⟨A,c,hv,hc,h⟩:=h;refine ⟨A,c,hv,hc,fun hn=>?_⟩;obtain ⟨b,o,hA,hlt,h⟩:=h hn;exact ⟨b,o,hA,Nat.lt_of_lt_of_le hlt hb.size,fun k x hk j u hu=>(hb.cell (p:=⟨b,_,none⟩) hlt).trans (h k x hk j u hu)⟩
theorem RowIn.nil {α:Type} {n:Nat} {f:α→List Value} {w:World} {A:Option Addr} {c:Nat}:RowIn n f w (.slice A 0 c) ([]:List α) :=
 ⟨A,c,rfl,Nat.zero_le _,fun h=>absurd h (Nat.lt_irrefl _)⟩
theorem RowIn.at_ {α:Type} {n:Nat} {f:α→List Value} {w:World} {A:Option Addr} {m c:Nat} {l:List α} (h:RowIn n f w (.slice A m c) l) {k:Nat} (hk:k<l.length) :
 ∃b o,A=some ⟨b,o,none⟩∧b<w.heap.size∧∀j u,(f l[k])[j]?=some u→w.cell? ⟨b,o+k * n+j,none⟩=some u:=by
 obtain ⟨A1,c1,hv,_,h⟩:=h;injection hv with e1 e2 e3
 subst e1;obtain ⟨b,o,hA,hlt,h⟩:=h (by omega);exact ⟨b,o,hA,hlt,h k l[k] (List.getElem?_eq_getElem hk)⟩
def cellsOfRow {α:Type} (f:α→List Value) (l:List α):List Value:=l.flatMap f
theorem cellsOfRow_cons {α:Type} (f:α→List Value) (x:α) (l:List α):cellsOfRow f (x::l)=f x++cellsOfRow f l:=rfl
theorem cellsOfRow_append {α:Type} (f:α→List Value) (l m:List α):cellsOfRow f (l++m)=cellsOfRow f l++cellsOfRow f m:=by simp [cellsOfRow]
theorem cellsOfRow_len {α:Type} {f:α→List Value} {n:Nat} (hf:∀x,(f x).length=n) (l:List α):(cellsOfRow f l).length=l.length * n:=by
 induction l with
 | nil=>simp [cellsOfRow]
 | cons a l ih=>rw [cellsOfRow_cons,List.length_append,ih,hf,List.length_cons,Nat.succ_mul];omega
theorem cellsOfRow_at {α:Type} {f:α→List Value} {n:Nat} (hf:∀x,(f x).length=n) (l:List α):∀(k:Nat) (x:α),l[k]?=some x→∀j u,(f x)[j]?=some u→(cellsOfRow f l)[k * n+j]?=some u:=by
 induction l with
 | nil=>intro k x h;simp at h
 | cons a l ih =>
   intro k x h j u hu
   cases k with
   | zero =>
     simp at h;subst h
     rw [cellsOfRow_cons,Nat.zero_mul,Nat.zero_add,List.getElem?_append_left (List.getElem?_eq_some_iff.1 hu).1,hu]
   | succ k =>
     simp at h
     rw [cellsOfRow_cons,List.getElem?_append_right (by rw [hf,Nat.succ_mul];omega),hf,show (k+1) * n+j - n=k * n+j by rw [Nat.succ_mul];omega];exact ih k x h j u hu
theorem cellsOfRow_one {α:Type} {f:α→List Value} (h1:∀x,∀u∈f x,u.oneCell'=true) (l:List α):∀u∈cellsOfRow f l,u.oneCell'=true:=by
 intro u hu;obtain ⟨x,_,hx⟩:=List.mem_flatMap.1 hu;exact h1 x u hx
theorem cellsOfRow_split {α:Type} {f:α→List Value} {n:Nat} (hn:0<n) (hf:∀x,(f x).length=n) (l:List α) (j:Nat) (u:Value) (h:(cellsOfRow f l)[j]?=some u):∃x,l[j / n]?=some x∧(f x)[j % n]?=some u:=by
 have hj:=(List.getElem?_eq_some_iff.1 h).1;rw [cellsOfRow_len hf] at hj;have hk:j / n<l.length:=by rw [Nat.div_lt_iff_lt_mul hn];exact hj
 refine ⟨l[j / n],List.getElem?_eq_getElem hk,?_⟩;have hm:j % n<(f l[j / n]).length:=by rw [hf];exact Nat.mod_lt _ hn
 have:=cellsOfRow_at hf l (j / n) l[j / n] (List.getElem?_eq_getElem hk) (j % n) _ (List.getElem?_eq_getElem hm);rw [show j / n * n+j % n=j by rw [Nat.mul_comm];exact Nat.div_add_mod j n,h] at this;rw [List.getElem?_eq_getElem hm,this]
theorem RowIn.own {α:Type} {n:Nat} {f:α→List Value} (hf:∀x,(f x).length=n) {w:World} {base:Nat} {e:TypeId} {v:Value} {l:List α} (h:w.ownsRow base e n v l.length (cellsOfRow f l)):RowIn n f w v l:=by
 rcases h.2 with ⟨hv,h0⟩|⟨g,cap,cur,hv,_,_,hc',_⟩
 · obtain rfl:l=[]:=List.eq_nil_of_length_eq_zero h0
   rw [hv];exact RowIn.nil
 · refine ⟨some ⟨g,0,none⟩,cap,hv,hc',fun hn=>⟨g,0,rfl,(h.lt g (by rw [hv];rfl)).2,fun k x hk j u hu=>?_⟩⟩
   have hat:=cellsOfRow_at hf l k x hk j u hu;have hj:=(List.getElem?_eq_some_iff.1 hat).1;rw [cellsOfRow_len hf] at hj;have hkl:=(List.getElem?_eq_some_iff.1 hk).1;subst hv;rw [Nat.zero_add,h.cellAt (k * n+j) hj,hat]
theorem RowIn.part {α:Type} {n:Nat} {f:α→List Value} {w:World} {A:Option Addr} {m c:Nat} {l:List α} (h:RowIn n f w (.slice A m c) l) {i j:Nat} (hij:i≤j) (hj:j≤l.length) :
 RowIn n f w (.slice (if c=i then A else A.map (·.add (i * n))) (j - i) (c - i)) ((l.take j).drop i):=by
 obtain ⟨A1,c1,hv,hc,h⟩:=h;injection hv with e1 e2 e3
 subst e1 e2 e3;have hlen:((l.take j).drop i).length=j - i:=by simp;omega
 refine ⟨_,c - i,by rw [hlen],by omega,fun hn=>?_⟩;rw [hlen] at hn;obtain ⟨b,o,rfl,hlt,h⟩:=h (by omega);rw [if_neg (by omega)];refine ⟨b,o+i * n,by rw [Option.map_some,add_at],hlt,fun k x hk t u hu=>?_⟩;rw [List.getElem?_drop,List.getElem?_take] at hk
 split at hk
 · have:=h (i+k) x hk t u hu
   rw [Nat.add_mul] at this;rw [show o+i * n+k * n+t=o+(i * n+k * n)+t by omega];exact this
 · cases hk
section
variable {H:Type} {enc:TypeId × Value→H} {P:Program} {w:World} {base:Nat} {spare:Nat→Bool} {held:Bool}
theorem cells_first {a:Addr} {n:Nat} {cs:List Value} (h:w.cells? base a n=some cs) (hn:0<n):a.spot=none∧a.block<w.heap.size:=by
 obtain ⟨_,hl,hc⟩:=World.cells?_some h;have h0:=hc 0 hn;rw [List.getElem?_eq_getElem (by omega)] at h0;have ha:a.add 0=a:=rfl;rw [ha] at h0;exact ⟨World.cell?_spot h0,World.block_lt_of_cell? w _ h0⟩
theorem row_read {α:Type} [Inhabited α] {n:Nat} {f:α→List Value} {ok:α→Prop} {t e:TypeId} (ht:P.underlying t=some (.slice e)) (hn:P.cellsOf e=n) (hpos:0<n)
    (hread:∀fuel cs x,DataW.trod enc P w base spare held fuel e cs=some x→∃d,ok d∧cs=f d)
    {fuel:Nat} {cs:List Value} {x:DataW H × List MemPlace} (h:DataW.trod enc P w base spare held fuel t cs=some x) :
    ∃(v:Value) (l:List α),cs=[v]∧l.length≤maxLen∧(∀p∈l,ok p)∧RowIn n f w v l:=by
  rcases Go.Deep.open_slice ht h with ⟨rfl,_⟩|⟨a,len,cap,m,fu,D,Pl,rfl,_,hlc,hcm,hm,_,hr⟩
  · exact ⟨_,[],rfl,Nat.zero_le _,fun _ h=>(by simp at h),RowIn.nil⟩
  · have hlm:len≤m:=by rw [hm];split <;> omega
    rw [hn] at hr;have hch:∀i,i<len→∃c:α,ok c∧w.cells? base (a.add (i * n)) n=some (f c):=by
     intro i hi;obtain ⟨cs',hcs,ht⟩:=hr i (Nat.lt_of_lt_of_le hi hlm);obtain ⟨c,hok,rfl⟩:=hread _ _ _ ht;exact ⟨c,hok,hcs⟩
    obtain ⟨g,hg⟩:=Go.Deep.choose_lt hch;have hlen:((List.range len).map g).length=len:=by simp
    refine ⟨_,(List.range len).map g,rfl,by rw [hlen];omega,fun p hp=>?_,some a,cap,by rw [hlen],by rw [hlen];exact hlc,fun hpos'=>?_⟩
    · obtain ⟨i,hi,rfl⟩:=List.mem_map.1 hp
      exact (hg i (List.mem_range.1 hi)).1
    rw [hlen] at hpos';obtain ⟨b,o,s⟩:=a;obtain ⟨hs,hb⟩:=cells_first (hg 0 hpos').2 hpos;have hs':s=none:=by simpa [Addr.add] using hs
    subst hs';refine ⟨b,o,rfl,by simpa [Addr.add] using hb,fun k x hk j u hu=>?_⟩;simp only [List.getElem?_map,List.getElem?_range] at hk
    by_cases hkl:k<len
    · simp [hkl] at hk
      subst hk;obtain ⟨_,hl,hc⟩:=World.cells?_some (hg k hkl).2;have hj:j<n:=by have:=(List.getElem?_eq_some_iff.1 hu).1;omega
      have:=hc j hj;rw [add_at,add_at] at this;rw [this,hu]
    · simp [hkl] at hk
end
end
end Go.Proofs.YtkcdhaallnhhmaaGreat
