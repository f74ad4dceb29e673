/- Part 1 of the proof. -/
import Derived.Lib.Hide
import Derived.Test.YtmniiodpbebnmaaGreatRows
import Derived.WalkKit
import Derived.WalkSpells
import Derived.WalkLawsBesides
import Derived.Lib.OthersKept
import Derived.StillTailTactics
import Derived.Deep.QuietTactic
import Derived.BigQuiet
import Derived.Deep.RegionWith
import Derived.Deep.RegionHeld3
import Derived.Deep.Slices
import Derived.Deep.LoopGhost
import Derived.Lib.SmallJoins
namespace Go.Proofs.YtmniiodpbebnmaaGreat
set_option linter.unusedSimpArgs false
set_option linter.unusedVariables false
set_option linter.unusedSectionVars false
set_option maxRecDepth 100000
set_option maxHeartbeats 16000000
section
open Go.RowKit Go.Lib
@[go_sem] theorem m1Z (w:World) (n:Nat) (a:Addr) (v:Value):(w.drewN n).setCell a v=(w.setCell a v).drewN n:=rfl
theorem p1I {W w1:World} (hb:Below W.heap.size W w1):(∀b o,b<W.heap.size→w1.cell? ⟨b,o,none⟩=W.cell? ⟨b,o,none⟩)∧(∀b o,b<W.heap.size→w1.frozen? ⟨b,o,none⟩=W.frozen? ⟨b,o,none⟩) :=
 ⟨fun b o h=>hb.cell (p:=⟨b,o,none⟩) h,fun b o h=>hb.frozen (p:=⟨b,o,none⟩) h⟩
theorem a0G {B:Nat} {a w:World} (h:Below B a w) (n:Nat):Below B a (w.drewN n):=⟨h.os,h.tape,h.output,h.size,h.block⟩
theorem a0D {w a b:World} (h:Below w.heap.size w a) (k:Below a.heap.size a b):Below w.heap.size w b:=h.trans (k.mono h.size)
theorem a0C {w a:World} (h:Below w.heap.size w a) (o:Obj):Below w.heap.size w (a.alloc o):=h.alloc h.size o
theorem i0O (w:World) (cs:Array Value) (T:TypeId) :
 (∀j,(w.alloc (.cells cs T)).cell? ⟨w.heap.size,j,none⟩=cs[j]?)∧Below w.heap.size w (w.alloc (.cells cs T))∧w.heap.size<(w.alloc (.cells cs T)).heap.size :=
 ⟨fun j=>by simp [go_sem],a0C (Below.refl _ _) _,by simp⟩
theorem o0P {w a b:World} {g n:Nat} {cs:Array Value} (h:(∀j,a.cell? ⟨g,j,none⟩=cs[j]?)∧Below w.heap.size w a∧g<a.heap.size) (k:Below n a b) (e:n=a.heap.size) :
 (∀j,b.cell? ⟨g,j,none⟩=cs[j]?)∧Below w.heap.size w b∧g<b.heap.size:=by
 subst e;exact ⟨fun j=>(k.cell (p:=⟨g,j,none⟩) h.2.2).trans (h.1 j),a0D h.2.1 k,Nat.lt_of_lt_of_le h.2.2 k.size⟩
theorem m1V {w a:World} {g:Nat} {cs:Array Value} (h:(∀j,a.cell? ⟨g,j,none⟩=cs[j]?)∧Below w.heap.size w a∧g<a.heap.size) :
 (∀j,a.drew.cell? ⟨g,j,none⟩=cs[j]?)∧Below w.heap.size w a.drew∧g<a.drew.heap.size:=⟨h.1,h.2.1.drew,h.2.2⟩
theorem t0C {P:Program} (w:World) (s:ByteArray) (pos n H:Nat) (ty:TypeId) (hH:w.heap.size=H) (h:pos<s.size) (ha:(s[pos]'h).toNat<128) :
 (Instr.next (.pointer (some ⟨H,0,none⟩)) true ty).run P ((w.alloc (.stringIter s pos)).drewN n)=.ok (.tuple #[.bool true,.int .i64 pos,.int .i32 (s[pos]'h).toNat]) ((w.alloc (.stringIter s (pos+1))).drewN n):=by
 subst hH
 show (Instr.next (.pointer (some ⟨w.heap.size,0,none⟩)) true ty).run P ((w.iter s pos).drewN n)=.ok (.tuple #[.bool true,.int .i64 pos,.int .i32 (s[pos]'h).toNat]) ((w.iter s (pos+1)).drewN n)
 rw [run_next_ascii_at _ w.heap.size s pos ty (by simp [World.iter_heap]) h ha];have:=World.iter_set w s pos (pos+1);simp only [World.iterAt,World.drewN] at this ⊢
 rw [←this]
theorem a1N {P:Program} (w:World) (s:ByteArray) (pos n H:Nat) (ty:TypeId) (hH:w.heap.size=H) (h:¬pos<s.size) :
 (Instr.next (.pointer (some ⟨H,0,none⟩)) true ty).run P ((w.alloc (.stringIter s pos)).drewN n)=.ok (.tuple #[.bool false]) ((w.alloc (.stringIter s pos)).drewN n):=by
 subst hH
 show (Instr.next (.pointer (some ⟨w.heap.size,0,none⟩)) true ty).run P ((w.iter s pos).drewN n)=.ok (.tuple #[.bool false]) ((w.iter s pos).drewN n)
 rw [run_next_end_at _ w.heap.size s pos ty (by simp [World.iter_heap]) h]
theorem k0D (w:World) (s:ByteArray) (pos n H:Nat) (hH:w.heap.size=H):((w.alloc (.stringIter s pos)).drewN n).iterPos H=pos:=by
 subst hH;exact World.iterPos_iter w s pos
@[go_sem] theorem m1L {w a:World} {o:Obj} (h:Below w.heap.size w a):Below w.heap.size w (a.alloc o)=True:=eq_true (a0C h o)
@[go_sem] theorem l1E {n:Nat} {w a:World} {k:Nat} (h:Below n w a):Below n w (a.drewN k)=True:=eq_true (a0G h k)
@[go_sem] theorem n1X {n:Nat} {w a:World} (h:Below n w a):Below n w a.drew=True:=eq_true h.drew
@[go_sem] theorem g1R {n:Nat} {w a:World} {p:Addr} {v:Value} (h:Below n w a) (hp:n≤p.block):Below n w (a.setCell p v)=True:=eq_true (h.setCell hp v)
@[go_sem] theorem n1B {n:Nat} {w:World}:Below n w w=True:=eq_true (Below.refl n w)
theorem a0A {W w1:World} (hb:Below W.heap.size W w1) {B:Nat} {cs:Array Value} {T:TypeId} (hB:W.heap[B]?=some (.cells cs T (0,0))):(∀j,w1.cell? ⟨B,j,none⟩=cs[j]?)∧(∀j,w1.frozen? ⟨B,j,none⟩=false)∧B<w1.heap.size:=by
 have hlt:B<W.heap.size:=(Array.getElem?_eq_some_iff.1 hB).1;have h1:=(hb.block B hlt).trans hB;exact ⟨fun j=>by simp [World.cell?,h1],fun j=>by simp [World.frozen?,h1],Nat.lt_of_lt_of_le hlt hb.size⟩
theorem d0V (w:World) (o1 o2:Obj):((w.alloc o1).alloc o2).heap[w.heap.size]?=some o1:=(Below.heap_alloc _ _ _ (by simp)).trans (heap_alloc_new _ _)
theorem c0G (w:World) (o1 o2:Obj):((w.alloc o1).alloc o2).heap[w.heap.size+1]?=some o2:=by
 have h:=heap_alloc_new (w.alloc o1) o2
 rwa [World.size_alloc] at h
def o1Z (hi lo:Nat):Value:=.agg #[.int .u64 (hi:Nat),.int .u64 (lo:Nat)]
theorem c0R (n:Nat) (h:n<18446744073709551616):IntKind.u64.wrap (n:Int)=(n:Int):=by
 simp only [IntKind.wrap,IntKind.signed,IntKind.bits]
 simp
 omega
theorem e0U {k:IntKind} {a b:Int} (h:a=b):Ending.returned (.int k a)=.returned (.int k b):=by rw [h]
theorem x0T {a b:Bool} (h:a=b):Ending.returned (.bool a)=.returned (.bool b):=by rw [h]
theorem i0A {w:World} {base:Nat} {e:TypeId} {size:Nat} {v:Value} {n:Nat} {xs:List Value} (h:w.ownsRow base e size v n xs):∃A c,v=.slice A n c:=by
 rcases h.2 with ⟨rfl,rfl⟩|⟨g,cap,cur,rfl,_⟩
 · exact ⟨_,_,rfl⟩
 · exact ⟨_,_,rfl⟩
theorem n0X {w w':World} {base:Nat} {e:TypeId} {size:Nat} {v:Value} {n:Nat} {xs:List Value} (h:w.ownsRow base e size v n xs) (hb:Below w.heap.size w w'):w'.ownsRow base e size v n xs :=
 h.kept (row:=none) ⟨hb.os,hb.tape,hb.output,hb.size,fun k hk _=>hb.block k hk⟩ (by cases v.ownBlock <;> simp)
theorem jH {p : Prop} (h : p) : Go.RowKit.Hid p := Go.Lib.hid h
theorem jL {α : Type} {a : Array α} {i : Nat} {v : α} (h : a[i]? = some v) : i < a.size := (Array.getElem?_eq_some_iff.1 h).1
theorem jR {n : Nat} {w : World} : Below n w w := Below.refl _ _
abbrev jB (w w' : World) : Prop := Below w.heap.size w w'
abbrev jP (w : World) (v : Value) (e : Ending) (w' : World) : Prop := e = .returned v ∧ Below w.heap.size w w'
theorem jA {α : Type} : type_of% (@List.getElem_toArray α) ∧ type_of% (@List.getElem_cons_succ α) ∧ type_of% (@List.getElem_cons_zero α) ∧ type_of% (@List.setIfInBounds_toArray α) ∧ type_of% (@List.set_cons_zero α) ∧ type_of% (@List.set_cons_succ α) :=
  ⟨@List.getElem_toArray α, @List.getElem_cons_succ α, @List.getElem_cons_zero α, @List.setIfInBounds_toArray α, @List.set_cons_zero α, @List.set_cons_succ α⟩
theorem jK {w w' : World} {k : Nat} {o : Obj} (hb : Below w.heap.size w w') (h : w.heap[k]? = some o) : w'.heap[k]? = some o := (hb.block _ (Array.getElem?_eq_some_iff.1 h).1).trans h
end
section
def k0R (c:Int):Int :=
 if c=45 then 1 else if c=46 then 2 else if 48≤c∧c≤57 then c - 45 else if c=95 then 13 else if 97≤c∧c≤122 then c - 83 else 0
theorem p0Y (c:Int):0≤k0R c∧k0R c≤39:=by
 unfold k0R
 repeat' split
 all_goals omega
theorem o0Z (c:Int) (h:128≤c):k0R c=0:=by
 unfold k0R
 repeat' split
 all_goals omega
def g0D (b:UInt8):Nat:=(k0R b.toNat).toNat
def okB (b:UInt8):Bool:=decide (g0D b≠0)
theorem l1C (b:UInt8):g0D b≤39:=by
 have:=p0Y b.toNat;unfold g0D;omega
theorem k0P (b:UInt8):k0R b.toNat=(g0D b:Int):=by
 have:=p0Y b.toNat;unfold g0D;omega
theorem r0L (b:UInt8) (h:okB b=true):b.toNat<128:=by
 rcases Nat.lt_or_ge b.toNat 128 with h1|h1
 · exact h1
 · have:=o0Z b.toNat (by omega)
   simp [okB,g0D,this] at h
theorem y0J (a b:UInt8) (ha:okB a=true) (hb:okB b=true):g0D a<g0D b ↔ a.toNat<b.toNat:=by
 have ha':g0D a≠0:=by simpa [okB] using ha
 have hb':g0D b≠0:=by simpa [okB] using hb
 unfold g0D k0R at *;have:=a.toNat_lt;have:=b.toNat_lt;generalize a.toNat=x at *;generalize b.toNat=y at *
 repeat' split at ha'
 all_goals repeat' split at hb'
 all_goals first|omega|(simp at ha')|(simp at hb')|skip
 all_goals (repeat' split) <;> omega
theorem f1K (a b:UInt8) (ha:okB a=true) (h:g0D a=g0D b):a=b:=by
 have hb:okB b=true:=by simpa [okB,←h] using ha
 have h1:=y0J a b ha hb;have h2:=y0J b a hb ha;exact UInt8.toNat_inj.1 (by omega)
def idL (l:List UInt8):Bool:=decide (1≤l.length) && (decide (l.length≤20) && l.all okB)
theorem k0T (l:List UInt8):idL l=true ↔ 1≤l.length∧l.length≤20∧∀b∈l,okB b=true:=by
 simp [idL]
def dig (l:List UInt8) (i:Nat):Nat:=((l[i]?).map g0D).getD 0
theorem d1T (l:List UInt8) (i:Nat):dig l i≤39:=by
 unfold dig
 cases l[i]? with
 | none=>simp
 | some b=>simpa using l1C b
theorem z0E (l:List UInt8) (i:Nat) (h:i<l.length):dig l i=g0D l[i]:=by simp [dig,h]
theorem v0I (l:List UInt8) (i:Nat) (h:l.length≤i):dig l i=0:=by simp [dig,h]
def p0N (l:List UInt8) (a:Nat):Nat→Nat
  | 0=>0
  | n+1=>p0N l a n * 64+dig l (a+n)
theorem v0C (l:List UInt8) (a n:Nat):p0N l a n<64 ^ n:=by
 induction n with
 | zero=>simp [p0N]
 | succ n ih =>
   have:=d1T l (a+n);rw [p0N,Nat.pow_succ];omega
theorem k1V (l:List UInt8) (a m:Nat) (h:l.length≤a+m):∀k,p0N l a (m+k)=p0N l a m * 64 ^ k:=by
 intro k
 induction k with
 | zero=>simp
 | succ k ih =>
   rw [←Nat.add_assoc,p0N,ih,v0I l _ (by omega),Nat.pow_succ,Nat.mul_assoc];simp
theorem y0F (l:List UInt8) (a:Nat):∀n j,j<n→p0N l a n / 64 ^ (n - 1 - j) % 64=dig l (a+j):=by
 intro n
 induction n with
 | zero=>intro j h;omega
 | succ n ih =>
   intro j h;have hd:=d1T l (a+n)
   rcases Nat.lt_or_ge j n with h1|h1
   · have e:n+1 - 1 - j=(n - 1 - j)+1:=by omega
     rw [e,Nat.pow_succ,Nat.mul_comm (64 ^ _) 64,←Nat.div_div_eq_div_mul,p0N];rw [show (p0N l a n * 64+dig l (a+n)) / 64=p0N l a n by omega];exact ih j h1
   · have e:n+1 - 1 - j=0:=by omega
     obtain rfl:j=n:=by omega
     rw [e,p0N];simp
     omega
theorem s0Q (l l':List UInt8) (hl:∀b∈l,okB b=true) (hl':∀b∈l',okB b=true) (n:Nat) (h1:l.length≤n) (h2:l'.length≤n)
    (h:∀j,j<n→dig l j=dig l' j):l=l':=by
  have pos:∀(m:List UInt8),(∀b∈m,okB b=true)→∀i,i<m.length→dig m i≠0:=by
   intro m hm i hi;rw [z0E m i hi]
   simpa [okB] using hm _ (List.getElem_mem hi)
  have hlen:l.length=l'.length:=by
   rcases Nat.lt_trichotomy l.length l'.length with hx|hx|hx
   · have:=pos l' hl' l.length hx
     rw [←h _ (by omega),v0I l _ (Nat.le_refl _)] at this;omega
   · exact hx
   · have:=pos l hl l'.length hx
     rw [h _ (by omega),v0I l' _ (Nat.le_refl _)] at this;omega
  refine List.ext_getElem hlen fun i hi hi'=>?_
  have:=h i (by omega);rw [z0E l i hi,z0E l' i hi'] at this;exact f1K _ _ (hl _ (List.getElem_mem hi)) this
def hiN (l:List UInt8):Nat:=p0N l 0 10
def loN (l:List UInt8):Nat:=p0N l 10 10
theorem hiN_lt (l:List UInt8):hiN l<1152921504606846976:=v0C l 0 10
theorem loN_lt (l:List UInt8):loN l<1152921504606846976:=v0C l 10 10
def atN (hi lo i:Nat):Nat:=(if i<10 then hi else lo) / 64 ^ (9 - i % 10) % 64
theorem p1S (l:List UInt8) (i:Nat) (h:i<20):atN (hiN l) (loN l) i=dig l i:=by
 unfold atN hiN loN
 split
 · rename_i h1
   rw [Nat.mod_eq_of_lt h1];have:=y0F l 0 10 i h1
   simpa using this
 · rename_i h1
   have e:i % 10=i - 10:=by omega
   rw [e];have:=y0F l 10 10 (i - 10) (by omega);rw [show 10+(i - 10)=i by omega] at this
   simpa using this
def w0D (hi lo:Nat) (l:List UInt8):Prop:=idL l=true∧hiN l=hi∧loN l=lo
theorem w0D.digs {hi lo:Nat} {l:List UInt8} (h:w0D hi lo l) (i:Nat) (hi20:i<20):atN hi lo i=dig l i:=by
 obtain ⟨_,rfl,rfl⟩:=h;exact p1S l i hi20
theorem w0D.one {hi lo:Nat} {l l':List UInt8} (h:w0D hi lo l) (h':w0D hi lo l'):l=l':=by
 obtain ⟨_,h2,h3⟩:=(k0T l).1 h.1;obtain ⟨_,h2',h3'⟩:=(k0T l').1 h'.1;exact s0Q l l' h3 h3' 20 h2 h2' fun j hj=>by rw [←h.digs j hj,h'.digs j hj]
def e0Z (l:List UInt8) (a m:Nat):Nat:=p0N l a m * 64 ^ (10 - m)
theorem a1D (l:List UInt8) (a:Nat):e0Z l a 0=0:=by simp [e0Z,p0N]
theorem e1Y (l:List UInt8) (a:Nat):e0Z l a 10=p0N l a 10:=by simp [e0Z]
theorem x0X (l:List UInt8) (a m:Nat) (h:m≤10):e0Z l a m<1152921504606846976:=by
 have h1:=v0C l a m;have e:64 ^ m * 64 ^ (10 - m)=1152921504606846976:=by
  rw [←Nat.pow_add,show m+(10 - m)=10 by omega]
 unfold e0Z;rw [←e];exact Nat.mul_lt_mul_of_pos_right h1 (Nat.pow_pos (by decide))
theorem g1N (d m:Nat):d <<< (6 * (9 - m))=d * 64 ^ (9 - m):=by
 rw [Nat.shiftLeft_eq,show (64:Nat)=2 ^ 6 by rfl,←Nat.pow_mul]
theorem b1S (l:List UInt8) (a m:Nat) (h:m<10):e0Z l a m ||| (dig l (a+m)) <<< (6 * (9 - m))=e0Z l a (m+1):=by
 have hd:=d1T l (a+m);have e:10 - m=(9 - m)+1:=by omega
 have hlt:dig l (a+m) <<< (6 * (9 - m))<2 ^ (6 * (10 - m)):=by
  rw [g1N,e,Nat.mul_add,Nat.pow_add,Nat.pow_mul,show (2:Nat) ^ 6=64 by rfl,Nat.mul_comm];exact Nat.mul_lt_mul_of_pos_left (by omega) (Nat.pow_pos (by decide))
 have hp:e0Z l a m=p0N l a m <<< (6 * (10 - m)):=by
  unfold e0Z;rw [Nat.shiftLeft_eq,Nat.pow_mul,show (2:Nat) ^ 6=64 by rfl]
 rw [hp,←Nat.shiftLeft_add_eq_or_of_lt hlt,g1N,Nat.shiftLeft_eq,Nat.pow_mul,show (2:Nat) ^ 6=64 by rfl,e,Nat.pow_succ];unfold e0Z;rw [p0N,show 10 - (m+1)=9 - m by omega,Nat.add_mul,Nat.mul_assoc,Nat.mul_comm 64]
theorem t0R (l:List UInt8) (a:Nat) (m:Nat) (hm:m≤10) (h:l.length≤a+m):e0Z l a m=p0N l a 10:=by
 have:=k1V l a m h (10 - m);rw [show m+(10 - m)=10 by omega] at this;unfold e0Z;exact this.symm
end
section
open Go.RowKit Go.Lib
theorem m0C (c:Int) (w:World) (h0 : -2147483648≤c) (h1:c≤2147483647) :
 Calls Tryz.prog 124 #[.int .i32 c] w fun e w'=>e=.returned (.int .u64 (k0R c))∧w=w':=by
 go_enter Tryz.func124,Tryz.ntmps124
 go_wp2
 all_goals
   go_ret
   refine ⟨?_,rfl⟩
   simp_all [k0R]
   try omega
theorem n1W (s:ByteArray) (j:Nat) (h:j<s.size):s[j]∈s.data.toList:=by
 have e:s[j]=s.data.toList[j]'(by simpa using h):=rfl;rw [e];exact List.getElem_mem _
def p1C (s:ByteArray) (n:Nat):Prop:=∀j (h:j<s.size),j<n→okB s[j]=true
theorem t0U (s:ByteArray) (n:Nat) (h:s.size≤n):p1C s n ↔ ∀b∈s.data.toList,okB b=true:=by
 constructor
 · intro hk b hb
   obtain ⟨j,hj,rfl⟩:=List.getElem_of_mem hb;have hj':j<s.size:=by simpa using hj
   exact hk j hj' (by omega)
 · intro hk j hj _
   exact hk _ (n1W s j hj)
theorem i1D (s:ByteArray):p1C s 0:=fun _ _ h=>absurd h (by omega)
theorem h1F (s:ByteArray) (n:Nat) (h:p1C s n) (hn:n<s.size) (hb:okB s[n]=true):p1C s (n+1):=by
 intro j hj hlt
 rcases Nat.lt_or_ge j n with h1|h1
 · exact h j hj h1
 · obtain rfl:j=n:=by omega
   exact hb
def idS (s:ByteArray):Bool:=idL s.data.toList
theorem g1U (s:ByteArray) (h:s.size<1∨20<s.size):idS s=false:=by
 cases hb:idS s with
 | false=>rfl
 | true =>
   have:=(k0T _).1 hb;simp at this
   omega
theorem o1K (s:ByteArray) (j:Nat) (hj:j<s.size) (h:okB s[j]=false):idS s=false:=by
 cases hb:idS s with
 | false=>rfl
 | true =>
   have:=((k0T _).1 hb).2.2 s[j] (n1W s j hj);rw [h] at this
   cases this
theorem o1R (s:ByteArray) (h1:1≤s.size) (h2:s.size≤20) (h:p1C s s.size):idS s=true :=
 (k0T _).2 ⟨by simpa using h1,by simpa using h2,(t0U s s.size (Nat.le_refl _)).1 h⟩
theorem j1X (s:ByteArray) (h:idS s=true):1≤s.size∧s.size≤20∧p1C s s.size:=by
 have:=(k0T _).1 h;exact ⟨by simpa using this.1,by simpa using this.2.1,(t0U s s.size (Nat.le_refl _)).2 this.2.2⟩
def f0B (s:ByteArray):Int:=if idS s=true then 0 else 2
theorem l1K (b:UInt8):okB b=true→(k0R b.toNat == 0)=false:=by
 intro h;rw [k0P]
 simpa [okB] using h
theorem l1F (s:ByteArray) (pos:Nat) (h:pos<s.size) (hb:okB s[pos]=false):(k0R (Utf8.decode s pos).1 == 0)=true:=by
 by_cases ha:(s[pos]'h).toNat<128
 · rw [decode_ascii s pos h ha]
   simp only [beq_iff_eq]
   have:g0D s[pos]=0:=by simpa [okB] using hb
   rw [k0P,this];rfl
 · have:=(decode_high s pos h (by omega)).1
   simp only [beq_iff_eq]
   exact o0Z _ (by omega)
theorem b0M (s:ByteArray) (w:World) (hm:s.size≤maxLen) :
 Calls Tryz.prog 56 #[.string s] w (jP w (.int .i64 (f0B s))):=by
 unfold maxLen at hm
 by_cases h1:s.size<1
 · have hf:f0B s=2:=by simp [f0B,g1U s (.inl h1)]
   rw [hf];clear hf
   go_enter Tryz.func56,Tryz.ntmps56
   go_wp2
   go_ret
   exact ⟨rfl,jR⟩
 · by_cases h2:20<s.size
   · have hf:f0B s=2:=by simp [f0B,g1U s (.inr h2)]
     rw [hf];clear hf
     go_enter Tryz.func56,Tryz.ntmps56
     go_wp2
     go_ret
     exact ⟨rfl,jR⟩
   · go_enter Tryz.func56,Tryz.ntmps56
     go_wp2
     go_loopw [4] (fun _ w'=>∃pos:Nat,pos≤s.size∧w'=w.iter s pos∧p1C s pos) (fun _ w'=>s.size - w'.iterPos w.heap.size)
     case atStart=>exact ⟨0,Nat.zero_le _,rfl,i1D s⟩
     case round =>
      obtain ⟨pos,hp0,rfl,hok⟩:=hrel
      by_cases hp:pos<s.size
      · cases hb:okB s[pos] with
        | true =>
          have ha:=r0L _ hb;have hc:=l1K _ hb;have hok':=h1F s pos hok hp hb;have hnx:∀ty,(Instr.next (.pointer (some ⟨w.heap.size,0,none⟩)) true ty).run Tryz.prog (w.iter s pos)=_:=fun ty=>run_next_ascii w s pos ty hp ha
          clear hb hok
          go_wp2_with (go_at_call 124;refine (m0C _ _ (by omega) (by omega)).mono ?_;rintro e w' ⟨rfl,rfl⟩)
          go_roundw
          case rel=>exact ⟨pos+1,hp,rfl,hok'⟩
          case measure=>simp;omega
        | false =>
          have hr:=l1F s pos hp hb;have hle:=decode_le s pos;have hf:f0B s=2:=by simp [f0B,o1K s pos hp hb]
          have hnx:∀ty,(Instr.next (.pointer (some ⟨w.heap.size,0,none⟩)) true ty).run Tryz.prog (w.iter s pos)=_:=fun ty=>run_next_any w s pos ty hp
          clear hb hok;have Hf:=jH hf;clear hf
          go_wp2_with (go_at_call 124;refine (m0C _ _ (by omega) (by omega)).mono ?_;rintro e w' ⟨rfl,rfl⟩)
          go_ret
          rw [Hf.out];exact ⟨rfl,jR.alloc (Nat.le_refl _) _⟩
      · have hf:f0B s=0:=by
         obtain rfl:pos=s.size:=by omega
         simp [f0B,o1R s (by omega) (by omega) hok]
        have Hf:=jH hf;clear hf hok;have hnx:∀ty,(Instr.next (.pointer (some ⟨w.heap.size,0,none⟩)) true ty).run Tryz.prog (w.iter s pos)=_:=fun ty=>run_next_end w s pos ty hp
        go_wp2
        go_ret
        rw [Hf.out];exact ⟨rfl,jR.alloc (Nat.le_refl _) _⟩
structure Cfg where
 st:Int
 sa:Int
 lo:Int
 hi:Int
structure Pol where
 mn:Int
 mx:Int
 tg:Int
 tol:Int
 win:Int
 hold:Int
structure b0Z where
 kind:Int
 id:ByteArray
 tick:Int
 val:Int
 handle:Int
 pol:Pol
def I64 (n:Int):Prop:=-9223372036854775808≤n∧n≤9223372036854775807
def Cfg.ok (c:Cfg):Prop:=I64 c.st∧I64 c.sa∧I64 c.lo∧I64 c.hi
def Pol.ok (p:Pol):Prop:=I64 p.mn∧I64 p.mx∧I64 p.tg∧I64 p.tol∧I64 p.win∧I64 p.hold
def b0Z.ok (c:b0Z):Prop:=I64 c.kind∧c.id.size≤maxLen∧I64 c.tick∧I64 c.val∧I64 c.handle∧c.pol.ok
def n0D (c:Cfg):Value:=.agg #[.int .i64 c.st,.int .i64 c.sa,.int .i64 c.lo,.int .i64 c.hi]
def d0E (p:Pol):Value:=.agg #[.int .i64 p.mn,.int .i64 p.mx,.int .i64 p.tg,.int .i64 p.tol,.int .i64 p.win,.int .i64 p.hold]
def e0Q (c:b0Z):List Value:=[.int .i64 c.kind,.string c.id,.int .i64 c.tick,.int .i64 c.val,.int .i64 c.handle,.int .i64 c.pol.mn,.int .i64 c.pol.mx,.int .i64 c.pol.tg,.int .i64 c.pol.tol,.int .i64 c.pol.win,.int .i64 c.pol.hold]
def a0S (c:b0Z):Value:=.agg #[.int .i64 c.kind,.string c.id,.int .i64 c.tick,.int .i64 c.val,.int .i64 c.handle,.int .i64 c.pol.mn,.int .i64 c.pol.mx,.int .i64 c.pol.tg,.int .i64 c.pol.tol,.int .i64 c.pol.win,.int .i64 c.pol.hold]
def e0R (n:Int):Bool:=n == 1 || (n == 2 || (n == 4 || (n == 8 || (n == 16 || (n == 32 || n == 64)))))
def h0A (c:Cfg):Bool:=e0R c.st && decide (1≤c.sa∧c.sa≤256∧1≤c.lo∧c.lo≤256∧1≤c.hi∧c.hi≤64)
def d1J (c:Cfg):Int:=if h0A c=true then 0 else 1
def g0C (t v:Int):Int:=if t<0 then 3 else if v<0 then 4 else 0
def g0Z (p:Pol):Bool:=decide (0≤p.mn∧1≤p.mx∧p.mn≤p.mx∧p.mx≤1073741824∧1≤p.tg∧0≤p.tol∧p.tol≤999∧1≤p.win∧0≤p.hold)
def i0F (p:Pol):Int:=if g0Z p=true then 0 else 7
def f0V (c:b0Z):Int :=
 if c.kind<1∨8<c.kind then 14
 else if (c.kind=1∨c.kind=5∨c.kind=6∨c.kind=7)∧idS c.id=false then 2
 else if c.kind=1 then g0C c.tick c.val
 else if c.kind=2∧c.tick<0 then 3
 else if c.kind=6∧g0Z c.pol=false then 7
 else 0
theorem j0J (n:Int):e0R n=true ↔ n=1∨n=2∨n=4∨n=8∨n=16∨n=32∨n=64:=by
 simp [e0R]
def l0W (n:Int):Int:=if n=1 then 0 else if n=2 then 1 else if n=4 then 2 else if n=8 then 3 else if n=16 then 4 else if n=32 then 5 else if n=64 then 6 else -1
theorem j1Q (n:Int):decide (0≤l0W n)=e0R n:=by
 rw [Bool.eq_iff_iff,j0J,decide_eq_true_eq];unfold l0W
 repeat' split
 all_goals omega
theorem u0B:∀k,k<7→l0W ((2 ^ k:Nat):Int)=(k:Nat):=by decide
theorem z0R (n:Int) (h:∀j,j<7→n≠((2 ^ j:Nat):Int)):l0W n = -1:=by
 have h0:=h 0 (by omega);have h1:=h 1 (by omega);have h2:=h 2 (by omega);have h3:=h 3 (by omega);have h4:=h 4 (by omega);have h5:=h 5 (by omega);have h6:=h 6 (by omega);simp at h0 h1 h2 h3 h4 h5 h6
 simp [l0W, *]
theorem d0L (n:Int) (h:e0R n=true):1≤n∧n≤64:=by
 have:=(j0J n).1 h;omega
theorem st_and:∀k,k<65→1≤k→(bits BinOp.and IntKind.i64 ((k:Nat):Int) ((k:Nat) - 1:Int) == 0)=e0R ((k:Nat):Int):=by decide
end
section
open Go.RowKit Go.Lib Go.ChangeShapes Go.WideShapes Go.Joins
section
theorem j0L (b o i:Nat):(Addr.mk b o none).add i=⟨b,o+i,none⟩:=by
 unfold Addr.add
 split
 · subst_vars;rfl
 · rfl
def a0Q {α:Type} (n:Nat) (f:α→List Value) (w:World) (v:Value) (l:List α):Prop :=
 ∃A c,v=.slice A l.length c∧l.length≤c∧(0<l.length→∃b o,A=some ⟨b,o,none⟩∧b<w.heap.size∧∀k x,l[k]?=some x→∀j u,(f x)[j]?=some u→w.cell? ⟨b,o+k * n+j,none⟩=some u)
theorem a0Q.below {α:Type} {n:Nat} {f:α→List Value} {w w':World} {v:Value} {l:List α} (h:a0Q n f w v l) (hb:jB w w'):a0Q n f w' v l:=by
 obtain ⟨A,c,hv,hc,h⟩:=h;refine ⟨A,c,hv,hc,fun hn=>?_⟩;obtain ⟨b,o,hA,hlt,h⟩:=h hn;exact ⟨b,o,hA,Nat.lt_of_lt_of_le hlt hb.size,fun k x hk j u hu=>(hb.cell (p:=⟨b,_,none⟩) hlt).trans (h k x hk j u hu)⟩
theorem a0Q.nil {α:Type} {n:Nat} {f:α→List Value} {w:World} {A:Option Addr} {c:Nat}:a0Q n f w (.slice A 0 c) ([]:List α) :=
 ⟨A,c,rfl,Nat.zero_le _,fun h=>absurd h (Nat.lt_irrefl _)⟩
theorem a0Q.at_ {α:Type} {n:Nat} {f:α→List Value} {w:World} {A:Option Addr} {m c:Nat} {l:List α} (h:a0Q n f w (.slice A m c) l) {k:Nat} (hk:k<l.length) :
 ∃b o,A=some ⟨b,o,none⟩∧b<w.heap.size∧∀j u,(f l[k])[j]?=some u→w.cell? ⟨b,o+k * n+j,none⟩=some u:=by
 obtain ⟨A1,c1,hv,_,h⟩:=h;injection hv with e1 e2 e3
 subst e1;obtain ⟨b,o,hA,hlt,h⟩:=h (by omega);exact ⟨b,o,hA,hlt,h k l[k] (List.getElem?_eq_getElem hk)⟩
def a0F {α:Type} (f:α→List Value) (l:List α):List Value:=l.flatMap f
theorem a0U {α:Type} (f:α→List Value) (x:α) (l:List α):a0F f (x::l)=f x++a0F f l:=rfl
theorem b0W {α:Type} (f:α→List Value) (l m:List α):a0F f (l++m)=a0F f l++a0F f m:=by simp [a0F]
theorem a0T {α:Type} {f:α→List Value} {n:Nat} (hf:∀x,(f x).length=n) (l:List α):(a0F f l).length=l.length * n:=by
 induction l with
 | nil=>simp [a0F]
 | cons a l ih=>rw [a0U,List.length_append,ih,hf,List.length_cons,Nat.succ_mul];omega
theorem g0V {α:Type} {f:α→List Value} {n:Nat} (hf:∀x,(f x).length=n) (l:List α):∀(k:Nat) (x:α),l[k]?=some x→∀j u,(f x)[j]?=some u→(a0F f l)[k * n+j]?=some u:=by
 induction l with
 | nil=>intro k x h;simp at h
 | cons a l ih =>
   intro k x h j u hu
   cases k with
   | zero =>
     simp at h;subst h
     rw [a0U,Nat.zero_mul,Nat.zero_add,List.getElem?_append_left (List.getElem?_eq_some_iff.1 hu).1,hu]
   | succ k =>
     simp at h
     rw [a0U,List.getElem?_append_right (by rw [hf,Nat.succ_mul];omega),hf,show (k+1) * n+j - n=k * n+j by rw [Nat.succ_mul];omega];exact ih k x h j u hu
theorem e0N {α:Type} {f:α→List Value} (h1:∀x,∀u∈f x,u.oneCell'=true) (l:List α):∀u∈a0F f l,u.oneCell'=true:=by
 intro u hu;obtain ⟨x,_,hx⟩:=List.mem_flatMap.1 hu;exact h1 x u hx
theorem e0V {α:Type} {f:α→List Value} {n:Nat} (hn:0<n) (hf:∀x,(f x).length=n) (l:List α) (j:Nat) (u:Value) (h:(a0F f l)[j]?=some u):∃x,l[j / n]?=some x∧(f x)[j % n]?=some u:=by
 have hj:=(List.getElem?_eq_some_iff.1 h).1;rw [a0T hf] at hj;have hk:j / n<l.length:=by rw [Nat.div_lt_iff_lt_mul hn];exact hj
 refine ⟨l[j / n],List.getElem?_eq_getElem hk,?_⟩;have hm:j % n<(f l[j / n]).length:=by rw [hf];exact Nat.mod_lt _ hn
 have:=g0V hf l (j / n) l[j / n] (List.getElem?_eq_getElem hk) (j % n) _ (List.getElem?_eq_getElem hm);rw [show j / n * n+j % n=j by rw [Nat.mul_comm];exact Nat.div_add_mod j n,h] at this;rw [List.getElem?_eq_getElem hm,this]
theorem a0Q.own {α:Type} {n:Nat} {f:α→List Value} (hf:∀x,(f x).length=n) {w:World} {base:Nat} {e:TypeId} {v:Value} {l:List α} (h:w.ownsRow base e n v l.length (a0F f l)):a0Q n f w v l:=by
 rcases h.2 with ⟨hv,h0⟩|⟨g,cap,cur,hv,_,_,hc',_⟩
 · obtain rfl:l=[]:=List.eq_nil_of_length_eq_zero h0
   rw [hv];exact a0Q.nil
 · refine ⟨some ⟨g,0,none⟩,cap,hv,hc',fun hn=>⟨g,0,rfl,(h.lt g (by rw [hv];rfl)).2,fun k x hk j u hu=>?_⟩⟩
   have hat:=g0V hf l k x hk j u hu;have hj:=(List.getElem?_eq_some_iff.1 hat).1;rw [a0T hf] at hj;have hkl:=(List.getElem?_eq_some_iff.1 hk).1;subst hv;rw [Nat.zero_add,h.cellAt (k * n+j) hj,hat]
theorem a0Q.part {α:Type} {n:Nat} {f:α→List Value} {w:World} {A:Option Addr} {m c:Nat} {l:List α} (h:a0Q n f w (.slice A m c) l) {i j:Nat} (hij:i≤j) (hj:j≤l.length) :
 a0Q n f w (.slice (if c=i then A else A.map (·.add (i * n))) (j - i) (c - i)) ((l.take j).drop i):=by
 obtain ⟨A1,c1,hv,hc,h⟩:=h;injection hv with e1 e2 e3
 subst e1 e2 e3;have hlen:((l.take j).drop i).length=j - i:=by simp;omega
 refine ⟨_,c - i,by rw [hlen],by omega,fun hn=>?_⟩;rw [hlen] at hn;obtain ⟨b,o,rfl,hlt,h⟩:=h (by omega);rw [if_neg (by omega)];refine ⟨b,o+i * n,by rw [Option.map_some,j0L],hlt,fun k x hk t u hu=>?_⟩;rw [List.getElem?_drop,List.getElem?_take] at hk
 split at hk
 · have:=h (i+k) x hk t u hu
   rw [Nat.add_mul] at this;rw [show o+i * n+k * n+t=o+(i * n+k * n)+t by omega];exact this
 · cases hk
section
variable {H:Type} {enc:TypeId × Value→H} {P:Program} {w:World} {base:Nat} {spare:Nat→Bool} {held:Bool}
theorem x0I {a:Addr} {n:Nat} {cs:List Value} (h:w.cells? base a n=some cs) (hn:0<n):a.spot=none∧a.block<w.heap.size:=by
 obtain ⟨_,hl,hc⟩:=World.cells?_some h;have h0:=hc 0 hn;rw [List.getElem?_eq_getElem (by omega)] at h0;have ha:a.add 0=a:=rfl;rw [ha] at h0;exact ⟨World.cell?_spot h0,World.block_lt_of_cell? w _ h0⟩
theorem l1R {α:Type} [Inhabited α] {n:Nat} {f:α→List Value} {ok:α→Prop} {t e:TypeId} (ht:P.underlying t=some (.slice e)) (hn:P.cellsOf e=n) (hpos:0<n)
    (hread:∀fuel cs x,DataW.trod enc P w base spare held fuel e cs=some x→∃d,ok d∧cs=f d)
    {fuel:Nat} {cs:List Value} {x:DataW H × List MemPlace} (h:DataW.trod enc P w base spare held fuel t cs=some x) :
    ∃(v:Value) (l:List α),cs=[v]∧l.length≤maxLen∧(∀p∈l,ok p)∧a0Q n f w v l:=by
  rcases Go.Deep.open_slice ht h with ⟨rfl,_⟩|⟨a,len,cap,m,fu,D,Pl,rfl,_,hlc,hcm,hm,_,hr⟩
  · exact ⟨_,[],rfl,Nat.zero_le _,fun _ h=>(by simp at h),a0Q.nil⟩
  · have hlm:len≤m:=by rw [hm];split <;> omega
    rw [hn] at hr;have hch:∀i,i<len→∃c:α,ok c∧w.cells? base (a.add (i * n)) n=some (f c):=by
     intro i hi;obtain ⟨cs',hcs,ht⟩:=hr i (Nat.lt_of_lt_of_le hi hlm);obtain ⟨c,hok,rfl⟩:=hread _ _ _ ht;exact ⟨c,hok,hcs⟩
    obtain ⟨g,hg⟩:=Go.Deep.choose_lt hch;have hlen:((List.range len).map g).length=len:=by simp
    refine ⟨_,(List.range len).map g,rfl,by rw [hlen];omega,fun p hp=>?_,some a,cap,by rw [hlen],by rw [hlen];exact hlc,fun hpos'=>?_⟩
    · obtain ⟨i,hi,rfl⟩:=List.mem_map.1 hp
      exact (hg i (List.mem_range.1 hi)).1
    rw [hlen] at hpos';obtain ⟨b,o,s⟩:=a;obtain ⟨hs,hb⟩:=x0I (hg 0 hpos').2 hpos;have hs':s=none:=by simpa [Addr.add] using hs
    subst hs';refine ⟨b,o,rfl,by simpa [Addr.add] using hb,fun k x hk j u hu=>?_⟩;simp only [List.getElem?_map,List.getElem?_range] at hk
    by_cases hkl:k<len
    · simp [hkl] at hk
      subst hk;obtain ⟨_,hl,hc⟩:=World.cells?_some (hg k hkl).2;have hj:j<n:=by have:=(List.getElem?_eq_some_iff.1 hu).1;omega
      have:=hc j hj;rw [j0L,j0L] at this;rw [this,hu]
    · simp [hkl] at hk
end
end
end
end Go.Proofs.YtmniiodpbebnmaaGreat
