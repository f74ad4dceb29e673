/- Part 1 of the proof. -/
import Derived.Lib.Hide
import Derived.Test.YtmniiodpbebnmaaGreatRows
import Derived.WalkKit
import Derived.WalkSpells
import Derived.WalkLawsBesides
import Derived.Lib.OthersKept
import Derived.StillTailTactics
import Derived.Deep.QuietTactic
import Derived.BigQuiet
import Derived.Deep.RegionWith
import Derived.Deep.RegionHeld3
import Derived.Deep.Slices
import Derived.Deep.LoopGhost
import Derived.Lib.SmallJoins
import Derived.Lib.SlicesCompact
import Derived.Laws.AppendOwnNone
namespace Go.Proofs.YtmniiodpbebnmaaGreat
set_option linter.unusedSimpArgs false
set_option linter.unusedVariables false
set_option linter.unusedSectionVars false
set_option maxRecDepth 100000
set_option maxHeartbeats 16000000
section
open Go.RowKit Go.Lib
@[go_sem] theorem o1E (w:World) (n:Nat) (a:Addr) (v:Value):(w.drewN n).setCell a v=(w.setCell a v).drewN n:=rfl
theorem t1N {W w1:World} (hb:Below W.heap.size W w1):(∀b o,b<W.heap.size→w1.cell? ⟨b,o,none⟩=W.cell? ⟨b,o,none⟩)∧(∀b o,b<W.heap.size→w1.frozen? ⟨b,o,none⟩=W.frozen? ⟨b,o,none⟩) :=
 ⟨fun b o h=>hb.cell (p:=⟨b,o,none⟩) h,fun b o h=>hb.frozen (p:=⟨b,o,none⟩) h⟩
theorem a0F {B:Nat} {a w:World} (h:Below B a w) (n:Nat):Below B a (w.drewN n):=⟨h.os,h.tape,h.output,h.size,h.block⟩
theorem a0D {w a b:World} (h:Below w.heap.size w a) (k:Below a.heap.size a b):Below w.heap.size w b:=h.trans (k.mono h.size)
theorem a0C {w a:World} (h:Below w.heap.size w a) (o:Obj):Below w.heap.size w (a.alloc o):=h.alloc h.size o
theorem i0K (w:World) (cs:Array Value) (T:TypeId) :
 (∀j,(w.alloc (.cells cs T)).cell? ⟨w.heap.size,j,none⟩=cs[j]?)∧Below w.heap.size w (w.alloc (.cells cs T))∧w.heap.size<(w.alloc (.cells cs T)).heap.size :=
 ⟨fun j=>by simp [go_sem],a0C (Below.refl _ _) _,by simp⟩
theorem q0P {w a b:World} {g n:Nat} {cs:Array Value} (h:(∀j,a.cell? ⟨g,j,none⟩=cs[j]?)∧Below w.heap.size w a∧g<a.heap.size) (k:Below n a b) (e:n=a.heap.size) :
 (∀j,b.cell? ⟨g,j,none⟩=cs[j]?)∧Below w.heap.size w b∧g<b.heap.size:=by
 subst e;exact ⟨fun j=>(k.cell (p:=⟨g,j,none⟩) h.2.2).trans (h.1 j),a0D h.2.1 k,Nat.lt_of_lt_of_le h.2.2 k.size⟩
theorem o1Q {w a:World} {g:Nat} {cs:Array Value} (h:(∀j,a.cell? ⟨g,j,none⟩=cs[j]?)∧Below w.heap.size w a∧g<a.heap.size) :
 (∀j,a.drew.cell? ⟨g,j,none⟩=cs[j]?)∧Below w.heap.size w a.drew∧g<a.drew.heap.size:=⟨h.1,h.2.1.drew,h.2.2⟩
theorem v0W {P:Program} (w:World) (s:ByteArray) (pos n H:Nat) (ty:TypeId) (hH:w.heap.size=H) (h:pos<s.size) (ha:(s[pos]'h).toNat<128) :
 (Instr.next (.pointer (some ⟨H,0,none⟩)) true ty).run P ((w.alloc (.stringIter s pos)).drewN n)=.ok (.tuple #[.bool true,.int .i64 pos,.int .i32 (s[pos]'h).toNat]) ((w.alloc (.stringIter s (pos+1))).drewN n):=by
 subst hH
 show (Instr.next (.pointer (some ⟨w.heap.size,0,none⟩)) true ty).run P ((w.iter s pos).drewN n)=.ok (.tuple #[.bool true,.int .i64 pos,.int .i32 (s[pos]'h).toNat]) ((w.iter s (pos+1)).drewN n)
 rw [run_next_ascii_at _ w.heap.size s pos ty (by simp [World.iter_heap]) h ha];have:=World.iter_set w s pos (pos+1);simp only [World.iterAt,World.drewN] at this ⊢
 rw [←this]
theorem e1O {P:Program} (w:World) (s:ByteArray) (pos n H:Nat) (ty:TypeId) (hH:w.heap.size=H) (h:¬pos<s.size) :
 (Instr.next (.pointer (some ⟨H,0,none⟩)) true ty).run P ((w.alloc (.stringIter s pos)).drewN n)=.ok (.tuple #[.bool false]) ((w.alloc (.stringIter s pos)).drewN n):=by
 subst hH
 show (Instr.next (.pointer (some ⟨w.heap.size,0,none⟩)) true ty).run P ((w.iter s pos).drewN n)=.ok (.tuple #[.bool false]) ((w.iter s pos).drewN n)
 rw [run_next_end_at _ w.heap.size s pos ty (by simp [World.iter_heap]) h]
theorem k0T (w:World) (s:ByteArray) (pos n H:Nat) (hH:w.heap.size=H):((w.alloc (.stringIter s pos)).drewN n).iterPos H=pos:=by
 subst hH;exact World.iterPos_iter w s pos
@[go_sem] theorem r1B {w a:World} {o:Obj} (h:Below w.heap.size w a):Below w.heap.size w (a.alloc o)=True:=eq_true (a0C h o)
@[go_sem] theorem q1H {n:Nat} {w a:World} {k:Nat} (h:Below n w a):Below n w (a.drewN k)=True:=eq_true (a0F h k)
@[go_sem] theorem s1C {n:Nat} {w a:World} (h:Below n w a):Below n w a.drew=True:=eq_true h.drew
@[go_sem] theorem i1Y {n:Nat} {w a:World} {p:Addr} {v:Value} (h:Below n w a) (hp:n≤p.block):Below n w (a.setCell p v)=True:=eq_true (h.setCell hp v)
@[go_sem] theorem r1L {n:Nat} {w:World}:Below n w w=True:=eq_true (Below.refl n w)
theorem a0A {W w1:World} (hb:Below W.heap.size W w1) {B:Nat} {cs:Array Value} {T:TypeId} (hB:W.heap[B]?=some (.cells cs T (0,0))):(∀j,w1.cell? ⟨B,j,none⟩=cs[j]?)∧(∀j,w1.frozen? ⟨B,j,none⟩=false)∧B<w1.heap.size:=by
 have hlt:B<W.heap.size:=(Array.getElem?_eq_some_iff.1 hB).1;have h1:=(hb.block B hlt).trans hB;exact ⟨fun j=>by simp [World.cell?,h1],fun j=>by simp [World.frozen?,h1],Nat.lt_of_lt_of_le hlt hb.size⟩
theorem c0J (w:World) (o1 o2:Obj):((w.alloc o1).alloc o2).heap[w.heap.size]?=some o1:=(Below.heap_alloc _ _ _ (by simp)).trans (heap_alloc_new _ _)
theorem b0R (w:World) (o1 o2:Obj):((w.alloc o1).alloc o2).heap[w.heap.size+1]?=some o2:=by
 have h:=heap_alloc_new (w.alloc o1) o2
 rwa [World.size_alloc] at h
def x0D (hi lo:Nat):Value:=.agg #[.int .u64 (hi:Nat),.int .u64 (lo:Nat)]
theorem c0E (n:Nat) (h:n<18446744073709551616):IntKind.u64.wrap (n:Int)=(n:Int):=by
 simp only [IntKind.wrap,IntKind.signed,IntKind.bits]
 simp
 omega
theorem c0G {k:IntKind} {a b:Int} (h:a=b):Ending.returned (.int k a)=.returned (.int k b):=by rw [h]
theorem s0Y {a b:Bool} (h:a=b):Ending.returned (.bool a)=.returned (.bool b):=by rw [h]
theorem h0X {w:World} {base:Nat} {e:TypeId} {size:Nat} {v:Value} {n:Nat} {xs:List Value} (h:w.ownsRow base e size v n xs):∃A c,v=.slice A n c:=by
 rcases h.2 with ⟨rfl,rfl⟩|⟨g,cap,cur,rfl,_⟩
 · exact ⟨_,_,rfl⟩
 · exact ⟨_,_,rfl⟩
theorem p0F {w w':World} {base:Nat} {e:TypeId} {size:Nat} {v:Value} {n:Nat} {xs:List Value} (h:w.ownsRow base e size v n xs) (hb:Below w.heap.size w w'):w'.ownsRow base e size v n xs :=
 h.kept (row:=none) ⟨hb.os,hb.tape,hb.output,hb.size,fun k hk _=>hb.block k hk⟩ (by cases v.ownBlock <;> simp)
theorem jH {p : Prop} (h : p) : Go.RowKit.Hid p := Go.Lib.hid h
theorem jL {α : Type} {a : Array α} {i : Nat} {v : α} (h : a[i]? = some v) : i < a.size := (Array.getElem?_eq_some_iff.1 h).1
theorem jR {n : Nat} {w : World} : Below n w w := Below.refl _ _
abbrev jB (w w' : World) : Prop := Below w.heap.size w w'
abbrev jP (w : World) (v : Value) (e : Ending) (w' : World) : Prop := e = .returned v ∧ Below w.heap.size w w'
theorem jA {α : Type} : type_of% (@List.getElem_toArray α) ∧ type_of% (@List.getElem_cons_succ α) ∧ type_of% (@List.getElem_cons_zero α) ∧ type_of% (@List.setIfInBounds_toArray α) ∧ type_of% (@List.set_cons_zero α) ∧ type_of% (@List.set_cons_succ α) :=
  ⟨@List.getElem_toArray α, @List.getElem_cons_succ α, @List.getElem_cons_zero α, @List.setIfInBounds_toArray α, @List.set_cons_zero α, @List.set_cons_succ α⟩
theorem jK {w w' : World} {k : Nat} {o : Obj} (hb : Below w.heap.size w w') (h : w.heap[k]? = some o) : w'.heap[k]? = some o := (hb.block _ (Array.getElem?_eq_some_iff.1 h).1).trans h
end
section
def m0T (c:Int):Int :=
 if c=45 then 1 else if c=46 then 2 else if 48≤c∧c≤57 then c - 45 else if c=95 then 13 else if 97≤c∧c≤122 then c - 83 else 0
theorem t0I (c:Int):0≤m0T c∧m0T c≤39:=by
 unfold m0T
 repeat' split
 all_goals omega
theorem r0Z (c:Int) (h:128≤c):m0T c=0:=by
 unfold m0T
 repeat' split
 all_goals omega
def e0L (b:UInt8):Nat:=(m0T b.toNat).toNat
def okB (b:UInt8):Bool:=decide (e0L b≠0)
theorem d1E (b:UInt8):e0L b≤39:=by
 have:=t0I b.toNat;unfold e0L;omega
theorem m0F (b:UInt8):m0T b.toNat=(e0L b:Int):=by
 have:=t0I b.toNat;unfold e0L;omega
theorem u0R (b:UInt8) (h:okB b=true):b.toNat<128:=by
 rcases Nat.lt_or_ge b.toNat 128 with h1|h1
 · exact h1
 · have:=r0Z b.toNat (by omega)
   simp [okB,e0L,this] at h
theorem c1H (a b:UInt8) (ha:okB a=true) (hb:okB b=true):e0L a<e0L b ↔ a.toNat<b.toNat:=by
 have ha':e0L a≠0:=by simpa [okB] using ha
 have hb':e0L b≠0:=by simpa [okB] using hb
 unfold e0L m0T at *;have:=a.toNat_lt;have:=b.toNat_lt;generalize a.toNat=x at *;generalize b.toNat=y at *
 repeat' split at ha'
 all_goals repeat' split at hb'
 all_goals first|omega|(simp at ha')|(simp at hb')|skip
 all_goals (repeat' split) <;> omega
theorem k1A (a b:UInt8) (ha:okB a=true) (h:e0L a=e0L b):a=b:=by
 have hb:okB b=true:=by simpa [okB,←h] using ha
 have h1:=c1H a b ha hb;have h2:=c1H b a hb ha;exact UInt8.toNat_inj.1 (by omega)
def idL (l:List UInt8):Bool:=decide (1≤l.length) && (decide (l.length≤20) && l.all okB)
theorem s0J (l:List UInt8):idL l=true ↔ 1≤l.length∧l.length≤20∧∀b∈l,okB b=true:=by
 simp [idL]
def dig (l:List UInt8) (i:Nat):Nat:=((l[i]?).map e0L).getD 0
theorem c1A (l:List UInt8) (i:Nat):dig l i≤39:=by
 unfold dig
 cases l[i]? with
 | none=>simp
 | some b=>simpa using d1E b
theorem r1X (l:List UInt8) (i:Nat) (h:i<l.length):dig l i=e0L l[i]:=by simp [dig,h]
theorem z0Q (l:List UInt8) (i:Nat) (h:l.length≤i):dig l i=0:=by simp [dig,h]
def l0E (l:List UInt8) (a:Nat):Nat→Nat
  | 0=>0
  | n+1=>l0E l a n * 64+dig l (a+n)
theorem u0A (l:List UInt8) (a n:Nat):l0E l a n<64 ^ n:=by
 induction n with
 | zero=>simp [l0E]
 | succ n ih =>
   have:=c1A l (a+n);rw [l0E,Nat.pow_succ];omega
theorem n1S (l:List UInt8) (a m:Nat) (h:l.length≤a+m):∀k,l0E l a (m+k)=l0E l a m * 64 ^ k:=by
 intro k
 induction k with
 | zero=>simp
 | succ k ih =>
   rw [←Nat.add_assoc,l0E,ih,z0Q l _ (by omega),Nat.pow_succ,Nat.mul_assoc];simp
theorem keyN_dig (l:List UInt8) (a:Nat):∀n j,j<n→l0E l a n / 64 ^ (n - 1 - j) % 64=dig l (a+j):=by
 intro n
 induction n with
 | zero=>intro j h;omega
 | succ n ih =>
   intro j h;have hd:=c1A l (a+n)
   rcases Nat.lt_or_ge j n with h1|h1
   · have e:n+1 - 1 - j=(n - 1 - j)+1:=by omega
     rw [e,Nat.pow_succ,Nat.mul_comm (64 ^ _) 64,←Nat.div_div_eq_div_mul,l0E];rw [show (l0E l a n * 64+dig l (a+n)) / 64=l0E l a n by omega];exact ih j h1
   · have e:n+1 - 1 - j=0:=by omega
     obtain rfl:j=n:=by omega
     rw [e,l0E];simp
     omega
def hiN (l:List UInt8):Nat:=l0E l 0 10
def loN (l:List UInt8):Nat:=l0E l 10 10
theorem hiN_lt (l:List UInt8):hiN l<1152921504606846976:=u0A l 0 10
theorem loN_lt (l:List UInt8):loN l<1152921504606846976:=u0A l 10 10
def g0F (l:List UInt8) (a m:Nat):Nat:=l0E l a m * 64 ^ (10 - m)
theorem f1S (l:List UInt8) (a:Nat):g0F l a 0=0:=by simp [g0F,l0E]
theorem k1U (l:List UInt8) (a:Nat):g0F l a 10=l0E l a 10:=by simp [g0F]
theorem c1R (l:List UInt8) (a m:Nat) (h:m≤10):g0F l a m<1152921504606846976:=by
 have h1:=u0A l a m;have e:64 ^ m * 64 ^ (10 - m)=1152921504606846976:=by
  rw [←Nat.pow_add,show m+(10 - m)=10 by omega]
 unfold g0F;rw [←e];exact Nat.mul_lt_mul_of_pos_right h1 (Nat.pow_pos (by decide))
theorem k1E (d m:Nat):d <<< (6 * (9 - m))=d * 64 ^ (9 - m):=by
 rw [Nat.shiftLeft_eq,show (64:Nat)=2 ^ 6 by rfl,←Nat.pow_mul]
theorem g1R (l:List UInt8) (a m:Nat) (h:m<10):g0F l a m ||| (dig l (a+m)) <<< (6 * (9 - m))=g0F l a (m+1):=by
 have hd:=c1A l (a+m);have e:10 - m=(9 - m)+1:=by omega
 have hlt:dig l (a+m) <<< (6 * (9 - m))<2 ^ (6 * (10 - m)):=by
  rw [k1E,e,Nat.mul_add,Nat.pow_add,Nat.pow_mul,show (2:Nat) ^ 6=64 by rfl,Nat.mul_comm];exact Nat.mul_lt_mul_of_pos_left (by omega) (Nat.pow_pos (by decide))
 have hp:g0F l a m=l0E l a m <<< (6 * (10 - m)):=by
  unfold g0F;rw [Nat.shiftLeft_eq,Nat.pow_mul,show (2:Nat) ^ 6=64 by rfl]
 rw [hp,←Nat.shiftLeft_add_eq_or_of_lt hlt,k1E,Nat.shiftLeft_eq,Nat.pow_mul,show (2:Nat) ^ 6=64 by rfl,e,Nat.pow_succ];unfold g0F;rw [l0E,show 10 - (m+1)=9 - m by omega,Nat.add_mul,Nat.mul_assoc,Nat.mul_comm 64]
theorem u0Z (l:List UInt8) (a:Nat) (m:Nat) (hm:m≤10) (h:l.length≤a+m):g0F l a m=l0E l a 10:=by
 have:=n1S l a m h (10 - m);rw [show m+(10 - m)=10 by omega] at this;unfold g0F;exact this.symm
end
section
open Go.RowKit Go.Lib
theorem n0U (c:Int) (w:World) (h0 : -2147483648≤c) (h1:c≤2147483647) :
 Calls Tryz.prog 124 #[.int .i32 c] w fun e w'=>e=.returned (.int .u64 (m0T c))∧w=w':=by
 go_enter Tryz.func124,Tryz.ntmps124
 go_wp2
 all_goals
   go_ret
   refine ⟨?_,rfl⟩
   simp_all [m0T]
   try omega
theorem s1B (s:ByteArray) (j:Nat) (h:j<s.size):s[j]∈s.data.toList:=by
 have e:s[j]=s.data.toList[j]'(by simpa using h):=rfl;rw [e];exact List.getElem_mem _
def r1F (s:ByteArray) (n:Nat):Prop:=∀j (h:j<s.size),j<n→okB s[j]=true
theorem x0O (s:ByteArray) (n:Nat) (h:s.size≤n):r1F s n ↔ ∀b∈s.data.toList,okB b=true:=by
 constructor
 · intro hk b hb
   obtain ⟨j,hj,rfl⟩:=List.getElem_of_mem hb;have hj':j<s.size:=by simpa using hj
   exact hk j hj' (by omega)
 · intro hk j hj _
   exact hk _ (s1B s j hj)
theorem v0G (s:ByteArray):r1F s 0:=fun _ _ h=>absurd h (by omega)
theorem x0G (s:ByteArray) (n:Nat) (h:r1F s n) (hn:n<s.size) (hb:okB s[n]=true):r1F s (n+1):=by
 intro j hj hlt
 rcases Nat.lt_or_ge j n with h1|h1
 · exact h j hj h1
 · obtain rfl:j=n:=by omega
   exact hb
def idS (s:ByteArray):Bool:=idL s.data.toList
theorem u0C (s:ByteArray) (h:s.size<1∨20<s.size):idS s=false:=by
 cases hb:idS s with
 | false=>rfl
 | true =>
   have:=(s0J _).1 hb;simp at this
   omega
theorem l1O (s:ByteArray) (j:Nat) (hj:j<s.size) (h:okB s[j]=false):idS s=false:=by
 cases hb:idS s with
 | false=>rfl
 | true =>
   have:=((s0J _).1 hb).2.2 s[j] (s1B s j hj);rw [h] at this
   cases this
theorem j1H (s:ByteArray) (h1:1≤s.size) (h2:s.size≤20) (h:r1F s s.size):idS s=true :=
 (s0J _).2 ⟨by simpa using h1,by simpa using h2,(x0O s s.size (Nat.le_refl _)).1 h⟩
theorem d1N (s:ByteArray) (h:idS s=true):1≤s.size∧s.size≤20∧r1F s s.size:=by
 have:=(s0J _).1 h;exact ⟨by simpa using this.1,by simpa using this.2.1,(x0O s s.size (Nat.le_refl _)).2 this.2.2⟩
def k0Z (s:ByteArray):Int:=if idS s=true then 0 else 2
theorem q1B (b:UInt8):okB b=true→(m0T b.toNat == 0)=false:=by
 intro h;rw [m0F]
 simpa [okB] using h
theorem n1O (s:ByteArray) (pos:Nat) (h:pos<s.size) (hb:okB s[pos]=false):(m0T (Utf8.decode s pos).1 == 0)=true:=by
 by_cases ha:(s[pos]'h).toNat<128
 · rw [decode_ascii s pos h ha]
   simp only [beq_iff_eq]
   have:e0L s[pos]=0:=by simpa [okB] using hb
   rw [m0F,this];rfl
 · have:=(decode_high s pos h (by omega)).1
   simp only [beq_iff_eq]
   exact r0Z _ (by omega)
theorem e0A (s:ByteArray) (w:World) (hm:s.size≤maxLen) :
 Calls Tryz.prog 56 #[.string s] w (jP w (.int .i64 (k0Z s))):=by
 unfold maxLen at hm
 by_cases h1:s.size<1
 · have hf:k0Z s=2:=by simp [k0Z,u0C s (.inl h1)]
   rw [hf];clear hf
   go_enter Tryz.func56,Tryz.ntmps56
   go_wp2
   go_ret
   exact ⟨rfl,jR⟩
 · by_cases h2:20<s.size
   · have hf:k0Z s=2:=by simp [k0Z,u0C s (.inr h2)]
     rw [hf];clear hf
     go_enter Tryz.func56,Tryz.ntmps56
     go_wp2
     go_ret
     exact ⟨rfl,jR⟩
   · go_enter Tryz.func56,Tryz.ntmps56
     go_wp2
     go_loopw [4] (fun _ w'=>∃pos:Nat,pos≤s.size∧w'=w.iter s pos∧r1F s pos) (fun _ w'=>s.size - w'.iterPos w.heap.size)
     case atStart=>exact ⟨0,Nat.zero_le _,rfl,v0G s⟩
     case round =>
      obtain ⟨pos,hp0,rfl,hok⟩:=hrel
      by_cases hp:pos<s.size
      · cases hb:okB s[pos] with
        | true =>
          have ha:=u0R _ hb;have hc:=q1B _ hb;have hok':=x0G s pos hok hp hb;have hnx:∀ty,(Instr.next (.pointer (some ⟨w.heap.size,0,none⟩)) true ty).run Tryz.prog (w.iter s pos)=_:=fun ty=>run_next_ascii w s pos ty hp ha
          clear hb hok
          go_wp2_with (go_at_call 124;refine (n0U _ _ (by omega) (by omega)).mono ?_;rintro e w' ⟨rfl,rfl⟩)
          go_roundw
          case rel=>exact ⟨pos+1,hp,rfl,hok'⟩
          case measure=>simp;omega
        | false =>
          have hr:=n1O s pos hp hb;have hle:=decode_le s pos;have hf:k0Z s=2:=by simp [k0Z,l1O s pos hp hb]
          have hnx:∀ty,(Instr.next (.pointer (some ⟨w.heap.size,0,none⟩)) true ty).run Tryz.prog (w.iter s pos)=_:=fun ty=>run_next_any w s pos ty hp
          clear hb hok;have Hf:=jH hf;clear hf
          go_wp2_with (go_at_call 124;refine (n0U _ _ (by omega) (by omega)).mono ?_;rintro e w' ⟨rfl,rfl⟩)
          go_ret
          rw [Hf.out];exact ⟨rfl,jR.alloc (Nat.le_refl _) _⟩
      · have hf:k0Z s=0:=by
         obtain rfl:pos=s.size:=by omega
         simp [k0Z,j1H s (by omega) (by omega) hok]
        have Hf:=jH hf;clear hf hok;have hnx:∀ty,(Instr.next (.pointer (some ⟨w.heap.size,0,none⟩)) true ty).run Tryz.prog (w.iter s pos)=_:=fun ty=>run_next_end w s pos ty hp
        go_wp2
        go_ret
        rw [Hf.out];exact ⟨rfl,jR.alloc (Nat.le_refl _) _⟩
structure Cfg where
 st:Int
 sa:Int
 lo:Int
 hi:Int
structure Pol where
 mn:Int
 mx:Int
 tg:Int
 tol:Int
 win:Int
 hold:Int
structure c0D where
 kind:Int
 id:ByteArray
 tick:Int
 val:Int
 handle:Int
 pol:Pol
def I64 (n:Int):Prop:=-9223372036854775808≤n∧n≤9223372036854775807
def Cfg.ok (c:Cfg):Prop:=I64 c.st∧I64 c.sa∧I64 c.lo∧I64 c.hi
def Pol.ok (p:Pol):Prop:=I64 p.mn∧I64 p.mx∧I64 p.tg∧I64 p.tol∧I64 p.win∧I64 p.hold
def c0D.ok (c:c0D):Prop:=I64 c.kind∧c.id.size≤maxLen∧I64 c.tick∧I64 c.val∧I64 c.handle∧c.pol.ok
def j0Q (c:Cfg):Value:=.agg #[.int .i64 c.st,.int .i64 c.sa,.int .i64 c.lo,.int .i64 c.hi]
def b0W (p:Pol):Value:=.agg #[.int .i64 p.mn,.int .i64 p.mx,.int .i64 p.tg,.int .i64 p.tol,.int .i64 p.win,.int .i64 p.hold]
def f0T (c:c0D):List Value:=[.int .i64 c.kind,.string c.id,.int .i64 c.tick,.int .i64 c.val,.int .i64 c.handle,.int .i64 c.pol.mn,.int .i64 c.pol.mx,.int .i64 c.pol.tg,.int .i64 c.pol.tol,.int .i64 c.pol.win,.int .i64 c.pol.hold]
def b0A (c:c0D):Value:=.agg #[.int .i64 c.kind,.string c.id,.int .i64 c.tick,.int .i64 c.val,.int .i64 c.handle,.int .i64 c.pol.mn,.int .i64 c.pol.mx,.int .i64 c.pol.tg,.int .i64 c.pol.tol,.int .i64 c.pol.win,.int .i64 c.pol.hold]
def e0X (n:Int):Bool:=n == 1 || (n == 2 || (n == 4 || (n == 8 || (n == 16 || (n == 32 || n == 64)))))
def i0L (c:Cfg):Bool:=e0X c.st && decide (1≤c.sa∧c.sa≤256∧1≤c.lo∧c.lo≤256∧1≤c.hi∧c.hi≤64)
def i1D (c:Cfg):Int:=if i0L c=true then 0 else 1
def g0V (t v:Int):Int:=if t<0 then 3 else if v<0 then 4 else 0
def d0G (p:Pol):Bool:=decide (0≤p.mn∧1≤p.mx∧p.mn≤p.mx∧p.mx≤1073741824∧1≤p.tg∧0≤p.tol∧p.tol≤999∧1≤p.win∧0≤p.hold)
def j0N (p:Pol):Int:=if d0G p=true then 0 else 7
def e0Y (c:c0D):Int :=
 if c.kind<1∨8<c.kind then 14
 else if (c.kind=1∨c.kind=5∨c.kind=6∨c.kind=7)∧idS c.id=false then 2
 else if c.kind=1 then g0V c.tick c.val
 else if c.kind=2∧c.tick<0 then 3
 else if c.kind=6∧d0G c.pol=false then 7
 else 0
theorem l0P (n:Int):e0X n=true ↔ n=1∨n=2∨n=4∨n=8∨n=16∨n=32∨n=64:=by
 simp [e0X]
def m0G (n:Int):Int:=if n=1 then 0 else if n=2 then 1 else if n=4 then 2 else if n=8 then 3 else if n=16 then 4 else if n=32 then 5 else if n=64 then 6 else -1
theorem c1V (n:Int):decide (0≤m0G n)=e0X n:=by
 rw [Bool.eq_iff_iff,l0P,decide_eq_true_eq];unfold m0G
 repeat' split
 all_goals omega
theorem w0T:∀k,k<7→m0G ((2 ^ k:Nat):Int)=(k:Nat):=by decide
theorem h1T (n:Int) (h:∀j,j<7→n≠((2 ^ j:Nat):Int)):m0G n = -1:=by
 have h0:=h 0 (by omega);have h1:=h 1 (by omega);have h2:=h 2 (by omega);have h3:=h 3 (by omega);have h4:=h 4 (by omega);have h5:=h 5 (by omega);have h6:=h 6 (by omega);simp at h0 h1 h2 h3 h4 h5 h6
 simp [m0G, *]
theorem c0B (n:Int) (h:e0X n=true):1≤n∧n≤64:=by
 have:=(l0P n).1 h;omega
theorem st_and:∀k,k<65→1≤k→(bits BinOp.and IntKind.i64 ((k:Nat):Int) ((k:Nat) - 1:Int) == 0)=e0X ((k:Nat):Int):=by decide
end
section
open Go.RowKit Go.Lib Go.ChangeShapes Go.WideShapes Go.Joins
section
theorem m0X (b o i:Nat):(Addr.mk b o none).add i=⟨b,o+i,none⟩:=by
 unfold Addr.add
 split
 · subst_vars;rfl
 · rfl
def a0O {α:Type} (n:Nat) (f:α→List Value) (w:World) (v:Value) (l:List α):Prop :=
 ∃A c,v=.slice A l.length c∧l.length≤c∧(0<l.length→∃b o,A=some ⟨b,o,none⟩∧b<w.heap.size∧∀k x,l[k]?=some x→∀j u,(f x)[j]?=some u→w.cell? ⟨b,o+k * n+j,none⟩=some u)
theorem a0O.below {α:Type} {n:Nat} {f:α→List Value} {w w':World} {v:Value} {l:List α} (h:a0O n f w v l) (hb:jB w w'):a0O n f w' v l:=by
 obtain ⟨A,c,hv,hc,h⟩:=h;refine ⟨A,c,hv,hc,fun hn=>?_⟩;obtain ⟨b,o,hA,hlt,h⟩:=h hn;exact ⟨b,o,hA,Nat.lt_of_lt_of_le hlt hb.size,fun k x hk j u hu=>(hb.cell (p:=⟨b,_,none⟩) hlt).trans (h k x hk j u hu)⟩
theorem a0O.nil {α:Type} {n:Nat} {f:α→List Value} {w:World} {A:Option Addr} {c:Nat}:a0O n f w (.slice A 0 c) ([]:List α) :=
 ⟨A,c,rfl,Nat.zero_le _,fun h=>absurd h (Nat.lt_irrefl _)⟩
theorem a0O.at_ {α:Type} {n:Nat} {f:α→List Value} {w:World} {A:Option Addr} {m c:Nat} {l:List α} (h:a0O n f w (.slice A m c) l) {k:Nat} (hk:k<l.length) :
 ∃b o,A=some ⟨b,o,none⟩∧b<w.heap.size∧∀j u,(f l[k])[j]?=some u→w.cell? ⟨b,o+k * n+j,none⟩=some u:=by
 obtain ⟨A1,c1,hv,_,h⟩:=h;injection hv with e1 e2 e3
 subst e1;obtain ⟨b,o,hA,hlt,h⟩:=h (by omega);exact ⟨b,o,hA,hlt,h k l[k] (List.getElem?_eq_getElem hk)⟩
def a0G {α:Type} (f:α→List Value) (l:List α):List Value:=l.flatMap f
theorem a0Y {α:Type} (f:α→List Value) (x:α) (l:List α):a0G f (x::l)=f x++a0G f l:=rfl
theorem c0M {α:Type} (f:α→List Value) (l m:List α):a0G f (l++m)=a0G f l++a0G f m:=by simp [a0G]
theorem b0S {α:Type} {f:α→List Value} {n:Nat} (hf:∀x,(f x).length=n) (l:List α):(a0G f l).length=l.length * n:=by
 induction l with
 | nil=>simp [a0G]
 | cons a l ih=>rw [a0Y,List.length_append,ih,hf,List.length_cons,Nat.succ_mul];omega
theorem i0G {α:Type} {f:α→List Value} {n:Nat} (hf:∀x,(f x).length=n) (l:List α):∀(k:Nat) (x:α),l[k]?=some x→∀j u,(f x)[j]?=some u→(a0G f l)[k * n+j]?=some u:=by
 induction l with
 | nil=>intro k x h;simp at h
 | cons a l ih =>
   intro k x h j u hu
   cases k with
   | zero =>
     simp at h;subst h
     rw [a0Y,Nat.zero_mul,Nat.zero_add,List.getElem?_append_left (List.getElem?_eq_some_iff.1 hu).1,hu]
   | succ k =>
     simp at h
     rw [a0Y,List.getElem?_append_right (by rw [hf,Nat.succ_mul];omega),hf,show (k+1) * n+j - n=k * n+j by rw [Nat.succ_mul];omega];exact ih k x h j u hu
theorem f0L {α:Type} {f:α→List Value} (h1:∀x,∀u∈f x,u.oneCell'=true) (l:List α):∀u∈a0G f l,u.oneCell'=true:=by
 intro u hu;obtain ⟨x,_,hx⟩:=List.mem_flatMap.1 hu;exact h1 x u hx
theorem i0J {α:Type} {f:α→List Value} {n:Nat} (hn:0<n) (hf:∀x,(f x).length=n) (l:List α) (j:Nat) (u:Value) (h:(a0G f l)[j]?=some u):∃x,l[j / n]?=some x∧(f x)[j % n]?=some u:=by
 have hj:=(List.getElem?_eq_some_iff.1 h).1;rw [b0S hf] at hj;have hk:j / n<l.length:=by rw [Nat.div_lt_iff_lt_mul hn];exact hj
 refine ⟨l[j / n],List.getElem?_eq_getElem hk,?_⟩;have hm:j % n<(f l[j / n]).length:=by rw [hf];exact Nat.mod_lt _ hn
 have:=i0G hf l (j / n) l[j / n] (List.getElem?_eq_getElem hk) (j % n) _ (List.getElem?_eq_getElem hm);rw [show j / n * n+j % n=j by rw [Nat.mul_comm];exact Nat.div_add_mod j n,h] at this;rw [List.getElem?_eq_getElem hm,this]
theorem a0O.own {α:Type} {n:Nat} {f:α→List Value} (hf:∀x,(f x).length=n) {w:World} {base:Nat} {e:TypeId} {v:Value} {l:List α} (h:w.ownsRow base e n v l.length (a0G f l)):a0O n f w v l:=by
 rcases h.2 with ⟨hv,h0⟩|⟨g,cap,cur,hv,_,_,hc',_⟩
 · obtain rfl:l=[]:=List.eq_nil_of_length_eq_zero h0
   rw [hv];exact a0O.nil
 · refine ⟨some ⟨g,0,none⟩,cap,hv,hc',fun hn=>⟨g,0,rfl,(h.lt g (by rw [hv];rfl)).2,fun k x hk j u hu=>?_⟩⟩
   have hat:=i0G hf l k x hk j u hu;have hj:=(List.getElem?_eq_some_iff.1 hat).1;rw [b0S hf] at hj;have hkl:=(List.getElem?_eq_some_iff.1 hk).1;subst hv;rw [Nat.zero_add,h.cellAt (k * n+j) hj,hat]
theorem a0O.part {α:Type} {n:Nat} {f:α→List Value} {w:World} {A:Option Addr} {m c:Nat} {l:List α} (h:a0O n f w (.slice A m c) l) {i j:Nat} (hij:i≤j) (hj:j≤l.length) :
 a0O n f w (.slice (if c=i then A else A.map (·.add (i * n))) (j - i) (c - i)) ((l.take j).drop i):=by
 obtain ⟨A1,c1,hv,hc,h⟩:=h;injection hv with e1 e2 e3
 subst e1 e2 e3;have hlen:((l.take j).drop i).length=j - i:=by simp;omega
 refine ⟨_,c - i,by rw [hlen],by omega,fun hn=>?_⟩;rw [hlen] at hn;obtain ⟨b,o,rfl,hlt,h⟩:=h (by omega);rw [if_neg (by omega)];refine ⟨b,o+i * n,by rw [Option.map_some,m0X],hlt,fun k x hk t u hu=>?_⟩;rw [List.getElem?_drop,List.getElem?_take] at hk
 split at hk
 · have:=h (i+k) x hk t u hu
   rw [Nat.add_mul] at this;rw [show o+i * n+k * n+t=o+(i * n+k * n)+t by omega];exact this
 · cases hk
section
variable {H:Type} {enc:TypeId × Value→H} {P:Program} {w:World} {base:Nat} {spare:Nat→Bool} {held:Bool}
theorem x0W {a:Addr} {n:Nat} {cs:List Value} (h:w.cells? base a n=some cs) (hn:0<n):a.spot=none∧a.block<w.heap.size:=by
 obtain ⟨_,hl,hc⟩:=World.cells?_some h;have h0:=hc 0 hn;rw [List.getElem?_eq_getElem (by omega)] at h0;have ha:a.add 0=a:=rfl;rw [ha] at h0;exact ⟨World.cell?_spot h0,World.block_lt_of_cell? w _ h0⟩
theorem q1D {α:Type} [Inhabited α] {n:Nat} {f:α→List Value} {ok:α→Prop} {t e:TypeId} (ht:P.underlying t=some (.slice e)) (hn:P.cellsOf e=n) (hpos:0<n)
    (hread:∀fuel cs x,DataW.trod enc P w base spare held fuel e cs=some x→∃d,ok d∧cs=f d)
    {fuel:Nat} {cs:List Value} {x:DataW H × List MemPlace} (h:DataW.trod enc P w base spare held fuel t cs=some x) :
    ∃(v:Value) (l:List α),cs=[v]∧l.length≤maxLen∧(∀p∈l,ok p)∧a0O n f w v l:=by
  rcases Go.Deep.open_slice ht h with ⟨rfl,_⟩|⟨a,len,cap,m,fu,D,Pl,rfl,_,hlc,hcm,hm,_,hr⟩
  · exact ⟨_,[],rfl,Nat.zero_le _,fun _ h=>(by simp at h),a0O.nil⟩
  · have hlm:len≤m:=by rw [hm];split <;> omega
    rw [hn] at hr;have hch:∀i,i<len→∃c:α,ok c∧w.cells? base (a.add (i * n)) n=some (f c):=by
     intro i hi;obtain ⟨cs',hcs,ht⟩:=hr i (Nat.lt_of_lt_of_le hi hlm);obtain ⟨c,hok,rfl⟩:=hread _ _ _ ht;exact ⟨c,hok,hcs⟩
    obtain ⟨g,hg⟩:=Go.Deep.choose_lt hch;have hlen:((List.range len).map g).length=len:=by simp
    refine ⟨_,(List.range len).map g,rfl,by rw [hlen];omega,fun p hp=>?_,some a,cap,by rw [hlen],by rw [hlen];exact hlc,fun hpos'=>?_⟩
    · obtain ⟨i,hi,rfl⟩:=List.mem_map.1 hp
      exact (hg i (List.mem_range.1 hi)).1
    rw [hlen] at hpos';obtain ⟨b,o,s⟩:=a;obtain ⟨hs,hb⟩:=x0W (hg 0 hpos').2 hpos;have hs':s=none:=by simpa [Addr.add] using hs
    subst hs';refine ⟨b,o,rfl,by simpa [Addr.add] using hb,fun k x hk j u hu=>?_⟩;simp only [List.getElem?_map,List.getElem?_range] at hk
    by_cases hkl:k<len
    · simp [hkl] at hk
      subst hk;obtain ⟨_,hl,hc⟩:=World.cells?_some (hg k hkl).2;have hj:j<n:=by have:=(List.getElem?_eq_some_iff.1 hu).1;omega
      have:=hc j hj;rw [m0X,m0X] at this;rw [this,hu]
    · simp [hkl] at hk
end
end
end
section
open Go.RowKit Go.Lib
def d0R (n:Int):Int:=if 9223372036854775807<n then 9223372036854775807 else if n < -9223372036854775808 then -9223372036854775808 else n
theorem l0F (n:Int):I64 (d0R n):=by
 unfold d0R I64
 split
 · omega
 · split <;> omega
def p0S:List Int→Int→Int
  | [],a=>a
  | n::l,a=>p0S l (d0R (a+n))
theorem t0V:∀(l:List Int) (a:Int),I64 a→I64 (p0S l a)
  | [],a,h=>h
  | n::l,a,h=>t0V l _ (l0F _)
theorem o0E:∀(l:List Int) (a n:Int),p0S (l++[n]) a=d0R (p0S l a+n)
  | [],a,n=>rfl
  | m::l,a,n=>o0E l _ n
def i0H (a b:Int):Int:=if b<1 then 0 else if a≤0 then a.tdiv b else (a - 1).tdiv b+1
def o0I (n lo hi:Int):Int:=if n<lo∨hi<lo then lo else if hi<n then hi else n
def nmC (n:Int):List Value:=[.int .i64 n]
theorem f1I:I64 0:=by unfold I64;omega
theorem h0P (a b:Int) (w:World) (ha:I64 a) (hb:I64 b) :
 Calls Tryz.prog 240 #[.int .i64 a,.int .i64 b] w fun e w'=>e=.returned (.int .i64 (d0R (a+b)))∧w=w':=by
 obtain ⟨a1,a2⟩:=ha;obtain ⟨b1,b2⟩:=hb
 go_enter Tryz.func240,Tryz.ntmps240
 go_wp2
 all_goals
   go_ret
   refine ⟨c0G ?_,rfl⟩
   (try unfold wrap64 at *)
   unfold d0R
   repeat' split
   all_goals omega
theorem r0Q (a b:Int) (w:World) (ha:I64 a) (hb:I64 b) :
 Calls Tryz.prog 188 #[.int .i64 a,.int .i64 b] w fun e w'=>e=.returned (.int .i64 (d0R (a+b)))∧w=w':=by
 obtain ⟨a1,a2⟩:=ha;obtain ⟨b1,b2⟩:=hb
 go_enter Tryz.func188,Tryz.ntmps188
 go_wp2
 all_goals
   go_ret
   refine ⟨c0G ?_,rfl⟩
   (try unfold wrap64 at *)
   unfold d0R
   repeat' split
   all_goals omega
theorem r0B (a b:Int) (w:World) (ha:I64 a) (hb:I64 b) :
 Calls Tryz.prog 189 #[.int .i64 a,.int .i64 b] w fun e w'=>e=.returned (.int .i64 (d0R (a - b)))∧w=w':=by
 obtain ⟨a1,a2⟩:=ha;obtain ⟨b1,b2⟩:=hb
 go_enter Tryz.func189,Tryz.ntmps189
 go_wp2
 all_goals
   go_ret
   refine ⟨c0G ?_,rfl⟩
   (try unfold wrap64 at *)
   unfold d0R
   repeat' split
   all_goals omega
theorem e1U (b:Bool) (w:World) :
 Calls Tryz.prog 286 #[.bool b] w fun e w'=>e=.returned (.int .i64 (if b=true then 1 else 0))∧w=w':=by
 cases b
 all_goals
   go_enter Tryz.func286,Tryz.ntmps286
   go_wp2
   go_ret
   exact ⟨rfl,rfl⟩
theorem q1I {a b:Int} (ha:I64 a) (hb:I64 b) (h:b≠-9223372036854775808):d0R (a+IntKind.i64.wrap (-b))=d0R (a - b):=by
 unfold I64 at ha hb;rw [IntKind.wrap_i64]
 congr 1
 omega
theorem s1L {a:Int} (ha:I64 a) (q:Bool) (hq:q=decide (a<0)):d0R (d0R (a+9223372036854775807)+if q=true then 1 else 0)=d0R (a - -9223372036854775808):=by
 subst hq;unfold I64 at ha
 by_cases h:a<0
 · simp only [h,decide_true,if_true]
   unfold d0R
   repeat' split
   all_goals omega
 · simp only [h,decide_false]
   unfold d0R;simp only [Bool.false_eq_true,if_false]
   repeat' split
   all_goals omega
theorem k0P (n i:Nat):(n.testBit i).toNat=n / 2 ^ i % 2:=by
 rw [Nat.testBit_eq_decide_div_mod_eq];have h:=Nat.mod_two_eq_zero_or_one (n / 2 ^ i)
 rcases h with h|h <;> simp [h]
def y0A (a b i:Nat):Nat:=(a % 2 ^ i+b % 2 ^ i) / 2 ^ i
theorem i1S (a b:Nat):y0A a b 0=0:=by simp [y0A,Nat.mod_one]
theorem t1E (a b i:Nat):y0A a b i≤1:=by
 unfold y0A;have hp:0<2 ^ i:=Nat.two_pow_pos i;have h1:=Nat.mod_lt a hp;have h2:=Nat.mod_lt b hp;have:(a % 2 ^ i+b % 2 ^ i) / 2 ^ i<2:=(Nat.div_lt_iff_lt_mul hp).2 (by omega);omega
theorem k1N (a b i:Nat):y0A a b (i+1)=(y0A a b i+(a.testBit i).toNat+(b.testBit i).toNat) / 2:=by
 unfold y0A;rw [Nat.pow_succ,Nat.mod_mul,Nat.mod_mul,←k0P,←k0P];have hp:0<2 ^ i:=Nat.two_pow_pos i;generalize (a.testBit i).toNat=x;generalize (b.testBit i).toNat=y;rw [←Nat.div_div_eq_div_mul]
 congr 1
 have:a % 2 ^ i+2 ^ i * x+(b % 2 ^ i+2 ^ i * y)=(a % 2 ^ i+b % 2 ^ i)+2 ^ i * (x+y):=by
  rw [Nat.mul_add];omega
 rw [this,Nat.add_mul_div_left _ _ hp];omega
theorem t1Z (a b i:Nat):(a+b).testBit i=decide ((y0A a b i+(a.testBit i).toNat+(b.testBit i).toNat) % 2=1):=by
 rw [Nat.testBit_eq_decide_div_mod_eq,k0P,k0P];unfold y0A;have hp:0<2 ^ i:=Nat.two_pow_pos i;have ha:=Nat.div_add_mod a (2 ^ i);have hb:=Nat.div_add_mod b (2 ^ i);have:(a+b) / 2 ^ i=(a % 2 ^ i+b % 2 ^ i) / 2 ^ i+(a / 2 ^ i+b / 2 ^ i):=by
  have e:a+b=(a % 2 ^ i+b % 2 ^ i)+2 ^ i * (a / 2 ^ i+b / 2 ^ i):=by rw [Nat.mul_add];omega
  rw [e,Nat.add_mul_div_left _ _ hp]
 rw [this]
 congr 1
 apply propext
 omega
theorem n1W (a b i:Nat) (ha:a<2 ^ i) (hb:b<2 ^ i):y0A a b i=(a+b) / 2 ^ i:=by
 unfold y0A;rw [Nat.mod_eq_of_lt ha,Nat.mod_eq_of_lt hb]
def a0R (f:Nat→Bool):List Value:=(List.range 128).map fun j=>Value.bool (f j)
def a1Q (n:Nat):Value:=.agg (a0R n.testBit).toArray
theorem h0M (f:Nat→Bool):(a0R f).length=128:=by simp [a0R]
theorem p0K (f:Nat→Bool) (j:Nat) (h:j<128):(a0R f)[j]?=some (.bool (f j)):=by
 simp [a0R,List.getElem?_map,List.getElem?_range h]
def m1C (f:Nat→Bool) (i:Nat) (b:Bool):Nat→Bool:=fun j=>if j=i then b else f j
theorem j1L (f:Nat→Bool) (i:Nat) (b:Bool) (h:i<128):(a0R f).set i (.bool b)=a0R (m1C f i b):=by
 apply List.ext_getElem?
 intro j
 by_cases hj:j<128
 · rw [List.getElem?_set,h0M,p0K _ _ hj,p0K _ _ hj]
   unfold m1C
   by_cases e:i=j
   · subst e;simp [h]
   · rw [if_neg e,if_neg (fun q=>e q.symm)]
 · rw [List.getElem?_eq_none (by simp [a0R];omega),List.getElem?_eq_none (by simp [a0R];omega)]
theorem u0W {f g:Nat→Bool} (h:∀j,j<128→f j=g j):a0R f=a0R g:=by
 unfold a0R
 apply List.map_congr_left
 intro j hj;rw [h j (List.mem_range.1 hj)]
theorem o0P (n i:Nat):n / 2 ^ i=2 * (n / 2 ^ (i+1))+(n.testBit i).toNat:=by
 rw [k0P,Nat.pow_succ,←Nat.div_div_eq_div_mul];omega
def s0F (a b:Nat):Int:=if a=b then 0 else if a<b then -1 else 1
theorem o1I {a b i:Nat} (h:a / 2 ^ (i+1)=b / 2 ^ (i+1)) (hd:a.testBit i≠b.testBit i):s0F a b=if a.testBit i=true then 1 else -1:=by
 have ha:=o0P a i;have hb:=o0P b i;unfold s0F
 cases hx:a.testBit i <;> cases hy:b.testBit i
 · rw [hx,hy] at hd;exact absurd rfl hd
 · rw [hx] at ha;rw [hy] at hb
   have hlt:a / 2 ^ i<b / 2 ^ i:=by simp at ha hb;omega
   have:a<b:=Nat.lt_of_not_le (fun q=>by have:=Nat.div_le_div_right (c:=2 ^ i) q;omega);rw [if_neg (by omega),if_pos this];rfl
 · rw [hx] at ha;rw [hy] at hb
   have hlt:b / 2 ^ i<a / 2 ^ i:=by simp at ha hb;omega
   have:b<a:=Nat.lt_of_not_le (fun q=>by have:=Nat.div_le_div_right (c:=2 ^ i) q;omega);rw [if_neg (by omega),if_neg (by omega)];rfl
 · rw [hx,hy] at hd;exact absurd rfl hd
theorem j1S {a b i:Nat} (h:a / 2 ^ (i+1)=b / 2 ^ (i+1)) (hd:a.testBit i=b.testBit i):a / 2 ^ i=b / 2 ^ i:=by
 rw [o0P a i,o0P b i,h,hd]
def g0U:List Int→Nat
  | []=>0
  | n::l=>n.toNat+g0U l
theorem p0W:∀a b:List Int,g0U (a++b)=g0U a+g0U b
  | [],b=>by simp [g0U]
  | n::a,b=>by simp [g0U,p0W a b];omega
theorem o0F {l:List Int} (h:∀n∈l,n≤9223372036854775807):g0U l≤l.length * 9223372036854775807:=by
 induction l with
 | nil=>simp [g0U]
 | cons n l ih =>
   have h1:=h n (by simp);have h2:=ih (fun m hm=>h m (by simp [hm]));simp only [g0U,List.length_cons]
   omega
def f0P (l:List Int):Nat:=if l=[] then 0 else (g0U l+(l.length - 1)) / l.length
theorem n0V {l:List Int} (h:∀n∈l,n≤9223372036854775807):f0P l≤9223372036854775807:=by
 unfold f0P
 split
 · omega
 · rename_i hne
   have hp:0<l.length:=List.length_pos_iff.2 hne;have:=o0F h
   apply Nat.le_of_lt_succ
   rw [Nat.div_lt_iff_lt_mul hp];rw [Nat.mul_comm] at this;generalize l.length=n at *;have e:(9223372036854775807+1) * n=9223372036854775807 * n+n:=by omega
   rw [e];omega
abbrev Ky:=Nat × Nat
def Ky.ok (p:Ky):Prop:=p.1<18446744073709551616∧p.2<18446744073709551616
def ltK (p q:Ky):Bool:=if p.1=q.1 then decide (p.2<q.2) else decide (p.1<q.1)
theorem c0Q (p:Ky):ltK p p=false:=by simp [ltK]
theorem d0T {p q r:Ky} (h1:ltK p q=true) (h2:ltK q r=true):ltK p r=true:=by
 simp only [ltK] at *
 split at h1 <;> split at h2 <;> split <;> simp at * <;> omega
theorem e0D {p q:Ky} (h1:ltK p q=false) (h2:ltK q p=false):p=q:=by
 obtain ⟨a,b⟩:=p;obtain ⟨c,d⟩:=q;simp only [ltK] at *
 split at h1 <;> split at h2 <;> simp at * <;> omega
theorem u0U {p q:Ky} (h:ltK p q=true):ltK q p=false:=by
 cases h2:ltK q p with
 | false=>rfl
 | true=>exact absurd (d0T h h2) (by simp [c0Q])
def l1V (x:Ky):List Ky→List Ky
  | []=>[x]
  | a::l=>if ltK a x then a::l1V x l else if a=x then a::l else x::a::l
def risL (l:List Ky):List Ky:=l.foldl (fun out x=>l1V x out) []
theorem d1J (p q:Ky) (w:World) (hp:p.ok) (hq:q.ok) :
 Calls Tryz.prog 278 #[x0D p.1 p.2,x0D q.1 q.2] w (jP w (.bool (ltK p q))):=by
 obtain ⟨a,b⟩:=p;obtain ⟨c,d⟩:=q;obtain ⟨h1,h2⟩:=hp;obtain ⟨h3,h4⟩:=hq;simp only at h1 h2 h3 h4 ⊢
 unfold x0D
 by_cases e1:a=c
 · subst e1
   by_cases e3:b<d
   · have hv:ltK (a,b) (a,d)=true:=by simp [ltK,e3]
     rw [hv];clear hv
     go_enter Tryz.func278,Tryz.ntmps278
     go_wp2
     go_ret
     exact ⟨rfl,(jR.alloc (Nat.le_refl _) _).alloc (by simp) _⟩
   · have hv:ltK (a,b) (a,d)=false:=by simp [ltK,e3]
     rw [hv];clear hv
     go_enter Tryz.func278,Tryz.ntmps278
     go_wp2
     go_ret
     exact ⟨rfl,(jR.alloc (Nat.le_refl _) _).alloc (by simp) _⟩
 · have q:((a:Int) != (c:Int))=true:=by simp;omega
   by_cases e3:a<c
   · have hv:ltK (a,b) (c,d)=true:=by simp [ltK,e1,e3]
     rw [hv];clear hv
     go_enter Tryz.func278,Tryz.ntmps278
     go_wp2
     go_ret
     exact ⟨rfl,(jR.alloc (Nat.le_refl _) _).alloc (by simp) _⟩
   · have hv:ltK (a,b) (c,d)=false:=by simp [ltK,e1,e3]
     rw [hv];clear hv
     go_enter Tryz.func278,Tryz.ntmps278
     go_wp2
     go_ret
     exact ⟨rfl,(jR.alloc (Nat.le_refl _) _).alloc (by simp) _⟩
theorem s0P (x y:Ky):∀l:List Ky,y∈l1V x l ↔ y=x∨y∈l
  | []=>by simp [l1V]
  | a::l=>by
    rw [l1V]
    split
    · rw [List.mem_cons,s0P x y l,List.mem_cons]
      constructor
      · rintro (h|h|h)
        · exact .inr (.inl h)
        · exact .inl h
        · exact .inr (.inr h)
      · rintro (h|h|h)
        · exact .inr (.inl h)
        · exact .inl h
        · exact .inr (.inr h)
    · split
      · rename_i h
        subst h;simp
      · simp
theorem d1Q (x:Ky):∀l:List Ky,l.Pairwise (fun a b=>ltK a b=true)→(l1V x l).Pairwise (fun a b=>ltK a b=true)
  | [],_=>by simp [l1V]
  | a::l,h=>by
    rw [l1V];rw [List.pairwise_cons] at h
    split
    · rename_i h1
      rw [List.pairwise_cons];refine ⟨fun y hy=>?_,d1Q x l h.2⟩
      rcases (s0P x y l).1 hy with rfl|hy
      · exact h1
      · exact h.1 y hy
    · rename_i h1
      split
      · exact List.pairwise_cons.2 h
      · rename_i h2
        have h3:ltK x a=true:=by
         cases h4:ltK x a with
         | true=>rfl
         | false=>exact absurd (e0D (by simpa using h1) h4) h2
        rw [List.pairwise_cons];refine ⟨fun y hy=>?_,List.pairwise_cons.2 h⟩
        rcases List.mem_cons.1 hy with rfl|hy
        · exact h3
        · exact d0T h3 (h.1 y hy)
theorem w0U (l:List Ky):∀out:List Ky,out.Pairwise (fun a b=>ltK a b=true) →
    (l.foldl (fun out x=>l1V x out) out).Pairwise (fun a b=>ltK a b=true)∧∀y,y∈l.foldl (fun out x=>l1V x out) out ↔ y∈out∨y∈l:=by
  induction l with
  | nil=>intro out h;exact ⟨h,by simp⟩
  | cons a l ih =>
    intro out h;obtain ⟨h1,h2⟩:=ih (l1V a out) (d1Q a out h);refine ⟨h1,fun y=>?_⟩;rw [List.foldl_cons,h2,s0P,List.mem_cons]
    constructor
    · rintro ((h|h)|h)
      · exact .inr (.inl h)
      · exact .inl h
      · exact .inr (.inr h)
    · rintro (h|h|h)
      · exact .inl (.inr h)
      · exact .inl (.inl h)
      · exact .inr h
theorem v0U (l:List Ky):(risL l).Pairwise (fun a b=>ltK a b=true):=(w0U l [] List.Pairwise.nil).1
theorem i0C (l:List Ky) (y:Ky):y∈risL l ↔ y∈l:=by simpa [risL] using (w0U l [] List.Pairwise.nil).2 y
theorem k0I:∀{l m:List Ky},l.Pairwise (fun a b=>ltK a b=true)→m.Pairwise (fun a b=>ltK a b=true)→(∀y,y∈l ↔ y∈m)→l=m
  | [],[],_,_,_=>rfl
  | [],b::m,_,_,h=>absurd ((h b).2 (by simp)) (by simp)
  | a::l,[],_,_,h=>absurd ((h a).1 (by simp)) (by simp)
  | a::l,b::m,h1,h2,h=>by
    rw [List.pairwise_cons] at h1 h2;have e:a=b:=by
     have ha:=(h a).1 (by simp);have hb:=(h b).2 (by simp)
     rcases List.mem_cons.1 ha with e|ha
     · exact e
     · rcases List.mem_cons.1 hb with e|hb
       · exact e.symm
       · have:=d0T (h1.1 b hb) (h2.1 a ha)
         rw [c0Q] at this;exact absurd this (by simp)
    subst e
    congr 1
    refine k0I h1.2 h2.2 fun y=>?_
    have hy:=h y;simp only [List.mem_cons] at hy
    constructor
    · intro hm
      rcases hy.1 (.inr hm) with rfl|hm'
      · have:=h1.1 _ hm
        rw [c0Q] at this;exact absurd this (by simp)
      · exact hm'
    · intro hm
      rcases hy.2 (.inr hm) with rfl|hm'
      · have:=h2.1 _ hm
        rw [c0Q] at this;exact absurd this (by simp)
      · exact hm'
theorem p1D:(Tryz.prog.info? 74).map (fun i=>(i.zero,i.size,i.bytes))=some (some (.agg #[.int .u64 0,.int .u64 0]),2,16):=by kernel_rfl
theorem c0H {B:Nat} {a b:World} {row:Option Nat} (h:a.grownBy b row) (hB:B≤a.heap.size) (hr:∀k,row=some k→B≤k):Below B a b:=(Below.refl B a).grown h hB hr
theorem w0F {w:World} {base base':Nat} {e:TypeId} {size:Nat} {v:Value} {n:Nat} {xs:List Value} (h:w.ownsRow base e size v n xs) (hb:base'≤base):w.ownsRow base' e size v n xs:=by
 refine ⟨h.1,?_⟩
 rcases h.2 with hn|⟨g,cap,cur,hv,hg,rest⟩
 · exact .inl hn
 · exact .inr ⟨g,cap,cur,hv,Nat.le_trans hb hg,rest⟩
end
end Go.Proofs.YtmniiodpbebnmaaGreat
