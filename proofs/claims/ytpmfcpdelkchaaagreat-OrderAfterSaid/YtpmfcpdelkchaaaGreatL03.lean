/- Part 3 of the proof: IdPlain, IdWalks, CallPlain, Sat, NumP, Named, QRef, QRefQ, ShSearch, CallChk, NPost, Fnv, ISeq, IFifo, WideP, EvD. -/
import Derived.Shelf.SlicesQ.Reverse
import Derived.Shelf.GgSortFunc.RowK
import Derived.Sort.Grow
import Derived.Deep.AppendLies
import Derived.Deep.RegionLaw
import Derived.BigRegion
import Derived.DeepKeys5
import Derived.ChangeMaps5
import Derived.Shelf.SlSorted.Search
import Derived.RangeFuncNested
import Derived.RangeFuncBound
import Derived.RangeFuncCalls
import Derived.RangeFuncLeaves
import Derived.Shelf.Abstract
import Derived.Shelf.RegionOpen
import Derived.OwnWalkIn
import Derived.TacticsInMore
import Derived.LoopNIn
import Derived.LoopIn
import Derived.Maps.AppendAt
import Derived.OwnWalk
import Derived.Deep.MidRow
import Derived.Deep.WholeRow
import Derived.Great.BuildSlice
import Derived.Test.YtpmfcpdelkchaaaGreatL01
namespace Go.Proofs.YtpmfcpdelkchaaaGreat
set_option linter.unusedSimpArgs false
set_option linter.unusedVariables false
set_option linter.unusedSectionVars false
set_option maxRecDepth 100000
set_option maxHeartbeats 16000000
section
def codeI (c:Int):Int :=
 if c=45 then 1 else if c=46 then 2 else if 48≤c∧c≤57 then c - 45 else if c=95 then 13 else if 97≤c∧c≤122 then c - 83 else 0
theorem codeI_bd (c:Int):0≤codeI c∧codeI c≤39:=by
 unfold codeI
 repeat' split
 all_goals omega
theorem codeI_high (c:Int) (h:128≤c):codeI c=0:=by
 unfold codeI
 repeat' split
 all_goals omega
def codeB (b:UInt8):Nat:=(codeI b.toNat).toNat
def okB (b:UInt8):Bool:=decide (codeB b≠0)
theorem codeB_le (b:UInt8):codeB b≤39:=by
 have:=codeI_bd b.toNat;unfold codeB;omega
theorem codeI_cast (b:UInt8):codeI b.toNat=(codeB b:Int):=by
 have:=codeI_bd b.toNat;unfold codeB;omega
theorem okB_ascii (b:UInt8) (h:okB b=true):b.toNat<128:=by
 rcases Nat.lt_or_ge b.toNat 128 with h1|h1
 · exact h1
 · have:=codeI_high b.toNat (by omega)
   simp [okB,codeB,this] at h
theorem codeB_lt (a b:UInt8) (ha:okB a=true) (hb:okB b=true):codeB a<codeB b ↔ a.toNat<b.toNat:=by
 have ha':codeB a≠0:=by simpa [okB] using ha
 have hb':codeB b≠0:=by simpa [okB] using hb
 unfold codeB codeI at *;have:=a.toNat_lt;have:=b.toNat_lt;generalize a.toNat=x at *;generalize b.toNat=y at *
 repeat' split at ha'
 all_goals repeat' split at hb'
 all_goals first|omega|(simp at ha')|(simp at hb')|skip
 all_goals (repeat' split) <;> omega
theorem codeB_inj (a b:UInt8) (ha:okB a=true) (h:codeB a=codeB b):a=b:=by
 have hb:okB b=true:=by simpa [okB,←h] using ha
 have h1:=codeB_lt a b ha hb;have h2:=codeB_lt b a hb ha;exact UInt8.toNat_inj.1 (by omega)
def letterN (n:Nat):UInt8 :=
 if n=1 then 45 else if n=2 then 46 else if n<13 then UInt8.ofNat (45+n) else if n=13 then 95 else UInt8.ofNat (83+n)
theorem letter_all:∀n,n<40→0<n→codeB (letterN n)=n∧okB (letterN n)=true:=by decide
def idL (l:List UInt8):Bool:=decide (1≤l.length) && (decide (l.length≤20) && l.all okB)
theorem idL_iff (l:List UInt8):idL l=true ↔ 1≤l.length∧l.length≤20∧∀b∈l,okB b=true:=by
 simp [idL]
def dig (l:List UInt8) (i:Nat):Nat:=((l[i]?).map codeB).getD 0
theorem dig_le (l:List UInt8) (i:Nat):dig l i≤39:=by
 unfold dig
 cases l[i]? with
 | none=>simp
 | some b=>simpa using codeB_le b
theorem dig_at (l:List UInt8) (i:Nat) (h:i<l.length):dig l i=codeB l[i]:=by simp [dig,h]
theorem dig_out (l:List UInt8) (i:Nat) (h:l.length≤i):dig l i=0:=by simp [dig,h]
def keyN (l:List UInt8) (a:Nat):Nat→Nat
  | 0=>0
  | n+1=>keyN l a n * 64+dig l (a+n)
theorem keyN_lt (l:List UInt8) (a n:Nat):keyN l a n<64 ^ n:=by
 induction n with
 | zero=>simp [keyN]
 | succ n ih =>
   have:=dig_le l (a+n);rw [keyN,Nat.pow_succ];omega
theorem keyN_end (l:List UInt8) (a m:Nat) (h:l.length≤a+m):∀k,keyN l a (m+k)=keyN l a m * 64 ^ k:=by
 intro k
 induction k with
 | zero=>simp
 | succ k ih =>
   rw [←Nat.add_assoc,keyN,ih,dig_out l _ (by omega),Nat.pow_succ,Nat.mul_assoc];simp
theorem keyN_dig (l:List UInt8) (a:Nat):∀n j,j<n→keyN l a n / 64 ^ (n - 1 - j) % 64=dig l (a+j):=by
 intro n
 induction n with
 | zero=>intro j h;omega
 | succ n ih =>
   intro j h;have hd:=dig_le l (a+n)
   rcases Nat.lt_or_ge j n with h1|h1
   · have e:n+1 - 1 - j=(n - 1 - j)+1:=by omega
     rw [e,Nat.pow_succ,Nat.mul_comm (64 ^ _) 64,←Nat.div_div_eq_div_mul,keyN];rw [show (keyN l a n * 64+dig l (a+n)) / 64=keyN l a n by omega];exact ih j h1
   · have e:n+1 - 1 - j=0:=by omega
     obtain rfl:j=n:=by omega
     rw [e,keyN];simp
     omega
theorem list_of_digs (l l':List UInt8) (hl:∀b∈l,okB b=true) (hl':∀b∈l',okB b=true) (n:Nat) (h1:l.length≤n) (h2:l'.length≤n)
    (h:∀j,j<n→dig l j=dig l' j):l=l':=by
  have pos:∀(m:List UInt8),(∀b∈m,okB b=true)→∀i,i<m.length→dig m i≠0:=by
   intro m hm i hi;rw [dig_at m i hi]
   simpa [okB] using hm _ (List.getElem_mem hi)
  have hlen:l.length=l'.length:=by
   rcases Nat.lt_trichotomy l.length l'.length with hx|hx|hx
   · have:=pos l' hl' l.length hx
     rw [←h _ (by omega),dig_out l _ (Nat.le_refl _)] at this;omega
   · exact hx
   · have:=pos l hl l'.length hx
     rw [h _ (by omega),dig_out l' _ (Nat.le_refl _)] at this;omega
  refine List.ext_getElem hlen fun i hi hi'=>?_
  have:=h i (by omega);rw [dig_at l i hi,dig_at l' i hi'] at this;exact codeB_inj _ _ (hl _ (List.getElem_mem hi)) this
def hiN (l:List UInt8):Nat:=keyN l 0 10
def loN (l:List UInt8):Nat:=keyN l 10 10
theorem hiN_lt (l:List UInt8):hiN l<1152921504606846976:=keyN_lt l 0 10
theorem loN_lt (l:List UInt8):loN l<1152921504606846976:=keyN_lt l 10 10
def atN (hi lo i:Nat):Nat:=(if i<10 then hi else lo) / 64 ^ (9 - i % 10) % 64
theorem atN_key (l:List UInt8) (i:Nat) (h:i<20):atN (hiN l) (loN l) i=dig l i:=by
 unfold atN hiN loN
 split
 · rename_i h1
   rw [Nat.mod_eq_of_lt h1];have:=keyN_dig l 0 10 i h1
   simpa using this
 · rename_i h1
   have e:i % 10=i - 10:=by omega
   rw [e];have:=keyN_dig l 10 10 (i - 10) (by omega);rw [show 10+(i - 10)=i by omega] at this
   simpa using this
def IsKey (hi lo:Nat) (l:List UInt8):Prop:=idL l=true∧hiN l=hi∧loN l=lo
theorem IsKey.digs {hi lo:Nat} {l:List UInt8} (h:IsKey hi lo l) (i:Nat) (hi20:i<20):atN hi lo i=dig l i:=by
 obtain ⟨_,rfl,rfl⟩:=h;exact atN_key l i hi20
theorem IsKey.one {hi lo:Nat} {l l':List UInt8} (h:IsKey hi lo l) (h':IsKey hi lo l'):l=l':=by
 obtain ⟨_,h2,h3⟩:=(idL_iff l).1 h.1;obtain ⟨_,h2',h3'⟩:=(idL_iff l').1 h'.1;exact list_of_digs l l' h3 h3' 20 h2 h2' fun j hj=>by rw [←h.digs j hj,h'.digs j hj]
def partW (l:List UInt8) (a m:Nat):Nat:=keyN l a m * 64 ^ (10 - m)
theorem partW_zero (l:List UInt8) (a:Nat):partW l a 0=0:=by simp [partW,keyN]
theorem partW_ten (l:List UInt8) (a:Nat):partW l a 10=keyN l a 10:=by simp [partW]
theorem partW_lt (l:List UInt8) (a m:Nat) (h:m≤10):partW l a m<1152921504606846976:=by
 have h1:=keyN_lt l a m;have e:64 ^ m * 64 ^ (10 - m)=1152921504606846976:=by
  rw [←Nat.pow_add,show m+(10 - m)=10 by omega]
 unfold partW;rw [←e];exact Nat.mul_lt_mul_of_pos_right h1 (Nat.pow_pos (by decide))
theorem shl_dig (d m:Nat):d <<< (6 * (9 - m))=d * 64 ^ (9 - m):=by
 rw [Nat.shiftLeft_eq,show (64:Nat)=2 ^ 6 by rfl,←Nat.pow_mul]
theorem partW_succ (l:List UInt8) (a m:Nat) (h:m<10):partW l a m ||| (dig l (a+m)) <<< (6 * (9 - m))=partW l a (m+1):=by
 have hd:=dig_le l (a+m);have e:10 - m=(9 - m)+1:=by omega
 have hlt:dig l (a+m) <<< (6 * (9 - m))<2 ^ (6 * (10 - m)):=by
  rw [shl_dig,e,Nat.mul_add,Nat.pow_add,Nat.pow_mul,show (2:Nat) ^ 6=64 by rfl,Nat.mul_comm];exact Nat.mul_lt_mul_of_pos_left (by omega) (Nat.pow_pos (by decide))
 have hp:partW l a m=keyN l a m <<< (6 * (10 - m)):=by
  unfold partW;rw [Nat.shiftLeft_eq,Nat.pow_mul,show (2:Nat) ^ 6=64 by rfl]
 rw [hp,←Nat.shiftLeft_add_eq_or_of_lt hlt,shl_dig,Nat.shiftLeft_eq,Nat.pow_mul,show (2:Nat) ^ 6=64 by rfl,e,Nat.pow_succ];unfold partW;rw [keyN,show 10 - (m+1)=9 - m by omega,Nat.add_mul,Nat.mul_assoc,Nat.mul_comm 64]
theorem partW_all (l:List UInt8) (a:Nat) (m:Nat) (hm:m≤10) (h:l.length≤a+m):partW l a m=keyN l a 10:=by
 have:=keyN_end l a m h (10 - m);rw [show m+(10 - m)=10 by omega] at this;unfold partW;exact this.symm
end
section
open Go.RowKit Go.Lib
theorem code_any (c:Int) (w:World) (h0 : -2147483648≤c) (h1:c≤2147483647) :
 Calls Tryz.prog 155 #[.int .i32 c] w fun e w'=>e=.returned (.int .u64 (codeI c))∧w=w':=by
 go_enter Tryz.func155,Tryz.ntmps155
 go_wp2
 all_goals
   go_ret
   refine ⟨?_,rfl⟩
   simp_all [codeI]
   try omega
theorem mem_at (s:ByteArray) (j:Nat) (h:j<s.size):s[j]∈s.data.toList:=by
 have e:s[j]=s.data.toList[j]'(by simpa using h):=rfl;rw [e];exact List.getElem_mem _
def OkTo (s:ByteArray) (n:Nat):Prop:=∀j (h:j<s.size),j<n→okB s[j]=true
theorem okTo_list (s:ByteArray) (n:Nat) (h:s.size≤n):OkTo s n ↔ ∀b∈s.data.toList,okB b=true:=by
 constructor
 · intro hk b hb
   obtain ⟨j,hj,rfl⟩:=List.getElem_of_mem hb;have hj':j<s.size:=by simpa using hj
   exact hk j hj' (by omega)
 · intro hk j hj _
   exact hk _ (mem_at s j hj)
theorem okTo_zero (s:ByteArray):OkTo s 0:=fun _ _ h=>absurd h (by omega)
theorem okTo_succ (s:ByteArray) (n:Nat) (h:OkTo s n) (hn:n<s.size) (hb:okB s[n]=true):OkTo s (n+1):=by
 intro j hj hlt
 rcases Nat.lt_or_ge j n with h1|h1
 · exact h j hj h1
 · obtain rfl:j=n:=by omega
   exact hb
def idS (s:ByteArray):Bool:=idL s.data.toList
theorem idS_len (s:ByteArray) (h:s.size<1∨20<s.size):idS s=false:=by
 cases hb:idS s with
 | false=>rfl
 | true =>
   have:=(idL_iff _).1 hb;simp at this
   omega
theorem idS_bad (s:ByteArray) (j:Nat) (hj:j<s.size) (h:okB s[j]=false):idS s=false:=by
 cases hb:idS s with
 | false=>rfl
 | true =>
   have:=((idL_iff _).1 hb).2.2 s[j] (mem_at s j hj);rw [h] at this
   cases this
theorem idS_all (s:ByteArray) (h1:1≤s.size) (h2:s.size≤20) (h:OkTo s s.size):idS s=true :=
 (idL_iff _).2 ⟨by simpa using h1,by simpa using h2,(okTo_list s s.size (Nat.le_refl _)).1 h⟩
theorem idS_okTo (s:ByteArray) (h:idS s=true):1≤s.size∧s.size≤20∧OkTo s s.size:=by
 have:=(idL_iff _).1 h;exact ⟨by simpa using this.1,by simpa using this.2.1,(okTo_list s s.size (Nat.le_refl _)).2 this.2.2⟩
def chkV (s:ByteArray):Int:=if idS s=true then 0 else 2
theorem okB_code (b:UInt8):okB b=true→(codeI b.toNat == 0)=false:=by
 intro h;rw [codeI_cast]
 simpa [okB] using h
theorem rune_bad (s:ByteArray) (pos:Nat) (h:pos<s.size) (hb:okB s[pos]=false):(codeI (Utf8.decode s pos).1 == 0)=true:=by
 by_cases ha:(s[pos]'h).toNat<128
 · rw [decode_ascii s pos h ha]
   simp only [beq_iff_eq]
   have:codeB s[pos]=0:=by simpa [okB] using hb
   rw [codeI_cast,this];rfl
 · have:=(decode_high s pos h (by omega)).1
   simp only [beq_iff_eq]
   exact codeI_high _ (by omega)
theorem check_any (s:ByteArray) (w:World) (hm:s.size≤maxLen) :
 Calls Tryz.prog 108 #[.string s] w (jP w (.int .i64 (chkV s))):=by
 unfold maxLen at hm
 by_cases h1:s.size<1
 · have hf:chkV s=2:=by simp [chkV,idS_len s (.inl h1)]
   rw [hf];clear hf
   go_enter Tryz.func108,Tryz.ntmps108
   go_wp2
   go_ret
   exact ⟨rfl,jR⟩
 · by_cases h2:20<s.size
   · have hf:chkV s=2:=by simp [chkV,idS_len s (.inr h2)]
     rw [hf];clear hf
     go_enter Tryz.func108,Tryz.ntmps108
     go_wp2
     go_ret
     exact ⟨rfl,jR⟩
   · go_enter Tryz.func108,Tryz.ntmps108
     go_wp2
     go_loopw [4] (fun _ w'=>∃pos:Nat,pos≤s.size∧w'=w.iter s pos∧OkTo s pos) (fun _ w'=>s.size - w'.iterPos w.heap.size)
     case atStart=>exact ⟨0,Nat.zero_le _,rfl,okTo_zero s⟩
     case round =>
      obtain ⟨pos,hp0,rfl,hok⟩:=hrel
      by_cases hp:pos<s.size
      · cases hb:okB s[pos] with
        | true =>
          have ha:=okB_ascii _ hb;have hc:=okB_code _ hb;have hok':=okTo_succ s pos hok hp hb;have hnx:∀ty,(Instr.next (.pointer (some ⟨w.heap.size,0,none⟩)) true ty).run Tryz.prog (w.iter s pos)=_:=fun ty=>run_next_ascii w s pos ty hp ha
          clear hb hok
          go_wp2_with (go_at_call 155;refine (code_any _ _ (by omega) (by omega)).mono ?_;rintro e w' ⟨rfl,rfl⟩)
          go_roundw
          case rel=>exact ⟨pos+1,hp,rfl,hok'⟩
          case measure=>simp;omega
        | false =>
          have hr:=rune_bad s pos hp hb;have hle:=decode_le s pos;have hf:chkV s=2:=by simp [chkV,idS_bad s pos hp hb]
          have hnx:∀ty,(Instr.next (.pointer (some ⟨w.heap.size,0,none⟩)) true ty).run Tryz.prog (w.iter s pos)=_:=fun ty=>run_next_any w s pos ty hp
          clear hb hok;have Hf:=jH hf;clear hf
          go_wp2_with (go_at_call 155;refine (code_any _ _ (by omega) (by omega)).mono ?_;rintro e w' ⟨rfl,rfl⟩)
          go_ret
          rw [Hf.out];exact ⟨rfl,jR.alloc (Nat.le_refl _) _⟩
      · have hf:chkV s=0:=by
         obtain rfl:pos=s.size:=by omega
         simp [chkV,idS_all s (by omega) (by omega) hok]
        have Hf:=jH hf;clear hf hok;have hnx:∀ty,(Instr.next (.pointer (some ⟨w.heap.size,0,none⟩)) true ty).run Tryz.prog (w.iter s pos)=_:=fun ty=>run_next_end w s pos ty hp
        go_wp2
        go_ret
        rw [Hf.out];exact ⟨rfl,jR.alloc (Nat.le_refl _) _⟩
end
section
open Go.RowKit Go.Lib
structure Cfg where
 st:Int
 sa:Int
 lo:Int
 hi:Int
structure Pol where
 mn:Int
 mx:Int
 tg:Int
 tol:Int
 win:Int
 hold:Int
structure CallD where
 kind:Int
 id:ByteArray
 tick:Int
 val:Int
 handle:Int
 pol:Pol
def I64 (n:Int):Prop:=-9223372036854775808≤n∧n≤9223372036854775807
def Cfg.ok (c:Cfg):Prop:=I64 c.st∧I64 c.sa∧I64 c.lo∧I64 c.hi
def Pol.ok (p:Pol):Prop:=I64 p.mn∧I64 p.mx∧I64 p.tg∧I64 p.tol∧I64 p.win∧I64 p.hold
def CallD.ok (c:CallD):Prop:=I64 c.kind∧c.id.size≤maxLen∧I64 c.tick∧I64 c.val∧I64 c.handle∧c.pol.ok
def cfgV (c:Cfg):Value:=.agg #[.int .i64 c.st,.int .i64 c.sa,.int .i64 c.lo,.int .i64 c.hi]
def polV (p:Pol):Value:=.agg #[.int .i64 p.mn,.int .i64 p.mx,.int .i64 p.tg,.int .i64 p.tol,.int .i64 p.win,.int .i64 p.hold]
def callCells (c:CallD):List Value:=[.int .i64 c.kind,.string c.id,.int .i64 c.tick,.int .i64 c.val,.int .i64 c.handle,.int .i64 c.pol.mn,.int .i64 c.pol.mx,.int .i64 c.pol.tg,.int .i64 c.pol.tol,.int .i64 c.pol.win,.int .i64 c.pol.hold]
def callV (c:CallD):Value:=.agg #[.int .i64 c.kind,.string c.id,.int .i64 c.tick,.int .i64 c.val,.int .i64 c.handle,.int .i64 c.pol.mn,.int .i64 c.pol.mx,.int .i64 c.pol.tg,.int .i64 c.pol.tol,.int .i64 c.pol.win,.int .i64 c.pol.hold]
def okSt (n:Int):Bool:=n == 1 || (n == 2 || (n == 4 || (n == 8 || (n == 16 || (n == 32 || n == 64)))))
def cfgB (c:Cfg):Bool:=okSt c.st && decide (1≤c.sa∧c.sa≤256∧1≤c.lo∧c.lo≤256∧1≤c.hi∧c.hi≤64)
def cfgE (c:Cfg):Int:=if cfgB c=true then 0 else 1
def serE (t v:Int):Int:=if t<0 then 3 else if v<0 then 4 else 0
def polB (p:Pol):Bool:=decide (0≤p.mn∧1≤p.mx∧p.mn≤p.mx∧p.mx≤1073741824∧1≤p.tg∧0≤p.tol∧p.tol≤999∧1≤p.win∧0≤p.hold)
def polE (p:Pol):Int:=if polB p=true then 0 else 7
def chkC (c:CallD):Int :=
 if c.kind<1∨8<c.kind then 14
 else if (c.kind=1∨c.kind=5∨c.kind=6∨c.kind=7)∧idS c.id=false then 2
 else if c.kind=1 then serE c.tick c.val
 else if c.kind=2∧c.tick<0 then 3
 else if c.kind=6∧polB c.pol=false then 7
 else 0
theorem okSt_iff (n:Int):okSt n=true ↔ n=1∨n=2∨n=4∨n=8∨n=16∨n=32∨n=64:=by
 simp [okSt]
def bitsI (n:Int):Int:=if n=1 then 0 else if n=2 then 1 else if n=4 then 2 else if n=8 then 3 else if n=16 then 4 else if n=32 then 5 else if n=64 then 6 else -1
theorem bitsI_ok (n:Int):decide (0≤bitsI n)=okSt n:=by
 rw [Bool.eq_iff_iff,okSt_iff,decide_eq_true_eq];unfold bitsI
 repeat' split
 all_goals omega
theorem bitsI_pow:∀k,k<7→bitsI ((2 ^ k:Nat):Int)=(k:Nat):=by decide
theorem bitsI_none (n:Int) (h:∀j,j<7→n≠((2 ^ j:Nat):Int)):bitsI n = -1:=by
 have h0:=h 0 (by omega);have h1:=h 1 (by omega);have h2:=h 2 (by omega);have h3:=h 3 (by omega);have h4:=h 4 (by omega);have h5:=h 5 (by omega);have h6:=h 6 (by omega);simp at h0 h1 h2 h3 h4 h5 h6
 simp [bitsI, *]
theorem okSt_bd (n:Int) (h:okSt n=true):1≤n∧n≤64:=by
 have:=(okSt_iff n).1 h;omega
theorem st_and:∀k,k<65→1≤k→(bits BinOp.and IntKind.i64 ((k:Nat):Int) ((k:Nat) - 1:Int) == 0)=okSt ((k:Nat):Int):=by decide
end
section
open Go.RowKit Go.Lib
def endsI (n:Int):Int:=if 9223372036854775807<n then 9223372036854775807 else if n < -9223372036854775808 then -9223372036854775808 else n
theorem endsI_i64 (n:Int):I64 (endsI n):=by
 unfold endsI I64
 split
 · omega
 · split <;> omega
def sumE:List Int→Int→Int
  | [],a=>a
  | n::l,a=>sumE l (endsI (a+n))
theorem sumE_i64:∀(l:List Int) (a:Int),I64 a→I64 (sumE l a)
  | [],a,h=>h
  | n::l,a,h=>sumE_i64 l _ (endsI_i64 _)
theorem sumE_snoc:∀(l:List Int) (a n:Int),sumE (l++[n]) a=endsI (sumE l a+n)
  | [],a,n=>rfl
  | m::l,a,n=>sumE_snoc l _ n
def ceilI (a b:Int):Int:=if b<1 then 0 else if a≤0 then a.tdiv b else (a - 1).tdiv b+1
def clampI (n lo hi:Int):Int:=if n<lo∨hi<lo then lo else if hi<n then hi else n
def nmC (n:Int):List Value:=[.int .i64 n]
theorem i64_0:I64 0:=by unfold I64;omega
theorem satAdd_any (a b:Int) (w:World) (ha:I64 a) (hb:I64 b) :
 Calls Tryz.prog 259 #[.int .i64 a,.int .i64 b] w fun e w'=>e=.returned (.int .i64 (endsI (a+b)))∧w=w':=by
 obtain ⟨a1,a2⟩:=ha;obtain ⟨b1,b2⟩:=hb
 go_enter Tryz.func259,Tryz.ntmps259
 go_wp2
 all_goals
   go_ret
   refine ⟨ret_int ?_,rfl⟩
   (try unfold wrap64 at *)
   unfold endsI
   repeat' split
   all_goals omega
theorem refAdd_any (a b:Int) (w:World) (ha:I64 a) (hb:I64 b) :
 Calls Tryz.prog 208 #[.int .i64 a,.int .i64 b] w fun e w'=>e=.returned (.int .i64 (endsI (a+b)))∧w=w':=by
 obtain ⟨a1,a2⟩:=ha;obtain ⟨b1,b2⟩:=hb
 go_enter Tryz.func208,Tryz.ntmps208
 go_wp2
 all_goals
   go_ret
   refine ⟨ret_int ?_,rfl⟩
   (try unfold wrap64 at *)
   unfold endsI
   repeat' split
   all_goals omega
theorem refSub_any (a b:Int) (w:World) (ha:I64 a) (hb:I64 b) :
 Calls Tryz.prog 209 #[.int .i64 a,.int .i64 b] w fun e w'=>e=.returned (.int .i64 (endsI (a - b)))∧w=w':=by
 obtain ⟨a1,a2⟩:=ha;obtain ⟨b1,b2⟩:=hb
 go_enter Tryz.func209,Tryz.ntmps209
 go_wp2
 all_goals
   go_ret
   refine ⟨ret_int ?_,rfl⟩
   (try unfold wrap64 at *)
   unfold endsI
   repeat' split
   all_goals omega
theorem satBit_any (b:Bool) (w:World) :
 Calls Tryz.prog 285 #[.bool b] w fun e w'=>e=.returned (.int .i64 (if b=true then 1 else 0))∧w=w':=by
 cases b
 all_goals
   go_enter Tryz.func285,Tryz.ntmps285
   go_wp2
   go_ret
   exact ⟨rfl,rfl⟩
theorem sub_ends {a b:Int} (ha:I64 a) (hb:I64 b) (h:b≠-9223372036854775808):endsI (a+IntKind.i64.wrap (-b))=endsI (a - b):=by
 unfold I64 at ha hb;rw [IntKind.wrap_i64]
 congr 1
 omega
theorem sub_end {a:Int} (ha:I64 a) (q:Bool) (hq:q=decide (a<0)):endsI (endsI (a+9223372036854775807)+if q=true then 1 else 0)=endsI (a - -9223372036854775808):=by
 subst hq;unfold I64 at ha
 by_cases h:a<0
 · simp only [h,decide_true,if_true]
   unfold endsI
   repeat' split
   all_goals omega
 · simp only [h,decide_false]
   unfold endsI;simp only [Bool.false_eq_true,if_false]
   repeat' split
   all_goals omega
end
section
open Go.RowKit Go.Lib
theorem bit_nat (n i:Nat):(n.testBit i).toNat=n / 2 ^ i % 2:=by
 rw [Nat.testBit_eq_decide_div_mod_eq];have h:=Nat.mod_two_eq_zero_or_one (n / 2 ^ i)
 rcases h with h|h <;> simp [h]
def carN (a b i:Nat):Nat:=(a % 2 ^ i+b % 2 ^ i) / 2 ^ i
theorem carN_zero (a b:Nat):carN a b 0=0:=by simp [carN,Nat.mod_one]
theorem carN_le (a b i:Nat):carN a b i≤1:=by
 unfold carN;have hp:0<2 ^ i:=Nat.two_pow_pos i;have h1:=Nat.mod_lt a hp;have h2:=Nat.mod_lt b hp;have:(a % 2 ^ i+b % 2 ^ i) / 2 ^ i<2:=(Nat.div_lt_iff_lt_mul hp).2 (by omega);omega
theorem carN_succ (a b i:Nat):carN a b (i+1)=(carN a b i+(a.testBit i).toNat+(b.testBit i).toNat) / 2:=by
 unfold carN;rw [Nat.pow_succ,Nat.mod_mul,Nat.mod_mul,←bit_nat,←bit_nat];have hp:0<2 ^ i:=Nat.two_pow_pos i;generalize (a.testBit i).toNat=x;generalize (b.testBit i).toNat=y;rw [←Nat.div_div_eq_div_mul]
 congr 1
 have:a % 2 ^ i+2 ^ i * x+(b % 2 ^ i+2 ^ i * y)=(a % 2 ^ i+b % 2 ^ i)+2 ^ i * (x+y):=by
  rw [Nat.mul_add];omega
 rw [this,Nat.add_mul_div_left _ _ hp];omega
theorem sum_bit (a b i:Nat):(a+b).testBit i=decide ((carN a b i+(a.testBit i).toNat+(b.testBit i).toNat) % 2=1):=by
 rw [Nat.testBit_eq_decide_div_mod_eq,bit_nat,bit_nat];unfold carN;have hp:0<2 ^ i:=Nat.two_pow_pos i;have ha:=Nat.div_add_mod a (2 ^ i);have hb:=Nat.div_add_mod b (2 ^ i);have:(a+b) / 2 ^ i=(a % 2 ^ i+b % 2 ^ i) / 2 ^ i+(a / 2 ^ i+b / 2 ^ i):=by
  have e:a+b=(a % 2 ^ i+b % 2 ^ i)+2 ^ i * (a / 2 ^ i+b / 2 ^ i):=by rw [Nat.mul_add];omega
  rw [e,Nat.add_mul_div_left _ _ hp]
 rw [this]
 congr 1
 apply propext
 omega
theorem carN_end (a b i:Nat) (ha:a<2 ^ i) (hb:b<2 ^ i):carN a b i=(a+b) / 2 ^ i:=by
 unfold carN;rw [Nat.mod_eq_of_lt ha,Nat.mod_eq_of_lt hb]
def bitsL (f:Nat→Bool):List Value:=(List.range 128).map fun j=>Value.bool (f j)
def numV (n:Nat):Value:=.agg (bitsL n.testBit).toArray
theorem bitsL_len (f:Nat→Bool):(bitsL f).length=128:=by simp [bitsL]
theorem bitsL_get (f:Nat→Bool) (j:Nat) (h:j<128):(bitsL f)[j]?=some (.bool (f j)):=by
 simp [bitsL,List.getElem?_map,List.getElem?_range h]
def updB (f:Nat→Bool) (i:Nat) (b:Bool):Nat→Bool:=fun j=>if j=i then b else f j
theorem bitsL_set (f:Nat→Bool) (i:Nat) (b:Bool) (h:i<128):(bitsL f).set i (.bool b)=bitsL (updB f i b):=by
 apply List.ext_getElem?
 intro j
 by_cases hj:j<128
 · rw [List.getElem?_set,bitsL_len,bitsL_get _ _ hj,bitsL_get _ _ hj]
   unfold updB
   by_cases e:i=j
   · subst e;simp [h]
   · rw [if_neg e,if_neg (fun q=>e q.symm)]
 · rw [List.getElem?_eq_none (by simp [bitsL];omega),List.getElem?_eq_none (by simp [bitsL];omega)]
theorem bitsL_ext {f g:Nat→Bool} (h:∀j,j<128→f j=g j):bitsL f=bitsL g:=by
 unfold bitsL
 apply List.map_congr_left
 intro j hj;rw [h j (List.mem_range.1 hj)]
theorem top_bit (n i:Nat):n / 2 ^ i=2 * (n / 2 ^ (i+1))+(n.testBit i).toNat:=by
 rw [bit_nat,Nat.pow_succ,←Nat.div_div_eq_div_mul];omega
def cmpN (a b:Nat):Int:=if a=b then 0 else if a<b then -1 else 1
theorem cmpN_bit {a b i:Nat} (h:a / 2 ^ (i+1)=b / 2 ^ (i+1)) (hd:a.testBit i≠b.testBit i):cmpN a b=if a.testBit i=true then 1 else -1:=by
 have ha:=top_bit a i;have hb:=top_bit b i;unfold cmpN
 cases hx:a.testBit i <;> cases hy:b.testBit i
 · rw [hx,hy] at hd;exact absurd rfl hd
 · rw [hx] at ha;rw [hy] at hb
   have hlt:a / 2 ^ i<b / 2 ^ i:=by simp at ha hb;omega
   have:a<b:=Nat.lt_of_not_le (fun q=>by have:=Nat.div_le_div_right (c:=2 ^ i) q;omega);rw [if_neg (by omega),if_pos this];rfl
 · rw [hx] at ha;rw [hy] at hb
   have hlt:b / 2 ^ i<a / 2 ^ i:=by simp at ha hb;omega
   have:b<a:=Nat.lt_of_not_le (fun q=>by have:=Nat.div_le_div_right (c:=2 ^ i) q;omega);rw [if_neg (by omega),if_neg (by omega)];rfl
 · rw [hx,hy] at hd;exact absurd rfl hd
theorem cmpN_next {a b i:Nat} (h:a / 2 ^ (i+1)=b / 2 ^ (i+1)) (hd:a.testBit i=b.testBit i):a / 2 ^ i=b / 2 ^ i:=by
 rw [top_bit a i,top_bit b i,h,hd]
def totN:List Int→Nat
  | []=>0
  | n::l=>n.toNat+totN l
theorem totN_append:∀a b:List Int,totN (a++b)=totN a+totN b
  | [],b=>by simp [totN]
  | n::a,b=>by simp [totN,totN_append a b];omega
theorem totN_le {l:List Int} (h:∀n∈l,n≤9223372036854775807):totN l≤l.length * 9223372036854775807:=by
 induction l with
 | nil=>simp [totN]
 | cons n l ih =>
   have h1:=h n (by simp);have h2:=ih (fun m hm=>h m (by simp [hm]));simp only [totN,List.length_cons]
   omega
def meanN (l:List Int):Nat:=if l=[] then 0 else (totN l+(l.length - 1)) / l.length
theorem meanN_le {l:List Int} (h:∀n∈l,n≤9223372036854775807):meanN l≤9223372036854775807:=by
 unfold meanN
 split
 · omega
 · rename_i hne
   have hp:0<l.length:=List.length_pos_iff.2 hne;have:=totN_le h
   apply Nat.le_of_lt_succ
   rw [Nat.div_lt_iff_lt_mul hp];rw [Nat.mul_comm] at this;generalize l.length=n at *;have e:(9223372036854775807+1) * n=9223372036854775807 * n+n:=by omega
   rw [e];omega
end
section
open Go.RowKit Go.Lib
theorem calls_named {P:Program} {f:Nat} {args:Array Value} {w:World} {Q:Ending→World→Prop} (h:∀W,W=w→Calls P f args W Q):Calls P f args w Q:=h w rfl
theorem name_world {P:Program} {c:Code} {Q:Exit→Act→World→Prop} {a:Act} {w:World} (h:∀W,W=w→c.wp P Q a W):c.wp P Q a w:=h w rfl
theorem box_at {W w1:World} (hb:jB W w1) {B:Nat} {cs:Array Value} {T:TypeId} (hB:W.heap[B]?=some (.cells cs T (0,0))):(∀j,w1.cell? ⟨B,j,none⟩=cs[j]?)∧(∀j,w1.frozen? ⟨B,j,none⟩=false)∧B<w1.heap.size∧w1.heap[B]?=some (.cells cs T (0,0)):=by
 obtain ⟨h1,h2,h3⟩:=box_cells hb hB;exact ⟨h1,h2,h3,(hb.block B (jL hB)).trans hB⟩
end
section
open Go.RowKit Go.Lib
theorem box_one (w:World) (x:Ky):∀W,W=w.alloc (.cells #[.int .u64 x.1,.int .u64 x.2] 95)→W.cell? ⟨w.heap.size,0,none⟩=some (.int .u64 x.1)∧W.cell? ⟨w.heap.size,1,none⟩=some (.int .u64 x.2)∧W.heap.size=w.heap.size+1∧jB w W:=by
 rintro W rfl;exact ⟨(startA w _ _).1 0,(startA w _ _).1 1,by simp,balloc jR _⟩
end
section
open Go.RowKit Go.Lib
theorem three_boxes (w:World) (o1 o2 o3:Obj):∀W,W=((w.alloc o1).alloc o2).alloc o3→W.heap[w.heap.size]?=some o1∧W.heap[w.heap.size+1]?=some o2∧W.heap[w.heap.size+1+1]?=some o3∧W.heap.size=w.heap.size+3∧jB w W:=by
 rintro W rfl;refine ⟨?_,?_,?_,by simp,balloc (balloc (balloc jR _) _) _⟩
 · exact (Below.heap_alloc _ _ _ (by simp;omega)).trans ((Below.heap_alloc _ _ _ (by simp)).trans (heap_alloc_new _ _))
 · have:=heap_alloc_new (w.alloc o1) o2
   rw [World.size_alloc] at this;exact (Below.heap_alloc _ _ _ (by simp)).trans this
 · have:=heap_alloc_new ((w.alloc o1).alloc o2) o3
   rw [World.size_alloc,World.size_alloc] at this;exact this
theorem setCell_block {w:World} {B i:Nat} {cs:Array Value} {T:TypeId} {fr:Nat × Nat} {v:Value} (h:w.heap[B]?=some (.cells cs T fr)):(w.setCell ⟨B,i,none⟩ v).heap[B]?=some (.cells (cs.setIfInBounds i v) T fr):=by
 obtain ⟨hlt,hk⟩:=Array.getElem?_eq_some_iff.1 h
 show (w.heap.modify B _)[B]?=_
 rw [Array.getElem?_eq_getElem (by rw [Array.size_modify];exact hlt),Array.getElem_modify_self,hk];simp
end
section
open Go.Shelf
def searchS_ren:Go.Shelf.Ren:=⟨fun|16=>278|n=>n,fun|3=>3|35=>192|4=>4|38=>201|n=>n,fun|n=>n⟩
theorem searchS:Go.Proofs.SlLaysO.n16 Tryz.prog searchS_ren:={
  mixed:=by kernel_rfl
  f16:=Tryz.func278.trans (congrArg some (by kernel_rfl))
  t3:=Tryz.underlying3
  a3:=Tryz.isAgg3
  z3:=Tryz.sizeOf3
  v3:=Tryz.zeroValue3
  t4:=Tryz.underlying4
  a4:=Tryz.isAgg4
  z4:=Tryz.sizeOf4
  v4:=Tryz.zeroValue4
  t35:=Tryz.underlying192
  a35:=Tryz.isAgg192
  z35:=Tryz.sizeOf192
  v35:=Tryz.zeroValue192
  t38:=Tryz.underlying201
  a38:=Tryz.isAgg201
  z38:=Tryz.sizeOf201
  v38:=Tryz.zeroValue201 }
end
section
open Go.RowKit Go.Lib
theorem routeRight_any (n:Int) (w:World) (hn:I64 n) :
 Calls Tryz.prog 123 #[.int .i64 n] w fun e w'=>e=.returned (.bool (okSt n))∧w=w':=by
 obtain ⟨hn1,hn2⟩:=hn
 by_cases h1:1≤n
 · by_cases h2:n≤64
   · obtain ⟨k,rfl⟩:=Int.eq_ofNat_of_zero_le (show 0≤n by omega)
     have hq:=st_and k (by omega) (by omega);generalize okSt (k:Int)=b at hq
     go_enter Tryz.func123,Tryz.ntmps123
     go_wp2
     go_ret
     exact ⟨rfl,rfl⟩
   · have hb:okSt n=false:=by
      cases hb:okSt n with
      | false=>rfl
      | true=>exact absurd (okSt_bd n hb).2 h2
     rw [hb]
     go_enter Tryz.func123,Tryz.ntmps123
     go_wp2
     go_ret
     exact ⟨rfl,rfl⟩
 · have hb:okSt n=false:=by
    cases hb:okSt n with
    | false=>rfl
    | true=>exact absurd (okSt_bd n hb).1 h1
   rw [hb]
   go_enter Tryz.func123,Tryz.ntmps123
   go_wp2
   go_ret
   exact ⟨rfl,rfl⟩
theorem nodeRight_any (c:Cfg) (w:World) (hc:c.ok) :
 Calls Tryz.prog 62 #[cfgV c] w (jP w (.int .i64 (cfgE c))):=by
 obtain ⟨st,sa,lo,hi⟩:=c;obtain ⟨h1,h2,h3,h4⟩:=hc;have H1:=jH h1;simp only [I64] at h1 h2 h3 h4
 unfold cfgV
 cases hb:okSt st with
 | false =>
   have hf:cfgE ⟨st,sa,lo,hi⟩=1:=by simp [cfgE,cfgB,hb]
   rw [hf];have Hb:=jH hb;clear hb hf
   go_enter Tryz.func62,Tryz.ntmps62
   go_wp2_with (go_at_call 123;refine (routeRight_any _ _ H1.out).mono ?_;rw [Hb.out];rintro e w' ⟨rfl,rfl⟩)
   all_goals
     go_ret
     exact ⟨rfl,jR.alloc (Nat.le_refl _) _⟩
 | true =>
   have Hb:=jH hb;clear hb
   go_enter Tryz.func62,Tryz.ntmps62
   go_wp2_with (go_at_call 123;refine (routeRight_any _ _ H1.out).mono ?_;rw [Hb.out];rintro e w' ⟨rfl,rfl⟩)
   all_goals
     go_ret
     refine ⟨ret_int ?_,jR.alloc (Nat.le_refl _) _⟩;simp only [cfgE,cfgB,Hb.out,Bool.true_and,decide_eq_true_eq]
     split <;> omega
theorem seriesRight_any (t v:Int) (w:World) :
 Calls Tryz.prog 156 #[.int .i64 t,.int .i64 v] w fun e w'=>e=.returned (.int .i64 (serE t v))∧w=w':=by
 go_enter Tryz.func156,Tryz.ntmps156
 go_wp2
 all_goals
   go_ret
   refine ⟨ret_int ?_,rfl⟩;unfold serE
   repeat' split
   all_goals omega
theorem ref08Right_any (t v:Int) (w:World) :
 Calls Tryz.prog 143 #[.int .i64 t,.int .i64 v] w fun e w'=>e=.returned (.int .i64 (serE t v))∧w=w':=by
 go_enter Tryz.func143,Tryz.ntmps143
 go_wp2
 all_goals
   go_ret
   refine ⟨ret_int ?_,rfl⟩;unfold serE
   repeat' split
   all_goals omega
theorem policyCheck_any (p:Pol) (w:World) :
 Calls Tryz.prog 167 #[polV p] w (jP w (.int .i64 (polE p))):=by
 obtain ⟨a,b,c,d,f,g⟩:=p;unfold polV
 go_enter Tryz.func167,Tryz.ntmps167
 go_wp2
 all_goals
   go_ret
   refine ⟨ret_int ?_,jR.alloc (Nat.le_refl _) _⟩;simp only [polE,polB,decide_eq_true_eq]
   split <;> omega
theorem ref12Right_any (p:Pol) (w:World) :
 Calls Tryz.prog 144 #[polV p] w (jP w (.bool (polB p))):=by
 obtain ⟨a,b,c,d,f,g⟩:=p;unfold polV
 go_enter Tryz.func144,Tryz.ntmps144
 go_wp2
 all_goals
   go_ret
   refine ⟨ret_bool ?_,jR.alloc (Nat.le_refl _) _⟩;rw [Bool.eq_iff_iff];simp only [polB,decide_eq_true_eq,Bool.false_eq_true,false_iff]
   omega
theorem ref05Bits_any (n:Int) (w:World) :
 Calls Tryz.prog 61 #[.int .i64 n] w fun e w'=>e=.returned (.int .i64 (bitsI n))∧w=w':=by
 go_enter Tryz.func61,Tryz.ntmps61
 go_wp2
 go_loop [3,4] (fun p b=>∃k:Nat,k≤7∧b=.int .i64 k∧p=.int .i64 ((2 ^ k:Nat):Int)∧∀j,j<k→n≠((2 ^ j:Nat):Int)) (fun _ b=>7 - (intOf b).toNat)
 case atStart=>exact ⟨0,by omega,rfl,rfl,fun j hj=>absurd hj (by omega)⟩
 case round =>
  obtain ⟨k,hk,rfl,rfl,hno⟩:=hrel
  by_cases hlt:k<7
  · have hp:2 ^ k≤2 ^ 6:=Nat.pow_le_pow_right (by decide) (by omega)
    by_cases he:n=((2 ^ k:Nat):Int)
    · have hv:=bitsI_pow k hlt
      rw [←he] at hv;have hq:(n == ((2 ^ k:Nat):Int))=true:=by simp [he]
      have Hv:=jH hv;clear hv he hno;generalize 2 ^ k=m at *;go_wp2
      go_ret
      exact ⟨ret_int Hv.out.symm,rfl⟩
    · have hq:(n == ((2 ^ k:Nat):Int))=false:=by simpa using he
      have hno':∀j,j<k+1→n≠((2 ^ j:Nat):Int):=by
       intro j hj
       rcases Nat.lt_or_ge j k with h|h
       · exact hno j h
       · obtain rfl:j=k:=by omega
         exact he
      have Hno:=jH hno';have hm:2 ^ (k+1)=2 ^ k * 2:=Nat.pow_succ 2 k;clear he hno hno';generalize hx:2 ^ k=m at *;have Hm:=jH hm;have Hx:=jH hx;clear hm hx;go_wp2
      go_round
      case rel=>exact ⟨k+1,by omega,by go_num,by rw [Hm.out];simp,Hno.out⟩
      case measure=>simp [intOf];omega
  · obtain rfl:k=7:=by omega
    have hv:=bitsI_none n hno;have Hv:=jH hv;clear hv hno hlt hk;go_wp2
    go_ret
    exact ⟨ret_int Hv.out.symm,rfl⟩
theorem ref17Right_any (c:Cfg) (w:World) :
 Calls Tryz.prog 13 #[cfgV c] w (jP w (.bool (cfgB c))):=by
 obtain ⟨st,sa,lo,hi⟩:=c;unfold cfgV;have hb:=bitsI_ok st;have Hb:=jH hb;clear hb
 go_enter Tryz.func13,Tryz.ntmps13
 go_wp2_with (go_at_call 61;refine (ref05Bits_any _ _).mono ?_;generalize bitsI st=b at *;rintro e w' ⟨rfl,rfl⟩)
 all_goals
   go_ret
   refine ⟨ret_bool ?_,jR.alloc (Nat.le_refl _) _⟩;have hb:=Hb.out;simp only [cfgB]
   rw [←hb,Bool.eq_iff_iff];simp only [Bool.and_eq_true,decide_eq_true_eq,Bool.false_eq_true,false_iff]
   omega
theorem chk_kinds (c:CallD):c.kind=1∨c.kind=2∨c.kind=3∨c.kind=4∨c.kind=5∨c.kind=6∨c.kind=7∨c.kind=8∨(c.kind<1∨8<c.kind):=by omega
def callK (k:Int) (id:ByteArray) (tick val handle a b tg tol win hold:Int):CallD:=⟨k,id,tick,val,handle,⟨a,b,tg,tol,win,hold⟩⟩
section
variable (id:ByteArray) (tick val handle a b tg tol win hold:Int) (w:World)
end
end
section
theorem post_named {P:Program} {f:Func} {Q:Ending→World→Prop} {e:Exit} {a:Act} {w:World} (h:∀W,W=w→bodyPost P f Q e a W):bodyPost P f Q e a w:=h w rfl
theorem then_named {K:Act→World→Prop} {Q:Exit→Act→World→Prop} {a:Act} {w:World} (h:∀W,W=w→Exit.then K Q Exit.normal a W):Exit.then K Q Exit.normal a w:=h w rfl
end
section
open Go.RowKit Go.Lib
def prime64:Nat:=1099511628211
def basis64:Nat:=14695981039346656037
def stepH (h b:Nat):Nat:=(h ^^^ b) * prime64 % 18446744073709551616
def sumL (l:List UInt8):Nat:=l.foldl (fun h b=>stepH h b.toNat) basis64
theorem stepH_lt (h b:Nat):stepH h b<18446744073709551616:=Nat.mod_lt _ (by decide)
theorem foldl_lt (l:List UInt8) (h:Nat) (hh:h<18446744073709551616):l.foldl (fun h b=>stepH h b.toNat) h<18446744073709551616:=by
 induction l generalizing h with
 | nil=>exact hh
 | cons a l ih=>exact ih _ (stepH_lt _ _)
theorem basis_lt:basis64<18446744073709551616:=by unfold basis64;omega
theorem sumL_lt (l:List UInt8):sumL l<18446744073709551616:=by
 unfold sumL;exact foldl_lt l basis64 basis_lt
theorem sumL_snoc (l:List UInt8) (b:UInt8):sumL (l++[b])=stepH (sumL l) b.toNat:=by
 unfold sumL;rw [List.foldl_append,List.foldl_cons,List.foldl_nil]
theorem u64_wrap_mod (n:Nat):IntKind.u64.wrap (n:Int)=((n % 18446744073709551616:Nat):Int):=by
 have h:IntKind.u64.wrap (n:Int)=(n:Int) % 18446744073709551616:=by
  simp only [IntKind.wrap,IntKind.signed,IntKind.bits]
  simp
 rw [h];omega
theorem step_walk (h c:Nat) (hh:h<18446744073709551616) (hc:c<256) :
 IntKind.u64.wrap (bits BinOp.xor IntKind.u64 (h:Int) (c:Int) * 1099511628211)=(stepH h c:Nat):=by
 rw [u64_xor_nat h c hh (by omega)];have e:((h ^^^ c:Nat):Int) * 1099511628211=(((h ^^^ c) * prime64:Nat):Int):=by
  rw [Int.natCast_mul];rfl
 rw [e,u64_wrap_mod];rfl
theorem sum64_any (s:ByteArray) (w:World) (hm:s.size≤maxLen) :
 Calls Tryz.prog 291 #[.string s] w fun e w'=>e=.returned (.int .u64 (sumL s.data.toList:Nat))∧w=w':=by
 have hmm:s.size≤9223372036854775807:=hm
 go_enter Tryz.func291,Tryz.ntmps291
 go_wp2
 go_loop [3,4,7] (fun h _ i=>∃k:Nat,k≤s.size∧i=.int .i64 k∧h=.int .u64 (sumL (s.data.toList.take k):Nat)) (fun _ _ i=>s.size - (intOf i).toNat)
 case atStart=>exact ⟨0,Nat.zero_le _,rfl,rfl⟩
 case round =>
  obtain ⟨k,hk,rfl,rfl⟩:=hrel
  by_cases hlt:k<s.size
  · have hsn:sumL (s.data.toList.take (k+1))=stepH (sumL (s.data.toList.take k)) (s[k]).toNat:=by
     rw [List.take_succ_eq_append_getElem (by simpa using hlt),sumL_snoc];rfl
    have hb:=sumL_lt (s.data.toList.take k);generalize sumL (s.data.toList.take k)=h at hsn hb;have hc:(s[k]).toNat<256:=(s[k]).toNat_lt;have hst:=step_walk h _ hb hc;have Hsn:=jH hsn;have Hst:=jH hst;clear hsn hst;go_wp2
    go_round
    case rel=>exact ⟨k+1,hlt,by go_num,by rw [Hsn.out,Hst.out]⟩
    case measure=>simp [intOf];omega
  · obtain rfl:k=s.size:=by omega
    go_wp2
    go_ret
    refine ⟨ret_int ?_,rfl⟩;rw [List.take_of_length_le (by simp)]
end
section
open Go.RowKit Go.Lib Go.Shelf
attribute [local go_sem] Oper.semAt_some
end
section
open Go.RowKit Go.Lib Go.Shelf
attribute [local go_sem] Oper.semAt_some
def intOf:Value→Int
  | .int _ i=>i
  | _=>0
end
section
open Go.RowKit Go.Lib
def twoV (n:Nat):Value:=.agg #[.int .u64 ((n / 18446744073709551616:Nat):Int),.int .u64 ((n % 18446744073709551616:Nat):Int)]
theorem or_fresh {x k:Nat} (h:2 ^ (k+1) ∣ x):x ||| 2 ^ k=x+2 ^ k:=by
 obtain ⟨a,rfl⟩:=h;exact (Nat.two_pow_add_eq_or_of_lt (Nat.pow_lt_pow_right (by decide) (by omega)) a).symm
def xD (n i:Nat):Nat:=n * 2 ^ i % 340282366920938463463374607431768211456
def aD (n i:Nat):Nat:=n / 2 ^ (128 - i)
def rD (n d i:Nat):Nat:=aD n i % d
def qD (n d i:Nat):Nat:=aD n i / d * 2 ^ (128 - i)
def bD (n i:Nat):Nat:=(n.testBit (127 - i)).toNat
theorem bD_le (n i:Nat):bD n i≤1:=by unfold bD;cases n.testBit (127 - i) <;> simp
theorem aD_succ {n i:Nat} (hi:i<128):aD n (i+1)=2 * aD n i+bD n i:=by
 unfold aD bD;have h:=top_bit n (127 - i);rw [show 127 - i+1=128 - i by omega] at h;rw [show 128 - (i+1)=127 - i by omega];exact h
theorem pow128:(340282366920938463463374607431768211456:Nat)=2 ^ 128:=by decide
theorem xD_bit {n i:Nat} (hi:i<128):xD n i / 170141183460469231731687303715884105728=bD n i:=by
 unfold xD bD;rw [bit_nat];have e:(170141183460469231731687303715884105728:Nat)=2 ^ i * 2 ^ (127 - i):=by rw [←Nat.pow_add,show i+(127 - i)=127 by omega]
 have e2:(340282366920938463463374607431768211456:Nat)=170141183460469231731687303715884105728 * 2:=by decide
 rw [e2,Nat.mod_mul_right_div_self,e,←Nat.div_div_eq_div_mul,Nat.mul_div_cancel _ (Nat.two_pow_pos i)]
theorem xD_succ (n i:Nat):xD n (i+1)=2 * xD n i % 340282366920938463463374607431768211456:=by
 unfold xD;rw [Nat.pow_succ,←Nat.mul_assoc];generalize n * 2 ^ i=y;omega
theorem xD_lt (n i:Nat):xD n i<340282366920938463463374607431768211456:=Nat.mod_lt _ (by decide)
theorem rD_lt {n d i:Nat} (hd:0<d):rD n d i<d:=Nat.mod_lt _ hd
theorem div_low {n d i:Nat} (hi:i<128) (hd:0<d) (h:2 * rD n d i+bD n i<d):rD n d (i+1)=2 * rD n d i+bD n i∧qD n d (i+1)=qD n d i:=by
 unfold rD qD at *;rw [aD_succ hi];have hm:=Nat.div_add_mod (aD n i) d;generalize aD n i / d=k at *;generalize aD n i % d=r at *;have e:2 * aD n i+bD n i=d * (2 * k)+(2 * r+bD n i):=by rw [←hm,Nat.mul_left_comm];omega
 rw [e,Nat.mul_add_mod,Nat.mod_eq_of_lt h,Nat.mul_add_div hd,Nat.div_eq_of_lt h];refine ⟨rfl,?_⟩;rw [show 128 - i=128 - (i+1)+1 by omega,Nat.pow_succ,Nat.add_zero,Nat.mul_comm 2 k,Nat.mul_assoc,Nat.mul_comm 2]
theorem div_high {n d i:Nat} (hi:i<128) (hd:0<d) (h:d≤2 * rD n d i+bD n i):rD n d (i+1)=2 * rD n d i+bD n i - d∧qD n d (i+1)=qD n d i+2 ^ (127 - i):=by
 have hr:=rD_lt (n:=n) (i:=i) hd;have hb:=bD_le n i;unfold rD qD at *;rw [aD_succ hi];have hm:=Nat.div_add_mod (aD n i) d;generalize aD n i / d=k at *;generalize aD n i % d=r at *;have e:2 * aD n i+bD n i=d * (2 * k+1)+(2 * r+bD n i - d):=by
  have e1:d * (2 * k+1)=2 * (d * k)+d:=by rw [Nat.mul_add,Nat.mul_one,Nat.mul_left_comm]
  rw [←hm,e1];omega
 have hlt:2 * r+bD n i - d<d:=by omega
 rw [e,Nat.mul_add_mod,Nat.mod_eq_of_lt hlt,Nat.mul_add_div hd,Nat.div_eq_of_lt hlt];refine ⟨rfl,?_⟩;rw [show 128 - i=128 - (i+1)+1 by omega,Nat.pow_succ,Nat.add_zero,Nat.add_mul,Nat.one_mul,show 128 - (i+1)=127 - i by omega,Nat.mul_comm 2 k,Nat.mul_assoc,Nat.mul_comm 2]
theorem qD_dvd (n d i:Nat):2 ^ (128 - i) ∣ qD n d i:=Nat.dvd_mul_left _ _
theorem qD_zero {n d:Nat} (hn:n<340282366920938463463374607431768211456):qD n d 0=0∧rD n d 0=0∧xD n 0=n:=by
 have h:n / 340282366920938463463374607431768211456=0:=Nat.div_eq_of_lt hn;refine ⟨?_,?_,?_⟩
 · unfold qD aD;rw [Nat.sub_zero,←pow128,h,Nat.zero_div,Nat.zero_mul]
 · unfold rD aD;rw [Nat.sub_zero,←pow128,h,Nat.zero_mod]
 · unfold xD;rw [Nat.pow_zero,Nat.mul_one,Nat.mod_eq_of_lt hn]
theorem qD_end (n d:Nat):qD n d 128=n / d∧rD n d 128=n % d:=by
 unfold qD rD aD;simp
theorem qD_lt {n d i:Nat} (hn:n<340282366920938463463374607431768211456) (hi:i≤128):qD n d i<340282366920938463463374607431768211456:=by
 unfold qD aD;have h1:=Nat.div_le_self (n / 2 ^ (128 - i)) d;have h2:=Nat.mul_le_mul_right (2 ^ (128 - i)) h1;have h3:=Nat.div_mul_le_self n (2 ^ (128 - i));omega
theorem q_hi {n d i:Nat} (hi:i<64) (hn:n<340282366920938463463374607431768211456) :
 (qD n d i+2 ^ (127 - i)) / 18446744073709551616=(qD n d i / 18446744073709551616 ||| 2 ^ (63 - i))∧(qD n d i+2 ^ (127 - i)) % 18446744073709551616=qD n d i % 18446744073709551616:=by
 obtain ⟨m,hm⟩:=qD_dvd n d i;have e1:2 ^ (127 - i)=18446744073709551616 * 2 ^ (63 - i):=by
  rw [show 127 - i=64+(63 - i) by omega,Nat.pow_add]
 have e2:2 ^ (128 - i)=18446744073709551616 * 2 ^ (63 - i+1):=by
  rw [show 128 - i=64+(63 - i+1) by omega,Nat.pow_add]
 have e3:qD n d i / 18446744073709551616=2 ^ (63 - i+1) * m:=by
  rw [hm,e2,Nat.mul_assoc,Nat.mul_div_cancel_left _ (by decide)]
 constructor
 · rw [e3,or_fresh (Nat.dvd_mul_right _ _),hm,e1,e2,Nat.mul_assoc,←Nat.mul_add,Nat.mul_div_cancel_left _ (by decide)]
 · rw [e1,Nat.add_mul_mod_self_left]
theorem q_lo {n d i:Nat} (h64:64≤i) (hi:i<128) :
 (qD n d i+2 ^ (127 - i)) / 18446744073709551616=qD n d i / 18446744073709551616∧(qD n d i+2 ^ (127 - i)) % 18446744073709551616=(qD n d i % 18446744073709551616 ||| 2 ^ (127 - i)):=by
 have hd:2 ^ (128 - i) ∣ qD n d i % 18446744073709551616:=by
  rw [Nat.dvd_mod_iff]
  · exact qD_dvd n d i
  · rw [show (18446744073709551616:Nat)=2 ^ 64 by decide]
    exact Nat.pow_dvd_pow 2 (by omega)
 have ho:(qD n d i % 18446744073709551616 ||| 2 ^ (127 - i))=qD n d i % 18446744073709551616+2 ^ (127 - i):=or_fresh (by rw [show 127 - i+1=128 - i by omega];exact hd);have hlt:qD n d i % 18446744073709551616+2 ^ (127 - i)<18446744073709551616:=by
  obtain ⟨m,hm⟩:=hd;have hx:=Nat.mod_lt (qD n d i) (show 0<18446744073709551616 by decide);have e:18446744073709551616=2 ^ (128 - i) * 2 ^ (i - 64):=by rw [←Nat.pow_add,show 128 - i+(i - 64)=64 by omega]
  have e1:2 ^ (128 - i)=2 * 2 ^ (127 - i):=by rw [show 128 - i=127 - i+1 by omega,Nat.pow_succ,Nat.mul_comm]
  have hp:=Nat.two_pow_pos (127 - i);rw [hm] at hx ⊢;have hm2:m<2 ^ (i - 64):=by
   rw [e] at hx;exact Nat.lt_of_mul_lt_mul_left hx
  have hm3:2 ^ (128 - i) * (m+1)≤2 ^ (128 - i) * 2 ^ (i - 64):=Nat.mul_le_mul_left _ hm2;rw [Nat.mul_add,Nat.mul_one,←e] at hm3;omega
 rw [ho];generalize qD n d i=q at *;generalize 2 ^ (127 - i)=p at *;omega
theorem dbl_words (x:Nat) (hx:x<340282366920938463463374607431768211456) :
 (2 * x % 340282366920938463463374607431768211456) / 18446744073709551616=2 * (x / 18446744073709551616) % 18446744073709551616+x % 18446744073709551616 / 9223372036854775808 ∧
 (2 * x % 340282366920938463463374607431768211456) % 18446744073709551616=2 * (x % 18446744073709551616) % 18446744073709551616∧x / 18446744073709551616 / 9223372036854775808=x / 170141183460469231731687303715884105728:=by
 omega
end
section
open Go.RowKit Go.Lib
structure EvtD where
 kind:Int
 task:Int
 nth:Int
 call:CallD
 err:Int
 epoch:Int
 handle:Int
 cnt:Int
 sum:Int
 least:Int
 most:Int
 mean:Int
 atick:Int
 aload:Int
 awant:Int
 arepl:Int
 awhy:Int
 hi:Nat
 lo:Nat
 ntick:Int
 nload:Int
 nwant:Int
 nrepl:Int
 nwhy:Int
def EvtD.okR (e:EvtD):Prop:=I64 e.err∧I64 e.epoch∧I64 e.handle∧I64 e.cnt∧I64 e.sum∧I64 e.least∧I64 e.most∧I64 e.mean∧I64 e.atick∧I64 e.aload∧I64 e.awant∧I64 e.arepl∧I64 e.awhy
def EvtD.okA (e:EvtD):Prop:=I64 e.ntick∧I64 e.nload∧I64 e.nwant∧I64 e.nrepl∧I64 e.nwhy
structure EvtD.ok (e:EvtD):Prop where
 kind:I64 e.kind
 task:I64 e.task
 nth:I64 e.nth
 call:e.call.ok
 rep:e.okR
 hi:e.hi<18446744073709551616
 lo:e.lo<18446744073709551616
 adv:e.okA
def evC (e:EvtD):List Value:=[.int .i64 e.kind,.int .i64 e.task,.int .i64 e.nth,.int .i64 e.call.kind,.string e.call.id,.int .i64 e.call.tick,.int .i64 e.call.val,.int .i64 e.call.handle,.int .i64 e.call.pol.mn,.int .i64 e.call.pol.mx,.int .i64 e.call.pol.tg,.int .i64 e.call.pol.tol,.int .i64 e.call.pol.win,.int .i64 e.call.pol.hold,.int .i64 e.err,.int .i64 e.epoch,.int .i64 e.handle,.int .i64 e.cnt,.int .i64 e.sum,.int .i64 e.least,.int .i64 e.most,.int .i64 e.mean,.int .i64 e.atick,.int .i64 e.aload,.int .i64 e.awant,.int .i64 e.arepl,.int .i64 e.awhy,.int .u64 (e.hi:Nat),.int .u64 (e.lo:Nat),.int .i64 e.ntick,.int .i64 e.nload,.int .i64 e.nwant,.int .i64 e.nrepl,.int .i64 e.nwhy]
def evV (e:EvtD):Value:=.agg #[.int .i64 e.kind,.int .i64 e.task,.int .i64 e.nth,.int .i64 e.call.kind,.string e.call.id,.int .i64 e.call.tick,.int .i64 e.call.val,.int .i64 e.call.handle,.int .i64 e.call.pol.mn,.int .i64 e.call.pol.mx,.int .i64 e.call.pol.tg,.int .i64 e.call.pol.tol,.int .i64 e.call.pol.win,.int .i64 e.call.pol.hold,.int .i64 e.err,.int .i64 e.epoch,.int .i64 e.handle,.int .i64 e.cnt,.int .i64 e.sum,.int .i64 e.least,.int .i64 e.most,.int .i64 e.mean,.int .i64 e.atick,.int .i64 e.aload,.int .i64 e.awant,.int .i64 e.arepl,.int .i64 e.awhy,.int .u64 (e.hi:Nat),.int .u64 (e.lo:Nat),.int .i64 e.ntick,.int .i64 e.nload,.int .i64 e.nwant,.int .i64 e.nrepl,.int .i64 e.nwhy]
theorem evC_one (e:EvtD):∀v∈evC e,v.oneCell'=true:=by
 intro v hv;unfold evC at hv;simp only [List.mem_cons,List.not_mem_nil,or_false] at hv
 rcases hv with rfl|rfl|rfl|rfl|rfl|rfl|rfl|rfl|rfl|rfl|rfl|rfl|rfl|rfl|rfl|rfl|rfl|rfl|rfl|rfl|rfl|rfl|rfl|rfl|rfl|rfl|rfl|rfl|rfl|rfl|rfl|rfl|rfl|rfl <;> rfl
end
end Go.Proofs.YtpmfcpdelkchaaaGreat
