/- Part 2 of the proof: IdPlain, IdWalks, CallPlain, Named, QRefQ, MapRange. -/
import Derived.Sort.Grow
import Derived.Deep.AppendLies
import Derived.Deep.RegionLaw
import Derived.BigRegion
import Derived.DeepKeys5
import Derived.ChangeMaps5
import Derived.Maps.Range
import Derived.RangeFuncSeq
import Derived.Test.YtkcdhaallnhhmaaGreatL01
namespace Go.Proofs.YtkcdhaallnhhmaaGreat
set_option linter.unusedSimpArgs false
set_option linter.unusedVariables false
set_option linter.unusedSectionVars false
set_option maxRecDepth 100000
set_option maxHeartbeats 16000000
section
def codeI (c:Int):Int :=
 if c=45 then 1 else if c=46 then 2 else if 48≤c∧c≤57 then c - 45 else if c=95 then 13 else if 97≤c∧c≤122 then c - 83 else 0
theorem codeI_bd (c:Int):0≤codeI c∧codeI c≤39:=by
 unfold codeI
 repeat' split
 all_goals omega
theorem codeI_high (c:Int) (h:128≤c):codeI c=0:=by
 unfold codeI
 repeat' split
 all_goals omega
def codeB (b:UInt8):Nat:=(codeI b.toNat).toNat
def okB (b:UInt8):Bool:=decide (codeB b≠0)
theorem codeB_le (b:UInt8):codeB b≤39:=by
 have:=codeI_bd b.toNat;unfold codeB;omega
theorem codeI_cast (b:UInt8):codeI b.toNat=(codeB b:Int):=by
 have:=codeI_bd b.toNat;unfold codeB;omega
theorem okB_ascii (b:UInt8) (h:okB b=true):b.toNat<128:=by
 rcases Nat.lt_or_ge b.toNat 128 with h1|h1
 · exact h1
 · have:=codeI_high b.toNat (by omega)
   simp [okB,codeB,this] at h
theorem codeB_lt (a b:UInt8) (ha:okB a=true) (hb:okB b=true):codeB a<codeB b ↔ a.toNat<b.toNat:=by
 have ha':codeB a≠0:=by simpa [okB] using ha
 have hb':codeB b≠0:=by simpa [okB] using hb
 unfold codeB codeI at *;have:=a.toNat_lt;have:=b.toNat_lt;generalize a.toNat=x at *;generalize b.toNat=y at *
 repeat' split at ha'
 all_goals repeat' split at hb'
 all_goals first|omega|(simp at ha')|(simp at hb')|skip
 all_goals (repeat' split) <;> omega
theorem codeB_inj (a b:UInt8) (ha:okB a=true) (h:codeB a=codeB b):a=b:=by
 have hb:okB b=true:=by simpa [okB,←h] using ha
 have h1:=codeB_lt a b ha hb;have h2:=codeB_lt b a hb ha;exact UInt8.toNat_inj.1 (by omega)
def letterN (n:Nat):UInt8 :=
 if n=1 then 45 else if n=2 then 46 else if n<13 then UInt8.ofNat (45+n) else if n=13 then 95 else UInt8.ofNat (83+n)
theorem letter_all:∀n,n<40→0<n→codeB (letterN n)=n∧okB (letterN n)=true:=by decide
def idL (l:List UInt8):Bool:=decide (1≤l.length) && (decide (l.length≤20) && l.all okB)
theorem idL_iff (l:List UInt8):idL l=true ↔ 1≤l.length∧l.length≤20∧∀b∈l,okB b=true:=by
 simp [idL]
def dig (l:List UInt8) (i:Nat):Nat:=((l[i]?).map codeB).getD 0
theorem dig_le (l:List UInt8) (i:Nat):dig l i≤39:=by
 unfold dig
 cases l[i]? with
 | none=>simp
 | some b=>simpa using codeB_le b
theorem dig_at (l:List UInt8) (i:Nat) (h:i<l.length):dig l i=codeB l[i]:=by simp [dig,h]
theorem dig_out (l:List UInt8) (i:Nat) (h:l.length≤i):dig l i=0:=by simp [dig,h]
def keyN (l:List UInt8) (a:Nat):Nat→Nat
  | 0=>0
  | n+1=>keyN l a n * 64+dig l (a+n)
theorem keyN_lt (l:List UInt8) (a n:Nat):keyN l a n<64 ^ n:=by
 induction n with
 | zero=>simp [keyN]
 | succ n ih =>
   have:=dig_le l (a+n);rw [keyN,Nat.pow_succ];omega
theorem keyN_end (l:List UInt8) (a m:Nat) (h:l.length≤a+m):∀k,keyN l a (m+k)=keyN l a m * 64 ^ k:=by
 intro k
 induction k with
 | zero=>simp
 | succ k ih =>
   rw [←Nat.add_assoc,keyN,ih,dig_out l _ (by omega),Nat.pow_succ,Nat.mul_assoc];simp
theorem keyN_dig (l:List UInt8) (a:Nat):∀n j,j<n→keyN l a n / 64 ^ (n - 1 - j) % 64=dig l (a+j):=by
 intro n
 induction n with
 | zero=>intro j h;omega
 | succ n ih =>
   intro j h;have hd:=dig_le l (a+n)
   rcases Nat.lt_or_ge j n with h1|h1
   · have e:n+1 - 1 - j=(n - 1 - j)+1:=by omega
     rw [e,Nat.pow_succ,Nat.mul_comm (64 ^ _) 64,←Nat.div_div_eq_div_mul,keyN];rw [show (keyN l a n * 64+dig l (a+n)) / 64=keyN l a n by omega];exact ih j h1
   · have e:n+1 - 1 - j=0:=by omega
     obtain rfl:j=n:=by omega
     rw [e,keyN];simp
     omega
theorem list_of_digs (l l':List UInt8) (hl:∀b∈l,okB b=true) (hl':∀b∈l',okB b=true) (n:Nat) (h1:l.length≤n) (h2:l'.length≤n)
    (h:∀j,j<n→dig l j=dig l' j):l=l':=by
  have pos:∀(m:List UInt8),(∀b∈m,okB b=true)→∀i,i<m.length→dig m i≠0:=by
   intro m hm i hi;rw [dig_at m i hi]
   simpa [okB] using hm _ (List.getElem_mem hi)
  have hlen:l.length=l'.length:=by
   rcases Nat.lt_trichotomy l.length l'.length with hx|hx|hx
   · have:=pos l' hl' l.length hx
     rw [←h _ (by omega),dig_out l _ (Nat.le_refl _)] at this;omega
   · exact hx
   · have:=pos l hl l'.length hx
     rw [h _ (by omega),dig_out l' _ (Nat.le_refl _)] at this;omega
  refine List.ext_getElem hlen fun i hi hi'=>?_
  have:=h i (by omega);rw [dig_at l i hi,dig_at l' i hi'] at this;exact codeB_inj _ _ (hl _ (List.getElem_mem hi)) this
def hiN (l:List UInt8):Nat:=keyN l 0 10
def loN (l:List UInt8):Nat:=keyN l 10 10
theorem hiN_lt (l:List UInt8):hiN l<1152921504606846976:=keyN_lt l 0 10
theorem loN_lt (l:List UInt8):loN l<1152921504606846976:=keyN_lt l 10 10
def atN (hi lo i:Nat):Nat:=(if i<10 then hi else lo) / 64 ^ (9 - i % 10) % 64
theorem atN_key (l:List UInt8) (i:Nat) (h:i<20):atN (hiN l) (loN l) i=dig l i:=by
 unfold atN hiN loN
 split
 · rename_i h1
   rw [Nat.mod_eq_of_lt h1];have:=keyN_dig l 0 10 i h1
   simpa using this
 · rename_i h1
   have e:i % 10=i - 10:=by omega
   rw [e];have:=keyN_dig l 10 10 (i - 10) (by omega);rw [show 10+(i - 10)=i by omega] at this
   simpa using this
def IsKey (hi lo:Nat) (l:List UInt8):Prop:=idL l=true∧hiN l=hi∧loN l=lo
theorem IsKey.digs {hi lo:Nat} {l:List UInt8} (h:IsKey hi lo l) (i:Nat) (hi20:i<20):atN hi lo i=dig l i:=by
 obtain ⟨_,rfl,rfl⟩:=h;exact atN_key l i hi20
theorem IsKey.one {hi lo:Nat} {l l':List UInt8} (h:IsKey hi lo l) (h':IsKey hi lo l'):l=l':=by
 obtain ⟨_,h2,h3⟩:=(idL_iff l).1 h.1;obtain ⟨_,h2',h3'⟩:=(idL_iff l').1 h'.1;exact list_of_digs l l' h3 h3' 20 h2 h2' fun j hj=>by rw [←h.digs j hj,h'.digs j hj]
def partW (l:List UInt8) (a m:Nat):Nat:=keyN l a m * 64 ^ (10 - m)
theorem partW_zero (l:List UInt8) (a:Nat):partW l a 0=0:=by simp [partW,keyN]
theorem partW_ten (l:List UInt8) (a:Nat):partW l a 10=keyN l a 10:=by simp [partW]
theorem partW_lt (l:List UInt8) (a m:Nat) (h:m≤10):partW l a m<1152921504606846976:=by
 have h1:=keyN_lt l a m;have e:64 ^ m * 64 ^ (10 - m)=1152921504606846976:=by
  rw [←Nat.pow_add,show m+(10 - m)=10 by omega]
 unfold partW;rw [←e];exact Nat.mul_lt_mul_of_pos_right h1 (Nat.pow_pos (by decide))
theorem shl_dig (d m:Nat):d <<< (6 * (9 - m))=d * 64 ^ (9 - m):=by
 rw [Nat.shiftLeft_eq,show (64:Nat)=2 ^ 6 by rfl,←Nat.pow_mul]
theorem partW_succ (l:List UInt8) (a m:Nat) (h:m<10):partW l a m ||| (dig l (a+m)) <<< (6 * (9 - m))=partW l a (m+1):=by
 have hd:=dig_le l (a+m);have e:10 - m=(9 - m)+1:=by omega
 have hlt:dig l (a+m) <<< (6 * (9 - m))<2 ^ (6 * (10 - m)):=by
  rw [shl_dig,e,Nat.mul_add,Nat.pow_add,Nat.pow_mul,show (2:Nat) ^ 6=64 by rfl,Nat.mul_comm];exact Nat.mul_lt_mul_of_pos_left (by omega) (Nat.pow_pos (by decide))
 have hp:partW l a m=keyN l a m <<< (6 * (10 - m)):=by
  unfold partW;rw [Nat.shiftLeft_eq,Nat.pow_mul,show (2:Nat) ^ 6=64 by rfl]
 rw [hp,←Nat.shiftLeft_add_eq_or_of_lt hlt,shl_dig,Nat.shiftLeft_eq,Nat.pow_mul,show (2:Nat) ^ 6=64 by rfl,e,Nat.pow_succ];unfold partW;rw [keyN,show 10 - (m+1)=9 - m by omega,Nat.add_mul,Nat.mul_assoc,Nat.mul_comm 64]
theorem partW_all (l:List UInt8) (a:Nat) (m:Nat) (hm:m≤10) (h:l.length≤a+m):partW l a m=keyN l a 10:=by
 have:=keyN_end l a m h (10 - m);rw [show m+(10 - m)=10 by omega] at this;unfold partW;exact this.symm
end
section
open Go.RowKit Go.Lib
theorem code_any (c:Int) (w:World) (h0 : -2147483648≤c) (h1:c≤2147483647) :
 Calls Tryz.prog 112 #[.int .i32 c] w fun e w'=>e=.returned (.int .u64 (codeI c))∧w=w':=by
 go_enter Tryz.func112,Tryz.ntmps112
 go_wp2
 all_goals
   go_ret
   refine ⟨?_,rfl⟩
   simp_all [codeI]
   try omega
theorem mem_at (s:ByteArray) (j:Nat) (h:j<s.size):s[j]∈s.data.toList:=by
 have e:s[j]=s.data.toList[j]'(by simpa using h):=rfl;rw [e];exact List.getElem_mem _
def OkTo (s:ByteArray) (n:Nat):Prop:=∀j (h:j<s.size),j<n→okB s[j]=true
theorem okTo_list (s:ByteArray) (n:Nat) (h:s.size≤n):OkTo s n ↔ ∀b∈s.data.toList,okB b=true:=by
 constructor
 · intro hk b hb
   obtain ⟨j,hj,rfl⟩:=List.getElem_of_mem hb;have hj':j<s.size:=by simpa using hj
   exact hk j hj' (by omega)
 · intro hk j hj _
   exact hk _ (mem_at s j hj)
theorem okTo_zero (s:ByteArray):OkTo s 0:=fun _ _ h=>absurd h (by omega)
theorem okTo_succ (s:ByteArray) (n:Nat) (h:OkTo s n) (hn:n<s.size) (hb:okB s[n]=true):OkTo s (n+1):=by
 intro j hj hlt
 rcases Nat.lt_or_ge j n with h1|h1
 · exact h j hj h1
 · obtain rfl:j=n:=by omega
   exact hb
def idS (s:ByteArray):Bool:=idL s.data.toList
theorem idS_len (s:ByteArray) (h:s.size<1∨20<s.size):idS s=false:=by
 cases hb:idS s with
 | false=>rfl
 | true =>
   have:=(idL_iff _).1 hb;simp at this
   omega
theorem idS_bad (s:ByteArray) (j:Nat) (hj:j<s.size) (h:okB s[j]=false):idS s=false:=by
 cases hb:idS s with
 | false=>rfl
 | true =>
   have:=((idL_iff _).1 hb).2.2 s[j] (mem_at s j hj);rw [h] at this
   cases this
theorem idS_all (s:ByteArray) (h1:1≤s.size) (h2:s.size≤20) (h:OkTo s s.size):idS s=true :=
 (idL_iff _).2 ⟨by simpa using h1,by simpa using h2,(okTo_list s s.size (Nat.le_refl _)).1 h⟩
theorem idS_okTo (s:ByteArray) (h:idS s=true):1≤s.size∧s.size≤20∧OkTo s s.size:=by
 have:=(idL_iff _).1 h;exact ⟨by simpa using this.1,by simpa using this.2.1,(okTo_list s s.size (Nat.le_refl _)).2 this.2.2⟩
def chkV (s:ByteArray):Int:=if idS s=true then 0 else 2
theorem okB_code (b:UInt8):okB b=true→(codeI b.toNat == 0)=false:=by
 intro h;rw [codeI_cast]
 simpa [okB] using h
theorem rune_bad (s:ByteArray) (pos:Nat) (h:pos<s.size) (hb:okB s[pos]=false):(codeI (Utf8.decode s pos).1 == 0)=true:=by
 by_cases ha:(s[pos]'h).toNat<128
 · rw [decode_ascii s pos h ha]
   simp only [beq_iff_eq]
   have:codeB s[pos]=0:=by simpa [okB] using hb
   rw [codeI_cast,this];rfl
 · have:=(decode_high s pos h (by omega)).1
   simp only [beq_iff_eq]
   exact codeI_high _ (by omega)
theorem check_any (s:ByteArray) (w:World) (hm:s.size≤maxLen) :
 Calls Tryz.prog 78 #[.string s] w (jP w (.int .i64 (chkV s))):=by
 unfold maxLen at hm
 by_cases h1:s.size<1
 · have hf:chkV s=2:=by simp [chkV,idS_len s (.inl h1)]
   rw [hf];clear hf
   go_enter Tryz.func78,Tryz.ntmps78
   go_wp2
   go_ret
   exact ⟨rfl,jR⟩
 · by_cases h2:20<s.size
   · have hf:chkV s=2:=by simp [chkV,idS_len s (.inr h2)]
     rw [hf];clear hf
     go_enter Tryz.func78,Tryz.ntmps78
     go_wp2
     go_ret
     exact ⟨rfl,jR⟩
   · go_enter Tryz.func78,Tryz.ntmps78
     go_wp2
     go_loopw [4] (fun _ w'=>∃pos:Nat,pos≤s.size∧w'=w.iter s pos∧OkTo s pos) (fun _ w'=>s.size - w'.iterPos w.heap.size)
     case atStart=>exact ⟨0,Nat.zero_le _,rfl,okTo_zero s⟩
     case round =>
      obtain ⟨pos,hp0,rfl,hok⟩:=hrel
      by_cases hp:pos<s.size
      · cases hb:okB s[pos] with
        | true =>
          have ha:=okB_ascii _ hb;have hc:=okB_code _ hb;have hok':=okTo_succ s pos hok hp hb;have hnx:∀ty,(Instr.next (.pointer (some ⟨w.heap.size,0,none⟩)) true ty).run Tryz.prog (w.iter s pos)=_:=fun ty=>run_next_ascii w s pos ty hp ha
          clear hb hok
          go_wp2_with (go_at_call 112;refine (code_any _ _ (by omega) (by omega)).mono ?_;rintro e w' ⟨rfl,rfl⟩)
          go_roundw
          case rel=>exact ⟨pos+1,hp,rfl,hok'⟩
          case measure=>simp;omega
        | false =>
          have hr:=rune_bad s pos hp hb;have hle:=decode_le s pos;have hf:chkV s=2:=by simp [chkV,idS_bad s pos hp hb]
          have hnx:∀ty,(Instr.next (.pointer (some ⟨w.heap.size,0,none⟩)) true ty).run Tryz.prog (w.iter s pos)=_:=fun ty=>run_next_any w s pos ty hp
          clear hb hok;have Hf:=jH hf;clear hf
          go_wp2_with (go_at_call 112;refine (code_any _ _ (by omega) (by omega)).mono ?_;rintro e w' ⟨rfl,rfl⟩)
          go_ret
          rw [Hf.out];exact ⟨rfl,jR.alloc (Nat.le_refl _) _⟩
      · have hf:chkV s=0:=by
         obtain rfl:pos=s.size:=by omega
         simp [chkV,idS_all s (by omega) (by omega) hok]
        have Hf:=jH hf;clear hf hok;have hnx:∀ty,(Instr.next (.pointer (some ⟨w.heap.size,0,none⟩)) true ty).run Tryz.prog (w.iter s pos)=_:=fun ty=>run_next_end w s pos ty hp
        go_wp2
        go_ret
        rw [Hf.out];exact ⟨rfl,jR.alloc (Nat.le_refl _) _⟩
end
section
open Go.RowKit Go.Lib
structure Cfg where
 st:Int
 sa:Int
 lo:Int
 hi:Int
structure Pol where
 mn:Int
 mx:Int
 tg:Int
 tol:Int
 win:Int
 hold:Int
structure CallD where
 kind:Int
 id:ByteArray
 tick:Int
 val:Int
 handle:Int
 pol:Pol
def I64 (n:Int):Prop:=-9223372036854775808≤n∧n≤9223372036854775807
def Cfg.ok (c:Cfg):Prop:=I64 c.st∧I64 c.sa∧I64 c.lo∧I64 c.hi
def Pol.ok (p:Pol):Prop:=I64 p.mn∧I64 p.mx∧I64 p.tg∧I64 p.tol∧I64 p.win∧I64 p.hold
def CallD.ok (c:CallD):Prop:=I64 c.kind∧c.id.size≤maxLen∧I64 c.tick∧I64 c.val∧I64 c.handle∧c.pol.ok
def cfgV (c:Cfg):Value:=.agg #[.int .i64 c.st,.int .i64 c.sa,.int .i64 c.lo,.int .i64 c.hi]
def polV (p:Pol):Value:=.agg #[.int .i64 p.mn,.int .i64 p.mx,.int .i64 p.tg,.int .i64 p.tol,.int .i64 p.win,.int .i64 p.hold]
def callCells (c:CallD):List Value:=[.int .i64 c.kind,.string c.id,.int .i64 c.tick,.int .i64 c.val,.int .i64 c.handle,.int .i64 c.pol.mn,.int .i64 c.pol.mx,.int .i64 c.pol.tg,.int .i64 c.pol.tol,.int .i64 c.pol.win,.int .i64 c.pol.hold]
def callV (c:CallD):Value:=.agg #[.int .i64 c.kind,.string c.id,.int .i64 c.tick,.int .i64 c.val,.int .i64 c.handle,.int .i64 c.pol.mn,.int .i64 c.pol.mx,.int .i64 c.pol.tg,.int .i64 c.pol.tol,.int .i64 c.pol.win,.int .i64 c.pol.hold]
def okSt (n:Int):Bool:=n == 1 || (n == 2 || (n == 4 || (n == 8 || (n == 16 || (n == 32 || n == 64)))))
def cfgB (c:Cfg):Bool:=okSt c.st && decide (1≤c.sa∧c.sa≤256∧1≤c.lo∧c.lo≤256∧1≤c.hi∧c.hi≤64)
def cfgE (c:Cfg):Int:=if cfgB c=true then 0 else 1
def serE (t v:Int):Int:=if t<0 then 3 else if v<0 then 4 else 0
def polB (p:Pol):Bool:=decide (0≤p.mn∧1≤p.mx∧p.mn≤p.mx∧p.mx≤1073741824∧1≤p.tg∧0≤p.tol∧p.tol≤999∧1≤p.win∧0≤p.hold)
def polE (p:Pol):Int:=if polB p=true then 0 else 7
def chkC (c:CallD):Int :=
 if c.kind<1∨8<c.kind then 14
 else if (c.kind=1∨c.kind=5∨c.kind=6∨c.kind=7)∧idS c.id=false then 2
 else if c.kind=1 then serE c.tick c.val
 else if c.kind=2∧c.tick<0 then 3
 else if c.kind=6∧polB c.pol=false then 7
 else 0
theorem okSt_iff (n:Int):okSt n=true ↔ n=1∨n=2∨n=4∨n=8∨n=16∨n=32∨n=64:=by
 simp [okSt]
def bitsI (n:Int):Int:=if n=1 then 0 else if n=2 then 1 else if n=4 then 2 else if n=8 then 3 else if n=16 then 4 else if n=32 then 5 else if n=64 then 6 else -1
theorem bitsI_ok (n:Int):decide (0≤bitsI n)=okSt n:=by
 rw [Bool.eq_iff_iff,okSt_iff,decide_eq_true_eq];unfold bitsI
 repeat' split
 all_goals omega
theorem bitsI_pow:∀k,k<7→bitsI ((2 ^ k:Nat):Int)=(k:Nat):=by decide
theorem bitsI_none (n:Int) (h:∀j,j<7→n≠((2 ^ j:Nat):Int)):bitsI n = -1:=by
 have h0:=h 0 (by omega);have h1:=h 1 (by omega);have h2:=h 2 (by omega);have h3:=h 3 (by omega);have h4:=h 4 (by omega);have h5:=h 5 (by omega);have h6:=h 6 (by omega);simp at h0 h1 h2 h3 h4 h5 h6
 simp [bitsI, *]
theorem okSt_bd (n:Int) (h:okSt n=true):1≤n∧n≤64:=by
 have:=(okSt_iff n).1 h;omega
theorem st_and:∀k,k<65→1≤k→(bits BinOp.and IntKind.i64 ((k:Nat):Int) ((k:Nat) - 1:Int) == 0)=okSt ((k:Nat):Int):=by decide
end
section
open Go.RowKit Go.Lib
theorem calls_named {P:Program} {f:Nat} {args:Array Value} {w:World} {Q:Ending→World→Prop} (h:∀W,W=w→Calls P f args W Q):Calls P f args w Q:=h w rfl
theorem name_world {P:Program} {c:Code} {Q:Exit→Act→World→Prop} {a:Act} {w:World} (h:∀W,W=w→c.wp P Q a W):c.wp P Q a w:=h w rfl
theorem box_at {W w1:World} (hb:jB W w1) {B:Nat} {cs:Array Value} {T:TypeId} (hB:W.heap[B]?=some (.cells cs T (0,0))):(∀j,w1.cell? ⟨B,j,none⟩=cs[j]?)∧(∀j,w1.frozen? ⟨B,j,none⟩=false)∧B<w1.heap.size∧w1.heap[B]?=some (.cells cs T (0,0)):=by
 obtain ⟨h1,h2,h3⟩:=box_cells hb hB;exact ⟨h1,h2,h3,(hb.block B (jL hB)).trans hB⟩
end
section
open Go.RowKit Go.Lib
theorem setCell_block {w:World} {B i:Nat} {cs:Array Value} {T:TypeId} {fr:Nat × Nat} {v:Value} (h:w.heap[B]?=some (.cells cs T fr)):(w.setCell ⟨B,i,none⟩ v).heap[B]?=some (.cells (cs.setIfInBounds i v) T fr):=by
 obtain ⟨hlt,hk⟩:=Array.getElem?_eq_some_iff.1 h
 show (w.heap.modify B _)[B]?=_
 rw [Array.getElem?_eq_getElem (by rw [Array.size_modify];exact hlt),Array.getElem_modify_self,hk];simp
end
section
open Go.RowKit Go.Lib
open Go.Maps (Keyed)
open Go.ChangeMaps
structure EntsOf {α β:Type} (K:α→Value) (V:β→Value) (ents:Array MapEntry) (clock:Nat) (es:List (α × β)):Prop where
 kv:ents.toList.map (fun e=>(e.key,e.val))=es.map (fun p=>(K p.1,V p.2))
 born:(ents.toList.map (·.born)).Nodup
 old:∀e∈ents.toList,e.born<clock
 keys:(es.map (·.1)).Nodup
def RangeIn {α β:Type} (K:α→Value) (V:β→Value) (w:World) (b r:Nat) (es pre:List (α × β)) (cnt:Nat):Prop :=
 ∃ (ents:Array MapEntry) (clock since:Nat) (seen:Array Nat) (c0:Nat) (ps:List MapEntry),w.heap[b]?=some (.map ents clock)∧EntsOf K V ents clock es∧w.heap[r]?=some (.mapIter (some b) since seen c0)∧(∀e∈ents.toList,e.born<since)∧since≤c0∧since≤clock ∧
   ps.map (fun e=>(e.key,e.val))=pre.map (fun p=>(K p.1,V p.2))∧seen.toList=ps.map (·.born)∧(∀e∈ps,e∈ents.toList)∧(∀p∈pre,p∈es)∧(pre.map (·.1)).Nodup∧(leftOf ents seen).size=cnt∧pre.length+cnt≤es.length
section
variable {α β:Type} [DecidableEq α] {K:α→Value} {V:β→Value} {P:Program} {k t e:TypeId} {w:World} {b r:Nat} {es pre:List (α × β)} {cnt:Nat}
theorem RangeIn.map_ (h:RangeIn K V w b r es pre cnt):MapIn K V w b es:=by
 obtain ⟨ents,clock,_,_,_,_,hb,hE,_⟩:=h;exact ⟨ents,clock,hb,hE.kv,hE.born,hE.old,hE.keys⟩
theorem RangeIn.lt (h:RangeIn K V w b r es pre cnt):r<w.heap.size:=by
 obtain ⟨_,_,_,_,_,_,_,_,hr,_⟩:=h;exact (jL hr)
theorem RangeIn.ne (h:RangeIn K V w b r es pre cnt):r≠b:=by
 obtain ⟨_,_,_,_,_,_,hb,_,hr,_⟩:=h;intro e;rw [e,hb] at hr
 cases hr
theorem RangeIn.left_eq (h:RangeIn K V w b r es pre cnt):w.rangeLeft b r=cnt:=by
 obtain ⟨_,_,_,_,_,_,hb,_,hr,_,_,_,_,_,_,_,_,hc,_⟩:=h;simp only [World.rangeLeft,hb,hr]
 exact hc
theorem RangeIn.kept {w':World} (h:RangeIn K V w b r es pre cnt) (h1:w'.heap[b]?=w.heap[b]?) (h2:w'.heap[r]?=w.heap[r]?):RangeIn K V w' b r es pre cnt:=by
 obtain ⟨ents,clock,since,seen,c0,ps,hb,hE,hr,rest⟩:=h;exact ⟨ents,clock,since,seen,c0,ps,h1.trans hb,hE,h2.trans hr,rest⟩
theorem MapIn.range (h:MapIn K V w b es) (ht:P.underlying t=some (.map k e)) :
 ∃w',(Instr.range t (.map (some b))).run P w=.ok (.pointer (some ⟨w.heap.size,0,none⟩)) w'∧RangeIn K V w' b w.heap.size es [] es.length∧w.grownBy w' none∧w'.heap.size=w.heap.size+1:=by
 have hlt:=h.lt;obtain ⟨ents,clock,hb,h1,h2,h3,h4⟩:=h;have hs:ents.size=es.length:=by simpa using congrArg List.length h1
 exact ⟨_,run_range_map w t k e b ents clock ht hb,⟨ents,clock,clock,#[],clock,[],((MapKept.heap_alloc w _).2 b hlt).trans hb,⟨h1,h2,h3,h4⟩,(MapKept.heap_alloc w _).1,h3,Nat.le_refl _,Nat.le_refl _,rfl,rfl,fun _ h=>by simp at h,fun _ h=>by simp at h,List.nodup_nil,by rw [←hs];simp [leftOf],by simp⟩,World.grownBy_alloc w _ none,by simp⟩
theorem RangeIn.next (h:RangeIn K V w b r es pre cnt) (inj:∀x y,K x=K y→x=y) (ty:TypeId) :
 (cnt=0∧(pre.map (·.1)).Perm (es.map (·.1))∧(Instr.next (.pointer (some ⟨r,0,none⟩)) false ty).run P w=.ok (.tuple #[.bool false]) w) ∨
 ∃ p w' cnt',p∈es∧p.1∉pre.map (·.1)∧(Instr.next (.pointer (some ⟨r,0,none⟩)) false ty).run P w=.ok (.tuple #[.bool true,K p.1,V p.2]) w' ∧
   RangeIn K V w' b r es (pre++[p]) cnt'∧cnt'<cnt∧w.grownBy w' (some r)∧w'.heap.size=w.heap.size∧(Instr.entry (.pointer (some ⟨r,0,none⟩))).run P w'=.ok (.tuple #[K p.1,V p.2]) w':=by
 have hne:=h.ne;obtain ⟨ents,clock,since,seen,c0,ps,hb,hE,hr,hold,hsc,hsk,hps,hseen,hsub,hpre,hnd,rfl,hcnt⟩:=h
 rcases run_next_at (P:=P) w ty r b since c0 seen ents clock hr hb hold hsc with ⟨h0,hrun⟩|⟨e,he,w1,hal,hrun⟩
 · refine Or.inl ⟨h0,?_,hrun⟩
   refine (List.perm_ext_iff_of_nodup hnd hE.keys).2 (fun x=>⟨fun hx=>?_,fun hx=>?_⟩)
   · obtain ⟨p,hp,rfl⟩:=List.mem_map.1 hx
     exact List.mem_map.2 ⟨p,hpre p hp,rfl⟩
   · obtain ⟨p,hp,rfl⟩:=List.mem_map.1 hx
     obtain ⟨j,hj⟩:=List.getElem?_of_mem hp;have:=congrArg (·[j]?) hE.kv;simp only [List.getElem?_map,hj,Option.map_some] at this
     cases hej:ents.toList[j]? with
     | none=>rw [hej] at this;cases this
     | some e0 =>
       rw [hej] at this;simp only [Option.map_some,Option.some.injEq,Prod.mk.injEq] at this
       have hs:=all_seen ents seen h0 e0 (List.mem_of_getElem? hej);have hs':e0.born∈ps.map (·.born):=by rw [←hseen];simpa using hs
       obtain ⟨e1,he1,hborn⟩:=List.mem_map.1 hs';obtain rfl:=born_inj hE.born (hsub e1 he1) (List.mem_of_getElem? hej) hborn;obtain ⟨q,hq,hk,hv⟩:=ents_mem hps he1;exact List.mem_map.2 ⟨q,hq,inj _ _ (hk.symm.trans this.1)⟩
 · obtain ⟨hem,hes⟩:=mem_left he
   obtain ⟨j,hj⟩:=List.getElem?_of_mem hem;obtain ⟨p,hp,hk,hv⟩:=ents_at hE.kv hj;have hpm:=List.mem_of_getElem? hp;have hnew:p.1∉pre.map (·.1):=by
    intro hx;obtain ⟨q,hq,hqp⟩:=List.mem_map.1 hx;obtain ⟨i,hi⟩:=List.getElem?_of_mem hq;have:=congrArg (·[i]?) hps;simp only [List.getElem?_map,hi,Option.map_some] at this
    cases hei:ps[i]? with
    | none=>rw [hei] at this;cases this
    | some e0 =>
      rw [hei] at this;simp only [Option.map_some,Option.some.injEq,Prod.mk.injEq] at this
      have he0:=List.mem_of_getElem? hei;obtain ⟨m,hm⟩:=List.getElem?_of_mem (hsub e0 he0);obtain ⟨q',hq',hk',hv'⟩:=ents_at hE.kv hm;have h1:q'.1=p.1:=(inj _ _ (hk'.symm.trans this.1)).trans hqp;have hm1:(es.map (·.1))[m]?=some p.1:=by simp [hq',h1]
      have hj1:(es.map (·.1))[j]?=some p.1:=by simp [hp]
      obtain rfl:=nodup_inj hE.keys hm1 hj1;rw [hj] at hm;injection hm with hm
      subst hm;have:e.born∈seen.toList:=by rw [hseen];exact List.mem_map.2 ⟨e,he0,rfl⟩
      have:seen.contains e.born=true:=by simpa using this
      rw [this] at hes
      cases hes
   have hr1:w1.heap[r]?=some (.mapIter (some b) since seen c0):=by rcases hal with rfl|rfl <;> exact hr
   have hb1:w1.heap[b]?=some (.map ents clock):=by rcases hal with rfl|rfl <;> exact hb
   have hset:=Go.MapKept.heap_set (o':=.mapIter (some b) since (seen.push e.born) clock) hr1;have hb':(setBlock w1 r (.mapIter (some b) since (seen.push e.born) clock)).heap[b]?=some (.map ents clock):=(hset.2 b (fun e1=>hne e1.symm)).trans hb1;have hsh:=left_shrinks ents seen e he
   refine Or.inr ⟨p,_,_,hpm,hnew,by rw [←hk,←hv];exact hrun,
     ⟨ents,clock,since,seen.push e.born,clock,ps++[e],hb',hE,hset.1,hold,hsk,hsk,by rw [List.map_append,List.map_append,hps];simp [hk,hv],by rw [Array.toList_push,hseen];simp,fun x hx=>?_,fun q hq=>?_,?_,rfl,?_⟩,hsh,?_,?_,?_⟩
   · rcases List.mem_append.1 hx with h|h
     · exact hsub x h
     · rw [List.mem_singleton.1 h];exact hem
   · rcases List.mem_append.1 hq with h|h
     · exact hpre q h
     · rw [List.mem_singleton.1 h];exact hpm
   · rw [List.map_append,List.nodup_append]
     refine ⟨hnd,by simp,fun a ha c hc=>?_⟩;simp only [List.map_cons,List.map_nil,List.mem_singleton] at hc
     subst hc;exact fun e1=>hnew (e1 ▸ ha)
   · rw [List.length_append,List.length_singleton];omega
   · rcases hal with rfl|rfl <;> exact ⟨rfl,rfl,rfl,by simp [setBlock],fun i _ hi=>hset.2 i (fun e1=>hi (by rw [e1]))⟩
   · rcases hal with rfl|rfl <;> simp [setBlock]
   · rw [←hk,←hv]
     exact run_entry_at _ r b since seen ents clock e hset.1 hb' hem hE.born
end
end
end Go.Proofs.YtkcdhaallnhhmaaGreat
