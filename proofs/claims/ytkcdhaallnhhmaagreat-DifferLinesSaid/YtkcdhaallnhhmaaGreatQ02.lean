/- Part 2 of the proof: IdPlain, IdWalks, CallPlain, Sat, NumP, Named, QRef. -/
import Derived.Sort.Grow
import Derived.Deep.AppendLies
import Derived.Deep.RegionLaw
import Derived.BigRegion
import Derived.DeepKeys5
import Derived.ChangeMaps5
import Derived.Test.YtkcdhaallnhhmaaGreatQ01
namespace Go.Proofs.YtkcdhaallnhhmaaGreat
set_option linter.unusedSimpArgs false
set_option linter.unusedVariables false
set_option linter.unusedSectionVars false
set_option maxRecDepth 100000
set_option maxHeartbeats 16000000
section
def codeI (c:Int):Int :=
 if c=45 then 1 else if c=46 then 2 else if 48≤c∧c≤57 then c - 45 else if c=95 then 13 else if 97≤c∧c≤122 then c - 83 else 0
theorem codeI_bd (c:Int):0≤codeI c∧codeI c≤39:=by
 unfold codeI
 repeat' split
 all_goals omega
theorem codeI_high (c:Int) (h:128≤c):codeI c=0:=by
 unfold codeI
 repeat' split
 all_goals omega
def codeB (b:UInt8):Nat:=(codeI b.toNat).toNat
def okB (b:UInt8):Bool:=decide (codeB b≠0)
theorem codeB_le (b:UInt8):codeB b≤39:=by
 have:=codeI_bd b.toNat;unfold codeB;omega
theorem codeI_cast (b:UInt8):codeI b.toNat=(codeB b:Int):=by
 have:=codeI_bd b.toNat;unfold codeB;omega
theorem okB_ascii (b:UInt8) (h:okB b=true):b.toNat<128:=by
 rcases Nat.lt_or_ge b.toNat 128 with h1|h1
 · exact h1
 · have:=codeI_high b.toNat (by omega)
   simp [okB,codeB,this] at h
theorem codeB_lt (a b:UInt8) (ha:okB a=true) (hb:okB b=true):codeB a<codeB b ↔ a.toNat<b.toNat:=by
 have ha':codeB a≠0:=by simpa [okB] using ha
 have hb':codeB b≠0:=by simpa [okB] using hb
 unfold codeB codeI at *;have:=a.toNat_lt;have:=b.toNat_lt;generalize a.toNat=x at *;generalize b.toNat=y at *
 repeat' split at ha'
 all_goals repeat' split at hb'
 all_goals first|omega|(simp at ha')|(simp at hb')|skip
 all_goals (repeat' split) <;> omega
theorem codeB_inj (a b:UInt8) (ha:okB a=true) (h:codeB a=codeB b):a=b:=by
 have hb:okB b=true:=by simpa [okB,←h] using ha
 have h1:=codeB_lt a b ha hb;have h2:=codeB_lt b a hb ha;exact UInt8.toNat_inj.1 (by omega)
def idL (l:List UInt8):Bool:=decide (1≤l.length) && (decide (l.length≤20) && l.all okB)
theorem idL_iff (l:List UInt8):idL l=true ↔ 1≤l.length∧l.length≤20∧∀b∈l,okB b=true:=by
 simp [idL]
def dig (l:List UInt8) (i:Nat):Nat:=((l[i]?).map codeB).getD 0
theorem dig_le (l:List UInt8) (i:Nat):dig l i≤39:=by
 unfold dig
 cases l[i]? with
 | none=>simp
 | some b=>simpa using codeB_le b
theorem dig_at (l:List UInt8) (i:Nat) (h:i<l.length):dig l i=codeB l[i]:=by simp [dig,h]
theorem dig_out (l:List UInt8) (i:Nat) (h:l.length≤i):dig l i=0:=by simp [dig,h]
def keyN (l:List UInt8) (a:Nat):Nat→Nat
  | 0=>0
  | n+1=>keyN l a n * 64+dig l (a+n)
theorem keyN_lt (l:List UInt8) (a n:Nat):keyN l a n<64 ^ n:=by
 induction n with
 | zero=>simp [keyN]
 | succ n ih =>
   have:=dig_le l (a+n);rw [keyN,Nat.pow_succ];omega
theorem keyN_end (l:List UInt8) (a m:Nat) (h:l.length≤a+m):∀k,keyN l a (m+k)=keyN l a m * 64 ^ k:=by
 intro k
 induction k with
 | zero=>simp
 | succ k ih =>
   rw [←Nat.add_assoc,keyN,ih,dig_out l _ (by omega),Nat.pow_succ,Nat.mul_assoc];simp
theorem keyN_dig (l:List UInt8) (a:Nat):∀n j,j<n→keyN l a n / 64 ^ (n - 1 - j) % 64=dig l (a+j):=by
 intro n
 induction n with
 | zero=>intro j h;omega
 | succ n ih =>
   intro j h;have hd:=dig_le l (a+n)
   rcases Nat.lt_or_ge j n with h1|h1
   · have e:n+1 - 1 - j=(n - 1 - j)+1:=by omega
     rw [e,Nat.pow_succ,Nat.mul_comm (64 ^ _) 64,←Nat.div_div_eq_div_mul,keyN];rw [show (keyN l a n * 64+dig l (a+n)) / 64=keyN l a n by omega];exact ih j h1
   · have e:n+1 - 1 - j=0:=by omega
     obtain rfl:j=n:=by omega
     rw [e,keyN];simp
     omega
theorem list_of_digs (l l':List UInt8) (hl:∀b∈l,okB b=true) (hl':∀b∈l',okB b=true) (n:Nat) (h1:l.length≤n) (h2:l'.length≤n)
    (h:∀j,j<n→dig l j=dig l' j):l=l':=by
  have pos:∀(m:List UInt8),(∀b∈m,okB b=true)→∀i,i<m.length→dig m i≠0:=by
   intro m hm i hi;rw [dig_at m i hi]
   simpa [okB] using hm _ (List.getElem_mem hi)
  have hlen:l.length=l'.length:=by
   rcases Nat.lt_trichotomy l.length l'.length with hx|hx|hx
   · have:=pos l' hl' l.length hx
     rw [←h _ (by omega),dig_out l _ (Nat.le_refl _)] at this;omega
   · exact hx
   · have:=pos l hl l'.length hx
     rw [h _ (by omega),dig_out l' _ (Nat.le_refl _)] at this;omega
  refine List.ext_getElem hlen fun i hi hi'=>?_
  have:=h i (by omega);rw [dig_at l i hi,dig_at l' i hi'] at this;exact codeB_inj _ _ (hl _ (List.getElem_mem hi)) this
def hiN (l:List UInt8):Nat:=keyN l 0 10
def loN (l:List UInt8):Nat:=keyN l 10 10
theorem hiN_lt (l:List UInt8):hiN l<1152921504606846976:=keyN_lt l 0 10
theorem loN_lt (l:List UInt8):loN l<1152921504606846976:=keyN_lt l 10 10
def atN (hi lo i:Nat):Nat:=(if i<10 then hi else lo) / 64 ^ (9 - i % 10) % 64
theorem atN_key (l:List UInt8) (i:Nat) (h:i<20):atN (hiN l) (loN l) i=dig l i:=by
 unfold atN hiN loN
 split
 · rename_i h1
   rw [Nat.mod_eq_of_lt h1];have:=keyN_dig l 0 10 i h1
   simpa using this
 · rename_i h1
   have e:i % 10=i - 10:=by omega
   rw [e];have:=keyN_dig l 10 10 (i - 10) (by omega);rw [show 10+(i - 10)=i by omega] at this
   simpa using this
def IsKey (hi lo:Nat) (l:List UInt8):Prop:=idL l=true∧hiN l=hi∧loN l=lo
theorem IsKey.digs {hi lo:Nat} {l:List UInt8} (h:IsKey hi lo l) (i:Nat) (hi20:i<20):atN hi lo i=dig l i:=by
 obtain ⟨_,rfl,rfl⟩:=h;exact atN_key l i hi20
theorem IsKey.one {hi lo:Nat} {l l':List UInt8} (h:IsKey hi lo l) (h':IsKey hi lo l'):l=l':=by
 obtain ⟨_,h2,h3⟩:=(idL_iff l).1 h.1;obtain ⟨_,h2',h3'⟩:=(idL_iff l').1 h'.1;exact list_of_digs l l' h3 h3' 20 h2 h2' fun j hj=>by rw [←h.digs j hj,h'.digs j hj]
def partW (l:List UInt8) (a m:Nat):Nat:=keyN l a m * 64 ^ (10 - m)
theorem partW_zero (l:List UInt8) (a:Nat):partW l a 0=0:=by simp [partW,keyN]
theorem partW_ten (l:List UInt8) (a:Nat):partW l a 10=keyN l a 10:=by simp [partW]
theorem partW_lt (l:List UInt8) (a m:Nat) (h:m≤10):partW l a m<1152921504606846976:=by
 have h1:=keyN_lt l a m;have e:64 ^ m * 64 ^ (10 - m)=1152921504606846976:=by
  rw [←Nat.pow_add,show m+(10 - m)=10 by omega]
 unfold partW;rw [←e];exact Nat.mul_lt_mul_of_pos_right h1 (Nat.pow_pos (by decide))
theorem shl_dig (d m:Nat):d <<< (6 * (9 - m))=d * 64 ^ (9 - m):=by
 rw [Nat.shiftLeft_eq,show (64:Nat)=2 ^ 6 by rfl,←Nat.pow_mul]
theorem partW_succ (l:List UInt8) (a m:Nat) (h:m<10):partW l a m ||| (dig l (a+m)) <<< (6 * (9 - m))=partW l a (m+1):=by
 have hd:=dig_le l (a+m);have e:10 - m=(9 - m)+1:=by omega
 have hlt:dig l (a+m) <<< (6 * (9 - m))<2 ^ (6 * (10 - m)):=by
  rw [shl_dig,e,Nat.mul_add,Nat.pow_add,Nat.pow_mul,show (2:Nat) ^ 6=64 by rfl,Nat.mul_comm];exact Nat.mul_lt_mul_of_pos_left (by omega) (Nat.pow_pos (by decide))
 have hp:partW l a m=keyN l a m <<< (6 * (10 - m)):=by
  unfold partW;rw [Nat.shiftLeft_eq,Nat.pow_mul,show (2:Nat) ^ 6=64 by rfl]
 rw [hp,←Nat.shiftLeft_add_eq_or_of_lt hlt,shl_dig,Nat.shiftLeft_eq,Nat.pow_mul,show (2:Nat) ^ 6=64 by rfl,e,Nat.pow_succ];unfold partW;rw [keyN,show 10 - (m+1)=9 - m by omega,Nat.add_mul,Nat.mul_assoc,Nat.mul_comm 64]
theorem partW_all (l:List UInt8) (a:Nat) (m:Nat) (hm:m≤10) (h:l.length≤a+m):partW l a m=keyN l a 10:=by
 have:=keyN_end l a m h (10 - m);rw [show m+(10 - m)=10 by omega] at this;unfold partW;exact this.symm
end
section
open Go.RowKit Go.Lib
theorem code_any (c:Int) (w:World) (h0 : -2147483648≤c) (h1:c≤2147483647) :
 Calls Tryz.prog 112 #[.int .i32 c] w fun e w'=>e=.returned (.int .u64 (codeI c))∧w=w':=by
 go_enter Tryz.func112,Tryz.ntmps112
 go_wp2
 all_goals
   go_ret
   refine ⟨?_,rfl⟩
   simp_all [codeI]
   try omega
theorem mem_at (s:ByteArray) (j:Nat) (h:j<s.size):s[j]∈s.data.toList:=by
 have e:s[j]=s.data.toList[j]'(by simpa using h):=rfl;rw [e];exact List.getElem_mem _
def OkTo (s:ByteArray) (n:Nat):Prop:=∀j (h:j<s.size),j<n→okB s[j]=true
theorem okTo_list (s:ByteArray) (n:Nat) (h:s.size≤n):OkTo s n ↔ ∀b∈s.data.toList,okB b=true:=by
 constructor
 · intro hk b hb
   obtain ⟨j,hj,rfl⟩:=List.getElem_of_mem hb;have hj':j<s.size:=by simpa using hj
   exact hk j hj' (by omega)
 · intro hk j hj _
   exact hk _ (mem_at s j hj)
theorem okTo_zero (s:ByteArray):OkTo s 0:=fun _ _ h=>absurd h (by omega)
theorem okTo_succ (s:ByteArray) (n:Nat) (h:OkTo s n) (hn:n<s.size) (hb:okB s[n]=true):OkTo s (n+1):=by
 intro j hj hlt
 rcases Nat.lt_or_ge j n with h1|h1
 · exact h j hj h1
 · obtain rfl:j=n:=by omega
   exact hb
def idS (s:ByteArray):Bool:=idL s.data.toList
theorem idS_len (s:ByteArray) (h:s.size<1∨20<s.size):idS s=false:=by
 cases hb:idS s with
 | false=>rfl
 | true =>
   have:=(idL_iff _).1 hb;simp at this
   omega
theorem idS_bad (s:ByteArray) (j:Nat) (hj:j<s.size) (h:okB s[j]=false):idS s=false:=by
 cases hb:idS s with
 | false=>rfl
 | true =>
   have:=((idL_iff _).1 hb).2.2 s[j] (mem_at s j hj);rw [h] at this
   cases this
theorem idS_all (s:ByteArray) (h1:1≤s.size) (h2:s.size≤20) (h:OkTo s s.size):idS s=true :=
 (idL_iff _).2 ⟨by simpa using h1,by simpa using h2,(okTo_list s s.size (Nat.le_refl _)).1 h⟩
theorem idS_okTo (s:ByteArray) (h:idS s=true):1≤s.size∧s.size≤20∧OkTo s s.size:=by
 have:=(idL_iff _).1 h;exact ⟨by simpa using this.1,by simpa using this.2.1,(okTo_list s s.size (Nat.le_refl _)).2 this.2.2⟩
def chkV (s:ByteArray):Int:=if idS s=true then 0 else 2
theorem okB_code (b:UInt8):okB b=true→(codeI b.toNat == 0)=false:=by
 intro h;rw [codeI_cast]
 simpa [okB] using h
theorem rune_bad (s:ByteArray) (pos:Nat) (h:pos<s.size) (hb:okB s[pos]=false):(codeI (Utf8.decode s pos).1 == 0)=true:=by
 by_cases ha:(s[pos]'h).toNat<128
 · rw [decode_ascii s pos h ha]
   simp only [beq_iff_eq]
   have:codeB s[pos]=0:=by simpa [okB] using hb
   rw [codeI_cast,this];rfl
 · have:=(decode_high s pos h (by omega)).1
   simp only [beq_iff_eq]
   exact codeI_high _ (by omega)
theorem check_any (s:ByteArray) (w:World) (hm:s.size≤maxLen) :
 Calls Tryz.prog 78 #[.string s] w (jP w (.int .i64 (chkV s))):=by
 unfold maxLen at hm
 by_cases h1:s.size<1
 · have hf:chkV s=2:=by simp [chkV,idS_len s (.inl h1)]
   rw [hf];clear hf
   go_enter Tryz.func78,Tryz.ntmps78
   go_wp2
   go_ret
   exact ⟨rfl,jR⟩
 · by_cases h2:20<s.size
   · have hf:chkV s=2:=by simp [chkV,idS_len s (.inr h2)]
     rw [hf];clear hf
     go_enter Tryz.func78,Tryz.ntmps78
     go_wp2
     go_ret
     exact ⟨rfl,jR⟩
   · go_enter Tryz.func78,Tryz.ntmps78
     go_wp2
     go_loopw [4] (fun _ w'=>∃pos:Nat,pos≤s.size∧w'=w.iter s pos∧OkTo s pos) (fun _ w'=>s.size - w'.iterPos w.heap.size)
     case atStart=>exact ⟨0,Nat.zero_le _,rfl,okTo_zero s⟩
     case round =>
      obtain ⟨pos,hp0,rfl,hok⟩:=hrel
      by_cases hp:pos<s.size
      · cases hb:okB s[pos] with
        | true =>
          have ha:=okB_ascii _ hb;have hc:=okB_code _ hb;have hok':=okTo_succ s pos hok hp hb;have hnx:∀ty,(Instr.next (.pointer (some ⟨w.heap.size,0,none⟩)) true ty).run Tryz.prog (w.iter s pos)=_:=fun ty=>run_next_ascii w s pos ty hp ha
          clear hb hok
          go_wp2_with (go_at_call 112;refine (code_any _ _ (by omega) (by omega)).mono ?_;rintro e w' ⟨rfl,rfl⟩)
          go_roundw
          case rel=>exact ⟨pos+1,hp,rfl,hok'⟩
          case measure=>simp;omega
        | false =>
          have hr:=rune_bad s pos hp hb;have hle:=decode_le s pos;have hf:chkV s=2:=by simp [chkV,idS_bad s pos hp hb]
          have hnx:∀ty,(Instr.next (.pointer (some ⟨w.heap.size,0,none⟩)) true ty).run Tryz.prog (w.iter s pos)=_:=fun ty=>run_next_any w s pos ty hp
          clear hb hok;have Hf:=jH hf;clear hf
          go_wp2_with (go_at_call 112;refine (code_any _ _ (by omega) (by omega)).mono ?_;rintro e w' ⟨rfl,rfl⟩)
          go_ret
          rw [Hf.out];exact ⟨rfl,jR.alloc (Nat.le_refl _) _⟩
      · have hf:chkV s=0:=by
         obtain rfl:pos=s.size:=by omega
         simp [chkV,idS_all s (by omega) (by omega) hok]
        have Hf:=jH hf;clear hf hok;have hnx:∀ty,(Instr.next (.pointer (some ⟨w.heap.size,0,none⟩)) true ty).run Tryz.prog (w.iter s pos)=_:=fun ty=>run_next_end w s pos ty hp
        go_wp2
        go_ret
        rw [Hf.out];exact ⟨rfl,jR.alloc (Nat.le_refl _) _⟩
end
section
open Go.RowKit Go.Lib
structure Cfg where
 st:Int
 sa:Int
 lo:Int
 hi:Int
structure Pol where
 mn:Int
 mx:Int
 tg:Int
 tol:Int
 win:Int
 hold:Int
structure CallD where
 kind:Int
 id:ByteArray
 tick:Int
 val:Int
 handle:Int
 pol:Pol
def I64 (n:Int):Prop:=-9223372036854775808≤n∧n≤9223372036854775807
def Cfg.ok (c:Cfg):Prop:=I64 c.st∧I64 c.sa∧I64 c.lo∧I64 c.hi
def Pol.ok (p:Pol):Prop:=I64 p.mn∧I64 p.mx∧I64 p.tg∧I64 p.tol∧I64 p.win∧I64 p.hold
def CallD.ok (c:CallD):Prop:=I64 c.kind∧c.id.size≤maxLen∧I64 c.tick∧I64 c.val∧I64 c.handle∧c.pol.ok
def cfgV (c:Cfg):Value:=.agg #[.int .i64 c.st,.int .i64 c.sa,.int .i64 c.lo,.int .i64 c.hi]
def polV (p:Pol):Value:=.agg #[.int .i64 p.mn,.int .i64 p.mx,.int .i64 p.tg,.int .i64 p.tol,.int .i64 p.win,.int .i64 p.hold]
def callCells (c:CallD):List Value:=[.int .i64 c.kind,.string c.id,.int .i64 c.tick,.int .i64 c.val,.int .i64 c.handle,.int .i64 c.pol.mn,.int .i64 c.pol.mx,.int .i64 c.pol.tg,.int .i64 c.pol.tol,.int .i64 c.pol.win,.int .i64 c.pol.hold]
def callV (c:CallD):Value:=.agg #[.int .i64 c.kind,.string c.id,.int .i64 c.tick,.int .i64 c.val,.int .i64 c.handle,.int .i64 c.pol.mn,.int .i64 c.pol.mx,.int .i64 c.pol.tg,.int .i64 c.pol.tol,.int .i64 c.pol.win,.int .i64 c.pol.hold]
def okSt (n:Int):Bool:=n == 1 || (n == 2 || (n == 4 || (n == 8 || (n == 16 || (n == 32 || n == 64)))))
def cfgB (c:Cfg):Bool:=okSt c.st && decide (1≤c.sa∧c.sa≤256∧1≤c.lo∧c.lo≤256∧1≤c.hi∧c.hi≤64)
def cfgE (c:Cfg):Int:=if cfgB c=true then 0 else 1
def serE (t v:Int):Int:=if t<0 then 3 else if v<0 then 4 else 0
def polB (p:Pol):Bool:=decide (0≤p.mn∧1≤p.mx∧p.mn≤p.mx∧p.mx≤1073741824∧1≤p.tg∧0≤p.tol∧p.tol≤999∧1≤p.win∧0≤p.hold)
def polE (p:Pol):Int:=if polB p=true then 0 else 7
def chkC (c:CallD):Int :=
 if c.kind<1∨8<c.kind then 14
 else if (c.kind=1∨c.kind=5∨c.kind=6∨c.kind=7)∧idS c.id=false then 2
 else if c.kind=1 then serE c.tick c.val
 else if c.kind=2∧c.tick<0 then 3
 else if c.kind=6∧polB c.pol=false then 7
 else 0
theorem okSt_iff (n:Int):okSt n=true ↔ n=1∨n=2∨n=4∨n=8∨n=16∨n=32∨n=64:=by
 simp [okSt]
def bitsI (n:Int):Int:=if n=1 then 0 else if n=2 then 1 else if n=4 then 2 else if n=8 then 3 else if n=16 then 4 else if n=32 then 5 else if n=64 then 6 else -1
theorem bitsI_ok (n:Int):decide (0≤bitsI n)=okSt n:=by
 rw [Bool.eq_iff_iff,okSt_iff,decide_eq_true_eq];unfold bitsI
 repeat' split
 all_goals omega
theorem bitsI_pow:∀k,k<7→bitsI ((2 ^ k:Nat):Int)=(k:Nat):=by decide
theorem bitsI_none (n:Int) (h:∀j,j<7→n≠((2 ^ j:Nat):Int)):bitsI n = -1:=by
 have h0:=h 0 (by omega);have h1:=h 1 (by omega);have h2:=h 2 (by omega);have h3:=h 3 (by omega);have h4:=h 4 (by omega);have h5:=h 5 (by omega);have h6:=h 6 (by omega);simp at h0 h1 h2 h3 h4 h5 h6
 simp [bitsI, *]
theorem okSt_bd (n:Int) (h:okSt n=true):1≤n∧n≤64:=by
 have:=(okSt_iff n).1 h;omega
theorem st_and:∀k,k<65→1≤k→(bits BinOp.and IntKind.i64 ((k:Nat):Int) ((k:Nat) - 1:Int) == 0)=okSt ((k:Nat):Int):=by decide
end
section
open Go.RowKit Go.Lib
def endsI (n:Int):Int:=if 9223372036854775807<n then 9223372036854775807 else if n < -9223372036854775808 then -9223372036854775808 else n
theorem endsI_i64 (n:Int):I64 (endsI n):=by
 unfold endsI I64
 split
 · omega
 · split <;> omega
def sumE:List Int→Int→Int
  | [],a=>a
  | n::l,a=>sumE l (endsI (a+n))
theorem sumE_i64:∀(l:List Int) (a:Int),I64 a→I64 (sumE l a)
  | [],a,h=>h
  | n::l,a,h=>sumE_i64 l _ (endsI_i64 _)
theorem sumE_snoc:∀(l:List Int) (a n:Int),sumE (l++[n]) a=endsI (sumE l a+n)
  | [],a,n=>rfl
  | m::l,a,n=>sumE_snoc l _ n
def ceilI (a b:Int):Int:=if b<1 then 0 else if a≤0 then a.tdiv b else (a - 1).tdiv b+1
def clampI (n lo hi:Int):Int:=if n<lo∨hi<lo then lo else if hi<n then hi else n
def nmC (n:Int):List Value:=[.int .i64 n]
theorem i64_0:I64 0:=by unfold I64;omega
theorem satAdd_any (a b:Int) (w:World) (ha:I64 a) (hb:I64 b) :
 Calls Tryz.prog 202 #[.int .i64 a,.int .i64 b] w fun e w'=>e=.returned (.int .i64 (endsI (a+b)))∧w=w':=by
 obtain ⟨a1,a2⟩:=ha;obtain ⟨b1,b2⟩:=hb
 go_enter Tryz.func202,Tryz.ntmps202
 go_wp2
 all_goals
   go_ret
   refine ⟨ret_int ?_,rfl⟩
   (try unfold wrap64 at *)
   unfold endsI
   repeat' split
   all_goals omega
theorem refAdd_any (a b:Int) (w:World) (ha:I64 a) (hb:I64 b) :
 Calls Tryz.prog 172 #[.int .i64 a,.int .i64 b] w fun e w'=>e=.returned (.int .i64 (endsI (a+b)))∧w=w':=by
 obtain ⟨a1,a2⟩:=ha;obtain ⟨b1,b2⟩:=hb
 go_enter Tryz.func172,Tryz.ntmps172
 go_wp2
 all_goals
   go_ret
   refine ⟨ret_int ?_,rfl⟩
   (try unfold wrap64 at *)
   unfold endsI
   repeat' split
   all_goals omega
theorem refSub_any (a b:Int) (w:World) (ha:I64 a) (hb:I64 b) :
 Calls Tryz.prog 173 #[.int .i64 a,.int .i64 b] w fun e w'=>e=.returned (.int .i64 (endsI (a - b)))∧w=w':=by
 obtain ⟨a1,a2⟩:=ha;obtain ⟨b1,b2⟩:=hb
 go_enter Tryz.func173,Tryz.ntmps173
 go_wp2
 all_goals
   go_ret
   refine ⟨ret_int ?_,rfl⟩
   (try unfold wrap64 at *)
   unfold endsI
   repeat' split
   all_goals omega
theorem satBit_any (b:Bool) (w:World) :
 Calls Tryz.prog 228 #[.bool b] w fun e w'=>e=.returned (.int .i64 (if b=true then 1 else 0))∧w=w':=by
 cases b
 all_goals
   go_enter Tryz.func228,Tryz.ntmps228
   go_wp2
   go_ret
   exact ⟨rfl,rfl⟩
theorem sub_ends {a b:Int} (ha:I64 a) (hb:I64 b) (h:b≠-9223372036854775808):endsI (a+IntKind.i64.wrap (-b))=endsI (a - b):=by
 unfold I64 at ha hb;rw [IntKind.wrap_i64]
 congr 1
 omega
theorem sub_end {a:Int} (ha:I64 a) (q:Bool) (hq:q=decide (a<0)):endsI (endsI (a+9223372036854775807)+if q=true then 1 else 0)=endsI (a - -9223372036854775808):=by
 subst hq;unfold I64 at ha
 by_cases h:a<0
 · simp only [h,decide_true,if_true]
   unfold endsI
   repeat' split
   all_goals omega
 · simp only [h,decide_false]
   unfold endsI;simp only [Bool.false_eq_true,if_false]
   repeat' split
   all_goals omega
end
section
open Go.RowKit Go.Lib
theorem bit_nat (n i:Nat):(n.testBit i).toNat=n / 2 ^ i % 2:=by
 rw [Nat.testBit_eq_decide_div_mod_eq];have h:=Nat.mod_two_eq_zero_or_one (n / 2 ^ i)
 rcases h with h|h <;> simp [h]
def carN (a b i:Nat):Nat:=(a % 2 ^ i+b % 2 ^ i) / 2 ^ i
theorem carN_zero (a b:Nat):carN a b 0=0:=by simp [carN,Nat.mod_one]
theorem carN_le (a b i:Nat):carN a b i≤1:=by
 unfold carN;have hp:0<2 ^ i:=Nat.two_pow_pos i;have h1:=Nat.mod_lt a hp;have h2:=Nat.mod_lt b hp;have:(a % 2 ^ i+b % 2 ^ i) / 2 ^ i<2:=(Nat.div_lt_iff_lt_mul hp).2 (by omega);omega
theorem carN_succ (a b i:Nat):carN a b (i+1)=(carN a b i+(a.testBit i).toNat+(b.testBit i).toNat) / 2:=by
 unfold carN;rw [Nat.pow_succ,Nat.mod_mul,Nat.mod_mul,←bit_nat,←bit_nat];have hp:0<2 ^ i:=Nat.two_pow_pos i;generalize (a.testBit i).toNat=x;generalize (b.testBit i).toNat=y;rw [←Nat.div_div_eq_div_mul]
 congr 1
 have:a % 2 ^ i+2 ^ i * x+(b % 2 ^ i+2 ^ i * y)=(a % 2 ^ i+b % 2 ^ i)+2 ^ i * (x+y):=by
  rw [Nat.mul_add];omega
 rw [this,Nat.add_mul_div_left _ _ hp];omega
theorem sum_bit (a b i:Nat):(a+b).testBit i=decide ((carN a b i+(a.testBit i).toNat+(b.testBit i).toNat) % 2=1):=by
 rw [Nat.testBit_eq_decide_div_mod_eq,bit_nat,bit_nat];unfold carN;have hp:0<2 ^ i:=Nat.two_pow_pos i;have ha:=Nat.div_add_mod a (2 ^ i);have hb:=Nat.div_add_mod b (2 ^ i);have:(a+b) / 2 ^ i=(a % 2 ^ i+b % 2 ^ i) / 2 ^ i+(a / 2 ^ i+b / 2 ^ i):=by
  have e:a+b=(a % 2 ^ i+b % 2 ^ i)+2 ^ i * (a / 2 ^ i+b / 2 ^ i):=by rw [Nat.mul_add];omega
  rw [e,Nat.add_mul_div_left _ _ hp]
 rw [this]
 congr 1
 apply propext
 omega
theorem carN_end (a b i:Nat) (ha:a<2 ^ i) (hb:b<2 ^ i):carN a b i=(a+b) / 2 ^ i:=by
 unfold carN;rw [Nat.mod_eq_of_lt ha,Nat.mod_eq_of_lt hb]
def bitsL (f:Nat→Bool):List Value:=(List.range 128).map fun j=>Value.bool (f j)
def numV (n:Nat):Value:=.agg (bitsL n.testBit).toArray
theorem bitsL_len (f:Nat→Bool):(bitsL f).length=128:=by simp [bitsL]
theorem bitsL_get (f:Nat→Bool) (j:Nat) (h:j<128):(bitsL f)[j]?=some (.bool (f j)):=by
 simp [bitsL,List.getElem?_map,List.getElem?_range h]
def updB (f:Nat→Bool) (i:Nat) (b:Bool):Nat→Bool:=fun j=>if j=i then b else f j
theorem bitsL_set (f:Nat→Bool) (i:Nat) (b:Bool) (h:i<128):(bitsL f).set i (.bool b)=bitsL (updB f i b):=by
 apply List.ext_getElem?
 intro j
 by_cases hj:j<128
 · rw [List.getElem?_set,bitsL_len,bitsL_get _ _ hj,bitsL_get _ _ hj]
   unfold updB
   by_cases e:i=j
   · subst e;simp [h]
   · rw [if_neg e,if_neg (fun q=>e q.symm)]
 · rw [List.getElem?_eq_none (by simp [bitsL];omega),List.getElem?_eq_none (by simp [bitsL];omega)]
theorem bitsL_ext {f g:Nat→Bool} (h:∀j,j<128→f j=g j):bitsL f=bitsL g:=by
 unfold bitsL
 apply List.map_congr_left
 intro j hj;rw [h j (List.mem_range.1 hj)]
theorem top_bit (n i:Nat):n / 2 ^ i=2 * (n / 2 ^ (i+1))+(n.testBit i).toNat:=by
 rw [bit_nat,Nat.pow_succ,←Nat.div_div_eq_div_mul];omega
def cmpN (a b:Nat):Int:=if a=b then 0 else if a<b then -1 else 1
theorem cmpN_bit {a b i:Nat} (h:a / 2 ^ (i+1)=b / 2 ^ (i+1)) (hd:a.testBit i≠b.testBit i):cmpN a b=if a.testBit i=true then 1 else -1:=by
 have ha:=top_bit a i;have hb:=top_bit b i;unfold cmpN
 cases hx:a.testBit i <;> cases hy:b.testBit i
 · rw [hx,hy] at hd;exact absurd rfl hd
 · rw [hx] at ha;rw [hy] at hb
   have hlt:a / 2 ^ i<b / 2 ^ i:=by simp at ha hb;omega
   have:a<b:=Nat.lt_of_not_le (fun q=>by have:=Nat.div_le_div_right (c:=2 ^ i) q;omega);rw [if_neg (by omega),if_pos this];rfl
 · rw [hx] at ha;rw [hy] at hb
   have hlt:b / 2 ^ i<a / 2 ^ i:=by simp at ha hb;omega
   have:b<a:=Nat.lt_of_not_le (fun q=>by have:=Nat.div_le_div_right (c:=2 ^ i) q;omega);rw [if_neg (by omega),if_neg (by omega)];rfl
 · rw [hx,hy] at hd;exact absurd rfl hd
theorem cmpN_next {a b i:Nat} (h:a / 2 ^ (i+1)=b / 2 ^ (i+1)) (hd:a.testBit i=b.testBit i):a / 2 ^ i=b / 2 ^ i:=by
 rw [top_bit a i,top_bit b i,h,hd]
def totN:List Int→Nat
  | []=>0
  | n::l=>n.toNat+totN l
theorem totN_append:∀a b:List Int,totN (a++b)=totN a+totN b
  | [],b=>by simp [totN]
  | n::a,b=>by simp [totN,totN_append a b];omega
theorem totN_le {l:List Int} (h:∀n∈l,n≤9223372036854775807):totN l≤l.length * 9223372036854775807:=by
 induction l with
 | nil=>simp [totN]
 | cons n l ih =>
   have h1:=h n (by simp);have h2:=ih (fun m hm=>h m (by simp [hm]));simp only [totN,List.length_cons]
   omega
def meanN (l:List Int):Nat:=if l=[] then 0 else (totN l+(l.length - 1)) / l.length
theorem meanN_le {l:List Int} (h:∀n∈l,n≤9223372036854775807):meanN l≤9223372036854775807:=by
 unfold meanN
 split
 · omega
 · rename_i hne
   have hp:0<l.length:=List.length_pos_iff.2 hne;have:=totN_le h
   apply Nat.le_of_lt_succ
   rw [Nat.div_lt_iff_lt_mul hp];rw [Nat.mul_comm] at this;generalize l.length=n at *;have e:(9223372036854775807+1) * n=9223372036854775807 * n+n:=by omega
   rw [e];omega
end
section
open Go.RowKit Go.Lib
theorem calls_named {P:Program} {f:Nat} {args:Array Value} {w:World} {Q:Ending→World→Prop} (h:∀W,W=w→Calls P f args W Q):Calls P f args w Q:=h w rfl
theorem name_world {P:Program} {c:Code} {Q:Exit→Act→World→Prop} {a:Act} {w:World} (h:∀W,W=w→c.wp P Q a W):c.wp P Q a w:=h w rfl
theorem box_at {W w1:World} (hb:jB W w1) {B:Nat} {cs:Array Value} {T:TypeId} (hB:W.heap[B]?=some (.cells cs T (0,0))):(∀j,w1.cell? ⟨B,j,none⟩=cs[j]?)∧(∀j,w1.frozen? ⟨B,j,none⟩=false)∧B<w1.heap.size∧w1.heap[B]?=some (.cells cs T (0,0)):=by
 obtain ⟨h1,h2,h3⟩:=box_cells hb hB;exact ⟨h1,h2,h3,(hb.block B (jL hB)).trans hB⟩
end
section
open Go.RowKit Go.Lib
theorem box_one (w:World) (x:Ky):∀W,W=w.alloc (.cells #[.int .u64 x.1,.int .u64 x.2] 130)→W.cell? ⟨w.heap.size,0,none⟩=some (.int .u64 x.1)∧W.cell? ⟨w.heap.size,1,none⟩=some (.int .u64 x.2)∧W.heap.size=w.heap.size+1∧jB w W:=by
 rintro W rfl;exact ⟨(startA w _ _).1 0,(startA w _ _).1 1,by simp,balloc jR _⟩
end
end Go.Proofs.YtkcdhaallnhhmaaGreat
