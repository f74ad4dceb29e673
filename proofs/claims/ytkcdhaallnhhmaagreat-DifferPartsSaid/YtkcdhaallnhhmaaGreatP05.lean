/- Part 5 of the proof: IdPlain. -/
namespace Go.Proofs.YtkcdhaallnhhmaaGreat
set_option linter.unusedSimpArgs false
set_option linter.unusedVariables false
set_option linter.unusedSectionVars false
set_option maxRecDepth 100000
set_option maxHeartbeats 16000000
section
def codeI (c:Int):Int :=
 if c=45 then 1 else if c=46 then 2 else if 48≤c∧c≤57 then c - 45 else if c=95 then 13 else if 97≤c∧c≤122 then c - 83 else 0
theorem codeI_bd (c:Int):0≤codeI c∧codeI c≤39:=by
 unfold codeI
 repeat' split
 all_goals omega
theorem codeI_high (c:Int) (h:128≤c):codeI c=0:=by
 unfold codeI
 repeat' split
 all_goals omega
def codeB (b:UInt8):Nat:=(codeI b.toNat).toNat
def okB (b:UInt8):Bool:=decide (codeB b≠0)
theorem codeB_le (b:UInt8):codeB b≤39:=by
 have:=codeI_bd b.toNat;unfold codeB;omega
theorem codeI_cast (b:UInt8):codeI b.toNat=(codeB b:Int):=by
 have:=codeI_bd b.toNat;unfold codeB;omega
theorem okB_ascii (b:UInt8) (h:okB b=true):b.toNat<128:=by
 rcases Nat.lt_or_ge b.toNat 128 with h1|h1
 · exact h1
 · have:=codeI_high b.toNat (by omega)
   simp [okB,codeB,this] at h
theorem codeB_lt (a b:UInt8) (ha:okB a=true) (hb:okB b=true):codeB a<codeB b ↔ a.toNat<b.toNat:=by
 have ha':codeB a≠0:=by simpa [okB] using ha
 have hb':codeB b≠0:=by simpa [okB] using hb
 unfold codeB codeI at *;have:=a.toNat_lt;have:=b.toNat_lt;generalize a.toNat=x at *;generalize b.toNat=y at *
 repeat' split at ha'
 all_goals repeat' split at hb'
 all_goals first|omega|(simp at ha')|(simp at hb')|skip
 all_goals (repeat' split) <;> omega
theorem codeB_inj (a b:UInt8) (ha:okB a=true) (h:codeB a=codeB b):a=b:=by
 have hb:okB b=true:=by simpa [okB,←h] using ha
 have h1:=codeB_lt a b ha hb;have h2:=codeB_lt b a hb ha;exact UInt8.toNat_inj.1 (by omega)
def idL (l:List UInt8):Bool:=decide (1≤l.length) && (decide (l.length≤20) && l.all okB)
theorem idL_iff (l:List UInt8):idL l=true ↔ 1≤l.length∧l.length≤20∧∀b∈l,okB b=true:=by
 simp [idL]
def dig (l:List UInt8) (i:Nat):Nat:=((l[i]?).map codeB).getD 0
theorem dig_le (l:List UInt8) (i:Nat):dig l i≤39:=by
 unfold dig
 cases l[i]? with
 | none=>simp
 | some b=>simpa using codeB_le b
theorem dig_at (l:List UInt8) (i:Nat) (h:i<l.length):dig l i=codeB l[i]:=by simp [dig,h]
theorem dig_out (l:List UInt8) (i:Nat) (h:l.length≤i):dig l i=0:=by simp [dig,h]
def keyN (l:List UInt8) (a:Nat):Nat→Nat
  | 0=>0
  | n+1=>keyN l a n * 64+dig l (a+n)
theorem keyN_lt (l:List UInt8) (a n:Nat):keyN l a n<64 ^ n:=by
 induction n with
 | zero=>simp [keyN]
 | succ n ih =>
   have:=dig_le l (a+n);rw [keyN,Nat.pow_succ];omega
theorem keyN_end (l:List UInt8) (a m:Nat) (h:l.length≤a+m):∀k,keyN l a (m+k)=keyN l a m * 64 ^ k:=by
 intro k
 induction k with
 | zero=>simp
 | succ k ih =>
   rw [←Nat.add_assoc,keyN,ih,dig_out l _ (by omega),Nat.pow_succ,Nat.mul_assoc];simp
theorem keyN_dig (l:List UInt8) (a:Nat):∀n j,j<n→keyN l a n / 64 ^ (n - 1 - j) % 64=dig l (a+j):=by
 intro n
 induction n with
 | zero=>intro j h;omega
 | succ n ih =>
   intro j h;have hd:=dig_le l (a+n)
   rcases Nat.lt_or_ge j n with h1|h1
   · have e:n+1 - 1 - j=(n - 1 - j)+1:=by omega
     rw [e,Nat.pow_succ,Nat.mul_comm (64 ^ _) 64,←Nat.div_div_eq_div_mul,keyN];rw [show (keyN l a n * 64+dig l (a+n)) / 64=keyN l a n by omega];exact ih j h1
   · have e:n+1 - 1 - j=0:=by omega
     obtain rfl:j=n:=by omega
     rw [e,keyN];simp
     omega
theorem list_of_digs (l l':List UInt8) (hl:∀b∈l,okB b=true) (hl':∀b∈l',okB b=true) (n:Nat) (h1:l.length≤n) (h2:l'.length≤n)
    (h:∀j,j<n→dig l j=dig l' j):l=l':=by
  have pos:∀(m:List UInt8),(∀b∈m,okB b=true)→∀i,i<m.length→dig m i≠0:=by
   intro m hm i hi;rw [dig_at m i hi]
   simpa [okB] using hm _ (List.getElem_mem hi)
  have hlen:l.length=l'.length:=by
   rcases Nat.lt_trichotomy l.length l'.length with hx|hx|hx
   · have:=pos l' hl' l.length hx
     rw [←h _ (by omega),dig_out l _ (Nat.le_refl _)] at this;omega
   · exact hx
   · have:=pos l hl l'.length hx
     rw [h _ (by omega),dig_out l' _ (Nat.le_refl _)] at this;omega
  refine List.ext_getElem hlen fun i hi hi'=>?_
  have:=h i (by omega);rw [dig_at l i hi,dig_at l' i hi'] at this;exact codeB_inj _ _ (hl _ (List.getElem_mem hi)) this
def hiN (l:List UInt8):Nat:=keyN l 0 10
def loN (l:List UInt8):Nat:=keyN l 10 10
theorem hiN_lt (l:List UInt8):hiN l<1152921504606846976:=keyN_lt l 0 10
theorem loN_lt (l:List UInt8):loN l<1152921504606846976:=keyN_lt l 10 10
def atN (hi lo i:Nat):Nat:=(if i<10 then hi else lo) / 64 ^ (9 - i % 10) % 64
theorem atN_key (l:List UInt8) (i:Nat) (h:i<20):atN (hiN l) (loN l) i=dig l i:=by
 unfold atN hiN loN
 split
 · rename_i h1
   rw [Nat.mod_eq_of_lt h1];have:=keyN_dig l 0 10 i h1
   simpa using this
 · rename_i h1
   have e:i % 10=i - 10:=by omega
   rw [e];have:=keyN_dig l 10 10 (i - 10) (by omega);rw [show 10+(i - 10)=i by omega] at this
   simpa using this
def IsKey (hi lo:Nat) (l:List UInt8):Prop:=idL l=true∧hiN l=hi∧loN l=lo
theorem IsKey.digs {hi lo:Nat} {l:List UInt8} (h:IsKey hi lo l) (i:Nat) (hi20:i<20):atN hi lo i=dig l i:=by
 obtain ⟨_,rfl,rfl⟩:=h;exact atN_key l i hi20
theorem IsKey.one {hi lo:Nat} {l l':List UInt8} (h:IsKey hi lo l) (h':IsKey hi lo l'):l=l':=by
 obtain ⟨_,h2,h3⟩:=(idL_iff l).1 h.1;obtain ⟨_,h2',h3'⟩:=(idL_iff l').1 h'.1;exact list_of_digs l l' h3 h3' 20 h2 h2' fun j hj=>by rw [←h.digs j hj,h'.digs j hj]
def partW (l:List UInt8) (a m:Nat):Nat:=keyN l a m * 64 ^ (10 - m)
theorem partW_zero (l:List UInt8) (a:Nat):partW l a 0=0:=by simp [partW,keyN]
theorem partW_ten (l:List UInt8) (a:Nat):partW l a 10=keyN l a 10:=by simp [partW]
theorem partW_lt (l:List UInt8) (a m:Nat) (h:m≤10):partW l a m<1152921504606846976:=by
 have h1:=keyN_lt l a m;have e:64 ^ m * 64 ^ (10 - m)=1152921504606846976:=by
  rw [←Nat.pow_add,show m+(10 - m)=10 by omega]
 unfold partW;rw [←e];exact Nat.mul_lt_mul_of_pos_right h1 (Nat.pow_pos (by decide))
theorem shl_dig (d m:Nat):d <<< (6 * (9 - m))=d * 64 ^ (9 - m):=by
 rw [Nat.shiftLeft_eq,show (64:Nat)=2 ^ 6 by rfl,←Nat.pow_mul]
theorem partW_succ (l:List UInt8) (a m:Nat) (h:m<10):partW l a m ||| (dig l (a+m)) <<< (6 * (9 - m))=partW l a (m+1):=by
 have hd:=dig_le l (a+m);have e:10 - m=(9 - m)+1:=by omega
 have hlt:dig l (a+m) <<< (6 * (9 - m))<2 ^ (6 * (10 - m)):=by
  rw [shl_dig,e,Nat.mul_add,Nat.pow_add,Nat.pow_mul,show (2:Nat) ^ 6=64 by rfl,Nat.mul_comm];exact Nat.mul_lt_mul_of_pos_left (by omega) (Nat.pow_pos (by decide))
 have hp:partW l a m=keyN l a m <<< (6 * (10 - m)):=by
  unfold partW;rw [Nat.shiftLeft_eq,Nat.pow_mul,show (2:Nat) ^ 6=64 by rfl]
 rw [hp,←Nat.shiftLeft_add_eq_or_of_lt hlt,shl_dig,Nat.shiftLeft_eq,Nat.pow_mul,show (2:Nat) ^ 6=64 by rfl,e,Nat.pow_succ];unfold partW;rw [keyN,show 10 - (m+1)=9 - m by omega,Nat.add_mul,Nat.mul_assoc,Nat.mul_comm 64]
theorem partW_all (l:List UInt8) (a:Nat) (m:Nat) (hm:m≤10) (h:l.length≤a+m):partW l a m=keyN l a 10:=by
 have:=keyN_end l a m h (10 - m);rw [show m+(10 - m)=10 by omega] at this;unfold partW;exact this.symm
end
end Go.Proofs.YtkcdhaallnhhmaaGreat
