/- Part 6 of the proof: IdWalks, WideP, ShComp. -/
import Derived.Shelf.SlicesE.Compact
import Derived.Test.YtkcdhaallnhhmaaGreatP03
import Derived.Test.YtkcdhaallnhhmaaGreatP05
namespace Go.Proofs.YtkcdhaallnhhmaaGreat
set_option linter.unusedSimpArgs false
set_option linter.unusedVariables false
set_option linter.unusedSectionVars false
set_option maxRecDepth 100000
set_option maxHeartbeats 16000000
section
open Go.RowKit Go.Lib
theorem code_any (c:Int) (w:World) (h0 : -2147483648≤c) (h1:c≤2147483647) :
 Calls Tryz.prog 112 #[.int .i32 c] w fun e w'=>e=.returned (.int .u64 (codeI c))∧w=w':=by
 go_enter Tryz.func112,Tryz.ntmps112
 go_wp2
 all_goals
   go_ret
   refine ⟨?_,rfl⟩
   simp_all [codeI]
   try omega
theorem mem_at (s:ByteArray) (j:Nat) (h:j<s.size):s[j]∈s.data.toList:=by
 have e:s[j]=s.data.toList[j]'(by simpa using h):=rfl;rw [e];exact List.getElem_mem _
def OkTo (s:ByteArray) (n:Nat):Prop:=∀j (h:j<s.size),j<n→okB s[j]=true
theorem okTo_list (s:ByteArray) (n:Nat) (h:s.size≤n):OkTo s n ↔ ∀b∈s.data.toList,okB b=true:=by
 constructor
 · intro hk b hb
   obtain ⟨j,hj,rfl⟩:=List.getElem_of_mem hb;have hj':j<s.size:=by simpa using hj
   exact hk j hj' (by omega)
 · intro hk j hj _
   exact hk _ (mem_at s j hj)
theorem okTo_zero (s:ByteArray):OkTo s 0:=fun _ _ h=>absurd h (by omega)
theorem okTo_succ (s:ByteArray) (n:Nat) (h:OkTo s n) (hn:n<s.size) (hb:okB s[n]=true):OkTo s (n+1):=by
 intro j hj hlt
 rcases Nat.lt_or_ge j n with h1|h1
 · exact h j hj h1
 · obtain rfl:j=n:=by omega
   exact hb
def idS (s:ByteArray):Bool:=idL s.data.toList
theorem idS_len (s:ByteArray) (h:s.size<1∨20<s.size):idS s=false:=by
 cases hb:idS s with
 | false=>rfl
 | true =>
   have:=(idL_iff _).1 hb;simp at this
   omega
theorem idS_bad (s:ByteArray) (j:Nat) (hj:j<s.size) (h:okB s[j]=false):idS s=false:=by
 cases hb:idS s with
 | false=>rfl
 | true =>
   have:=((idL_iff _).1 hb).2.2 s[j] (mem_at s j hj);rw [h] at this
   cases this
theorem idS_all (s:ByteArray) (h1:1≤s.size) (h2:s.size≤20) (h:OkTo s s.size):idS s=true :=
 (idL_iff _).2 ⟨by simpa using h1,by simpa using h2,(okTo_list s s.size (Nat.le_refl _)).1 h⟩
theorem idS_okTo (s:ByteArray) (h:idS s=true):1≤s.size∧s.size≤20∧OkTo s s.size:=by
 have:=(idL_iff _).1 h;exact ⟨by simpa using this.1,by simpa using this.2.1,(okTo_list s s.size (Nat.le_refl _)).2 this.2.2⟩
def chkV (s:ByteArray):Int:=if idS s=true then 0 else 2
theorem okB_code (b:UInt8):okB b=true→(codeI b.toNat == 0)=false:=by
 intro h;rw [codeI_cast]
 simpa [okB] using h
theorem rune_bad (s:ByteArray) (pos:Nat) (h:pos<s.size) (hb:okB s[pos]=false):(codeI (Utf8.decode s pos).1 == 0)=true:=by
 by_cases ha:(s[pos]'h).toNat<128
 · rw [decode_ascii s pos h ha]
   simp only [beq_iff_eq]
   have:codeB s[pos]=0:=by simpa [okB] using hb
   rw [codeI_cast,this];rfl
 · have:=(decode_high s pos h (by omega)).1
   simp only [beq_iff_eq]
   exact codeI_high _ (by omega)
theorem check_any (s:ByteArray) (w:World) (hm:s.size≤maxLen) :
 Calls Tryz.prog 78 #[.string s] w (jP w (.int .i64 (chkV s))):=by
 unfold maxLen at hm
 by_cases h1:s.size<1
 · have hf:chkV s=2:=by simp [chkV,idS_len s (.inl h1)]
   rw [hf];clear hf
   go_enter Tryz.func78,Tryz.ntmps78
   go_wp2
   go_ret
   exact ⟨rfl,jR⟩
 · by_cases h2:20<s.size
   · have hf:chkV s=2:=by simp [chkV,idS_len s (.inr h2)]
     rw [hf];clear hf
     go_enter Tryz.func78,Tryz.ntmps78
     go_wp2
     go_ret
     exact ⟨rfl,jR⟩
   · go_enter Tryz.func78,Tryz.ntmps78
     go_wp2
     go_loopw [4] (fun _ w'=>∃pos:Nat,pos≤s.size∧w'=w.iter s pos∧OkTo s pos) (fun _ w'=>s.size - w'.iterPos w.heap.size)
     case atStart=>exact ⟨0,Nat.zero_le _,rfl,okTo_zero s⟩
     case round =>
      obtain ⟨pos,hp0,rfl,hok⟩:=hrel
      by_cases hp:pos<s.size
      · cases hb:okB s[pos] with
        | true =>
          have ha:=okB_ascii _ hb;have hc:=okB_code _ hb;have hok':=okTo_succ s pos hok hp hb;have hnx:∀ty,(Instr.next (.pointer (some ⟨w.heap.size,0,none⟩)) true ty).run Tryz.prog (w.iter s pos)=_:=fun ty=>run_next_ascii w s pos ty hp ha
          clear hb hok
          go_wp2_with (go_at_call 112;refine (code_any _ _ (by omega) (by omega)).mono ?_;rintro e w' ⟨rfl,rfl⟩)
          go_roundw
          case rel=>exact ⟨pos+1,hp,rfl,hok'⟩
          case measure=>simp;omega
        | false =>
          have hr:=rune_bad s pos hp hb;have hle:=decode_le s pos;have hf:chkV s=2:=by simp [chkV,idS_bad s pos hp hb]
          have hnx:∀ty,(Instr.next (.pointer (some ⟨w.heap.size,0,none⟩)) true ty).run Tryz.prog (w.iter s pos)=_:=fun ty=>run_next_any w s pos ty hp
          clear hb hok;have Hf:=jH hf;clear hf
          go_wp2_with (go_at_call 112;refine (code_any _ _ (by omega) (by omega)).mono ?_;rintro e w' ⟨rfl,rfl⟩)
          go_ret
          rw [Hf.out];exact ⟨rfl,jR.alloc (Nat.le_refl _) _⟩
      · have hf:chkV s=0:=by
         obtain rfl:pos=s.size:=by omega
         simp [chkV,idS_all s (by omega) (by omega) hok]
        have Hf:=jH hf;clear hf hok;have hnx:∀ty,(Instr.next (.pointer (some ⟨w.heap.size,0,none⟩)) true ty).run Tryz.prog (w.iter s pos)=_:=fun ty=>run_next_end w s pos ty hp
        go_wp2
        go_ret
        rw [Hf.out];exact ⟨rfl,jR.alloc (Nat.le_refl _) _⟩
end
section
open Go.RowKit Go.Lib
def twoV (n:Nat):Value:=.agg #[.int .u64 ((n / 18446744073709551616:Nat):Int),.int .u64 ((n % 18446744073709551616:Nat):Int)]
theorem or_fresh {x k:Nat} (h:2 ^ (k+1) ∣ x):x ||| 2 ^ k=x+2 ^ k:=by
 obtain ⟨a,rfl⟩:=h;exact (Nat.two_pow_add_eq_or_of_lt (Nat.pow_lt_pow_right (by decide) (by omega)) a).symm
def xD (n i:Nat):Nat:=n * 2 ^ i % 340282366920938463463374607431768211456
def aD (n i:Nat):Nat:=n / 2 ^ (128 - i)
def rD (n d i:Nat):Nat:=aD n i % d
def qD (n d i:Nat):Nat:=aD n i / d * 2 ^ (128 - i)
def bD (n i:Nat):Nat:=(n.testBit (127 - i)).toNat
theorem bD_le (n i:Nat):bD n i≤1:=by unfold bD;cases n.testBit (127 - i) <;> simp
theorem aD_succ {n i:Nat} (hi:i<128):aD n (i+1)=2 * aD n i+bD n i:=by
 unfold aD bD;have h:=top_bit n (127 - i);rw [show 127 - i+1=128 - i by omega] at h;rw [show 128 - (i+1)=127 - i by omega];exact h
theorem pow128:(340282366920938463463374607431768211456:Nat)=2 ^ 128:=by decide
theorem xD_bit {n i:Nat} (hi:i<128):xD n i / 170141183460469231731687303715884105728=bD n i:=by
 unfold xD bD;rw [bit_nat];have e:(170141183460469231731687303715884105728:Nat)=2 ^ i * 2 ^ (127 - i):=by rw [←Nat.pow_add,show i+(127 - i)=127 by omega]
 have e2:(340282366920938463463374607431768211456:Nat)=170141183460469231731687303715884105728 * 2:=by decide
 rw [e2,Nat.mod_mul_right_div_self,e,←Nat.div_div_eq_div_mul,Nat.mul_div_cancel _ (Nat.two_pow_pos i)]
theorem xD_succ (n i:Nat):xD n (i+1)=2 * xD n i % 340282366920938463463374607431768211456:=by
 unfold xD;rw [Nat.pow_succ,←Nat.mul_assoc];generalize n * 2 ^ i=y;omega
theorem xD_lt (n i:Nat):xD n i<340282366920938463463374607431768211456:=Nat.mod_lt _ (by decide)
theorem rD_lt {n d i:Nat} (hd:0<d):rD n d i<d:=Nat.mod_lt _ hd
theorem div_low {n d i:Nat} (hi:i<128) (hd:0<d) (h:2 * rD n d i+bD n i<d):rD n d (i+1)=2 * rD n d i+bD n i∧qD n d (i+1)=qD n d i:=by
 unfold rD qD at *;rw [aD_succ hi];have hm:=Nat.div_add_mod (aD n i) d;generalize aD n i / d=k at *;generalize aD n i % d=r at *;have e:2 * aD n i+bD n i=d * (2 * k)+(2 * r+bD n i):=by rw [←hm,Nat.mul_left_comm];omega
 rw [e,Nat.mul_add_mod,Nat.mod_eq_of_lt h,Nat.mul_add_div hd,Nat.div_eq_of_lt h];refine ⟨rfl,?_⟩;rw [show 128 - i=128 - (i+1)+1 by omega,Nat.pow_succ,Nat.add_zero,Nat.mul_comm 2 k,Nat.mul_assoc,Nat.mul_comm 2]
theorem div_high {n d i:Nat} (hi:i<128) (hd:0<d) (h:d≤2 * rD n d i+bD n i):rD n d (i+1)=2 * rD n d i+bD n i - d∧qD n d (i+1)=qD n d i+2 ^ (127 - i):=by
 have hr:=rD_lt (n:=n) (i:=i) hd;have hb:=bD_le n i;unfold rD qD at *;rw [aD_succ hi];have hm:=Nat.div_add_mod (aD n i) d;generalize aD n i / d=k at *;generalize aD n i % d=r at *;have e:2 * aD n i+bD n i=d * (2 * k+1)+(2 * r+bD n i - d):=by
  have e1:d * (2 * k+1)=2 * (d * k)+d:=by rw [Nat.mul_add,Nat.mul_one,Nat.mul_left_comm]
  rw [←hm,e1];omega
 have hlt:2 * r+bD n i - d<d:=by omega
 rw [e,Nat.mul_add_mod,Nat.mod_eq_of_lt hlt,Nat.mul_add_div hd,Nat.div_eq_of_lt hlt];refine ⟨rfl,?_⟩;rw [show 128 - i=128 - (i+1)+1 by omega,Nat.pow_succ,Nat.add_zero,Nat.add_mul,Nat.one_mul,show 128 - (i+1)=127 - i by omega,Nat.mul_comm 2 k,Nat.mul_assoc,Nat.mul_comm 2]
theorem qD_dvd (n d i:Nat):2 ^ (128 - i) ∣ qD n d i:=Nat.dvd_mul_left _ _
theorem qD_zero {n d:Nat} (hn:n<340282366920938463463374607431768211456):qD n d 0=0∧rD n d 0=0∧xD n 0=n:=by
 have h:n / 340282366920938463463374607431768211456=0:=Nat.div_eq_of_lt hn;refine ⟨?_,?_,?_⟩
 · unfold qD aD;rw [Nat.sub_zero,←pow128,h,Nat.zero_div,Nat.zero_mul]
 · unfold rD aD;rw [Nat.sub_zero,←pow128,h,Nat.zero_mod]
 · unfold xD;rw [Nat.pow_zero,Nat.mul_one,Nat.mod_eq_of_lt hn]
theorem qD_end (n d:Nat):qD n d 128=n / d∧rD n d 128=n % d:=by
 unfold qD rD aD;simp
theorem qD_lt {n d i:Nat} (hn:n<340282366920938463463374607431768211456) (hi:i≤128):qD n d i<340282366920938463463374607431768211456:=by
 unfold qD aD;have h1:=Nat.div_le_self (n / 2 ^ (128 - i)) d;have h2:=Nat.mul_le_mul_right (2 ^ (128 - i)) h1;have h3:=Nat.div_mul_le_self n (2 ^ (128 - i));omega
theorem q_hi {n d i:Nat} (hi:i<64) (hn:n<340282366920938463463374607431768211456) :
 (qD n d i+2 ^ (127 - i)) / 18446744073709551616=(qD n d i / 18446744073709551616 ||| 2 ^ (63 - i))∧(qD n d i+2 ^ (127 - i)) % 18446744073709551616=qD n d i % 18446744073709551616:=by
 obtain ⟨m,hm⟩:=qD_dvd n d i;have e1:2 ^ (127 - i)=18446744073709551616 * 2 ^ (63 - i):=by
  rw [show 127 - i=64+(63 - i) by omega,Nat.pow_add]
 have e2:2 ^ (128 - i)=18446744073709551616 * 2 ^ (63 - i+1):=by
  rw [show 128 - i=64+(63 - i+1) by omega,Nat.pow_add]
 have e3:qD n d i / 18446744073709551616=2 ^ (63 - i+1) * m:=by
  rw [hm,e2,Nat.mul_assoc,Nat.mul_div_cancel_left _ (by decide)]
 constructor
 · rw [e3,or_fresh (Nat.dvd_mul_right _ _),hm,e1,e2,Nat.mul_assoc,←Nat.mul_add,Nat.mul_div_cancel_left _ (by decide)]
 · rw [e1,Nat.add_mul_mod_self_left]
theorem q_lo {n d i:Nat} (h64:64≤i) (hi:i<128) :
 (qD n d i+2 ^ (127 - i)) / 18446744073709551616=qD n d i / 18446744073709551616∧(qD n d i+2 ^ (127 - i)) % 18446744073709551616=(qD n d i % 18446744073709551616 ||| 2 ^ (127 - i)):=by
 have hd:2 ^ (128 - i) ∣ qD n d i % 18446744073709551616:=by
  rw [Nat.dvd_mod_iff]
  · exact qD_dvd n d i
  · rw [show (18446744073709551616:Nat)=2 ^ 64 by decide]
    exact Nat.pow_dvd_pow 2 (by omega)
 have ho:(qD n d i % 18446744073709551616 ||| 2 ^ (127 - i))=qD n d i % 18446744073709551616+2 ^ (127 - i):=or_fresh (by rw [show 127 - i+1=128 - i by omega];exact hd);have hlt:qD n d i % 18446744073709551616+2 ^ (127 - i)<18446744073709551616:=by
  obtain ⟨m,hm⟩:=hd;have hx:=Nat.mod_lt (qD n d i) (show 0<18446744073709551616 by decide);have e:18446744073709551616=2 ^ (128 - i) * 2 ^ (i - 64):=by rw [←Nat.pow_add,show 128 - i+(i - 64)=64 by omega]
  have e1:2 ^ (128 - i)=2 * 2 ^ (127 - i):=by rw [show 128 - i=127 - i+1 by omega,Nat.pow_succ,Nat.mul_comm]
  have hp:=Nat.two_pow_pos (127 - i);rw [hm] at hx ⊢;have hm2:m<2 ^ (i - 64):=by
   rw [e] at hx;exact Nat.lt_of_mul_lt_mul_left hx
  have hm3:2 ^ (128 - i) * (m+1)≤2 ^ (128 - i) * 2 ^ (i - 64):=Nat.mul_le_mul_left _ hm2;rw [Nat.mul_add,Nat.mul_one,←e] at hm3;omega
 rw [ho];generalize qD n d i=q at *;generalize 2 ^ (127 - i)=p at *;omega
theorem dbl_words (x:Nat) (hx:x<340282366920938463463374607431768211456) :
 (2 * x % 340282366920938463463374607431768211456) / 18446744073709551616=2 * (x / 18446744073709551616) % 18446744073709551616+x % 18446744073709551616 / 9223372036854775808 ∧
 (2 * x % 340282366920938463463374607431768211456) % 18446744073709551616=2 * (x % 18446744073709551616) % 18446744073709551616∧x / 18446744073709551616 / 9223372036854775808=x / 170141183460469231731687303715884105728:=by
 omega
end
section
open Go.Shelf
def compactM_ren:Go.Shelf.Ren:=⟨fun|43=>53|n=>n,fun|22=>37|23=>9|3=>3|4=>4|0=>0|n=>n,fun|n=>n⟩
theorem compactM:Go.Proofs.SlLaysE.n43 Tryz.prog compactM_ren:={
  mixed:=by kernel_rfl
  f43:=⟨Tryz.f53.name,by decide,Tryz.func53.trans (congrArg some (by kernel_rfl))⟩
  t0:=Tryz.underlying0
  a0:=Tryz.isAgg0
  z0:=Tryz.sizeOf0
  v0:=Tryz.zeroValue0
  t3:=Tryz.underlying3
  a3:=Tryz.isAgg3
  z3:=Tryz.sizeOf3
  v3:=Tryz.zeroValue3
  t4:=Tryz.underlying4
  a4:=Tryz.isAgg4
  z4:=Tryz.sizeOf4
  v4:=Tryz.zeroValue4
  t22:=Tryz.underlying37
  a22:=Tryz.isAgg37
  z22:=Tryz.sizeOf37
  v22:=Tryz.zeroValue37
  a23:=Tryz.isAgg9
  z23:=Tryz.sizeOf9 }
end
end Go.Proofs.YtkcdhaallnhhmaaGreat
