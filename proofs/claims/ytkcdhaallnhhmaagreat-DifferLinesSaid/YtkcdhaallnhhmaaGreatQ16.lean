/- Part 16 of the proof: R12, Win, Stor, RefHome, Big, NumB, DfR17. -/
import Derived.Deep.MidRow
import Derived.Deep.WholeRow
import Derived.Great.BuildSlice
import Derived.Deep.DeepCutAuto
import Derived.Test.YtkcdhaallnhhmaaGreatQ12
import Derived.Test.YtkcdhaallnhhmaaGreatQ15
namespace Go.Proofs.YtkcdhaallnhhmaaGreat
set_option linter.unusedSimpArgs false
set_option linter.unusedVariables false
set_option linter.unusedSectionVars false
set_option maxRecDepth 100000
set_option maxHeartbeats 16000000
section
open Go.RowKit Go.Lib
theorem r12right_any (p:Pol) (w:World) :
 Calls Tryz.prog 125 #[polV p] w (jP w (.bool (polB p))):=by
 unfold polV
 by_cases h0:p.mn<0
 · have HB:Hid (polB p=false):=jH (by simp [polB];omega)
   rw [HB.out]
   go_enter Tryz.func125,Tryz.ntmps125
   go_wp2
   go_ret
   exact ⟨rfl,balloc jR _⟩
 · have h0':¬p.mn<0:=h0
   by_cases h1:p.mx<1
   · have HB:Hid (polB p=false):=jH (by simp [polB];omega)
     rw [HB.out]
     go_enter Tryz.func125,Tryz.ntmps125
     go_wp2
     go_ret
     exact ⟨rfl,balloc jR _⟩
   · have h1':¬p.mx<1:=h1
     by_cases h2:1073741824<p.mx
     · have HB:Hid (polB p=false):=jH (by simp [polB];omega)
       rw [HB.out]
       go_enter Tryz.func125,Tryz.ntmps125
       go_wp2
       go_ret
       exact ⟨rfl,balloc jR _⟩
     · have h2':¬1073741824<p.mx:=h2
       by_cases h3:p.mx<p.mn
       · have HB:Hid (polB p=false):=jH (by simp [polB];omega)
         rw [HB.out]
         go_enter Tryz.func125,Tryz.ntmps125
         go_wp2
         go_ret
         exact ⟨rfl,balloc jR _⟩
       · have h3':¬p.mx<p.mn:=h3
         by_cases h4:1≤p.tg
         case neg =>
          have HB:Hid (polB p=false):=jH (by simp [polB];omega);rw [HB.out]
          go_enter Tryz.func125,Tryz.ntmps125
          go_wp2
          go_ret
          exact ⟨rfl,balloc jR _⟩
         by_cases h5:0≤p.tol
         case neg =>
          have HB:Hid (polB p=false):=jH (by simp [polB];omega);rw [HB.out]
          go_enter Tryz.func125,Tryz.ntmps125
          go_wp2
          go_ret
          exact ⟨rfl,balloc jR _⟩
         by_cases h6:p.tol≤999
         case neg =>
          have HB:Hid (polB p=false):=jH (by simp [polB];omega);rw [HB.out]
          go_enter Tryz.func125,Tryz.ntmps125
          go_wp2
          go_ret
          exact ⟨rfl,balloc jR _⟩
         by_cases h7:1≤p.win
         case neg =>
          have HB:Hid (polB p=false):=jH (by simp [polB];omega);rw [HB.out]
          go_enter Tryz.func125,Tryz.ntmps125
          go_wp2
          go_ret
          exact ⟨rfl,balloc jR _⟩
         by_cases h8:0≤p.hold
         case neg =>
          have HB:Hid (polB p=false):=jH (by simp [polB];omega);rw [HB.out]
          go_enter Tryz.func125,Tryz.ntmps125
          go_wp2
          go_ret
          exact ⟨rfl,balloc jR _⟩
         have HB:Hid (polB p=true):=jH (by simp [polB];omega);rw [HB.out]
         go_enter Tryz.func125,Tryz.ntmps125
         go_wp2
         go_ret
         exact ⟨rfl,balloc jR _⟩
end
section
open Go.RowKit Go.Lib
theorem eNm:EltOf 135 2 1 8 (.int .i64 0) nmC :=
 ⟨by kernel_rfl,by kernel_rfl,rfl,by decide,by decide,fun _=>rfl,fun x u hu=>by
  simp only [nmC,List.mem_cons,List.not_mem_nil,or_false] at hu
  rcases hu with rfl
  rfl⟩
theorem satSub_any (a b:Int) (w:World) (ha:I64 a) (hb:I64 b) :
 Calls Tryz.prog 203 #[.int .i64 a,.int .i64 b] w fun e w'=>e=.returned (.int .i64 (endsI (a - b)))∧w=w':=by
 by_cases h:b = -9223372036854775808
 · subst h
   obtain ⟨s,hs⟩:∃s,s=endsI (a+9223372036854775807):=⟨_,rfl⟩;obtain ⟨t,ht⟩:∃t:Int,t=if decide (a<0)=true then 1 else 0:=⟨_,rfl⟩;have HE:=jH (show endsI (s+t)=endsI (a - -9223372036854775808) by rw [hs,ht];exact sub_end ha _ rfl);have HT:=jH ht;have HS:=jH (show I64 s by rw [hs];exact endsI_i64 _);have HS2:=jH hs;have HA:=jH ha;have HTI:=jH (show I64 t by rw [ht];unfold I64;split <;> omega);clear hs ht ha hb
   go_enter Tryz.func203,Tryz.ntmps203
   go_wp2_with (first
    | (go_at_call 228
       refine (satBit_any _ _).mono ?_;rw [←HT.out];rintro e w1 ⟨rfl,rfl⟩;have HB:=jH True.intro)
    | (go_at_call 202
       have h9:=HB;refine (satAdd_any s t _ HS.out HTI.out).mono ?_;rw [HE.out];rintro e w1 ⟨rfl,rfl⟩;clear h9)
    | (go_at_call 202
       refine (satAdd_any a 9223372036854775807 _ HA.out (by unfold I64;omega)).mono ?_;rw [←HS2.out];rintro e w1 ⟨rfl,rfl⟩))
   go_ret
   exact ⟨rfl,rfl⟩
 · have HE:=jH (show endsI (a+IntKind.i64.wrap (-b))=endsI (a - b) from sub_ends ha hb h)
   have hn:I64 (-b):=by unfold I64 at *;omega
   have q1:wrap64 (-b) = -b:=by unfold I64 at hn;unfold wrap64;omega
   have q2:IntKind.i64.wrap (-b) = -b:=by unfold I64 at hn;rw [IntKind.wrap_i64];omega
   rw [q2] at HE;have HA:=jH ha;have HN:=jH hn;have q3:(b == -9223372036854775808)=false:=by simpa using h
   clear ha hb hn
   go_enter Tryz.func203,Tryz.ntmps203
   go_wp2_with (first
    | (go_at_call 202
       refine (satAdd_any a (-b) _ HA.out HN.out).mono ?_;rw [HE.out];rintro e w1 ⟨rfl,rfl⟩))
   go_ret
   exact ⟨rfl,rfl⟩
theorem winFrom_any (a b:Int) (w:World) (ha:I64 a) (hb:I64 b) :
 Calls Tryz.prog 169 #[.int .i64 a,.int .i64 b] w fun e w'=>e=.returned (.int .i64 (fromW a b))∧w=w':=by
 have C1:=jH (satSub_any a b w ha hb);have C2:=jH (satAdd_any (endsI (a - b)) 1 w (endsI_i64 _) (by unfold I64;omega));unfold fromW;generalize endsI (a - b)=s at C1 C2 ⊢;generalize endsI (s+1)=t at C2 ⊢;clear ha hb
 go_enter Tryz.func169,Tryz.ntmps169
 go_wp2_with (first
  | (go_at_call 203
     refine C1.out.mono ?_;rintro e w1 ⟨rfl,rfl⟩)
  | (go_at_call 202
     refine C2.out.mono ?_;rintro e w1 ⟨rfl,rfl⟩))
 go_ret
 exact ⟨rfl,rfl⟩
theorem satSum_any (v:Value) (l:List Int) (w:World) (hv:RowIn 1 nmC w v l) (hl:l.length≤1000000) (hi:∀n∈l,I64 n) :
 Calls Tryz.prog 198 #[v] w fun e w'=>e=.returned (.int .i64 (sumE l 0))∧w=w':=by
 obtain ⟨A,c,rfl⟩:=hv.form;have HV:=jH hv;have HI:=jH hi;have hl9:l.length≤9223372036854775807:=by omega
 clear hv hi
 go_enter Tryz.func198,Tryz.ntmps198
 go_wp2
 go_loopg [3,8] l.length (fun g s3 s8 wr=>∃k:Nat,k≤l.length∧l.length - k≤g∧s8=.int .i64 k∧s3=.int .i64 (sumE (l.take k) 0)∧w=wr)
 case atStart=>exact ⟨0,Nat.zero_le _,Nat.le_refl _,rfl,by simp [sumE],rfl⟩
 case round =>
  obtain ⟨k,hk,hg,rfl,rfl,rfl⟩:=hrel
  by_cases hlt:k<l.length
  · obtain ⟨b1,o1,rfl,hb1,hc⟩:=HV.out.at_ hlt
    have z1:(0:Int)≤(k:Int):=by omega
    have z2:(k:Int)<(l.length:Int):=by omega
    have HS:=jH (show sumE (l.take (k+1)) 0=endsI (sumE (l.take k) 0+l[k]) by rw [List.take_succ_eq_append_getElem hlt,sumE_snoc]);have d0:=hc 0 _ rfl;rw [Nat.add_zero,Nat.mul_one] at d0;have HN:=jH (satAdd_any (sumE (l.take k) 0) l[k] w (sumE_i64 _ _ i64_0) (HI.out _ (List.getElem_mem hlt)));rw [←HS.out] at HN;generalize sumE (l.take k) 0=s at HN ⊢;generalize l[k]=x at HN d0;clear hc HS
    go_wp2_with (first
     | (go_at_call 202
        refine HN.out.mono ?_;rintro e w1 ⟨rfl,rfl⟩))
    go_roundg (l.length - (k+1))
    case measure=>omega
    case rel=>exact ⟨k+1,hlt,Nat.le_refl _,by go_num,rfl,rfl⟩
  · obtain rfl:k=l.length:=by omega
    rw [List.take_length];go_wp2
    go_ret
    exact ⟨rfl,rfl⟩
end
section
open Go.RowKit Go.Lib
def stor (w:World) (B i:Nat):List Value→World
  | []=>w
  | v::vs=>stor (w.setCell ⟨B,i,none⟩ v) B (i+1) vs
theorem stor_one {w:World} {B i:Nat} {cs:Array Value} {T:TypeId} {fr:Nat × Nat} {v:Value} (h:w.heap[B]?=some (.cells cs T fr)):(w.setCell ⟨B,i,none⟩ v).heap[B]?=some (.cells (cs.setIfInBounds i v) T fr):=by
 obtain ⟨hlt,hk⟩:=Array.getElem?_eq_some_iff.1 h
 show (w.heap.modify B _)[B]?=_
 rw [Array.getElem?_eq_getElem (by rw [Array.size_modify];exact hlt),Array.getElem_modify_self,hk];simp
theorem stor_other {w:World} {B i k:Nat} {v:Value} (h:k≠B):(w.setCell ⟨B,i,none⟩ v).heap[k]?=w.heap[k]?:=by
 show (w.heap.modify B _)[k]?=_
 by_cases hk:k<w.heap.size
 · rw [Array.getElem?_eq_getElem (by rw [Array.size_modify];exact hk),Array.getElem_modify_of_ne (Ne.symm h),Array.getElem?_eq_getElem hk]
 · rw [Array.getElem?_eq_none (by rw [Array.size_modify];omega),Array.getElem?_eq_none (by omega)]
theorem stor_all:∀(vs:List Value) (w:World) (B i:Nat) (cs:Array Value) (T:TypeId),w.heap[B]?=some (.cells cs T (0,0))→cs.size=i+vs.length →
    (stor w B i vs).heap[B]?=some (.cells ((cs.toList.take i++vs).toArray) T (0,0))∧(∀k,k≠B→(stor w B i vs).heap[k]?=w.heap[k]?)∧(stor w B i vs).heap.size=w.heap.size∧∀n,n≤B→Below n w (stor w B i vs):=by
  intro vs
  induction vs with
  | nil =>
    intro w B i cs T h hn;refine ⟨?_,fun _ _=>rfl,rfl,fun n _=>jR⟩;simp only [List.length_nil,Nat.add_zero] at hn
    rw [stor,h,List.append_nil,List.take_of_length_le (by simp;omega)]
  | cons v vs ih =>
    intro w B i cs T h hn;simp only [List.length_cons] at hn
    have h1:=stor_one (i:=i) (v:=v) h;obtain ⟨a1,a2,a3,a4⟩:=ih (w.setCell ⟨B,i,none⟩ v) B (i+1) _ T h1 (by simp;omega);refine ⟨?_,fun k hk=>(a2 k hk).trans (stor_other hk),a3.trans (by simp [World.setCell]),fun n hn=>(jR.setCell hn _).trans (a4 n hn)⟩;rw [stor,a1]
    congr 3
    rw [Array.toList_setIfInBounds,List.take_add_one,List.take_set_of_le (Nat.le_refl _)];rw [List.getElem?_set_self (by simp;omega)];simp
theorem stor_at {w:World} {B:Nat} {cs:Array Value} {T:TypeId} (h:w.heap[B]?=some (.cells cs T (0,0))) (vs:List Value) (hn:cs.size=vs.length):∀W,W=stor w B 0 vs →
    W.heap[B]?=some (.cells vs.toArray T (0,0))∧(∀k,k≠B→W.heap[k]?=w.heap[k]?)∧W.heap.size=w.heap.size∧∀n,n≤B→Below n w W:=by
  rintro W rfl;have:=stor_all vs w B 0 cs T h (by omega)
  simpa using this
end
section
open Go.RowKit Go.Lib
theorem foldN_xor (h m:Nat) (h1:1≤m) (h2:m≤32):foldN h m=(h % 2 ^ m) ^^^ (h / 2 ^ m % 2 ^ m):=by
 rw [foldN,if_neg (by omega),Nat.xor_mod_two_pow]
theorem refFold_any (h m:Nat) (w:World) (hh:h<18446744073709551616) (hm:m≤6) :
 Calls Tryz.prog 179 #[.int .u64 h,.int .i64 m] w fun e w'=>e=.returned (.int .u64 (foldN h m:Nat))∧w=w':=by
 by_cases h0:m<1
 · obtain rfl:m=0:=by omega
   have hv:foldN h 0=0:=by simp [foldN]
   rw [hv];clear hv
   go_enter Tryz.func179,Tryz.ntmps179
   go_wp2
   go_ret
   exact ⟨rfl,rfl⟩
 · have hfin:=jH (foldN_xor h m (by omega) (by omega))
   have q0:(1:Int)≤(m:Int):=by omega
   go_enter Tryz.func179,Tryz.ntmps179
   go_wp2
   go_loop [5,6] (fun d i=>∃k:Nat,k≤m∧i=.int .i64 k∧d=.int .u64 (2 ^ k:Nat)) (fun _ i=>m - (intOf i).toNat)
   case atStart=>exact ⟨0,by omega,rfl,rfl⟩
   case round =>
    obtain ⟨k,hk,rfl,rfl⟩:=hrel;have hp:2 ^ k≤2 ^ 6:=Nat.pow_le_pow_right (by decide) (by omega);have hp1:1≤2 ^ k:=Nat.pow_pos (by decide)
    by_cases hlt:k<m
    · have s4:=jH (Nat.pow_succ 2 k)
      generalize hN:2 ^ k=N at *;clear hN;go_wp2
      go_round
      case rel=>exact ⟨k+1,hlt,by go_num,by rw [s4.out];simp⟩
      case measure=>simp [intOf];omega
    · obtain rfl:k=m:=by omega
      have hA:h % 2 ^ k<2 ^ k:=Nat.mod_lt _ hp1;have hB:h / 2 ^ k % 2 ^ k<2 ^ k:=Nat.mod_lt _ hp1;have hAi:(h:Int) % ((2 ^ k:Nat):Int)=((h % 2 ^ k:Nat):Int):=by simp
      have hBi:(h:Int) / ((2 ^ k:Nat):Int) % ((2 ^ k:Nat):Int)=((h / 2 ^ k % 2 ^ k:Nat):Int):=by simp
      have hd:h / 2 ^ k≤h:=Nat.div_le_self _ _;have hDi:(h:Int) / ((2 ^ k:Nat):Int)=((h / 2 ^ k:Nat):Int):=by simp
      have hb1:0≤(h:Int) / ((2 ^ k:Nat):Int):=by rw [hDi];exact Int.natCast_nonneg _
      have hb2:(h:Int) / ((2 ^ k:Nat):Int)≤18446744073709551615:=by rw [hDi];omega
      have HAi:=jH hAi;have HBi:=jH hBi;clear hAi hBi hDi hd;generalize hx:h % 2 ^ k=A at *;generalize hy:h / 2 ^ k % 2 ^ k=B at *;have Hp:Hid (∀j,j≤k→2 ^ j≤2 ^ 6):=jH (fun j hj=>Nat.pow_le_pow_right (by decide) (by omega));have HA:Hid (A<2 ^ k∧B<2 ^ k):=jH ⟨hA,hB⟩;clear hx hy;generalize hN:2 ^ k=N at HAi HBi hb1 hb2 hp hp1 hA hB ⊢;have HN:=jH hN;clear hN;go_wp2
      rw [HAi.out,HBi.out];have hk6:(k:Int)≤6:=by omega
      clear hb1 hb2 hlt hk
      go_loop [7,8,9,10,11] (fun x y o n i=>∃j:Nat,j≤k∧i=.int .i64 j∧x=.int .u64 (A / 2 ^ j:Nat)∧y=.int .u64 (B / 2 ^ j:Nat)∧o=.int .u64 ((A ^^^ B) % 2 ^ j:Nat)∧n=.int .u64 (2 ^ j:Nat)) (fun _ _ _ _ i=>k - (intOf i).toNat)
      case atStart=>exact ⟨0,by omega,rfl,by simp,by simp,by simp [Nat.mod_one],rfl⟩
      case round =>
       obtain ⟨j,hj,rfl,rfl,rfl,rfl,rfl⟩:=hrel
       by_cases hlt2:j<k
       · have hp:=Hp.out j hj
         have hx:(A ^^^ B) % 2 ^ j<2 ^ j:=Nat.mod_lt _ (Nat.pow_pos (by decide));have ha2:A / 2 ^ j≤A:=Nat.div_le_self _ _;have hb2:B / 2 ^ j≤B:=Nat.div_le_self _ _;have s1:=jH (xor_step A B j);have s4:=jH (Nat.pow_succ 2 j)
         by_cases he:A / 2 ^ j % 2=B / 2 ^ j % 2
         · have s2:=jH (half_step A j)
           have s3:=jH (half_step B j);have He:=jH he;clear he;generalize hA':A / 2 ^ j=A' at *;generalize hB':B / 2 ^ j=B' at *;generalize hX':(A ^^^ B) % 2 ^ j=X at *;generalize hM':2 ^ j=M at *;clear hA' hB' hX' hM';have hq:((A':Int) % 2 != (B':Int) % 2)=false:=by have:=He.out;simp;omega
           go_wp2
           go_round
           case rel=>exact ⟨j+1,hlt2,by go_num,by rw [←s2.out];simp,by rw [←s3.out];simp,by rw [s1.out,if_pos He.out];simp,by rw [s4.out];simp⟩
           case measure=>simp [intOf];omega
         · have s2:=jH (half_step A j)
           have s3:=jH (half_step B j);have He:=jH he;clear he;generalize hA':A / 2 ^ j=A' at *;generalize hB':B / 2 ^ j=B' at *;generalize hX':(A ^^^ B) % 2 ^ j=X at *;generalize hM':2 ^ j=M at *;clear hA' hB' hX' hM';have hq:((A':Int) % 2 != (B':Int) % 2)=true:=by have:=He.out;simp;omega
           go_wp2
           go_round
           case rel=>exact ⟨j+1,hlt2,by go_num,by rw [←s2.out];simp,by rw [←s3.out];simp,by rw [s1.out,if_neg He.out];simp,by rw [s4.out];simp⟩
           case measure=>simp [intOf];omega
       · obtain rfl:j=k:=by omega
         go_wp2
         go_ret
         refine ⟨ret_int ?_,rfl⟩;rw [hfin.out];have hv:A ^^^ B<2 ^ j:=Nat.xor_lt_two_pow HA.out.1 HA.out.2;have hv2:(A ^^^ B) % 2 ^ j=A ^^^ B:=Nat.mod_eq_of_lt hv;rw [show ((A ^^^ B:Nat):Int) % 2 ^ j=(((A ^^^ B) % 2 ^ j:Nat):Int) by simp,hv2]
theorem refOf_any (hi lo:Nat) (n:Int) (w:World) (h1:hi<18446744073709551616) (h2:lo<18446744073709551616) :
 Calls Tryz.prog 136 #[keyV hi lo,.int .i64 n] w (jP w (.int .i64 (routeI hi lo n))):=by
 cases hr:okSt n with
 | false =>
   have hv:routeI hi lo n = -1:=by simp [routeI,hr]
   have hb:(bitsI n<0):=by
    have:=bitsI_ok n;rw [hr] at this
    simpa using this
   rw [hv];clear hr hv;unfold keyV
   go_enter Tryz.func136,Tryz.ntmps136
   go_wp2_with (go_at_call 42;refine (ref05Bits_any n _).mono ?_;rintro e w' ⟨rfl,rfl⟩)
   go_ret
   exact ⟨rfl,balloc jR _⟩
 | true =>
   have hb:=bitsI_bd n hr;obtain ⟨m,hm⟩:=Int.eq_ofNat_of_zero_le hb.1;have hv:routeI hi lo n=(foldN (fnvKey hi lo) m:Nat):=by simp [routeI,hr,hm]
   have hf:=foldN_lt (fnvKey hi lo) m;have hk:=fnvKey_lt hi lo;have hm6:m≤6:=by omega
   rw [hv];have Hm:=jH hm;clear hr hv hm hb;unfold keyV
   go_enter Tryz.func136,Tryz.ntmps136
   go_wp2_with (first
    | (go_at_call 42;refine (ref05Bits_any n _).mono ?_;rw [Hm.out];rintro e w' ⟨rfl,rfl⟩)
    | (go_at_call 180;refine (refFnvKey_any hi lo _ h1 h2).mono ?_;rintro e w1 ⟨rfl,hb1⟩)
    | (go_at_call 179;refine (refFold_any _ m _ hk hm6).mono ?_;rintro e w' ⟨rfl,rfl⟩))
   go_ret
   exact ⟨rfl,bthen (balloc jR _) hb1⟩
end
section
open Go.RowKit Go.Lib
section
variable {P:Program}
theorem wpList_load_list {ops:Array Oper} {rest:List Oper} {op:Oper} {a:Act} {w:World} {Q:Exit→Act→World→Prop} (hgd:op.guard=none) (ty:TypeId) (x:Operand) (ho:op.op=.load ty x)
    (b o:Nat) (cs:List Value) (hc:∀j v,cs[j]?=some v→w.cell? ⟨b,o+j,none⟩=some v) (hx:a.eval x=.pointer (some ⟨b,o,none⟩)) (d:TypeDesc)
    (hu:P.underlying ty=some d) (hd:d.isRow=true) (hi:(P.info? ty).map (·.size)=some cs.length)
    (h:wpList P ops Q rest (a.put op.dst (.agg cs.toArray)) w):wpList P ops Q (op::rest) a w :=
  wpList_load_mid hgd ty x ho b o hx cs d hc hu hd hi h
end
end
section
open Go.RowKit Go.Lib
theorem zero_bits:Tryz.zeroCells280=(bitsL fun _=>false).toArray:=by kernel_rfl
theorem num_size (f:Nat→Bool):(Tryz.prog.info? 280).map (·.size)=some (bitsL f).length:=by rw [bitsL_len];kernel_rfl
theorem num_sizeA (f:Nat→Bool):(Tryz.prog.info? 280).map (·.size)=some (bitsL f).toArray.size:=by rw [List.size_toArray,bitsL_len];kernel_rfl
theorem bits_one (f:Nat→Bool):(bitsL f).toArray.all (·.oneCell')=true:=all_oneCell_toArray (fun v hv=>by
 obtain ⟨j,_,rfl⟩:=List.mem_map.1 hv;rfl)
def BitB (w:World) (B:Nat) (f:Nat→Bool):Prop:=w.heap[B]?=some (.cells (bitsL f).toArray 280 (0,0))
theorem BitB.cell {w:World} {B:Nat} {f:Nat→Bool} (h:BitB w B f) {i:Nat} (hi:i<128):w.cell? ⟨B,i,none⟩=some (.bool (f i))∧w.frozen? ⟨B,i,none⟩=false:=by
 obtain ⟨h1,h2,_⟩:=box_cells (Below.refl w.heap.size w) h;refine ⟨?_,h2 i⟩;rw [h1 i]
 simpa using bitsL_get f i hi
theorem BitB.range {w:World} {B:Nat} {f:Nat→Bool} (h:BitB w B f):∀j v,(bitsL f)[j]?=some v→w.cell? ⟨B,0+j,none⟩=some v:=fun j v hj=>by
 obtain ⟨h1,_,_⟩:=box_cells (Below.refl w.heap.size w) h;rw [Nat.zero_add,h1 j]
 simpa using hj
theorem BitB.set {w:World} {B:Nat} {f:Nat→Bool} (h:BitB w B f) {i:Nat} (hi:i<128) (b:Bool):BitB (w.setCell ⟨B,i,none⟩ (.bool b)) B (updB f i b):=by
 have:=setCell_block (i:=i) (v:=.bool b) h;unfold BitB;rw [this,List.setIfInBounds_toArray,bitsL_set f i b hi]
theorem BitB.ne {w:World} {B C i:Nat} {v:Value} {f:Nat→Bool} (h:BitB w B f) (hn:B≠C):BitB (w.setCell ⟨C,i,none⟩ v) B f:=heap_set_ne h hn
theorem BitB.below {w w':World} {B:Nat} {f:Nat→Bool} (h:BitB w B f) (hb:jB w w'):BitB w' B f:=jK hb h
theorem BitB.there {w:World} {B:Nat} {f:Nat→Bool} (h:BitB w B f) (g:Nat→Bool):w.there B 0 (bitsL g).toArray.size:=fun j hj=>by
 rw [List.size_toArray,bitsL_len] at hj;obtain ⟨h1,h2⟩:=h.cell hj;rw [Nat.zero_add];exact ⟨by rw [h1];rfl,h2⟩
theorem setCells_stor:∀(vs:List Value) (w:World) (B i:Nat),w.setCells B i vs=stor w B i vs
  | [],w,B,i=>rfl
  | v::vs,w,B,i=>setCells_stor vs _ B (i+1)
theorem BitB.store {w:World} {B:Nat} {f:Nat→Bool} (h:BitB w B f) (g:Nat→Bool):BitB (w.setCells B 0 (bitsL g)) B g∧(∀k,k≠B→(w.setCells B 0 (bitsL g)).heap[k]?=w.heap[k]?)∧∀n,n≤B→Below n w (w.setCells B 0 (bitsL g)):=by
 obtain ⟨a,b,_,d⟩:=stor_at h (bitsL g) (by simp [bitsL_len]) _ (setCells_stor (bitsL g) w B 0);exact ⟨a,b,d⟩
theorem BitB.load {w:World} {B:Nat} {f:Nat→Bool} (h:BitB w B f):(loadVar 280 ⟨B,0,none⟩).run Tryz.prog w=.ok (.agg (bitsL f).toArray) w :=
 run_loadVar_mid w B 0 280 (bitsL f) _ h.range Tryz.underlying280 rfl (num_size f)
theorem bit_new (w:World) (f:Nat→Bool):BitB (w.alloc (.cells (bitsL f).toArray 280)) w.heap.size f:=heap_alloc_new _ _
end
section
open Go.RowKit Go.Lib
theorem ref05BitsD_any (n:Int) (w:World) :
 Calls Tryz.prog 42 #[.int .i64 n] w fun e w'=>e=.returned (.int .i64 (bitsI n))∧w=w':=by
 go_enter Tryz.func42,Tryz.ntmps42
 go_wp2
 go_loop [3,4] (fun p b=>∃k:Nat,k≤7∧b=.int .i64 k∧p=.int .i64 ((2 ^ k:Nat):Int)∧∀j,j<k→n≠((2 ^ j:Nat):Int)) (fun _ b=>7 - (intOf b).toNat)
 case atStart=>exact ⟨0,by omega,rfl,rfl,fun j hj=>absurd hj (by omega)⟩
 case round =>
  obtain ⟨k,hk,rfl,rfl,hno⟩:=hrel
  by_cases hlt:k<7
  · have hp:2 ^ k≤2 ^ 6:=Nat.pow_le_pow_right (by decide) (by omega)
    by_cases he:n=((2 ^ k:Nat):Int)
    · have hv:=bitsI_pow k hlt
      rw [←he] at hv;have hq:(n == ((2 ^ k:Nat):Int))=true:=by simp [he]
      have Hv:=jH hv;clear hv he hno;generalize 2 ^ k=m at *;go_wp2
      go_ret
      exact ⟨ret_int Hv.out.symm,rfl⟩
    · have hq:(n == ((2 ^ k:Nat):Int))=false:=by simpa using he
      have hno':∀j,j<k+1→n≠((2 ^ j:Nat):Int):=by
       intro j hj
       rcases Nat.lt_or_ge j k with h|h
       · exact hno j h
       · obtain rfl:j=k:=by omega
         exact he
      have Hno:=jH hno';have hm:2 ^ (k+1)=2 ^ k * 2:=Nat.pow_succ 2 k;clear he hno hno';generalize hx:2 ^ k=m at *;have Hm:=jH hm;have Hx:=jH hx;clear hm hx;go_wp2
      go_round
      case rel=>exact ⟨k+1,by omega,by go_num,by rw [Hm.out];simp,Hno.out⟩
      case measure=>simp [intOf];omega
  · obtain rfl:k=7:=by omega
    have hv:=bitsI_none n hno;have Hv:=jH hv;clear hv hno hlt hk;go_wp2
    go_ret
    exact ⟨ret_int Hv.out.symm,rfl⟩
theorem ref17RightD_any (c:Cfg) (w:World) :
 Calls Tryz.prog 9 #[cfgV c] w (jP w (.bool (cfgB c))):=by
 obtain ⟨st,sa,lo,hi⟩:=c;unfold cfgV;have hb:=bitsI_ok st;have Hb:=jH hb;clear hb
 go_enter Tryz.func9,Tryz.ntmps9
 go_wp2_with (go_at_call 42;refine (ref05BitsD_any _ _).mono ?_;generalize bitsI st=b at *;rintro e w' ⟨rfl,rfl⟩)
 all_goals
   go_ret
   refine ⟨ret_bool ?_,jR.alloc (Nat.le_refl _) _⟩;have hb:=Hb.out;simp only [cfgB]
   rw [←hb,Bool.eq_iff_iff];simp only [Bool.and_eq_true,decide_eq_true_eq,Bool.false_eq_true,false_iff]
   omega
end
end Go.Proofs.YtkcdhaallnhhmaaGreat
