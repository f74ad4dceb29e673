/- Part 8 of the proof: CallChk. -/
import Derived.Test.YtkcdhaallnhhmaaGreatQ02
namespace Go.Proofs.YtkcdhaallnhhmaaGreat
set_option linter.unusedSimpArgs false
set_option linter.unusedVariables false
set_option linter.unusedSectionVars false
set_option maxRecDepth 100000
set_option maxHeartbeats 16000000
section
open Go.RowKit Go.Lib
theorem routeRight_any (n:Int) (w:World) (hn:I64 n) :
 Calls Tryz.prog 86 #[.int .i64 n] w fun e w'=>e=.returned (.bool (okSt n))∧w=w':=by
 obtain ⟨hn1,hn2⟩:=hn
 by_cases h1:1≤n
 · by_cases h2:n≤64
   · obtain ⟨k,rfl⟩:=Int.eq_ofNat_of_zero_le (show 0≤n by omega)
     have hq:=st_and k (by omega) (by omega);generalize okSt (k:Int)=b at hq
     go_enter Tryz.func86,Tryz.ntmps86
     go_wp2
     go_ret
     exact ⟨rfl,rfl⟩
   · have hb:okSt n=false:=by
      cases hb:okSt n with
      | false=>rfl
      | true=>exact absurd (okSt_bd n hb).2 h2
     rw [hb]
     go_enter Tryz.func86,Tryz.ntmps86
     go_wp2
     go_ret
     exact ⟨rfl,rfl⟩
 · have hb:okSt n=false:=by
    cases hb:okSt n with
    | false=>rfl
    | true=>exact absurd (okSt_bd n hb).1 h1
   rw [hb]
   go_enter Tryz.func86,Tryz.ntmps86
   go_wp2
   go_ret
   exact ⟨rfl,rfl⟩
theorem nodeRight_any (c:Cfg) (w:World) (hc:c.ok) :
 Calls Tryz.prog 43 #[cfgV c] w (jP w (.int .i64 (cfgE c))):=by
 obtain ⟨st,sa,lo,hi⟩:=c;obtain ⟨h1,h2,h3,h4⟩:=hc;have H1:=jH h1;simp only [I64] at h1 h2 h3 h4
 unfold cfgV
 cases hb:okSt st with
 | false =>
   have hf:cfgE ⟨st,sa,lo,hi⟩=1:=by simp [cfgE,cfgB,hb]
   rw [hf];have Hb:=jH hb;clear hb hf
   go_enter Tryz.func43,Tryz.ntmps43
   go_wp2_with (go_at_call 86;refine (routeRight_any _ _ H1.out).mono ?_;rw [Hb.out];rintro e w' ⟨rfl,rfl⟩)
   all_goals
     go_ret
     exact ⟨rfl,jR.alloc (Nat.le_refl _) _⟩
 | true =>
   have Hb:=jH hb;clear hb
   go_enter Tryz.func43,Tryz.ntmps43
   go_wp2_with (go_at_call 86;refine (routeRight_any _ _ H1.out).mono ?_;rw [Hb.out];rintro e w' ⟨rfl,rfl⟩)
   all_goals
     go_ret
     refine ⟨ret_int ?_,jR.alloc (Nat.le_refl _) _⟩;simp only [cfgE,cfgB,Hb.out,Bool.true_and,decide_eq_true_eq]
     split <;> omega
theorem seriesRight_any (t v:Int) (w:World) :
 Calls Tryz.prog 113 #[.int .i64 t,.int .i64 v] w fun e w'=>e=.returned (.int .i64 (serE t v))∧w=w':=by
 go_enter Tryz.func113,Tryz.ntmps113
 go_wp2
 all_goals
   go_ret
   refine ⟨ret_int ?_,rfl⟩;unfold serE
   repeat' split
   all_goals omega
theorem ref08Right_any (t v:Int) (w:World) :
 Calls Tryz.prog 139 #[.int .i64 t,.int .i64 v] w fun e w'=>e=.returned (.int .i64 (serE t v))∧w=w':=by
 go_enter Tryz.func139,Tryz.ntmps139
 go_wp2
 all_goals
   go_ret
   refine ⟨ret_int ?_,rfl⟩;unfold serE
   repeat' split
   all_goals omega
theorem policyCheck_any (p:Pol) (w:World) :
 Calls Tryz.prog 124 #[polV p] w (jP w (.int .i64 (polE p))):=by
 obtain ⟨a,b,c,d,f,g⟩:=p;unfold polV
 go_enter Tryz.func124,Tryz.ntmps124
 go_wp2
 all_goals
   go_ret
   refine ⟨ret_int ?_,jR.alloc (Nat.le_refl _) _⟩;simp only [polE,polB,decide_eq_true_eq]
   split <;> omega
theorem ref12Right_any (p:Pol) (w:World) :
 Calls Tryz.prog 125 #[polV p] w (jP w (.bool (polB p))):=by
 obtain ⟨a,b,c,d,f,g⟩:=p;unfold polV
 go_enter Tryz.func125,Tryz.ntmps125
 go_wp2
 all_goals
   go_ret
   refine ⟨ret_bool ?_,jR.alloc (Nat.le_refl _) _⟩;rw [Bool.eq_iff_iff];simp only [polB,decide_eq_true_eq,Bool.false_eq_true,false_iff]
   omega
theorem ref05Bits_any (n:Int) (w:World) :
 Calls Tryz.prog 42 #[.int .i64 n] w fun e w'=>e=.returned (.int .i64 (bitsI n))∧w=w':=by
 go_enter Tryz.func42,Tryz.ntmps42
 go_wp2
 go_loop [3,4] (fun p b=>∃k:Nat,k≤7∧b=.int .i64 k∧p=.int .i64 ((2 ^ k:Nat):Int)∧∀j,j<k→n≠((2 ^ j:Nat):Int)) (fun _ b=>7 - (intOf b).toNat)
 case atStart=>exact ⟨0,by omega,rfl,rfl,fun j hj=>absurd hj (by omega)⟩
 case round =>
  obtain ⟨k,hk,rfl,rfl,hno⟩:=hrel
  by_cases hlt:k<7
  · have hp:2 ^ k≤2 ^ 6:=Nat.pow_le_pow_right (by decide) (by omega)
    by_cases he:n=((2 ^ k:Nat):Int)
    · have hv:=bitsI_pow k hlt
      rw [←he] at hv;have hq:(n == ((2 ^ k:Nat):Int))=true:=by simp [he]
      have Hv:=jH hv;clear hv he hno;generalize 2 ^ k=m at *;go_wp2
      go_ret
      exact ⟨ret_int Hv.out.symm,rfl⟩
    · have hq:(n == ((2 ^ k:Nat):Int))=false:=by simpa using he
      have hno':∀j,j<k+1→n≠((2 ^ j:Nat):Int):=by
       intro j hj
       rcases Nat.lt_or_ge j k with h|h
       · exact hno j h
       · obtain rfl:j=k:=by omega
         exact he
      have Hno:=jH hno';have hm:2 ^ (k+1)=2 ^ k * 2:=Nat.pow_succ 2 k;clear he hno hno';generalize hx:2 ^ k=m at *;have Hm:=jH hm;have Hx:=jH hx;clear hm hx;go_wp2
      go_round
      case rel=>exact ⟨k+1,by omega,by go_num,by rw [Hm.out];simp,Hno.out⟩
      case measure=>simp [intOf];omega
  · obtain rfl:k=7:=by omega
    have hv:=bitsI_none n hno;have Hv:=jH hv;clear hv hno hlt hk;go_wp2
    go_ret
    exact ⟨ret_int Hv.out.symm,rfl⟩
theorem chk_kinds (c:CallD):c.kind=1∨c.kind=2∨c.kind=3∨c.kind=4∨c.kind=5∨c.kind=6∨c.kind=7∨c.kind=8∨(c.kind<1∨8<c.kind):=by omega
def callK (k:Int) (id:ByteArray) (tick val handle a b tg tol win hold:Int):CallD:=⟨k,id,tick,val,handle,⟨a,b,tg,tol,win,hold⟩⟩
section
variable (id:ByteArray) (tick val handle a b tg tol win hold:Int) (w:World)
end
end
end Go.Proofs.YtkcdhaallnhhmaaGreat
