/- Part 12 of the proof: CallChk. -/
import Derived.Test.YtkcdhaallnhhmaaGreatP07
namespace Go.Proofs.YtkcdhaallnhhmaaGreat
set_option linter.unusedSimpArgs false
set_option linter.unusedVariables false
set_option linter.unusedSectionVars false
set_option maxRecDepth 100000
set_option maxHeartbeats 16000000
section
open Go.RowKit Go.Lib
theorem routeRight_any (n:Int) (w:World) (hn:I64 n) :
 Calls Tryz.prog 86 #[.int .i64 n] w fun e w'=>e=.returned (.bool (okSt n))∧w=w':=by
 obtain ⟨hn1,hn2⟩:=hn
 by_cases h1:1≤n
 · by_cases h2:n≤64
   · obtain ⟨k,rfl⟩:=Int.eq_ofNat_of_zero_le (show 0≤n by omega)
     have hq:=st_and k (by omega) (by omega);generalize okSt (k:Int)=b at hq
     go_enter Tryz.func86,Tryz.ntmps86
     go_wp2
     go_ret
     exact ⟨rfl,rfl⟩
   · have hb:okSt n=false:=by
      cases hb:okSt n with
      | false=>rfl
      | true=>exact absurd (okSt_bd n hb).2 h2
     rw [hb]
     go_enter Tryz.func86,Tryz.ntmps86
     go_wp2
     go_ret
     exact ⟨rfl,rfl⟩
 · have hb:okSt n=false:=by
    cases hb:okSt n with
    | false=>rfl
    | true=>exact absurd (okSt_bd n hb).1 h1
   rw [hb]
   go_enter Tryz.func86,Tryz.ntmps86
   go_wp2
   go_ret
   exact ⟨rfl,rfl⟩
theorem nodeRight_any (c:Cfg) (w:World) (hc:c.ok) :
 Calls Tryz.prog 43 #[cfgV c] w (jP w (.int .i64 (cfgE c))):=by
 obtain ⟨st,sa,lo,hi⟩:=c;obtain ⟨h1,h2,h3,h4⟩:=hc;have H1:=jH h1;simp only [I64] at h1 h2 h3 h4
 unfold cfgV
 cases hb:okSt st with
 | false =>
   have hf:cfgE ⟨st,sa,lo,hi⟩=1:=by simp [cfgE,cfgB,hb]
   rw [hf];have Hb:=jH hb;clear hb hf
   go_enter Tryz.func43,Tryz.ntmps43
   go_wp2_with (go_at_call 86;refine (routeRight_any _ _ H1.out).mono ?_;rw [Hb.out];rintro e w' ⟨rfl,rfl⟩)
   all_goals
     go_ret
     exact ⟨rfl,jR.alloc (Nat.le_refl _) _⟩
 | true =>
   have Hb:=jH hb;clear hb
   go_enter Tryz.func43,Tryz.ntmps43
   go_wp2_with (go_at_call 86;refine (routeRight_any _ _ H1.out).mono ?_;rw [Hb.out];rintro e w' ⟨rfl,rfl⟩)
   all_goals
     go_ret
     refine ⟨ret_int ?_,jR.alloc (Nat.le_refl _) _⟩;simp only [cfgE,cfgB,Hb.out,Bool.true_and,decide_eq_true_eq]
     split <;> omega
theorem seriesRight_any (t v:Int) (w:World) :
 Calls Tryz.prog 113 #[.int .i64 t,.int .i64 v] w fun e w'=>e=.returned (.int .i64 (serE t v))∧w=w':=by
 go_enter Tryz.func113,Tryz.ntmps113
 go_wp2
 all_goals
   go_ret
   refine ⟨ret_int ?_,rfl⟩;unfold serE
   repeat' split
   all_goals omega
theorem policyCheck_any (p:Pol) (w:World) :
 Calls Tryz.prog 124 #[polV p] w (jP w (.int .i64 (polE p))):=by
 obtain ⟨a,b,c,d,f,g⟩:=p;unfold polV
 go_enter Tryz.func124,Tryz.ntmps124
 go_wp2
 all_goals
   go_ret
   refine ⟨ret_int ?_,jR.alloc (Nat.le_refl _) _⟩;simp only [polE,polB,decide_eq_true_eq]
   split <;> omega
section
variable (id:ByteArray) (tick val handle a b tg tol win hold:Int) (w:World)
end
end
end Go.Proofs.YtkcdhaallnhhmaaGreat
