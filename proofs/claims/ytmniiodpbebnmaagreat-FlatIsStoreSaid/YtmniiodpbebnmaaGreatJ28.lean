/- Part 28 of the proof. -/
import Derived.Test.YtmniiodpbebnmaaGreatJ26
namespace Go.Proofs.YtmniiodpbebnmaaGreat
set_option linter.unusedSimpArgs false
set_option linter.unusedVariables false
set_option linter.unusedSectionVars false
set_option maxRecDepth 100000
set_option maxHeartbeats 16000000
section
open Go.RowKit Go.Lib
theorem u0A (n lo hi:Int) (w:World) :
 Calls Tryz.prog 203 #[.int .i64 n,.int .i64 lo,.int .i64 hi] w fun e w'=>e=.returned (.int .i64 (z0N n lo hi))∧w=w':=by
 go_enter Tryz.func203,Tryz.ntmps203
 go_wp2
 all_goals
   go_ret
   refine ⟨e0U ?_,rfl⟩;unfold z0N
   repeat' split
   all_goals omega
theorem t0M (p:Pol) (n:Int) (w:World) (hp:g0Z p=false) :
 Calls Tryz.prog 144 #[d0E p,.int .i64 n] w (jP w (.int .i64 0)):=by
 have HC:=jH (a0W p);have HE:=jH ((show i0F p=7 by unfold i0F;rw [hp];rfl));clear hp;unfold d0E;unfold d0E at HC
 go_enter Tryz.func144,Tryz.ntmps144
 go_wp2_with (go_at_call 103;refine (HC.out _).mono ?_;rw [HE.out];rintro e w2 ⟨rfl,hb2⟩;have HB:=jH hb2;clear hb2)
 go_ret
 exact ⟨rfl,a0D (a0C jR _) HB.out⟩
theorem v0R (p:Pol) (n:Int) (w:World) (hp:g0Z p=true) :
 Calls Tryz.prog 144 #[d0E p,.int .i64 n] w (jP w (.int .i64 (z0N n p.mn p.mx))):=by
 have HC:=jH (a0W p);have HE:=jH ((show i0F p=0 by unfold i0F;rw [hp];rfl));clear hp;unfold d0E;unfold d0E at HC
 go_enter Tryz.func144,Tryz.ntmps144
 go_wp2_with (first
  | (go_at_call 103
     refine a0B ?_;intro W1 hW1;have hb1:jB w W1:=by rw [hW1];exact a0C jR _
     have hx1:W1.heap[w.heap.size]?=some (.cells #[.int .i64 p.mn,.int .i64 p.mx,.int .i64 p.tg,.int .i64 p.tol,.int .i64 p.win,.int .i64 p.hold] 35 (0,0)):=by rw [hW1];exact heap_alloc_new _ _
     clear hW1;refine (HC.out W1).mono ?_;rw [HE.out];rintro e w2 ⟨rfl,hb2⟩;have HB2:=jH (a0D hb1 hb2);have hx2:=(hb2.block w.heap.size (jL hx1)).trans hx1;obtain ⟨b1,b2,b3⟩:=a0A jR hx2;clear hb1 hb2 hx1 hx2)
  | (go_at_call 203
     refine (u0A n p.mn p.mx _).mono ?_;rintro e w5 ⟨rfl,rfl⟩))
 go_ret
 exact ⟨rfl,by repeat (first|exact HB2.out|refine a0G ?_ _|refine Below.drew ?_)⟩
theorem w0U (p:Pol) (n:Int) (w:World) (hp:g0Z p=false) :
 Calls Tryz.prog 140 #[d0E p,.int .i64 n] w (jP w (.int .i64 0)):=by
 have HC:=jH (a0W p);have HE:=jH ((show i0F p=7 by unfold i0F;rw [hp];rfl));clear hp;unfold d0E;unfold d0E at HC
 go_enter Tryz.func140,Tryz.ntmps140
 go_wp2_with (go_at_call 103;refine (HC.out _).mono ?_;rw [HE.out];rintro e w2 ⟨rfl,hb2⟩;have HB:=jH hb2;clear hb2)
 go_ret
 exact ⟨rfl,a0D (a0C jR _) HB.out⟩
theorem d1D (p:Pol) (n:Int) (w:World) (hp:g0Z p=true) (hn:I64 n) (hq:I64 p.tg) :
 Calls Tryz.prog 140 #[d0E p,.int .i64 n] w (jP w (.int .i64 (n0G (max n 0) p.tg))):=by
 have HC:=jH (a0W p);have HE:=jH ((show i0F p=0 by unfold i0F;rw [hp];rfl));have hm:I64 (max n 0):=by unfold I64 at *;omega
 have C1:=jH (fun W=>v0U (max n 0) p.tg W hm hq);clear hn hq hm;clear hp;unfold d0E;unfold d0E at HC
 go_enter Tryz.func140,Tryz.ntmps140
 go_wp2_with (first
  | (go_at_call 103
     refine a0B ?_;intro W1 hW1;have hb1:jB w W1:=by rw [hW1];exact a0C jR _
     have hx1:W1.heap[w.heap.size]?=some (.cells #[.int .i64 p.mn,.int .i64 p.mx,.int .i64 p.tg,.int .i64 p.tol,.int .i64 p.win,.int .i64 p.hold] 35 (0,0)):=by rw [hW1];exact heap_alloc_new _ _
     clear hW1;refine (HC.out W1).mono ?_;rw [HE.out];rintro e w2 ⟨rfl,hb2⟩;have HB2:=jH (a0D hb1 hb2);have hx2:=(hb2.block w.heap.size (jL hx1)).trans hx1;obtain ⟨b1,b2,b3⟩:=a0A jR hx2;clear hb1 hb2 hx1 hx2)
  | (go_at_call 199
     refine (C1.out _).mono ?_;rintro e w5 ⟨rfl,rfl⟩))
 go_ret
 exact ⟨rfl,by repeat (first|exact HB2.out|refine a0G ?_ _|refine Below.drew ?_)⟩
theorem l0P (p:Pol) (n:Int) (w:World) :
 Calls Tryz.prog 144 #[d0E p,.int .i64 n] w (jP w (.int .i64 (g0E p n))):=by
 unfold g0E
 cases hp:g0Z p
 · exact t0M p n w hp
 · exact v0R p n w hp
theorem n0W (p:Pol) (n:Int) (w:World) (hn:I64 n) (hq:I64 p.tg) :
 Calls Tryz.prog 140 #[d0E p,.int .i64 n] w (jP w (.int .i64 (t0S p n))):=by
 unfold t0S
 cases hp:g0Z p
 · exact w0U p n w hp
 · exact d1D p n w hp hn hq
theorem l0Y (a:Nat):(a &&& 4294967295)=a % 4294967296:=Nat.and_two_pow_sub_one_eq_mod a 32
theorem o1P {m l:Nat} (hl:l<4294967296):(m * 4294967296 ||| l)=m * 4294967296+l:=by
 have:=Nat.two_pow_add_eq_or_of_lt (i:=32) (by simpa using hl) m;rw [show (2:Nat) ^ 32=4294967296 from rfl] at this;rw [Nat.mul_comm m,this]
theorem m0F {x y:Nat} (hx:x<4294967296) (hy:y<4294967296):x * y≤18446744065119617025 :=
 Nat.le_trans (Nat.mul_le_mul (Nat.le_of_lt_succ (m:=x) (n:=4294967295) (by omega)) (Nat.le_of_lt_succ (m:=y) (n:=4294967295) (by omega))) (by decide)
theorem c1V {a b a0 a1 b0 b1 p q r s:Nat} (ha:a=4294967296 * a1+a0) (hb:b=4294967296 * b1+b0) (hp:p=a1 * b1) (hq:q=a1 * b0) (hr:r=a0 * b1) (hs:s=a0 * b0) :
 a * b=18446744073709551616 * p+4294967296 * q+4294967296 * r+s:=by
 subst ha hb hp hq hr hs;rw [Nat.add_mul,Nat.mul_add,Nat.mul_add,Nat.mul_mul_mul_comm,Nat.mul_assoc 4294967296 a1 b0,Nat.mul_left_comm a0 4294967296 b1];omega
theorem i0S (a b:Nat) (ha:a<18446744073709551616) (hb:b<18446744073709551616) (w:World) :
 Calls Tryz.prog 200 #[.int .u64 a,.int .u64 b] w (jP w (k0J (a * b))):=by
 obtain ⟨a0,ha0⟩:∃a0,a0=a % 4294967296:=⟨_,rfl⟩;obtain ⟨a1,ha1⟩:∃a1,a1=a / 4294967296:=⟨_,rfl⟩;obtain ⟨b0,hb0⟩:∃b0,b0=b % 4294967296:=⟨_,rfl⟩;obtain ⟨b1,hb1⟩:∃b1,b1=b / 4294967296:=⟨_,rfl⟩;obtain ⟨p,hp⟩:∃p,p=a1 * b1:=⟨_,rfl⟩;obtain ⟨q,hq⟩:∃q,q=a1 * b0:=⟨_,rfl⟩;obtain ⟨r,hr⟩:∃r,r=a0 * b1:=⟨_,rfl⟩;obtain ⟨s,hs⟩:∃s,s=a0 * b0:=⟨_,rfl⟩;have lp:p≤18446744065119617025:=hp ▸ m0F (by omega) (by omega)
 have lq:q≤18446744065119617025:=hq ▸ m0F (by omega) (by omega);have lr:r≤18446744065119617025:=hr ▸ m0F (by omega) (by omega);have ls:s≤18446744065119617025:=hs ▸ m0F (by omega) (by omega);have hm:=c1V (a:=a) (b:=b) (a0:=a0) (a1:=a1) (b0:=b0) (b1:=b1) (by omega) (by omega) hp hq hr hs;obtain ⟨s1,hs1⟩:∃s1,s1=s / 4294967296:=⟨_,rfl⟩;obtain ⟨s0,hs0⟩:∃s0,s0=s % 4294967296:=⟨_,rfl⟩
 obtain ⟨m1,hm1⟩:∃m1,m1=q+s1:=⟨_,rfl⟩;obtain ⟨o,ho⟩:∃o,o=m1 / 4294967296:=⟨_,rfl⟩;obtain ⟨m0,hm0⟩:∃m0,m0=m1 % 4294967296:=⟨_,rfl⟩;obtain ⟨m2,hm2⟩:∃m2,m2=m0+r:=⟨_,rfl⟩;obtain ⟨t,ht⟩:∃t,t=m2 / 4294967296:=⟨_,rfl⟩;obtain ⟨u,hu⟩:∃u,u=m2 * 4294967296 % 18446744073709551616:=⟨_,rfl⟩;obtain ⟨po,hpo⟩:∃po,po=p+o:=⟨_,rfl⟩;obtain ⟨hi,hhi⟩:∃hi,hi=po+t:=⟨_,rfl⟩;obtain ⟨lo,hlo⟩:∃lo,lo=u+s0:=⟨_,rfl⟩;have HE:=jH (show hi=a * b / 18446744073709551616∧lo=a * b % 18446744073709551616 by omega)
 have pa:p<18446744073709551616:=by omega
 have hpo2:po<18446744073709551616:=by omega
 have hhi2:hi<18446744073709551616:=by omega
 have g1:bits .and .u64 (a:Int) 4294967295=(a0:Int):=by rw [ha0,←l0Y];exact u64_and_nat a 4294967295 ha (by omega)
 have g2:(a:Int) / 4294967296=(a1:Int):=by omega
 have g3:bits .and .u64 (b:Int) 4294967295=(b0:Int):=by rw [hb0,←l0Y];exact u64_and_nat b 4294967295 hb (by omega)
 have g4:(b:Int) / 4294967296=(b1:Int):=by omega
 have g5:IntKind.u64.wrap ((a0:Int) * (b0:Int))=(s:Int):=by rw [←Int.natCast_mul,←hs];exact c0R s (by omega)
 have g6:IntKind.u64.wrap ((a1:Int) * (b0:Int))=(q:Int):=by rw [←Int.natCast_mul,←hq];exact c0R q (by omega)
 have g7:(s:Int) / 4294967296=(s1:Int):=by omega
 have g8:IntKind.u64.wrap ((q:Int)+(s1:Int))=(m1:Int):=by rw [←Int.natCast_add,←hm1];exact c0R m1 (by omega)
 have g9:(m1:Int) / 4294967296=(o:Int):=by omega
 have g10:bits .and .u64 (m1:Int) 4294967295=(m0:Int):=by rw [hm0,←l0Y];exact u64_and_nat m1 4294967295 (by omega) (by omega)
 have g11:IntKind.u64.wrap ((a0:Int) * (b1:Int))=(r:Int):=by rw [←Int.natCast_mul,←hr];exact c0R r (by omega)
 have g12:IntKind.u64.wrap ((m0:Int)+(r:Int))=(m2:Int):=by rw [←Int.natCast_add,←hm2];exact c0R m2 (by omega)
 have g13:IntKind.u64.wrap ((a1:Int) * (b1:Int))=(p:Int):=by rw [←Int.natCast_mul,←hp];exact c0R p pa
 have g14:IntKind.u64.wrap ((p:Int)+(o:Int))=(po:Int):=by rw [←Int.natCast_add,←hpo];exact c0R po hpo2
 have g15:(m2:Int) / 4294967296=(t:Int):=by omega
 have g16:IntKind.u64.wrap ((po:Int)+(t:Int))=(hi:Int):=by rw [←Int.natCast_add,←hhi];exact c0R hi hhi2
 have g17:IntKind.u64.wrap ((m2:Int) * 4294967296)=(u:Int):=by rw [IntKind.wrap_u64];omega
 have g18:bits .and .u64 (s:Int) 4294967295=(s0:Int):=by rw [hs0,←l0Y];exact u64_and_nat s 4294967295 (by omega) (by omega)
 have g19:bits .or .u64 (u:Int) (s0:Int)=(lo:Int):=by
  rw [u64_or_nat _ _ (by omega) (by omega)];have:u=(m2 % 4294967296) * 4294967296:=by omega
  rw [this,o1P (by omega),hlo,this]
 clear ha0 ha1 hb0 hb1 hp hq hr hs lp lq lr ls hm hs1 hs0 hm1 ho hm0 hm2 ht hu hpo hhi hlo pa hpo2 hhi2 ha hb;unfold k0J;rw [←HE.out.1,←HE.out.2];clear HE
 go_enter Tryz.func200,Tryz.ntmps200
 go_wp2
 refine bodyPost_ret (v:=.agg #[.int .u64 hi,.int .u64 lo]) (by simp [results,Tryz.results200,go_sem]) rfl ⟨rfl,a0C jR _⟩
theorem e1W (m n:Nat) (hm:m<340282366920938463463374607431768211456) (hn:n<340282366920938463463374607431768211456) :
 cmpN m n=if m / 18446744073709551616=n / 18446744073709551616∧m % 18446744073709551616=n % 18446744073709551616 then 0
   else if m / 18446744073709551616<n / 18446744073709551616∨m / 18446744073709551616=n / 18446744073709551616∧m % 18446744073709551616<n % 18446744073709551616 then -1 else 1:=by
 unfold cmpN
 repeat' split
 all_goals omega
theorem x0B (m n:Nat) (hm:m<340282366920938463463374607431768211456) (hn:n<340282366920938463463374607431768211456) (w:World) :
 Calls Tryz.prog 243 #[k0J m,k0J n] w (jP w (.int .i64 (cmpN m n))):=by
 rw [e1W m n hm hn];unfold k0J;generalize m / 18446744073709551616=a;generalize m % 18446744073709551616=b;generalize n / 18446744073709551616=c;generalize n % 18446744073709551616=d;clear hm hn
 by_cases h1:a=c
 · subst h1
   by_cases h2:b=d
   · subst h2
     rw [if_pos ⟨rfl,rfl⟩]
     go_enter Tryz.func243,Tryz.ntmps243
     go_wp2
     go_ret
     exact ⟨rfl,by repeat (first|exact jR|refine a0C ?_ _|refine a0G ?_ _|refine Below.drew ?_)⟩
   · have q1:((b:Int) == (d:Int))=false:=by simp;omega
     have q2:decide (b=d)=false:=by simp;omega
     by_cases h3:b<d
     · rw [if_neg (by omega),if_pos (by omega)]
       have q3:(b:Int)<(d:Int):=by omega
       go_enter Tryz.func243,Tryz.ntmps243
       go_wp2
       all_goals
         go_ret
         exact ⟨rfl,by repeat (first|exact jR|refine a0C ?_ _|refine a0G ?_ _|refine Below.drew ?_)⟩
     · rw [if_neg (by omega),if_neg (by omega)]
       have q3:¬(b:Int)<(d:Int):=by omega
       have q4:decide (b<d)=false:=by simp;omega
       go_enter Tryz.func243,Tryz.ntmps243
       go_wp2
       all_goals
         go_ret
         exact ⟨rfl,by repeat (first|exact jR|refine a0C ?_ _|refine a0G ?_ _|refine Below.drew ?_)⟩
 · have q1:((a:Int) == (c:Int))=false:=by simp;omega
   have q2:decide (a=c)=false:=by simp;omega
   by_cases h3:a<c
   · rw [if_neg (by omega),if_pos (by omega)]
     have q3:(a:Int)<(c:Int):=by omega
     go_enter Tryz.func243,Tryz.ntmps243
     go_wp2
     all_goals
       go_ret
       exact ⟨rfl,by repeat (first|exact jR|refine a0C ?_ _|refine a0G ?_ _|refine Below.drew ?_)⟩
   · rw [if_neg (by omega),if_neg (by omega)]
     have q3:¬(a:Int)<(c:Int):=by omega
     have q4:decide (a<c)=false:=by simp;omega
     go_enter Tryz.func243,Tryz.ntmps243
     go_wp2
     all_goals
       go_ret
       exact ⟨rfl,by repeat (first|exact jR|refine a0C ?_ _|refine a0G ?_ _|refine Below.drew ?_)⟩
theorem q1C (a b:Nat):decide (cmpN a b≤0)=decide (a≤b):=by
 unfold cmpN
 by_cases h:a=b
 · rw [if_pos h];subst h;simp
 · rw [if_neg h]
   by_cases k:a<b
   · rw [if_pos k];simp;omega
   · rw [if_neg k];simp;omega
theorem p0M (x y z:Nat) (hx:x<340282366920938463463374607431768211456) (hs:y+z<340282366920938463463374607431768211456) (w:World) :
 Calls Tryz.prog 201 #[k0J x,k0J y,k0J z] w (jP w (.bool (decide (x≤y+z)))):=by
 have C1:=jH (i0Y y z hs);obtain ⟨s,hse⟩:∃s,s=y+z:=⟨_,rfl⟩;rw [←hse] at C1 hs ⊢;have C2:=jH (x0B x s hx hs);have HC:=jH (q1C x s);clear hse hx hs;generalize cmpN x s=c at C2 HC;generalize decide (x≤s)=b at HC ⊢;unfold k0J at C1 C2 ⊢;generalize x / 18446744073709551616=x1 at *;generalize x % 18446744073709551616=x0 at *;generalize y / 18446744073709551616=y1 at *;generalize y % 18446744073709551616=y0 at *
 generalize z / 18446744073709551616=z1 at *;generalize z % 18446744073709551616=z0 at *;generalize s / 18446744073709551616=s1 at *;generalize s % 18446744073709551616=s0 at *
 go_enter Tryz.func201,Tryz.ntmps201
 go_wp2_with (first
  | (go_at_call 242
     refine a0B ?_;intro W1 hW1;have hb1:jB w W1:=by rw [hW1];exact a0C (a0C (a0C jR _) _) _
     have hx1:W1.heap[w.heap.size]?=some (.cells #[.int .u64 x1,.int .u64 x0] 272 (0,0)):=by rw [hW1];exact n1C _ _ _ _
     clear hW1;refine (C1.out W1).mono ?_;rintro e w2 ⟨rfl,hb2⟩;have HB2:=jH (a0D hb1 hb2);have hx2:=(hb2.block w.heap.size (jL hx1)).trans hx1;obtain ⟨b1,b2,b3⟩:=a0A jR hx2;clear hb1 hb2 hx1 hx2)
  | (go_at_call 243;refine (C2.out _).mono ?_;rintro e w3 ⟨rfl,hb3⟩;have HB3:=jH (a0D (a0C HB2.out _) hb3);clear hb3))
 go_ret
 exact ⟨by rw [←HC.out];rfl,HB3.out⟩
theorem g1E {p:Pol} {load now:Int} (h:g0Z p=false∨now<1∨1073741824<now):q0L p load now=false:=by
 unfold q0L
 rcases h with h|h
 · rw [h];rfl
 · have:decide (1≤now∧now≤1073741824)=false:=by simp;omega
   rw [this];simp
theorem v0S (p:Pol) (load now:Int) (w:World) (h:g0Z p=false∨now<1∨1073741824<now) :
 Calls Tryz.prog 141 #[d0E p,.int .i64 load,.int .i64 now] w (jP w (.bool false)):=by
 have HC:=jH (a0W p)
 rcases Bool.eq_false_or_eq_true (g0Z p) with hp|hp
 · have HE:=jH (show i0F p=0 by unfold i0F;rw [hp];rfl)
   have h:now<1∨1073741824<now:=by
    rcases h with h|h
    · rw [hp] at h;cases h
    · exact h
   clear hp;unfold d0E;unfold d0E at HC
   rcases h with h|h
   · go_enter Tryz.func141,Tryz.ntmps141
     go_wp2_with (go_at_call 103;refine (HC.out _).mono ?_;rw [HE.out];rintro e w2 ⟨rfl,hb2⟩;have HB:=jH hb2;clear hb2)
     go_ret
     exact ⟨rfl,a0D (a0C jR _) HB.out⟩
   · have h1:¬now<1:=by omega
     have h2:decide (now<1)=false:=by simp;omega
     go_enter Tryz.func141,Tryz.ntmps141
     go_wp2_with (go_at_call 103;refine (HC.out _).mono ?_;rw [HE.out];rintro e w2 ⟨rfl,hb2⟩;have HB:=jH hb2;clear hb2)
     go_ret
     exact ⟨rfl,a0D (a0C jR _) HB.out⟩
 · have HE:=jH (show i0F p=7 by unfold i0F;rw [hp];rfl)
   clear hp h;unfold d0E;unfold d0E at HC
   go_enter Tryz.func141,Tryz.ntmps141
   go_wp2_with (go_at_call 103;refine (HC.out _).mono ?_;rw [HE.out];rintro e w2 ⟨rfl,hb2⟩;have HB:=jH hb2;clear hb2)
   go_ret
   exact ⟨rfl,a0D (a0C jR _) HB.out⟩
theorem c0A {w1 w2:World} {B:Nat} {cs:Array Value} {T:TypeId} (hx:w1.heap[B]?=some (.cells cs T (0,0))) (hb:jB w1 w2):w2.heap[B]?=some (.cells cs T (0,0))∧∀W j,jB w2 W→W.cell? ⟨B,j,none⟩=cs[j]?:=by
 have hx2:=(hb.block B (jL hx)).trans hx;exact ⟨hx2,fun W j h=>(a0A h hx2).1 j⟩
theorem a1M (p:Pol) (load now:Int) (w:World) (hp:g0Z p=true) (h1:1≤now) (h2:now≤1073741824) (hn:I64 load) (hq:I64 p.tg) :
 Calls Tryz.prog 141 #[d0E p,.int .i64 load,.int .i64 now] w (jP w (.bool (q0L p load now))):=by
 have hpb:=hp;unfold g0Z at hpb;simp only [decide_eq_true_eq] at hpb
 unfold I64 at hn hq;obtain ⟨L,hL⟩:∃L,L=load.toNat:=⟨_,rfl⟩;obtain ⟨N,hN⟩:∃N,N=now.toNat:=⟨_,rfl⟩;obtain ⟨T,hT⟩:∃T,T=p.tg.toNat:=⟨_,rfl⟩;obtain ⟨O,hO⟩:∃O,O=p.tol.toNat:=⟨_,rfl⟩;have hL2:L≤9223372036854775807:=by omega
 have hT2:T≤9223372036854775807:=by omega
 obtain ⟨N1,hN1⟩:∃N1,N1=N * 1000:=⟨_,rfl⟩;obtain ⟨NO,hNO⟩:∃NO,NO=N * O:=⟨_,rfl⟩;have hNO2:NO≤1073741824 * 999:=hNO ▸ Nat.mul_le_mul (by omega) (by omega);obtain ⟨m1,hm1⟩:∃m,m=L * 1000:=⟨_,rfl⟩;obtain ⟨m2,hm2⟩:∃m,m=N1 * T:=⟨_,rfl⟩;obtain ⟨m3,hm3⟩:∃m,m=NO * T:=⟨_,rfl⟩;have l1:m1≤9223372036854775807000:=by omega
 have l2:m2≤1073741824000 * 9223372036854775807:=hm2 ▸ Nat.mul_le_mul (by omega) hT2;have l3:m3≤(1073741824 * 999) * 9223372036854775807:=hm3 ▸ Nat.mul_le_mul hNO2 hT2;have HF:q0L p load now=(decide (m1≤m2+m3) && decide (m2≤m1+m3)):=by
  unfold q0L;rw [hp,Bool.true_and,decide_eq_true (And.intro h1 h2),Bool.true_and,←hL,←hN,←hT,←hO];rw [show N * T * 1000=m2 by rw [hm2,hN1,Nat.mul_right_comm],show N * T * O=m3 by rw [hm3,hNO,Nat.mul_right_comm],←hm1]
 rw [HF];have HC:=jH (a0W p);have HE:=jH (show i0F p=0 by unfold i0F;rw [hp];rfl);have C1:=jH (fun W=>show Calls Tryz.prog 200 #[.int .u64 (L:Nat),.int .u64 1000] W (jP W (k0J (L * 1000))) from i0S L 1000 (by omega) (by decide) W);rw [←hm1] at C1;have C2:=jH (fun W=>i0S N1 T (by omega) (by omega) W);rw [←hm2] at C2;have C3:=jH (fun W=>i0S NO T (by omega) (by omega) W)
 rw [←hm3] at C3;have CA:=jH (fun W=>p0M m1 m2 m3 (by omega) (by omega) W);have CB:=jH (fun W=>p0M m2 m1 m3 (by omega) (by omega) W);have g1:IntKind.u64.wrap (max load 0)=(L:Int):=by rw [IntKind.wrap_u64];omega
 have g2:IntKind.u64.wrap now=(N:Int):=by rw [IntKind.wrap_u64];omega
 have g3:IntKind.u64.wrap ((N:Int) * 1000)=(N1:Int):=by rw [IntKind.wrap_u64];omega
 have g4:IntKind.u64.wrap p.tg=(T:Int):=by rw [IntKind.wrap_u64];omega
 have g5:IntKind.u64.wrap p.tol=(O:Int):=by rw [IntKind.wrap_u64];omega
 have g6:IntKind.u64.wrap ((N:Int) * (O:Int))=(NO:Int):=by rw [←Int.natCast_mul,←hNO];exact c0R NO (by omega)
 have q1:¬now<1:=by omega
 have q2:¬1073741824<now:=by omega
 have q3:decide (now<1)=false:=by simp;omega
 have q4:decide (1073741824<now)=false:=by simp;omega
 have HS:=jH (show m1=m2→(decide (m1≤m2+m3) && decide (m2≤m1+m3))=true by intro h;simp;omega);have HW:=jH (show m1≠m2→m1 / 18446744073709551616≠m2 / 18446744073709551616∨m1 / 18446744073709551616=m2 / 18446744073709551616∧m1 % 18446744073709551616≠m2 % 18446744073709551616 by intro h;omega);clear hL hN hT hO hL2 hT2 hN1 hNO hNO2 hm1 hm2 hm3 l1 l2 l3 HF hpb hn hq h1 h2 hp;unfold d0E;unfold d0E at HC
 unfold k0J at C1 C2 C3 CA CB;generalize decide (m1≤m2+m3)=ba at *;generalize decide (m2≤m1+m3)=bb at *
 by_cases he:m1=m2
 · have HR:=jH (HS.out he)
   subst he;clear HW HS CA CB;rw [HR.out];generalize m1 / 18446744073709551616=a1 at *;generalize m1 % 18446744073709551616=a0 at *;generalize m3 / 18446744073709551616=c1 at *;generalize m3 % 18446744073709551616=c0 at *
   go_enter Tryz.func141,Tryz.ntmps141
   go_wp2_with (first
    | (go_at_call 103
       refine a0B ?_;intro W1 hW1;have hb1:jB w W1:=by rw [hW1];exact a0C jR _
       have hx1:W1.heap[w.heap.size]?=some (.cells #[.int .i64 p.mn,.int .i64 p.mx,.int .i64 p.tg,.int .i64 p.tol,.int .i64 p.win,.int .i64 p.hold] 35 (0,0)):=by rw [hW1];exact heap_alloc_new _ _
       clear hW1;refine (HC.out W1).mono ?_;rw [HE.out];rintro e w2 ⟨rfl,hb2⟩;have HB2:=jH (a0D hb1 hb2);obtain ⟨hx2,R0⟩:=c0A hx1 hb2;clear hb1 hb2 hx1 hx2)
    | (go_at_call 200
       with_reducible refine (C1.out _).mono ?_
       rintro e w3 ⟨rfl,hb3⟩)
    | (go_at_call 200
       with_reducible refine (C2.out _).mono ?_
       rintro e w4 ⟨rfl,hb4⟩;obtain ⟨hx7,R7⟩:=c0A (heap_alloc_new _ _) hb4;have hk4:=a0D (a0C hb3 _) hb4)
    | (go_at_call 200
       with_reducible refine (C3.out _).mono ?_
       rintro e w5 ⟨rfl,hb5⟩;obtain ⟨hx8,R8⟩:=c0A (heap_alloc_new _ _) hb5;have hk5:=a0D (a0C hk4 _) hb5;have hj5:=a0D (a0C jR _) hb5;have HB5:=jH (a0D HB2.out hk5)))
   go_ret
   exact ⟨rfl,(by repeat (first|exact HB5.out|refine a0C ?_ _|refine a0G ?_ _|refine Below.drew ?_))⟩
 · have HD:=HW.out he
   clear HW HS he;generalize m1 / 18446744073709551616=a1 at *;generalize m1 % 18446744073709551616=a0 at *;generalize m2 / 18446744073709551616=b1 at *;generalize m2 % 18446744073709551616=b0 at *;generalize m3 / 18446744073709551616=c1 at *;generalize m3 % 18446744073709551616=c0 at *;have e1:((a1:Int) == (b1:Int))=decide (a1=b1):=by rw [Bool.eq_iff_iff];simp;omega
   rcases HD with hd|⟨rfl,hd⟩
   · have x1:((a1:Int) == (b1:Int))=false:=by simp;omega
     have x2:decide (a1=b1)=false:=by simp;omega
     clear e1
     cases ba
     all_goals
       go_enter Tryz.func141,Tryz.ntmps141
       go_wp2_with (first
        | (go_at_call 103
           refine a0B ?_;intro W1 hW1;have hb1:jB w W1:=by rw [hW1];exact a0C jR _
           have hx1:W1.heap[w.heap.size]?=some (.cells #[.int .i64 p.mn,.int .i64 p.mx,.int .i64 p.tg,.int .i64 p.tol,.int .i64 p.win,.int .i64 p.hold] 35 (0,0)):=by rw [hW1];exact heap_alloc_new _ _
           clear hW1;refine (HC.out W1).mono ?_;rw [HE.out];rintro e w2 ⟨rfl,hb2⟩;have HB2:=jH (a0D hb1 hb2);obtain ⟨hx2,R0⟩:=c0A hx1 hb2;clear hb1 hb2 hx1 hx2)
        | (go_at_call 200
           with_reducible refine (C1.out _).mono ?_
           rintro e w3 ⟨rfl,hb3⟩)
        | (go_at_call 200
           with_reducible refine (C2.out _).mono ?_
           rintro e w4 ⟨rfl,hb4⟩;obtain ⟨hx7,R7⟩:=c0A (heap_alloc_new _ _) hb4;have hk4:=a0D (a0C hb3 _) hb4)
        | (go_at_call 200
           with_reducible refine (C3.out _).mono ?_
           rintro e w5 ⟨rfl,hb5⟩;obtain ⟨hx8,R8⟩:=c0A (heap_alloc_new _ _) hb5;have hk5:=a0D (a0C hk4 _) hb5;have hj5:=a0D (a0C jR _) hb5;have HB5:=jH (a0D HB2.out hk5))
        | (go_at_call 201
           with_reducible refine (CA.out _).mono ?_
           rintro e w6 ⟨rfl,hb6⟩;obtain ⟨hx9,R9⟩:=c0A (heap_alloc_new _ _) hb6;have hk6:=a0D (a0C hj5 _) hb6;have hj6:=a0D (a0C jR _) hb6;have HBF:=jH (a0D HB5.out hj6))
        | (go_at_call 201
           with_reducible refine (CB.out _).mono ?_
           rintro e w7 ⟨rfl,hb7⟩;have HBG:=jH (a0D HBF.out hb7)))
       go_ret
       exact ⟨rfl,by first|exact HBG.out|exact HBF.out⟩
   · have x1:((a0:Int) == (b0:Int))=false:=by simp;omega
     have x2:decide (a0=b0)=false:=by simp;omega
     clear e1
     cases ba
     all_goals
       go_enter Tryz.func141,Tryz.ntmps141
       go_wp2_with (first
        | (go_at_call 103
           refine a0B ?_;intro W1 hW1;have hb1:jB w W1:=by rw [hW1];exact a0C jR _
           have hx1:W1.heap[w.heap.size]?=some (.cells #[.int .i64 p.mn,.int .i64 p.mx,.int .i64 p.tg,.int .i64 p.tol,.int .i64 p.win,.int .i64 p.hold] 35 (0,0)):=by rw [hW1];exact heap_alloc_new _ _
           clear hW1;refine (HC.out W1).mono ?_;rw [HE.out];rintro e w2 ⟨rfl,hb2⟩;have HB2:=jH (a0D hb1 hb2);obtain ⟨hx2,R0⟩:=c0A hx1 hb2;clear hb1 hb2 hx1 hx2)
        | (go_at_call 200
           with_reducible refine (C1.out _).mono ?_
           rintro e w3 ⟨rfl,hb3⟩)
        | (go_at_call 200
           with_reducible refine (C2.out _).mono ?_
           rintro e w4 ⟨rfl,hb4⟩;obtain ⟨hx7,R7⟩:=c0A (heap_alloc_new _ _) hb4;have hk4:=a0D (a0C hb3 _) hb4)
        | (go_at_call 200
           with_reducible refine (C3.out _).mono ?_
           rintro e w5 ⟨rfl,hb5⟩;obtain ⟨hx8,R8⟩:=c0A (heap_alloc_new _ _) hb5;have hk5:=a0D (a0C hk4 _) hb5;have hj5:=a0D (a0C jR _) hb5;have HB5:=jH (a0D HB2.out hk5))
        | (go_at_call 201
           with_reducible refine (CA.out _).mono ?_
           rintro e w6 ⟨rfl,hb6⟩;obtain ⟨hx9,R9⟩:=c0A (heap_alloc_new _ _) hb6;have hk6:=a0D (a0C hj5 _) hb6;have hj6:=a0D (a0C jR _) hb6;have HBF:=jH (a0D HB5.out hj6))
        | (go_at_call 201
           with_reducible refine (CB.out _).mono ?_
           rintro e w7 ⟨rfl,hb7⟩;have HBG:=jH (a0D HBF.out hb7)))
       go_ret
       exact ⟨rfl,by first|exact HBG.out|exact HBF.out⟩
theorem n0P (p:Pol) (load now:Int) (w:World) (hn:I64 load) (hq:I64 p.tg) :
 Calls Tryz.prog 141 #[d0E p,.int .i64 load,.int .i64 now] w (jP w (.bool (q0L p load now))):=by
 by_cases h:g0Z p=false∨now<1∨1073741824<now
 · rw [g1E h]
   exact v0S p load now w h
 · have hp:g0Z p=true:=by
    cases hp:g0Z p
    · exact absurd (Or.inl hp) h
    · rfl
   exact a1M p load now w hp (by omega) (by omega) hn hq
theorem a1U (p:Pol) (load now:Int) (w:World) (hn:I64 load) (hq:I64 p.tg) :
 Calls Tryz.prog 142 #[d0E p,.int .i64 load,.int .i64 now] w (jP w (.int .i64 (g0E p (l1N p load now)))):=by
 have CN:=jH (fun W=>n0P p load now W hn hq);have CW:=jH (fun W=>n0W p load W hn hq);have CB:=jH (fun n W=>l0P p n W);unfold l1N;clear hn hq;generalize q0L p load now=near at CN ⊢
 cases near
 · have HR:=jH (show g0E p (if false=true then now else t0S p load)=g0E p (t0S p load) from rfl)
   rw [HR.out];clear HR;generalize t0S p load=m at CW ⊢;have CB2:=jH (fun W=>CB.out m W);clear CB;generalize g0E p m=r at CB2 ⊢;unfold d0E at CN CW CB2 ⊢
   go_enter Tryz.func142,Tryz.ntmps142
   go_wp2_with (first
    | (go_at_call 141
       refine a0B ?_;intro W1 hW1;have hb1:jB w W1:=by rw [hW1];exact a0C jR _
       have hx1:W1.heap[w.heap.size]?=some (.cells #[.int .i64 p.mn,.int .i64 p.mx,.int .i64 p.tg,.int .i64 p.tol,.int .i64 p.win,.int .i64 p.hold] 35 (0,0)):=by rw [hW1];exact heap_alloc_new _ _
       clear hW1;refine (CN.out W1).mono ?_;rintro e w2 ⟨rfl,hb2⟩;have HB2:=jH (a0D hb1 hb2);obtain ⟨hx2,R0⟩:=c0A hx1 hb2;clear hb1 hb2 hx1 hx2))
   have rc0:∀U,jB w2 U→U.cell? ⟨w.heap.size,0,none⟩=some (.int .i64 p.mn):=fun U hU=>R0 U 0 hU
   have rc1:∀U,jB w2 U→U.cell? ⟨w.heap.size,1,none⟩=some (.int .i64 p.mx):=fun U hU=>R0 U 1 hU
   have rc2:∀U,jB w2 U→U.cell? ⟨w.heap.size,2,none⟩=some (.int .i64 p.tg):=fun U hU=>R0 U 2 hU
   have rc3:∀U,jB w2 U→U.cell? ⟨w.heap.size,3,none⟩=some (.int .i64 p.tol):=fun U hU=>R0 U 3 hU
   have rc4:∀U,jB w2 U→U.cell? ⟨w.heap.size,4,none⟩=some (.int .i64 p.win):=fun U hU=>R0 U 4 hU
   have rc5:∀U,jB w2 U→U.cell? ⟨w.heap.size,5,none⟩=some (.int .i64 p.hold):=fun U hU=>R0 U 5 hU
   clear R0;have hS00:jB w2 w2:=jR;have hS0:jB w2 w2.drew:=hS00.drew
   go_region_held3 (fun U=>jB w2 U)
     (first
       | with_reducible exact hS0
       | with_reducible exact HB3.out
       | with_reducible exact HB4.out
       | with_reducible exact hS00)
     (first
     | (go_at_call 140
        refine a0B ?_;intro W2 hW2;subst hW2;refine (CW.out _).mono ?_;rintro e w3 ⟨rfl,hb3⟩;have HB3:=jH (a0D ‹jB w2 _› hb3);clear hb3)
     | (go_at_call 144
        refine a0B ?_;intro W2 hW2;subst hW2;refine (CB2.out _).mono ?_;rintro e w4 ⟨rfl,hb4⟩;have HB4:=jH (a0D ‹jB w2 _› hb4);clear hb4))
   all_goals
     go_wp2
     go_ret
     exact ⟨rfl,a0D HB2.out HB4.out⟩
 · have HR:=jH (show g0E p (if true=true then now else t0S p load)=g0E p now from rfl)
   rw [HR.out];clear HR;have CB2:=jH (fun W=>CB.out now W);clear CB CW;generalize g0E p now=r at CB2 ⊢;unfold d0E at CN CB2 ⊢
   go_enter Tryz.func142,Tryz.ntmps142
   go_wp2_with (first
    | (go_at_call 141
       refine a0B ?_;intro W1 hW1;have hb1:jB w W1:=by rw [hW1];exact a0C jR _
       have hx1:W1.heap[w.heap.size]?=some (.cells #[.int .i64 p.mn,.int .i64 p.mx,.int .i64 p.tg,.int .i64 p.tol,.int .i64 p.win,.int .i64 p.hold] 35 (0,0)):=by rw [hW1];exact heap_alloc_new _ _
       clear hW1;refine (CN.out W1).mono ?_;rintro e w2 ⟨rfl,hb2⟩;have HB2:=jH (a0D hb1 hb2);obtain ⟨hx2,R0⟩:=c0A hx1 hb2;clear hb1 hb2 hx1 hx2)
    | (go_at_call 144
       refine (CB2.out _).mono ?_;rintro e w4 ⟨rfl,hb4⟩))
   go_ret
   exact ⟨rfl,by repeat (first|exact HB2.out|refine a0D ?_ hb4|refine a0G ?_ _|refine Below.drew ?_)⟩
end
end Go.Proofs.YtmniiodpbebnmaaGreat
