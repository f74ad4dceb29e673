/- Part 28 of the proof. -/
import Derived.Test.YtmniiodpbebnmaaGreatJ27
namespace Go.Proofs.YtmniiodpbebnmaaGreat
set_option linter.unusedSimpArgs false
set_option linter.unusedVariables false
set_option linter.unusedSectionVars false
set_option maxRecDepth 100000
set_option maxHeartbeats 16000000
section
open Go.RowKit Go.Lib
theorem z0L (a b:Nat):decide (s0F a b≤0)=decide (a≤b):=by
 unfold s0F
 by_cases h:a=b
 · rw [if_pos h];subst h;simp
 · rw [if_neg h]
   by_cases k:a<b
   · rw [if_pos k];simp;omega
   · rw [if_neg k];simp;omega
theorem r0L (x y z:Nat) (hx:x<340282366920938463463374607431768211456) (hs:y+z<340282366920938463463374607431768211456) (w:World) :
 Calls Tryz.prog 201 #[l0Y x,l0Y y,l0Y z] w (jP w (.bool (decide (x≤y+z)))):=by
 have C1:=jH (k0E y z hs);obtain ⟨s,hse⟩:∃s,s=y+z:=⟨_,rfl⟩;rw [←hse] at C1 hs ⊢;have C2:=jH (z0C x s hx hs);have HC:=jH (z0L x s);clear hse hx hs;generalize s0F x s=c at C2 HC;generalize decide (x≤s)=b at HC ⊢;unfold l0Y at C1 C2 ⊢;generalize x / 18446744073709551616=x1 at *;generalize x % 18446744073709551616=x0 at *;generalize y / 18446744073709551616=y1 at *;generalize y % 18446744073709551616=y0 at *
 generalize z / 18446744073709551616=z1 at *;generalize z % 18446744073709551616=z0 at *;generalize s / 18446744073709551616=s1 at *;generalize s % 18446744073709551616=s0 at *
 go_enter Tryz.func201,Tryz.ntmps201
 go_wp2_with (first
  | (go_at_call 242
     refine a0B ?_;intro W1 hW1;have hb1:jB w W1:=by rw [hW1];exact a0C (a0C (a0C jR _) _) _
     have hx1:W1.heap[w.heap.size]?=some (.cells #[.int .u64 x1,.int .u64 x0] 272 (0,0)):=by rw [hW1];exact f0B _ _ _ _
     clear hW1;refine (C1.out W1).mono ?_;rintro e w2 ⟨rfl,hb2⟩;have HB2:=jH (a0D hb1 hb2);have hx2:=(hb2.block w.heap.size (jL hx1)).trans hx1;obtain ⟨b1,b2,b3⟩:=a0A jR hx2;clear hb1 hb2 hx1 hx2)
  | (go_at_call 243;refine (C2.out _).mono ?_;rintro e w3 ⟨rfl,hb3⟩;have HB3:=jH (a0D (a0C HB2.out _) hb3);clear hb3))
 go_ret
 exact ⟨by rw [←HC.out];rfl,HB3.out⟩
theorem v0D {p:Pol} {load now:Int} (h:d0G p=false∨now<1∨1073741824<now):l0D p load now=false:=by
 unfold l0D
 rcases h with h|h
 · rw [h];rfl
 · have:decide (1≤now∧now≤1073741824)=false:=by simp;omega
   rw [this];simp
theorem a1M (p:Pol) (load now:Int) (w:World) (h:d0G p=false∨now<1∨1073741824<now) :
 Calls Tryz.prog 141 #[b0W p,.int .i64 load,.int .i64 now] w (jP w (.bool false)):=by
 have HC:=jH (b0E p)
 rcases Bool.eq_false_or_eq_true (d0G p) with hp|hp
 · have HE:=jH (show j0N p=0 by unfold j0N;rw [hp];rfl)
   have h:now<1∨1073741824<now:=by
    rcases h with h|h
    · rw [hp] at h;cases h
    · exact h
   clear hp;unfold b0W;unfold b0W at HC
   rcases h with h|h
   · go_enter Tryz.func141,Tryz.ntmps141
     go_wp2_with (go_at_call 103;refine (HC.out _).mono ?_;rw [HE.out];rintro e w2 ⟨rfl,hb2⟩;have HB:=jH hb2;clear hb2)
     go_ret
     exact ⟨rfl,a0D (a0C jR _) HB.out⟩
   · have h1:¬now<1:=by omega
     have h2:decide (now<1)=false:=by simp;omega
     go_enter Tryz.func141,Tryz.ntmps141
     go_wp2_with (go_at_call 103;refine (HC.out _).mono ?_;rw [HE.out];rintro e w2 ⟨rfl,hb2⟩;have HB:=jH hb2;clear hb2)
     go_ret
     exact ⟨rfl,a0D (a0C jR _) HB.out⟩
 · have HE:=jH (show j0N p=7 by unfold j0N;rw [hp];rfl)
   clear hp h;unfold b0W;unfold b0W at HC
   go_enter Tryz.func141,Tryz.ntmps141
   go_wp2_with (go_at_call 103;refine (HC.out _).mono ?_;rw [HE.out];rintro e w2 ⟨rfl,hb2⟩;have HB:=jH hb2;clear hb2)
   go_ret
   exact ⟨rfl,a0D (a0C jR _) HB.out⟩
theorem b0H {w1 w2:World} {B:Nat} {cs:Array Value} {T:TypeId} (hx:w1.heap[B]?=some (.cells cs T (0,0))) (hb:jB w1 w2):w2.heap[B]?=some (.cells cs T (0,0))∧∀W j,jB w2 W→W.cell? ⟨B,j,none⟩=cs[j]?:=by
 have hx2:=(hb.block B (jL hx)).trans hx;exact ⟨hx2,fun W j h=>(a0A h hx2).1 j⟩
theorem h1C (p:Pol) (load now:Int) (w:World) (hp:d0G p=true) (h1:1≤now) (h2:now≤1073741824) (hn:I64 load) (hq:I64 p.tg) :
 Calls Tryz.prog 141 #[b0W p,.int .i64 load,.int .i64 now] w (jP w (.bool (l0D p load now))):=by
 have hpb:=hp;unfold d0G at hpb;simp only [decide_eq_true_eq] at hpb
 unfold I64 at hn hq;obtain ⟨L,hL⟩:∃L,L=load.toNat:=⟨_,rfl⟩;obtain ⟨N,hN⟩:∃N,N=now.toNat:=⟨_,rfl⟩;obtain ⟨T,hT⟩:∃T,T=p.tg.toNat:=⟨_,rfl⟩;obtain ⟨O,hO⟩:∃O,O=p.tol.toNat:=⟨_,rfl⟩;have hL2:L≤9223372036854775807:=by omega
 have hT2:T≤9223372036854775807:=by omega
 obtain ⟨N1,hN1⟩:∃N1,N1=N * 1000:=⟨_,rfl⟩;obtain ⟨NO,hNO⟩:∃NO,NO=N * O:=⟨_,rfl⟩;have hNO2:NO≤1073741824 * 999:=hNO ▸ Nat.mul_le_mul (by omega) (by omega);obtain ⟨m1,hm1⟩:∃m,m=L * 1000:=⟨_,rfl⟩;obtain ⟨m2,hm2⟩:∃m,m=N1 * T:=⟨_,rfl⟩;obtain ⟨m3,hm3⟩:∃m,m=NO * T:=⟨_,rfl⟩;have l1:m1≤9223372036854775807000:=by omega
 have l2:m2≤1073741824000 * 9223372036854775807:=hm2 ▸ Nat.mul_le_mul (by omega) hT2;have l3:m3≤(1073741824 * 999) * 9223372036854775807:=hm3 ▸ Nat.mul_le_mul hNO2 hT2;have HF:l0D p load now=(decide (m1≤m2+m3) && decide (m2≤m1+m3)):=by
  unfold l0D;rw [hp,Bool.true_and,decide_eq_true (And.intro h1 h2),Bool.true_and,←hL,←hN,←hT,←hO];rw [show N * T * 1000=m2 by rw [hm2,hN1,Nat.mul_right_comm],show N * T * O=m3 by rw [hm3,hNO,Nat.mul_right_comm],←hm1]
 rw [HF];have HC:=jH (b0E p);have HE:=jH (show j0N p=0 by unfold j0N;rw [hp];rfl);have C1:=jH (fun W=>show Calls Tryz.prog 200 #[.int .u64 (L:Nat),.int .u64 1000] W (jP W (l0Y (L * 1000))) from k0J L 1000 (by omega) (by decide) W);rw [←hm1] at C1;have C2:=jH (fun W=>k0J N1 T (by omega) (by omega) W);rw [←hm2] at C2;have C3:=jH (fun W=>k0J NO T (by omega) (by omega) W)
 rw [←hm3] at C3;have CA:=jH (fun W=>r0L m1 m2 m3 (by omega) (by omega) W);have CB:=jH (fun W=>r0L m2 m1 m3 (by omega) (by omega) W);have g1:IntKind.u64.wrap (max load 0)=(L:Int):=by rw [IntKind.wrap_u64];omega
 have g2:IntKind.u64.wrap now=(N:Int):=by rw [IntKind.wrap_u64];omega
 have g3:IntKind.u64.wrap ((N:Int) * 1000)=(N1:Int):=by rw [IntKind.wrap_u64];omega
 have g4:IntKind.u64.wrap p.tg=(T:Int):=by rw [IntKind.wrap_u64];omega
 have g5:IntKind.u64.wrap p.tol=(O:Int):=by rw [IntKind.wrap_u64];omega
 have g6:IntKind.u64.wrap ((N:Int) * (O:Int))=(NO:Int):=by rw [←Int.natCast_mul,←hNO];exact c0E NO (by omega)
 have q1:¬now<1:=by omega
 have q2:¬1073741824<now:=by omega
 have q3:decide (now<1)=false:=by simp;omega
 have q4:decide (1073741824<now)=false:=by simp;omega
 have HS:=jH (show m1=m2→(decide (m1≤m2+m3) && decide (m2≤m1+m3))=true by intro h;simp;omega);have HW:=jH (show m1≠m2→m1 / 18446744073709551616≠m2 / 18446744073709551616∨m1 / 18446744073709551616=m2 / 18446744073709551616∧m1 % 18446744073709551616≠m2 % 18446744073709551616 by intro h;omega);clear hL hN hT hO hL2 hT2 hN1 hNO hNO2 hm1 hm2 hm3 l1 l2 l3 HF hpb hn hq h1 h2 hp;unfold b0W;unfold b0W at HC
 unfold l0Y at C1 C2 C3 CA CB;generalize decide (m1≤m2+m3)=ba at *;generalize decide (m2≤m1+m3)=bb at *
 by_cases he:m1=m2
 · have HR:=jH (HS.out he)
   subst he;clear HW HS CA CB;rw [HR.out];generalize m1 / 18446744073709551616=a1 at *;generalize m1 % 18446744073709551616=a0 at *;generalize m3 / 18446744073709551616=c1 at *;generalize m3 % 18446744073709551616=c0 at *
   go_enter Tryz.func141,Tryz.ntmps141
   go_wp2_with (first
    | (go_at_call 103
       refine a0B ?_;intro W1 hW1;have hb1:jB w W1:=by rw [hW1];exact a0C jR _
       have hx1:W1.heap[w.heap.size]?=some (.cells #[.int .i64 p.mn,.int .i64 p.mx,.int .i64 p.tg,.int .i64 p.tol,.int .i64 p.win,.int .i64 p.hold] 35 (0,0)):=by rw [hW1];exact heap_alloc_new _ _
       clear hW1;refine (HC.out W1).mono ?_;rw [HE.out];rintro e w2 ⟨rfl,hb2⟩;have HB2:=jH (a0D hb1 hb2);obtain ⟨hx2,R0⟩:=b0H hx1 hb2;clear hb1 hb2 hx1 hx2)
    | (go_at_call 200
       with_reducible refine (C1.out _).mono ?_
       rintro e w3 ⟨rfl,hb3⟩)
    | (go_at_call 200
       with_reducible refine (C2.out _).mono ?_
       rintro e w4 ⟨rfl,hb4⟩;obtain ⟨hx7,R7⟩:=b0H (heap_alloc_new _ _) hb4;have hk4:=a0D (a0C hb3 _) hb4)
    | (go_at_call 200
       with_reducible refine (C3.out _).mono ?_
       rintro e w5 ⟨rfl,hb5⟩;obtain ⟨hx8,R8⟩:=b0H (heap_alloc_new _ _) hb5;have hk5:=a0D (a0C hk4 _) hb5;have hj5:=a0D (a0C jR _) hb5;have HB5:=jH (a0D HB2.out hk5)))
   go_ret
   exact ⟨rfl,(by repeat (first|exact HB5.out|refine a0C ?_ _|refine a0F ?_ _|refine Below.drew ?_))⟩
 · have HD:=HW.out he
   clear HW HS he;generalize m1 / 18446744073709551616=a1 at *;generalize m1 % 18446744073709551616=a0 at *;generalize m2 / 18446744073709551616=b1 at *;generalize m2 % 18446744073709551616=b0 at *;generalize m3 / 18446744073709551616=c1 at *;generalize m3 % 18446744073709551616=c0 at *;have e1:((a1:Int) == (b1:Int))=decide (a1=b1):=by rw [Bool.eq_iff_iff];simp;omega
   rcases HD with hd|⟨rfl,hd⟩
   · have x1:((a1:Int) == (b1:Int))=false:=by simp;omega
     have x2:decide (a1=b1)=false:=by simp;omega
     clear e1
     cases ba
     all_goals
       go_enter Tryz.func141,Tryz.ntmps141
       go_wp2_with (first
        | (go_at_call 103
           refine a0B ?_;intro W1 hW1;have hb1:jB w W1:=by rw [hW1];exact a0C jR _
           have hx1:W1.heap[w.heap.size]?=some (.cells #[.int .i64 p.mn,.int .i64 p.mx,.int .i64 p.tg,.int .i64 p.tol,.int .i64 p.win,.int .i64 p.hold] 35 (0,0)):=by rw [hW1];exact heap_alloc_new _ _
           clear hW1;refine (HC.out W1).mono ?_;rw [HE.out];rintro e w2 ⟨rfl,hb2⟩;have HB2:=jH (a0D hb1 hb2);obtain ⟨hx2,R0⟩:=b0H hx1 hb2;clear hb1 hb2 hx1 hx2)
        | (go_at_call 200
           with_reducible refine (C1.out _).mono ?_
           rintro e w3 ⟨rfl,hb3⟩)
        | (go_at_call 200
           with_reducible refine (C2.out _).mono ?_
           rintro e w4 ⟨rfl,hb4⟩;obtain ⟨hx7,R7⟩:=b0H (heap_alloc_new _ _) hb4;have hk4:=a0D (a0C hb3 _) hb4)
        | (go_at_call 200
           with_reducible refine (C3.out _).mono ?_
           rintro e w5 ⟨rfl,hb5⟩;obtain ⟨hx8,R8⟩:=b0H (heap_alloc_new _ _) hb5;have hk5:=a0D (a0C hk4 _) hb5;have hj5:=a0D (a0C jR _) hb5;have HB5:=jH (a0D HB2.out hk5))
        | (go_at_call 201
           with_reducible refine (CA.out _).mono ?_
           rintro e w6 ⟨rfl,hb6⟩;obtain ⟨hx9,R9⟩:=b0H (heap_alloc_new _ _) hb6;have hk6:=a0D (a0C hj5 _) hb6;have hj6:=a0D (a0C jR _) hb6;have HBF:=jH (a0D HB5.out hj6))
        | (go_at_call 201
           with_reducible refine (CB.out _).mono ?_
           rintro e w7 ⟨rfl,hb7⟩;have HBG:=jH (a0D HBF.out hb7)))
       go_ret
       exact ⟨rfl,by first|exact HBG.out|exact HBF.out⟩
   · have x1:((a0:Int) == (b0:Int))=false:=by simp;omega
     have x2:decide (a0=b0)=false:=by simp;omega
     clear e1
     cases ba
     all_goals
       go_enter Tryz.func141,Tryz.ntmps141
       go_wp2_with (first
        | (go_at_call 103
           refine a0B ?_;intro W1 hW1;have hb1:jB w W1:=by rw [hW1];exact a0C jR _
           have hx1:W1.heap[w.heap.size]?=some (.cells #[.int .i64 p.mn,.int .i64 p.mx,.int .i64 p.tg,.int .i64 p.tol,.int .i64 p.win,.int .i64 p.hold] 35 (0,0)):=by rw [hW1];exact heap_alloc_new _ _
           clear hW1;refine (HC.out W1).mono ?_;rw [HE.out];rintro e w2 ⟨rfl,hb2⟩;have HB2:=jH (a0D hb1 hb2);obtain ⟨hx2,R0⟩:=b0H hx1 hb2;clear hb1 hb2 hx1 hx2)
        | (go_at_call 200
           with_reducible refine (C1.out _).mono ?_
           rintro e w3 ⟨rfl,hb3⟩)
        | (go_at_call 200
           with_reducible refine (C2.out _).mono ?_
           rintro e w4 ⟨rfl,hb4⟩;obtain ⟨hx7,R7⟩:=b0H (heap_alloc_new _ _) hb4;have hk4:=a0D (a0C hb3 _) hb4)
        | (go_at_call 200
           with_reducible refine (C3.out _).mono ?_
           rintro e w5 ⟨rfl,hb5⟩;obtain ⟨hx8,R8⟩:=b0H (heap_alloc_new _ _) hb5;have hk5:=a0D (a0C hk4 _) hb5;have hj5:=a0D (a0C jR _) hb5;have HB5:=jH (a0D HB2.out hk5))
        | (go_at_call 201
           with_reducible refine (CA.out _).mono ?_
           rintro e w6 ⟨rfl,hb6⟩;obtain ⟨hx9,R9⟩:=b0H (heap_alloc_new _ _) hb6;have hk6:=a0D (a0C hj5 _) hb6;have hj6:=a0D (a0C jR _) hb6;have HBF:=jH (a0D HB5.out hj6))
        | (go_at_call 201
           with_reducible refine (CB.out _).mono ?_
           rintro e w7 ⟨rfl,hb7⟩;have HBG:=jH (a0D HBF.out hb7)))
       go_ret
       exact ⟨rfl,by first|exact HBG.out|exact HBF.out⟩
theorem p0A (p:Pol) (load now:Int) (w:World) (hn:I64 load) (hq:I64 p.tg) :
 Calls Tryz.prog 141 #[b0W p,.int .i64 load,.int .i64 now] w (jP w (.bool (l0D p load now))):=by
 by_cases h:d0G p=false∨now<1∨1073741824<now
 · rw [v0D h]
   exact a1M p load now w h
 · have hp:d0G p=true:=by
    cases hp:d0G p
    · exact absurd (Or.inl hp) h
    · rfl
   exact h1C p load now w hp (by omega) (by omega) hn hq
theorem e1S (p:Pol) (load now:Int) (w:World) (hn:I64 load) (hq:I64 p.tg) :
 Calls Tryz.prog 142 #[b0W p,.int .i64 load,.int .i64 now] w (jP w (.int .i64 (f0W p (b1J p load now)))):=by
 have CN:=jH (fun W=>p0A p load now W hn hq);have CW:=jH (fun W=>p0G p load W hn hq);have CB:=jH (fun n W=>n0H p n W);unfold b1J;clear hn hq;generalize l0D p load now=near at CN ⊢
 cases near
 · have HR:=jH (show f0W p (if false=true then now else o0Z p load)=f0W p (o0Z p load) from rfl)
   rw [HR.out];clear HR;generalize o0Z p load=m at CW ⊢;have CB2:=jH (fun W=>CB.out m W);clear CB;generalize f0W p m=r at CB2 ⊢;unfold b0W at CN CW CB2 ⊢
   go_enter Tryz.func142,Tryz.ntmps142
   go_wp2_with (first
    | (go_at_call 141
       refine a0B ?_;intro W1 hW1;have hb1:jB w W1:=by rw [hW1];exact a0C jR _
       have hx1:W1.heap[w.heap.size]?=some (.cells #[.int .i64 p.mn,.int .i64 p.mx,.int .i64 p.tg,.int .i64 p.tol,.int .i64 p.win,.int .i64 p.hold] 35 (0,0)):=by rw [hW1];exact heap_alloc_new _ _
       clear hW1;refine (CN.out W1).mono ?_;rintro e w2 ⟨rfl,hb2⟩;have HB2:=jH (a0D hb1 hb2);obtain ⟨hx2,R0⟩:=b0H hx1 hb2;clear hb1 hb2 hx1 hx2))
   have rc0:∀U,jB w2 U→U.cell? ⟨w.heap.size,0,none⟩=some (.int .i64 p.mn):=fun U hU=>R0 U 0 hU
   have rc1:∀U,jB w2 U→U.cell? ⟨w.heap.size,1,none⟩=some (.int .i64 p.mx):=fun U hU=>R0 U 1 hU
   have rc2:∀U,jB w2 U→U.cell? ⟨w.heap.size,2,none⟩=some (.int .i64 p.tg):=fun U hU=>R0 U 2 hU
   have rc3:∀U,jB w2 U→U.cell? ⟨w.heap.size,3,none⟩=some (.int .i64 p.tol):=fun U hU=>R0 U 3 hU
   have rc4:∀U,jB w2 U→U.cell? ⟨w.heap.size,4,none⟩=some (.int .i64 p.win):=fun U hU=>R0 U 4 hU
   have rc5:∀U,jB w2 U→U.cell? ⟨w.heap.size,5,none⟩=some (.int .i64 p.hold):=fun U hU=>R0 U 5 hU
   clear R0;have hS00:jB w2 w2:=jR;have hS0:jB w2 w2.drew:=hS00.drew
   go_region_held3 (fun U=>jB w2 U)
     (first
       | with_reducible exact hS0
       | with_reducible exact HB3.out
       | with_reducible exact HB4.out
       | with_reducible exact hS00)
     (first
     | (go_at_call 140
        refine a0B ?_;intro W2 hW2;subst hW2;refine (CW.out _).mono ?_;rintro e w3 ⟨rfl,hb3⟩;have HB3:=jH (a0D ‹jB w2 _› hb3);clear hb3)
     | (go_at_call 144
        refine a0B ?_;intro W2 hW2;subst hW2;refine (CB2.out _).mono ?_;rintro e w4 ⟨rfl,hb4⟩;have HB4:=jH (a0D ‹jB w2 _› hb4);clear hb4))
   all_goals
     go_wp2
     go_ret
     exact ⟨rfl,a0D HB2.out HB4.out⟩
 · have HR:=jH (show f0W p (if true=true then now else o0Z p load)=f0W p now from rfl)
   rw [HR.out];clear HR;have CB2:=jH (fun W=>CB.out now W);clear CB CW;generalize f0W p now=r at CB2 ⊢;unfold b0W at CN CB2 ⊢
   go_enter Tryz.func142,Tryz.ntmps142
   go_wp2_with (first
    | (go_at_call 141
       refine a0B ?_;intro W1 hW1;have hb1:jB w W1:=by rw [hW1];exact a0C jR _
       have hx1:W1.heap[w.heap.size]?=some (.cells #[.int .i64 p.mn,.int .i64 p.mx,.int .i64 p.tg,.int .i64 p.tol,.int .i64 p.win,.int .i64 p.hold] 35 (0,0)):=by rw [hW1];exact heap_alloc_new _ _
       clear hW1;refine (CN.out W1).mono ?_;rintro e w2 ⟨rfl,hb2⟩;have HB2:=jH (a0D hb1 hb2);obtain ⟨hx2,R0⟩:=b0H hx1 hb2;clear hb1 hb2 hx1 hx2)
    | (go_at_call 144
       refine (CB2.out _).mono ?_;rintro e w4 ⟨rfl,hb4⟩))
   go_ret
   exact ⟨rfl,by repeat (first|exact HB2.out|refine a0D ?_ hb4|refine a0F ?_ _|refine Below.drew ?_)⟩
def x0U (l:List Smp) (b:Int):Int:=l.foldl (fun b x=>max b x.1) b
theorem v0M (l:List Smp) (x:Smp) (b:Int):x0U (l++[x]) b=max (x0U l b) x.1:=by simp [x0U]
theorem c1Z {l:List Smp} (h:0<l.length):x0U l l[0].1=i0Y l:=by
 cases l with
 | nil=>simp at h
 | cons s l=>simp [x0U,i0Y]
theorem c1S (p:Pol) {l:List Adv} (h:0<l.length):l1A p l=(l[l.length - 1]'(by omega)).repl:=by
 unfold l1A;rw [List.getLast?_eq_getElem?,List.getElem?_eq_getElem (by omega)]
theorem y0M (v:Value) (l:List Smp) (w:World) (hv:a0O 2 b0X w v l) (hl:l.length≤1000000) (h0:0<l.length) :
 Calls Tryz.prog 138 #[v] w (jP w (.tuple #[.int .i64 (i0Y l),.bool true])):=by
 obtain ⟨A,c,rfl⟩:=hv.form;have HV:=jH hv;have HL:=jH hl;have hl9:l.length≤9223372036854775807:=by omega
 have z8:(0:Int)<(l.length:Int):=by omega
 have z9:¬((l.length:Nat):Int)=0:=by omega
 have z7:(((l.length:Nat):Int) == 0)=false:=beq_eq_false_iff_ne.2 z9;have HA:=jH (c1Z h0);obtain ⟨b0,o0,rfl,hb0,hc0⟩:=hv.at_ h0;generalize l[0]=s at HA hc0;have c0:=hc0 0 _ rfl;rw [Nat.add_zero] at c0;clear hv hl hc0
 go_enter Tryz.func138,Tryz.ntmps138
 go_wp2
 go_loopg [4,16] l.length (fun g s7 s12 wr=>∃k:Nat,k≤l.length∧l.length - k≤g∧s12=.int .i64 k∧s7=.int .i64 (x0U (l.take k) s.1)∧jB w wr)
 case atStart=>exact ⟨0,Nat.zero_le _,Nat.le_refl _,rfl,rfl,jR⟩
 case round =>
  obtain ⟨k,hk,hg,rfl,rfl,hb⟩:=hrel;rename World=>wr
  have HB:=jH hb;clear hb
  by_cases hlt:k<l.length
  · obtain ⟨b1,o1,e1,hb1,hc⟩:=(HV.out.below HB.out).at_ hlt
    cases e1
    have z1:(0:Int)≤(k:Int):=by omega
    have z2:(k:Int)<(l.length:Int):=by omega
    have HTK:=jH (show x0U (l.take (k+1)) s.1=max (x0U (l.take k) s.1) l[k].1 by rw [List.take_succ_eq_append_getElem hlt,v0M]);generalize l[k]=x at hc HTK;generalize x0U (l.take k) s.1=q at HTK;have d0:=hc 0 _ rfl;have d1:=hc 1 _ rfl;rw [Nat.add_zero] at d0;have HK:=jH hlt;clear hc
    as_aux_lemma =>
     go_wp2_with fail
     go_roundg (l.length - (k+1))
     case measure=>omega
     case rel=>exact ⟨k+1,HK.out,Nat.le_refl _,by go_num,by rw [HTK.out],by first|exact HB.out|exact a0C HB.out _⟩
  · obtain rfl:k=l.length:=by omega
    rw [List.take_length];obtain ⟨q,hq⟩:∃q,q=x0U l s.1:=⟨_,rfl⟩;rw [←hq];rw [←hq] at HA;have HST:=HA;clear hq;go_wp2_with fail
    exact bodyPost_ret (v:=.tuple #[.int .i64 q,.bool true]) (by simp [results,Tryz.results138,go_sem]) rfl ⟨by rw [←HST.out],HB.out⟩
theorem b1E (v:Value) (l:List Smp) (w:World) (hv:a0O 2 b0X w v l) (hl:l.length≤1000000) (h0:0<l.length) :
 Calls Tryz.prog 177 #[v] w (jP w (.int .i64 (i0Y l))):=by
 obtain ⟨A,c,rfl⟩:=hv.form;have HV:=jH hv;have HL:=jH hl;have hl9:l.length≤9223372036854775807:=by omega
 have z8:(0:Int)<(l.length:Int):=by omega
 have z9:¬((l.length:Nat):Int)=0:=by omega
 have z7:(((l.length:Nat):Int) == 0)=false:=beq_eq_false_iff_ne.2 z9;have HA:=jH (c1Z h0);obtain ⟨b0,o0,rfl,hb0,hc0⟩:=hv.at_ h0;generalize l[0]=s at HA hc0;have c0:=hc0 0 _ rfl;rw [Nat.add_zero] at c0;clear hv hl hc0
 go_enter Tryz.func177,Tryz.ntmps177
 go_wp2
 go_loopg [3,4] l.length (fun g s7 s12 wr=>∃k:Nat,k≤l.length∧l.length - k≤g∧s12=.int .i64 k∧s7=.int .i64 (x0U (l.take k) s.1)∧jB w wr)
 case atStart=>exact ⟨0,Nat.zero_le _,Nat.le_refl _,rfl,rfl,jR⟩
 case round =>
  obtain ⟨k,hk,hg,rfl,rfl,hb⟩:=hrel;rename World=>wr
  have HB:=jH hb;clear hb
  by_cases hlt:k<l.length
  · obtain ⟨b1,o1,e1,hb1,hc⟩:=(HV.out.below HB.out).at_ hlt
    cases e1
    have z1:(0:Int)≤(k:Int):=by omega
    have z2:(k:Int)<(l.length:Int):=by omega
    have HTK:=jH (show x0U (l.take (k+1)) s.1=max (x0U (l.take k) s.1) l[k].1 by rw [List.take_succ_eq_append_getElem hlt,v0M]);generalize l[k]=x at hc HTK;generalize x0U (l.take k) s.1=q at HTK;have d0:=hc 0 _ rfl;have d1:=hc 1 _ rfl;rw [Nat.add_zero] at d0;have HK:=jH hlt;clear hc
    by_cases q1:q<x.1
    · have HN:=jH (show max q x.1=x.1 by omega)
      as_aux_lemma =>
       go_wp2_with fail
       go_roundg (l.length - (k+1))
       case measure=>omega
       case rel=>exact ⟨k+1,HK.out,Nat.le_refl _,by go_num,by rw [HTK.out,HN.out],by first|exact HB.out|exact a0C HB.out _⟩
    · have HN:=jH (show max q x.1=q by omega)
      as_aux_lemma =>
       go_wp2_with fail
       go_roundg (l.length - (k+1))
       case measure=>omega
       case rel=>exact ⟨k+1,HK.out,Nat.le_refl _,by go_num,by rw [HTK.out,HN.out],by first|exact HB.out|exact a0C HB.out _⟩
  · obtain rfl:k=l.length:=by omega
    rw [List.take_length];obtain ⟨q,hq⟩:∃q,q=x0U l s.1:=⟨_,rfl⟩;rw [←hq];rw [←hq] at HA;have HST:=HA;clear hq;go_wp2_with fail
    go_ret
    exact ⟨by rw [←HST.out];rfl,HB.out⟩
theorem f1T (p:Pol) (held:Bool) (op now til:Int) (w:World) :
 Calls Tryz.prog 145 #[b0W p,.bool held,.int .i64 op,.int .i64 now,.int .i64 til] w (jP w (.int .i64 (p1P p held op now til))):=by
 unfold b0W;obtain ⟨q,hq⟩:∃q,q=p1P p held op now til:=⟨_,rfl⟩;rw [←hq];have HQ:=jH hq;clear hq
 cases held
 all_goals
   go_enter Tryz.func145,Tryz.ntmps145
   go_wp2
   all_goals
     go_ret
     refine ⟨c0G ?_,a0C jR _⟩;rw [HQ.out];unfold p1P;simp only [Bool.false_eq_true,if_false,if_true,ite_false,ite_true]
     repeat' split
     all_goals omega
theorem h1W (p:Pol) (held:Bool) (op now til:Int) (w:World) :
 Calls Tryz.prog 183 #[b0W p,.bool held,.int .i64 op,.int .i64 now,.int .i64 til] w (jP w (.int .i64 (p1P p held op now til))):=by
 unfold b0W;obtain ⟨q,hq⟩:∃q,q=p1P p held op now til:=⟨_,rfl⟩;rw [←hq];have HQ:=jH hq;clear hq
 cases held
 all_goals
   go_enter Tryz.func183,Tryz.ntmps183
   go_wp2
   all_goals
     go_ret
     refine ⟨c0G ?_,a0C jR _⟩;rw [HQ.out];unfold p1P;simp only [Bool.false_eq_true,if_false,if_true,ite_false,ite_true]
     repeat' split
     all_goals omega
theorem g1V (p:Pol) (v:Value) (l:List Adv) (w:World) (hv:a0O 5 c0V w v l) (hl:l.length≤1000000) :
 Calls Tryz.prog 139 #[b0W p,v] w (jP w (.int .i64 (l1A p l))):=by
 obtain ⟨A,c,rfl⟩:=hv.form;unfold b0W
 by_cases h0:0<l.length
 · have HN:=jH (c1S p h0)
   have z9:¬((l.length:Nat):Int)=0:=by omega
   have z7:(((l.length:Nat):Int) == 0)=false:=beq_eq_false_iff_ne.2 z9;obtain ⟨n,hn⟩:∃n,n=l.length - 1:=⟨_,rfl⟩;have hlt:n<l.length:=by omega
   have HN2:=jH (show l1A p l=l[n].repl by rw [HN.out];simp only [hn]);obtain ⟨b0,o0,rfl,hb0,hc0⟩:=(hv.below (a0C (Below.refl w.heap.size w) (.cells #[.int .i64 p.mn,.int .i64 p.mx,.int .i64 p.tg,.int .i64 p.tol,.int .i64 p.win,.int .i64 p.hold] 35))).at_ hlt;have hw:wrap64 ((n:Nat):Int)=(n:Nat):=by unfold wrap64;omega
   have hw2:((l.length:Nat) - 1:Int)=(n:Nat):=by omega
   have z1:(0:Int)≤(n:Int):=by omega
   have z2:(n:Int)<(l.length:Int):=by omega
   generalize l[n]=x at hc0 HN2;have c3:=hc0 3 _ rfl;clear hv hl hc0 HN hn
   go_enter Tryz.func139,Tryz.ntmps139
   go_wp2
   go_ret
   exact ⟨by rw [HN2.out];rfl,a0C jR _⟩
 · have hz:l=[]:=List.length_eq_zero_iff.1 (by omega)
   subst hz;have HN:=jH (show l1A p []=p.mn from rfl);clear hv hl
   go_enter Tryz.func139,Tryz.ntmps139
   go_wp2
   go_ret
   exact ⟨by rw [HN.out];rfl,a0C jR _⟩
theorem f1V (p:Pol) (v:Value) (l:List Adv) (w:World) (hv:a0O 5 c0V w v l) (hl:l.length≤1000000) :
 Calls Tryz.prog 179 #[b0W p,v] w (jP w (.int .i64 (l1A p l))):=by
 obtain ⟨A,c,rfl⟩:=hv.form;unfold b0W
 by_cases h0:0<l.length
 · have HN:=jH (c1S p h0)
   have z9:¬((l.length:Nat):Int)=0:=by omega
   have z7:(((l.length:Nat):Int) == 0)=false:=beq_eq_false_iff_ne.2 z9;obtain ⟨n,hn⟩:∃n,n=l.length - 1:=⟨_,rfl⟩;have hlt:n<l.length:=by omega
   have HN2:=jH (show l1A p l=l[n].repl by rw [HN.out];simp only [hn]);obtain ⟨b0,o0,rfl,hb0,hc0⟩:=(hv.below (a0C (Below.refl w.heap.size w) (.cells #[.int .i64 p.mn,.int .i64 p.mx,.int .i64 p.tg,.int .i64 p.tol,.int .i64 p.win,.int .i64 p.hold] 35))).at_ hlt;have hw:wrap64 ((n:Nat):Int)=(n:Nat):=by unfold wrap64;omega
   have hw2:((l.length:Nat) - 1:Int)=(n:Nat):=by omega
   have z1:(0:Int)≤(n:Int):=by omega
   have z2:(n:Int)<(l.length:Int):=by omega
   generalize l[n]=x at hc0 HN2;have c3:=hc0 3 _ rfl;clear hv hl hc0 HN hn
   go_enter Tryz.func179,Tryz.ntmps179
   go_wp2
   go_ret
   exact ⟨by rw [HN2.out];rfl,a0C jR _⟩
 · have hz:l=[]:=List.length_eq_zero_iff.1 (by omega)
   subst hz;have HN:=jH (show l1A p []=p.mn from rfl);clear hv hl
   go_enter Tryz.func179,Tryz.ntmps179
   go_wp2
   go_ret
   exact ⟨by rw [HN.out];rfl,a0C jR _⟩
theorem x0Z (v:Value) (l:List Adv) (tick hold:Int) (w:World) (hv:a0O 5 c0V w v l) (hl:l.length≤1000000) (h1:I64 tick) (h2:I64 hold) :
 Calls Tryz.prog 202 #[v,.int .i64 tick,.int .i64 hold] w (jP w (.tuple #[.int .i64 (o0J l tick hold).1,.bool (o0J l tick hold).2])):=by
 obtain ⟨A,c,rfl⟩:=hv.form;have HV:=jH hv;have HL:=jH hl;have hl9:l.length≤9223372036854775807:=by omega
 have C1:=jH (fun W=>r0V tick hold W h1 h2);unfold o0J;generalize d0R (tick - hold)=a at C1;clear hv hl h1 h2
 go_enter Tryz.func202,Tryz.ntmps202
 go_wp2_with (go_at_call 241;refine (C1.out _).mono ?_;rintro e w2 ⟨rfl,rfl⟩)
 go_loopg [9,10,18] l.length (fun g s7 s8 s12 wr=>∃k:Nat,k≤l.length∧l.length - k≤g∧s12=.int .i64 k∧s7=.int .i64 ((l.take k).foldl (e0Z a tick) (0,false)).1∧s8=.bool ((l.take k).foldl (e0Z a tick) (0,false)).2∧jB w wr)
 case atStart=>exact ⟨0,Nat.zero_le _,Nat.le_refl _,rfl,rfl,rfl,jR⟩
 case round =>
  obtain ⟨k,hk,hg,rfl,rfl,rfl,hb⟩:=hrel;rename World=>wr
  have HB:=jH hb;clear hb
  by_cases hlt:k<l.length
  · obtain ⟨b1,o1,rfl,hb1,hc⟩:=(HV.out.below HB.out).at_ hlt
    have z1:(0:Int)≤(k:Int):=by omega
    have z2:(k:Int)<(l.length:Int):=by omega
    have HTK:=jH (show (l.take (k+1)).foldl (e0Z a tick) (0,false)=e0Z a tick ((l.take k).foldl (e0Z a tick) (0,false)) l[k] by rw [List.take_succ_eq_append_getElem hlt,s0C]);generalize l[k]=x at hc HTK;generalize (l.take k).foldl (e0Z a tick) (0,false)=st at HTK;obtain ⟨best,is⟩:=st;have d0:=hc 0 _ rfl;have d1:=hc 1 _ rfl;have d2:=hc 2 _ rfl;have d3:=hc 3 _ rfl;have d4:=hc 4 _ rfl;rw [Nat.add_zero] at d0
    have HK:=jH hlt;clear hc;dsimp only
    by_cases q1:a<x.tick
    · by_cases q2:x.tick≤tick
      · cases is
        · have HN:=jH (show e0Z a tick (best,false) x=(x.want,true) from if_pos ⟨q1,q2,Or.inl rfl⟩)
          as_aux_lemma =>
          go_wp2_with fail
          go_roundg (l.length - (k+1))
          case measure=>omega
          case rel=>exact ⟨k+1,HK.out,Nat.le_refl _,by go_num,by rw [HTK.out,HN.out],by rw [HTK.out,HN.out],by first|exact HB.out|exact a0C HB.out _⟩
        · by_cases q3:best<x.want
          · have HN:=jH (show e0Z a tick (best,true) x=(x.want,true) from if_pos ⟨q1,q2,Or.inr q3⟩)
            as_aux_lemma =>
            go_wp2_with fail
            go_roundg (l.length - (k+1))
            case measure=>omega
            case rel=>exact ⟨k+1,HK.out,Nat.le_refl _,by go_num,by rw [HTK.out,HN.out],by rw [HTK.out,HN.out],by first|exact HB.out|exact a0C HB.out _⟩
          · have HN:=jH (show e0Z a tick (best,true) x=(best,true) from if_neg (fun q=>by rcases q.2.2 with e|e;exact absurd e (by simp);exact q3 e))
            as_aux_lemma =>
            go_wp2_with fail
            go_roundg (l.length - (k+1))
            case measure=>omega
            case rel=>exact ⟨k+1,HK.out,Nat.le_refl _,by go_num,by rw [HTK.out,HN.out],by rw [HTK.out,HN.out],by first|exact HB.out|exact a0C HB.out _⟩
      · have HN:=jH (show e0Z a tick (best,is) x=(best,is) from if_neg (fun q=>q2 q.2.1))
        as_aux_lemma =>
        go_wp2_with fail
        go_roundg (l.length - (k+1))
        case measure=>omega
        case rel=>exact ⟨k+1,HK.out,Nat.le_refl _,by go_num,by rw [HTK.out,HN.out],by rw [HTK.out,HN.out],by first|exact HB.out|exact a0C HB.out _⟩
    · have HN:=jH (show e0Z a tick (best,is) x=(best,is) from if_neg (fun q=>q1 q.1))
      as_aux_lemma =>
      go_wp2_with fail
      go_roundg (l.length - (k+1))
      case measure=>omega
      case rel=>exact ⟨k+1,HK.out,Nat.le_refl _,by go_num,by rw [HTK.out,HN.out],by rw [HTK.out,HN.out],by first|exact HB.out|exact a0C HB.out _⟩
  · obtain rfl:k=l.length:=by omega
    rw [List.take_length];obtain ⟨st,hst⟩:∃st,st=l.foldl (e0Z a tick) (0,false):=⟨_,rfl⟩;rw [←hst];have HST:=jH hst;clear hst;go_wp2_with fail
    exact bodyPost_ret (v:=.tuple #[.int .i64 st.1,.bool st.2]) (by simp [results,Tryz.results202,go_sem]) rfl ⟨by rw [←HST.out],HB.out⟩
theorem z0W (v:Value) (l:List Adv) (tick hold:Int) (w:World) (hv:a0O 5 c0V w v l) (hl:l.length≤1000000) (h1:I64 tick) (h2:I64 hold) :
 Calls Tryz.prog 226 #[v,.int .i64 tick,.int .i64 hold] w (jP w (.tuple #[.int .i64 (o0J l tick hold).1,.bool (o0J l tick hold).2])):=by
 obtain ⟨A,c,rfl⟩:=hv.form;have HV:=jH hv;have HL:=jH hl;have hl9:l.length≤9223372036854775807:=by omega
 have C1:=jH (fun W=>r0B tick hold W h1 h2);unfold o0J;generalize d0R (tick - hold)=a at C1;clear hv hl h1 h2
 go_enter Tryz.func226,Tryz.ntmps226
 go_wp2_with (go_at_call 189;refine (C1.out _).mono ?_;rintro e w2 ⟨rfl,rfl⟩)
 go_loopg [8,9,11] l.length (fun g s7 s8 s12 wr=>∃k:Nat,k≤l.length∧l.length - k≤g∧s12=.int .i64 k∧s7=.int .i64 ((l.take k).foldl (e0Z a tick) (0,false)).1∧s8=.bool ((l.take k).foldl (e0Z a tick) (0,false)).2∧jB w wr)
 case atStart=>exact ⟨0,Nat.zero_le _,Nat.le_refl _,rfl,rfl,rfl,jR⟩
 case round =>
  obtain ⟨k,hk,hg,rfl,rfl,rfl,hb⟩:=hrel;rename World=>wr
  have HB:=jH hb;clear hb
  by_cases hlt:k<l.length
  · obtain ⟨b1,o1,rfl,hb1,hc⟩:=(HV.out.below HB.out).at_ hlt
    have z1:(0:Int)≤(k:Int):=by omega
    have z2:(k:Int)<(l.length:Int):=by omega
    have HTK:=jH (show (l.take (k+1)).foldl (e0Z a tick) (0,false)=e0Z a tick ((l.take k).foldl (e0Z a tick) (0,false)) l[k] by rw [List.take_succ_eq_append_getElem hlt,s0C]);generalize l[k]=x at hc HTK;generalize (l.take k).foldl (e0Z a tick) (0,false)=st at HTK;obtain ⟨best,is⟩:=st;have d0:=hc 0 _ rfl;have d1:=hc 1 _ rfl;have d2:=hc 2 _ rfl;have d3:=hc 3 _ rfl;have d4:=hc 4 _ rfl;rw [Nat.add_zero] at d0
    have HK:=jH hlt;clear hc;dsimp only
    by_cases q1:a<x.tick
    · by_cases q2:x.tick≤tick
      · cases is
        · have HN:=jH (show e0Z a tick (best,false) x=(x.want,true) from if_pos ⟨q1,q2,Or.inl rfl⟩)
          as_aux_lemma =>
          go_wp2_with fail
          go_roundg (l.length - (k+1))
          case measure=>omega
          case rel=>exact ⟨k+1,HK.out,Nat.le_refl _,by go_num,by rw [HTK.out,HN.out],by rw [HTK.out,HN.out],by first|exact HB.out|exact a0C HB.out _⟩
        · by_cases q3:best<x.want
          · have HN:=jH (show e0Z a tick (best,true) x=(x.want,true) from if_pos ⟨q1,q2,Or.inr q3⟩)
            as_aux_lemma =>
            go_wp2_with fail
            go_roundg (l.length - (k+1))
            case measure=>omega
            case rel=>exact ⟨k+1,HK.out,Nat.le_refl _,by go_num,by rw [HTK.out,HN.out],by rw [HTK.out,HN.out],by first|exact HB.out|exact a0C HB.out _⟩
          · have HN:=jH (show e0Z a tick (best,true) x=(best,true) from if_neg (fun q=>by rcases q.2.2 with e|e;exact absurd e (by simp);exact q3 e))
            as_aux_lemma =>
            go_wp2_with fail
            go_roundg (l.length - (k+1))
            case measure=>omega
            case rel=>exact ⟨k+1,HK.out,Nat.le_refl _,by go_num,by rw [HTK.out,HN.out],by rw [HTK.out,HN.out],by first|exact HB.out|exact a0C HB.out _⟩
      · have HN:=jH (show e0Z a tick (best,is) x=(best,is) from if_neg (fun q=>q2 q.2.1))
        as_aux_lemma =>
        go_wp2_with fail
        go_roundg (l.length - (k+1))
        case measure=>omega
        case rel=>exact ⟨k+1,HK.out,Nat.le_refl _,by go_num,by rw [HTK.out,HN.out],by rw [HTK.out,HN.out],by first|exact HB.out|exact a0C HB.out _⟩
    · have HN:=jH (show e0Z a tick (best,is) x=(best,is) from if_neg (fun q=>q1 q.1))
      as_aux_lemma =>
      go_wp2_with fail
      go_roundg (l.length - (k+1))
      case measure=>omega
      case rel=>exact ⟨k+1,HK.out,Nat.le_refl _,by go_num,by rw [HTK.out,HN.out],by rw [HTK.out,HN.out],by first|exact HB.out|exact a0C HB.out _⟩
  · obtain rfl:k=l.length:=by omega
    rw [List.take_length];obtain ⟨st,hst⟩:∃st,st=l.foldl (e0Z a tick) (0,false):=⟨_,rfl⟩;rw [←hst];have HST:=jH hst;clear hst;go_wp2_with fail
    exact bodyPost_ret (v:=.tuple #[.int .i64 st.1,.bool st.2]) (by simp [results,Tryz.results226,go_sem]) rfl ⟨by rw [←HST.out],HB.out⟩
theorem m1T (p:Pol) (tick want:Int) (v:Value) (l:List Adv) (w:World) (hv:a0O 5 c0V w v l) (hl:l.length≤1000000) (h1:I64 tick) (h2:I64 p.hold) :
 Calls Tryz.prog 143 #[b0W p,.int .i64 tick,.int .i64 want,v] w (jP w (.tuple #[.int .i64 (f0F p tick want l).1,.bool (f0F p tick want l).2])):=by
 have C1:=jH (fun W (h:a0O 5 c0V W v l)=>x0Z v l tick p.hold W h hl h1 h2);have HR:=jH (hv.below (a0C (Below.refl w.heap.size w) (.cells #[.int .i64 p.mn,.int .i64 p.mx,.int .i64 p.tg,.int .i64 p.tol,.int .i64 p.win,.int .i64 p.hold] 35)));obtain ⟨s,hs⟩:∃s,s=f0F p tick want l:=⟨_,rfl⟩;rw [←hs];unfold f0F at hs;generalize o0J l tick p.hold=st at C1 hs;obtain ⟨best,is⟩:=st;dsimp only at hs C1
 clear hv hl h1 h2;unfold b0W
 cases is
 · have HN:=jH (show s=(want,false) by rw [hs];exact if_neg (fun q=>absurd q.1 (by simp)))
   clear hs
   go_enter Tryz.func143,Tryz.ntmps143
   go_wp2_with (go_at_call 202;refine (C1.out _ HR.out).mono ?_;rintro e w2 ⟨rfl,hb2⟩;have HB:=jH hb2;clear hb2)
   exact bodyPost_ret (v:=.tuple #[.int .i64 want,.bool false]) (by simp [results,Tryz.results143,go_sem]) rfl ⟨by rw [HN.out],a0D (a0C jR _) HB.out⟩
 · by_cases q:want<best
   · have HN:=jH (show s=(best,true) by rw [hs];exact if_pos ⟨rfl,q⟩)
     clear hs
     go_enter Tryz.func143,Tryz.ntmps143
     go_wp2_with (go_at_call 202;refine (C1.out _ HR.out).mono ?_;rintro e w2 ⟨rfl,hb2⟩;have HB:=jH hb2;clear hb2)
     exact bodyPost_ret (v:=.tuple #[.int .i64 best,.bool true]) (by simp [results,Tryz.results143,go_sem]) rfl ⟨by rw [HN.out],a0D (a0C jR _) HB.out⟩
   · have HN:=jH (show s=(want,false) by rw [hs];exact if_neg (fun e=>q e.2))
     clear hs
     go_enter Tryz.func143,Tryz.ntmps143
     go_wp2_with (go_at_call 202;refine (C1.out _ HR.out).mono ?_;rintro e w2 ⟨rfl,hb2⟩;have HB:=jH hb2;clear hb2)
     exact bodyPost_ret (v:=.tuple #[.int .i64 want,.bool false]) (by simp [results,Tryz.results143,go_sem]) rfl ⟨by rw [HN.out],a0D (a0C jR _) HB.out⟩
theorem l1Q (p:Pol) (tick want:Int) (v:Value) (l:List Adv) (w:World) (hv:a0O 5 c0V w v l) (hl:l.length≤1000000) (h1:I64 tick) (h2:I64 p.hold) :
 Calls Tryz.prog 182 #[b0W p,.int .i64 tick,.int .i64 want,v] w (jP w (.tuple #[.int .i64 (f0F p tick want l).1,.bool (f0F p tick want l).2])):=by
 have C1:=jH (fun W (h:a0O 5 c0V W v l)=>z0W v l tick p.hold W h hl h1 h2);have HR:=jH (hv.below (a0C (Below.refl w.heap.size w) (.cells #[.int .i64 p.mn,.int .i64 p.mx,.int .i64 p.tg,.int .i64 p.tol,.int .i64 p.win,.int .i64 p.hold] 35)));obtain ⟨s,hs⟩:∃s,s=f0F p tick want l:=⟨_,rfl⟩;rw [←hs];unfold f0F at hs;generalize o0J l tick p.hold=st at C1 hs;obtain ⟨best,is⟩:=st;dsimp only at hs C1
 clear hv hl h1 h2;unfold b0W
 cases is
 · have HN:=jH (show s=(want,false) by rw [hs];exact if_neg (fun q=>absurd q.1 (by simp)))
   clear hs
   go_enter Tryz.func182,Tryz.ntmps182
   go_wp2_with (go_at_call 226;refine (C1.out _ HR.out).mono ?_;rintro e w2 ⟨rfl,hb2⟩;have HB:=jH hb2;clear hb2)
   exact bodyPost_ret (v:=.tuple #[.int .i64 want,.bool false]) (by simp [results,Tryz.results182,go_sem]) rfl ⟨by rw [HN.out],a0D (a0C jR _) HB.out⟩
 · by_cases q:want<best
   · have HN:=jH (show s=(best,true) by rw [hs];exact if_pos ⟨rfl,q⟩)
     clear hs
     go_enter Tryz.func182,Tryz.ntmps182
     go_wp2_with (go_at_call 226;refine (C1.out _ HR.out).mono ?_;rintro e w2 ⟨rfl,hb2⟩;have HB:=jH hb2;clear hb2)
     exact bodyPost_ret (v:=.tuple #[.int .i64 best,.bool true]) (by simp [results,Tryz.results182,go_sem]) rfl ⟨by rw [HN.out],a0D (a0C jR _) HB.out⟩
   · have HN:=jH (show s=(want,false) by rw [hs];exact if_neg (fun e=>q e.2))
     clear hs
     go_enter Tryz.func182,Tryz.ntmps182
     go_wp2_with (go_at_call 226;refine (C1.out _ HR.out).mono ?_;rintro e w2 ⟨rfl,hb2⟩;have HB:=jH hb2;clear hb2)
     exact bodyPost_ret (v:=.tuple #[.int .i64 want,.bool false]) (by simp [results,Tryz.results182,go_sem]) rfl ⟨by rw [HN.out],a0D (a0C jR _) HB.out⟩
end
end Go.Proofs.YtmniiodpbebnmaaGreat
