/- Part 13 of the proof: RIt4, Ctl2, Late. -/
import Derived.Test.YtpmfcpdelkchaaaGreatL09
import Derived.Test.YtpmfcpdelkchaaaGreatL12
namespace Go.Proofs.YtpmfcpdelkchaaaGreat
set_option linter.unusedSimpArgs false
set_option linter.unusedVariables false
set_option linter.unusedSectionVars false
set_option maxRecDepth 100000
set_option maxHeartbeats 16000000
section
open Go.RowKit Go.Lib Go.Sort
def withI (l:List It) (k:Ky) (x:It):List It:=l.take (atI l k)++[{ x with key:=k }]++l.drop (if hasI l k=true then atI l k+1 else atI l k)
theorem hasI_lt {l:List It} {k:Ky} (h:hasI l k=true):atI l k<l.length:=(getL_has h).1
theorem iwith_any (v:Value) (l:List It) (k:Ky) (x:It) (w:World) (hv:RowIn 12 itC w v l) (hl:l.length≤1000000) (hok:∀x∈l,x.key.ok) (hk:k.ok) :
 Calls Tryz.prog 207 #[v,.agg #[.int .u64 k.1,.int .u64 k.2],.agg (loadC x).toArray] w (RSays 12 itC w (withI l k x)):=by
 obtain ⟨A,c,rfl⟩:=hv.form;have HH:=jH (fun (W:World) (hb:jB w W)=>ihas_any _ l k W (hv.below hb) hl hok hk);have HAT:=jH (fun (W:World) (hb:jB w W)=>iat_any _ l k W (hv.below hb) hl hok hk);have HV:=jH hv;have hle:=atI_le l k;have hlt:hasI l k=true→atI l k<l.length:=hasI_lt;have HX:Hid ((loadC x).toArray=#[.slice x.sA x.nd.smp.length x.sc,.slice x.pA x.nd.past.length x.pc,.int .i64 x.nd.pol.mn,.int .i64 x.nd.pol.mx,.int .i64 x.nd.pol.tg,.int .i64 x.nd.pol.tol,.int .i64 x.nd.pol.win,.int .i64 x.nd.pol.hold,.bool x.nd.ruled,.int .i64 (x.nd.ver:Nat)]):=jH rfl
 rw [HX.out];have HW:Hid (withI l k x=l.take (atI l k)++[{ x with key:=k }]++l.drop (if hasI l k=true then atI l k+1 else atI l k)):=jH rfl;obtain ⟨mt,At,ct,hmt,hrt,hrowt⟩:=row_to eIt hv (atI l k) hle;obtain ⟨mf,Af,cf,hmf,hrf,hrowf⟩:=row_from eIt hv (if hasI l k=true then atI l k+1 else atI l k) (by split;exact hlt (by assumption);exact hle);have hlmt:mt.length=atI l k:=by rw [hmt];simp;omega
 have hlmf:mf.length≤l.length:=by rw [hmf];simp
 have HMT:=jH hmt;have HMF:=jH hmf;have HRT:=jH hrowt;have HRF:=jH hrowf;have HLT:=jH hlmt;clear hv hok hlt hmt hmf hrowt hrowf hlmt;generalize ha:atI l k=a at *;generalize hh:hasI l k=h at *;obtain ⟨q,hq⟩:∃q,q=if h=true then a+1 else a:=⟨_,rfl⟩;rw [←hq] at hrf;have HQ:=jH hq;clear ha hh hq;have hrun1:h=true→∀w':World,(Instr.sliceAt 203 (.slice A l.length c) (some (.int .i64 ((a:Int)+1))) none none).run Tryz.prog w'=.ok (.slice Af mf.length cf) w':=fun he w'=>by
  have:=hrf w';rw [HQ.out,if_pos he,show ((a+1:Nat):Int)=(a:Int)+1 by omega] at this;exact this
 have hrun0:h=false→∀w':World,(Instr.sliceAt 203 (.slice A l.length c) (some (.int .i64 (a:Int))) none none).run Tryz.prog w'=.ok (.slice Af mf.length cf) w':=fun he w'=>by
  have:=hrf w';rw [HQ.out,if_neg (by rw [he];simp)] at this;exact this
 have HR1:=jH hrun1;have HR0:=jH hrun0;clear hrf hrun1 hrun0
 cases h with
 | true =>
   have hrun:=HR1.out rfl
   go_enter Tryz.func207,Tryz.ntmps207
   go_wp2_with (first
    | (go_at_call 248
       refine calls_named ?_;intro W1 hW1;obtain ⟨k0,k1,hs,hb⟩:=two_boxes w _ _ W1 hW1;clear hW1;refine (HAT.out W1 hb).mono ?_;rintro e w2 ⟨rfl,hb2⟩;have HK:=jH (And.intro (jK hb2 k0) (jK hb2 k1));have HB:=jH (bthen hb hb2);clear k0 k1 hs hb hb2)
    | (at_builtin;refine wpList_appendL eIt (by rfl) (by rfl) w2.heap.size [] mt (.slice (some ⟨w2.heap.size,0,none⟩) 0 0) _ (by rfl) (by rfl) (OwnL.lit0 _ _ _ _ rfl (Nat.le_refl _)) (HRT.out.below (balloc HB.out _)) (by have:=HLT.out;simp;omega) (by simp) ?_;intro out3 A3 c3 w3 hout3 hown3 hg3 _
       have hb3:jB w2 w3:=(balloc jR _).grown hg3 (by simp) (fun r hr=>by have hr':some w2.heap.size=some r:=hr;injection hr';omega);obtain ⟨a1,a2,a3⟩:=box_cells hb3 HK.out.1;obtain ⟨b1,b2,b3⟩:=box_cells hb3 HK.out.2;have HO3:=jH hown3;have HE3:=jH hout3;have HB3:=jH hb3;clear hout3 hown3 hg3 hb3)
    | (at_builtin;refine wpList_appendL eIt (by rfl) (by rfl) w2.heap.size out3 [{ x with key:=k }] _ _ (by rfl) (by rfl) (HO3.out.below (balloc jR _)) (RowIn.lit (n:=12) (f:=itC) w3 { x with key:=k } _ _ _ rfl rfl) (by have:=HLT.out;simp [HE3.out];omega) (by have:=HB3.out.size;simp;omega) ?_;intro out4 A4 c4 w4 hout4 hown4 hg4 _
       have hb4:jB w2 w4:=(balloc HB3.out _).trans (grown_own hg4 HO3.out (by have:=HB3.out.size;simp;omega));obtain ⟨a1,a2,a3⟩:=box_cells hb4 HK.out.1;have HO4:=jH hown4;have HE4:=jH hout4;have HB4:=jH hb4;clear hout4 hown4 hg4 hb4)
    | (go_at_call 206
       refine (HH.out w4 (bthen HB.out HB4.out)).mono ?_;rintro e w5 ⟨rfl,hb5⟩;have HB5:=jH (bthen HB4.out hb5);have HO5:=jH (HO4.out.below hb5);clear hb5)
    | (at_builtin;refine wpList_appendL eIt (by rfl) (by rfl) w2.heap.size out4 mf _ _ (by rfl) (by rfl) HO5.out (HRF.out.below (bthen HB.out HB5.out)) (by have:=HLT.out;simp [HE4.out,HE3.out];omega) HB5.out.size ?_;intro out6 A6 c6 w6 hout6 hown6 hg6 _
       have hb6:jB w2 w6:=HB5.out.trans (grown_own hg6 HO5.out HB5.out.size);have HO6:=jH hown6;have HE6:=jH hout6;have HB6:=jH hb6;clear hout6 hown6 hg6 hb6))
   go_ret
   have e:out6=withI l k x:=by rw [HE6.out,HE4.out,HE3.out,HW.out,HMT.out,HMF.out,List.nil_append]
   rw [←e];exact ⟨_,_,rfl,(RowG.own eIt HO6.out).imp (fun b hb=>Nat.le_trans HB.out.size hb),bthen HB.out HB6.out⟩
 | false =>
   have hrun:=HR0.out rfl
   go_enter Tryz.func207,Tryz.ntmps207
   go_wp2_with (first
    | (go_at_call 248
       refine calls_named ?_;intro W1 hW1;obtain ⟨k0,k1,hs,hb⟩:=two_boxes w _ _ W1 hW1;clear hW1;refine (HAT.out W1 hb).mono ?_;rintro e w2 ⟨rfl,hb2⟩;have HK:=jH (And.intro (jK hb2 k0) (jK hb2 k1));have HB:=jH (bthen hb hb2);clear k0 k1 hs hb hb2)
    | (at_builtin;refine wpList_appendL eIt (by rfl) (by rfl) w2.heap.size [] mt (.slice (some ⟨w2.heap.size,0,none⟩) 0 0) _ (by rfl) (by rfl) (OwnL.lit0 _ _ _ _ rfl (Nat.le_refl _)) (HRT.out.below (balloc HB.out _)) (by have:=HLT.out;simp;omega) (by simp) ?_;intro out3 A3 c3 w3 hout3 hown3 hg3 _
       have hb3:jB w2 w3:=(balloc jR _).grown hg3 (by simp) (fun r hr=>by have hr':some w2.heap.size=some r:=hr;injection hr';omega);obtain ⟨a1,a2,a3⟩:=box_cells hb3 HK.out.1;obtain ⟨b1,b2,b3⟩:=box_cells hb3 HK.out.2;have HO3:=jH hown3;have HE3:=jH hout3;have HB3:=jH hb3;clear hout3 hown3 hg3 hb3)
    | (at_builtin;refine wpList_appendL eIt (by rfl) (by rfl) w2.heap.size out3 [{ x with key:=k }] _ _ (by rfl) (by rfl) (HO3.out.below (balloc jR _)) (RowIn.lit (n:=12) (f:=itC) w3 { x with key:=k } _ _ _ rfl rfl) (by have:=HLT.out;simp [HE3.out];omega) (by have:=HB3.out.size;simp;omega) ?_;intro out4 A4 c4 w4 hout4 hown4 hg4 _
       have hb4:jB w2 w4:=(balloc HB3.out _).trans (grown_own hg4 HO3.out (by have:=HB3.out.size;simp;omega));obtain ⟨a1,a2,a3⟩:=box_cells hb4 HK.out.1;have HO4:=jH hown4;have HE4:=jH hout4;have HB4:=jH hb4;clear hout4 hown4 hg4 hb4)
    | (go_at_call 206
       refine (HH.out w4 (bthen HB.out HB4.out)).mono ?_;rintro e w5 ⟨rfl,hb5⟩;have HB5:=jH (bthen HB4.out hb5);have HO5:=jH (HO4.out.below hb5);clear hb5)
    | (at_builtin;refine wpList_appendL eIt (by rfl) (by rfl) w2.heap.size out4 mf _ _ (by rfl) (by rfl) HO5.out (HRF.out.below (bthen HB.out HB5.out)) (by have:=HLT.out;simp [HE4.out,HE3.out];omega) HB5.out.size ?_;intro out6 A6 c6 w6 hout6 hown6 hg6 _
       have hb6:jB w2 w6:=HB5.out.trans (grown_own hg6 HO5.out HB5.out.size);have HO6:=jH hown6;have HE6:=jH hout6;have HB6:=jH hb6;clear hout6 hown6 hg6 hb6))
   go_ret
   have e:out6=withI l k x:=by rw [HE6.out,HE4.out,HE3.out,HW.out,HMT.out,HMF.out,List.nil_append]
   rw [←e];exact ⟨_,_,rfl,(RowG.own eIt HO6.out).imp (fun b hb=>Nat.le_trans HB.out.size hb),bthen HB.out HB6.out⟩
end
section
open Go.RowKit Go.Lib
theorem cmpN_le (a b:Nat):decide (cmpN a b≤0)=decide (a≤b):=by
 unfold cmpN
 by_cases h:a=b
 · rw [if_pos h];subst h;simp
 · rw [if_neg h]
   by_cases k:a<b
   · rw [if_pos k];simp;omega
   · rw [if_neg k];simp;omega
theorem within_any (x y z:Nat) (hx:x<340282366920938463463374607431768211456) (hs:y+z<340282366920938463463374607431768211456) (w:World) :
 Calls Tryz.prog 241 #[twoV x,twoV y,twoV z] w (jP w (.bool (decide (x≤y+z)))):=by
 have C1:=jH (wideAdd_any y z hs);obtain ⟨s,hse⟩:∃s,s=y+z:=⟨_,rfl⟩;rw [←hse] at C1 hs ⊢;have C2:=jH (wideCmp_any x s hx hs);have HC:=jH (cmpN_le x s);clear hse hx hs;generalize cmpN x s=c at C2 HC;generalize decide (x≤s)=b at HC ⊢;unfold twoV at C1 C2 ⊢;generalize x / 18446744073709551616=x1 at *;generalize x % 18446744073709551616=x0 at *;generalize y / 18446744073709551616=y1 at *;generalize y % 18446744073709551616=y0 at *
 generalize z / 18446744073709551616=z1 at *;generalize z % 18446744073709551616=z0 at *;generalize s / 18446744073709551616=s1 at *;generalize s % 18446744073709551616=s0 at *
 go_enter Tryz.func241,Tryz.ntmps241
 go_wp2_with (first
  | (go_at_call 271
     refine calls_named ?_;intro W1 hW1;have hb1:jB w W1:=by rw [hW1];exact balloc (balloc (balloc jR _) _) _
     have hx1:W1.heap[w.heap.size]?=some (.cells #[.int .u64 x1,.int .u64 x0] 309 (0,0)):=by rw [hW1];exact box3_0 _ _ _ _
     clear hW1;refine (C1.out W1).mono ?_;rintro e w2 ⟨rfl,hb2⟩;have HB2:=jH (bthen hb1 hb2);have hx2:=(hb2.block w.heap.size (jL hx1)).trans hx1;obtain ⟨b1,b2,b3⟩:=box_cells jR hx2;clear hb1 hb2 hx1 hx2)
  | (go_at_call 272;refine (C2.out _).mono ?_;rintro e w3 ⟨rfl,hb3⟩;have HB3:=jH (bthen (balloc HB2.out _) hb3);clear hb3))
 go_ret
 exact ⟨by rw [←HC.out];rfl,HB3.out⟩
theorem nearI_out {p:Pol} {load now:Int} (h:polB p=false∨now<1∨1073741824<now):nearI p load now=false:=by
 unfold nearI
 rcases h with h|h
 · rw [h];rfl
 · have:decide (1≤now∧now≤1073741824)=false:=by simp;omega
   rw [this];simp
theorem ctlNear_out (p:Pol) (load now:Int) (w:World) (h:polB p=false∨now<1∨1073741824<now) :
 Calls Tryz.prog 197 #[polV p,.int .i64 load,.int .i64 now] w (jP w (.bool false)):=by
 have HC:=jH (policyCheck_any p)
 rcases Bool.eq_false_or_eq_true (polB p) with hp|hp
 · have HE:=jH (show polE p=0 by unfold polE;rw [hp];rfl)
   have h:now<1∨1073741824<now:=by
    rcases h with h|h
    · rw [hp] at h;cases h
    · exact h
   clear hp;unfold polV;unfold polV at HC
   rcases h with h|h
   · go_enter Tryz.func197,Tryz.ntmps197
     go_wp2_with (go_at_call 167;refine (HC.out _).mono ?_;rw [HE.out];rintro e w2 ⟨rfl,hb2⟩;have HB:=jH hb2;clear hb2)
     go_ret
     exact ⟨rfl,bthen (balloc jR _) HB.out⟩
   · have h1:¬now<1:=by omega
     have h2:decide (now<1)=false:=by simp;omega
     go_enter Tryz.func197,Tryz.ntmps197
     go_wp2_with (go_at_call 167;refine (HC.out _).mono ?_;rw [HE.out];rintro e w2 ⟨rfl,hb2⟩;have HB:=jH hb2;clear hb2)
     go_ret
     exact ⟨rfl,bthen (balloc jR _) HB.out⟩
 · have HE:=jH (show polE p=7 by unfold polE;rw [hp];rfl)
   clear hp h;unfold polV;unfold polV at HC
   go_enter Tryz.func197,Tryz.ntmps197
   go_wp2_with (go_at_call 167;refine (HC.out _).mono ?_;rw [HE.out];rintro e w2 ⟨rfl,hb2⟩;have HB:=jH hb2;clear hb2)
   go_ret
   exact ⟨rfl,bthen (balloc jR _) HB.out⟩
theorem box_rule {w1 w2:World} {B:Nat} {cs:Array Value} {T:TypeId} (hx:w1.heap[B]?=some (.cells cs T (0,0))) (hb:jB w1 w2):w2.heap[B]?=some (.cells cs T (0,0))∧∀W j,jB w2 W→W.cell? ⟨B,j,none⟩=cs[j]?:=by
 have hx2:=(hb.block B (jL hx)).trans hx;exact ⟨hx2,fun W j h=>(box_cells h hx2).1 j⟩
theorem ctlNear_in (p:Pol) (load now:Int) (w:World) (hp:polB p=true) (h1:1≤now) (h2:now≤1073741824) (hn:I64 load) (hq:I64 p.tg) :
 Calls Tryz.prog 197 #[polV p,.int .i64 load,.int .i64 now] w (jP w (.bool (nearI p load now))):=by
 have hpb:=hp;unfold polB at hpb;simp only [decide_eq_true_eq] at hpb
 unfold I64 at hn hq;obtain ⟨L,hL⟩:∃L,L=load.toNat:=⟨_,rfl⟩;obtain ⟨N,hN⟩:∃N,N=now.toNat:=⟨_,rfl⟩;obtain ⟨T,hT⟩:∃T,T=p.tg.toNat:=⟨_,rfl⟩;obtain ⟨O,hO⟩:∃O,O=p.tol.toNat:=⟨_,rfl⟩;have hL2:L≤9223372036854775807:=by omega
 have hT2:T≤9223372036854775807:=by omega
 obtain ⟨N1,hN1⟩:∃N1,N1=N * 1000:=⟨_,rfl⟩;obtain ⟨NO,hNO⟩:∃NO,NO=N * O:=⟨_,rfl⟩;have hNO2:NO≤1073741824 * 999:=hNO ▸ Nat.mul_le_mul (by omega) (by omega);obtain ⟨m1,hm1⟩:∃m,m=L * 1000:=⟨_,rfl⟩;obtain ⟨m2,hm2⟩:∃m,m=N1 * T:=⟨_,rfl⟩;obtain ⟨m3,hm3⟩:∃m,m=NO * T:=⟨_,rfl⟩;have l1:m1≤9223372036854775807000:=by omega
 have l2:m2≤1073741824000 * 9223372036854775807:=hm2 ▸ Nat.mul_le_mul (by omega) hT2;have l3:m3≤(1073741824 * 999) * 9223372036854775807:=hm3 ▸ Nat.mul_le_mul hNO2 hT2;have HF:nearI p load now=(decide (m1≤m2+m3) && decide (m2≤m1+m3)):=by
  unfold nearI;rw [hp,Bool.true_and,decide_eq_true (And.intro h1 h2),Bool.true_and,←hL,←hN,←hT,←hO];rw [show N * T * 1000=m2 by rw [hm2,hN1,Nat.mul_right_comm],show N * T * O=m3 by rw [hm3,hNO,Nat.mul_right_comm],←hm1]
 rw [HF];have HC:=jH (policyCheck_any p);have HE:=jH (show polE p=0 by unfold polE;rw [hp];rfl);have C1:=jH (fun W=>show Calls Tryz.prog 240 #[.int .u64 (L:Nat),.int .u64 1000] W (jP W (twoV (L * 1000))) from wideMul_any L 1000 (by omega) (by decide) W);rw [←hm1] at C1;have C2:=jH (fun W=>wideMul_any N1 T (by omega) (by omega) W);rw [←hm2] at C2;have C3:=jH (fun W=>wideMul_any NO T (by omega) (by omega) W)
 rw [←hm3] at C3;have CA:=jH (fun W=>within_any m1 m2 m3 (by omega) (by omega) W);have CB:=jH (fun W=>within_any m2 m1 m3 (by omega) (by omega) W);have g1:IntKind.u64.wrap (max load 0)=(L:Int):=by rw [IntKind.wrap_u64];omega
 have g2:IntKind.u64.wrap now=(N:Int):=by rw [IntKind.wrap_u64];omega
 have g3:IntKind.u64.wrap ((N:Int) * 1000)=(N1:Int):=by rw [IntKind.wrap_u64];omega
 have g4:IntKind.u64.wrap p.tg=(T:Int):=by rw [IntKind.wrap_u64];omega
 have g5:IntKind.u64.wrap p.tol=(O:Int):=by rw [IntKind.wrap_u64];omega
 have g6:IntKind.u64.wrap ((N:Int) * (O:Int))=(NO:Int):=by rw [←Int.natCast_mul,←hNO];exact u64_wrap NO (by omega)
 have q1:¬now<1:=by omega
 have q2:¬1073741824<now:=by omega
 have q3:decide (now<1)=false:=by simp;omega
 have q4:decide (1073741824<now)=false:=by simp;omega
 have HS:=jH (show m1=m2→(decide (m1≤m2+m3) && decide (m2≤m1+m3))=true by intro h;simp;omega);have HW:=jH (show m1≠m2→m1 / 18446744073709551616≠m2 / 18446744073709551616∨m1 / 18446744073709551616=m2 / 18446744073709551616∧m1 % 18446744073709551616≠m2 % 18446744073709551616 by intro h;omega);clear hL hN hT hO hL2 hT2 hN1 hNO hNO2 hm1 hm2 hm3 l1 l2 l3 HF hpb hn hq h1 h2 hp;unfold polV;unfold polV at HC
 unfold twoV at C1 C2 C3 CA CB;generalize decide (m1≤m2+m3)=ba at *;generalize decide (m2≤m1+m3)=bb at *
 by_cases he:m1=m2
 · have HR:=jH (HS.out he)
   subst he;clear HW HS CA CB;rw [HR.out];generalize m1 / 18446744073709551616=a1 at *;generalize m1 % 18446744073709551616=a0 at *;generalize m3 / 18446744073709551616=c1 at *;generalize m3 % 18446744073709551616=c0 at *
   go_enter Tryz.func197,Tryz.ntmps197
   go_wp2_with (first
    | (go_at_call 167
       refine calls_named ?_;intro W1 hW1;have hb1:jB w W1:=by rw [hW1];exact balloc jR _
       have hx1:W1.heap[w.heap.size]?=some (.cells #[.int .i64 p.mn,.int .i64 p.mx,.int .i64 p.tg,.int .i64 p.tol,.int .i64 p.win,.int .i64 p.hold] 46 (0,0)):=by rw [hW1];exact heap_alloc_new _ _
       clear hW1;refine (HC.out W1).mono ?_;rw [HE.out];rintro e w2 ⟨rfl,hb2⟩;have HB2:=jH (bthen hb1 hb2);obtain ⟨hx2,R0⟩:=box_rule hx1 hb2;clear hb1 hb2 hx1 hx2)
    | (go_at_call 240
       with_reducible refine (C1.out _).mono ?_
       rintro e w3 ⟨rfl,hb3⟩)
    | (go_at_call 240
       with_reducible refine (C2.out _).mono ?_
       rintro e w4 ⟨rfl,hb4⟩;obtain ⟨hx7,R7⟩:=box_rule (heap_alloc_new _ _) hb4;have hk4:=bthen (balloc hb3 _) hb4)
    | (go_at_call 240
       with_reducible refine (C3.out _).mono ?_
       rintro e w5 ⟨rfl,hb5⟩;obtain ⟨hx8,R8⟩:=box_rule (heap_alloc_new _ _) hb5;have hk5:=bthen (balloc hk4 _) hb5;have hj5:=bthen (balloc jR _) hb5;have HB5:=jH (bthen HB2.out hk5)))
   go_ret
   exact ⟨rfl,(by repeat (first|exact HB5.out|refine balloc ?_ _|refine below_drewN ?_ _|refine Below.drew ?_))⟩
 · have HD:=HW.out he
   clear HW HS he;generalize m1 / 18446744073709551616=a1 at *;generalize m1 % 18446744073709551616=a0 at *;generalize m2 / 18446744073709551616=b1 at *;generalize m2 % 18446744073709551616=b0 at *;generalize m3 / 18446744073709551616=c1 at *;generalize m3 % 18446744073709551616=c0 at *;have e1:((a1:Int) == (b1:Int))=decide (a1=b1):=by rw [Bool.eq_iff_iff];simp;omega
   rcases HD with hd|⟨rfl,hd⟩
   · have x1:((a1:Int) == (b1:Int))=false:=by simp;omega
     have x2:decide (a1=b1)=false:=by simp;omega
     clear e1
     cases ba
     all_goals
       go_enter Tryz.func197,Tryz.ntmps197
       go_wp2_with (first
        | (go_at_call 167
           refine calls_named ?_;intro W1 hW1;have hb1:jB w W1:=by rw [hW1];exact balloc jR _
           have hx1:W1.heap[w.heap.size]?=some (.cells #[.int .i64 p.mn,.int .i64 p.mx,.int .i64 p.tg,.int .i64 p.tol,.int .i64 p.win,.int .i64 p.hold] 46 (0,0)):=by rw [hW1];exact heap_alloc_new _ _
           clear hW1;refine (HC.out W1).mono ?_;rw [HE.out];rintro e w2 ⟨rfl,hb2⟩;have HB2:=jH (bthen hb1 hb2);obtain ⟨hx2,R0⟩:=box_rule hx1 hb2;clear hb1 hb2 hx1 hx2)
        | (go_at_call 240
           with_reducible refine (C1.out _).mono ?_
           rintro e w3 ⟨rfl,hb3⟩)
        | (go_at_call 240
           with_reducible refine (C2.out _).mono ?_
           rintro e w4 ⟨rfl,hb4⟩;obtain ⟨hx7,R7⟩:=box_rule (heap_alloc_new _ _) hb4;have hk4:=bthen (balloc hb3 _) hb4)
        | (go_at_call 240
           with_reducible refine (C3.out _).mono ?_
           rintro e w5 ⟨rfl,hb5⟩;obtain ⟨hx8,R8⟩:=box_rule (heap_alloc_new _ _) hb5;have hk5:=bthen (balloc hk4 _) hb5;have hj5:=bthen (balloc jR _) hb5;have HB5:=jH (bthen HB2.out hk5))
        | (go_at_call 241
           with_reducible refine (CA.out _).mono ?_
           rintro e w6 ⟨rfl,hb6⟩;obtain ⟨hx9,R9⟩:=box_rule (heap_alloc_new _ _) hb6;have hk6:=bthen (balloc hj5 _) hb6;have hj6:=bthen (balloc jR _) hb6;have HBF:=jH (bthen HB5.out hj6))
        | (go_at_call 241
           with_reducible refine (CB.out _).mono ?_
           rintro e w7 ⟨rfl,hb7⟩;have HBG:=jH (bthen HBF.out hb7)))
       go_ret
       exact ⟨rfl,by first|exact HBG.out|exact HBF.out⟩
   · have x1:((a0:Int) == (b0:Int))=false:=by simp;omega
     have x2:decide (a0=b0)=false:=by simp;omega
     clear e1
     cases ba
     all_goals
       go_enter Tryz.func197,Tryz.ntmps197
       go_wp2_with (first
        | (go_at_call 167
           refine calls_named ?_;intro W1 hW1;have hb1:jB w W1:=by rw [hW1];exact balloc jR _
           have hx1:W1.heap[w.heap.size]?=some (.cells #[.int .i64 p.mn,.int .i64 p.mx,.int .i64 p.tg,.int .i64 p.tol,.int .i64 p.win,.int .i64 p.hold] 46 (0,0)):=by rw [hW1];exact heap_alloc_new _ _
           clear hW1;refine (HC.out W1).mono ?_;rw [HE.out];rintro e w2 ⟨rfl,hb2⟩;have HB2:=jH (bthen hb1 hb2);obtain ⟨hx2,R0⟩:=box_rule hx1 hb2;clear hb1 hb2 hx1 hx2)
        | (go_at_call 240
           with_reducible refine (C1.out _).mono ?_
           rintro e w3 ⟨rfl,hb3⟩)
        | (go_at_call 240
           with_reducible refine (C2.out _).mono ?_
           rintro e w4 ⟨rfl,hb4⟩;obtain ⟨hx7,R7⟩:=box_rule (heap_alloc_new _ _) hb4;have hk4:=bthen (balloc hb3 _) hb4)
        | (go_at_call 240
           with_reducible refine (C3.out _).mono ?_
           rintro e w5 ⟨rfl,hb5⟩;obtain ⟨hx8,R8⟩:=box_rule (heap_alloc_new _ _) hb5;have hk5:=bthen (balloc hk4 _) hb5;have hj5:=bthen (balloc jR _) hb5;have HB5:=jH (bthen HB2.out hk5))
        | (go_at_call 241
           with_reducible refine (CA.out _).mono ?_
           rintro e w6 ⟨rfl,hb6⟩;obtain ⟨hx9,R9⟩:=box_rule (heap_alloc_new _ _) hb6;have hk6:=bthen (balloc hj5 _) hb6;have hj6:=bthen (balloc jR _) hb6;have HBF:=jH (bthen HB5.out hj6))
        | (go_at_call 241
           with_reducible refine (CB.out _).mono ?_
           rintro e w7 ⟨rfl,hb7⟩;have HBG:=jH (bthen HBF.out hb7)))
       go_ret
       exact ⟨rfl,by first|exact HBG.out|exact HBF.out⟩
theorem ctlNear_any (p:Pol) (load now:Int) (w:World) (hn:I64 load) (hq:I64 p.tg) :
 Calls Tryz.prog 197 #[polV p,.int .i64 load,.int .i64 now] w (jP w (.bool (nearI p load now))):=by
 by_cases h:polB p=false∨now<1∨1073741824<now
 · rw [nearI_out h]
   exact ctlNear_out p load now w h
 · have hp:polB p=true:=by
    cases hp:polB p
    · exact absurd (Or.inl hp) h
    · rfl
   exact ctlNear_in p load now w hp (by omega) (by omega) hn hq
theorem ctlRaw_any (p:Pol) (load now:Int) (w:World) (hn:I64 load) (hq:I64 p.tg) :
 Calls Tryz.prog 198 #[polV p,.int .i64 load,.int .i64 now] w (jP w (.int .i64 (boundI p (openI p load now)))):=by
 have CN:=jH (fun W=>ctlNear_any p load now W hn hq);have CW:=jH (fun W=>ctlWant_any p load W hn hq);have CB:=jH (fun n W=>ctlBound_any p n W);unfold openI;clear hn hq;generalize nearI p load now=near at CN ⊢
 cases near
 · have HR:=jH (show boundI p (if false=true then now else wantP p load)=boundI p (wantP p load) from rfl)
   rw [HR.out];clear HR;generalize wantP p load=m at CW ⊢;have CB2:=jH (fun W=>CB.out m W);clear CB;generalize boundI p m=r at CB2 ⊢;unfold polV at CN CW CB2 ⊢
   go_enter Tryz.func198,Tryz.ntmps198
   go_wp2_with (first
    | (go_at_call 197
       refine calls_named ?_;intro W1 hW1;have hb1:jB w W1:=by rw [hW1];exact balloc jR _
       have hx1:W1.heap[w.heap.size]?=some (.cells #[.int .i64 p.mn,.int .i64 p.mx,.int .i64 p.tg,.int .i64 p.tol,.int .i64 p.win,.int .i64 p.hold] 46 (0,0)):=by rw [hW1];exact heap_alloc_new _ _
       clear hW1;refine (CN.out W1).mono ?_;rintro e w2 ⟨rfl,hb2⟩;have HB2:=jH (bthen hb1 hb2);obtain ⟨hx2,R0⟩:=box_rule hx1 hb2;clear hb1 hb2 hx1 hx2))
   have rc0:∀U,jB w2 U→U.cell? ⟨w.heap.size,0,none⟩=some (.int .i64 p.mn):=fun U hU=>R0 U 0 hU
   have rc1:∀U,jB w2 U→U.cell? ⟨w.heap.size,1,none⟩=some (.int .i64 p.mx):=fun U hU=>R0 U 1 hU
   have rc2:∀U,jB w2 U→U.cell? ⟨w.heap.size,2,none⟩=some (.int .i64 p.tg):=fun U hU=>R0 U 2 hU
   have rc3:∀U,jB w2 U→U.cell? ⟨w.heap.size,3,none⟩=some (.int .i64 p.tol):=fun U hU=>R0 U 3 hU
   have rc4:∀U,jB w2 U→U.cell? ⟨w.heap.size,4,none⟩=some (.int .i64 p.win):=fun U hU=>R0 U 4 hU
   have rc5:∀U,jB w2 U→U.cell? ⟨w.heap.size,5,none⟩=some (.int .i64 p.hold):=fun U hU=>R0 U 5 hU
   clear R0;have hS00:jB w2 w2:=jR;have hS0:jB w2 w2.drew:=hS00.drew
   go_region_held3 (fun U=>jB w2 U)
     (first
       | with_reducible exact hS0
       | with_reducible exact HB3.out
       | with_reducible exact HB4.out
       | with_reducible exact hS00)
     (first
     | (go_at_call 196
        refine calls_named ?_;intro W2 hW2;subst hW2;refine (CW.out _).mono ?_;rintro e w3 ⟨rfl,hb3⟩;have HB3:=jH (bthen ‹jB w2 _› hb3);clear hb3)
     | (go_at_call 200
        refine calls_named ?_;intro W2 hW2;subst hW2;refine (CB2.out _).mono ?_;rintro e w4 ⟨rfl,hb4⟩;have HB4:=jH (bthen ‹jB w2 _› hb4);clear hb4))
   all_goals
     go_wp2
     go_ret
     exact ⟨rfl,bthen HB2.out HB4.out⟩
 · have HR:=jH (show boundI p (if true=true then now else wantP p load)=boundI p now from rfl)
   rw [HR.out];clear HR;have CB2:=jH (fun W=>CB.out now W);clear CB CW;generalize boundI p now=r at CB2 ⊢;unfold polV at CN CB2 ⊢
   go_enter Tryz.func198,Tryz.ntmps198
   go_wp2_with (first
    | (go_at_call 197
       refine calls_named ?_;intro W1 hW1;have hb1:jB w W1:=by rw [hW1];exact balloc jR _
       have hx1:W1.heap[w.heap.size]?=some (.cells #[.int .i64 p.mn,.int .i64 p.mx,.int .i64 p.tg,.int .i64 p.tol,.int .i64 p.win,.int .i64 p.hold] 46 (0,0)):=by rw [hW1];exact heap_alloc_new _ _
       clear hW1;refine (CN.out W1).mono ?_;rintro e w2 ⟨rfl,hb2⟩;have HB2:=jH (bthen hb1 hb2);obtain ⟨hx2,R0⟩:=box_rule hx1 hb2;clear hb1 hb2 hx1 hx2)
    | (go_at_call 200
       refine (CB2.out _).mono ?_;rintro e w4 ⟨rfl,hb4⟩))
   go_ret
   exact ⟨rfl,by repeat (first|exact HB2.out|refine bthen ?_ hb4|refine below_drewN ?_ _|refine Below.drew ?_)⟩
end
section
open Go.RowKit Go.Lib
def latF (l:List Smp) (b:Int):Int:=l.foldl (fun b x=>max b x.1) b
theorem latF_snoc (l:List Smp) (x:Smp) (b:Int):latF (l++[x]) b=max (latF l b) x.1:=by simp [latF]
theorem latF_all {l:List Smp} (h:0<l.length):latF l l[0].1=latestI l:=by
 cases l with
 | nil=>simp at h
 | cons s l=>simp [latF,latestI]
theorem now_last (p:Pol) {l:List Adv} (h:0<l.length):nowI p l=(l[l.length - 1]'(by omega)).repl:=by
 unfold nowI;rw [List.getLast?_eq_getElem?,List.getElem?_eq_getElem (by omega)]
theorem decLate_any (v:Value) (l:List Smp) (w:World) (hv:RowIn 2 smpC w v l) (hl:l.length≤1000000) (h0:0<l.length) :
 Calls Tryz.prog 194 #[v] w (jP w (.tuple #[.int .i64 (latestI l),.bool true])):=by
 obtain ⟨A,c,rfl⟩:=hv.form;have HV:=jH hv;have HL:=jH hl;have hl9:l.length≤9223372036854775807:=by omega
 have z8:(0:Int)<(l.length:Int):=by omega
 have z9:¬((l.length:Nat):Int)=0:=by omega
 have z7:(((l.length:Nat):Int) == 0)=false:=beq_eq_false_iff_ne.2 z9;have HA:=jH (latF_all h0);obtain ⟨b0,o0,rfl,hb0,hc0⟩:=hv.at_ h0;generalize l[0]=s at HA hc0;have c0:=hc0 0 _ rfl;rw [Nat.add_zero] at c0;clear hv hl hc0
 go_enter Tryz.func194,Tryz.ntmps194
 go_wp2
 go_loopg [4,16] l.length (fun g s7 s12 wr=>∃k:Nat,k≤l.length∧l.length - k≤g∧s12=.int .i64 k∧s7=.int .i64 (latF (l.take k) s.1)∧jB w wr)
 case atStart=>exact ⟨0,Nat.zero_le _,Nat.le_refl _,rfl,rfl,jR⟩
 case round =>
  obtain ⟨k,hk,hg,rfl,rfl,hb⟩:=hrel;rename World=>wr
  have HB:=jH hb;clear hb
  by_cases hlt:k<l.length
  · obtain ⟨b1,o1,e1,hb1,hc⟩:=(HV.out.below HB.out).at_ hlt
    cases e1
    have z1:(0:Int)≤(k:Int):=by omega
    have z2:(k:Int)<(l.length:Int):=by omega
    have HTK:=jH (show latF (l.take (k+1)) s.1=max (latF (l.take k) s.1) l[k].1 by rw [List.take_succ_eq_append_getElem hlt,latF_snoc]);generalize l[k]=x at hc HTK;generalize latF (l.take k) s.1=q at HTK;have d0:=hc 0 _ rfl;have d1:=hc 1 _ rfl;rw [Nat.add_zero] at d0;have HK:=jH hlt;clear hc
    as_aux_lemma =>
     go_wp2_with fail
     go_roundg (l.length - (k+1))
     case measure=>omega
     case rel=>exact ⟨k+1,HK.out,Nat.le_refl _,by go_num,by rw [HTK.out],by first|exact HB.out|exact balloc HB.out _⟩
  · obtain rfl:k=l.length:=by omega
    rw [List.take_length];obtain ⟨q,hq⟩:∃q,q=latF l s.1:=⟨_,rfl⟩;rw [←hq];rw [←hq] at HA;have HST:=HA;clear hq;go_wp2_with fail
    exact bodyPost_ret (v:=.tuple #[.int .i64 q,.bool true]) (by simp [results,Tryz.results194,go_sem]) rfl ⟨by rw [←HST.out],HB.out⟩
theorem refLate_any (v:Value) (l:List Smp) (w:World) (hv:RowIn 2 smpC w v l) (hl:l.length≤1000000) (h0:0<l.length) :
 Calls Tryz.prog 171 #[v] w (jP w (.int .i64 (latestI l))):=by
 obtain ⟨A,c,rfl⟩:=hv.form;have HV:=jH hv;have HL:=jH hl;have hl9:l.length≤9223372036854775807:=by omega
 have z8:(0:Int)<(l.length:Int):=by omega
 have z9:¬((l.length:Nat):Int)=0:=by omega
 have z7:(((l.length:Nat):Int) == 0)=false:=beq_eq_false_iff_ne.2 z9;have HA:=jH (latF_all h0);obtain ⟨b0,o0,rfl,hb0,hc0⟩:=hv.at_ h0;generalize l[0]=s at HA hc0;have c0:=hc0 0 _ rfl;rw [Nat.add_zero] at c0;clear hv hl hc0
 go_enter Tryz.func171,Tryz.ntmps171
 go_wp2
 go_loopg [3,4] l.length (fun g s7 s12 wr=>∃k:Nat,k≤l.length∧l.length - k≤g∧s12=.int .i64 k∧s7=.int .i64 (latF (l.take k) s.1)∧jB w wr)
 case atStart=>exact ⟨0,Nat.zero_le _,Nat.le_refl _,rfl,rfl,jR⟩
 case round =>
  obtain ⟨k,hk,hg,rfl,rfl,hb⟩:=hrel;rename World=>wr
  have HB:=jH hb;clear hb
  by_cases hlt:k<l.length
  · obtain ⟨b1,o1,e1,hb1,hc⟩:=(HV.out.below HB.out).at_ hlt
    cases e1
    have z1:(0:Int)≤(k:Int):=by omega
    have z2:(k:Int)<(l.length:Int):=by omega
    have HTK:=jH (show latF (l.take (k+1)) s.1=max (latF (l.take k) s.1) l[k].1 by rw [List.take_succ_eq_append_getElem hlt,latF_snoc]);generalize l[k]=x at hc HTK;generalize latF (l.take k) s.1=q at HTK;have d0:=hc 0 _ rfl;have d1:=hc 1 _ rfl;rw [Nat.add_zero] at d0;have HK:=jH hlt;clear hc
    by_cases q1:q<x.1
    · have HN:=jH (show max q x.1=x.1 by omega)
      as_aux_lemma =>
       go_wp2_with fail
       go_roundg (l.length - (k+1))
       case measure=>omega
       case rel=>exact ⟨k+1,HK.out,Nat.le_refl _,by go_num,by rw [HTK.out,HN.out],by first|exact HB.out|exact balloc HB.out _⟩
    · have HN:=jH (show max q x.1=q by omega)
      as_aux_lemma =>
       go_wp2_with fail
       go_roundg (l.length - (k+1))
       case measure=>omega
       case rel=>exact ⟨k+1,HK.out,Nat.le_refl _,by go_num,by rw [HTK.out,HN.out],by first|exact HB.out|exact balloc HB.out _⟩
  · obtain rfl:k=l.length:=by omega
    rw [List.take_length];obtain ⟨q,hq⟩:∃q,q=latF l s.1:=⟨_,rfl⟩;rw [←hq];rw [←hq] at HA;have HST:=HA;clear hq;go_wp2_with fail
    go_ret
    exact ⟨by rw [←HST.out];rfl,HB.out⟩
theorem decWhy_any (p:Pol) (held:Bool) (op now til:Int) (w:World) :
 Calls Tryz.prog 201 #[polV p,.bool held,.int .i64 op,.int .i64 now,.int .i64 til] w (jP w (.int .i64 (whyI p held op now til))):=by
 unfold polV;obtain ⟨q,hq⟩:∃q,q=whyI p held op now til:=⟨_,rfl⟩;rw [←hq];have HQ:=jH hq;clear hq
 cases held
 all_goals
   go_enter Tryz.func201,Tryz.ntmps201
   go_wp2
   all_goals
     go_ret
     refine ⟨ret_int ?_,balloc jR _⟩;rw [HQ.out];unfold whyI;simp only [Bool.false_eq_true,if_false,if_true,ite_false,ite_true]
     repeat' split
     all_goals omega
theorem refWhy_any (p:Pol) (held:Bool) (op now til:Int) (w:World) :
 Calls Tryz.prog 177 #[polV p,.bool held,.int .i64 op,.int .i64 now,.int .i64 til] w (jP w (.int .i64 (whyI p held op now til))):=by
 unfold polV;obtain ⟨q,hq⟩:∃q,q=whyI p held op now til:=⟨_,rfl⟩;rw [←hq];have HQ:=jH hq;clear hq
 cases held
 all_goals
   go_enter Tryz.func177,Tryz.ntmps177
   go_wp2
   all_goals
     go_ret
     refine ⟨ret_int ?_,balloc jR _⟩;rw [HQ.out];unfold whyI;simp only [Bool.false_eq_true,if_false,if_true,ite_false,ite_true]
     repeat' split
     all_goals omega
theorem decNow_any (p:Pol) (v:Value) (l:List Adv) (w:World) (hv:RowIn 5 advC w v l) (hl:l.length≤1000000) :
 Calls Tryz.prog 195 #[polV p,v] w (jP w (.int .i64 (nowI p l))):=by
 obtain ⟨A,c,rfl⟩:=hv.form;unfold polV
 by_cases h0:0<l.length
 · have HN:=jH (now_last p h0)
   have z9:¬((l.length:Nat):Int)=0:=by omega
   have z7:(((l.length:Nat):Int) == 0)=false:=beq_eq_false_iff_ne.2 z9;obtain ⟨n,hn⟩:∃n,n=l.length - 1:=⟨_,rfl⟩;have hlt:n<l.length:=by omega
   have HN2:=jH (show nowI p l=l[n].repl by rw [HN.out];simp only [hn]);obtain ⟨b0,o0,rfl,hb0,hc0⟩:=(hv.below (balloc (Below.refl w.heap.size w) (.cells #[.int .i64 p.mn,.int .i64 p.mx,.int .i64 p.tg,.int .i64 p.tol,.int .i64 p.win,.int .i64 p.hold] 46))).at_ hlt;have hw:wrap64 ((n:Nat):Int)=(n:Nat):=by unfold wrap64;omega
   have hw2:((l.length:Nat) - 1:Int)=(n:Nat):=by omega
   have z1:(0:Int)≤(n:Int):=by omega
   have z2:(n:Int)<(l.length:Int):=by omega
   generalize l[n]=x at hc0 HN2;have c3:=hc0 3 _ rfl;clear hv hl hc0 HN hn
   go_enter Tryz.func195,Tryz.ntmps195
   go_wp2
   go_ret
   exact ⟨by rw [HN2.out];rfl,balloc jR _⟩
 · have hz:l=[]:=List.length_eq_zero_iff.1 (by omega)
   subst hz;have HN:=jH (show nowI p []=p.mn from rfl);clear hv hl
   go_enter Tryz.func195,Tryz.ntmps195
   go_wp2
   go_ret
   exact ⟨by rw [HN.out];rfl,balloc jR _⟩
theorem refNow_any (p:Pol) (v:Value) (l:List Adv) (w:World) (hv:RowIn 5 advC w v l) (hl:l.length≤1000000) :
 Calls Tryz.prog 173 #[polV p,v] w (jP w (.int .i64 (nowI p l))):=by
 obtain ⟨A,c,rfl⟩:=hv.form;unfold polV
 by_cases h0:0<l.length
 · have HN:=jH (now_last p h0)
   have z9:¬((l.length:Nat):Int)=0:=by omega
   have z7:(((l.length:Nat):Int) == 0)=false:=beq_eq_false_iff_ne.2 z9;obtain ⟨n,hn⟩:∃n,n=l.length - 1:=⟨_,rfl⟩;have hlt:n<l.length:=by omega
   have HN2:=jH (show nowI p l=l[n].repl by rw [HN.out];simp only [hn]);obtain ⟨b0,o0,rfl,hb0,hc0⟩:=(hv.below (balloc (Below.refl w.heap.size w) (.cells #[.int .i64 p.mn,.int .i64 p.mx,.int .i64 p.tg,.int .i64 p.tol,.int .i64 p.win,.int .i64 p.hold] 46))).at_ hlt;have hw:wrap64 ((n:Nat):Int)=(n:Nat):=by unfold wrap64;omega
   have hw2:((l.length:Nat) - 1:Int)=(n:Nat):=by omega
   have z1:(0:Int)≤(n:Int):=by omega
   have z2:(n:Int)<(l.length:Int):=by omega
   generalize l[n]=x at hc0 HN2;have c3:=hc0 3 _ rfl;clear hv hl hc0 HN hn
   go_enter Tryz.func173,Tryz.ntmps173
   go_wp2
   go_ret
   exact ⟨by rw [HN2.out];rfl,balloc jR _⟩
 · have hz:l=[]:=List.length_eq_zero_iff.1 (by omega)
   subst hz;have HN:=jH (show nowI p []=p.mn from rfl);clear hv hl
   go_enter Tryz.func173,Tryz.ntmps173
   go_wp2
   go_ret
   exact ⟨by rw [HN.out];rfl,balloc jR _⟩
end
end Go.Proofs.YtpmfcpdelkchaaaGreat
