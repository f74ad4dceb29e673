/- Part 34 of the proof. -/
import Derived.Test.YtmniiodpbebnmaaGreatJ33
namespace Go.Proofs.YtmniiodpbebnmaaGreat
set_option linter.unusedSimpArgs false
set_option linter.unusedVariables false
set_option linter.unusedSectionVars false
set_option maxRecDepth 100000
set_option maxHeartbeats 16000000
section
open Go.RowKit Go.Lib
def AtM (l:List Int):Prop:=∀(v:Value) (m:Nat) (W:World),a0O 1 nmC W v l→m≤9223372036854775807 →
  Calls Tryz.prog 222 #[v,.int .i64 (m:Nat)] W (jP W (.bool (decide (f0P l≤m))))
theorem v0L {lo hi d h m m1:Nat} (hd:d=hi - lo) (hh:h=d / 2) (hm:m=lo+h) (hm1:m1=m+1) (hlt:lo<hi) (h3:hi≤9223372036854775807) :
 wrap64 ((hi:Int) - (lo:Int))=(d:Int)∧wrap64 ((d:Int).tdiv 2)=(h:Int)∧(d:Int).tdiv 2=(h:Int)∧wrap64 (h:Int)=(h:Int)∧wrap64 ((lo:Int)+(h:Int))=(m:Int)∧wrap64 ((m:Int)+1)=(m1:Int):=by
 have e:(d:Int).tdiv 2=(h:Int):=by rw [j0M (by omega)];omega
 rw [e];refine ⟨?_,?_,rfl,?_,?_,?_⟩
 all_goals
   clear e;unfold wrap64;omega
theorem u1B (a b:Nat):decide (0≤s0F a b)=decide (b≤a):=by
 unfold s0F
 by_cases h:a=b
 · rw [if_pos h];subst h;simp
 · rw [if_neg h]
   by_cases k:a<b
   · rw [if_pos k];simp;omega
   · rw [if_neg k];simp;omega
theorem y0B (n:List Int) (hi:∀x∈n,0≤x∧x≤9223372036854775807) (hl:n.length≤1000000):AtM n:=by
 intro v m w hv hm;obtain ⟨A,c,rfl⟩:=hv.form
 by_cases h0:n=[]
 · subst h0
   have HR:=jH (show decide (f0P []≤m)=true by unfold f0P;simp);rw [HR.out];clear hi hl hv hm HR
   go_enter Tryz.func222,Tryz.ntmps222
   go_wp2
   go_ret
   exact ⟨rfl,jR⟩
 · have hp:0<n.length:=List.length_pos_iff.2 h0
   have z1:¬(n.length:Int)=0:=by omega
   have z2:¬n.length=0:=by omega
   have g1:IntKind.u64.wrap (m:Int)=(m:Int):=c0E m (by omega);have g2:IntKind.u64.wrap (n.length:Int)=(n.length:Int):=c0E _ (by omega);obtain ⟨a,ha⟩:∃a,a=m * n.length:=⟨_,rfl⟩;obtain ⟨t,ht⟩:∃t,t=g0U n:=⟨_,rfl⟩;have la:a≤9223372036854775807 * 1000000:=ha ▸ Nat.mul_le_mul hm hl;have lt:t≤1000000 * 9223372036854775807:=ht ▸ Nat.le_trans (o0F (fun x hx=>(hi x hx).2)) (Nat.mul_le_mul_right _ hl)
   have C1:=jH (fun W=>show Calls Tryz.prog 272 #[.int .u64 (m:Nat),.int .u64 (n.length:Nat)] W (jP W (.agg (a0R a.testBit).toArray)) from ha ▸ m0R m n.length (by omega) (by omega) W);have CT:=jH (fun (W:World) (hW:jB w W)=>show Calls Tryz.prog 274 #[.slice A n.length c] W (jP W (.agg (a0R t.testBit).toArray)) from ht ▸ w0R _ n W (hv.below hW) hl hi);have CC:=jH (fun W=>show Calls Tryz.prog 273 #[.agg (a0R a.testBit).toArray,.agg (a0R t.testBit).toArray] W (jP W (.int .i64 (s0F a t))) from r0R a t (by omega) (by omega) W)
   have HR:=jH (show decide (0≤s0F a t)=decide (f0P n≤m) by rw [u1B,ha,ht];exact decide_eq_decide.2 (a1S h0 m));rw [←HR.out];generalize s0F a t=r at CC ⊢;have hst:=fun W=>g0M W W.heap.size rfl a.testBit
   clear HR ha ht la lt hp h0 hi hl hv hm
   go_enter Tryz.func222,Tryz.ntmps222
   go_wp2_with (go_at_call 272;refine (C1.out _).mono ?_;rintro e w2 ⟨rfl,hb2⟩;have HB2':=jH hb2;clear hb2)
   refine a0I ?_;intro w4 hW4;have HX4:=jH (show e0W w4 w2.heap.size a.testBit by rw [hW4];exact k0C w2 a.testBit);have HB2:=jH (show jB w w4 by rw [hW4];exact a0C HB2'.out _);clear hW4 hst;have HB4r:=jH (Below.refl w4.heap.size w4);refine wp_region_held_drew (S:=(fun U:World=>jB w4 U)) (by kernel_rfl) ?hS1 (fun hHeld=>?_)
   case hS1=>first|with_reducible exact HB4r.out|exact HB4r.out.drew|with_reducible exact HB5.out|with_reducible exact HB6.out
   refine wpAnyH_take (i:=0) (v:=.agg (a0R a.testBit).toArray) rfl (by kernel_rfl) (by kernel_rfl) (by kernel_rfl) (fun _ _ _ h=>h) (yieldsIf_load_mid (by rfl) 338 (.tmp 5) (by rfl) w2.heap.size (0) (by rfl) (a0R a.testBit) _ (fun U hU=>(HX4.out.below hU).range) Tryz.underlying338 (by rfl) (b0C _)) (by assumption) ?_
   try simp only [Act.put,jA]
   refine wpAnyH_take (i:=1) (v:=?v2) rfl (by kernel_rfl) (by kernel_rfl) (by kernel_rfl) (fun _ _ _ h=>h) (Or.inl ⟨by rfl,?hy2⟩) (by assumption) ?_
   case hy2 =>
    intro w' hSw
    (try dsimp only at hSw)
    go_simp
    try (with_reducible rfl)
   try simp only [Act.put,jA]
   refine wpAnyH_ready (rs:=[2]) (by kernel_rfl) (by simp) ?_;refine AllReadyH.cons rfl (fun K hK=>?_) AllReadyH.nil;go_simp
   go_at_call 274
   refine a0B ?_;intro W5 hW5;have hb5:jB w4 W5:=by rw [hW5];first|exact jR|exact jR.drew
   clear hW5;refine (CT.out W5 (a0D HB2.out hb5)).mono ?_;rintro e w5 ⟨rfl,hb6⟩;have HB5:=jH (a0D hb5 hb6);clear hb5 hb6
   try go_simp
   refine hK.out _ _ ?hS3 (fun hHeld2=>?_)
   case hS3=>first|with_reducible exact HB4r.out|exact HB4r.out.drew|with_reducible exact HB5.out|with_reducible exact HB6.out
   clear hK K hHeld;have hHeld:=hHeld2;clear hHeld2
   try simp only [Act.put,jA]
   refine wpAnyH_ready (rs:=[3]) (by kernel_rfl) (by simp) ?_;refine AllReadyH.cons rfl (fun K hK=>?_) AllReadyH.nil;go_simp
   go_at_call 273
   refine (CC.out w5).mono ?_;rintro e w6 ⟨rfl,hb6⟩;have HB6:=jH (a0D HB5.out hb6);clear hb6
   try go_simp
   refine hK.out _ _ ?hS4 (fun hHeld2=>?_)
   case hS4=>first|with_reducible exact HB4r.out|exact HB4r.out.drew|with_reducible exact HB5.out|with_reducible exact HB6.out
   clear hK K hHeld;have hHeld:=hHeld2;clear hHeld2
   try simp only [Act.put,jA]
   refine wpAnyH_take (i:=4) (v:=?v5) rfl (by kernel_rfl) (by kernel_rfl) (by kernel_rfl) (fun _ _ _ h=>h) (Or.inl ⟨by rfl,?hy5⟩) (by assumption) ?_
   case hy5 =>
    intro w' hSw
    (try dsimp only at hSw)
    go_simp
    try (with_reducible rfl)
   try simp only [Act.put,jA]
   refine wpAnyH_take (i:=5) (v:=?v6) rfl (by kernel_rfl) (by kernel_rfl) (by kernel_rfl) (fun _ _ _ h=>h) (Or.inl ⟨by rfl,?hy6⟩) (by assumption) ?_
   case hy6 =>
    intro w' hSw
    (try dsimp only at hSw)
    go_simp
    try (with_reducible rfl)
   try simp only [Act.put,jA]
   refine wpAnyH_done (by kernel_rfl) ?_ _;go_wp2
   go_ret
   exact ⟨rfl,a0D HB2.out HB6.out⟩
theorem x0H (v:Value) (l:List Smp) (w:World) (HA:AtM (c0P l)) (hv:a0O 2 b0X w v l) (hl:l.length≤1000000) (hi:r0Y l) :
 Calls Tryz.prog 178 #[v] w (jP w (.int .i64 (f0P (c0P l):Nat))):=by
 have CV:=jH (j0Z v l w hv hl);have hM:f0P (c0P l)≤9223372036854775807:=n0V (fun n hn=>(j0K hi n hn).2);have CA:=jH HA;clear HA hv hi hl;generalize c0P l=n at *;obtain ⟨M,hMe⟩:∃M,M=f0P n:=⟨_,rfl⟩;have CA2:=jH (fun (v:Value) (m:Nat) (W:World) (h:a0O 1 nmC W v n) (hm:m≤9223372036854775807)=>hMe ▸ CA.out v m W h hm);rw [←hMe] at hM ⊢;clear CA hMe;have HM:=jH hM;clear hM
 go_enter Tryz.func178,Tryz.ntmps178
 go_wp2_with (go_at_call 190;refine CV.out.mono ?_;rintro e w2 ⟨A,c,rfl,hown,hb2⟩;have HB:=jH hb2;have HO:=jH hown;clear hb2 hown)
 clear CV
 go_loopg [4,5] 9223372036854775807 (fun g s4 s5 wr=>∃lo hi:Nat,s4=.int .i64 (lo:Nat)∧s5=.int .i64 (hi:Nat)∧Hid (lo≤M∧M≤hi∧hi≤9223372036854775807∧hi - lo≤g)∧jB w2 wr)
 case atStart=>exact ⟨0,9223372036854775807,rfl,rfl,jH ⟨Nat.zero_le _,HM.out,Nat.le_refl _,by omega⟩,jR⟩
 case round =>
  obtain ⟨lo,hi,rfl,rfl,HH,hb⟩:=hrel;rename World=>wr
  have HBB:=jH hb;have HRW:=jH ((HO.out.row eNm).below hb);clear hb
  by_cases hlt:lo<hi
  · obtain ⟨h1,h2,h3,h4⟩:=HH.out
    obtain ⟨d,hd⟩:∃d:Nat,d=hi - lo:=⟨_,rfl⟩;obtain ⟨h,hh⟩:∃h:Nat,h=d / 2:=⟨_,rfl⟩;obtain ⟨m,hm⟩:∃m,m=lo+h:=⟨_,rfl⟩;obtain ⟨m1,hm1⟩:∃m1:Nat,m1=m+1:=⟨_,rfl⟩;have z1:(lo:Int)<(hi:Int):=by omega
    have CM:=jH (CA2.out _ m wr HRW.out (by omega))
    by_cases q:M≤m
    · rw [decide_eq_true q] at CM
      have HG:=jH (show lo≤M∧M≤m∧m≤9223372036854775807∧m - lo≤m - lo by omega);have HD:=jH (show m - lo<hi - lo∧hi - m1<hi - lo by omega);obtain ⟨x1,x2,x2b,x2c,x3,x5⟩:=v0L hd hh hm hm1 hlt h3;clear hm hd hh hm1 hlt h1 h2 h3 h4 q
      as_aux_lemma =>
       go_wp2_with (go_at_call 222;refine CM.out.mono ?_;rintro e w5 ⟨rfl,hb5⟩;have HB5:=jH (a0D HBB.out hb5);clear hb5)
       go_roundg (m - lo)
       case measure=>have h8:=HD.out;have h9:=HH.out;omega
       case rel=>exact ⟨lo,m,rfl,rfl,HG,HB5.out⟩
    · rw [decide_eq_false q] at CM
      have HG:=jH (show m1≤M∧M≤hi∧hi≤9223372036854775807∧hi - m1≤hi - m1 by omega);have HD:=jH (show m - lo<hi - lo∧hi - m1<hi - lo by omega);obtain ⟨x1,x2,x2b,x2c,x3,x5⟩:=v0L hd hh hm hm1 hlt h3;clear hm hd hh hm1 hlt h1 h2 h3 h4 q
      as_aux_lemma =>
       go_wp2_with (go_at_call 222;refine CM.out.mono ?_;rintro e w5 ⟨rfl,hb5⟩;have HB5:=jH (a0D HBB.out hb5);clear hb5)
       go_roundg (hi - m1)
       case measure=>have h8:=HD.out;have h9:=HH.out;omega
       case rel=>exact ⟨m1,hi,by first|rfl|rw [x5],rfl,HG,HB5.out⟩
  · have HE:=jH (show M=lo by have:=HH.out;omega)
    have z1:¬(lo:Int)<(hi:Int):=by omega
    go_wp2_with fail
    go_ret
    exact ⟨by rw [HE.out];rfl,a0D HB.out HBB.out⟩
theorem l0M (v:Value) (l:List Smp) (w:World) (hv:a0O 2 b0X w v l) (hl:l.length≤1000000) (hi:r0Y l) :
 Calls Tryz.prog 178 #[v] w (jP w (.int .i64 (f0P (c0P l):Nat))) :=
 x0H v l w (y0B _ (j0K hi) (by rw [j0L];exact hl)) hv hl hi
theorem t0N (p:Pol) (load now:Int) (w:World) (hn:I64 load) (hq:I64 p.tg) :
 Calls Tryz.prog 223 #[b0W p,.int .i64 load,.int .i64 now] w (jP w (.bool (l0D p load now))):=by
 by_cases h:d0G p=false∨now<1∨1073741824<now
 · rw [v0D h]
   exact u0B p load now w h
 · have hp:d0G p=true:=by
    cases hp:d0G p
    · exact absurd (Or.inl hp) h
    · rfl
   exact v0Q p load now w hp (by omega) (by omega) hn hq
theorem t0J (p:Pol) (load now:Int) (w:World) (hn:I64 load) (hq:I64 p.tg) :
 Calls Tryz.prog 180 #[b0W p,.int .i64 load,.int .i64 now] w (jP w (.int .i64 (b1J p load now))):=by
 have CN:=jH (fun W=>t0N p load now W hn hq);have CW:=jH (fun W=>s0G p load W hn hq);unfold b1J;clear hn hq;generalize l0D p load now=near at CN ⊢;generalize o0Z p load=m at CW ⊢;unfold b0W at CN CW ⊢
 cases near
 all_goals
   go_enter Tryz.func180,Tryz.ntmps180
   go_wp2_with (first
    | (go_at_call 223
       refine a0B ?_;intro W1 hW1;have hb1:jB w W1:=by rw [hW1];exact a0C jR _
       have hx1:W1.heap[w.heap.size]?=some (.cells #[.int .i64 p.mn,.int .i64 p.mx,.int .i64 p.tg,.int .i64 p.tol,.int .i64 p.win,.int .i64 p.hold] 35 (0,0)):=by rw [hW1];exact heap_alloc_new _ _
       clear hW1;refine (CN.out W1).mono ?_;rintro e w2 ⟨rfl,hb2⟩;have HB2:=jH (a0D hb1 hb2);obtain ⟨hx2,R0⟩:=b0H hx1 hb2;clear hb1 hb2 hx1 hx2)
    | (go_at_call 224
       refine (CW.out _).mono ?_;rintro e w4 ⟨rfl,hb4⟩))
   go_ret
   exact ⟨rfl,by repeat (first|exact HB2.out|refine a0D ?_ hb4|refine a0F ?_ _|refine Below.drew ?_)⟩
theorem y0O (p:Pol) (l:List Smp) (past:List Adv) (vs vp:Value) (w:World) (hs:a0O 2 b0X w vs l) (hp:a0O 5 c0V w vp past) (hl:l.length≤1000000) (hl2:past.length≤1000000) (hi:r0Y l) (ho:p.ok) :
 Calls Tryz.prog 111 #[b0W p,vs,vp] w (jP w (.tuple #[.agg (c0V (n0K p l past).1).toArray,.int .i64 (n0K p l past).2])):=by
 obtain ⟨A,c,rfl⟩:=hs.form;obtain ⟨A2,c2,rfl⟩:=hp.form
 cases hpb:d0G p
 · have HC:=jH (c0K p)
   have HE:=jH (hpb);have HD:=jH (show n0K p l past=(c0U,7) by unfold n0K;rw [if_pos hpb]);rw [HD.out];clear hpb HD hs hp hi ho hl hl2;unfold b0W;unfold b0W at HC
   go_enter Tryz.func111,Tryz.ntmps111
   go_wp2_with (first
   | (go_at_call 92
      refine a0B ?_;intro W1 hW1;have hb1:jB w W1:=by rw [hW1];exact a0C (a0C jR _) _
      have hx1:W1.heap[w.heap.size]?=some (.cells #[.int .i64 p.mn,.int .i64 p.mx,.int .i64 p.tg,.int .i64 p.tol,.int .i64 p.win,.int .i64 p.hold] 35 (0,0)):=by rw [hW1];exact c0J _ _ _
      have hy1:W1.heap[w.heap.size+1]?=some (.cells #[.int .i64 0,.int .i64 0,.int .i64 0,.int .i64 0,.int .i64 0] 44 (0,0)):=by rw [hW1];exact b0R _ _ _
      clear hW1;refine (HC.out W1).mono ?_;rw [HE.out];rintro e w2 ⟨rfl,hb2⟩;have HB2:=jH (a0D hb1 hb2);obtain ⟨hx2,R0⟩:=b0H hx1 hb2;obtain ⟨hy2,R1⟩:=b0H hy1 hb2;have HY2:=jH hy2;have rc0:∀U,jB w2 U→U.cell? ⟨w.heap.size,0,none⟩=some (.int .i64 p.mn):=fun U hU=>R0 U 0 hU
      have rc1:∀U,jB w2 U→U.cell? ⟨w.heap.size,1,none⟩=some (.int .i64 p.mx):=fun U hU=>R0 U 1 hU
      have rc2:∀U,jB w2 U→U.cell? ⟨w.heap.size,2,none⟩=some (.int .i64 p.tg):=fun U hU=>R0 U 2 hU
      have rc3:∀U,jB w2 U→U.cell? ⟨w.heap.size,3,none⟩=some (.int .i64 p.tol):=fun U hU=>R0 U 3 hU
      have rc4:∀U,jB w2 U→U.cell? ⟨w.heap.size,4,none⟩=some (.int .i64 p.win):=fun U hU=>R0 U 4 hU
      have rc5:∀U,jB w2 U→U.cell? ⟨w.heap.size,5,none⟩=some (.int .i64 p.hold):=fun U hU=>R0 U 5 hU
      have rr0:∀U,jB w2 U→U.cell? ⟨w.heap.size+1,0,none⟩=some (.int .i64 0):=fun U hU=>R1 U 0 hU
      have rr1:∀U,jB w2 U→U.cell? ⟨w.heap.size+1,1,none⟩=some (.int .i64 0):=fun U hU=>R1 U 1 hU
      have rr2:∀U,jB w2 U→U.cell? ⟨w.heap.size+1,2,none⟩=some (.int .i64 0):=fun U hU=>R1 U 2 hU
      have rr3:∀U,jB w2 U→U.cell? ⟨w.heap.size+1,3,none⟩=some (.int .i64 0):=fun U hU=>R1 U 3 hU
      have rr4:∀U,jB w2 U→U.cell? ⟨w.heap.size+1,4,none⟩=some (.int .i64 0):=fun U hU=>R1 U 4 hU
      have rf:∀U j,jB w2 U→U.frozen? ⟨w.heap.size+1,j,none⟩=false:=fun U j hU=>(a0A hU HY2.out).2.1 j
      clear hb1 hb2 hx1 hx2 hy1 hy2 R0 R1))
   have HBE:=jH HB2.out;refine a0H ?_;intro W9 hW9;have hW9':W9=b0J w2 (w.heap.size+1) 0 [.int .i64 0,.int .i64 0,.int .i64 0,.int .i64 0,.int .i64 0]:=hW9;obtain ⟨s1,s2,s3,s4⟩:=a0P (HY2.out) [.int .i64 0,.int .i64 0,.int .i64 0,.int .i64 0,.int .i64 0] rfl W9 hW9';obtain ⟨a9,a8,a7⟩:=a0A jR s1;clear hW9 hW9';exact bodyPost_ret (v:=.tuple #[.agg #[.int .i64 0,.int .i64 0,.int .i64 0,.int .i64 0,.int .i64 0],.int .i64 7]) (by simp [results,Tryz.results111,go_sem,a9]) rfl ⟨rfl,HBE.out.trans (s4 _ (Nat.le_succ _))⟩
 · have HC:=jH (c0K p)
   have HE:=jH (hpb)
   by_cases hne:l=[]
   · subst hne
     have HD:=jH (show n0K p [] past=(c0U,5) by unfold n0K;rw [if_neg (by rw [hpb];simp),if_pos rfl]);rw [HD.out];clear hpb HD hs hp hi ho hl hl2;unfold b0W;unfold b0W at HC
     go_enter Tryz.func111,Tryz.ntmps111
     go_wp2_with (first
     | (go_at_call 92
        refine a0B ?_;intro W1 hW1;have hb1:jB w W1:=by rw [hW1];exact a0C (a0C jR _) _
        have hx1:W1.heap[w.heap.size]?=some (.cells #[.int .i64 p.mn,.int .i64 p.mx,.int .i64 p.tg,.int .i64 p.tol,.int .i64 p.win,.int .i64 p.hold] 35 (0,0)):=by rw [hW1];exact c0J _ _ _
        have hy1:W1.heap[w.heap.size+1]?=some (.cells #[.int .i64 0,.int .i64 0,.int .i64 0,.int .i64 0,.int .i64 0] 44 (0,0)):=by rw [hW1];exact b0R _ _ _
        clear hW1;refine (HC.out W1).mono ?_;rw [HE.out];rintro e w2 ⟨rfl,hb2⟩;have HB2:=jH (a0D hb1 hb2);obtain ⟨hx2,R0⟩:=b0H hx1 hb2;obtain ⟨hy2,R1⟩:=b0H hy1 hb2;have HY2:=jH hy2;have rc0:∀U,jB w2 U→U.cell? ⟨w.heap.size,0,none⟩=some (.int .i64 p.mn):=fun U hU=>R0 U 0 hU
        have rc1:∀U,jB w2 U→U.cell? ⟨w.heap.size,1,none⟩=some (.int .i64 p.mx):=fun U hU=>R0 U 1 hU
        have rc2:∀U,jB w2 U→U.cell? ⟨w.heap.size,2,none⟩=some (.int .i64 p.tg):=fun U hU=>R0 U 2 hU
        have rc3:∀U,jB w2 U→U.cell? ⟨w.heap.size,3,none⟩=some (.int .i64 p.tol):=fun U hU=>R0 U 3 hU
        have rc4:∀U,jB w2 U→U.cell? ⟨w.heap.size,4,none⟩=some (.int .i64 p.win):=fun U hU=>R0 U 4 hU
        have rc5:∀U,jB w2 U→U.cell? ⟨w.heap.size,5,none⟩=some (.int .i64 p.hold):=fun U hU=>R0 U 5 hU
        have rr0:∀U,jB w2 U→U.cell? ⟨w.heap.size+1,0,none⟩=some (.int .i64 0):=fun U hU=>R1 U 0 hU
        have rr1:∀U,jB w2 U→U.cell? ⟨w.heap.size+1,1,none⟩=some (.int .i64 0):=fun U hU=>R1 U 1 hU
        have rr2:∀U,jB w2 U→U.cell? ⟨w.heap.size+1,2,none⟩=some (.int .i64 0):=fun U hU=>R1 U 2 hU
        have rr3:∀U,jB w2 U→U.cell? ⟨w.heap.size+1,3,none⟩=some (.int .i64 0):=fun U hU=>R1 U 3 hU
        have rr4:∀U,jB w2 U→U.cell? ⟨w.heap.size+1,4,none⟩=some (.int .i64 0):=fun U hU=>R1 U 4 hU
        have rf:∀U j,jB w2 U→U.frozen? ⟨w.heap.size+1,j,none⟩=false:=fun U j hU=>(a0A hU HY2.out).2.1 j
        clear hb1 hb2 hx1 hx2 hy1 hy2 R0 R1))
     have HBE:=jH (a0D HB2.out jR);refine a0H ?_;intro W9 hW9;have hW9':W9=b0J w2 (w.heap.size+1) 0 [.int .i64 0,.int .i64 0,.int .i64 0,.int .i64 0,.int .i64 0]:=hW9;obtain ⟨s1,s2,s3,s4⟩:=a0P (HY2.out) [.int .i64 0,.int .i64 0,.int .i64 0,.int .i64 0,.int .i64 0] rfl W9 hW9';obtain ⟨a9,a8,a7⟩:=a0A jR s1;clear hW9 hW9';exact bodyPost_ret (v:=.tuple #[.agg #[.int .i64 0,.int .i64 0,.int .i64 0,.int .i64 0,.int .i64 0],.int .i64 5]) (by simp [results,Tryz.results111,go_sem,a9]) rfl ⟨rfl,HBE.out.trans (s4 _ (Nat.le_succ _))⟩
   · have hpos:0<l.length:=List.length_pos_iff.2 hne
     obtain ⟨tick,htk⟩:∃t,t=i0Y l:=⟨_,rfl⟩;have hti:I64 tick:=by rw [htk];exact q0T hne hi
     have CL:=jH (fun (W:World) (hW:jB w W)=>show Calls Tryz.prog 177 #[.slice A l.length c] W (jP W (.int .i64 tick)) from htk ▸ b1E _ l W (hs.below hW) hl hpos);obtain ⟨fr,hfr⟩:∃x,x=i0X tick p.win:=⟨_,rfl⟩;obtain ⟨cu,hcu⟩:∃x,x=j0G l fr tick:=⟨_,rfl⟩;obtain ⟨load,hld⟩:∃x:Int,x=(f0P (c0P (j0G l (i0X tick p.win) tick)):Nat):=⟨_,rfl⟩;have hlo:I64 load:=by rw [hld];have:=n0V (l:=c0P (j0G l (i0X tick p.win) tick)) (fun n hn=>(j0K (hi.cut _ _) n hn).2);unfold I64;omega
     have hcui:r0Y cu:=by rw [hcu];exact hi.cut _ _
     have hcul:cu.length≤1000000:=by rw [hcu];exact Nat.le_trans (s0E _ _ _) hl
     have hld2:load=(f0P (c0P cu):Nat):=by rw [hld,hcu,hfr]
     have CFR:=jH (fun (W:World) (hW:jB w W)=>show Calls Tryz.prog 122 #[.int .i64 tick,.int .i64 p.win] W (jP W (.int .i64 fr)) from (by rw [hfr];exact (o0D tick p.win W hti ho.2.2.2.2.1).mono (fun e w' h=>⟨h.1,h.2 ▸ jR⟩)));have CCU:=jH (fun (W:World) (hW:jB w W)=>show Calls Tryz.prog 121 #[.slice A l.length c,.int .i64 fr,.int .i64 tick] W fun e w'=>∃A3 c3,e=.returned (.slice A3 cu.length c3)∧b0Q b0X 111 2 W.heap.size w' (.slice A3 cu.length c3) cu∧jB W w' from hcu ▸ q0X _ l fr tick W (hs.below hW) hl)
     have CME:=jH (fun (W:World) (v:Value) (hv:a0O 2 b0X W v cu)=>show Calls Tryz.prog 178 #[v] W (jP W (.int .i64 load)) from hld2 ▸ l0M v cu W hv hcul hcui);obtain ⟨now,hnow⟩:∃x,x=l1A p past:=⟨_,rfl⟩;have CN:=jH (fun (W:World) (hW:jB w W)=>show Calls Tryz.prog 179 #[b0W p,.slice A2 past.length c2] W (jP W (.int .i64 now)) from hnow ▸ f1V p _ past W (hp.below hW) hl2);obtain ⟨op,hop⟩:∃x,x=b1J p load now:=⟨_,rfl⟩
     obtain ⟨want,hwa⟩:∃x,x=f0W p op:=⟨_,rfl⟩;have COp:=jH (fun (W:World) (hW:jB w W)=>show Calls Tryz.prog 180 #[b0W p,.int .i64 load,.int .i64 now] W (jP W (.int .i64 op)) from hop ▸ t0J p load now W hlo ho.2.2.1);have CB1:=jH (fun (W:World) (hW:jB w W)=>show Calls Tryz.prog 181 #[b0W p,.int .i64 op] W (jP W (.int .i64 want)) from hwa ▸ j0U p op W);obtain ⟨ns,hns⟩:∃x,x=(f0F p tick want past).1:=⟨_,rfl⟩
     obtain ⟨held,hhe⟩:∃x,x=(f0F p tick want past).2:=⟨_,rfl⟩;obtain ⟨til,htil⟩:∃x,x=f0W p ns:=⟨_,rfl⟩;obtain ⟨wy,hwy⟩:∃x,x=p1P p held op now til:=⟨_,rfl⟩;have CSt:=jH (fun (W:World) (hW:jB w W)=>show Calls Tryz.prog 182 #[b0W p,.int .i64 tick,.int .i64 want,.slice A2 past.length c2] W (jP W (.tuple #[.int .i64 ns,.bool held])) from hns ▸ hhe ▸ l1Q p tick want _ past W (hp.below hW) hl2 hti ho.2.2.2.2.2)
     have CBd:=jH (fun (W:World) (hW:jB w W)=>show Calls Tryz.prog 181 #[b0W p,.int .i64 ns] W (jP W (.int .i64 til)) from htil ▸ j0U p ns W);have CWy:=jH (fun (W:World) (hW:jB w W)=>show Calls Tryz.prog 183 #[b0W p,.bool held,.int .i64 op,.int .i64 now,.int .i64 til] W (jP W (.int .i64 wy)) from hwy ▸ h1W p held op now til W);have HD:=jH (show n0K p l past=(⟨tick,load,want,til,wy⟩,0) by
      unfold n0K;rw [if_neg (by rw [hpb];simp),if_neg hne];simp only [←htk,←hld,←hnow,←hop,←hwa,←hns,←hhe,←htil,←hwy])
     rw [HD.out];have HZ:=jH (show ¬(l.length:Int)=0∧¬l.length=0 by omega);clear htk hfr hcu hld hld2 hcui hcul hnow hop hwa hns hhe htil hwy HD hpb hne hpos hlo hti hs hp hi ho hl hl2;unfold b0W;unfold b0W at HC CN CSt CBd CWy COp CB1;have hz0:¬(l.length:Int)=0:=HZ.out.1;have hz1:¬l.length=0:=HZ.out.2
     go_enter Tryz.func111,Tryz.ntmps111
     go_wp2_with (first
      | (go_at_call 92
         refine a0B ?_;intro W1 hW1;have hb1:jB w W1:=by rw [hW1];exact a0C (a0C jR _) _
         have hx1:W1.heap[w.heap.size]?=some (.cells #[.int .i64 p.mn,.int .i64 p.mx,.int .i64 p.tg,.int .i64 p.tol,.int .i64 p.win,.int .i64 p.hold] 35 (0,0)):=by rw [hW1];exact c0J _ _ _
         have hy1:W1.heap[w.heap.size+1]?=some (.cells #[.int .i64 0,.int .i64 0,.int .i64 0,.int .i64 0,.int .i64 0] 44 (0,0)):=by rw [hW1];exact b0R _ _ _
         clear hW1;refine (HC.out W1).mono ?_;rw [HE.out];rintro e w2 ⟨rfl,hb2⟩;have HB2:=jH (a0D hb1 hb2);obtain ⟨hx2,R0⟩:=b0H hx1 hb2;obtain ⟨hy2,R1⟩:=b0H hy1 hb2;have HY2:=jH hy2;have rc0:∀U,jB w2 U→U.cell? ⟨w.heap.size,0,none⟩=some (.int .i64 p.mn):=fun U hU=>R0 U 0 hU
         have rc1:∀U,jB w2 U→U.cell? ⟨w.heap.size,1,none⟩=some (.int .i64 p.mx):=fun U hU=>R0 U 1 hU
         have rc2:∀U,jB w2 U→U.cell? ⟨w.heap.size,2,none⟩=some (.int .i64 p.tg):=fun U hU=>R0 U 2 hU
         have rc3:∀U,jB w2 U→U.cell? ⟨w.heap.size,3,none⟩=some (.int .i64 p.tol):=fun U hU=>R0 U 3 hU
         have rc4:∀U,jB w2 U→U.cell? ⟨w.heap.size,4,none⟩=some (.int .i64 p.win):=fun U hU=>R0 U 4 hU
         have rc5:∀U,jB w2 U→U.cell? ⟨w.heap.size,5,none⟩=some (.int .i64 p.hold):=fun U hU=>R0 U 5 hU
         have rr0:∀U,jB w2 U→U.cell? ⟨w.heap.size+1,0,none⟩=some (.int .i64 0):=fun U hU=>R1 U 0 hU
         have rr1:∀U,jB w2 U→U.cell? ⟨w.heap.size+1,1,none⟩=some (.int .i64 0):=fun U hU=>R1 U 1 hU
         have rr2:∀U,jB w2 U→U.cell? ⟨w.heap.size+1,2,none⟩=some (.int .i64 0):=fun U hU=>R1 U 2 hU
         have rr3:∀U,jB w2 U→U.cell? ⟨w.heap.size+1,3,none⟩=some (.int .i64 0):=fun U hU=>R1 U 3 hU
         have rr4:∀U,jB w2 U→U.cell? ⟨w.heap.size+1,4,none⟩=some (.int .i64 0):=fun U hU=>R1 U 4 hU
         have rf:∀U j,jB w2 U→U.frozen? ⟨w.heap.size+1,j,none⟩=false:=fun U j hU=>(a0A hU HY2.out).2.1 j
         clear hb1 hb2 hx1 hx2 hy1 hy2 R0 R1)
      | (go_at_call 177
         refine a0B ?_;intro W3 hW3;have hq3:jB w2 W3:=by rw [hW3];first|exact jR|assumption|exact jR.drew|exact Below.drew (by assumption)
         clear hW3;refine (CL.out W3 (a0D HB2.out hq3)).mono ?_;rintro e w3 ⟨rfl,hb3⟩;have hk3:jB w2 w3:=a0D hq3 hb3;clear hb3 hq3)
      | (go_at_call 122
         refine a0B ?_;intro W4 hW4;have hq4:jB w2 W4:=by rw [hW4];first|exact jR|assumption|exact jR.drew|exact Below.drew (by assumption)
         clear hW4;refine (CFR.out W4 (a0D HB2.out hq4)).mono ?_;rintro e w4 ⟨rfl,hb4⟩;have hk4:jB w2 w4:=a0D hq4 hb4;clear hb4 hq4)
      | (go_at_call 121
         refine a0B ?_;intro W5 hW5;have hq5:jB w2 W5:=by rw [hW5];first|exact jR|assumption
         clear hW5;refine (CCU.out W5 (a0D HB2.out hq5)).mono ?_;rintro e w5 ⟨A3,c3,rfl,hown,hb5⟩;have HOW:=jH (hown.row d0J);have hk5:jB w2 w5:=a0D hq5 hb5;clear hb5 hq5 hown)
      | (go_at_call 178
         refine (CME.out w5 _ HOW.out).mono ?_;rintro e w6 ⟨rfl,hb6⟩;have hk6:jB w2 w6:=a0D hk5 hb6;clear hb6)
      | (go_at_call 179
         refine a0B ?_;intro W7 hW7;have hq7:jB w2 W7:=by rw [hW7];first|exact jR|assumption|exact jR.drew|exact Below.drew (by assumption)
         clear hW7;refine (CN.out W7 (a0D HB2.out hq7)).mono ?_;rintro e w7 ⟨rfl,hb7⟩;have hk7:jB w2 w7:=a0D hq7 hb7;clear hb7 hq7)
      | (go_at_call 180
         refine a0B ?_;intro W8 hW8;have hq8:jB w2 W8:=by rw [hW8];first|exact jR|assumption|exact jR.drew|exact Below.drew (by assumption)
         clear hW8;refine (COp.out W8 (a0D HB2.out hq8)).mono ?_;rintro e w8 ⟨rfl,hb8⟩;have hk8:jB w2 w8:=a0D hq8 hb8;clear hb8 hq8)
      | (go_at_call 181
         refine a0B ?_;intro W9 hW9;have hq9:jB w2 W9:=by rw [hW9];first|exact jR|assumption|exact jR.drew|exact Below.drew (by assumption)
         clear hW9
         with_reducible refine (CB1.out W9 (a0D HB2.out hq9)).mono ?_
         rintro e w9 ⟨rfl,hb9⟩;have hk9:jB w2 w9:=a0D hq9 hb9;clear hb9 hq9)
      | (go_at_call 182
         refine a0B ?_;intro W10 hW10;have hq10:jB w2 W10:=by rw [hW10];first|exact jR|assumption|exact jR.drew|exact Below.drew (by assumption)
         clear hW10;refine (CSt.out W10 (a0D HB2.out hq10)).mono ?_;rintro e w10 ⟨rfl,hb10⟩;have hk10:jB w2 w10:=a0D hq10 hb10;clear hb10 hq10)
      | (go_at_call 181
         refine a0B ?_;intro W11 hW11;have hq11:jB w2 W11:=by rw [hW11];first|exact jR|assumption|exact jR.drew|exact Below.drew (by assumption)
         clear hW11
         with_reducible refine (CBd.out W11 (a0D HB2.out hq11)).mono ?_
         rintro e w11 ⟨rfl,hb11⟩;have hk11:jB w2 w11:=a0D hq11 hb11;clear hb11 hq11)
      | (go_at_call 183
         refine a0B ?_;intro W12 hW12;have hq12:jB w2 W12:=by rw [hW12];first|exact jR|assumption|exact jR.drew|exact Below.drew (by assumption)
         clear hW12;refine (CWy.out W12 (a0D HB2.out hq12)).mono ?_;rintro e w12 ⟨rfl,hb12⟩;have hk12:jB w2 w12:=a0D hq12 hb12;clear hb12 hq12))
     have HBE:=jH (a0D HB2.out hk12);refine a0H ?_;intro W9 hW9;have hW9':W9=b0J w12 (w.heap.size+1) 0 [.int .i64 tick,.int .i64 load,.int .i64 want,.int .i64 til,.int .i64 wy]:=hW9;obtain ⟨s1,s2,s3,s4⟩:=a0P (jK hk12 HY2.out) [.int .i64 tick,.int .i64 load,.int .i64 want,.int .i64 til,.int .i64 wy] rfl W9 hW9';obtain ⟨a9,a8,a7⟩:=a0A jR s1;clear hW9 hW9';exact bodyPost_ret (v:=.tuple #[.agg #[.int .i64 tick,.int .i64 load,.int .i64 want,.int .i64 til,.int .i64 wy],.int .i64 0]) (by simp [results,Tryz.results111,go_sem,a9]) rfl ⟨rfl,HBE.out.trans (s4 _ (Nat.le_succ _))⟩
end
end Go.Proofs.YtmniiodpbebnmaaGreat
