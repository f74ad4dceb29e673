/- Part 30 of the proof. -/
import Derived.Test.YtmniiodpbebnmaaGreatJ28
import Derived.Test.YtmniiodpbebnmaaGreatJ29
import Derived.Test.YtmniiodpbebnmaaGreatJ27
namespace Go.Proofs.YtmniiodpbebnmaaGreat
set_option linter.unusedSimpArgs false
set_option linter.unusedVariables false
set_option linter.unusedSectionVars false
set_option maxRecDepth 100000
set_option maxHeartbeats 16000000
section
open Go.RowKit Go.Lib
theorem m1O {l:List Smp} (h:u0E l):∀b,I64 b→I64 (h1Z l b):=by
 induction l with
 | nil=>exact fun b hb=>hb
 | cons x l ih =>
   intro b hb;have hx:=(h x (List.mem_cons_self ..)).1;exact ih (fun s hs=>h s (List.mem_cons_of_mem _ hs)) (max b x.1) (by unfold I64 at *;omega)
theorem b1Y {l:List Smp} (hne:l≠[]) (h:u0E l):I64 (k0Q l):=by
 cases l with
 | nil=>exact absurd rfl hne
 | cons s l=>exact m1O (fun x hx=>h x (List.mem_cons_of_mem _ hx)) s.1 (h s (List.mem_cons_self ..)).1
theorem s0P (A:Option Addr) (c:Nat) (w:World) :
 Calls Tryz.prog 138 #[.slice A 0 c] w (jP w (.tuple #[.int .i64 0,.bool false])):=by
 go_enter Tryz.func138,Tryz.ntmps138
 go_wp2
 exact bodyPost_ret (v:=.tuple #[.int .i64 0,.bool false]) (by simp [results,Tryz.results138,go_sem]) rfl ⟨rfl,by repeat (first|exact jR|refine a0C ?_ _)⟩
theorem s0E (p:Pol) (l:List Smp) (past:List Adv) (vs vp:Value) (w:World) (hs:a0Q 2 c0B w vs l) (hp:a0Q 5 c0U w vp past) (hl:l.length≤1000000) (hl2:past.length≤1000000) (hi:u0E l) (ho:p.ok) :
 Calls Tryz.prog 75 #[d0E p,vs,vp] w (jP w (.tuple #[.agg (c0U (o0G p l past).1).toArray,.int .i64 (o0G p l past).2])):=by
 obtain ⟨A,c,rfl⟩:=hs.form;obtain ⟨A2,c2,rfl⟩:=hp.form
 cases hpb:g0Z p
 · have HC:=jH (a0W p)
   have HE:=jH (show i0F p=7 by unfold i0F;rw [hpb];rfl);have HD:=jH (show o0G p l past=(b0O,7) by unfold o0G;rw [if_pos hpb]);rw [HD.out];clear hpb HD hs hp hi ho hl hl2;unfold d0E;unfold d0E at HC
   go_enter Tryz.func75,Tryz.ntmps75
   go_wp2_with (first
   | (go_at_call 103
      refine a0B ?_;intro W1 hW1;have hb1:jB w W1:=by rw [hW1];exact a0C (a0C jR _) _
      have hx1:W1.heap[w.heap.size]?=some (.cells #[.int .i64 p.mn,.int .i64 p.mx,.int .i64 p.tg,.int .i64 p.tol,.int .i64 p.win,.int .i64 p.hold] 35 (0,0)):=by rw [hW1];exact d0V _ _ _
      have hy1:W1.heap[w.heap.size+1]?=some (.cells #[.int .i64 0,.int .i64 0,.int .i64 0,.int .i64 0,.int .i64 0] 44 (0,0)):=by rw [hW1];exact c0G _ _ _
      clear hW1;refine (HC.out W1).mono ?_;rw [HE.out];rintro e w2 ⟨rfl,hb2⟩;have HB2:=jH (a0D hb1 hb2);obtain ⟨hx2,R0⟩:=c0A hx1 hb2;obtain ⟨hy2,R1⟩:=c0A hy1 hb2;have HY2:=jH hy2;have rc0:∀U,jB w2 U→U.cell? ⟨w.heap.size,0,none⟩=some (.int .i64 p.mn):=fun U hU=>R0 U 0 hU
      have rc1:∀U,jB w2 U→U.cell? ⟨w.heap.size,1,none⟩=some (.int .i64 p.mx):=fun U hU=>R0 U 1 hU
      have rc2:∀U,jB w2 U→U.cell? ⟨w.heap.size,2,none⟩=some (.int .i64 p.tg):=fun U hU=>R0 U 2 hU
      have rc3:∀U,jB w2 U→U.cell? ⟨w.heap.size,3,none⟩=some (.int .i64 p.tol):=fun U hU=>R0 U 3 hU
      have rc4:∀U,jB w2 U→U.cell? ⟨w.heap.size,4,none⟩=some (.int .i64 p.win):=fun U hU=>R0 U 4 hU
      have rc5:∀U,jB w2 U→U.cell? ⟨w.heap.size,5,none⟩=some (.int .i64 p.hold):=fun U hU=>R0 U 5 hU
      have rr0:∀U,jB w2 U→U.cell? ⟨w.heap.size+1,0,none⟩=some (.int .i64 0):=fun U hU=>R1 U 0 hU
      have rr1:∀U,jB w2 U→U.cell? ⟨w.heap.size+1,1,none⟩=some (.int .i64 0):=fun U hU=>R1 U 1 hU
      have rr2:∀U,jB w2 U→U.cell? ⟨w.heap.size+1,2,none⟩=some (.int .i64 0):=fun U hU=>R1 U 2 hU
      have rr3:∀U,jB w2 U→U.cell? ⟨w.heap.size+1,3,none⟩=some (.int .i64 0):=fun U hU=>R1 U 3 hU
      have rr4:∀U,jB w2 U→U.cell? ⟨w.heap.size+1,4,none⟩=some (.int .i64 0):=fun U hU=>R1 U 4 hU
      have rf:∀U j,jB w2 U→U.frozen? ⟨w.heap.size+1,j,none⟩=false:=fun U j hU=>(a0A hU HY2.out).2.1 j
      clear hb1 hb2 hx1 hx2 hy1 hy2 R0 R1))
   have HBE:=jH HB2.out;refine a0H ?_;intro W9 hW9;have hW9':W9=c0T w2 (w.heap.size+1) 0 [.int .i64 0,.int .i64 0,.int .i64 0,.int .i64 0,.int .i64 0]:=hW9;obtain ⟨s1,s2,s3,s4⟩:=a0M (HY2.out) [.int .i64 0,.int .i64 0,.int .i64 0,.int .i64 0,.int .i64 0] rfl W9 hW9';obtain ⟨a9,a8,a7⟩:=a0A jR s1;clear hW9 hW9';exact bodyPost_ret (v:=.tuple #[.agg #[.int .i64 0,.int .i64 0,.int .i64 0,.int .i64 0,.int .i64 0],.int .i64 7]) (by simp [results,Tryz.results75,go_sem,a9]) rfl ⟨rfl,HBE.out.trans (s4 _ (Nat.le_succ _))⟩
 · have HC:=jH (a0W p)
   have HE:=jH (show i0F p=0 by unfold i0F;rw [hpb];rfl)
   by_cases hne:l=[]
   · subst hne
     have HD:=jH (show o0G p [] past=(b0O,5) by unfold o0G;rw [if_neg (by rw [hpb];simp),if_pos rfl]);rw [HD.out];have CL:=jH (fun (W:World) (hW:jB w W)=>show Calls Tryz.prog 138 #[.slice A ([]:List Smp).length c] W (jP W (.tuple #[.int .i64 0,.bool false])) from s0P A c W);clear hpb HD hs hp hi ho hl hl2;unfold d0E;unfold d0E at HC
     go_enter Tryz.func75,Tryz.ntmps75
     go_wp2_with (first
     | (go_at_call 103
        refine a0B ?_;intro W1 hW1;have hb1:jB w W1:=by rw [hW1];exact a0C (a0C jR _) _
        have hx1:W1.heap[w.heap.size]?=some (.cells #[.int .i64 p.mn,.int .i64 p.mx,.int .i64 p.tg,.int .i64 p.tol,.int .i64 p.win,.int .i64 p.hold] 35 (0,0)):=by rw [hW1];exact d0V _ _ _
        have hy1:W1.heap[w.heap.size+1]?=some (.cells #[.int .i64 0,.int .i64 0,.int .i64 0,.int .i64 0,.int .i64 0] 44 (0,0)):=by rw [hW1];exact c0G _ _ _
        clear hW1;refine (HC.out W1).mono ?_;rw [HE.out];rintro e w2 ⟨rfl,hb2⟩;have HB2:=jH (a0D hb1 hb2);obtain ⟨hx2,R0⟩:=c0A hx1 hb2;obtain ⟨hy2,R1⟩:=c0A hy1 hb2;have HY2:=jH hy2;have rc0:∀U,jB w2 U→U.cell? ⟨w.heap.size,0,none⟩=some (.int .i64 p.mn):=fun U hU=>R0 U 0 hU
        have rc1:∀U,jB w2 U→U.cell? ⟨w.heap.size,1,none⟩=some (.int .i64 p.mx):=fun U hU=>R0 U 1 hU
        have rc2:∀U,jB w2 U→U.cell? ⟨w.heap.size,2,none⟩=some (.int .i64 p.tg):=fun U hU=>R0 U 2 hU
        have rc3:∀U,jB w2 U→U.cell? ⟨w.heap.size,3,none⟩=some (.int .i64 p.tol):=fun U hU=>R0 U 3 hU
        have rc4:∀U,jB w2 U→U.cell? ⟨w.heap.size,4,none⟩=some (.int .i64 p.win):=fun U hU=>R0 U 4 hU
        have rc5:∀U,jB w2 U→U.cell? ⟨w.heap.size,5,none⟩=some (.int .i64 p.hold):=fun U hU=>R0 U 5 hU
        have rr0:∀U,jB w2 U→U.cell? ⟨w.heap.size+1,0,none⟩=some (.int .i64 0):=fun U hU=>R1 U 0 hU
        have rr1:∀U,jB w2 U→U.cell? ⟨w.heap.size+1,1,none⟩=some (.int .i64 0):=fun U hU=>R1 U 1 hU
        have rr2:∀U,jB w2 U→U.cell? ⟨w.heap.size+1,2,none⟩=some (.int .i64 0):=fun U hU=>R1 U 2 hU
        have rr3:∀U,jB w2 U→U.cell? ⟨w.heap.size+1,3,none⟩=some (.int .i64 0):=fun U hU=>R1 U 3 hU
        have rr4:∀U,jB w2 U→U.cell? ⟨w.heap.size+1,4,none⟩=some (.int .i64 0):=fun U hU=>R1 U 4 hU
        have rf:∀U j,jB w2 U→U.frozen? ⟨w.heap.size+1,j,none⟩=false:=fun U j hU=>(a0A hU HY2.out).2.1 j
        clear hb1 hb2 hx1 hx2 hy1 hy2 R0 R1)
     | (go_at_call 138
        refine a0B ?_;intro W3 hW3;have hq3:jB w2 W3:=by rw [hW3];first|exact jR|assumption|exact jR.drew|exact Below.drew (by assumption)
        clear hW3;refine (CL.out W3 (a0D HB2.out hq3)).mono ?_;rintro e w3 ⟨rfl,hb3⟩;have hk3:jB w2 w3:=a0D hq3 hb3;clear hb3 hq3))
     have HBE:=jH (a0D HB2.out hk3);refine a0H ?_;intro W9 hW9;have hW9':W9=c0T w3 (w.heap.size+1) 0 [.int .i64 0,.int .i64 0,.int .i64 0,.int .i64 0,.int .i64 0]:=hW9;obtain ⟨s1,s2,s3,s4⟩:=a0M (jK hk3 HY2.out) [.int .i64 0,.int .i64 0,.int .i64 0,.int .i64 0,.int .i64 0] rfl W9 hW9';obtain ⟨a9,a8,a7⟩:=a0A jR s1;clear hW9 hW9';exact bodyPost_ret (v:=.tuple #[.agg #[.int .i64 0,.int .i64 0,.int .i64 0,.int .i64 0,.int .i64 0],.int .i64 5]) (by simp [results,Tryz.results75,go_sem,a9]) rfl ⟨rfl,HBE.out.trans (s4 _ (Nat.le_succ _))⟩
   · have hpos:0<l.length:=List.length_pos_iff.2 hne
     obtain ⟨tick,htk⟩:∃t,t=k0Q l:=⟨_,rfl⟩;have hti:I64 tick:=by rw [htk];exact b1Y hne hi
     have CL:=jH (fun (W:World) (hW:jB w W)=>show Calls Tryz.prog 138 #[.slice A l.length c] W (jP W (.tuple #[.int .i64 tick,.bool true])) from htk ▸ v0F _ l W (hs.below hW) hl hpos);obtain ⟨st,hst⟩:∃s,s=h0P l tick p.win:=⟨_,rfl⟩;obtain ⟨load,hld⟩:∃x:Int,x=(k0N (f0L (q0Q l (n0V tick p.win) tick)):Nat):=⟨_,rfl⟩;have hmean:st.mean=load:=by rw [hst,hld];exact a1V l tick p.win
     have hlo:I64 load:=by rw [hld];have:=z0J (l:=f0L (q0Q l (n0V tick p.win) tick)) (fun n hn=>(z0G (hi.cut _ _) n hn).2);unfold I64;omega
     have CWA:=jH (fun (W:World) (hW:jB w W)=>show Calls Tryz.prog 134 #[.slice A l.length c,.int .i64 tick,.int .i64 p.win] W (jP W (.agg #[.int .i64 st.cnt,.int .i64 st.sum,.int .i64 st.least,.int .i64 st.most,.int .i64 load])) from hmean ▸ hst ▸ m0P _ l tick p.win W (hs.below hW) hl hi hti ho.2.2.2.2.1);have hfd:∀W:World,(Instr.field 42 (.agg #[.int .i64 st.cnt,.int .i64 st.sum,.int .i64 st.least,.int .i64 st.most,.int .i64 load]) 4).run Tryz.prog W=.ok (.int .i64 load) W:=fun _=>by kernel_rfl
     obtain ⟨now,hnow⟩:∃x,x=p1P p past:=⟨_,rfl⟩;have CN:=jH (fun (W:World) (hW:jB w W)=>show Calls Tryz.prog 139 #[d0E p,.slice A2 past.length c2] W (jP W (.int .i64 now)) from hnow ▸ b1M p _ past W (hp.below hW) hl2);obtain ⟨wt,hwt⟩:∃x,x=t0S p load:=⟨_,rfl⟩;obtain ⟨nr,hnr⟩:∃x,x=q0L p load now:=⟨_,rfl⟩;have CWt:=jH (fun (W:World) (hW:jB w W)=>show Calls Tryz.prog 140 #[d0E p,.int .i64 load] W (jP W (.int .i64 wt)) from hwt ▸ n0W p load W hlo ho.2.2.1)
     have CNr:=jH (fun (W:World) (hW:jB w W)=>show Calls Tryz.prog 141 #[d0E p,.int .i64 load,.int .i64 now] W (jP W (.bool nr)) from hnr ▸ n0P p load now W hlo ho.2.2.1);obtain ⟨op,hop⟩:∃x,x=l1N p load now:=⟨_,rfl⟩;obtain ⟨want,hwa⟩:∃x,x=g0E p op:=⟨_,rfl⟩;have CRw:=jH (fun (W:World) (hW:jB w W)=>show Calls Tryz.prog 142 #[d0E p,.int .i64 load,.int .i64 now] W (jP W (.int .i64 want)) from hwa ▸ hop ▸ a1U p load now W hlo ho.2.2.1)
     obtain ⟨ns,hns⟩:∃x,x=(j0F p tick want past).1:=⟨_,rfl⟩;obtain ⟨held,hhe⟩:∃x,x=(j0F p tick want past).2:=⟨_,rfl⟩;obtain ⟨til,htil⟩:∃x,x=g0E p ns:=⟨_,rfl⟩;obtain ⟨wy,hwy⟩:∃x,x=whyI p held op now til:=⟨_,rfl⟩;have CSt:=jH (fun (W:World) (hW:jB w W)=>show Calls Tryz.prog 143 #[d0E p,.int .i64 tick,.int .i64 want,.slice A2 past.length c2] W (jP W (.tuple #[.int .i64 ns,.bool held])) from hns ▸ hhe ▸ f1M p tick want _ past W (hp.below hW) hl2 hti ho.2.2.2.2.2)
     have CBd:=jH (fun (W:World) (hW:jB w W)=>show Calls Tryz.prog 144 #[d0E p,.int .i64 ns] W (jP W (.int .i64 til)) from htil ▸ l0P p ns W);have CWy:=jH (fun (W:World) (hW:jB w W)=>show Calls Tryz.prog 145 #[d0E p,.bool held,.int .i64 op,.int .i64 now,.int .i64 til] W (jP W (.int .i64 wy)) from hwy ▸ d1E p held op now til W);have HD:=jH (show o0G p l past=(⟨tick,load,want,til,wy⟩,0) by
      unfold o0G;rw [if_neg (by rw [hpb];simp),if_neg hne];simp only [←htk,←hld,←hnow,←hop,←hwa,←hns,←hhe,←htil,←hwy])
     rw [HD.out];have HOP:=jH (show op=if nr=true then now else wt by rw [hop,hnr,hwt];rfl);clear htk hst hld hmean hwt hnr hnow hop hwa hns hhe htil hwy HD hpb hne hpos hlo hti hs hp hi ho hl hl2;unfold d0E;unfold d0E at HC CN CSt CBd CWy CWt CNr CRw
     cases nr
     · have HOP2:=jH (show op=wt from HOP.out)
       rw [HOP2.out] at CWy
       as_aux_lemma =>
        go_enter Tryz.func75,Tryz.ntmps75
        go_wp2_with (first
         | (go_at_call 103
            refine a0B ?_;intro W1 hW1;have hb1:jB w W1:=by rw [hW1];exact a0C (a0C jR _) _
            have hx1:W1.heap[w.heap.size]?=some (.cells #[.int .i64 p.mn,.int .i64 p.mx,.int .i64 p.tg,.int .i64 p.tol,.int .i64 p.win,.int .i64 p.hold] 35 (0,0)):=by rw [hW1];exact d0V _ _ _
            have hy1:W1.heap[w.heap.size+1]?=some (.cells #[.int .i64 0,.int .i64 0,.int .i64 0,.int .i64 0,.int .i64 0] 44 (0,0)):=by rw [hW1];exact c0G _ _ _
            clear hW1;refine (HC.out W1).mono ?_;rw [HE.out];rintro e w2 ⟨rfl,hb2⟩;have HB2:=jH (a0D hb1 hb2);obtain ⟨hx2,R0⟩:=c0A hx1 hb2;obtain ⟨hy2,R1⟩:=c0A hy1 hb2;have HY2:=jH hy2;have rc0:∀U,jB w2 U→U.cell? ⟨w.heap.size,0,none⟩=some (.int .i64 p.mn):=fun U hU=>R0 U 0 hU
            have rc1:∀U,jB w2 U→U.cell? ⟨w.heap.size,1,none⟩=some (.int .i64 p.mx):=fun U hU=>R0 U 1 hU
            have rc2:∀U,jB w2 U→U.cell? ⟨w.heap.size,2,none⟩=some (.int .i64 p.tg):=fun U hU=>R0 U 2 hU
            have rc3:∀U,jB w2 U→U.cell? ⟨w.heap.size,3,none⟩=some (.int .i64 p.tol):=fun U hU=>R0 U 3 hU
            have rc4:∀U,jB w2 U→U.cell? ⟨w.heap.size,4,none⟩=some (.int .i64 p.win):=fun U hU=>R0 U 4 hU
            have rc5:∀U,jB w2 U→U.cell? ⟨w.heap.size,5,none⟩=some (.int .i64 p.hold):=fun U hU=>R0 U 5 hU
            have rr0:∀U,jB w2 U→U.cell? ⟨w.heap.size+1,0,none⟩=some (.int .i64 0):=fun U hU=>R1 U 0 hU
            have rr1:∀U,jB w2 U→U.cell? ⟨w.heap.size+1,1,none⟩=some (.int .i64 0):=fun U hU=>R1 U 1 hU
            have rr2:∀U,jB w2 U→U.cell? ⟨w.heap.size+1,2,none⟩=some (.int .i64 0):=fun U hU=>R1 U 2 hU
            have rr3:∀U,jB w2 U→U.cell? ⟨w.heap.size+1,3,none⟩=some (.int .i64 0):=fun U hU=>R1 U 3 hU
            have rr4:∀U,jB w2 U→U.cell? ⟨w.heap.size+1,4,none⟩=some (.int .i64 0):=fun U hU=>R1 U 4 hU
            have rf:∀U j,jB w2 U→U.frozen? ⟨w.heap.size+1,j,none⟩=false:=fun U j hU=>(a0A hU HY2.out).2.1 j
            clear hb1 hb2 hx1 hx2 hy1 hy2 R0 R1)
         | (go_at_call 138
            refine a0B ?_;intro W3 hW3;have hq3:jB w2 W3:=by rw [hW3];first|exact jR|assumption|exact jR.drew|exact Below.drew (by assumption)
            clear hW3;refine (CL.out W3 (a0D HB2.out hq3)).mono ?_;rintro e w3 ⟨rfl,hb3⟩;have hk3:jB w2 w3:=a0D hq3 hb3;clear hb3 hq3))
        have hS00:jB w2 w3:=hk3;have hS0:jB w2 w3.drew:=hk3.drew
        go_region_held3 (fun U=>jB w2 U)
          (first
            | with_reducible exact hS0
            | with_reducible exact hk4
            | with_reducible exact hk5
            | with_reducible exact hS00)
          (first
          | (go_at_call 134
             refine a0B ?_;intro W4 hW4;have hq4:jB w2 W4:=by rw [hW4];first|exact jR|assumption|exact jR.drew|exact Below.drew (by assumption)
             clear hW4;refine (CWA.out W4 (a0D HB2.out hq4)).mono ?_;rintro e w4 ⟨rfl,hb4⟩;have hk4:jB w2 w4:=a0D hq4 hb4;clear hb4 hq4)
          | (go_at_call 139
             refine a0B ?_;intro W5 hW5;have hq5:jB w2 W5:=by rw [hW5];first|exact jR|assumption|exact jR.drew|exact Below.drew (by assumption)
             clear hW5;refine (CN.out W5 (a0D HB2.out hq5)).mono ?_;rintro e w5 ⟨rfl,hb5⟩;have hk5:jB w2 w5:=a0D hq5 hb5;clear hb5 hq5))
        all_goals
          refine a0Y ?_;intro W6 hW6;have hk6:jB w2 W6:=by rw [hW6];first|exact hk4|exact hk5|exact hk4.drew|exact hk5.drew|exact a0G hk4 _|exact a0G hk5 _
          clear hW6;clear hS00 hS0
          go_wp2_with (first
           | (go_at_call 140
              refine a0B ?_;intro W7 hW7;have hq7:jB w2 W7:=by rw [hW7];first|exact jR|assumption|exact jR.drew|exact Below.drew (by assumption)
              clear hW7;refine (CWt.out W7 (a0D HB2.out hq7)).mono ?_;rintro e w7 ⟨rfl,hb7⟩;have hk7:jB w2 w7:=a0D hq7 hb7;clear hb7 hq7)
           | (go_at_call 141
              refine a0B ?_;intro W8 hW8;have hq8:jB w2 W8:=by rw [hW8];first|exact jR|assumption|exact jR.drew|exact Below.drew (by assumption)
              clear hW8;refine (CNr.out W8 (a0D HB2.out hq8)).mono ?_;rintro e w8 ⟨rfl,hb8⟩;have hk8:jB w2 w8:=a0D hq8 hb8;clear hb8 hq8)
           | (go_at_call 142
              refine a0B ?_;intro W9 hW9;have hq9:jB w2 W9:=by rw [hW9];first|exact jR|assumption|exact jR.drew|exact Below.drew (by assumption)
              clear hW9;refine (CRw.out W9 (a0D HB2.out hq9)).mono ?_;rintro e w9 ⟨rfl,hb9⟩;have hk9:jB w2 w9:=a0D hq9 hb9;clear hb9 hq9)
           | (go_at_call 143
              refine a0B ?_;intro W10 hW10;have hq10:jB w2 W10:=by rw [hW10];first|exact jR|assumption|exact jR.drew|exact Below.drew (by assumption)
              clear hW10;refine (CSt.out W10 (a0D HB2.out hq10)).mono ?_;rintro e w10 ⟨rfl,hb10⟩;have hk10:jB w2 w10:=a0D hq10 hb10;clear hb10 hq10)
           | (go_at_call 144
              refine a0B ?_;intro W11 hW11;have hq11:jB w2 W11:=by rw [hW11];first|exact jR|assumption|exact jR.drew|exact Below.drew (by assumption)
              clear hW11;refine (CBd.out W11 (a0D HB2.out hq11)).mono ?_;rintro e w11 ⟨rfl,hb11⟩;have hk11:jB w2 w11:=a0D hq11 hb11;clear hb11 hq11)
           | (go_at_call 145
              refine a0B ?_;intro W12 hW12;have hq12:jB w2 W12:=by rw [hW12];first|exact jR|assumption|exact jR.drew|exact Below.drew (by assumption)
              clear hW12;refine (CWy.out W12 (a0D HB2.out hq12)).mono ?_;rintro e w12 ⟨rfl,hb12⟩;have hk12:jB w2 w12:=a0D hq12 hb12;clear hb12 hq12))
          have HBE:=jH (a0D HB2.out hk12);refine a0H ?_;intro W9 hW9;have hW9':W9=c0T w12 (w.heap.size+1) 0 [.int .i64 tick,.int .i64 load,.int .i64 want,.int .i64 til,.int .i64 wy]:=hW9;obtain ⟨s1,s2,s3,s4⟩:=a0M (jK hk12 HY2.out) [.int .i64 tick,.int .i64 load,.int .i64 want,.int .i64 til,.int .i64 wy] rfl W9 hW9';obtain ⟨a9,a8,a7⟩:=a0A jR s1;clear hW9 hW9';exact bodyPost_ret (v:=.tuple #[.agg #[.int .i64 tick,.int .i64 load,.int .i64 want,.int .i64 til,.int .i64 wy],.int .i64 0]) (by simp [results,Tryz.results75,go_sem,a9]) rfl ⟨rfl,HBE.out.trans (s4 _ (Nat.le_succ _))⟩
     · have HOP2:=jH (show op=now from HOP.out)
       rw [HOP2.out] at CWy
       as_aux_lemma =>
        go_enter Tryz.func75,Tryz.ntmps75
        go_wp2_with (first
         | (go_at_call 103
            refine a0B ?_;intro W1 hW1;have hb1:jB w W1:=by rw [hW1];exact a0C (a0C jR _) _
            have hx1:W1.heap[w.heap.size]?=some (.cells #[.int .i64 p.mn,.int .i64 p.mx,.int .i64 p.tg,.int .i64 p.tol,.int .i64 p.win,.int .i64 p.hold] 35 (0,0)):=by rw [hW1];exact d0V _ _ _
            have hy1:W1.heap[w.heap.size+1]?=some (.cells #[.int .i64 0,.int .i64 0,.int .i64 0,.int .i64 0,.int .i64 0] 44 (0,0)):=by rw [hW1];exact c0G _ _ _
            clear hW1;refine (HC.out W1).mono ?_;rw [HE.out];rintro e w2 ⟨rfl,hb2⟩;have HB2:=jH (a0D hb1 hb2);obtain ⟨hx2,R0⟩:=c0A hx1 hb2;obtain ⟨hy2,R1⟩:=c0A hy1 hb2;have HY2:=jH hy2;have rc0:∀U,jB w2 U→U.cell? ⟨w.heap.size,0,none⟩=some (.int .i64 p.mn):=fun U hU=>R0 U 0 hU
            have rc1:∀U,jB w2 U→U.cell? ⟨w.heap.size,1,none⟩=some (.int .i64 p.mx):=fun U hU=>R0 U 1 hU
            have rc2:∀U,jB w2 U→U.cell? ⟨w.heap.size,2,none⟩=some (.int .i64 p.tg):=fun U hU=>R0 U 2 hU
            have rc3:∀U,jB w2 U→U.cell? ⟨w.heap.size,3,none⟩=some (.int .i64 p.tol):=fun U hU=>R0 U 3 hU
            have rc4:∀U,jB w2 U→U.cell? ⟨w.heap.size,4,none⟩=some (.int .i64 p.win):=fun U hU=>R0 U 4 hU
            have rc5:∀U,jB w2 U→U.cell? ⟨w.heap.size,5,none⟩=some (.int .i64 p.hold):=fun U hU=>R0 U 5 hU
            have rr0:∀U,jB w2 U→U.cell? ⟨w.heap.size+1,0,none⟩=some (.int .i64 0):=fun U hU=>R1 U 0 hU
            have rr1:∀U,jB w2 U→U.cell? ⟨w.heap.size+1,1,none⟩=some (.int .i64 0):=fun U hU=>R1 U 1 hU
            have rr2:∀U,jB w2 U→U.cell? ⟨w.heap.size+1,2,none⟩=some (.int .i64 0):=fun U hU=>R1 U 2 hU
            have rr3:∀U,jB w2 U→U.cell? ⟨w.heap.size+1,3,none⟩=some (.int .i64 0):=fun U hU=>R1 U 3 hU
            have rr4:∀U,jB w2 U→U.cell? ⟨w.heap.size+1,4,none⟩=some (.int .i64 0):=fun U hU=>R1 U 4 hU
            have rf:∀U j,jB w2 U→U.frozen? ⟨w.heap.size+1,j,none⟩=false:=fun U j hU=>(a0A hU HY2.out).2.1 j
            clear hb1 hb2 hx1 hx2 hy1 hy2 R0 R1)
         | (go_at_call 138
            refine a0B ?_;intro W3 hW3;have hq3:jB w2 W3:=by rw [hW3];first|exact jR|assumption|exact jR.drew|exact Below.drew (by assumption)
            clear hW3;refine (CL.out W3 (a0D HB2.out hq3)).mono ?_;rintro e w3 ⟨rfl,hb3⟩;have hk3:jB w2 w3:=a0D hq3 hb3;clear hb3 hq3))
        have hS00:jB w2 w3:=hk3;have hS0:jB w2 w3.drew:=hk3.drew
        go_region_held3 (fun U=>jB w2 U)
          (first
            | with_reducible exact hS0
            | with_reducible exact hk4
            | with_reducible exact hk5
            | with_reducible exact hS00)
          (first
          | (go_at_call 134
             refine a0B ?_;intro W4 hW4;have hq4:jB w2 W4:=by rw [hW4];first|exact jR|assumption|exact jR.drew|exact Below.drew (by assumption)
             clear hW4;refine (CWA.out W4 (a0D HB2.out hq4)).mono ?_;rintro e w4 ⟨rfl,hb4⟩;have hk4:jB w2 w4:=a0D hq4 hb4;clear hb4 hq4)
          | (go_at_call 139
             refine a0B ?_;intro W5 hW5;have hq5:jB w2 W5:=by rw [hW5];first|exact jR|assumption|exact jR.drew|exact Below.drew (by assumption)
             clear hW5;refine (CN.out W5 (a0D HB2.out hq5)).mono ?_;rintro e w5 ⟨rfl,hb5⟩;have hk5:jB w2 w5:=a0D hq5 hb5;clear hb5 hq5))
        all_goals
          refine a0Y ?_;intro W6 hW6;have hk6:jB w2 W6:=by rw [hW6];first|exact hk4|exact hk5|exact hk4.drew|exact hk5.drew|exact a0G hk4 _|exact a0G hk5 _
          clear hW6;clear hS00 hS0
          go_wp2_with (first
           | (go_at_call 140
              refine a0B ?_;intro W7 hW7;have hq7:jB w2 W7:=by rw [hW7];first|exact jR|assumption|exact jR.drew|exact Below.drew (by assumption)
              clear hW7;refine (CWt.out W7 (a0D HB2.out hq7)).mono ?_;rintro e w7 ⟨rfl,hb7⟩;have hk7:jB w2 w7:=a0D hq7 hb7;clear hb7 hq7)
           | (go_at_call 141
              refine a0B ?_;intro W8 hW8;have hq8:jB w2 W8:=by rw [hW8];first|exact jR|assumption|exact jR.drew|exact Below.drew (by assumption)
              clear hW8;refine (CNr.out W8 (a0D HB2.out hq8)).mono ?_;rintro e w8 ⟨rfl,hb8⟩;have hk8:jB w2 w8:=a0D hq8 hb8;clear hb8 hq8)
           | (go_at_call 142
              refine a0B ?_;intro W9 hW9;have hq9:jB w2 W9:=by rw [hW9];first|exact jR|assumption|exact jR.drew|exact Below.drew (by assumption)
              clear hW9;refine (CRw.out W9 (a0D HB2.out hq9)).mono ?_;rintro e w9 ⟨rfl,hb9⟩;have hk9:jB w2 w9:=a0D hq9 hb9;clear hb9 hq9)
           | (go_at_call 143
              refine a0B ?_;intro W10 hW10;have hq10:jB w2 W10:=by rw [hW10];first|exact jR|assumption|exact jR.drew|exact Below.drew (by assumption)
              clear hW10;refine (CSt.out W10 (a0D HB2.out hq10)).mono ?_;rintro e w10 ⟨rfl,hb10⟩;have hk10:jB w2 w10:=a0D hq10 hb10;clear hb10 hq10)
           | (go_at_call 144
              refine a0B ?_;intro W11 hW11;have hq11:jB w2 W11:=by rw [hW11];first|exact jR|assumption|exact jR.drew|exact Below.drew (by assumption)
              clear hW11;refine (CBd.out W11 (a0D HB2.out hq11)).mono ?_;rintro e w11 ⟨rfl,hb11⟩;have hk11:jB w2 w11:=a0D hq11 hb11;clear hb11 hq11)
           | (go_at_call 145
              refine a0B ?_;intro W12 hW12;have hq12:jB w2 W12:=by rw [hW12];first|exact jR|assumption|exact jR.drew|exact Below.drew (by assumption)
              clear hW12;refine (CWy.out W12 (a0D HB2.out hq12)).mono ?_;rintro e w12 ⟨rfl,hb12⟩;have hk12:jB w2 w12:=a0D hq12 hb12;clear hb12 hq12))
          have HBE:=jH (a0D HB2.out hk12);refine a0H ?_;intro W9 hW9;have hW9':W9=c0T w12 (w.heap.size+1) 0 [.int .i64 tick,.int .i64 load,.int .i64 want,.int .i64 til,.int .i64 wy]:=hW9;obtain ⟨s1,s2,s3,s4⟩:=a0M (jK hk12 HY2.out) [.int .i64 tick,.int .i64 load,.int .i64 want,.int .i64 til,.int .i64 wy] rfl W9 hW9';obtain ⟨a9,a8,a7⟩:=a0A jR s1;clear hW9 hW9';exact bodyPost_ret (v:=.tuple #[.agg #[.int .i64 tick,.int .i64 load,.int .i64 want,.int .i64 til,.int .i64 wy],.int .i64 0]) (by simp [results,Tryz.results75,go_sem,a9]) rfl ⟨rfl,HBE.out.trans (s4 _ (Nat.le_succ _))⟩
end
section
open Go.RowKit Go.Lib Go.Sort
section
section
variable {B:Nat→Prop} {S:Nat} {c:Cfg} {rs rh n:Nat} {wd:Wd} {d:d0Y}
theorem c0K (w:World) (h:a0I B w S c rs rh n wd d) (hp:0<d.sts.length) :
 Calls Tryz.prog 80 #[.pointer (some ⟨S,0,none⟩)] w fun e w'=>e=.returned (.bool true)∧w'=w:=by
 obtain ⟨a1,a2,a3⟩:=a0A jR h.cell;have z:(0:Int)<(d.sts.length:Int):=by omega
 have z2:decide (0<d.sts.length)=true:=by simpa using hp
 clear h hp
 go_enter Tryz.func80,Tryz.ntmps80
 go_wp2
 go_ret
 exact ⟨rfl,rfl⟩
theorem l0L (w:World) (h:a0I B w S c rs rh n wd d) (hp:0<d.sts.length) :
 Calls Tryz.prog 29 #[.pointer (some ⟨S,0,none⟩)] w fun e w'=>e=.returned (.int .i64 (d.sts.length:Nat))∧w'=w:=by
 obtain ⟨a1,a2,a3⟩:=a0A jR h.cell;have HM:=jH (c0K w h hp);clear h hp
 go_enter Tryz.func29,Tryz.ntmps29
 go_wp2_with (go_at_call 80;refine HM.out.mono ?_;rintro e w' ⟨rfl,rfl⟩)
 go_ret
 exact ⟨rfl,rfl⟩
theorem d0Z (w:World) (h:a0I B w S c rs rh n wd d) (i:Nat) (s:St) (hi:d.sts[i]?=some s) (hl:d.sts.length≤64) :
 Calls Tryz.prog 32 #[.pointer (some ⟨S,0,none⟩),.int .i64 (i:Nat)] w fun e w'=>e=.returned (.pointer (some ⟨s.T,0,none⟩))∧w'=w:=by
 obtain ⟨a1,a2,a3⟩:=a0A jR h.cell;obtain ⟨hil,his⟩:=List.getElem?_eq_some_iff.1 hi;have HM:=jH (l0L w h (by omega));obtain ⟨b,o,hA,hb,hc⟩:=h.row.1.at_ hil;injection hA with hA
 injection hA with e1 e2
 subst e1 e2;have c1:w.cell? ⟨d.A,i,none⟩=some (.pointer (some ⟨s.T,0,none⟩)):=by
  rw [his] at hc;have:=hc 0 _ rfl
  simpa using this
 have z1:¬(i:Int)<0:=by omega
 have z2:¬(d.sts.length:Int)≤(i:Int):=by omega
 have z3:(i:Int)<(d.sts.length:Int):=by omega
 have z4:(0:Int)≤(i:Int):=by omega
 clear h hi hil his hc hb hl
 go_enter Tryz.func32,Tryz.ntmps32
 go_wp2_with (go_at_call 29;refine HM.out.mono ?_;rintro e w' ⟨rfl,rfl⟩)
 go_ret
 exact ⟨rfl,rfl⟩
theorem f0I (w:World) (h:a0I B w S c rs rh n wd d) (hp:0<d.sts.length) (hl:(d.sts.length:Int)=c.st) (hl2:d.sts.length≤64) (k:Ky) (hk:k.ok) :
 Calls Tryz.prog 30 #[.pointer (some ⟨S,0,none⟩),.agg #[.int .u64 k.1,.int .u64 k.2]] w (jP w (.int .i64 (c0J k.1 k.2 c.st))):=by
 have HM:=jH (fun W (hW:jB w W)=>l0L W (h.below hW) hp);have HR:=jH (fun W=>show Calls Tryz.prog 88 #[.agg #[.int .u64 k.1,.int .u64 k.2],.int .i64 (d.sts.length:Nat)] W (jP W (.int .i64 (c0J k.1 k.2 c.st))) from hl ▸ o0D k.1 k.2 (d.sts.length:Nat) W hk.1 hk.2 (by unfold I64;omega));clear h hp hl
 go_enter Tryz.func30,Tryz.ntmps30
 go_wp2_with fail
 refine a0J ?_;intro W hW;have hb1:jB w W:=by rw [hW];exact a0C jR _
 have hx1:W.heap[w.heap.size]?=some (.cells #[.int .u64 k.1,.int .u64 k.2] 74 (0,0)):=by rw [hW];exact heap_alloc_new _ _
 clear hW;have rk0:∀U,jB W U→U.cell? ⟨w.heap.size,0,none⟩=some (.int .u64 k.1):=fun U hU=>(a0A hU hx1).1 0
 have rk1:∀U,jB W U→U.cell? ⟨w.heap.size,1,none⟩=some (.int .u64 k.2):=fun U hU=>(a0A hU hx1).1 1
 have hS00:jB W W:=jR;have hS0:jB W W.drew:=hS00.drew;have HB1:=jH hb1;clear hb1 hx1
 go_region_held3 (fun U=>jB W U)
   (first
     | with_reducible exact hS0
     | with_reducible exact HB5.out
     | with_reducible exact hS00)
   (first
   | (go_at_call 29
      refine (HM.out _ (a0D HB1.out ‹jB W _›)).mono ?_;rintro e w4 ⟨rfl,rfl⟩)
   | (go_at_call 88
      refine (HR.out _).mono ?_;rintro e w5 ⟨rfl,hb5⟩;have HB5:=jH (a0D ‹jB W _› hb5);clear hb5))
 all_goals
   refine a0Y ?_;intro W6 hW6;have hb6:jB w W6:=by rw [hW6];first|exact a0D HB1.out HB5.out|exact (a0D HB1.out HB5.out).drew|exact a0G (a0D HB1.out HB5.out) _
   clear hW6;go_wp2
   go_ret
   exact ⟨rfl,hb6⟩
end
end
end
end Go.Proofs.YtmniiodpbebnmaaGreat
