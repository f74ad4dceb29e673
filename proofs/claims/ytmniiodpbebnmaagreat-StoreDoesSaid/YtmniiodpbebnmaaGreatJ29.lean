/- Part 29 of the proof. -/
import Derived.Test.YtmniiodpbebnmaaGreatJ28
namespace Go.Proofs.YtmniiodpbebnmaaGreat
set_option linter.unusedSimpArgs false
set_option linter.unusedVariables false
set_option linter.unusedSectionVars false
set_option maxRecDepth 100000
set_option maxHeartbeats 16000000
section
open Go.RowKit Go.Lib
theorem q1C {l:List Smp} (h:r0Y l):∀b,I64 b→I64 (x0U l b):=by
 induction l with
 | nil=>exact fun b hb=>hb
 | cons x l ih =>
   intro b hb;have hx:=(h x (List.mem_cons_self ..)).1;exact ih (fun s hs=>h s (List.mem_cons_of_mem _ hs)) (max b x.1) (by unfold I64 at *;omega)
theorem q0T {l:List Smp} (hne:l≠[]) (h:r0Y l):I64 (i0Y l):=by
 cases l with
 | nil=>exact absurd rfl hne
 | cons s l=>exact q1C (fun x hx=>h x (List.mem_cons_of_mem _ hx)) s.1 (h s (List.mem_cons_self ..)).1
theorem w0H (A:Option Addr) (c:Nat) (w:World) :
 Calls Tryz.prog 138 #[.slice A 0 c] w (jP w (.tuple #[.int .i64 0,.bool false])):=by
 go_enter Tryz.func138,Tryz.ntmps138
 go_wp2
 exact bodyPost_ret (v:=.tuple #[.int .i64 0,.bool false]) (by simp [results,Tryz.results138,go_sem]) rfl ⟨rfl,by repeat (first|exact jR|refine a0C ?_ _)⟩
theorem j1D (p:Pol) (l:List Smp) (past:List Adv) (vs vp:Value) (w:World) (hs:a0O 2 b0X w vs l) (hp:a0O 5 c0V w vp past) (hl:l.length≤1000000) (hl2:past.length≤1000000) (hi:r0Y l) (ho:p.ok) :
 Calls Tryz.prog 75 #[b0W p,vs,vp] w (jP w (.tuple #[.agg (c0V (n0K p l past).1).toArray,.int .i64 (n0K p l past).2])):=by
 obtain ⟨A,c,rfl⟩:=hs.form;obtain ⟨A2,c2,rfl⟩:=hp.form
 cases hpb:d0G p
 · have HC:=jH (b0E p)
   have HE:=jH (show j0N p=7 by unfold j0N;rw [hpb];rfl);have HD:=jH (show n0K p l past=(c0U,7) by unfold n0K;rw [if_pos hpb]);rw [HD.out];clear hpb HD hs hp hi ho hl hl2;unfold b0W;unfold b0W at HC
   go_enter Tryz.func75,Tryz.ntmps75
   go_wp2_with (first
   | (go_at_call 103
      refine a0B ?_;intro W1 hW1;have hb1:jB w W1:=by rw [hW1];exact a0C (a0C jR _) _
      have hx1:W1.heap[w.heap.size]?=some (.cells #[.int .i64 p.mn,.int .i64 p.mx,.int .i64 p.tg,.int .i64 p.tol,.int .i64 p.win,.int .i64 p.hold] 35 (0,0)):=by rw [hW1];exact c0J _ _ _
      have hy1:W1.heap[w.heap.size+1]?=some (.cells #[.int .i64 0,.int .i64 0,.int .i64 0,.int .i64 0,.int .i64 0] 44 (0,0)):=by rw [hW1];exact b0R _ _ _
      clear hW1;refine (HC.out W1).mono ?_;rw [HE.out];rintro e w2 ⟨rfl,hb2⟩;have HB2:=jH (a0D hb1 hb2);obtain ⟨hx2,R0⟩:=b0H hx1 hb2;obtain ⟨hy2,R1⟩:=b0H hy1 hb2;have HY2:=jH hy2;have rc0:∀U,jB w2 U→U.cell? ⟨w.heap.size,0,none⟩=some (.int .i64 p.mn):=fun U hU=>R0 U 0 hU
      have rc1:∀U,jB w2 U→U.cell? ⟨w.heap.size,1,none⟩=some (.int .i64 p.mx):=fun U hU=>R0 U 1 hU
      have rc2:∀U,jB w2 U→U.cell? ⟨w.heap.size,2,none⟩=some (.int .i64 p.tg):=fun U hU=>R0 U 2 hU
      have rc3:∀U,jB w2 U→U.cell? ⟨w.heap.size,3,none⟩=some (.int .i64 p.tol):=fun U hU=>R0 U 3 hU
      have rc4:∀U,jB w2 U→U.cell? ⟨w.heap.size,4,none⟩=some (.int .i64 p.win):=fun U hU=>R0 U 4 hU
      have rc5:∀U,jB w2 U→U.cell? ⟨w.heap.size,5,none⟩=some (.int .i64 p.hold):=fun U hU=>R0 U 5 hU
      have rr0:∀U,jB w2 U→U.cell? ⟨w.heap.size+1,0,none⟩=some (.int .i64 0):=fun U hU=>R1 U 0 hU
      have rr1:∀U,jB w2 U→U.cell? ⟨w.heap.size+1,1,none⟩=some (.int .i64 0):=fun U hU=>R1 U 1 hU
      have rr2:∀U,jB w2 U→U.cell? ⟨w.heap.size+1,2,none⟩=some (.int .i64 0):=fun U hU=>R1 U 2 hU
      have rr3:∀U,jB w2 U→U.cell? ⟨w.heap.size+1,3,none⟩=some (.int .i64 0):=fun U hU=>R1 U 3 hU
      have rr4:∀U,jB w2 U→U.cell? ⟨w.heap.size+1,4,none⟩=some (.int .i64 0):=fun U hU=>R1 U 4 hU
      have rf:∀U j,jB w2 U→U.frozen? ⟨w.heap.size+1,j,none⟩=false:=fun U j hU=>(a0A hU HY2.out).2.1 j
      clear hb1 hb2 hx1 hx2 hy1 hy2 R0 R1))
   have HBE:=jH HB2.out;refine a0H ?_;intro W9 hW9;have hW9':W9=b0J w2 (w.heap.size+1) 0 [.int .i64 0,.int .i64 0,.int .i64 0,.int .i64 0,.int .i64 0]:=hW9;obtain ⟨s1,s2,s3,s4⟩:=a0P (HY2.out) [.int .i64 0,.int .i64 0,.int .i64 0,.int .i64 0,.int .i64 0] rfl W9 hW9';obtain ⟨a9,a8,a7⟩:=a0A jR s1;clear hW9 hW9';exact bodyPost_ret (v:=.tuple #[.agg #[.int .i64 0,.int .i64 0,.int .i64 0,.int .i64 0,.int .i64 0],.int .i64 7]) (by simp [results,Tryz.results75,go_sem,a9]) rfl ⟨rfl,HBE.out.trans (s4 _ (Nat.le_succ _))⟩
 · have HC:=jH (b0E p)
   have HE:=jH (show j0N p=0 by unfold j0N;rw [hpb];rfl)
   by_cases hne:l=[]
   · subst hne
     have HD:=jH (show n0K p [] past=(c0U,5) by unfold n0K;rw [if_neg (by rw [hpb];simp),if_pos rfl]);rw [HD.out];have CL:=jH (fun (W:World) (hW:jB w W)=>show Calls Tryz.prog 138 #[.slice A ([]:List Smp).length c] W (jP W (.tuple #[.int .i64 0,.bool false])) from w0H A c W);clear hpb HD hs hp hi ho hl hl2;unfold b0W;unfold b0W at HC
     go_enter Tryz.func75,Tryz.ntmps75
     go_wp2_with (first
     | (go_at_call 103
        refine a0B ?_;intro W1 hW1;have hb1:jB w W1:=by rw [hW1];exact a0C (a0C jR _) _
        have hx1:W1.heap[w.heap.size]?=some (.cells #[.int .i64 p.mn,.int .i64 p.mx,.int .i64 p.tg,.int .i64 p.tol,.int .i64 p.win,.int .i64 p.hold] 35 (0,0)):=by rw [hW1];exact c0J _ _ _
        have hy1:W1.heap[w.heap.size+1]?=some (.cells #[.int .i64 0,.int .i64 0,.int .i64 0,.int .i64 0,.int .i64 0] 44 (0,0)):=by rw [hW1];exact b0R _ _ _
        clear hW1;refine (HC.out W1).mono ?_;rw [HE.out];rintro e w2 ⟨rfl,hb2⟩;have HB2:=jH (a0D hb1 hb2);obtain ⟨hx2,R0⟩:=b0H hx1 hb2;obtain ⟨hy2,R1⟩:=b0H hy1 hb2;have HY2:=jH hy2;have rc0:∀U,jB w2 U→U.cell? ⟨w.heap.size,0,none⟩=some (.int .i64 p.mn):=fun U hU=>R0 U 0 hU
        have rc1:∀U,jB w2 U→U.cell? ⟨w.heap.size,1,none⟩=some (.int .i64 p.mx):=fun U hU=>R0 U 1 hU
        have rc2:∀U,jB w2 U→U.cell? ⟨w.heap.size,2,none⟩=some (.int .i64 p.tg):=fun U hU=>R0 U 2 hU
        have rc3:∀U,jB w2 U→U.cell? ⟨w.heap.size,3,none⟩=some (.int .i64 p.tol):=fun U hU=>R0 U 3 hU
        have rc4:∀U,jB w2 U→U.cell? ⟨w.heap.size,4,none⟩=some (.int .i64 p.win):=fun U hU=>R0 U 4 hU
        have rc5:∀U,jB w2 U→U.cell? ⟨w.heap.size,5,none⟩=some (.int .i64 p.hold):=fun U hU=>R0 U 5 hU
        have rr0:∀U,jB w2 U→U.cell? ⟨w.heap.size+1,0,none⟩=some (.int .i64 0):=fun U hU=>R1 U 0 hU
        have rr1:∀U,jB w2 U→U.cell? ⟨w.heap.size+1,1,none⟩=some (.int .i64 0):=fun U hU=>R1 U 1 hU
        have rr2:∀U,jB w2 U→U.cell? ⟨w.heap.size+1,2,none⟩=some (.int .i64 0):=fun U hU=>R1 U 2 hU
        have rr3:∀U,jB w2 U→U.cell? ⟨w.heap.size+1,3,none⟩=some (.int .i64 0):=fun U hU=>R1 U 3 hU
        have rr4:∀U,jB w2 U→U.cell? ⟨w.heap.size+1,4,none⟩=some (.int .i64 0):=fun U hU=>R1 U 4 hU
        have rf:∀U j,jB w2 U→U.frozen? ⟨w.heap.size+1,j,none⟩=false:=fun U j hU=>(a0A hU HY2.out).2.1 j
        clear hb1 hb2 hx1 hx2 hy1 hy2 R0 R1)
     | (go_at_call 138
        refine a0B ?_;intro W3 hW3;have hq3:jB w2 W3:=by rw [hW3];first|exact jR|assumption|exact jR.drew|exact Below.drew (by assumption)
        clear hW3;refine (CL.out W3 (a0D HB2.out hq3)).mono ?_;rintro e w3 ⟨rfl,hb3⟩;have hk3:jB w2 w3:=a0D hq3 hb3;clear hb3 hq3))
     have HBE:=jH (a0D HB2.out hk3);refine a0H ?_;intro W9 hW9;have hW9':W9=b0J w3 (w.heap.size+1) 0 [.int .i64 0,.int .i64 0,.int .i64 0,.int .i64 0,.int .i64 0]:=hW9;obtain ⟨s1,s2,s3,s4⟩:=a0P (jK hk3 HY2.out) [.int .i64 0,.int .i64 0,.int .i64 0,.int .i64 0,.int .i64 0] rfl W9 hW9';obtain ⟨a9,a8,a7⟩:=a0A jR s1;clear hW9 hW9';exact bodyPost_ret (v:=.tuple #[.agg #[.int .i64 0,.int .i64 0,.int .i64 0,.int .i64 0,.int .i64 0],.int .i64 5]) (by simp [results,Tryz.results75,go_sem,a9]) rfl ⟨rfl,HBE.out.trans (s4 _ (Nat.le_succ _))⟩
   · have hpos:0<l.length:=List.length_pos_iff.2 hne
     obtain ⟨tick,htk⟩:∃t,t=i0Y l:=⟨_,rfl⟩;have hti:I64 tick:=by rw [htk];exact q0T hne hi
     have CL:=jH (fun (W:World) (hW:jB w W)=>show Calls Tryz.prog 138 #[.slice A l.length c] W (jP W (.tuple #[.int .i64 tick,.bool true])) from htk ▸ y0M _ l W (hs.below hW) hl hpos);obtain ⟨st,hst⟩:∃s,s=i0P l tick p.win:=⟨_,rfl⟩;obtain ⟨load,hld⟩:∃x:Int,x=(f0P (c0P (j0G l (i0X tick p.win) tick)):Nat):=⟨_,rfl⟩;have hmean:st.mean=load:=by rw [hst,hld];exact g1C l tick p.win
     have hlo:I64 load:=by rw [hld];have:=n0V (l:=c0P (j0G l (i0X tick p.win) tick)) (fun n hn=>(j0K (hi.cut _ _) n hn).2);unfold I64;omega
     have CWA:=jH (fun (W:World) (hW:jB w W)=>show Calls Tryz.prog 134 #[.slice A l.length c,.int .i64 tick,.int .i64 p.win] W (jP W (.agg #[.int .i64 st.cnt,.int .i64 st.sum,.int .i64 st.least,.int .i64 st.most,.int .i64 load])) from hmean ▸ hst ▸ u0X _ l tick p.win W (hs.below hW) hl hi hti ho.2.2.2.2.1);have hfd:∀W:World,(Instr.field 42 (.agg #[.int .i64 st.cnt,.int .i64 st.sum,.int .i64 st.least,.int .i64 st.most,.int .i64 load]) 4).run Tryz.prog W=.ok (.int .i64 load) W:=fun _=>by kernel_rfl
     obtain ⟨now,hnow⟩:∃x,x=l1A p past:=⟨_,rfl⟩;have CN:=jH (fun (W:World) (hW:jB w W)=>show Calls Tryz.prog 139 #[b0W p,.slice A2 past.length c2] W (jP W (.int .i64 now)) from hnow ▸ g1V p _ past W (hp.below hW) hl2);obtain ⟨wt,hwt⟩:∃x,x=o0Z p load:=⟨_,rfl⟩;obtain ⟨nr,hnr⟩:∃x,x=l0D p load now:=⟨_,rfl⟩;have CWt:=jH (fun (W:World) (hW:jB w W)=>show Calls Tryz.prog 140 #[b0W p,.int .i64 load] W (jP W (.int .i64 wt)) from hwt ▸ p0G p load W hlo ho.2.2.1)
     have CNr:=jH (fun (W:World) (hW:jB w W)=>show Calls Tryz.prog 141 #[b0W p,.int .i64 load,.int .i64 now] W (jP W (.bool nr)) from hnr ▸ p0A p load now W hlo ho.2.2.1);obtain ⟨op,hop⟩:∃x,x=b1J p load now:=⟨_,rfl⟩;obtain ⟨want,hwa⟩:∃x,x=f0W p op:=⟨_,rfl⟩;have CRw:=jH (fun (W:World) (hW:jB w W)=>show Calls Tryz.prog 142 #[b0W p,.int .i64 load,.int .i64 now] W (jP W (.int .i64 want)) from hwa ▸ hop ▸ e1S p load now W hlo ho.2.2.1)
     obtain ⟨ns,hns⟩:∃x,x=(f0F p tick want past).1:=⟨_,rfl⟩;obtain ⟨held,hhe⟩:∃x,x=(f0F p tick want past).2:=⟨_,rfl⟩;obtain ⟨til,htil⟩:∃x,x=f0W p ns:=⟨_,rfl⟩;obtain ⟨wy,hwy⟩:∃x,x=p1P p held op now til:=⟨_,rfl⟩;have CSt:=jH (fun (W:World) (hW:jB w W)=>show Calls Tryz.prog 143 #[b0W p,.int .i64 tick,.int .i64 want,.slice A2 past.length c2] W (jP W (.tuple #[.int .i64 ns,.bool held])) from hns ▸ hhe ▸ m1T p tick want _ past W (hp.below hW) hl2 hti ho.2.2.2.2.2)
     have CBd:=jH (fun (W:World) (hW:jB w W)=>show Calls Tryz.prog 144 #[b0W p,.int .i64 ns] W (jP W (.int .i64 til)) from htil ▸ n0H p ns W);have CWy:=jH (fun (W:World) (hW:jB w W)=>show Calls Tryz.prog 145 #[b0W p,.bool held,.int .i64 op,.int .i64 now,.int .i64 til] W (jP W (.int .i64 wy)) from hwy ▸ f1T p held op now til W);have HD:=jH (show n0K p l past=(⟨tick,load,want,til,wy⟩,0) by
      unfold n0K;rw [if_neg (by rw [hpb];simp),if_neg hne];simp only [←htk,←hld,←hnow,←hop,←hwa,←hns,←hhe,←htil,←hwy])
     rw [HD.out];have HOP:=jH (show op=if nr=true then now else wt by rw [hop,hnr,hwt];rfl);clear htk hst hld hmean hwt hnr hnow hop hwa hns hhe htil hwy HD hpb hne hpos hlo hti hs hp hi ho hl hl2;unfold b0W;unfold b0W at HC CN CSt CBd CWy CWt CNr CRw
     cases nr
     · have HOP2:=jH (show op=wt from HOP.out)
       rw [HOP2.out] at CWy
       as_aux_lemma =>
        go_enter Tryz.func75,Tryz.ntmps75
        go_wp2_with (first
         | (go_at_call 103
            refine a0B ?_;intro W1 hW1;have hb1:jB w W1:=by rw [hW1];exact a0C (a0C jR _) _
            have hx1:W1.heap[w.heap.size]?=some (.cells #[.int .i64 p.mn,.int .i64 p.mx,.int .i64 p.tg,.int .i64 p.tol,.int .i64 p.win,.int .i64 p.hold] 35 (0,0)):=by rw [hW1];exact c0J _ _ _
            have hy1:W1.heap[w.heap.size+1]?=some (.cells #[.int .i64 0,.int .i64 0,.int .i64 0,.int .i64 0,.int .i64 0] 44 (0,0)):=by rw [hW1];exact b0R _ _ _
            clear hW1;refine (HC.out W1).mono ?_;rw [HE.out];rintro e w2 ⟨rfl,hb2⟩;have HB2:=jH (a0D hb1 hb2);obtain ⟨hx2,R0⟩:=b0H hx1 hb2;obtain ⟨hy2,R1⟩:=b0H hy1 hb2;have HY2:=jH hy2;have rc0:∀U,jB w2 U→U.cell? ⟨w.heap.size,0,none⟩=some (.int .i64 p.mn):=fun U hU=>R0 U 0 hU
            have rc1:∀U,jB w2 U→U.cell? ⟨w.heap.size,1,none⟩=some (.int .i64 p.mx):=fun U hU=>R0 U 1 hU
            have rc2:∀U,jB w2 U→U.cell? ⟨w.heap.size,2,none⟩=some (.int .i64 p.tg):=fun U hU=>R0 U 2 hU
            have rc3:∀U,jB w2 U→U.cell? ⟨w.heap.size,3,none⟩=some (.int .i64 p.tol):=fun U hU=>R0 U 3 hU
            have rc4:∀U,jB w2 U→U.cell? ⟨w.heap.size,4,none⟩=some (.int .i64 p.win):=fun U hU=>R0 U 4 hU
            have rc5:∀U,jB w2 U→U.cell? ⟨w.heap.size,5,none⟩=some (.int .i64 p.hold):=fun U hU=>R0 U 5 hU
            have rr0:∀U,jB w2 U→U.cell? ⟨w.heap.size+1,0,none⟩=some (.int .i64 0):=fun U hU=>R1 U 0 hU
            have rr1:∀U,jB w2 U→U.cell? ⟨w.heap.size+1,1,none⟩=some (.int .i64 0):=fun U hU=>R1 U 1 hU
            have rr2:∀U,jB w2 U→U.cell? ⟨w.heap.size+1,2,none⟩=some (.int .i64 0):=fun U hU=>R1 U 2 hU
            have rr3:∀U,jB w2 U→U.cell? ⟨w.heap.size+1,3,none⟩=some (.int .i64 0):=fun U hU=>R1 U 3 hU
            have rr4:∀U,jB w2 U→U.cell? ⟨w.heap.size+1,4,none⟩=some (.int .i64 0):=fun U hU=>R1 U 4 hU
            have rf:∀U j,jB w2 U→U.frozen? ⟨w.heap.size+1,j,none⟩=false:=fun U j hU=>(a0A hU HY2.out).2.1 j
            clear hb1 hb2 hx1 hx2 hy1 hy2 R0 R1)
         | (go_at_call 138
            refine a0B ?_;intro W3 hW3;have hq3:jB w2 W3:=by rw [hW3];first|exact jR|assumption|exact jR.drew|exact Below.drew (by assumption)
            clear hW3;refine (CL.out W3 (a0D HB2.out hq3)).mono ?_;rintro e w3 ⟨rfl,hb3⟩;have hk3:jB w2 w3:=a0D hq3 hb3;clear hb3 hq3))
        have hS00:jB w2 w3:=hk3;have hS0:jB w2 w3.drew:=hk3.drew
        go_region_held3 (fun U=>jB w2 U)
          (first
            | with_reducible exact hS0
            | with_reducible exact hk4
            | with_reducible exact hk5
            | with_reducible exact hS00)
          (first
          | (go_at_call 134
             refine a0B ?_;intro W4 hW4;have hq4:jB w2 W4:=by rw [hW4];first|exact jR|assumption|exact jR.drew|exact Below.drew (by assumption)
             clear hW4;refine (CWA.out W4 (a0D HB2.out hq4)).mono ?_;rintro e w4 ⟨rfl,hb4⟩;have hk4:jB w2 w4:=a0D hq4 hb4;clear hb4 hq4)
          | (go_at_call 139
             refine a0B ?_;intro W5 hW5;have hq5:jB w2 W5:=by rw [hW5];first|exact jR|assumption|exact jR.drew|exact Below.drew (by assumption)
             clear hW5;refine (CN.out W5 (a0D HB2.out hq5)).mono ?_;rintro e w5 ⟨rfl,hb5⟩;have hk5:jB w2 w5:=a0D hq5 hb5;clear hb5 hq5))
        all_goals
          refine a0T ?_;intro W6 hW6;have hk6:jB w2 W6:=by rw [hW6];first|exact hk4|exact hk5|exact hk4.drew|exact hk5.drew|exact a0F hk4 _|exact a0F hk5 _
          clear hW6;clear hS00 hS0
          go_wp2_with (first
           | (go_at_call 140
              refine a0B ?_;intro W7 hW7;have hq7:jB w2 W7:=by rw [hW7];first|exact jR|assumption|exact jR.drew|exact Below.drew (by assumption)
              clear hW7;refine (CWt.out W7 (a0D HB2.out hq7)).mono ?_;rintro e w7 ⟨rfl,hb7⟩;have hk7:jB w2 w7:=a0D hq7 hb7;clear hb7 hq7)
           | (go_at_call 141
              refine a0B ?_;intro W8 hW8;have hq8:jB w2 W8:=by rw [hW8];first|exact jR|assumption|exact jR.drew|exact Below.drew (by assumption)
              clear hW8;refine (CNr.out W8 (a0D HB2.out hq8)).mono ?_;rintro e w8 ⟨rfl,hb8⟩;have hk8:jB w2 w8:=a0D hq8 hb8;clear hb8 hq8)
           | (go_at_call 142
              refine a0B ?_;intro W9 hW9;have hq9:jB w2 W9:=by rw [hW9];first|exact jR|assumption|exact jR.drew|exact Below.drew (by assumption)
              clear hW9;refine (CRw.out W9 (a0D HB2.out hq9)).mono ?_;rintro e w9 ⟨rfl,hb9⟩;have hk9:jB w2 w9:=a0D hq9 hb9;clear hb9 hq9)
           | (go_at_call 143
              refine a0B ?_;intro W10 hW10;have hq10:jB w2 W10:=by rw [hW10];first|exact jR|assumption|exact jR.drew|exact Below.drew (by assumption)
              clear hW10;refine (CSt.out W10 (a0D HB2.out hq10)).mono ?_;rintro e w10 ⟨rfl,hb10⟩;have hk10:jB w2 w10:=a0D hq10 hb10;clear hb10 hq10)
           | (go_at_call 144
              refine a0B ?_;intro W11 hW11;have hq11:jB w2 W11:=by rw [hW11];first|exact jR|assumption|exact jR.drew|exact Below.drew (by assumption)
              clear hW11;refine (CBd.out W11 (a0D HB2.out hq11)).mono ?_;rintro e w11 ⟨rfl,hb11⟩;have hk11:jB w2 w11:=a0D hq11 hb11;clear hb11 hq11)
           | (go_at_call 145
              refine a0B ?_;intro W12 hW12;have hq12:jB w2 W12:=by rw [hW12];first|exact jR|assumption|exact jR.drew|exact Below.drew (by assumption)
              clear hW12;refine (CWy.out W12 (a0D HB2.out hq12)).mono ?_;rintro e w12 ⟨rfl,hb12⟩;have hk12:jB w2 w12:=a0D hq12 hb12;clear hb12 hq12))
          have HBE:=jH (a0D HB2.out hk12);refine a0H ?_;intro W9 hW9;have hW9':W9=b0J w12 (w.heap.size+1) 0 [.int .i64 tick,.int .i64 load,.int .i64 want,.int .i64 til,.int .i64 wy]:=hW9;obtain ⟨s1,s2,s3,s4⟩:=a0P (jK hk12 HY2.out) [.int .i64 tick,.int .i64 load,.int .i64 want,.int .i64 til,.int .i64 wy] rfl W9 hW9';obtain ⟨a9,a8,a7⟩:=a0A jR s1;clear hW9 hW9';exact bodyPost_ret (v:=.tuple #[.agg #[.int .i64 tick,.int .i64 load,.int .i64 want,.int .i64 til,.int .i64 wy],.int .i64 0]) (by simp [results,Tryz.results75,go_sem,a9]) rfl ⟨rfl,HBE.out.trans (s4 _ (Nat.le_succ _))⟩
     · have HOP2:=jH (show op=now from HOP.out)
       rw [HOP2.out] at CWy
       as_aux_lemma =>
        go_enter Tryz.func75,Tryz.ntmps75
        go_wp2_with (first
         | (go_at_call 103
            refine a0B ?_;intro W1 hW1;have hb1:jB w W1:=by rw [hW1];exact a0C (a0C jR _) _
            have hx1:W1.heap[w.heap.size]?=some (.cells #[.int .i64 p.mn,.int .i64 p.mx,.int .i64 p.tg,.int .i64 p.tol,.int .i64 p.win,.int .i64 p.hold] 35 (0,0)):=by rw [hW1];exact c0J _ _ _
            have hy1:W1.heap[w.heap.size+1]?=some (.cells #[.int .i64 0,.int .i64 0,.int .i64 0,.int .i64 0,.int .i64 0] 44 (0,0)):=by rw [hW1];exact b0R _ _ _
            clear hW1;refine (HC.out W1).mono ?_;rw [HE.out];rintro e w2 ⟨rfl,hb2⟩;have HB2:=jH (a0D hb1 hb2);obtain ⟨hx2,R0⟩:=b0H hx1 hb2;obtain ⟨hy2,R1⟩:=b0H hy1 hb2;have HY2:=jH hy2;have rc0:∀U,jB w2 U→U.cell? ⟨w.heap.size,0,none⟩=some (.int .i64 p.mn):=fun U hU=>R0 U 0 hU
            have rc1:∀U,jB w2 U→U.cell? ⟨w.heap.size,1,none⟩=some (.int .i64 p.mx):=fun U hU=>R0 U 1 hU
            have rc2:∀U,jB w2 U→U.cell? ⟨w.heap.size,2,none⟩=some (.int .i64 p.tg):=fun U hU=>R0 U 2 hU
            have rc3:∀U,jB w2 U→U.cell? ⟨w.heap.size,3,none⟩=some (.int .i64 p.tol):=fun U hU=>R0 U 3 hU
            have rc4:∀U,jB w2 U→U.cell? ⟨w.heap.size,4,none⟩=some (.int .i64 p.win):=fun U hU=>R0 U 4 hU
            have rc5:∀U,jB w2 U→U.cell? ⟨w.heap.size,5,none⟩=some (.int .i64 p.hold):=fun U hU=>R0 U 5 hU
            have rr0:∀U,jB w2 U→U.cell? ⟨w.heap.size+1,0,none⟩=some (.int .i64 0):=fun U hU=>R1 U 0 hU
            have rr1:∀U,jB w2 U→U.cell? ⟨w.heap.size+1,1,none⟩=some (.int .i64 0):=fun U hU=>R1 U 1 hU
            have rr2:∀U,jB w2 U→U.cell? ⟨w.heap.size+1,2,none⟩=some (.int .i64 0):=fun U hU=>R1 U 2 hU
            have rr3:∀U,jB w2 U→U.cell? ⟨w.heap.size+1,3,none⟩=some (.int .i64 0):=fun U hU=>R1 U 3 hU
            have rr4:∀U,jB w2 U→U.cell? ⟨w.heap.size+1,4,none⟩=some (.int .i64 0):=fun U hU=>R1 U 4 hU
            have rf:∀U j,jB w2 U→U.frozen? ⟨w.heap.size+1,j,none⟩=false:=fun U j hU=>(a0A hU HY2.out).2.1 j
            clear hb1 hb2 hx1 hx2 hy1 hy2 R0 R1)
         | (go_at_call 138
            refine a0B ?_;intro W3 hW3;have hq3:jB w2 W3:=by rw [hW3];first|exact jR|assumption|exact jR.drew|exact Below.drew (by assumption)
            clear hW3;refine (CL.out W3 (a0D HB2.out hq3)).mono ?_;rintro e w3 ⟨rfl,hb3⟩;have hk3:jB w2 w3:=a0D hq3 hb3;clear hb3 hq3))
        have hS00:jB w2 w3:=hk3;have hS0:jB w2 w3.drew:=hk3.drew
        go_region_held3 (fun U=>jB w2 U)
          (first
            | with_reducible exact hS0
            | with_reducible exact hk4
            | with_reducible exact hk5
            | with_reducible exact hS00)
          (first
          | (go_at_call 134
             refine a0B ?_;intro W4 hW4;have hq4:jB w2 W4:=by rw [hW4];first|exact jR|assumption|exact jR.drew|exact Below.drew (by assumption)
             clear hW4;refine (CWA.out W4 (a0D HB2.out hq4)).mono ?_;rintro e w4 ⟨rfl,hb4⟩;have hk4:jB w2 w4:=a0D hq4 hb4;clear hb4 hq4)
          | (go_at_call 139
             refine a0B ?_;intro W5 hW5;have hq5:jB w2 W5:=by rw [hW5];first|exact jR|assumption|exact jR.drew|exact Below.drew (by assumption)
             clear hW5;refine (CN.out W5 (a0D HB2.out hq5)).mono ?_;rintro e w5 ⟨rfl,hb5⟩;have hk5:jB w2 w5:=a0D hq5 hb5;clear hb5 hq5))
        all_goals
          refine a0T ?_;intro W6 hW6;have hk6:jB w2 W6:=by rw [hW6];first|exact hk4|exact hk5|exact hk4.drew|exact hk5.drew|exact a0F hk4 _|exact a0F hk5 _
          clear hW6;clear hS00 hS0
          go_wp2_with (first
           | (go_at_call 140
              refine a0B ?_;intro W7 hW7;have hq7:jB w2 W7:=by rw [hW7];first|exact jR|assumption|exact jR.drew|exact Below.drew (by assumption)
              clear hW7;refine (CWt.out W7 (a0D HB2.out hq7)).mono ?_;rintro e w7 ⟨rfl,hb7⟩;have hk7:jB w2 w7:=a0D hq7 hb7;clear hb7 hq7)
           | (go_at_call 141
              refine a0B ?_;intro W8 hW8;have hq8:jB w2 W8:=by rw [hW8];first|exact jR|assumption|exact jR.drew|exact Below.drew (by assumption)
              clear hW8;refine (CNr.out W8 (a0D HB2.out hq8)).mono ?_;rintro e w8 ⟨rfl,hb8⟩;have hk8:jB w2 w8:=a0D hq8 hb8;clear hb8 hq8)
           | (go_at_call 142
              refine a0B ?_;intro W9 hW9;have hq9:jB w2 W9:=by rw [hW9];first|exact jR|assumption|exact jR.drew|exact Below.drew (by assumption)
              clear hW9;refine (CRw.out W9 (a0D HB2.out hq9)).mono ?_;rintro e w9 ⟨rfl,hb9⟩;have hk9:jB w2 w9:=a0D hq9 hb9;clear hb9 hq9)
           | (go_at_call 143
              refine a0B ?_;intro W10 hW10;have hq10:jB w2 W10:=by rw [hW10];first|exact jR|assumption|exact jR.drew|exact Below.drew (by assumption)
              clear hW10;refine (CSt.out W10 (a0D HB2.out hq10)).mono ?_;rintro e w10 ⟨rfl,hb10⟩;have hk10:jB w2 w10:=a0D hq10 hb10;clear hb10 hq10)
           | (go_at_call 144
              refine a0B ?_;intro W11 hW11;have hq11:jB w2 W11:=by rw [hW11];first|exact jR|assumption|exact jR.drew|exact Below.drew (by assumption)
              clear hW11;refine (CBd.out W11 (a0D HB2.out hq11)).mono ?_;rintro e w11 ⟨rfl,hb11⟩;have hk11:jB w2 w11:=a0D hq11 hb11;clear hb11 hq11)
           | (go_at_call 145
              refine a0B ?_;intro W12 hW12;have hq12:jB w2 W12:=by rw [hW12];first|exact jR|assumption|exact jR.drew|exact Below.drew (by assumption)
              clear hW12;refine (CWy.out W12 (a0D HB2.out hq12)).mono ?_;rintro e w12 ⟨rfl,hb12⟩;have hk12:jB w2 w12:=a0D hq12 hb12;clear hb12 hq12))
          have HBE:=jH (a0D HB2.out hk12);refine a0H ?_;intro W9 hW9;have hW9':W9=b0J w12 (w.heap.size+1) 0 [.int .i64 tick,.int .i64 load,.int .i64 want,.int .i64 til,.int .i64 wy]:=hW9;obtain ⟨s1,s2,s3,s4⟩:=a0P (jK hk12 HY2.out) [.int .i64 tick,.int .i64 load,.int .i64 want,.int .i64 til,.int .i64 wy] rfl W9 hW9';obtain ⟨a9,a8,a7⟩:=a0A jR s1;clear hW9 hW9';exact bodyPost_ret (v:=.tuple #[.agg #[.int .i64 tick,.int .i64 load,.int .i64 want,.int .i64 til,.int .i64 wy],.int .i64 0]) (by simp [results,Tryz.results75,go_sem,a9]) rfl ⟨rfl,HBE.out.trans (s4 _ (Nat.le_succ _))⟩
structure SrH where
 A:Option Addr
 c:Nat
 l:List It
def srC (s:SrH):List Value:=[.slice s.A s.l.length s.c]
theorem eSr:i0N 29 176 1 24 (.slice none 0 0) srC :=
 ⟨by kernel_rfl,by kernel_rfl,rfl,by decide,by decide,fun _=>rfl,fun x u hu=>by
  simp only [srC,List.mem_cons,List.not_mem_nil,or_false] at hu
  subst hu
  rfl⟩
structure CuH where
 ep:Int
 A:Option Addr
 c:Nat
 l:List It
 fr:Bool
def cuC (s:CuH):List Value:=[.int .i64 s.ep,.slice s.A s.l.length s.c,.bool s.fr]
theorem eCu:i0N 30 202 3 40 (.agg #[.int .i64 0,.slice none 0 0,.bool false]) cuC :=
 ⟨by kernel_rfl,by kernel_rfl,rfl,by decide,by decide,fun _=>rfl,fun x u hu=>by
  simp only [cuC,List.mem_cons,List.not_mem_nil,or_false] at hu
  rcases hu with rfl|rfl|rfl <;> rfl⟩
structure WdH where
 sA:Option Addr
 sc:Nat
 st:List SrH
 cA:Option Addr
 cc:Nat
 cuts:List CuH
 ep:Int
 over:Bool
def wdC (c:Cfg) (x:WdH):List Value:=[.int .i64 c.st,.int .i64 c.sa,.int .i64 c.lo,.int .i64 c.hi,.slice x.sA x.st.length x.sc,.slice x.cA x.cuts.length x.cc,.int .i64 x.ep,.bool x.over]
structure d0U (P:Nat→Prop) (w:World) (x:WdH):Prop where
 sr:e0U P 1 srC w (.slice x.sA x.st.length x.sc) x.st
 it:∀s∈x.st,b0D P w (.slice s.A s.l.length s.c) s.l
 cr:e0U P 3 cuC w (.slice x.cA x.cuts.length x.cc) x.cuts
 ct:∀s∈x.cuts,b0D P w (.slice s.A s.l.length s.c) s.l
theorem d0U.below {P:Nat→Prop} {w w':World} {x:WdH} (h:d0U P w x) (hb:jB w w'):d0U P w' x :=
 ⟨h.sr.below hb,fun s hs=>(h.it s hs).below hb,h.cr.below hb,fun s hs=>(h.ct s hs).below hb⟩
theorem d0U.imp {P Q:Nat→Prop} {w:World} {x:WdH} (h:d0U P w x) (hi:∀b,P b→Q b):d0U Q w x :=
 ⟨h.sr.imp hi,fun s hs=>(h.it s hs).imp hi,h.cr.imp hi,fun s hs=>(h.ct s hs).imp hi⟩
def absC (s:CuH):CutD:=⟨s.ep,s.l.map c0X,s.fr⟩
def c0O (x:WdH):Wd:=⟨x.st.map fun s=>s.l.map c0X,x.cuts.map absC,x.ep,x.over⟩
theorem j1B (v:Value) (l:List SrH) (at_:Nat) (x:SrH) (w:World) (hv:a0O 1 srC w v l) (hl:l.length≤1000) (ha:at_≤1000000) :
 Calls Tryz.prog 114 #[v,.int .i64 at_,.slice x.A x.l.length x.c] w (g1J 1 srC w (l.set at_ x)):=by
 obtain ⟨A,c,rfl⟩:=hv.form;have HV:=jH hv;have HS:=jH (show ∀k (hk:k<l.length),(l.set at_ x).take (k+1)=(l.set at_ x).take k++[if at_=k then x else l[k]] from fun k hk=>by
  rw [List.take_succ_eq_append_getElem (by simpa using hk),List.getElem_set])
 have HN:=jH (show (l.set at_ x).take l.length=l.set at_ x by rw [List.take_of_length_le (by simp)]);have HL:=jH (show (l.set at_ x).length=l.length by simp);generalize l.set at_ x=m at HS HN HL ⊢;clear hv
 go_enter Tryz.func114,Tryz.ntmps114
 go_wp2
 go_loopg [7,8] l.length (fun g s7 s8 wr=>∃k:Nat,k≤l.length∧l.length - k≤g∧s8=.int .i64 k∧b0Q srC 176 1 w.heap.size wr s7 (m.take k)∧jB w wr)
 case atStart=>exact ⟨0,Nat.zero_le _,Nat.le_refl _,rfl,by rw [List.take_zero];exact b0Q.nil _ _,jR⟩
 case round =>
  obtain ⟨k,hk,hg,rfl,hown,hb⟩:=hrel;obtain ⟨A7,c7,rfl⟩:=hown.form;have HO:=jH hown;clear hown
  by_cases hlt:k<l.length
  · obtain ⟨b,o,rfl,hbw,hc⟩:=HV.out.at_ hlt
    have c1:wr.cell? ⟨b,o+k,none⟩=some (.slice l[k].A l[k].l.length l[k].c):=by
     have:=(hb.cell (p:=⟨b,o+k * 1+0,none⟩) hbw).trans (hc 0 _ rfl)
     simpa using this
    have HT:=jH (HS.out k hlt);clear hc;generalize l[k]=y at c1 HT;have z1:(k:Int)<(l.length:Int):=by omega
    by_cases e:at_=k
    · have HT2:=jH (show m.take (k+1)=m.take k++[x] by rw [HT.out,if_pos e])
      subst e
      go_wp2_with (at_builtin;refine a0N eSr (by rfl) (by rfl) w.heap.size (m.take at_) [x] _ _ (by rfl) (by rfl) (HO.out.below (a0C jR _)) (a0O.lit wr x _ _ _ rfl rfl) (by simp;omega) (by have:=hb.size;simp;omega) ?_;intro out2 A2 c2' w2 hout2 hown2 hg2 _
                   have hb2:jB w w2:=(a0C hb _).trans (a0Z hg2 HO.out (by have:=hb.size;simp;omega));have HW2:=jH hown2;have HO2:=jH hout2;clear hown2 hout2 hg2)
      go_roundg (l.length - (at_+1))
      case measure=>omega
      case rel=>exact ⟨at_+1,hlt,Nat.le_refl _,by go_num,by rw [HT2.out,←HO2.out];exact HW2.out,hb2⟩
    · have HT2:=jH (show m.take (k+1)=m.take k++[y] by rw [HT.out,if_neg e])
      have q1:((k:Int) == (at_:Int))=false:=by simp;omega
      have q2:¬k=at_:=fun h=>e h.symm
      have q3:(0:Int)≤(k:Int):=by omega
      clear e
      go_wp2_with (at_builtin;refine a0N eSr (by rfl) (by rfl) w.heap.size (m.take k) [y] _ _ (by rfl) (by rfl) (HO.out.below (a0C jR _)) (a0O.lit wr y _ _ _ rfl rfl) (by simp;omega) (by have:=hb.size;simp;omega) ?_;intro out2 A2 c2' w2 hout2 hown2 hg2 _
                   have hb2:jB w w2:=(a0C hb _).trans (a0Z hg2 HO.out (by have:=hb.size;simp;omega));have HW2:=jH hown2;have HO2:=jH hout2;clear hown2 hout2 hg2)
      go_roundg (l.length - (k+1))
      case measure=>omega
      case rel=>exact ⟨k+1,hlt,Nat.le_refl _,by go_num,by rw [HT2.out,←HO2.out];exact HW2.out,hb2⟩
  · obtain rfl:k=l.length:=by omega
    rw [HN.out] at HO;have z1:¬(l.length:Int)<(l.length:Int):=by omega
    have HF:=jH (show g1J 1 srC w m (.returned (.slice A7 m.length c7)) wr from ⟨_,_,rfl,e0U.own eSr HO.out,hb⟩);rw [HL.out] at HF;go_wp2
    go_ret
    first
     | exact HF.out
     | (have h9:=HF.out
        simpa [HN.out,HL.out] using h9)
def u0E (x:WdH):List It:=(x.st.map (·.l)).flatten
theorem n0X (x:WdH):(u0E x).map c0X=g0C (c0O x):=by
 unfold u0E g0C c0O;simp only [List.map_flatten,List.map_map]
 rfl
def a1W (P:Nat→Prop) (w:World) (l:List It) (e:Ending) (w':World):Prop :=
 ∃A c,e=.returned (.slice A l.length c)∧b0D P w' (.slice A l.length c) l∧jB w w'
theorem k1L {α β:Type} (f:α→List β) (l:List α) (k:Nat):((l.take k).map f).flatten.length≤(l.map f).flatten.length:=by
 have h:(l.map f).flatten=((l.take k).map f).flatten++((l.drop k).map f).flatten:=by
  rw [←List.flatten_append,←List.map_append,List.take_append_drop]
 rw [h,List.length_append];omega
theorem x0K (P:Nat→Prop) (c:Cfg) (x:WdH) (w:World) (hP:∀b,w.heap.size≤b→P b) (hx:d0U P w x) (hl:x.st.length≤64) (hn:(u0E x).length≤1000000) :
 Calls Tryz.prog 118 #[.agg (wdC c x).toArray] w (a1W P w (u0E x)):=by
 obtain ⟨sA,sc,st,cA,cc,cuts,ep,over⟩:=x;unfold u0E at hn ⊢;dsimp only at hn hl ⊢;have HV:=jH (show a0O 1 srC w (.slice sA st.length sc) st from hx.sr.1);have HI:=jH (show ∀s∈st,b0D P w (.slice s.A s.l.length s.c) s.l from hx.it);have HP:=jH hP;have HN:=jH (fun k=>Nat.le_trans (k1L (·.l) st k) hn);obtain ⟨L,hL⟩:∃L,L=(st.map (·.l)).flatten:=⟨_,rfl⟩;rw [←hL];have HL:=jH hL;clear hL;clear hx hP hn
 unfold wdC;dsimp only
 go_enter Tryz.func118,Tryz.ntmps118
 go_wp2_with fail
 refine a0I ?_;intro W hW;have HX0:=jH (show W.heap[w.heap.size]?=some (.cells #[.int .i64 c.st,.int .i64 c.sa,.int .i64 c.lo,.int .i64 c.hi,.slice sA st.length sc,.slice cA cuts.length cc,.int .i64 ep,.bool over] 32 (0,0)) by rw [hW];exact heap_alloc_new _ _);have HB0:=jH (show jB w W by rw [hW];exact a0C jR _);clear hW;go_wp2
 go_loopg [3,4] st.length (fun g s3 s4 wr=>∃k:Nat,k≤st.length∧st.length - k≤g∧s4=.int .i64 k∧b0Q itC 178 12 W.heap.size wr s3 ((st.take k).map (·.l)).flatten∧jB W wr)
 case atStart=>exact ⟨0,Nat.zero_le _,Nat.le_refl _,rfl,by rw [List.take_zero];exact b0Q.nil _ _,jR⟩
 case round =>
  obtain ⟨k,hk,hg,rfl,hown,hb⟩:=hrel;obtain ⟨A3,c3,rfl⟩:=hown.form;have HO:=jH hown;have HB:=jH hb;obtain ⟨a1,a2,a3,a4⟩:=b0F hb HX0.out;clear hown a4
  by_cases hlt:k<st.length
  · have z1:(k:Int)<(st.length:Int):=by omega
    have z2:(0:Int)≤(k:Int):=by omega
    have hbb:=a0D HB0.out hb;obtain ⟨b,o,rfl,hbw,hc⟩:=HV.out.at_ hlt;have c1:wr.cell? ⟨b,o+k,none⟩=some (.slice st[k].A st[k].l.length st[k].c):=by
     have:=(hbb.cell (p:=⟨b,o+k * 1+0,none⟩) hbw).trans (hc 0 _ rfl)
     simpa using this
    have HT:=jH (show ((st.take (k+1)).map (·.l)).flatten=((st.take k).map (·.l)).flatten++st[k].l by
     rw [List.take_succ_eq_append_getElem hlt,List.map_append,List.flatten_append];simp)
    have HIK:=jH ((HI.out _ (List.getElem_mem hlt)).1.1.below hbb);have HNK:=jH (HN.out (k+1));rw [HT.out,List.length_append] at HNK;clear hc hbb;generalize st[k]=y at c1 HT HIK HNK;generalize ((st.take k).map (·.l)).flatten=pre at HO HT HNK
    go_wp2_with (at_builtin;refine a0N eIt (by rfl) (by rfl) W.heap.size pre y.l _ _ (by rfl) (by rfl) HO.out HIK.out (by have:=HNK.out;omega) (by have:=HB.out.size;omega) ?_;intro out2 A2 c2' w2 hout2 hown2 hg2 _
                 have hb2:jB W w2:=HB.out.trans (a0Z hg2 HO.out (by have:=HB.out.size;omega));have HW2:=jH hown2;have HO2:=jH hout2;clear hown2 hout2 hg2)
    go_roundg (st.length - (k+1))
    case measure=>omega
    case rel=>exact ⟨k+1,hlt,Nat.le_refl _,by go_num,by rw [HT.out,←HO2.out];exact HW2.out,hb2⟩
  · obtain rfl:k=st.length:=by omega
    have e9:((st.take st.length).map (·.l)).flatten=L:=by rw [List.take_length];exact HL.out.symm
    rw [e9] at HO ⊢;clear e9;have z1:¬(st.length:Int)<(st.length:Int):=by omega
    have HF:=jH (show a1W P w L (.returned (.slice A3 L.length c3)) wr from
     ⟨A3,c3,rfl,⟨(e0U.own eIt HO.out).imp (fun b hb'=>HP.out b (Nat.le_trans HB0.out.size hb')),fun z hz=>by
      rw [HL.out] at hz;obtain ⟨q,hq,hz2⟩:=List.mem_flatten.1 hz;obtain ⟨s,hs,rfl⟩:=List.mem_map.1 hq;exact ((HI.out s hs).2 z hz2).below (a0D HB0.out HB.out)⟩,a0D HB0.out HB.out⟩)
    go_wp2
    go_ret
    exact HF.out
def h0L (l:List It) (k:Ky):Option It:=l.find? fun x=>decide (x.key=k)
theorem n0F (l m:List It) (k:Ky):h0L (l++m) k=(h0L l k).or (h0L m k):=List.find?_append ..
theorem w0O (l:List It) (k:Ky):(h0L l k).map (·.nd)=b0O (l.map c0X) k:=by
 unfold h0L b0O;rw [List.find?_map,Option.map_map];rfl
theorem s0D (v:Value) (l:List It) (k:Ky) (w:World) (hv:a0O 12 itC w v l) (hl:l.length≤1000000) (hok:∀x∈l,x.key.ok) (hk:k.ok) :
 Calls Tryz.prog 120 #[v,.agg #[.int .u64 k.1,.int .u64 k.2]] w (jP w (.tuple #[.agg (d0X ((h0L l k).getD it0)).toArray,.bool (h0L l k).isSome])):=by
 obtain ⟨A,c,rfl⟩:=hv.form;have HV:=jH hv;have HOK:=jH hok;clear hv hok
 go_enter Tryz.func120,Tryz.ntmps120
 go_wp2_with fail
 refine a0I ?_;intro W hW;obtain ⟨k0,k1,hs,hb0⟩:=c0Y w _ _ W hW;have HK0:=jH k0;have HK1:=jH k1;have HB0:=jH hb0;clear hW k0 k1 hs hb0;go_wp2
 go_loopg [6] l.length (fun g s6 wr=>∃i:Nat,i≤l.length∧l.length - i≤g∧s6=.int .i64 i∧Hid (h0L (l.take i) k=none)∧jB W wr)
 case atStart=>exact ⟨0,Nat.zero_le _,Nat.le_refl _,rfl,jH rfl,jR⟩
 case round =>
  obtain ⟨i,hi,hg,rfl,HNO,hb⟩:=hrel;rename World=>wr
  have HB:=jH hb;have HBB:=jH (a0D HB0.out hb);obtain ⟨a1,a2,a3,a4⟩:=b0F hb HK0.out;have HR4:=jH (jK hb HK1.out);obtain ⟨b1,b2,b3⟩:=a0A jR HR4.out;clear hb a4
  by_cases hlt:i<l.length
  · have z1:(i:Int)<(l.length:Int):=by omega
    have z2:(0:Int)≤(i:Int):=by omega
    obtain ⟨b,o,rfl,hbw,hc⟩:=HV.out.at_ hlt;have HDR:=jH (show l=l.take i++l[i]::l.drop (i+1) by rw [List.getElem_cons_drop hlt,List.take_append_drop]);have HXE:=jH (show ∀q,h0L [l[i]] q=if decide (l[i].key=q)=true then some l[i] else none from fun q=>by unfold h0L;rw [List.find?_cons];cases decide (l[i].key=q) <;> rfl);have hyok:=HOK.out _ (List.getElem_mem hlt);have HC:=jH (show ∀j u,(itC l[i])[j]?=some u→w.cell? ⟨b,o+i * 12+j,none⟩=some u from hc)
    have HTK:=jH (List.take_succ_eq_append_getElem hlt);generalize l[i]=x at HC HDR HXE hyok HTK;have c0:wr.cell? ⟨b,o+i * 12,none⟩=some (.int .u64 x.key.1):=(HBB.out.cell (p:=⟨b,_,none⟩) hbw).trans (HC.out 0 _ rfl);have c1:wr.cell? ⟨b,o+i * 12+1,none⟩=some (.int .u64 x.key.2):=(HBB.out.cell (p:=⟨b,_,none⟩) hbw).trans (HC.out 1 _ rfl);have HNXT:=jH (show ¬x.key=k→h0L (l.take (i+1)) k=none from fun hne=>by
     rw [HTK.out,n0F,HNO.out,HXE.out,if_neg (by simpa using hne)];rfl)
    clear hc
    by_cases hkk:x.key=k
    · have HKE:=jH hkk
      have e1:x.key.1=k.1:=by rw [hkk]
      have e2:x.key.2=k.2:=by rw [hkk]
      rw [e1] at c0;rw [e2] at c1;clear hkk e1 e2;have HFX:=jH (show h0L l k=some x by
       have h9:=HNO.out;rw [HDR.out,n0F,h9,Option.none_or];unfold h0L;rw [List.find?_cons,decide_eq_true HKE.out])
      go_wp2_with fail
      go_quiet (fail)
      refine a0T ?_;intro W3 hW3;have hh3:W3.heap=wr.heap:=by rw [hW3];rfl
      have hb3:jB w W3:=by rw [hW3];first|exact HBB.out|exact HBB.out.drew|exact a0F HBB.out _
      have HR3:=jH ((show W3.heap[w.heap.size+1]?=wr.heap[w.heap.size+1]? by rw [hh3]).trans HR4.out);clear hW3 hh3 b1 b2 b3 c0 c1 a1 a2 a3;obtain ⟨b1,b2,b3⟩:=a0A jR HR3.out;have q0:W3.cell? ⟨b,o+i * 12+2,none⟩=some (.slice x.sA x.nd.smp.length x.sc):=(hb3.cell (p:=⟨b,_,none⟩) hbw).trans (HC.out 2 _ rfl);have q1:W3.cell? ⟨b,o+i * 12+3,none⟩=some (.slice x.pA x.nd.past.length x.pc):=(hb3.cell (p:=⟨b,_,none⟩) hbw).trans (HC.out 3 _ rfl)
      have q2:W3.cell? ⟨b,o+i * 12+4,none⟩=some (.int .i64 x.nd.pol.mn):=(hb3.cell (p:=⟨b,_,none⟩) hbw).trans (HC.out 4 _ rfl);have q3:W3.cell? ⟨b,o+i * 12+5,none⟩=some (.int .i64 x.nd.pol.mx):=(hb3.cell (p:=⟨b,_,none⟩) hbw).trans (HC.out 5 _ rfl);have q4:W3.cell? ⟨b,o+i * 12+6,none⟩=some (.int .i64 x.nd.pol.tg):=(hb3.cell (p:=⟨b,_,none⟩) hbw).trans (HC.out 6 _ rfl);have q5:W3.cell? ⟨b,o+i * 12+7,none⟩=some (.int .i64 x.nd.pol.tol):=(hb3.cell (p:=⟨b,_,none⟩) hbw).trans (HC.out 7 _ rfl)
      have q6:W3.cell? ⟨b,o+i * 12+8,none⟩=some (.int .i64 x.nd.pol.win):=(hb3.cell (p:=⟨b,_,none⟩) hbw).trans (HC.out 8 _ rfl);have q7:W3.cell? ⟨b,o+i * 12+9,none⟩=some (.int .i64 x.nd.pol.hold):=(hb3.cell (p:=⟨b,_,none⟩) hbw).trans (HC.out 9 _ rfl);have q8:W3.cell? ⟨b,o+i * 12+10,none⟩=some (.bool x.nd.ruled):=(hb3.cell (p:=⟨b,_,none⟩) hbw).trans (HC.out 10 _ rfl);have q9:W3.cell? ⟨b,o+i * 12+11,none⟩=some (.int .i64 (x.nd.ver:Nat)):=(hb3.cell (p:=⟨b,_,none⟩) hbw).trans (HC.out 11 _ rfl)
      go_wp2
      refine a0H ?_;intro W4 hW4;obtain ⟨h4,h5,h6,h7⟩:=t0G HR3.out _ _ _ _ _ _ _ _ _ _ W4 hW4;obtain ⟨d1,d2,d3⟩:=a0A jR h4;have hb4:=hb3.trans (h7 w.heap.size (by omega));clear hW4;exact bodyPost_ret (v:=.tuple #[.agg #[.slice x.sA x.nd.smp.length x.sc,.slice x.pA x.nd.past.length x.pc,.int .i64 x.nd.pol.mn,.int .i64 x.nd.pol.mx,.int .i64 x.nd.pol.tg,.int .i64 x.nd.pol.tol,.int .i64 x.nd.pol.win,.int .i64 x.nd.pol.hold,.bool x.nd.ruled,.int .i64 (x.nd.ver:Nat)],.bool true]) (by simp [results,Tryz.results120,go_sem,d1]) rfl ⟨by rw [HFX.out];rfl,hb4⟩
    · by_cases h1:x.key.1=k.1
      · have hh:((x.key.2:Int) == (k.2:Int))=false:=by
         have:x.key.2≠k.2:=fun h2=>hkk (Prod.ext h1 h2)
         simp;omega
        have HNX:=jH (HNXT.out hkk);rw [h1] at c0;clear hkk h1 HNXT;go_wp2_with fail
        go_quiet (fail)
        go_wp2
        go_roundg (l.length - (i+1))
        case measure=>omega
        case rel=>exact ⟨i+1,hlt,Nat.le_refl _,by go_num,HNX,by repeat (first|exact HB.out|refine a0F ?_ _|refine Below.drew ?_)⟩
      · have hh:((x.key.1:Int) == (k.1:Int))=false:=by simp;omega
        have HNX:=jH (HNXT.out hkk);clear hkk h1 HNXT;go_wp2_with fail
        go_quiet (fail)
        go_wp2
        go_roundg (l.length - (i+1))
        case measure=>omega
        case rel=>exact ⟨i+1,hlt,Nat.le_refl _,by go_num,HNX,by repeat (first|exact HB.out|refine a0F ?_ _|refine Below.drew ?_)⟩
  · obtain rfl:i=l.length:=by omega
    rw [List.take_length] at HNO;have z1:¬(l.length:Int)<(l.length:Int):=by omega
    go_wp2
    refine a0H ?_;intro W4 hW4;obtain ⟨h4,h5,h6,h7⟩:=t0G HR4.out _ _ _ _ _ _ _ _ _ _ W4 hW4;obtain ⟨d1,d2,d3⟩:=a0A jR h4;have hb4:=HBB.out.trans (h7 w.heap.size (by omega));clear hW4;exact bodyPost_ret (v:=.tuple #[.agg #[.slice none 0 0,.slice none 0 0,.int .i64 0,.int .i64 0,.int .i64 0,.int .i64 0,.int .i64 0,.int .i64 0,.bool false,.int .i64 0],.bool false]) (by simp [results,Tryz.results120,go_sem,d1]) rfl ⟨by rw [HNO.out];rfl,hb4⟩
end
end Go.Proofs.YtmniiodpbebnmaaGreat
