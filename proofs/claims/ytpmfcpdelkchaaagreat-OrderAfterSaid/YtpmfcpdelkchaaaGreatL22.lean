/- Part 22 of the proof: DecOf. -/
import Derived.Test.YtpmfcpdelkchaaaGreatL13
import Derived.Test.YtpmfcpdelkchaaaGreatL16
namespace Go.Proofs.YtpmfcpdelkchaaaGreat
set_option linter.unusedSimpArgs false
set_option linter.unusedVariables false
set_option linter.unusedSectionVars false
set_option maxRecDepth 100000
set_option maxHeartbeats 16000000
section
open Go.RowKit Go.Lib
theorem latF_i64 {l:List Smp} (h:smpI l):∀b,I64 b→I64 (latF l b):=by
 induction l with
 | nil=>exact fun b hb=>hb
 | cons x l ih =>
   intro b hb;have hx:=(h x (List.mem_cons_self ..)).1;exact ih (fun s hs=>h s (List.mem_cons_of_mem _ hs)) (max b x.1) (by unfold I64 at *;omega)
theorem latestI_ok {l:List Smp} (hne:l≠[]) (h:smpI l):I64 (latestI l):=by
 cases l with
 | nil=>exact absurd rfl hne
 | cons s l=>exact latF_i64 (fun x hx=>h x (List.mem_cons_of_mem _ hx)) s.1 (h s (List.mem_cons_self ..)).1
theorem decLate_none (A:Option Addr) (c:Nat) (w:World) :
 Calls Tryz.prog 194 #[.slice A 0 c] w (jP w (.tuple #[.int .i64 0,.bool false])):=by
 go_enter Tryz.func194,Tryz.ntmps194
 go_wp2
 exact bodyPost_ret (v:=.tuple #[.int .i64 0,.bool false]) (by simp [results,Tryz.results194,go_sem]) rfl ⟨rfl,by repeat (first|exact jR|refine balloc ?_ _)⟩
theorem decOf_any (p:Pol) (l:List Smp) (past:List Adv) (vs vp:Value) (w:World) (hs:RowIn 2 smpC w vs l) (hp:RowIn 5 advC w vp past) (hl:l.length≤1000000) (hl2:past.length≤1000000) (hi:smpI l) (ho:p.ok) :
 Calls Tryz.prog 141 #[polV p,vs,vp] w (jP w (.tuple #[.agg (advC (decI p l past).1).toArray,.int .i64 (decI p l past).2])):=by
 obtain ⟨A,c,rfl⟩:=hs.form;obtain ⟨A2,c2,rfl⟩:=hp.form
 cases hpb:polB p
 · have HC:=jH (policyCheck_any p)
   have HE:=jH (show polE p=7 by unfold polE;rw [hpb];rfl);have HD:=jH (show decI p l past=(adv0,7) by unfold decI;rw [if_pos hpb]);rw [HD.out];clear hpb HD hs hp hi ho hl hl2;unfold polV;unfold polV at HC
   go_enter Tryz.func141,Tryz.ntmps141
   go_wp2_with (first
   | (go_at_call 167
      refine calls_named ?_;intro W1 hW1;have hb1:jB w W1:=by rw [hW1];exact balloc (balloc jR _) _
      have hx1:W1.heap[w.heap.size]?=some (.cells #[.int .i64 p.mn,.int .i64 p.mx,.int .i64 p.tg,.int .i64 p.tol,.int .i64 p.win,.int .i64 p.hold] 46 (0,0)):=by rw [hW1];exact box_old _ _ _
      have hy1:W1.heap[w.heap.size+1]?=some (.cells #[.int .i64 0,.int .i64 0,.int .i64 0,.int .i64 0,.int .i64 0] 74 (0,0)):=by rw [hW1];exact box_new _ _ _
      clear hW1;refine (HC.out W1).mono ?_;rw [HE.out];rintro e w2 ⟨rfl,hb2⟩;have HB2:=jH (bthen hb1 hb2);obtain ⟨hx2,R0⟩:=box_rule hx1 hb2;obtain ⟨hy2,R1⟩:=box_rule hy1 hb2;have HY2:=jH hy2;have rc0:∀U,jB w2 U→U.cell? ⟨w.heap.size,0,none⟩=some (.int .i64 p.mn):=fun U hU=>R0 U 0 hU
      have rc1:∀U,jB w2 U→U.cell? ⟨w.heap.size,1,none⟩=some (.int .i64 p.mx):=fun U hU=>R0 U 1 hU
      have rc2:∀U,jB w2 U→U.cell? ⟨w.heap.size,2,none⟩=some (.int .i64 p.tg):=fun U hU=>R0 U 2 hU
      have rc3:∀U,jB w2 U→U.cell? ⟨w.heap.size,3,none⟩=some (.int .i64 p.tol):=fun U hU=>R0 U 3 hU
      have rc4:∀U,jB w2 U→U.cell? ⟨w.heap.size,4,none⟩=some (.int .i64 p.win):=fun U hU=>R0 U 4 hU
      have rc5:∀U,jB w2 U→U.cell? ⟨w.heap.size,5,none⟩=some (.int .i64 p.hold):=fun U hU=>R0 U 5 hU
      have rr0:∀U,jB w2 U→U.cell? ⟨w.heap.size+1,0,none⟩=some (.int .i64 0):=fun U hU=>R1 U 0 hU
      have rr1:∀U,jB w2 U→U.cell? ⟨w.heap.size+1,1,none⟩=some (.int .i64 0):=fun U hU=>R1 U 1 hU
      have rr2:∀U,jB w2 U→U.cell? ⟨w.heap.size+1,2,none⟩=some (.int .i64 0):=fun U hU=>R1 U 2 hU
      have rr3:∀U,jB w2 U→U.cell? ⟨w.heap.size+1,3,none⟩=some (.int .i64 0):=fun U hU=>R1 U 3 hU
      have rr4:∀U,jB w2 U→U.cell? ⟨w.heap.size+1,4,none⟩=some (.int .i64 0):=fun U hU=>R1 U 4 hU
      have rf:∀U j,jB w2 U→U.frozen? ⟨w.heap.size+1,j,none⟩=false:=fun U j hU=>(box_cells hU HY2.out).2.1 j
      clear hb1 hb2 hx1 hx2 hy1 hy2 R0 R1))
   have HBE:=jH HB2.out;refine post_named ?_;intro W9 hW9;have hW9':W9=stor w2 (w.heap.size+1) 0 [.int .i64 0,.int .i64 0,.int .i64 0,.int .i64 0,.int .i64 0]:=hW9;obtain ⟨s1,s2,s3,s4⟩:=stor_at (HY2.out) [.int .i64 0,.int .i64 0,.int .i64 0,.int .i64 0,.int .i64 0] rfl W9 hW9';obtain ⟨a9,a8,a7⟩:=box_cells jR s1;clear hW9 hW9';exact bodyPost_ret (v:=.tuple #[.agg #[.int .i64 0,.int .i64 0,.int .i64 0,.int .i64 0,.int .i64 0],.int .i64 7]) (by simp [results,Tryz.results141,go_sem,a9]) rfl ⟨rfl,HBE.out.trans (s4 _ (Nat.le_succ _))⟩
 · have HC:=jH (policyCheck_any p)
   have HE:=jH (show polE p=0 by unfold polE;rw [hpb];rfl)
   by_cases hne:l=[]
   · subst hne
     have HD:=jH (show decI p [] past=(adv0,5) by unfold decI;rw [if_neg (by rw [hpb];simp),if_pos rfl]);rw [HD.out];have CL:=jH (fun (W:World) (hW:jB w W)=>show Calls Tryz.prog 194 #[.slice A ([]:List Smp).length c] W (jP W (.tuple #[.int .i64 0,.bool false])) from decLate_none A c W);clear hpb HD hs hp hi ho hl hl2;unfold polV;unfold polV at HC
     go_enter Tryz.func141,Tryz.ntmps141
     go_wp2_with (first
     | (go_at_call 167
        refine calls_named ?_;intro W1 hW1;have hb1:jB w W1:=by rw [hW1];exact balloc (balloc jR _) _
        have hx1:W1.heap[w.heap.size]?=some (.cells #[.int .i64 p.mn,.int .i64 p.mx,.int .i64 p.tg,.int .i64 p.tol,.int .i64 p.win,.int .i64 p.hold] 46 (0,0)):=by rw [hW1];exact box_old _ _ _
        have hy1:W1.heap[w.heap.size+1]?=some (.cells #[.int .i64 0,.int .i64 0,.int .i64 0,.int .i64 0,.int .i64 0] 74 (0,0)):=by rw [hW1];exact box_new _ _ _
        clear hW1;refine (HC.out W1).mono ?_;rw [HE.out];rintro e w2 ⟨rfl,hb2⟩;have HB2:=jH (bthen hb1 hb2);obtain ⟨hx2,R0⟩:=box_rule hx1 hb2;obtain ⟨hy2,R1⟩:=box_rule hy1 hb2;have HY2:=jH hy2;have rc0:∀U,jB w2 U→U.cell? ⟨w.heap.size,0,none⟩=some (.int .i64 p.mn):=fun U hU=>R0 U 0 hU
        have rc1:∀U,jB w2 U→U.cell? ⟨w.heap.size,1,none⟩=some (.int .i64 p.mx):=fun U hU=>R0 U 1 hU
        have rc2:∀U,jB w2 U→U.cell? ⟨w.heap.size,2,none⟩=some (.int .i64 p.tg):=fun U hU=>R0 U 2 hU
        have rc3:∀U,jB w2 U→U.cell? ⟨w.heap.size,3,none⟩=some (.int .i64 p.tol):=fun U hU=>R0 U 3 hU
        have rc4:∀U,jB w2 U→U.cell? ⟨w.heap.size,4,none⟩=some (.int .i64 p.win):=fun U hU=>R0 U 4 hU
        have rc5:∀U,jB w2 U→U.cell? ⟨w.heap.size,5,none⟩=some (.int .i64 p.hold):=fun U hU=>R0 U 5 hU
        have rr0:∀U,jB w2 U→U.cell? ⟨w.heap.size+1,0,none⟩=some (.int .i64 0):=fun U hU=>R1 U 0 hU
        have rr1:∀U,jB w2 U→U.cell? ⟨w.heap.size+1,1,none⟩=some (.int .i64 0):=fun U hU=>R1 U 1 hU
        have rr2:∀U,jB w2 U→U.cell? ⟨w.heap.size+1,2,none⟩=some (.int .i64 0):=fun U hU=>R1 U 2 hU
        have rr3:∀U,jB w2 U→U.cell? ⟨w.heap.size+1,3,none⟩=some (.int .i64 0):=fun U hU=>R1 U 3 hU
        have rr4:∀U,jB w2 U→U.cell? ⟨w.heap.size+1,4,none⟩=some (.int .i64 0):=fun U hU=>R1 U 4 hU
        have rf:∀U j,jB w2 U→U.frozen? ⟨w.heap.size+1,j,none⟩=false:=fun U j hU=>(box_cells hU HY2.out).2.1 j
        clear hb1 hb2 hx1 hx2 hy1 hy2 R0 R1)
     | (go_at_call 194
        refine calls_named ?_;intro W3 hW3;have hq3:jB w2 W3:=by rw [hW3];first|exact jR|assumption|exact jR.drew|exact Below.drew (by assumption)
        clear hW3;refine (CL.out W3 (bthen HB2.out hq3)).mono ?_;rintro e w3 ⟨rfl,hb3⟩;have hk3:jB w2 w3:=bthen hq3 hb3;clear hb3 hq3))
     have HBE:=jH (bthen HB2.out hk3);refine post_named ?_;intro W9 hW9;have hW9':W9=stor w3 (w.heap.size+1) 0 [.int .i64 0,.int .i64 0,.int .i64 0,.int .i64 0,.int .i64 0]:=hW9;obtain ⟨s1,s2,s3,s4⟩:=stor_at (jK hk3 HY2.out) [.int .i64 0,.int .i64 0,.int .i64 0,.int .i64 0,.int .i64 0] rfl W9 hW9';obtain ⟨a9,a8,a7⟩:=box_cells jR s1;clear hW9 hW9';exact bodyPost_ret (v:=.tuple #[.agg #[.int .i64 0,.int .i64 0,.int .i64 0,.int .i64 0,.int .i64 0],.int .i64 5]) (by simp [results,Tryz.results141,go_sem,a9]) rfl ⟨rfl,HBE.out.trans (s4 _ (Nat.le_succ _))⟩
   · have hpos:0<l.length:=List.length_pos_iff.2 hne
     obtain ⟨tick,htk⟩:∃t,t=latestI l:=⟨_,rfl⟩;have hti:I64 tick:=by rw [htk];exact latestI_ok hne hi
     have CL:=jH (fun (W:World) (hW:jB w W)=>show Calls Tryz.prog 194 #[.slice A l.length c] W (jP W (.tuple #[.int .i64 tick,.bool true])) from htk ▸ decLate_any _ l W (hs.below hW) hl hpos);obtain ⟨st,hst⟩:∃s,s=statW l tick p.win:=⟨_,rfl⟩;obtain ⟨load,hld⟩:∃x:Int,x=(meanN (valsW (winC l (fromW tick p.win) tick)):Nat):=⟨_,rfl⟩;have hmean:st.mean=load:=by rw [hst,hld];exact statW_mean l tick p.win
     have hlo:I64 load:=by rw [hld];have:=meanN_le (l:=valsW (winC l (fromW tick p.win) tick)) (fun n hn=>(vals_i64 (hi.cut _ _) n hn).2);unfold I64;omega
     have CWA:=jH (fun (W:World) (hW:jB w W)=>show Calls Tryz.prog 166 #[.slice A l.length c,.int .i64 tick,.int .i64 p.win] W (jP W (.agg #[.int .i64 st.cnt,.int .i64 st.sum,.int .i64 st.least,.int .i64 st.most,.int .i64 load])) from hmean ▸ hst ▸ winAt_any _ l tick p.win W (hs.below hW) hl hi hti ho.2.2.2.2.1);have hfd:∀W:World,(Instr.field 72 (.agg #[.int .i64 st.cnt,.int .i64 st.sum,.int .i64 st.least,.int .i64 st.most,.int .i64 load]) 4).run Tryz.prog W=.ok (.int .i64 load) W:=fun _=>by kernel_rfl
     obtain ⟨now,hnow⟩:∃x,x=nowI p past:=⟨_,rfl⟩;have CN:=jH (fun (W:World) (hW:jB w W)=>show Calls Tryz.prog 195 #[polV p,.slice A2 past.length c2] W (jP W (.int .i64 now)) from hnow ▸ decNow_any p _ past W (hp.below hW) hl2);obtain ⟨wt,hwt⟩:∃x,x=wantP p load:=⟨_,rfl⟩;obtain ⟨nr,hnr⟩:∃x,x=nearI p load now:=⟨_,rfl⟩;have CWt:=jH (fun (W:World) (hW:jB w W)=>show Calls Tryz.prog 196 #[polV p,.int .i64 load] W (jP W (.int .i64 wt)) from hwt ▸ ctlWant_any p load W hlo ho.2.2.1)
     have CNr:=jH (fun (W:World) (hW:jB w W)=>show Calls Tryz.prog 197 #[polV p,.int .i64 load,.int .i64 now] W (jP W (.bool nr)) from hnr ▸ ctlNear_any p load now W hlo ho.2.2.1);obtain ⟨op,hop⟩:∃x,x=openI p load now:=⟨_,rfl⟩;obtain ⟨want,hwa⟩:∃x,x=boundI p op:=⟨_,rfl⟩;have CRw:=jH (fun (W:World) (hW:jB w W)=>show Calls Tryz.prog 198 #[polV p,.int .i64 load,.int .i64 now] W (jP W (.int .i64 want)) from hwa ▸ hop ▸ ctlRaw_any p load now W hlo ho.2.2.1)
     obtain ⟨ns,hns⟩:∃x,x=(steadyI p tick want past).1:=⟨_,rfl⟩;obtain ⟨held,hhe⟩:∃x,x=(steadyI p tick want past).2:=⟨_,rfl⟩;obtain ⟨til,htil⟩:∃x,x=boundI p ns:=⟨_,rfl⟩;obtain ⟨wy,hwy⟩:∃x,x=whyI p held op now til:=⟨_,rfl⟩;have CSt:=jH (fun (W:World) (hW:jB w W)=>show Calls Tryz.prog 199 #[polV p,.int .i64 tick,.int .i64 want,.slice A2 past.length c2] W (jP W (.tuple #[.int .i64 ns,.bool held])) from hns ▸ hhe ▸ stead_any p tick want _ past W (hp.below hW) hl2 hti ho.2.2.2.2.2)
     have CBd:=jH (fun (W:World) (hW:jB w W)=>show Calls Tryz.prog 200 #[polV p,.int .i64 ns] W (jP W (.int .i64 til)) from htil ▸ ctlBound_any p ns W);have CWy:=jH (fun (W:World) (hW:jB w W)=>show Calls Tryz.prog 201 #[polV p,.bool held,.int .i64 op,.int .i64 now,.int .i64 til] W (jP W (.int .i64 wy)) from hwy ▸ decWhy_any p held op now til W);have HD:=jH (show decI p l past=(⟨tick,load,want,til,wy⟩,0) by
      unfold decI;rw [if_neg (by rw [hpb];simp),if_neg hne];simp only [←htk,←hld,←hnow,←hop,←hwa,←hns,←hhe,←htil,←hwy])
     rw [HD.out];have HOP:=jH (show op=if nr=true then now else wt by rw [hop,hnr,hwt];rfl);clear htk hst hld hmean hwt hnr hnow hop hwa hns hhe htil hwy HD hpb hne hpos hlo hti hs hp hi ho hl hl2;unfold polV;unfold polV at HC CN CSt CBd CWy CWt CNr CRw
     cases nr
     · have HOP2:=jH (show op=wt from HOP.out)
       rw [HOP2.out] at CWy
       as_aux_lemma =>
        go_enter Tryz.func141,Tryz.ntmps141
        go_wp2_with (first
         | (go_at_call 167
            refine calls_named ?_;intro W1 hW1;have hb1:jB w W1:=by rw [hW1];exact balloc (balloc jR _) _
            have hx1:W1.heap[w.heap.size]?=some (.cells #[.int .i64 p.mn,.int .i64 p.mx,.int .i64 p.tg,.int .i64 p.tol,.int .i64 p.win,.int .i64 p.hold] 46 (0,0)):=by rw [hW1];exact box_old _ _ _
            have hy1:W1.heap[w.heap.size+1]?=some (.cells #[.int .i64 0,.int .i64 0,.int .i64 0,.int .i64 0,.int .i64 0] 74 (0,0)):=by rw [hW1];exact box_new _ _ _
            clear hW1;refine (HC.out W1).mono ?_;rw [HE.out];rintro e w2 ⟨rfl,hb2⟩;have HB2:=jH (bthen hb1 hb2);obtain ⟨hx2,R0⟩:=box_rule hx1 hb2;obtain ⟨hy2,R1⟩:=box_rule hy1 hb2;have HY2:=jH hy2;have rc0:∀U,jB w2 U→U.cell? ⟨w.heap.size,0,none⟩=some (.int .i64 p.mn):=fun U hU=>R0 U 0 hU
            have rc1:∀U,jB w2 U→U.cell? ⟨w.heap.size,1,none⟩=some (.int .i64 p.mx):=fun U hU=>R0 U 1 hU
            have rc2:∀U,jB w2 U→U.cell? ⟨w.heap.size,2,none⟩=some (.int .i64 p.tg):=fun U hU=>R0 U 2 hU
            have rc3:∀U,jB w2 U→U.cell? ⟨w.heap.size,3,none⟩=some (.int .i64 p.tol):=fun U hU=>R0 U 3 hU
            have rc4:∀U,jB w2 U→U.cell? ⟨w.heap.size,4,none⟩=some (.int .i64 p.win):=fun U hU=>R0 U 4 hU
            have rc5:∀U,jB w2 U→U.cell? ⟨w.heap.size,5,none⟩=some (.int .i64 p.hold):=fun U hU=>R0 U 5 hU
            have rr0:∀U,jB w2 U→U.cell? ⟨w.heap.size+1,0,none⟩=some (.int .i64 0):=fun U hU=>R1 U 0 hU
            have rr1:∀U,jB w2 U→U.cell? ⟨w.heap.size+1,1,none⟩=some (.int .i64 0):=fun U hU=>R1 U 1 hU
            have rr2:∀U,jB w2 U→U.cell? ⟨w.heap.size+1,2,none⟩=some (.int .i64 0):=fun U hU=>R1 U 2 hU
            have rr3:∀U,jB w2 U→U.cell? ⟨w.heap.size+1,3,none⟩=some (.int .i64 0):=fun U hU=>R1 U 3 hU
            have rr4:∀U,jB w2 U→U.cell? ⟨w.heap.size+1,4,none⟩=some (.int .i64 0):=fun U hU=>R1 U 4 hU
            have rf:∀U j,jB w2 U→U.frozen? ⟨w.heap.size+1,j,none⟩=false:=fun U j hU=>(box_cells hU HY2.out).2.1 j
            clear hb1 hb2 hx1 hx2 hy1 hy2 R0 R1)
         | (go_at_call 194
            refine calls_named ?_;intro W3 hW3;have hq3:jB w2 W3:=by rw [hW3];first|exact jR|assumption|exact jR.drew|exact Below.drew (by assumption)
            clear hW3;refine (CL.out W3 (bthen HB2.out hq3)).mono ?_;rintro e w3 ⟨rfl,hb3⟩;have hk3:jB w2 w3:=bthen hq3 hb3;clear hb3 hq3))
        have hS00:jB w2 w3:=hk3;have hS0:jB w2 w3.drew:=hk3.drew
        go_region_held3 (fun U=>jB w2 U)
          (first
            | with_reducible exact hS0
            | with_reducible exact hk4
            | with_reducible exact hk5
            | with_reducible exact hS00)
          (first
          | (go_at_call 166
             refine calls_named ?_;intro W4 hW4;have hq4:jB w2 W4:=by rw [hW4];first|exact jR|assumption|exact jR.drew|exact Below.drew (by assumption)
             clear hW4;refine (CWA.out W4 (bthen HB2.out hq4)).mono ?_;rintro e w4 ⟨rfl,hb4⟩;have hk4:jB w2 w4:=bthen hq4 hb4;clear hb4 hq4)
          | (go_at_call 195
             refine calls_named ?_;intro W5 hW5;have hq5:jB w2 W5:=by rw [hW5];first|exact jR|assumption|exact jR.drew|exact Below.drew (by assumption)
             clear hW5;refine (CN.out W5 (bthen HB2.out hq5)).mono ?_;rintro e w5 ⟨rfl,hb5⟩;have hk5:jB w2 w5:=bthen hq5 hb5;clear hb5 hq5))
        all_goals
          refine then_named ?_;intro W6 hW6;have hk6:jB w2 W6:=by rw [hW6];first|exact hk4|exact hk5|exact hk4.drew|exact hk5.drew|exact below_drewN hk4 _|exact below_drewN hk5 _
          clear hW6;clear hS00 hS0
          go_wp2_with (first
           | (go_at_call 196
              refine calls_named ?_;intro W7 hW7;have hq7:jB w2 W7:=by rw [hW7];first|exact jR|assumption|exact jR.drew|exact Below.drew (by assumption)
              clear hW7;refine (CWt.out W7 (bthen HB2.out hq7)).mono ?_;rintro e w7 ⟨rfl,hb7⟩;have hk7:jB w2 w7:=bthen hq7 hb7;clear hb7 hq7)
           | (go_at_call 197
              refine calls_named ?_;intro W8 hW8;have hq8:jB w2 W8:=by rw [hW8];first|exact jR|assumption|exact jR.drew|exact Below.drew (by assumption)
              clear hW8;refine (CNr.out W8 (bthen HB2.out hq8)).mono ?_;rintro e w8 ⟨rfl,hb8⟩;have hk8:jB w2 w8:=bthen hq8 hb8;clear hb8 hq8)
           | (go_at_call 198
              refine calls_named ?_;intro W9 hW9;have hq9:jB w2 W9:=by rw [hW9];first|exact jR|assumption|exact jR.drew|exact Below.drew (by assumption)
              clear hW9;refine (CRw.out W9 (bthen HB2.out hq9)).mono ?_;rintro e w9 ⟨rfl,hb9⟩;have hk9:jB w2 w9:=bthen hq9 hb9;clear hb9 hq9)
           | (go_at_call 199
              refine calls_named ?_;intro W10 hW10;have hq10:jB w2 W10:=by rw [hW10];first|exact jR|assumption|exact jR.drew|exact Below.drew (by assumption)
              clear hW10;refine (CSt.out W10 (bthen HB2.out hq10)).mono ?_;rintro e w10 ⟨rfl,hb10⟩;have hk10:jB w2 w10:=bthen hq10 hb10;clear hb10 hq10)
           | (go_at_call 200
              refine calls_named ?_;intro W11 hW11;have hq11:jB w2 W11:=by rw [hW11];first|exact jR|assumption|exact jR.drew|exact Below.drew (by assumption)
              clear hW11;refine (CBd.out W11 (bthen HB2.out hq11)).mono ?_;rintro e w11 ⟨rfl,hb11⟩;have hk11:jB w2 w11:=bthen hq11 hb11;clear hb11 hq11)
           | (go_at_call 201
              refine calls_named ?_;intro W12 hW12;have hq12:jB w2 W12:=by rw [hW12];first|exact jR|assumption|exact jR.drew|exact Below.drew (by assumption)
              clear hW12;refine (CWy.out W12 (bthen HB2.out hq12)).mono ?_;rintro e w12 ⟨rfl,hb12⟩;have hk12:jB w2 w12:=bthen hq12 hb12;clear hb12 hq12))
          have HBE:=jH (bthen HB2.out hk12);refine post_named ?_;intro W9 hW9;have hW9':W9=stor w12 (w.heap.size+1) 0 [.int .i64 tick,.int .i64 load,.int .i64 want,.int .i64 til,.int .i64 wy]:=hW9;obtain ⟨s1,s2,s3,s4⟩:=stor_at (jK hk12 HY2.out) [.int .i64 tick,.int .i64 load,.int .i64 want,.int .i64 til,.int .i64 wy] rfl W9 hW9';obtain ⟨a9,a8,a7⟩:=box_cells jR s1;clear hW9 hW9';exact bodyPost_ret (v:=.tuple #[.agg #[.int .i64 tick,.int .i64 load,.int .i64 want,.int .i64 til,.int .i64 wy],.int .i64 0]) (by simp [results,Tryz.results141,go_sem,a9]) rfl ⟨rfl,HBE.out.trans (s4 _ (Nat.le_succ _))⟩
     · have HOP2:=jH (show op=now from HOP.out)
       rw [HOP2.out] at CWy
       as_aux_lemma =>
        go_enter Tryz.func141,Tryz.ntmps141
        go_wp2_with (first
         | (go_at_call 167
            refine calls_named ?_;intro W1 hW1;have hb1:jB w W1:=by rw [hW1];exact balloc (balloc jR _) _
            have hx1:W1.heap[w.heap.size]?=some (.cells #[.int .i64 p.mn,.int .i64 p.mx,.int .i64 p.tg,.int .i64 p.tol,.int .i64 p.win,.int .i64 p.hold] 46 (0,0)):=by rw [hW1];exact box_old _ _ _
            have hy1:W1.heap[w.heap.size+1]?=some (.cells #[.int .i64 0,.int .i64 0,.int .i64 0,.int .i64 0,.int .i64 0] 74 (0,0)):=by rw [hW1];exact box_new _ _ _
            clear hW1;refine (HC.out W1).mono ?_;rw [HE.out];rintro e w2 ⟨rfl,hb2⟩;have HB2:=jH (bthen hb1 hb2);obtain ⟨hx2,R0⟩:=box_rule hx1 hb2;obtain ⟨hy2,R1⟩:=box_rule hy1 hb2;have HY2:=jH hy2;have rc0:∀U,jB w2 U→U.cell? ⟨w.heap.size,0,none⟩=some (.int .i64 p.mn):=fun U hU=>R0 U 0 hU
            have rc1:∀U,jB w2 U→U.cell? ⟨w.heap.size,1,none⟩=some (.int .i64 p.mx):=fun U hU=>R0 U 1 hU
            have rc2:∀U,jB w2 U→U.cell? ⟨w.heap.size,2,none⟩=some (.int .i64 p.tg):=fun U hU=>R0 U 2 hU
            have rc3:∀U,jB w2 U→U.cell? ⟨w.heap.size,3,none⟩=some (.int .i64 p.tol):=fun U hU=>R0 U 3 hU
            have rc4:∀U,jB w2 U→U.cell? ⟨w.heap.size,4,none⟩=some (.int .i64 p.win):=fun U hU=>R0 U 4 hU
            have rc5:∀U,jB w2 U→U.cell? ⟨w.heap.size,5,none⟩=some (.int .i64 p.hold):=fun U hU=>R0 U 5 hU
            have rr0:∀U,jB w2 U→U.cell? ⟨w.heap.size+1,0,none⟩=some (.int .i64 0):=fun U hU=>R1 U 0 hU
            have rr1:∀U,jB w2 U→U.cell? ⟨w.heap.size+1,1,none⟩=some (.int .i64 0):=fun U hU=>R1 U 1 hU
            have rr2:∀U,jB w2 U→U.cell? ⟨w.heap.size+1,2,none⟩=some (.int .i64 0):=fun U hU=>R1 U 2 hU
            have rr3:∀U,jB w2 U→U.cell? ⟨w.heap.size+1,3,none⟩=some (.int .i64 0):=fun U hU=>R1 U 3 hU
            have rr4:∀U,jB w2 U→U.cell? ⟨w.heap.size+1,4,none⟩=some (.int .i64 0):=fun U hU=>R1 U 4 hU
            have rf:∀U j,jB w2 U→U.frozen? ⟨w.heap.size+1,j,none⟩=false:=fun U j hU=>(box_cells hU HY2.out).2.1 j
            clear hb1 hb2 hx1 hx2 hy1 hy2 R0 R1)
         | (go_at_call 194
            refine calls_named ?_;intro W3 hW3;have hq3:jB w2 W3:=by rw [hW3];first|exact jR|assumption|exact jR.drew|exact Below.drew (by assumption)
            clear hW3;refine (CL.out W3 (bthen HB2.out hq3)).mono ?_;rintro e w3 ⟨rfl,hb3⟩;have hk3:jB w2 w3:=bthen hq3 hb3;clear hb3 hq3))
        have hS00:jB w2 w3:=hk3;have hS0:jB w2 w3.drew:=hk3.drew
        go_region_held3 (fun U=>jB w2 U)
          (first
            | with_reducible exact hS0
            | with_reducible exact hk4
            | with_reducible exact hk5
            | with_reducible exact hS00)
          (first
          | (go_at_call 166
             refine calls_named ?_;intro W4 hW4;have hq4:jB w2 W4:=by rw [hW4];first|exact jR|assumption|exact jR.drew|exact Below.drew (by assumption)
             clear hW4;refine (CWA.out W4 (bthen HB2.out hq4)).mono ?_;rintro e w4 ⟨rfl,hb4⟩;have hk4:jB w2 w4:=bthen hq4 hb4;clear hb4 hq4)
          | (go_at_call 195
             refine calls_named ?_;intro W5 hW5;have hq5:jB w2 W5:=by rw [hW5];first|exact jR|assumption|exact jR.drew|exact Below.drew (by assumption)
             clear hW5;refine (CN.out W5 (bthen HB2.out hq5)).mono ?_;rintro e w5 ⟨rfl,hb5⟩;have hk5:jB w2 w5:=bthen hq5 hb5;clear hb5 hq5))
        all_goals
          refine then_named ?_;intro W6 hW6;have hk6:jB w2 W6:=by rw [hW6];first|exact hk4|exact hk5|exact hk4.drew|exact hk5.drew|exact below_drewN hk4 _|exact below_drewN hk5 _
          clear hW6;clear hS00 hS0
          go_wp2_with (first
           | (go_at_call 196
              refine calls_named ?_;intro W7 hW7;have hq7:jB w2 W7:=by rw [hW7];first|exact jR|assumption|exact jR.drew|exact Below.drew (by assumption)
              clear hW7;refine (CWt.out W7 (bthen HB2.out hq7)).mono ?_;rintro e w7 ⟨rfl,hb7⟩;have hk7:jB w2 w7:=bthen hq7 hb7;clear hb7 hq7)
           | (go_at_call 197
              refine calls_named ?_;intro W8 hW8;have hq8:jB w2 W8:=by rw [hW8];first|exact jR|assumption|exact jR.drew|exact Below.drew (by assumption)
              clear hW8;refine (CNr.out W8 (bthen HB2.out hq8)).mono ?_;rintro e w8 ⟨rfl,hb8⟩;have hk8:jB w2 w8:=bthen hq8 hb8;clear hb8 hq8)
           | (go_at_call 198
              refine calls_named ?_;intro W9 hW9;have hq9:jB w2 W9:=by rw [hW9];first|exact jR|assumption|exact jR.drew|exact Below.drew (by assumption)
              clear hW9;refine (CRw.out W9 (bthen HB2.out hq9)).mono ?_;rintro e w9 ⟨rfl,hb9⟩;have hk9:jB w2 w9:=bthen hq9 hb9;clear hb9 hq9)
           | (go_at_call 199
              refine calls_named ?_;intro W10 hW10;have hq10:jB w2 W10:=by rw [hW10];first|exact jR|assumption|exact jR.drew|exact Below.drew (by assumption)
              clear hW10;refine (CSt.out W10 (bthen HB2.out hq10)).mono ?_;rintro e w10 ⟨rfl,hb10⟩;have hk10:jB w2 w10:=bthen hq10 hb10;clear hb10 hq10)
           | (go_at_call 200
              refine calls_named ?_;intro W11 hW11;have hq11:jB w2 W11:=by rw [hW11];first|exact jR|assumption|exact jR.drew|exact Below.drew (by assumption)
              clear hW11;refine (CBd.out W11 (bthen HB2.out hq11)).mono ?_;rintro e w11 ⟨rfl,hb11⟩;have hk11:jB w2 w11:=bthen hq11 hb11;clear hb11 hq11)
           | (go_at_call 201
              refine calls_named ?_;intro W12 hW12;have hq12:jB w2 W12:=by rw [hW12];first|exact jR|assumption|exact jR.drew|exact Below.drew (by assumption)
              clear hW12;refine (CWy.out W12 (bthen HB2.out hq12)).mono ?_;rintro e w12 ⟨rfl,hb12⟩;have hk12:jB w2 w12:=bthen hq12 hb12;clear hb12 hq12))
          have HBE:=jH (bthen HB2.out hk12);refine post_named ?_;intro W9 hW9;have hW9':W9=stor w12 (w.heap.size+1) 0 [.int .i64 tick,.int .i64 load,.int .i64 want,.int .i64 til,.int .i64 wy]:=hW9;obtain ⟨s1,s2,s3,s4⟩:=stor_at (jK hk12 HY2.out) [.int .i64 tick,.int .i64 load,.int .i64 want,.int .i64 til,.int .i64 wy] rfl W9 hW9';obtain ⟨a9,a8,a7⟩:=box_cells jR s1;clear hW9 hW9';exact bodyPost_ret (v:=.tuple #[.agg #[.int .i64 tick,.int .i64 load,.int .i64 want,.int .i64 til,.int .i64 wy],.int .i64 0]) (by simp [results,Tryz.results141,go_sem,a9]) rfl ⟨rfl,HBE.out.trans (s4 _ (Nat.le_succ _))⟩
end
end Go.Proofs.YtpmfcpdelkchaaaGreat
