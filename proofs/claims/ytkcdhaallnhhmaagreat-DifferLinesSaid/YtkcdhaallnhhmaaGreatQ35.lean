/- Part 35 of the proof: Ref16, W21F, W21G. -/
import Derived.Test.YtkcdhaallnhhmaaGreatQ25
import Derived.Test.YtkcdhaallnhhmaaGreatQ27
import Derived.Test.YtkcdhaallnhhmaaGreatQ31
import Derived.Test.YtkcdhaallnhhmaaGreatQ34
namespace Go.Proofs.YtkcdhaallnhhmaaGreat
set_option linter.unusedSimpArgs false
set_option linter.unusedVariables false
set_option linter.unusedSectionVars false
set_option maxRecDepth 100000
set_option maxHeartbeats 16000000
section
open Go.RowKit Go.Lib
theorem ref13Near_any (p:Pol) (load now:Int) (w:World) (hn:I64 load) (hq:I64 p.tg) :
 Calls Tryz.prog 174 #[polV p,.int .i64 load,.int .i64 now] w (jP w (.bool (nearI p load now))):=by
 by_cases h:polB p=false∨now<1∨1073741824<now
 · rw [nearI_out h]
   exact ref13Near_out p load now w h
 · have hp:polB p=true:=by
    cases hp:polB p
    · exact absurd (Or.inl hp) h
    · rfl
   exact ref13Near_in p load now w hp (by omega) (by omega) hn hq
theorem ref13Open_any (p:Pol) (load now:Int) (w:World) (hn:I64 load) (hq:I64 p.tg) :
 Calls Tryz.prog 131 #[polV p,.int .i64 load,.int .i64 now] w (jP w (.int .i64 (openI p load now))):=by
 have CN:=jH (fun W=>ref13Near_any p load now W hn hq);have CW:=jH (fun W=>ref13Want_any p load W hn hq);unfold openI;clear hn hq;generalize nearI p load now=near at CN ⊢;generalize wantP p load=m at CW ⊢;unfold polV at CN CW ⊢
 cases near
 all_goals
   go_enter Tryz.func131,Tryz.ntmps131
   go_wp2_with (first
    | (go_at_call 174
       refine calls_named ?_;intro W1 hW1;have hb1:jB w W1:=by rw [hW1];exact balloc jR _
       have hx1:W1.heap[w.heap.size]?=some (.cells #[.int .i64 p.mn,.int .i64 p.mx,.int .i64 p.tg,.int .i64 p.tol,.int .i64 p.win,.int .i64 p.hold] 46 (0,0)):=by rw [hW1];exact heap_alloc_new _ _
       clear hW1;refine (CN.out W1).mono ?_;rintro e w2 ⟨rfl,hb2⟩;have HB2:=jH (bthen hb1 hb2);obtain ⟨hx2,R0⟩:=box_rule hx1 hb2;clear hb1 hb2 hx1 hx2)
    | (go_at_call 175
       refine (CW.out _).mono ?_;rintro e w4 ⟨rfl,hb4⟩))
   go_ret
   exact ⟨rfl,by repeat (first|exact HB2.out|refine bthen ?_ hb4|refine below_drewN ?_ _|refine Below.drew ?_)⟩
theorem ref16Of_any (p:Pol) (l:List Smp) (past:List Adv) (vs vp:Value) (w:World) (hs:RowIn 2 smpC w vs l) (hp:RowIn 5 advC w vp past) (hl:l.length≤1000000) (hl2:past.length≤1000000) (hi:smpI l) (ho:p.ok) :
 Calls Tryz.prog 87 #[polV p,vs,vp] w (jP w (.tuple #[.agg (advC (decI p l past).1).toArray,.int .i64 (decI p l past).2])):=by
 obtain ⟨A,c,rfl⟩:=hs.form;obtain ⟨A2,c2,rfl⟩:=hp.form
 cases hpb:polB p
 · have HC:=jH (r12right_any p)
   have HE:=jH (hpb);have HD:=jH (show decI p l past=(adv0,7) by unfold decI;rw [if_pos hpb]);rw [HD.out];clear hpb HD hs hp hi ho hl hl2;unfold polV;unfold polV at HC
   go_enter Tryz.func87,Tryz.ntmps87
   go_wp2_with (first
   | (go_at_call 125
      refine calls_named ?_;intro W1 hW1;have hb1:jB w W1:=by rw [hW1];exact balloc (balloc jR _) _
      have hx1:W1.heap[w.heap.size]?=some (.cells #[.int .i64 p.mn,.int .i64 p.mx,.int .i64 p.tg,.int .i64 p.tol,.int .i64 p.win,.int .i64 p.hold] 46 (0,0)):=by rw [hW1];exact box_old _ _ _
      have hy1:W1.heap[w.heap.size+1]?=some (.cells #[.int .i64 0,.int .i64 0,.int .i64 0,.int .i64 0,.int .i64 0] 74 (0,0)):=by rw [hW1];exact box_new _ _ _
      clear hW1;refine (HC.out W1).mono ?_;rw [HE.out];rintro e w2 ⟨rfl,hb2⟩;have HB2:=jH (bthen hb1 hb2);obtain ⟨hx2,R0⟩:=box_rule hx1 hb2;obtain ⟨hy2,R1⟩:=box_rule hy1 hb2;have HY2:=jH hy2;have rc0:∀U,jB w2 U→U.cell? ⟨w.heap.size,0,none⟩=some (.int .i64 p.mn):=fun U hU=>R0 U 0 hU
      have rc1:∀U,jB w2 U→U.cell? ⟨w.heap.size,1,none⟩=some (.int .i64 p.mx):=fun U hU=>R0 U 1 hU
      have rc2:∀U,jB w2 U→U.cell? ⟨w.heap.size,2,none⟩=some (.int .i64 p.tg):=fun U hU=>R0 U 2 hU
      have rc3:∀U,jB w2 U→U.cell? ⟨w.heap.size,3,none⟩=some (.int .i64 p.tol):=fun U hU=>R0 U 3 hU
      have rc4:∀U,jB w2 U→U.cell? ⟨w.heap.size,4,none⟩=some (.int .i64 p.win):=fun U hU=>R0 U 4 hU
      have rc5:∀U,jB w2 U→U.cell? ⟨w.heap.size,5,none⟩=some (.int .i64 p.hold):=fun U hU=>R0 U 5 hU
      have rr0:∀U,jB w2 U→U.cell? ⟨w.heap.size+1,0,none⟩=some (.int .i64 0):=fun U hU=>R1 U 0 hU
      have rr1:∀U,jB w2 U→U.cell? ⟨w.heap.size+1,1,none⟩=some (.int .i64 0):=fun U hU=>R1 U 1 hU
      have rr2:∀U,jB w2 U→U.cell? ⟨w.heap.size+1,2,none⟩=some (.int .i64 0):=fun U hU=>R1 U 2 hU
      have rr3:∀U,jB w2 U→U.cell? ⟨w.heap.size+1,3,none⟩=some (.int .i64 0):=fun U hU=>R1 U 3 hU
      have rr4:∀U,jB w2 U→U.cell? ⟨w.heap.size+1,4,none⟩=some (.int .i64 0):=fun U hU=>R1 U 4 hU
      have rf:∀U j,jB w2 U→U.frozen? ⟨w.heap.size+1,j,none⟩=false:=fun U j hU=>(box_cells hU HY2.out).2.1 j
      clear hb1 hb2 hx1 hx2 hy1 hy2 R0 R1))
   have HBE:=jH HB2.out;refine post_named ?_;intro W9 hW9;have hW9':W9=stor w2 (w.heap.size+1) 0 [.int .i64 0,.int .i64 0,.int .i64 0,.int .i64 0,.int .i64 0]:=hW9;obtain ⟨s1,s2,s3,s4⟩:=stor_at (HY2.out) [.int .i64 0,.int .i64 0,.int .i64 0,.int .i64 0,.int .i64 0] rfl W9 hW9';obtain ⟨a9,a8,a7⟩:=box_cells jR s1;clear hW9 hW9';exact bodyPost_ret (v:=.tuple #[.agg #[.int .i64 0,.int .i64 0,.int .i64 0,.int .i64 0,.int .i64 0],.int .i64 7]) (by simp [results,Tryz.results87,go_sem,a9]) rfl ⟨rfl,HBE.out.trans (s4 _ (Nat.le_succ _))⟩
 · have HC:=jH (r12right_any p)
   have HE:=jH (hpb)
   by_cases hne:l=[]
   · subst hne
     have HD:=jH (show decI p [] past=(adv0,5) by unfold decI;rw [if_neg (by rw [hpb];simp),if_pos rfl]);rw [HD.out];clear hpb HD hs hp hi ho hl hl2;unfold polV;unfold polV at HC
     go_enter Tryz.func87,Tryz.ntmps87
     go_wp2_with (first
     | (go_at_call 125
        refine calls_named ?_;intro W1 hW1;have hb1:jB w W1:=by rw [hW1];exact balloc (balloc jR _) _
        have hx1:W1.heap[w.heap.size]?=some (.cells #[.int .i64 p.mn,.int .i64 p.mx,.int .i64 p.tg,.int .i64 p.tol,.int .i64 p.win,.int .i64 p.hold] 46 (0,0)):=by rw [hW1];exact box_old _ _ _
        have hy1:W1.heap[w.heap.size+1]?=some (.cells #[.int .i64 0,.int .i64 0,.int .i64 0,.int .i64 0,.int .i64 0] 74 (0,0)):=by rw [hW1];exact box_new _ _ _
        clear hW1;refine (HC.out W1).mono ?_;rw [HE.out];rintro e w2 ⟨rfl,hb2⟩;have HB2:=jH (bthen hb1 hb2);obtain ⟨hx2,R0⟩:=box_rule hx1 hb2;obtain ⟨hy2,R1⟩:=box_rule hy1 hb2;have HY2:=jH hy2;have rc0:∀U,jB w2 U→U.cell? ⟨w.heap.size,0,none⟩=some (.int .i64 p.mn):=fun U hU=>R0 U 0 hU
        have rc1:∀U,jB w2 U→U.cell? ⟨w.heap.size,1,none⟩=some (.int .i64 p.mx):=fun U hU=>R0 U 1 hU
        have rc2:∀U,jB w2 U→U.cell? ⟨w.heap.size,2,none⟩=some (.int .i64 p.tg):=fun U hU=>R0 U 2 hU
        have rc3:∀U,jB w2 U→U.cell? ⟨w.heap.size,3,none⟩=some (.int .i64 p.tol):=fun U hU=>R0 U 3 hU
        have rc4:∀U,jB w2 U→U.cell? ⟨w.heap.size,4,none⟩=some (.int .i64 p.win):=fun U hU=>R0 U 4 hU
        have rc5:∀U,jB w2 U→U.cell? ⟨w.heap.size,5,none⟩=some (.int .i64 p.hold):=fun U hU=>R0 U 5 hU
        have rr0:∀U,jB w2 U→U.cell? ⟨w.heap.size+1,0,none⟩=some (.int .i64 0):=fun U hU=>R1 U 0 hU
        have rr1:∀U,jB w2 U→U.cell? ⟨w.heap.size+1,1,none⟩=some (.int .i64 0):=fun U hU=>R1 U 1 hU
        have rr2:∀U,jB w2 U→U.cell? ⟨w.heap.size+1,2,none⟩=some (.int .i64 0):=fun U hU=>R1 U 2 hU
        have rr3:∀U,jB w2 U→U.cell? ⟨w.heap.size+1,3,none⟩=some (.int .i64 0):=fun U hU=>R1 U 3 hU
        have rr4:∀U,jB w2 U→U.cell? ⟨w.heap.size+1,4,none⟩=some (.int .i64 0):=fun U hU=>R1 U 4 hU
        have rf:∀U j,jB w2 U→U.frozen? ⟨w.heap.size+1,j,none⟩=false:=fun U j hU=>(box_cells hU HY2.out).2.1 j
        clear hb1 hb2 hx1 hx2 hy1 hy2 R0 R1))
     have HBE:=jH (bthen HB2.out jR);refine post_named ?_;intro W9 hW9;have hW9':W9=stor w2 (w.heap.size+1) 0 [.int .i64 0,.int .i64 0,.int .i64 0,.int .i64 0,.int .i64 0]:=hW9;obtain ⟨s1,s2,s3,s4⟩:=stor_at (HY2.out) [.int .i64 0,.int .i64 0,.int .i64 0,.int .i64 0,.int .i64 0] rfl W9 hW9';obtain ⟨a9,a8,a7⟩:=box_cells jR s1;clear hW9 hW9';exact bodyPost_ret (v:=.tuple #[.agg #[.int .i64 0,.int .i64 0,.int .i64 0,.int .i64 0,.int .i64 0],.int .i64 5]) (by simp [results,Tryz.results87,go_sem,a9]) rfl ⟨rfl,HBE.out.trans (s4 _ (Nat.le_succ _))⟩
   · have hpos:0<l.length:=List.length_pos_iff.2 hne
     obtain ⟨tick,htk⟩:∃t,t=latestI l:=⟨_,rfl⟩;have hti:I64 tick:=by rw [htk];exact latestI_ok hne hi
     have CL:=jH (fun (W:World) (hW:jB w W)=>show Calls Tryz.prog 126 #[.slice A l.length c] W (jP W (.int .i64 tick)) from htk ▸ refLate_any _ l W (hs.below hW) hl hpos);obtain ⟨fr,hfr⟩:∃x,x=fromW tick p.win:=⟨_,rfl⟩;obtain ⟨cu,hcu⟩:∃x,x=winC l fr tick:=⟨_,rfl⟩;obtain ⟨load,hld⟩:∃x:Int,x=(meanN (valsW (winC l (fromW tick p.win) tick)):Nat):=⟨_,rfl⟩;have hlo:I64 load:=by rw [hld];have:=meanN_le (l:=valsW (winC l (fromW tick p.win) tick)) (fun n hn=>(vals_i64 (hi.cut _ _) n hn).2);unfold I64;omega
     have hcui:smpI cu:=by rw [hcu];exact hi.cut _ _
     have hcul:cu.length≤1000000:=by rw [hcu];exact Nat.le_trans (cut_len _ _ _) hl
     have hld2:load=(meanN (valsW cu):Nat):=by rw [hld,hcu,hfr]
     have CFR:=jH (fun (W:World) (hW:jB w W)=>show Calls Tryz.prog 129 #[.int .i64 tick,.int .i64 p.win] W (jP W (.int .i64 fr)) from (by rw [hfr];exact (refFrom_any tick p.win W hti ho.2.2.2.2.1).mono (fun e w' h=>⟨h.1,h.2 ▸ jR⟩)));have CCU:=jH (fun (W:World) (hW:jB w W)=>show Calls Tryz.prog 128 #[.slice A l.length c,.int .i64 fr,.int .i64 tick] W fun e w'=>∃A3 c3,e=.returned (.slice A3 cu.length c3)∧OwnL smpC 118 2 W.heap.size w' (.slice A3 cu.length c3) cu∧jB W w' from hcu ▸ refCut_any _ l fr tick W (hs.below hW) hl)
     have CME:=jH (fun (W:World) (v:Value) (hv:RowIn 2 smpC W v cu)=>show Calls Tryz.prog 127 #[v] W (jP W (.int .i64 load)) from hld2 ▸ refMean16_any v cu W hv hcul hcui);obtain ⟨now,hnow⟩:∃x,x=nowI p past:=⟨_,rfl⟩;have CN:=jH (fun (W:World) (hW:jB w W)=>show Calls Tryz.prog 130 #[polV p,.slice A2 past.length c2] W (jP W (.int .i64 now)) from hnow ▸ refNow_any p _ past W (hp.below hW) hl2);obtain ⟨op,hop⟩:∃x,x=openI p load now:=⟨_,rfl⟩
     obtain ⟨want,hwa⟩:∃x,x=boundI p op:=⟨_,rfl⟩;have COp:=jH (fun (W:World) (hW:jB w W)=>show Calls Tryz.prog 131 #[polV p,.int .i64 load,.int .i64 now] W (jP W (.int .i64 op)) from hop ▸ ref13Open_any p load now W hlo ho.2.2.1);have CB1:=jH (fun (W:World) (hW:jB w W)=>show Calls Tryz.prog 132 #[polV p,.int .i64 op] W (jP W (.int .i64 want)) from hwa ▸ ref13Bound_any p op W);obtain ⟨ns,hns⟩:∃x,x=(steadyI p tick want past).1:=⟨_,rfl⟩
     obtain ⟨held,hhe⟩:∃x,x=(steadyI p tick want past).2:=⟨_,rfl⟩;obtain ⟨til,htil⟩:∃x,x=boundI p ns:=⟨_,rfl⟩;obtain ⟨wy,hwy⟩:∃x,x=whyI p held op now til:=⟨_,rfl⟩;have CSt:=jH (fun (W:World) (hW:jB w W)=>show Calls Tryz.prog 133 #[polV p,.int .i64 tick,.int .i64 want,.slice A2 past.length c2] W (jP W (.tuple #[.int .i64 ns,.bool held])) from hns ▸ hhe ▸ ref15_any p tick want _ past W (hp.below hW) hl2 hti ho.2.2.2.2.2)
     have CBd:=jH (fun (W:World) (hW:jB w W)=>show Calls Tryz.prog 132 #[polV p,.int .i64 ns] W (jP W (.int .i64 til)) from htil ▸ ref13Bound_any p ns W);have CWy:=jH (fun (W:World) (hW:jB w W)=>show Calls Tryz.prog 134 #[polV p,.bool held,.int .i64 op,.int .i64 now,.int .i64 til] W (jP W (.int .i64 wy)) from hwy ▸ refWhy_any p held op now til W);have HD:=jH (show decI p l past=(⟨tick,load,want,til,wy⟩,0) by
      unfold decI;rw [if_neg (by rw [hpb];simp),if_neg hne];simp only [←htk,←hld,←hnow,←hop,←hwa,←hns,←hhe,←htil,←hwy])
     rw [HD.out];have HZ:=jH (show ¬(l.length:Int)=0∧¬l.length=0 by omega);clear htk hfr hcu hld hld2 hcui hcul hnow hop hwa hns hhe htil hwy HD hpb hne hpos hlo hti hs hp hi ho hl hl2;unfold polV;unfold polV at HC CN CSt CBd CWy COp CB1;have hz0:¬(l.length:Int)=0:=HZ.out.1;have hz1:¬l.length=0:=HZ.out.2
     go_enter Tryz.func87,Tryz.ntmps87
     go_wp2_with (first
      | (go_at_call 125
         refine calls_named ?_;intro W1 hW1;have hb1:jB w W1:=by rw [hW1];exact balloc (balloc jR _) _
         have hx1:W1.heap[w.heap.size]?=some (.cells #[.int .i64 p.mn,.int .i64 p.mx,.int .i64 p.tg,.int .i64 p.tol,.int .i64 p.win,.int .i64 p.hold] 46 (0,0)):=by rw [hW1];exact box_old _ _ _
         have hy1:W1.heap[w.heap.size+1]?=some (.cells #[.int .i64 0,.int .i64 0,.int .i64 0,.int .i64 0,.int .i64 0] 74 (0,0)):=by rw [hW1];exact box_new _ _ _
         clear hW1;refine (HC.out W1).mono ?_;rw [HE.out];rintro e w2 ⟨rfl,hb2⟩;have HB2:=jH (bthen hb1 hb2);obtain ⟨hx2,R0⟩:=box_rule hx1 hb2;obtain ⟨hy2,R1⟩:=box_rule hy1 hb2;have HY2:=jH hy2;have rc0:∀U,jB w2 U→U.cell? ⟨w.heap.size,0,none⟩=some (.int .i64 p.mn):=fun U hU=>R0 U 0 hU
         have rc1:∀U,jB w2 U→U.cell? ⟨w.heap.size,1,none⟩=some (.int .i64 p.mx):=fun U hU=>R0 U 1 hU
         have rc2:∀U,jB w2 U→U.cell? ⟨w.heap.size,2,none⟩=some (.int .i64 p.tg):=fun U hU=>R0 U 2 hU
         have rc3:∀U,jB w2 U→U.cell? ⟨w.heap.size,3,none⟩=some (.int .i64 p.tol):=fun U hU=>R0 U 3 hU
         have rc4:∀U,jB w2 U→U.cell? ⟨w.heap.size,4,none⟩=some (.int .i64 p.win):=fun U hU=>R0 U 4 hU
         have rc5:∀U,jB w2 U→U.cell? ⟨w.heap.size,5,none⟩=some (.int .i64 p.hold):=fun U hU=>R0 U 5 hU
         have rr0:∀U,jB w2 U→U.cell? ⟨w.heap.size+1,0,none⟩=some (.int .i64 0):=fun U hU=>R1 U 0 hU
         have rr1:∀U,jB w2 U→U.cell? ⟨w.heap.size+1,1,none⟩=some (.int .i64 0):=fun U hU=>R1 U 1 hU
         have rr2:∀U,jB w2 U→U.cell? ⟨w.heap.size+1,2,none⟩=some (.int .i64 0):=fun U hU=>R1 U 2 hU
         have rr3:∀U,jB w2 U→U.cell? ⟨w.heap.size+1,3,none⟩=some (.int .i64 0):=fun U hU=>R1 U 3 hU
         have rr4:∀U,jB w2 U→U.cell? ⟨w.heap.size+1,4,none⟩=some (.int .i64 0):=fun U hU=>R1 U 4 hU
         have rf:∀U j,jB w2 U→U.frozen? ⟨w.heap.size+1,j,none⟩=false:=fun U j hU=>(box_cells hU HY2.out).2.1 j
         clear hb1 hb2 hx1 hx2 hy1 hy2 R0 R1)
      | (go_at_call 126
         refine calls_named ?_;intro W3 hW3;have hq3:jB w2 W3:=by rw [hW3];first|exact jR|assumption|exact jR.drew|exact Below.drew (by assumption)
         clear hW3;refine (CL.out W3 (bthen HB2.out hq3)).mono ?_;rintro e w3 ⟨rfl,hb3⟩;have hk3:jB w2 w3:=bthen hq3 hb3;clear hb3 hq3)
      | (go_at_call 129
         refine calls_named ?_;intro W4 hW4;have hq4:jB w2 W4:=by rw [hW4];first|exact jR|assumption|exact jR.drew|exact Below.drew (by assumption)
         clear hW4;refine (CFR.out W4 (bthen HB2.out hq4)).mono ?_;rintro e w4 ⟨rfl,hb4⟩;have hk4:jB w2 w4:=bthen hq4 hb4;clear hb4 hq4)
      | (go_at_call 128
         refine calls_named ?_;intro W5 hW5;have hq5:jB w2 W5:=by rw [hW5];first|exact jR|assumption
         clear hW5;refine (CCU.out W5 (bthen HB2.out hq5)).mono ?_;rintro e w5 ⟨A3,c3,rfl,hown,hb5⟩;have HOW:=jH (hown.row eSmp);have hk5:jB w2 w5:=bthen hq5 hb5;clear hb5 hq5 hown)
      | (go_at_call 127
         refine (CME.out w5 _ HOW.out).mono ?_;rintro e w6 ⟨rfl,hb6⟩;have hk6:jB w2 w6:=bthen hk5 hb6;clear hb6)
      | (go_at_call 130
         refine calls_named ?_;intro W7 hW7;have hq7:jB w2 W7:=by rw [hW7];first|exact jR|assumption|exact jR.drew|exact Below.drew (by assumption)
         clear hW7;refine (CN.out W7 (bthen HB2.out hq7)).mono ?_;rintro e w7 ⟨rfl,hb7⟩;have hk7:jB w2 w7:=bthen hq7 hb7;clear hb7 hq7)
      | (go_at_call 131
         refine calls_named ?_;intro W8 hW8;have hq8:jB w2 W8:=by rw [hW8];first|exact jR|assumption|exact jR.drew|exact Below.drew (by assumption)
         clear hW8;refine (COp.out W8 (bthen HB2.out hq8)).mono ?_;rintro e w8 ⟨rfl,hb8⟩;have hk8:jB w2 w8:=bthen hq8 hb8;clear hb8 hq8)
      | (go_at_call 132
         refine calls_named ?_;intro W9 hW9;have hq9:jB w2 W9:=by rw [hW9];first|exact jR|assumption|exact jR.drew|exact Below.drew (by assumption)
         clear hW9
         with_reducible refine (CB1.out W9 (bthen HB2.out hq9)).mono ?_
         rintro e w9 ⟨rfl,hb9⟩;have hk9:jB w2 w9:=bthen hq9 hb9;clear hb9 hq9)
      | (go_at_call 133
         refine calls_named ?_;intro W10 hW10;have hq10:jB w2 W10:=by rw [hW10];first|exact jR|assumption|exact jR.drew|exact Below.drew (by assumption)
         clear hW10;refine (CSt.out W10 (bthen HB2.out hq10)).mono ?_;rintro e w10 ⟨rfl,hb10⟩;have hk10:jB w2 w10:=bthen hq10 hb10;clear hb10 hq10)
      | (go_at_call 132
         refine calls_named ?_;intro W11 hW11;have hq11:jB w2 W11:=by rw [hW11];first|exact jR|assumption|exact jR.drew|exact Below.drew (by assumption)
         clear hW11
         with_reducible refine (CBd.out W11 (bthen HB2.out hq11)).mono ?_
         rintro e w11 ⟨rfl,hb11⟩;have hk11:jB w2 w11:=bthen hq11 hb11;clear hb11 hq11)
      | (go_at_call 134
         refine calls_named ?_;intro W12 hW12;have hq12:jB w2 W12:=by rw [hW12];first|exact jR|assumption|exact jR.drew|exact Below.drew (by assumption)
         clear hW12;refine (CWy.out W12 (bthen HB2.out hq12)).mono ?_;rintro e w12 ⟨rfl,hb12⟩;have hk12:jB w2 w12:=bthen hq12 hb12;clear hb12 hq12))
     have HBE:=jH (bthen HB2.out hk12);refine post_named ?_;intro W9 hW9;have hW9':W9=stor w12 (w.heap.size+1) 0 [.int .i64 tick,.int .i64 load,.int .i64 want,.int .i64 til,.int .i64 wy]:=hW9;obtain ⟨s1,s2,s3,s4⟩:=stor_at (jK hk12 HY2.out) [.int .i64 tick,.int .i64 load,.int .i64 want,.int .i64 til,.int .i64 wy] rfl W9 hW9';obtain ⟨a9,a8,a7⟩:=box_cells jR s1;clear hW9 hW9';exact bodyPost_ret (v:=.tuple #[.agg #[.int .i64 tick,.int .i64 load,.int .i64 want,.int .i64 til,.int .i64 wy],.int .i64 0]) (by simp [results,Tryz.results87,go_sem,a9]) rfl ⟨rfl,HBE.out.trans (s4 _ (Nat.le_succ _))⟩
end
section
open Go.RowKit Go.Lib
theorem wd_facts {c:Cfg} {rs rh n:Nat} {x:WdH} (hk:WdOk c rs rh n (absW x)) (hst:c.st≤64):x.st.length≤64∧(allX x).length≤16384∧∀z∈allX x,ItOk rs rh n (absI z):=by
 refine ⟨?_,?_,fun z hz=>?_⟩
 · have:=hk.len
   simp [absW] at this
   omega
 · have:=allW_len hk hst
   rw [←allX_abs,List.length_map] at this;exact this
 · exact allW_it hk _ (by rw [←allX_abs];exact List.mem_map.2 ⟨z,hz,rfl⟩)
theorem load21_at (P:Nat→Prop) (c:Cfg) (rs rh n:Nat) (x:WdH) (id:ByteArray) (w:World) (hP:∀b,w.heap.size≤b→P b) (hx:WdIn P w x) (hst:c.st≤64) (hk:WdOk c rs rh n (absW x)) (hm:id.size≤maxLen) :
 ∃ (y:It) (b:Bool),loadW (absW x) id=(if b=true then some y.nd else none)∧(b=true→RowIn 2 smpC w (.slice y.sA y.nd.smp.length y.sc) y.nd.smp∧RowIn 5 advC w (.slice y.pA y.nd.past.length y.pc) y.nd.past∧ItOk rs rh n (absI y)) ∧
   ∀W,jB w W→Calls Tryz.prog 57 #[.agg #[.int .i64 c.st,.int .i64 c.sa,.int .i64 c.lo,.int .i64 c.hi,.slice x.sA x.st.length x.sc,.slice x.cA x.cuts.length x.cc,.int .i64 x.ep,.bool x.over],.string id] W (jP W (.tuple #[.agg #[.slice y.sA y.nd.smp.length y.sc,.slice y.pA y.nd.past.length y.pc,.int .i64 y.nd.pol.mn,.int .i64 y.nd.pol.mx,.int .i64 y.nd.pol.tg,.int .i64 y.nd.pol.tol,.int .i64 y.nd.pol.win,.int .i64 y.nd.pol.hold,.bool y.nd.ruled,.int .i64 (y.nd.ver:Nat)],.bool b])):=by
 obtain ⟨h1,h2,h3⟩:=wd_facts hk hst;refine ⟨(loadX x id).getD it0,(loadX x id).isSome,?_,fun hb=>?_,fun W hW=>load21_any P c x id W (fun b hb=>hP b (Nat.le_trans hW.size hb)) (hx.below hW) h1 (by omega) (fun z hz=>(h3 z hz).key) hm⟩
 · rw [←loadX_abs]
   cases loadX x id <;> rfl
 · cases hl:loadX x id with
   | none=>rw [hl] at hb;cases hb
   | some y =>
     obtain ⟨h4,h5⟩:=loadX_in hx hl;exact ⟨h4.1.1,h4.2.1,h3 y h5⟩
theorem plan21_any (P:Nat→Prop) (c:Cfg) (rs rh n:Nat) (x:WdH) (id:ByteArray) (w:World) (hP:∀b,w.heap.size≤b→P b) (hx:WdIn P w x) (hst:c.st≤64) (hk:WdOk c rs rh n (absW x)) (hr:rs≤1000000∧rh≤1000000) (hm:id.size≤maxLen) :
 Calls Tryz.prog 44 #[.agg (wdC c x).toArray,.string id] w (jP w (.tuple #[.agg (advC (planW (absW x) id).1).toArray,.int .i64 (planW (absW x) id).2])):=by
 obtain ⟨y,b,hy,hin,hcl⟩:=load21_at P c rs rh n x id w hP hx hst hk hm;have CL:=jH hcl;obtain ⟨a,ha⟩:∃a,a=planW (absW x) id:=⟨_,rfl⟩;rw [←ha];unfold planW at ha;rw [hy] at ha;clear hP hx hst hk hm hcl hy;unfold wdC
 cases b
 · rw [if_neg (by decide)] at ha
   dsimp only at ha;rw [ha];clear ha hin
   go_enter Tryz.func44,Tryz.ntmps44
   go_wp2_with (first
   | (go_at_call 57
      refine calls_named ?_;intro W1 hW1;obtain ⟨k0,k1,hs,hb⟩:=two_boxes w _ _ W1 hW1;clear hW1;refine (CL.out W1 hb).mono ?_;rintro e w2 ⟨rfl,hb2⟩;have HY2:=jH (jK hb2 k1);have HB2:=jH (bthen hb hb2);have HX2:=jH (jK hb2 k0);obtain ⟨b1,b2,b3⟩:=box_cells jR HY2.out;obtain ⟨bx1,bx2,bx3⟩:=box_cells jR HX2.out;clear k0 k1 hs hb hb2))
   refine post_named ?_;intro W4 hW4;have hW4':W4=(stor w2 (w.heap.size+1) 0 [.int .i64 0,.int .i64 0,.int .i64 0,.int .i64 0,.int .i64 0]).alloc (.cells #[.slice y.sA y.nd.smp.length y.sc,.slice y.pA y.nd.past.length y.pc,.int .i64 y.nd.pol.mn,.int .i64 y.nd.pol.mx,.int .i64 y.nd.pol.tg,.int .i64 y.nd.pol.tol,.int .i64 y.nd.pol.win,.int .i64 y.nd.pol.hold,.bool y.nd.ruled,.int .i64 (y.nd.ver:Nat)] 48 (0,0)):=hW4
   obtain ⟨S,hS⟩:∃S,S=stor w2 (w.heap.size+1) 0 [.int .i64 0,.int .i64 0,.int .i64 0,.int .i64 0,.int .i64 0]:=⟨_,rfl⟩;rw [←hS] at hW4';obtain ⟨s1,s2,s3,s4⟩:=stor_at HY2.out [.int .i64 0,.int .i64 0,.int .i64 0,.int .i64 0,.int .i64 0] rfl S hS;obtain ⟨a9,a8,a7⟩:=box_cells (w1:=W4) (by rw [hW4'];exact balloc jR _) s1;have hb5:jB w W4:=by rw [hW4'];exact balloc (HB2.out.trans (s4 w.heap.size (by omega))) _
   clear hW4 hW4';exact bodyPost_ret (v:=.tuple #[.agg #[.int .i64 0,.int .i64 0,.int .i64 0,.int .i64 0,.int .i64 0],.int .i64 5]) (by simp [results,Tryz.results44,go_sem,a9]) rfl ⟨rfl,hb5⟩
 · rw [if_pos rfl] at ha
   dsimp only at ha;obtain ⟨h1,h2,h3⟩:=hin rfl
   cases hru:y.nd.ruled
   · rw [hru,if_neg (by decide)] at ha
     rw [ha];have HRU:=jH hru;clear ha hin h1 h2 h3;rw [hru] at CL;clear hru
     go_enter Tryz.func44,Tryz.ntmps44
     go_wp2_with (first
   | (go_at_call 57
      refine calls_named ?_;intro W1 hW1;obtain ⟨k0,k1,hs,hb⟩:=two_boxes w _ _ W1 hW1;clear hW1;refine (CL.out W1 hb).mono ?_;rintro e w2 ⟨rfl,hb2⟩;have HY2:=jH (jK hb2 k1);have HB2:=jH (bthen hb hb2);have HX2:=jH (jK hb2 k0);obtain ⟨b1,b2,b3⟩:=box_cells jR HY2.out;obtain ⟨bx1,bx2,bx3⟩:=box_cells jR HX2.out;clear k0 k1 hs hb hb2))
     refine post_named ?_;intro W4 hW4;have hW4':W4=(stor w2 (w.heap.size+1) 0 [.int .i64 0,.int .i64 0,.int .i64 0,.int .i64 0,.int .i64 0]).alloc (.cells #[.slice y.sA y.nd.smp.length y.sc,.slice y.pA y.nd.past.length y.pc,.int .i64 y.nd.pol.mn,.int .i64 y.nd.pol.mx,.int .i64 y.nd.pol.tg,.int .i64 y.nd.pol.tol,.int .i64 y.nd.pol.win,.int .i64 y.nd.pol.hold,.bool false,.int .i64 (y.nd.ver:Nat)] 48 (0,0)):=hW4
     obtain ⟨S,hS⟩:∃S,S=stor w2 (w.heap.size+1) 0 [.int .i64 0,.int .i64 0,.int .i64 0,.int .i64 0,.int .i64 0]:=⟨_,rfl⟩;rw [←hS] at hW4';obtain ⟨s1,s2,s3,s4⟩:=stor_at HY2.out [.int .i64 0,.int .i64 0,.int .i64 0,.int .i64 0,.int .i64 0] rfl S hS;obtain ⟨a9,a8,a7⟩:=box_cells (w1:=W4) (by rw [hW4'];exact balloc jR _) s1;have hb5:jB w W4:=by rw [hW4'];exact balloc (HB2.out.trans (s4 w.heap.size (by omega))) _
     clear hW4 hW4';exact bodyPost_ret (v:=.tuple #[.agg #[.int .i64 0,.int .i64 0,.int .i64 0,.int .i64 0,.int .i64 0],.int .i64 5]) (by simp [results,Tryz.results44,go_sem,a9]) rfl ⟨rfl,hb5⟩
   · rw [hru,if_pos rfl] at ha
     rw [hru] at CL;clear hru hin;obtain ⟨p,hp⟩:∃p,p=y.nd.pol:=⟨_,rfl⟩;have CO:=jH (fun (W:World) (hW:jB w W)=>show Calls Tryz.prog 87 #[.agg #[.int .i64 y.nd.pol.mn,.int .i64 y.nd.pol.mx,.int .i64 y.nd.pol.tg,.int .i64 y.nd.pol.tol,.int .i64 y.nd.pol.win,.int .i64 y.nd.pol.hold],.slice y.sA y.nd.smp.length y.sc,.slice y.pA y.nd.past.length y.pc] W (jP W (.tuple #[.agg #[.int .i64 a.1.tick,.int .i64 a.1.load,.int .i64 a.1.want,.int .i64 a.1.repl,.int .i64 a.1.why],.int .i64 a.2])) from by
      have h9:=ref16Of_any y.nd.pol y.nd.smp y.nd.past _ _ W (h1.below hW) (h2.below hW) (by have:=h3.nd.len;dsimp only [absI] at this;omega) (by have:=h3.nd.past;dsimp only [absI] at this;omega) h3.smp h3.pol;rw [←ha] at h9;exact h9)
     clear ha h1 h2 h3 hp;dsimp only [advC]
     go_enter Tryz.func44,Tryz.ntmps44
     go_wp2_with (first
   | (go_at_call 57
      refine calls_named ?_;intro W1 hW1;obtain ⟨k0,k1,hs,hb⟩:=two_boxes w _ _ W1 hW1;clear hW1;refine (CL.out W1 hb).mono ?_;rintro e w2 ⟨rfl,hb2⟩;have HY2:=jH (jK hb2 k1);have HB2:=jH (bthen hb hb2);have HX2:=jH (jK hb2 k0);obtain ⟨b1,b2,b3⟩:=box_cells jR HY2.out;obtain ⟨bx1,bx2,bx3⟩:=box_cells jR HX2.out;clear k0 k1 hs hb hb2)
   | (go_at_call 87
      refine calls_named ?_;intro W4 hW4;have hb4:jB w2 W4:=by rw [hW4];exact balloc jR _
      clear hW4;refine (CO.out W4 (bthen HB2.out hb4)).mono ?_;rintro e w5 ⟨rfl,hb5⟩;have HY5:=jH (jK (bthen hb4 hb5) HY2.out);have HB5:=jH (bthen HB2.out (bthen hb4 hb5));obtain ⟨d1,d2,d3⟩:=box_cells jR HY5.out;clear hb4 hb5 b1 b2 b3))
     refine post_named ?_;intro W4 hW4;have hW4':W4=stor w5 (w.heap.size+1) 0 [.int .i64 a.1.tick,.int .i64 a.1.load,.int .i64 a.1.want,.int .i64 a.1.repl,.int .i64 a.1.why]:=hW4;obtain ⟨s1,s2,s3,s4⟩:=stor_at HY5.out [.int .i64 a.1.tick,.int .i64 a.1.load,.int .i64 a.1.want,.int .i64 a.1.repl,.int .i64 a.1.why] rfl W4 hW4';obtain ⟨a9,a8,a7⟩:=box_cells jR s1;have hb5:=HB5.out.trans (s4 w.heap.size (by omega))
     clear hW4 hW4';exact bodyPost_ret (v:=.tuple #[.agg #[.int .i64 a.1.tick,.int .i64 a.1.load,.int .i64 a.1.want,.int .i64 a.1.repl,.int .i64 a.1.why],.int .i64 a.2]) (by simp [results,Tryz.results44,go_sem,a9]) rfl ⟨rfl,hb5⟩
theorem read21_any (P:Nat→Prop) (c:Cfg) (rs rh n:Nat) (x:WdH) (id:ByteArray) (w:World) (hP:∀b,w.heap.size≤b→P b) (hx:WdIn P w x) (hst:c.st≤64) (hk:WdOk c rs rh n (absW x)) (hr:rs≤1000000∧rh≤1000000) (hm:id.size≤maxLen) :
 Calls Tryz.prog 95 #[.agg (wdC c x).toArray,.string id] w (jP w (repV (readW (absW x) id))):=by
 obtain ⟨y,b,hy,hin,hcl⟩:=load21_at P c rs rh n x id w hP hx hst hk hm;have CL:=jH hcl;obtain ⟨a,ha⟩:∃a,a=readW (absW x) id:=⟨_,rfl⟩;rw [←ha];unfold readW at ha;rw [hy] at ha;clear hP hx hst hk hm hcl hy;unfold wdC
 cases b
 · rw [if_neg (by decide)] at ha
   dsimp only at ha;rw [ha];clear ha hin
   go_enter Tryz.func95,Tryz.ntmps95
   go_wp2_with (first
   | (go_at_call 57
      refine calls_named ?_;intro W1 hW1;obtain ⟨k0,k1,hs,hb⟩:=two_boxes w _ _ W1 hW1;clear hW1;refine (CL.out W1 hb).mono ?_;rintro e w2 ⟨rfl,hb2⟩;have HY2:=jH (jK hb2 k1);have HB2:=jH (bthen hb hb2);have HX2:=jH (jK hb2 k0);obtain ⟨b1,b2,b3⟩:=box_cells jR HY2.out;obtain ⟨bx1,bx2,bx3⟩:=box_cells jR HX2.out;clear k0 k1 hs hb hb2))
   refine post_named ?_;intro W4 hW4;have hW4':W4=(stor w2 (w.heap.size+1) 0 [.int .i64 5,.int .i64 0,.int .i64 0,.int .i64 0,.int .i64 0,.int .i64 0,.int .i64 0,.int .i64 0,.int .i64 0,.int .i64 0,.int .i64 0,.int .i64 0,.int .i64 0]).alloc (.cells #[.slice y.sA y.nd.smp.length y.sc,.slice y.pA y.nd.past.length y.pc,.int .i64 y.nd.pol.mn,.int .i64 y.nd.pol.mx,.int .i64 y.nd.pol.tg,.int .i64 y.nd.pol.tol,.int .i64 y.nd.pol.win,.int .i64 y.nd.pol.hold,.bool y.nd.ruled,.int .i64 (y.nd.ver:Nat)] 48 (0,0)):=hW4
   obtain ⟨S,hS⟩:∃S,S=stor w2 (w.heap.size+1) 0 [.int .i64 5,.int .i64 0,.int .i64 0,.int .i64 0,.int .i64 0,.int .i64 0,.int .i64 0,.int .i64 0,.int .i64 0,.int .i64 0,.int .i64 0,.int .i64 0,.int .i64 0]:=⟨_,rfl⟩;rw [←hS] at hW4';obtain ⟨s1,s2,s3,s4⟩:=stor_at HY2.out [.int .i64 5,.int .i64 0,.int .i64 0,.int .i64 0,.int .i64 0,.int .i64 0,.int .i64 0,.int .i64 0,.int .i64 0,.int .i64 0,.int .i64 0,.int .i64 0,.int .i64 0] rfl S hS
   obtain ⟨a9,a8,a7⟩:=box_cells (w1:=W4) (by rw [hW4'];exact balloc jR _) s1;have hb5:jB w W4:=by rw [hW4'];exact balloc (HB2.out.trans (s4 w.heap.size (by omega))) _
   clear hW4 hW4';exact bodyPost_ret (v:=.agg #[.int .i64 5,.int .i64 0,.int .i64 0,.int .i64 0,.int .i64 0,.int .i64 0,.int .i64 0,.int .i64 0,.int .i64 0,.int .i64 0,.int .i64 0,.int .i64 0,.int .i64 0]) (by simp [results,Tryz.results95,go_sem,a9]) rfl ⟨rfl,hb5⟩
 · rw [if_pos rfl] at ha
   dsimp only at ha;obtain ⟨h1,h2,h3⟩:=hin rfl;have hpl:y.nd.past.length≤1000000:=by have:=h3.nd.past;dsimp only [absI] at this;omega
   clear hin h1 h3;obtain ⟨m,hm⟩:∃m,m=y.nd.past.length:=⟨_,rfl⟩
   by_cases h0:m=0
   · have he:y.nd.past=[]:=List.length_eq_zero_iff.1 (by omega)
     rw [he] at ha;have ha:a=repF 0:=ha;rw [ha];rw [←hm] at CL;subst h0;clear hm h2 ha he hpl
     go_enter Tryz.func95,Tryz.ntmps95
     go_wp2_with (first
   | (go_at_call 57
      refine calls_named ?_;intro W1 hW1;obtain ⟨k0,k1,hs,hb⟩:=two_boxes w _ _ W1 hW1;clear hW1;refine (CL.out W1 hb).mono ?_;rintro e w2 ⟨rfl,hb2⟩;have HY2:=jH (jK hb2 k1);have HB2:=jH (bthen hb hb2);have HX2:=jH (jK hb2 k0);obtain ⟨b1,b2,b3⟩:=box_cells jR HY2.out;obtain ⟨bx1,bx2,bx3⟩:=box_cells jR HX2.out;clear k0 k1 hs hb hb2))
     refine post_named ?_;intro W4 hW4;have hW4':W4=(stor w2 (w.heap.size+1) 0 [.int .i64 0,.int .i64 0,.int .i64 0,.int .i64 0,.int .i64 0,.int .i64 0,.int .i64 0,.int .i64 0,.int .i64 0,.int .i64 0,.int .i64 0,.int .i64 0,.int .i64 0]).alloc (.cells #[.slice y.sA y.nd.smp.length y.sc,.slice y.pA 0 y.pc,.int .i64 y.nd.pol.mn,.int .i64 y.nd.pol.mx,.int .i64 y.nd.pol.tg,.int .i64 y.nd.pol.tol,.int .i64 y.nd.pol.win,.int .i64 y.nd.pol.hold,.bool y.nd.ruled,.int .i64 (y.nd.ver:Nat)] 48 (0,0)):=hW4
     obtain ⟨S,hS⟩:∃S,S=stor w2 (w.heap.size+1) 0 [.int .i64 0,.int .i64 0,.int .i64 0,.int .i64 0,.int .i64 0,.int .i64 0,.int .i64 0,.int .i64 0,.int .i64 0,.int .i64 0,.int .i64 0,.int .i64 0,.int .i64 0]:=⟨_,rfl⟩;rw [←hS] at hW4';obtain ⟨s1,s2,s3,s4⟩:=stor_at HY2.out [.int .i64 0,.int .i64 0,.int .i64 0,.int .i64 0,.int .i64 0,.int .i64 0,.int .i64 0,.int .i64 0,.int .i64 0,.int .i64 0,.int .i64 0,.int .i64 0,.int .i64 0] rfl S hS
     obtain ⟨a9,a8,a7⟩:=box_cells (w1:=W4) (by rw [hW4'];exact balloc jR _) s1;have hb5:jB w W4:=by rw [hW4'];exact balloc (HB2.out.trans (s4 w.heap.size (by omega))) _
     clear hW4 hW4';exact bodyPost_ret (v:=.agg #[.int .i64 0,.int .i64 0,.int .i64 0,.int .i64 0,.int .i64 0,.int .i64 0,.int .i64 0,.int .i64 0,.int .i64 0,.int .i64 0,.int .i64 0,.int .i64 0,.int .i64 0]) (by simp [results,Tryz.results95,go_sem,a9]) rfl ⟨rfl,hb5⟩
   · have hlt:m - 1<y.nd.past.length:=by omega
     have hgl:y.nd.past.getLast?=some y.nd.past[m - 1]:=by rw [List.getLast?_eq_getElem?,List.getElem?_eq_getElem (by omega)];congr 2;omega
     rw [hgl] at ha;dsimp only at ha;obtain ⟨pb,po,hpA,hpb,hpc⟩:=h2.at_ hlt;rw [←hm,hpA] at CL;obtain ⟨v,hv⟩:∃v,v=y.nd.past[m - 1]:=⟨_,rfl⟩;rw [←hv] at ha hpc;have HPC:=jH hpc;obtain ⟨k,hk9⟩:∃k,k=m - 1:=⟨_,rfl⟩;rw [←hk9] at HPC;have z0:((m:Int) == 0)=false:=by simp;omega
     have z0b:decide ((m:Int)=0)=false:=by simp;omega
     have z1:IntKind.i64.wrap ((m:Int) - 1)=(k:Int):=by rw [IntKind.wrap_i64];omega
     have z1b:wrap64 ((m:Int) - 1)=(k:Int):=by unfold wrap64;omega
     have z2:(0:Int)≤(k:Int):=by omega
     have z3:(k:Int)<(m:Int):=by omega
     have HPB:=jH hpb;rw [ha];clear ha hpc hv hgl hlt hm h2 hk9 h0 hpb hpA;unfold repV repC;dsimp only [st0];obtain ⟨vt,vl,vw,vr,vy⟩:=v;dsimp only at HPC ⊢
     go_enter Tryz.func95,Tryz.ntmps95
     go_wp2_with (first
   | (go_at_call 57
      refine calls_named ?_;intro W1 hW1;obtain ⟨k0,k1,hs,hb⟩:=two_boxes w _ _ W1 hW1;clear hW1;refine (CL.out W1 hb).mono ?_;rintro e w2 ⟨rfl,hb2⟩;have HY2:=jH (jK hb2 k1);have HB2:=jH (bthen hb hb2);have HX2:=jH (jK hb2 k0);obtain ⟨b1,b2,b3⟩:=box_cells jR HY2.out;obtain ⟨bx1,bx2,bx3⟩:=box_cells jR HX2.out;have c0:=(HB2.out.cell (p:=⟨pb,_,none⟩) HPB.out).trans (HPC.out 0 _ rfl);have c1:=(HB2.out.cell (p:=⟨pb,_,none⟩) HPB.out).trans (HPC.out 1 _ rfl)
      have c2:=(HB2.out.cell (p:=⟨pb,_,none⟩) HPB.out).trans (HPC.out 2 _ rfl);have c3:=(HB2.out.cell (p:=⟨pb,_,none⟩) HPB.out).trans (HPC.out 3 _ rfl);have c4:=(HB2.out.cell (p:=⟨pb,_,none⟩) HPB.out).trans (HPC.out 4 _ rfl);clear k0 k1 hs hb hb2;dsimp only at c0 c1 c2 c3 c4;have c9:pb<w2.heap.size:=Nat.lt_of_lt_of_le HPB.out HB2.out.size;rw [Nat.add_zero] at c0))
     refine post_named ?_;intro W4 hW4;have hW4':W4=(stor w2 (w.heap.size+1) 0 [.int .i64 0,.int .i64 0,.int .i64 0,.int .i64 0,.int .i64 0,.int .i64 0,.int .i64 0,.int .i64 0,.int .i64 vt,.int .i64 vl,.int .i64 vw,.int .i64 vr,.int .i64 vy]).alloc (.cells #[.slice y.sA y.nd.smp.length y.sc,.slice (some ⟨pb,po,none⟩) m y.pc,.int .i64 y.nd.pol.mn,.int .i64 y.nd.pol.mx,.int .i64 y.nd.pol.tg,.int .i64 y.nd.pol.tol,.int .i64 y.nd.pol.win,.int .i64 y.nd.pol.hold,.bool y.nd.ruled,.int .i64 (y.nd.ver:Nat)] 48 (0,0)):=hW4
     obtain ⟨S,hS⟩:∃S,S=stor w2 (w.heap.size+1) 0 [.int .i64 0,.int .i64 0,.int .i64 0,.int .i64 0,.int .i64 0,.int .i64 0,.int .i64 0,.int .i64 0,.int .i64 vt,.int .i64 vl,.int .i64 vw,.int .i64 vr,.int .i64 vy]:=⟨_,rfl⟩;rw [←hS] at hW4';obtain ⟨s1,s2,s3,s4⟩:=stor_at HY2.out [.int .i64 0,.int .i64 0,.int .i64 0,.int .i64 0,.int .i64 0,.int .i64 0,.int .i64 0,.int .i64 0,.int .i64 vt,.int .i64 vl,.int .i64 vw,.int .i64 vr,.int .i64 vy] rfl S hS
     obtain ⟨a9,a8,a7⟩:=box_cells (w1:=W4) (by rw [hW4'];exact balloc jR _) s1;have hb5:jB w W4:=by rw [hW4'];exact balloc (HB2.out.trans (s4 w.heap.size (by omega))) _
     clear hW4 hW4';exact bodyPost_ret (v:=.agg #[.int .i64 0,.int .i64 0,.int .i64 0,.int .i64 0,.int .i64 0,.int .i64 0,.int .i64 0,.int .i64 0,.int .i64 vt,.int .i64 vl,.int .i64 vw,.int .i64 vr,.int .i64 vy]) (by simp [results,Tryz.results95,go_sem,a9]) rfl ⟨rfl,hb5⟩
end
section
open Go.RowKit Go.Lib
theorem WdIn.old {P:Nat→Prop} {w:World} {x:WdH} (h:WdIn P w x):WdIn (fun b=>P b∧b<w.heap.size) w x :=
 ⟨h.sr.old,fun s hs=>(h.it s hs).old,h.cr.old,fun s hs=>(h.ct s hs).old⟩
theorem WdIn.keepP {P:Nat→Prop} {w w':World} {x:WdH} (h:WdIn P w x) (hs:w.heap.size≤w'.heap.size) (hk:∀b,P b→b<w.heap.size→w'.heap[b]?=w.heap[b]?):WdIn P w' x :=
 ⟨h.sr.keepP hs hk,fun s hs'=>(h.it s hs').keepP hs hk,h.cr.keepP hs hk,fun s hs'=>(h.ct s hs').keepP hs hk⟩
def Out (P:Nat→Prop) (n0 n1 b:Nat):Prop:=P b∧(b<n0∨n1≤b)
theorem WdIn.out {P:Nat→Prop} {w W:World} {x:WdH} (h:WdIn P w x) (hb:jB w W):WdIn (Out P w.heap.size W.heap.size) W x :=
 (h.old.below hb).imp (fun b hb'=>⟨hb'.1,.inl hb'.2⟩)
theorem out_new {P:Nat→Prop} {n0 n1:Nat} (hP:∀b,n0≤b→P b) (h:n0≤n1) (b:Nat) (hb:n1≤b):Out P n0 n1 b:=⟨hP b (by omega),.inr hb⟩
theorem WdIn.home {P:Nat→Prop} {n0 n1:Nat} {w W:World} {x:WdH} (h:WdIn (Out P n0 n1) w x) (hs:w.heap.size≤W.heap.size) (hk:∀b,b<n0∨n1≤b→b<w.heap.size→W.heap[b]?=w.heap[b]?):WdIn P W x :=
 (h.keepP hs (fun b hb hlt=>hk b hb.2 hlt)).imp (fun b hb=>hb.1)
def NoteSays (P:Nat→Prop) (w:World) (c:Cfg) (r:Wd × Bool) (e:Ending) (w':World):Prop :=
 ∃x:WdH,e=.returned (.tuple #[.agg (wdC c x).toArray,.bool r.2])∧WdIn P w' x∧absW x=r.1∧jB w w'
theorem note21_any (P:Nat→Prop) (c:Cfg) (rs rh n:Nat) (x:WdH) (id:ByteArray) (a:Adv) (w:World) (hP:∀b,w.heap.size≤b→P b) (hx:WdIn P w x) (hc:RoomOk c rs rh) (hst:okSt c.st=true) (hk:WdOk c rs rh n (absW x)) (hn:n≤100000) (hm:id.size≤maxLen) :
 Calls Tryz.prog 46 #[.agg (wdC c x).toArray,.string id,.agg (advC a).toArray] w (NoteSays P w c (noteW c rs rh (absW x) id a)):=by
 obtain ⟨y,b,hy,hin,hcl⟩:=load21_at P c rs rh n x id w hP hx (by have:=okSt_bd _ hst;omega) hk hm;have CL:=jH hcl;have CO:=jH (fun (W:World) (hW:jB w W)=>show Calls Tryz.prog 89 #[.agg #[.int .i64 c.st,.int .i64 c.sa,.int .i64 c.lo,.int .i64 c.hi,.slice x.sA x.st.length x.sc,.slice x.cA x.cuts.length x.cc,.int .i64 x.ep,.bool x.over],.string id,.agg #[.int .i64 3,.int .i64 0,.int .i64 0,.int .i64 0,.int .i64 0,.int .i64 0,.int .i64 0,.int .i64 0,.int .i64 0,.int .i64 a.tick,.int .i64 a.load,.int .i64 a.want,.int .i64 a.repl,.int .i64 a.why]] W (OneSays (Out P w.heap.size W.heap.size) W c (oneW c rs rh (absW x) id ⟨3,(0,0),pol0,a⟩)) from
  one21_any (Out P w.heap.size W.heap.size) c rs rh n x id ⟨3,(0,0),pol0,a⟩ W (out_new hP hW.size) (hx.out hW) hc hst hk hn hm (show ¬(3:Int)<0 by decide) (show (3:Int)≠1 by decide) (show ¬(3:Int)<3 by decide))
 have HX:=jH hx;obtain ⟨r,hr⟩:∃r,r=noteW c rs rh (absW x) id a:=⟨_,rfl⟩;rw [←hr];unfold noteW at hr;rw [hy] at hr;clear hP hx hc hst hk hn hm hcl hy hin;unfold wdC advC
 cases b
 · rw [if_neg (by decide)] at hr
   dsimp only at hr;have HRR:=jH hr;clear hr CO
   go_enter Tryz.func46,Tryz.ntmps46
   go_wp2_with (first
   | (go_at_call 57
      refine calls_named ?_;intro W1 hW1;have hb:jB w W1:=by rw [hW1];exact balloc (balloc (balloc jR _) _) _
      have k0:W1.heap[w.heap.size]?=some (.cells #[.int .i64 c.st,.int .i64 c.sa,.int .i64 c.lo,.int .i64 c.hi,.slice x.sA x.st.length x.sc,.slice x.cA x.cuts.length x.cc,.int .i64 x.ep,.bool x.over] 32 (0,0)):=by rw [hW1];exact box3_0 _ _ _ _
      have k1:W1.heap[w.heap.size+1]?=some (.cells #[.int .i64 a.tick,.int .i64 a.load,.int .i64 a.want,.int .i64 a.repl,.int .i64 a.why] 74 (0,0)):=by rw [hW1];exact box3_1 _ _ _ _
      have k2:W1.heap[w.heap.size+1+1]?=some (.cells #[.int .i64 0,.int .i64 0,.int .i64 0,.int .i64 0,.slice none 0 0,.slice none 0 0,.int .i64 0,.bool false] 32 (0,0)):=by rw [hW1];exact box3_2 _ _ _ _
      clear hW1;refine (CL.out W1 hb).mono ?_;rintro e w2 ⟨rfl,hb2⟩;have HX2:=jH (jK hb2 k0);have HA2:=jH (jK hb2 k1);have HR2:=jH (jK hb2 k2);have HB2:=jH (bthen hb hb2);obtain ⟨b1,b2,b3⟩:=box_cells jR HX2.out;obtain ⟨c1,c2,c3⟩:=box_cells jR HA2.out;obtain ⟨d1,d2,d3⟩:=box_cells jR HR2.out;clear k0 k1 k2 hb hb2))
   refine post_named ?_;intro W4 hW4;have hW4':W4=(stor w2 (w.heap.size+1+1) 0 [.int .i64 c.st,.int .i64 c.sa,.int .i64 c.lo,.int .i64 c.hi,.slice x.sA x.st.length x.sc,.slice x.cA x.cuts.length x.cc,.int .i64 x.ep,.bool x.over]).alloc (.cells #[.slice y.sA y.nd.smp.length y.sc,.slice y.pA y.nd.past.length y.pc,.int .i64 y.nd.pol.mn,.int .i64 y.nd.pol.mx,.int .i64 y.nd.pol.tg,.int .i64 y.nd.pol.tol,.int .i64 y.nd.pol.win,.int .i64 y.nd.pol.hold,.bool y.nd.ruled,.int .i64 (y.nd.ver:Nat)] 48 (0,0)):=hW4
   obtain ⟨S,hS⟩:∃S,S=stor w2 (w.heap.size+1+1) 0 [.int .i64 c.st,.int .i64 c.sa,.int .i64 c.lo,.int .i64 c.hi,.slice x.sA x.st.length x.sc,.slice x.cA x.cuts.length x.cc,.int .i64 x.ep,.bool x.over]:=⟨_,rfl⟩;rw [←hS] at hW4';obtain ⟨s1,s2,s3,s4⟩:=stor_at HR2.out [.int .i64 c.st,.int .i64 c.sa,.int .i64 c.lo,.int .i64 c.hi,.slice x.sA x.st.length x.sc,.slice x.cA x.cuts.length x.cc,.int .i64 x.ep,.bool x.over] rfl S hS
   obtain ⟨a9,a8,a7⟩:=box_cells (w1:=W4) (by rw [hW4'];exact balloc jR _) s1;have hb5:jB w W4:=by rw [hW4'];exact balloc (HB2.out.trans (s4 w.heap.size (by omega))) _
   clear hW4 hW4';exact bodyPost_ret (v:=.tuple #[.agg #[.int .i64 c.st,.int .i64 c.sa,.int .i64 c.lo,.int .i64 c.hi,.slice x.sA x.st.length x.sc,.slice x.cA x.cuts.length x.cc,.int .i64 x.ep,.bool x.over],.bool false]) (by simp [results,Tryz.results46,go_sem,a9]) rfl ⟨x,by rw [HRR.out];rfl,HX.out.below hb5,by rw [HRR.out],hb5⟩
 · rw [if_pos rfl] at hr
   dsimp only at hr;have HRR:=jH hr;clear hr
   go_enter Tryz.func46,Tryz.ntmps46
   go_wp2_with (first
   | (go_at_call 57
      refine calls_named ?_;intro W1 hW1;have hb:jB w W1:=by rw [hW1];exact balloc (balloc (balloc jR _) _) _
      have k0:W1.heap[w.heap.size]?=some (.cells #[.int .i64 c.st,.int .i64 c.sa,.int .i64 c.lo,.int .i64 c.hi,.slice x.sA x.st.length x.sc,.slice x.cA x.cuts.length x.cc,.int .i64 x.ep,.bool x.over] 32 (0,0)):=by rw [hW1];exact box3_0 _ _ _ _
      have k1:W1.heap[w.heap.size+1]?=some (.cells #[.int .i64 a.tick,.int .i64 a.load,.int .i64 a.want,.int .i64 a.repl,.int .i64 a.why] 74 (0,0)):=by rw [hW1];exact box3_1 _ _ _ _
      have k2:W1.heap[w.heap.size+1+1]?=some (.cells #[.int .i64 0,.int .i64 0,.int .i64 0,.int .i64 0,.slice none 0 0,.slice none 0 0,.int .i64 0,.bool false] 32 (0,0)):=by rw [hW1];exact box3_2 _ _ _ _
      clear hW1;refine (CL.out W1 hb).mono ?_;rintro e w2 ⟨rfl,hb2⟩;have HX2:=jH (jK hb2 k0);have HA2:=jH (jK hb2 k1);have HR2:=jH (jK hb2 k2);have HB2:=jH (bthen hb hb2);obtain ⟨b1,b2,b3⟩:=box_cells jR HX2.out;obtain ⟨c1,c2,c3⟩:=box_cells jR HA2.out;obtain ⟨d1,d2,d3⟩:=box_cells jR HR2.out;clear k0 k1 k2 hb hb2)
   | (go_at_call 89
      refine calls_named ?_;intro W3 hW3;have hb3:jB w2 W3:=by rw [hW3];exact balloc jR _
      clear hW3;refine (CO.out W3 (bthen HB2.out hb3)).mono ?_;rintro e w5 ⟨z,rfl,hz,habs,hb5⟩;have HZ:=jH hz;have HAB:=jH habs;have hq5:=bthen hb3 hb5;have HB5:=jH (bthen HB2.out hq5);have HR5:=jH (jK hq5 HR2.out);have HLT:=jH (show w.heap.size+1+1<W3.heap.size from Nat.lt_of_lt_of_le (jL HR2.out) hb3.size);obtain ⟨e1,e2,e3⟩:=box_cells jR HR5.out;clear hz habs hb3 hb5 hq5 b1 b2 b3 c1 c2 c3 d1 d2 d3
      unfold wdC))
   refine post_named ?_;intro W4 hW4;have hW4':W4=(stor w5 (w.heap.size+1+1) 0 [.int .i64 c.st,.int .i64 c.sa,.int .i64 c.lo,.int .i64 c.hi,.slice z.sA z.st.length z.sc,.slice z.cA z.cuts.length z.cc,.int .i64 z.ep,.bool z.over]).alloc (.cells #[.int .i64 c.st,.int .i64 c.sa,.int .i64 c.lo,.int .i64 c.hi,.slice z.sA z.st.length z.sc,.slice z.cA z.cuts.length z.cc,.int .i64 z.ep,.bool z.over] 32 (0,0)):=hW4
   obtain ⟨S,hS⟩:∃S,S=stor w5 (w.heap.size+1+1) 0 [.int .i64 c.st,.int .i64 c.sa,.int .i64 c.lo,.int .i64 c.hi,.slice z.sA z.st.length z.sc,.slice z.cA z.cuts.length z.cc,.int .i64 z.ep,.bool z.over]:=⟨_,rfl⟩;rw [←hS] at hW4';obtain ⟨s1,s2,s3,s4⟩:=stor_at HR5.out [.int .i64 c.st,.int .i64 c.sa,.int .i64 c.lo,.int .i64 c.hi,.slice z.sA z.st.length z.sc,.slice z.cA z.cuts.length z.cc,.int .i64 z.ep,.bool z.over] rfl S hS
   have hS4:jB S W4:=by rw [hW4'];exact balloc jR _
   obtain ⟨a9,a8,a7⟩:=box_cells hS4 s1;have hb5:jB w W4:=(HB5.out.trans (s4 w.heap.size (by omega))).trans (hS4.mono (by have:=HB5.out.size;omega));clear hW4 hW4';have hlt:=HLT.out;refine bodyPost_ret (v:=.tuple #[.agg #[.int .i64 c.st,.int .i64 c.sa,.int .i64 c.lo,.int .i64 c.hi,.slice z.sA z.st.length z.sc,.slice z.cA z.cuts.length z.cc,.int .i64 z.ep,.bool z.over],.bool true]) (by simp [results,Tryz.results46,go_sem,a9]) rfl ⟨z,by rw [HRR.out];rfl,HZ.out.home (by have:=hS4.size;omega) (fun b hb hlt9=>(hS4.block b (by omega)).trans (s2 b (by omega))),by rw [HRR.out];exact HAB.out,hb5⟩
end
end Go.Proofs.YtkcdhaallnhhmaaGreat
