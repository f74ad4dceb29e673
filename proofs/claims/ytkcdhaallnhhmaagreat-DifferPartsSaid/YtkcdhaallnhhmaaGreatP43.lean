/- Part 43 of the proof: DfPLaw. -/
import Derived.Test.YtkcdhaallnhhmaaGreatP41
import Derived.Test.YtkcdhaallnhhmaaGreatP42
namespace Go.Proofs.YtkcdhaallnhhmaaGreat
set_option linter.unusedSimpArgs false
set_option linter.unusedVariables false
set_option linter.unusedSectionVars false
set_option maxRecDepth 100000
set_option maxHeartbeats 16000000
section
open Go.RowKit Go.Lib
theorem dfP_long1 (p q:Pol) (b d:Bool) (l m:List Smp) (l2 m2:List Adv) (sA sB pA pB:Option Addr) (sc sd pc pd:Nat) (v1 v2:Int) (w:World) (h1:40<l.length) :
 Calls Tryz.prog 4 #[.agg #[.slice sA l.length sc,.slice pA l2.length pc,.int .i64 p.mn,.int .i64 p.mx,.int .i64 p.tg,.int .i64 p.tol,.int .i64 p.win,.int .i64 p.hold,.bool b,.int .i64 v1],.agg #[.slice sB m.length sd,.slice pB m2.length pd,.int .i64 q.mn,.int .i64 q.mx,.int .i64 q.tg,.int .i64 q.tol,.int .i64 q.win,.int .i64 q.hold,.bool d,.int .i64 v2]] w (jP w (.bool true)):=by
 have z1:(40:Int)<(l.length:Int):=by omega
 clear h1;obtain ⟨p1,p2,p3,p4,p5,p6⟩:=p;obtain ⟨q1,q2,q3,q4,q5,q6⟩:=q;dsimp only
 go_enter Tryz.func4,Tryz.ntmps4
 go_wp2_with (first
 | (go_at_call 8
    refine calls_named ?_;intro W1 hW1;have HB1:=jH (show jB w W1 by rw [hW1];exact balloc (balloc jR _) _);have HX1:=jH (show W1.heap[w.heap.size]?=some (.cells #[.slice sA l.length sc,.slice pA l2.length pc,.int .i64 p1,.int .i64 p2,.int .i64 p3,.int .i64 p4,.int .i64 p5,.int .i64 p6,.bool b,.int .i64 v1] 48 (0,0)) by rw [hW1];exact box_old _ _ _);have HX2:=jH (show W1.heap[w.heap.size+1]?=some (.cells #[.slice sB m.length sd,.slice pB m2.length pd,.int .i64 q1,.int .i64 q2,.int .i64 q3,.int .i64 q4,.int .i64 q5,.int .i64 q6,.bool d,.int .i64 v2] 48 (0,0)) by rw [hW1];exact box_new _ _ _)
    clear hW1;refine (awake47_any W1).mono ?_;rintro e w2 ⟨rfl,hb⟩;have HB2:=jH (bthen HB1.out hb);have HY1:=jH (jK hb HX1.out);have HY2:=jH (jK hb HX2.out);obtain ⟨a1,a2,a3⟩:=box_cells jR HY1.out;obtain ⟨a4,a5,a6⟩:=box_cells jR HY2.out;clear hb))
 go_ret
 exact ⟨rfl,HB2.out⟩
theorem dfP_long2 (p q:Pol) (b d:Bool) (l m:List Smp) (l2 m2:List Adv) (sA sB pA pB:Option Addr) (sc sd pc pd:Nat) (v1 v2:Int) (w:World) (h1:l.length≤40) (h2:40<m.length) :
 Calls Tryz.prog 4 #[.agg #[.slice sA l.length sc,.slice pA l2.length pc,.int .i64 p.mn,.int .i64 p.mx,.int .i64 p.tg,.int .i64 p.tol,.int .i64 p.win,.int .i64 p.hold,.bool b,.int .i64 v1],.agg #[.slice sB m.length sd,.slice pB m2.length pd,.int .i64 q.mn,.int .i64 q.mx,.int .i64 q.tg,.int .i64 q.tol,.int .i64 q.win,.int .i64 q.hold,.bool d,.int .i64 v2]] w (jP w (.bool true)):=by
 have z1:¬(40:Int)<(l.length:Int):=by omega
 have z2:(40:Int)<(m.length:Int):=by omega
 clear h1 h2;obtain ⟨p1,p2,p3,p4,p5,p6⟩:=p;obtain ⟨q1,q2,q3,q4,q5,q6⟩:=q;dsimp only
 go_enter Tryz.func4,Tryz.ntmps4
 go_wp2_with (first
 | (go_at_call 8
    refine calls_named ?_;intro W1 hW1;have HB1:=jH (show jB w W1 by rw [hW1];exact balloc (balloc jR _) _);have HX1:=jH (show W1.heap[w.heap.size]?=some (.cells #[.slice sA l.length sc,.slice pA l2.length pc,.int .i64 p1,.int .i64 p2,.int .i64 p3,.int .i64 p4,.int .i64 p5,.int .i64 p6,.bool b,.int .i64 v1] 48 (0,0)) by rw [hW1];exact box_old _ _ _);have HX2:=jH (show W1.heap[w.heap.size+1]?=some (.cells #[.slice sB m.length sd,.slice pB m2.length pd,.int .i64 q1,.int .i64 q2,.int .i64 q3,.int .i64 q4,.int .i64 q5,.int .i64 q6,.bool d,.int .i64 v2] 48 (0,0)) by rw [hW1];exact box_new _ _ _)
    clear hW1;refine (awake47_any W1).mono ?_;rintro e w2 ⟨rfl,hb⟩;have HB2:=jH (bthen HB1.out hb);have HY1:=jH (jK hb HX1.out);have HY2:=jH (jK hb HX2.out);obtain ⟨a1,a2,a3⟩:=box_cells jR HY1.out;obtain ⟨a4,a5,a6⟩:=box_cells jR HY2.out;clear hb))
 go_ret
 exact ⟨rfl,HB2.out⟩
theorem dfP_long3 (p q:Pol) (b d:Bool) (l m:List Smp) (l2 m2:List Adv) (sA sB pA pB:Option Addr) (sc sd pc pd:Nat) (v1 v2:Int) (w:World) (h1:l.length≤40) (h2:m.length≤40) (h3:40<l2.length) :
 Calls Tryz.prog 4 #[.agg #[.slice sA l.length sc,.slice pA l2.length pc,.int .i64 p.mn,.int .i64 p.mx,.int .i64 p.tg,.int .i64 p.tol,.int .i64 p.win,.int .i64 p.hold,.bool b,.int .i64 v1],.agg #[.slice sB m.length sd,.slice pB m2.length pd,.int .i64 q.mn,.int .i64 q.mx,.int .i64 q.tg,.int .i64 q.tol,.int .i64 q.win,.int .i64 q.hold,.bool d,.int .i64 v2]] w (jP w (.bool true)):=by
 have z1:¬(40:Int)<(l.length:Int):=by omega
 have z2:¬(40:Int)<(m.length:Int):=by omega
 have z3:(40:Int)<(l2.length:Int):=by omega
 clear h1 h2 h3;obtain ⟨p1,p2,p3,p4,p5,p6⟩:=p;obtain ⟨q1,q2,q3,q4,q5,q6⟩:=q;dsimp only
 go_enter Tryz.func4,Tryz.ntmps4
 go_wp2_with (first
 | (go_at_call 8
    refine calls_named ?_;intro W1 hW1;have HB1:=jH (show jB w W1 by rw [hW1];exact balloc (balloc jR _) _);have HX1:=jH (show W1.heap[w.heap.size]?=some (.cells #[.slice sA l.length sc,.slice pA l2.length pc,.int .i64 p1,.int .i64 p2,.int .i64 p3,.int .i64 p4,.int .i64 p5,.int .i64 p6,.bool b,.int .i64 v1] 48 (0,0)) by rw [hW1];exact box_old _ _ _);have HX2:=jH (show W1.heap[w.heap.size+1]?=some (.cells #[.slice sB m.length sd,.slice pB m2.length pd,.int .i64 q1,.int .i64 q2,.int .i64 q3,.int .i64 q4,.int .i64 q5,.int .i64 q6,.bool d,.int .i64 v2] 48 (0,0)) by rw [hW1];exact box_new _ _ _)
    clear hW1;refine (awake47_any W1).mono ?_;rintro e w2 ⟨rfl,hb⟩;have HB2:=jH (bthen HB1.out hb);have HY1:=jH (jK hb HX1.out);have HY2:=jH (jK hb HX2.out);obtain ⟨a1,a2,a3⟩:=box_cells jR HY1.out;obtain ⟨a4,a5,a6⟩:=box_cells jR HY2.out;clear hb))
 go_ret
 exact ⟨rfl,HB2.out⟩
theorem dfP_long4 (p q:Pol) (b d:Bool) (l m:List Smp) (l2 m2:List Adv) (sA sB pA pB:Option Addr) (sc sd pc pd:Nat) (v1 v2:Int) (w:World) (h1:l.length≤40) (h2:m.length≤40) (h3:l2.length≤40) (h4:40<m2.length) :
 Calls Tryz.prog 4 #[.agg #[.slice sA l.length sc,.slice pA l2.length pc,.int .i64 p.mn,.int .i64 p.mx,.int .i64 p.tg,.int .i64 p.tol,.int .i64 p.win,.int .i64 p.hold,.bool b,.int .i64 v1],.agg #[.slice sB m.length sd,.slice pB m2.length pd,.int .i64 q.mn,.int .i64 q.mx,.int .i64 q.tg,.int .i64 q.tol,.int .i64 q.win,.int .i64 q.hold,.bool d,.int .i64 v2]] w (jP w (.bool true)):=by
 have z1:¬(40:Int)<(l.length:Int):=by omega
 have z2:¬(40:Int)<(m.length:Int):=by omega
 have z3:¬(40:Int)<(l2.length:Int):=by omega
 have z4:(40:Int)<(m2.length:Int):=by omega
 clear h1 h2 h3 h4;obtain ⟨p1,p2,p3,p4,p5,p6⟩:=p;obtain ⟨q1,q2,q3,q4,q5,q6⟩:=q;dsimp only
 go_enter Tryz.func4,Tryz.ntmps4
 go_wp2_with (first
 | (go_at_call 8
    refine calls_named ?_;intro W1 hW1;have HB1:=jH (show jB w W1 by rw [hW1];exact balloc (balloc jR _) _);have HX1:=jH (show W1.heap[w.heap.size]?=some (.cells #[.slice sA l.length sc,.slice pA l2.length pc,.int .i64 p1,.int .i64 p2,.int .i64 p3,.int .i64 p4,.int .i64 p5,.int .i64 p6,.bool b,.int .i64 v1] 48 (0,0)) by rw [hW1];exact box_old _ _ _);have HX2:=jH (show W1.heap[w.heap.size+1]?=some (.cells #[.slice sB m.length sd,.slice pB m2.length pd,.int .i64 q1,.int .i64 q2,.int .i64 q3,.int .i64 q4,.int .i64 q5,.int .i64 q6,.bool d,.int .i64 v2] 48 (0,0)) by rw [hW1];exact box_new _ _ _)
    clear hW1;refine (awake47_any W1).mono ?_;rintro e w2 ⟨rfl,hb⟩;have HB2:=jH (bthen HB1.out hb);have HY1:=jH (jK hb HX1.out);have HY2:=jH (jK hb HX2.out);obtain ⟨a1,a2,a3⟩:=box_cells jR HY1.out;obtain ⟨a4,a5,a6⟩:=box_cells jR HY2.out;clear hb))
 go_ret
 exact ⟨rfl,HB2.out⟩
theorem dfP_main (p q:Pol) (b d:Bool) (l m:List Smp) (l2 m2:List Adv) (sA sB pA pB:Option Addr) (sc sd pc pd:Nat) (v1 v2:Int) (w:World) (hl:l.length≤40∧m.length≤40∧l2.length≤40∧m2.length≤40)
    (HR1:Hid (RowIn 2 smpC w (.slice sA l.length sc) l)) (HR2:Hid (RowIn 2 smpC w (.slice sB m.length sd) m)) (HA1:Hid (RowIn 5 advC w (.slice pA l2.length pc) l2)) (HA2:Hid (RowIn 5 advC w (.slice pB m2.length pd) m2)) :
    Calls Tryz.prog 4 #[.agg #[.slice sA l.length sc,.slice pA l2.length pc,.int .i64 p.mn,.int .i64 p.mx,.int .i64 p.tg,.int .i64 p.tol,.int .i64 p.win,.int .i64 p.hold,.bool b,.int .i64 v1],.agg #[.slice sB m.length sd,.slice pB m2.length pd,.int .i64 q.mn,.int .i64 q.mx,.int .i64 q.tg,.int .i64 q.tol,.int .i64 q.win,.int .i64 q.hold,.bool d,.int .i64 v2]] w (jP w (.bool true)):=by
  obtain ⟨h1,h2,h3,h4⟩:=hl;have z1:¬(40:Int)<(l.length:Int):=by omega
  have z2:¬(40:Int)<(m.length:Int):=by omega
  have z3:¬(40:Int)<(l2.length:Int):=by omega
  have z4:¬(40:Int)<(m2.length:Int):=by omega
  have HL:=jH (show l.length≤1000000∧m.length≤1000000∧l2.length≤1000000∧m2.length≤1000000 by omega);have CP:=jH (fun W (hW:jB w W)=>parts_core p q b d l m l2 m2 sA sB pA pB sc sd pc pd W (jH (HR1.out.below hW)) (jH (HR2.out.below hW)) (jH (HA1.out.below hW)) (jH (HA2.out.below hW)) HL);have CR:=jH (fun W (hW:jB w W)=>rparts_core p q b d l m l2 m2 sA sB pA pB sc sd pc pd v1 v2 W (jH (HR1.out.below hW)) (jH (HR2.out.below hW)) (jH (HA1.out.below hW)) (jH (HA2.out.below hW)) HL)
  have CF:=jH (fun W (hW:jB w W)=>fresh_core p q b d l m l2.length m2.length sA sB pA pB sc sd pc pd W (jH (HR1.out.below hW)) (jH (HR2.out.below hW)) (jH ⟨HL.out.1,HL.out.2.1⟩));have CG:=jH (fun W (hW:jB w W)=>rfresh_any _ _ l m W (HR1.out.below hW) (HR2.out.below hW) HL.out.1 HL.out.2.1);have HWL:=jH (show (partsB (decide (l=m)) (decide (b=d) && decide (p=q)) (decide (l2=m2))).length≤1000000 from Nat.le_trans (parts_len _ _ _) (by decide))
  have HFL:=jH (show (freshE l m).length≤1000000 from Nat.le_trans (freshE_len _ _) HL.out.2.1);generalize partsB (decide (l=m)) (decide (b=d) && decide (p=q)) (decide (l2=m2))=ws at CP CR HWL;generalize freshE l m=fs at CF CG HFL;obtain ⟨p1,p2,p3,p4,p5,p6⟩:=p;obtain ⟨q1,q2,q3,q4,q5,q6⟩:=q;dsimp only at CP CR CF ⊢;clear HR1 HR2 HA1 HA2 HL h1 h2 h3 h4
  go_enter Tryz.func4,Tryz.ntmps4
  go_upto_region 7 with (first
  | (go_at_call 8
     refine calls_named ?_;intro W1 hW1;have HB1:=jH (show jB w W1 by rw [hW1];exact balloc (balloc jR _) _);have HX1:=jH (show W1.heap[w.heap.size]?=some (.cells #[.slice sA l.length sc,.slice pA l2.length pc,.int .i64 p1,.int .i64 p2,.int .i64 p3,.int .i64 p4,.int .i64 p5,.int .i64 p6,.bool b,.int .i64 v1] 48 (0,0)) by rw [hW1];exact box_old _ _ _);have HX2:=jH (show W1.heap[w.heap.size+1]?=some (.cells #[.slice sB m.length sd,.slice pB m2.length pd,.int .i64 q1,.int .i64 q2,.int .i64 q3,.int .i64 q4,.int .i64 q5,.int .i64 q6,.bool d,.int .i64 v2] 48 (0,0)) by rw [hW1];exact box_new _ _ _)
     clear hW1;refine (awake47_any W1).mono ?_;rintro e w2 ⟨rfl,hb⟩;have HB2:=jH (bthen HB1.out hb);have HY1:=jH (jK hb HX1.out);have HY2:=jH (jK hb HX2.out);obtain ⟨a1,a2,a3⟩:=box_cells jR HY1.out;obtain ⟨a4,a5,a6⟩:=box_cells jR HY2.out;clear hb))
  clear a1 a2 a3 a4 a5 a6;refine name_world ?_;intro W9 hW9;have hb9:jB w2 W9:=by rw [hW9];exact balloc (balloc jR _) _
  have HP:=jH (show W9.heap[w2.heap.size]?=some (.cells #[.slice sA l.length sc,.slice pA l2.length pc,.int .i64 p1,.int .i64 p2,.int .i64 p3,.int .i64 p4,.int .i64 p5,.int .i64 p6,.bool b] 50 (0,0)) by rw [hW9];exact box_old _ _ _);have HQ:=jH (show W9.heap[w2.heap.size+1]?=some (.cells #[.slice sB m.length sd,.slice pB m2.length pd,.int .i64 q1,.int .i64 q2,.int .i64 q3,.int .i64 q4,.int .i64 q5,.int .i64 q6,.bool d] 50 (0,0)) by rw [hW9];exact box_new _ _ _)
  have HZ1:=jH (jK hb9 HY1.out);have HZ2:=jH (jK hb9 HY2.out);have HB9:=jH (bthen HB2.out hb9);have HB9r:=jH (Below.refl W9.heap.size W9);clear hW9 hb9 HX1 HX2 HY1 HY2;refine wp_region_held_drew (S:=(fun U:World=>jB W9 U)) (by kernel_rfl) ?hS1 (fun hHeld=>?_)
  case hS1=>first|with_reducible exact HB9r.out|exact HB9r.out.drew|with_reducible exact HBy1.out|with_reducible exact HBy2.out|with_reducible exact HBy3.out|with_reducible exact HBy4.out|with_reducible exact HBy5.out|with_reducible exact HBy6.out
  refine wpAnyH_take (i:=0) (v:=?v2) rfl (by kernel_rfl) (by kernel_rfl) (by kernel_rfl) (fun _ _ _ h=>h) (Or.inl ⟨by rfl,?hy2⟩) (by assumption) ?_
  case hy2 =>
   intro w' hSw
   (try dsimp only at hSw)
   have qq:=(box_cells hSw HP.out).1;go_simp
   try (with_reducible rfl)
  try simp only [Act.put,jA]
  refine wpAnyH_take (i:=1) (v:=?v3) rfl (by kernel_rfl) (by kernel_rfl) (by kernel_rfl) (fun _ _ _ h=>h) (Or.inl ⟨by rfl,?hy3⟩) (by assumption) ?_
  case hy3 =>
   intro w' hSw
   (try dsimp only at hSw)
   have qq:=(box_cells hSw HQ.out).1;go_simp
   try (with_reducible rfl)
  try simp only [Act.put,jA]
  refine wpAnyH_take (i:=3) (v:=?v4) rfl (by kernel_rfl) (by kernel_rfl) (by kernel_rfl) (fun _ _ _ h=>h) (Or.inl ⟨by rfl,?hy4⟩) (by assumption) ?_
  case hy4 =>
   intro w' hSw
   (try dsimp only at hSw)
   have qq:=(box_cells hSw HZ1.out).1;go_simp
   try (with_reducible rfl)
  try simp only [Act.put,jA]
  refine wpAnyH_take (i:=4) (v:=?v5) rfl (by kernel_rfl) (by kernel_rfl) (by kernel_rfl) (fun _ _ _ h=>h) (Or.inl ⟨by rfl,?hy5⟩) (by assumption) ?_
  case hy5 =>
   intro w' hSw
   (try dsimp only at hSw)
   have qq:=(box_cells hSw HZ2.out).1;go_simp
   try (with_reducible rfl)
  try simp only [Act.put,jA]
  refine wpAnyH_ready (rs:=[2]) (by kernel_rfl) (by simp) ?_;refine AllReadyH.cons rfl (fun K hK=>?_) AllReadyH.nil;go_simp
  go_at_call 19
  refine calls_named ?_;intro V1 hV;have hb1:jB W9 V1:=by rw [hV];first|exact jR|exact jR.drew
  clear hV;refine (CP.out V1 (bthen HB9.out hb1)).mono ?_;rintro e y1 ⟨A1,c1,rfl,ho,hb⟩;have HO1:=jH ho;have HBy1:=jH (bthen hb1 hb);clear hb ho hb1
  try go_simp
  refine hK.out _ _ ?hS6 (fun hHeld2=>?_)
  case hS6=>first|with_reducible exact HB9r.out|exact HB9r.out.drew|with_reducible exact HBy1.out|with_reducible exact HBy2.out|with_reducible exact HBy3.out|with_reducible exact HBy4.out|with_reducible exact HBy5.out|with_reducible exact HBy6.out
  clear hK K hHeld;have hHeld:=hHeld2;clear hHeld2
  try simp only [Act.put,jA]
  refine wpAnyH_ready (rs:=[5]) (by kernel_rfl) (by simp) ?_;refine AllReadyH.cons rfl (fun K hK=>?_) AllReadyH.nil;go_simp
  go_at_call 20
  refine (CR.out y1 (bthen HB9.out HBy1.out)).mono ?_;rintro e y2 ⟨A2,c2,rfl,ho,hb⟩;have HO2:=jH (ho.row eId);have HO12:=jH ((HO1.out.below hb).row eId);have HBy2:=jH (bthen HBy1.out hb);clear hb ho
  try go_simp
  refine hK.out _ _ ?hS7 (fun hHeld2=>?_)
  case hS7=>first|with_reducible exact HB9r.out|exact HB9r.out.drew|with_reducible exact HBy1.out|with_reducible exact HBy2.out|with_reducible exact HBy3.out|with_reducible exact HBy4.out|with_reducible exact HBy5.out|with_reducible exact HBy6.out
  clear hK K hHeld;have hHeld:=hHeld2;clear hHeld2
  try simp only [Act.put,jA]
  refine wpAnyH_ready (rs:=[6]) (by kernel_rfl) (by simp) ?_;refine AllReadyH.cons rfl (fun K hK=>?_) AllReadyH.nil;go_simp
  go_at_call 17
  refine (texts22_any _ _ ws y2 HO12.out HO2.out HWL.out).mono ?_;rintro e y3 ⟨rfl,hb⟩;have HBy3:=jH (bthen HBy2.out hb);clear hb
  try go_simp
  refine hK.out _ _ ?hS8 (fun hHeld2=>?_)
  case hS8=>first|with_reducible exact HB9r.out|exact HB9r.out.drew|with_reducible exact HBy1.out|with_reducible exact HBy2.out|with_reducible exact HBy3.out|with_reducible exact HBy4.out|with_reducible exact HBy5.out|with_reducible exact HBy6.out
  clear hK K hHeld;have hHeld:=hHeld2;clear hHeld2
  try simp only [Act.put,jA]
  refine wpAnyH_take (i:=7) (v:=?v9) rfl (by kernel_rfl) (by kernel_rfl) (by kernel_rfl) (fun _ _ _ h=>h) (Or.inl ⟨by rfl,?hy9⟩) (by assumption) ?_
  case hy9 =>
   intro w' hSw
   (try dsimp only at hSw)
   go_simp
   try (with_reducible rfl)
  try simp only [Act.put,jA]
  refine wpAnyH_take (i:=8) (v:=?v10) rfl (by kernel_rfl) (by kernel_rfl) (by kernel_rfl) (fun _ _ _ h=>h) (Or.inl ⟨by rfl,?hy10⟩) (by assumption) ?_
  case hy10 =>
   intro w' hSw
   (try dsimp only at hSw)
   have qq:=(box_cells hSw HP.out).1;go_simp
   try (with_reducible rfl)
  try simp only [Act.put,jA]
  refine wpAnyH_take (i:=9) (v:=?v11) rfl (by kernel_rfl) (by kernel_rfl) (by kernel_rfl) (fun _ _ _ h=>h) (Or.inl ⟨by rfl,?hy11⟩) (by assumption) ?_
  case hy11 =>
   intro w' hSw
   (try dsimp only at hSw)
   have qq:=(box_cells hSw HQ.out).1;go_simp
   try (with_reducible rfl)
  try simp only [Act.put,jA]
  refine wpAnyH_take (i:=11) (v:=?v12) rfl (by kernel_rfl) (by kernel_rfl) (by kernel_rfl) (fun _ _ _ h=>h) (Or.inl ⟨by rfl,?hy12⟩) (by assumption) ?_
  case hy12 =>
   intro w' hSw
   (try dsimp only at hSw)
   go_simp
   try (with_reducible rfl)
  try simp only [Act.put,jA]
  refine wpAnyH_take (i:=12) (v:=?v13) rfl (by kernel_rfl) (by kernel_rfl) (by kernel_rfl) (fun _ _ _ h=>h) (Or.inl ⟨by rfl,?hy13⟩) (by assumption) ?_
  case hy13 =>
   intro w' hSw
   (try dsimp only at hSw)
   have qq:=(box_cells hSw HZ1.out).1;go_simp
   try (with_reducible rfl)
  try simp only [Act.put,jA]
  refine wpAnyH_take (i:=13) (v:=?v14) rfl (by kernel_rfl) (by kernel_rfl) (by kernel_rfl) (fun _ _ _ h=>h) (Or.inl ⟨by rfl,?hy14⟩) (by assumption) ?_
  case hy14 =>
   intro w' hSw
   (try dsimp only at hSw)
   go_simp
   try (with_reducible rfl)
  try simp only [Act.put,jA]
  refine wpAnyH_take (i:=14) (v:=?v15) rfl (by kernel_rfl) (by kernel_rfl) (by kernel_rfl) (fun _ _ _ h=>h) (Or.inl ⟨by rfl,?hy15⟩) (by assumption) ?_
  case hy15 =>
   intro w' hSw
   (try dsimp only at hSw)
   have qq:=(box_cells hSw HZ2.out).1;go_simp
   try (with_reducible rfl)
  try simp only [Act.put,jA]
  refine wpAnyH_ready (rs:=[10]) (by kernel_rfl) (by simp) ?_;refine AllReadyH.cons rfl (fun K hK=>?_) AllReadyH.nil;go_simp
  go_at_call 22
  refine (CF.out y3 (bthen HB9.out HBy3.out)).mono ?_;rintro e y4 ⟨A4,c4,rfl,ho,hb⟩;have HO4:=jH ho;have HBy4:=jH (bthen HBy3.out hb);clear hb ho
  try go_simp
  refine hK.out _ _ ?hS16 (fun hHeld2=>?_)
  case hS16=>first|with_reducible exact HB9r.out|exact HB9r.out.drew|with_reducible exact HBy1.out|with_reducible exact HBy2.out|with_reducible exact HBy3.out|with_reducible exact HBy4.out|with_reducible exact HBy5.out|with_reducible exact HBy6.out
  clear hK K hHeld;have hHeld:=hHeld2;clear hHeld2
  try simp only [Act.put,jA]
  refine wpAnyH_ready (rs:=[15]) (by kernel_rfl) (by simp) ?_;refine AllReadyH.cons rfl (fun K hK=>?_) AllReadyH.nil;go_simp
  go_at_call 23
  refine (CG.out y4 (bthen HB9.out HBy4.out)).mono ?_;rintro e y5 ⟨A5,c5,rfl,ho,hb⟩;have HO5:=jH (ho.row eSmp);have HO45:=jH ((HO4.out.below hb).row eSmp);have HBy5:=jH (bthen HBy4.out hb);clear hb ho
  try go_simp
  refine hK.out _ _ ?hS17 (fun hHeld2=>?_)
  case hS17=>first|with_reducible exact HB9r.out|exact HB9r.out.drew|with_reducible exact HBy1.out|with_reducible exact HBy2.out|with_reducible exact HBy3.out|with_reducible exact HBy4.out|with_reducible exact HBy5.out|with_reducible exact HBy6.out
  clear hK K hHeld;have hHeld:=hHeld2;clear hHeld2
  try simp only [Act.put,jA]
  refine wpAnyH_ready (rs:=[16]) (by kernel_rfl) (by simp) ?_;refine AllReadyH.cons rfl (fun K hK=>?_) AllReadyH.nil;go_simp
  go_at_call 21
  refine (r8same_any _ _ fs y5 HO45.out HO5.out HFL.out).mono ?_;rintro e y6 ⟨rfl,hb⟩;have HBy6:=jH (bthen HBy5.out hb);clear hb
  try go_simp
  refine hK.out _ _ ?hS18 (fun hHeld2=>?_)
  case hS18=>first|with_reducible exact HB9r.out|exact HB9r.out.drew|with_reducible exact HBy1.out|with_reducible exact HBy2.out|with_reducible exact HBy3.out|with_reducible exact HBy4.out|with_reducible exact HBy5.out|with_reducible exact HBy6.out
  clear hK K hHeld;have hHeld:=hHeld2;clear hHeld2
  try simp only [Act.put,jA]
  refine wpAnyH_take (i:=17) (v:=?v19) rfl (by kernel_rfl) (by kernel_rfl) (by kernel_rfl) (fun _ _ _ h=>h) (Or.inl ⟨by rfl,?hy19⟩) (by assumption) ?_
  case hy19 =>
   intro w' hSw
   (try dsimp only at hSw)
   go_simp
   try (with_reducible rfl)
  try simp only [Act.put,jA]
  refine wpAnyH_take (i:=18) (v:=?v20) rfl (by kernel_rfl) (by kernel_rfl) (by kernel_rfl) (fun _ _ _ h=>h) (Or.inl ⟨by rfl,?hy20⟩) (by assumption) ?_
  case hy20 =>
   intro w' hSw
   (try dsimp only at hSw)
   go_simp
   try (with_reducible rfl)
  try simp only [Act.put,jA]
  refine wpAnyH_done (by kernel_rfl) ?_ _;go_wp2_with fail
  go_ret
  exact ⟨rfl,bthen HB9.out HBy6.out⟩
theorem dfP_gen (p q:Pol) (b d:Bool) (l m:List Smp) (l2 m2:List Adv) (sA sB pA pB:Option Addr) (sc sd pc pd:Nat) (v1 v2:Int) (w:World)
    (HR1:Hid (RowIn 2 smpC w (.slice sA l.length sc) l)) (HR2:Hid (RowIn 2 smpC w (.slice sB m.length sd) m)) (HA1:Hid (RowIn 5 advC w (.slice pA l2.length pc) l2)) (HA2:Hid (RowIn 5 advC w (.slice pB m2.length pd) m2)) :
    Calls Tryz.prog 4 #[.agg #[.slice sA l.length sc,.slice pA l2.length pc,.int .i64 p.mn,.int .i64 p.mx,.int .i64 p.tg,.int .i64 p.tol,.int .i64 p.win,.int .i64 p.hold,.bool b,.int .i64 v1],.agg #[.slice sB m.length sd,.slice pB m2.length pd,.int .i64 q.mn,.int .i64 q.mx,.int .i64 q.tg,.int .i64 q.tol,.int .i64 q.win,.int .i64 q.hold,.bool d,.int .i64 v2]] w (jP w (.bool true)):=by
  by_cases k1:l.length≤40
  · by_cases k2:m.length≤40
    · by_cases k3:l2.length≤40
      · by_cases k4:m2.length≤40
        · exact dfP_main p q b d l m l2 m2 sA sB pA pB sc sd pc pd v1 v2 w ⟨k1,k2,k3,k4⟩ HR1 HR2 HA1 HA2
        · exact dfP_long4 p q b d l m l2 m2 sA sB pA pB sc sd pc pd v1 v2 w k1 k2 k3 (by omega)
      · exact dfP_long3 p q b d l m l2 m2 sA sB pA pB sc sd pc pd v1 v2 w k1 k2 (by omega)
    · exact dfP_long2 p q b d l m l2 m2 sA sB pA pB sc sd pc pd v1 v2 w k1 (by omega)
  · exact dfP_long1 p q b d l m l2 m2 sA sB pA pB sc sd pc pd v1 v2 w (by omega)
end
end Go.Proofs.YtkcdhaallnhhmaaGreat
