/- Part 50 of the proof: DfPart. -/
import Derived.Test.YtkcdhaallnhhmaaGreatQ36
namespace Go.Proofs.YtkcdhaallnhhmaaGreat
set_option linter.unusedSimpArgs false
set_option linter.unusedVariables false
set_option linter.unusedSectionVars false
set_option maxRecDepth 100000
set_option maxHeartbeats 16000000
section
open Go.RowKit Go.Lib
def smpS:ByteArray:=⟨#[115,97,109,112,108,101,115]⟩
def polS:ByteArray:=⟨#[112,111,108,105,99,121]⟩
def pastS:ByteArray:=⟨#[112,97,115,116]⟩
def partsB (s r p:Bool):List ByteArray:=(if s then [] else [smpS])++((if r then [] else [polS])++(if p then [] else [pastS]))
def partsN (x y:Nd):List ByteArray:=partsB (decide (x.smp=y.smp)) (decide (x.ruled=y.ruled) && decide (x.pol=y.pol)) (decide (x.past=y.past))
theorem nePol (p q:Pol) (U:World):(binOp .neq 46 (.agg #[.int .i64 p.mn,.int .i64 p.mx,.int .i64 p.tg,.int .i64 p.tol,.int .i64 p.win,.int .i64 p.hold]) (.agg #[.int .i64 q.mn,.int .i64 q.mx,.int .i64 q.tg,.int .i64 q.tol,.int .i64 q.win,.int .i64 q.hold])).run Tryz.prog U=.ok (.bool (!decide (p=q))) U:=by
 obtain ⟨a1,a2,a3,a4,a5,a6⟩:=p;obtain ⟨b1,b2,b3,b4,b5,b6⟩:=q;dsimp only;go_simp
 by_cases h1:a1=b1
 · by_cases h2:a2=b2
   · by_cases h3:a3=b3
     · by_cases h4:a4=b4
       · by_cases h5:a5=b5
         · by_cases h6:a6=b6
           · simp [h1,h2,h3,h4,h5,h6]
           · simp [h1,h2,h3,h4,h5,h6]
         · simp [h1,h2,h3,h4,h5]
       · simp [h1,h2,h3,h4]
     · simp [h1,h2,h3]
   · simp [h1,h2]
 · simp [h1]
def WordsSays (w:World) (l:List ByteArray) (e:Ending) (w':World):Prop:=∃A c,e=.returned (.slice A l.length c)∧OwnL idC 9 1 w.heap.size w' (.slice A l.length c) l∧jB w w'
theorem parts_core (p q:Pol) (b d:Bool) (l m:List Smp) (l2 m2:List Adv) (sA sB pA pB:Option Addr) (sc sd pc pd:Nat) (w:World)
    (HR1:Hid (RowIn 2 smpC w (.slice sA l.length sc) l)) (HR2:Hid (RowIn 2 smpC w (.slice sB m.length sd) m)) (HA1:Hid (RowIn 5 advC w (.slice pA l2.length pc) l2)) (HA2:Hid (RowIn 5 advC w (.slice pB m2.length pd) m2))
    (HL:Hid (l.length≤1000000∧m.length≤1000000∧l2.length≤1000000∧m2.length≤1000000)) :
    Calls Tryz.prog 19 #[.agg #[.slice sA l.length sc,.slice pA l2.length pc,.int .i64 p.mn,.int .i64 p.mx,.int .i64 p.tg,.int .i64 p.tol,.int .i64 p.win,.int .i64 p.hold,.bool b],.agg #[.slice sB m.length sd,.slice pB m2.length pd,.int .i64 q.mn,.int .i64 q.mx,.int .i64 q.tg,.int .i64 q.tol,.int .i64 q.win,.int .i64 q.hold,.bool d]] w (WordsSays w (partsB (decide (l=m)) (decide (b=d) && decide (p=q)) (decide (l2=m2)))):=by
  have EP:=nePol p q;obtain ⟨pq,hpq⟩:∃r,r=decide (p=q):=⟨_,rfl⟩;rw [←hpq] at EP ⊢;have CS:=jH (fun W (hW:jB w W)=>sEqual_any _ _ l m W (HR1.out.below hW) (HR2.out.below hW) HL.out.1 HL.out.2.1);have CA:=jH (fun W (hW:jB w W)=>aEqual_any _ _ l2 m2 W (HA1.out.below hW) (HA2.out.below hW) HL.out.2.2.1 HL.out.2.2.2);obtain ⟨sb,hsb⟩:∃r,r=decide (l=m):=⟨_,rfl⟩;obtain ⟨ab,hab⟩:∃r,r=decide (l2=m2):=⟨_,rfl⟩
  rw [←hsb] at CS ⊢;rw [←hab] at CA ⊢;clear hpq hsb hab HR1 HR2 HA1 HA2 HL;obtain ⟨p1,p2,p3,p4,p5,p6⟩:=p;obtain ⟨q1,q2,q3,q4,q5,q6⟩:=q;dsimp only at EP ⊢;generalize l.length=n1 at CS ⊢;generalize m.length=n2 at CS ⊢;generalize l2.length=n3 at CA ⊢;generalize m2.length=n4 at CA ⊢;clear l m l2 m2
  go_enter Tryz.func19,Tryz.ntmps19
  go_upto_region 2 with fail
  refine name_world ?_;intro W1 hW1;have HB1:=jH (show jB w W1 by rw [hW1];exact balloc (balloc jR _) _);have HX1:=jH (show W1.heap[w.heap.size]?=some (.cells #[.slice sA n1 sc,.slice pA n3 pc,.int .i64 p1,.int .i64 p2,.int .i64 p3,.int .i64 p4,.int .i64 p5,.int .i64 p6,.bool b] 50 (0,0)) by rw [hW1];exact box_old _ _ _);have HX2:=jH (show W1.heap[w.heap.size+1]?=some (.cells #[.slice sB n2 sd,.slice pB n4 pd,.int .i64 q1,.int .i64 q2,.int .i64 q3,.int .i64 q4,.int .i64 q5,.int .i64 q6,.bool d] 50 (0,0)) by rw [hW1];exact box_new _ _ _)
  clear hW1;obtain ⟨a1,a2,a3⟩:=box_cells jR HX1.out;obtain ⟨a4,a5,a6⟩:=box_cells jR HX2.out;have HLT:=jH (show w.heap.size≤W1.heap.size from HB1.out.size)
  cases sb with
  | false =>
    cases ab with
    | false =>
      by_cases hr:b=d
      · subst hr
        have z1:(b == b)=true:=by simp
        cases pq with
        | false =>
          have HRES:=jH (show partsB false (decide (b=b) && false) false=[smpS,polS,pastS] from by rw [show (decide (b=b) && false)=false from by simp];rfl)
          as_aux_lemma =>
           go_wp2_with (first
            | (at_builtin
               refine wpList_appendL eId (by rfl) (by rfl) W1.heap.size o4 [pastS] (.slice A4 o4.length c4) _ (by rfl) (by rfl) (HO4.out.below HK5.out |>.below (balloc jR _)) (RowIn.lit (n:=1) (f:=idC) w5 pastS _ _ _ (by first|rfl|simp) rfl) (by rw [HOU4.out];simp) (by have:=HB5.out.size;simp;omega) ?_;intro o6 A6 c6 w6 hout hown hg hor;have HO6:=jH hown;have HOU6:=jH (show o6=[smpS,polS]++[pastS] from by rw [hout,HOU4.out] <;> rfl)
               have hb9:jB W1 w6:=(bthen HB5.out (balloc jR _)).trans (grown_own hg HO4.out (by have:=HB5.out.size;simp;omega));have HB6:=jH hb9;have HBW6:=jH (bthen HB1.out hb9);clear a1 a2 a3 a4 a5 a6;obtain ⟨a1,a2,a3⟩:=box_cells HB6.out HX1.out;obtain ⟨a4,a5,a6⟩:=box_cells HB6.out HX2.out;clear hout hown hg hor hb9)
            | (go_at_call 59
               refine (CA.out w4 HBW4.out).mono ?_;rintro e w5 ⟨rfl,hb⟩;have HB5:=jH (show jB W1 w5 from bthen HB4.out hb);have HBW5:=jH (bthen HBW4.out hb);clear a1 a2 a3 a4 a5 a6;obtain ⟨a1,a2,a3⟩:=box_cells HB5.out HX1.out;obtain ⟨a4,a5,a6⟩:=box_cells HB5.out HX2.out;have HK5:=jH hb;clear hb)
            | (at_builtin
               refine wpList_appendL eId (by rfl) (by rfl) W1.heap.size o3 [polS] (.slice A3 o3.length c3) _ (by rfl) (by rfl) (HO3.out |>.below (balloc jR _)) (RowIn.lit (n:=1) (f:=idC) w3 polS _ _ _ (by first|rfl|simp) rfl) (by rw [HOU3.out];simp) (by have:=HB3.out.size;simp;omega) ?_;intro o4 A4 c4 w4 hout hown hg hor;have HO4:=jH hown;have HOU4:=jH (show o4=[smpS]++[polS] from by rw [hout,HOU3.out] <;> rfl)
               have hb9:jB W1 w4:=(bthen HB3.out (balloc jR _)).trans (grown_own hg HO3.out (by have:=HB3.out.size;simp;omega));have HB4:=jH hb9;have HBW4:=jH (bthen HB1.out hb9);clear a1 a2 a3 a4 a5 a6;obtain ⟨a1,a2,a3⟩:=box_cells HB4.out HX1.out;obtain ⟨a4,a5,a6⟩:=box_cells HB4.out HX2.out;clear hout hown hg hor hb9)
            | (at_builtin
               refine wpList_appendL eId (by rfl) (by rfl) W1.heap.size [] [smpS] (.slice none 0 0) _ (by rfl) (by rfl) (OwnL.nil _ _) (RowIn.lit (n:=1) (f:=idC) w2 smpS _ _ _ (by first|rfl|simp) rfl) (by simp) (by have:=HB2.out.size;simp;omega) ?_;intro o3 A3 c3 w3 hout hown hg hor;have HO3:=jH hown;have HOU3:=jH (show o3=[smpS] from hout);have hb9:jB W1 w3:=(bthen HB2.out (balloc jR _)).trans (grown_own hg (OwnL.nil (f:=idC) (e:=9) (n:=1) W1.heap.size W1) (by have:=HB2.out.size;simp;omega))
               have HB3:=jH hb9;have HBW3:=jH (bthen HB1.out hb9);clear a1 a2 a3 a4 a5 a6;obtain ⟨a1,a2,a3⟩:=box_cells HB3.out HX1.out;obtain ⟨a4,a5,a6⟩:=box_cells HB3.out HX2.out;clear hout hown hg hor hb9)
            | (go_at_call 58
               refine (CS.out W1 HB1.out).mono ?_;rintro e w2 ⟨rfl,hb⟩;have HB2:=jH (show jB W1 w2 from hb);have HBW2:=jH (bthen HB1.out hb);clear a1 a2 a3 a4 a5 a6;obtain ⟨a1,a2,a3⟩:=box_cells HB2.out HX1.out;obtain ⟨a4,a5,a6⟩:=box_cells HB2.out HX2.out;clear hb)
           )
           go_ret
           refine ⟨A6,c6,?_,?_,HBW6.out⟩
           · rw [HRES.out];have h9:=HOU6.out;subst h9;rfl
           · rw [HRES.out];have h9:=HO6.out;rw [HOU6.out] at h9;exact h9.lower HLT.out
        | true =>
          have HRES:=jH (show partsB false (decide (b=b) && true) false=[smpS,pastS] from by rw [show (decide (b=b) && true)=true from by simp];rfl)
          as_aux_lemma =>
           go_wp2_with (first
            | (at_builtin
               refine wpList_appendL eId (by rfl) (by rfl) W1.heap.size o3 [pastS] (.slice A3 o3.length c3) _ (by rfl) (by rfl) (HO3.out.below HK4.out |>.below (balloc jR _)) (RowIn.lit (n:=1) (f:=idC) w4 pastS _ _ _ (by first|rfl|simp) rfl) (by rw [HOU3.out];simp) (by have:=HB4.out.size;simp;omega) ?_;intro o5 A5 c5 w5 hout hown hg hor;have HO5:=jH hown;have HOU5:=jH (show o5=[smpS]++[pastS] from by rw [hout,HOU3.out] <;> rfl)
               have hb9:jB W1 w5:=(bthen HB4.out (balloc jR _)).trans (grown_own hg HO3.out (by have:=HB4.out.size;simp;omega));have HB5:=jH hb9;have HBW5:=jH (bthen HB1.out hb9);clear a1 a2 a3 a4 a5 a6;obtain ⟨a1,a2,a3⟩:=box_cells HB5.out HX1.out;obtain ⟨a4,a5,a6⟩:=box_cells HB5.out HX2.out;clear hout hown hg hor hb9)
            | (go_at_call 59
               refine (CA.out w3 HBW3.out).mono ?_;rintro e w4 ⟨rfl,hb⟩;have HB4:=jH (show jB W1 w4 from bthen HB3.out hb);have HBW4:=jH (bthen HBW3.out hb);clear a1 a2 a3 a4 a5 a6;obtain ⟨a1,a2,a3⟩:=box_cells HB4.out HX1.out;obtain ⟨a4,a5,a6⟩:=box_cells HB4.out HX2.out;have HK4:=jH hb;clear hb)
            | (at_builtin
               refine wpList_appendL eId (by rfl) (by rfl) W1.heap.size [] [smpS] (.slice none 0 0) _ (by rfl) (by rfl) (OwnL.nil _ _) (RowIn.lit (n:=1) (f:=idC) w2 smpS _ _ _ (by first|rfl|simp) rfl) (by simp) (by have:=HB2.out.size;simp;omega) ?_;intro o3 A3 c3 w3 hout hown hg hor;have HO3:=jH hown;have HOU3:=jH (show o3=[smpS] from hout);have hb9:jB W1 w3:=(bthen HB2.out (balloc jR _)).trans (grown_own hg (OwnL.nil (f:=idC) (e:=9) (n:=1) W1.heap.size W1) (by have:=HB2.out.size;simp;omega))
               have HB3:=jH hb9;have HBW3:=jH (bthen HB1.out hb9);clear a1 a2 a3 a4 a5 a6;obtain ⟨a1,a2,a3⟩:=box_cells HB3.out HX1.out;obtain ⟨a4,a5,a6⟩:=box_cells HB3.out HX2.out;clear hout hown hg hor hb9)
            | (go_at_call 58
               refine (CS.out W1 HB1.out).mono ?_;rintro e w2 ⟨rfl,hb⟩;have HB2:=jH (show jB W1 w2 from hb);have HBW2:=jH (bthen HB1.out hb);clear a1 a2 a3 a4 a5 a6;obtain ⟨a1,a2,a3⟩:=box_cells HB2.out HX1.out;obtain ⟨a4,a5,a6⟩:=box_cells HB2.out HX2.out;clear hb)
           )
           go_ret
           refine ⟨A5,c5,?_,?_,HBW5.out⟩
           · rw [HRES.out];have h9:=HOU5.out;subst h9;rfl
           · rw [HRES.out];have h9:=HO5.out;rw [HOU5.out] at h9;exact h9.lower HLT.out
      · have z1:(b == d)=false:=by simpa using hr
        have z2:(b != d)=true:=by simpa using hr
        have HRES:=jH (show partsB false (decide (b=d) && pq) false=[smpS,polS,pastS] from by rw [show (decide (b=d) && pq)=false from by simp [hr]];rfl);clear hr
        as_aux_lemma =>
         go_wp2_with (first
          | (at_builtin
             refine wpList_appendL eId (by rfl) (by rfl) W1.heap.size o4 [pastS] (.slice A4 o4.length c4) _ (by rfl) (by rfl) (HO4.out.below HK5.out |>.below (balloc jR _)) (RowIn.lit (n:=1) (f:=idC) w5 pastS _ _ _ (by first|rfl|simp) rfl) (by rw [HOU4.out];simp) (by have:=HB5.out.size;simp;omega) ?_;intro o6 A6 c6 w6 hout hown hg hor;have HO6:=jH hown;have HOU6:=jH (show o6=[smpS,polS]++[pastS] from by rw [hout,HOU4.out] <;> rfl)
             have hb9:jB W1 w6:=(bthen HB5.out (balloc jR _)).trans (grown_own hg HO4.out (by have:=HB5.out.size;simp;omega));have HB6:=jH hb9;have HBW6:=jH (bthen HB1.out hb9);clear a1 a2 a3 a4 a5 a6;obtain ⟨a1,a2,a3⟩:=box_cells HB6.out HX1.out;obtain ⟨a4,a5,a6⟩:=box_cells HB6.out HX2.out;clear hout hown hg hor hb9)
          | (go_at_call 59
             refine (CA.out w4 HBW4.out).mono ?_;rintro e w5 ⟨rfl,hb⟩;have HB5:=jH (show jB W1 w5 from bthen HB4.out hb);have HBW5:=jH (bthen HBW4.out hb);clear a1 a2 a3 a4 a5 a6;obtain ⟨a1,a2,a3⟩:=box_cells HB5.out HX1.out;obtain ⟨a4,a5,a6⟩:=box_cells HB5.out HX2.out;have HK5:=jH hb;clear hb)
          | (at_builtin
             refine wpList_appendL eId (by rfl) (by rfl) W1.heap.size o3 [polS] (.slice A3 o3.length c3) _ (by rfl) (by rfl) (HO3.out |>.below (balloc jR _)) (RowIn.lit (n:=1) (f:=idC) w3 polS _ _ _ (by first|rfl|simp) rfl) (by rw [HOU3.out];simp) (by have:=HB3.out.size;simp;omega) ?_;intro o4 A4 c4 w4 hout hown hg hor;have HO4:=jH hown;have HOU4:=jH (show o4=[smpS]++[polS] from by rw [hout,HOU3.out] <;> rfl)
             have hb9:jB W1 w4:=(bthen HB3.out (balloc jR _)).trans (grown_own hg HO3.out (by have:=HB3.out.size;simp;omega));have HB4:=jH hb9;have HBW4:=jH (bthen HB1.out hb9);clear a1 a2 a3 a4 a5 a6;obtain ⟨a1,a2,a3⟩:=box_cells HB4.out HX1.out;obtain ⟨a4,a5,a6⟩:=box_cells HB4.out HX2.out;clear hout hown hg hor hb9)
          | (at_builtin
             refine wpList_appendL eId (by rfl) (by rfl) W1.heap.size [] [smpS] (.slice none 0 0) _ (by rfl) (by rfl) (OwnL.nil _ _) (RowIn.lit (n:=1) (f:=idC) w2 smpS _ _ _ (by first|rfl|simp) rfl) (by simp) (by have:=HB2.out.size;simp;omega) ?_;intro o3 A3 c3 w3 hout hown hg hor;have HO3:=jH hown;have HOU3:=jH (show o3=[smpS] from hout);have hb9:jB W1 w3:=(bthen HB2.out (balloc jR _)).trans (grown_own hg (OwnL.nil (f:=idC) (e:=9) (n:=1) W1.heap.size W1) (by have:=HB2.out.size;simp;omega))
             have HB3:=jH hb9;have HBW3:=jH (bthen HB1.out hb9);clear a1 a2 a3 a4 a5 a6;obtain ⟨a1,a2,a3⟩:=box_cells HB3.out HX1.out;obtain ⟨a4,a5,a6⟩:=box_cells HB3.out HX2.out;clear hout hown hg hor hb9)
          | (go_at_call 58
             refine (CS.out W1 HB1.out).mono ?_;rintro e w2 ⟨rfl,hb⟩;have HB2:=jH (show jB W1 w2 from hb);have HBW2:=jH (bthen HB1.out hb);clear a1 a2 a3 a4 a5 a6;obtain ⟨a1,a2,a3⟩:=box_cells HB2.out HX1.out;obtain ⟨a4,a5,a6⟩:=box_cells HB2.out HX2.out;clear hb)
         )
         go_ret
         refine ⟨A6,c6,?_,?_,HBW6.out⟩
         · rw [HRES.out];have h9:=HOU6.out;subst h9;rfl
         · rw [HRES.out];have h9:=HO6.out;rw [HOU6.out] at h9;exact h9.lower HLT.out
    | true =>
      by_cases hr:b=d
      · subst hr
        have z1:(b == b)=true:=by simp
        cases pq with
        | false =>
          have HRES:=jH (show partsB false (decide (b=b) && false) true=[smpS,polS] from by rw [show (decide (b=b) && false)=false from by simp];rfl)
          as_aux_lemma =>
           go_wp2_with (first
            | (go_at_call 59
               refine (CA.out w4 HBW4.out).mono ?_;rintro e w5 ⟨rfl,hb⟩;have HB5:=jH (show jB W1 w5 from bthen HB4.out hb);have HBW5:=jH (bthen HBW4.out hb);clear a1 a2 a3 a4 a5 a6;obtain ⟨a1,a2,a3⟩:=box_cells HB5.out HX1.out;obtain ⟨a4,a5,a6⟩:=box_cells HB5.out HX2.out;have HK5:=jH hb;clear hb)
            | (at_builtin
               refine wpList_appendL eId (by rfl) (by rfl) W1.heap.size o3 [polS] (.slice A3 o3.length c3) _ (by rfl) (by rfl) (HO3.out |>.below (balloc jR _)) (RowIn.lit (n:=1) (f:=idC) w3 polS _ _ _ (by first|rfl|simp) rfl) (by rw [HOU3.out];simp) (by have:=HB3.out.size;simp;omega) ?_;intro o4 A4 c4 w4 hout hown hg hor;have HO4:=jH hown;have HOU4:=jH (show o4=[smpS]++[polS] from by rw [hout,HOU3.out] <;> rfl)
               have hb9:jB W1 w4:=(bthen HB3.out (balloc jR _)).trans (grown_own hg HO3.out (by have:=HB3.out.size;simp;omega));have HB4:=jH hb9;have HBW4:=jH (bthen HB1.out hb9);clear a1 a2 a3 a4 a5 a6;obtain ⟨a1,a2,a3⟩:=box_cells HB4.out HX1.out;obtain ⟨a4,a5,a6⟩:=box_cells HB4.out HX2.out;clear hout hown hg hor hb9)
            | (at_builtin
               refine wpList_appendL eId (by rfl) (by rfl) W1.heap.size [] [smpS] (.slice none 0 0) _ (by rfl) (by rfl) (OwnL.nil _ _) (RowIn.lit (n:=1) (f:=idC) w2 smpS _ _ _ (by first|rfl|simp) rfl) (by simp) (by have:=HB2.out.size;simp;omega) ?_;intro o3 A3 c3 w3 hout hown hg hor;have HO3:=jH hown;have HOU3:=jH (show o3=[smpS] from hout);have hb9:jB W1 w3:=(bthen HB2.out (balloc jR _)).trans (grown_own hg (OwnL.nil (f:=idC) (e:=9) (n:=1) W1.heap.size W1) (by have:=HB2.out.size;simp;omega))
               have HB3:=jH hb9;have HBW3:=jH (bthen HB1.out hb9);clear a1 a2 a3 a4 a5 a6;obtain ⟨a1,a2,a3⟩:=box_cells HB3.out HX1.out;obtain ⟨a4,a5,a6⟩:=box_cells HB3.out HX2.out;clear hout hown hg hor hb9)
            | (go_at_call 58
               refine (CS.out W1 HB1.out).mono ?_;rintro e w2 ⟨rfl,hb⟩;have HB2:=jH (show jB W1 w2 from hb);have HBW2:=jH (bthen HB1.out hb);clear a1 a2 a3 a4 a5 a6;obtain ⟨a1,a2,a3⟩:=box_cells HB2.out HX1.out;obtain ⟨a4,a5,a6⟩:=box_cells HB2.out HX2.out;clear hb)
           )
           go_ret
           refine ⟨A4,c4,?_,?_,HBW5.out⟩
           · rw [HRES.out];have h9:=HOU4.out;subst h9;rfl
           · rw [HRES.out];have h9:=(HO4.out.below HK5.out);rw [HOU4.out] at h9;exact h9.lower HLT.out
        | true =>
          have HRES:=jH (show partsB false (decide (b=b) && true) true=[smpS] from by rw [show (decide (b=b) && true)=true from by simp];rfl)
          as_aux_lemma =>
           go_wp2_with (first
            | (go_at_call 59
               refine (CA.out w3 HBW3.out).mono ?_;rintro e w4 ⟨rfl,hb⟩;have HB4:=jH (show jB W1 w4 from bthen HB3.out hb);have HBW4:=jH (bthen HBW3.out hb);clear a1 a2 a3 a4 a5 a6;obtain ⟨a1,a2,a3⟩:=box_cells HB4.out HX1.out;obtain ⟨a4,a5,a6⟩:=box_cells HB4.out HX2.out;have HK4:=jH hb;clear hb)
            | (at_builtin
               refine wpList_appendL eId (by rfl) (by rfl) W1.heap.size [] [smpS] (.slice none 0 0) _ (by rfl) (by rfl) (OwnL.nil _ _) (RowIn.lit (n:=1) (f:=idC) w2 smpS _ _ _ (by first|rfl|simp) rfl) (by simp) (by have:=HB2.out.size;simp;omega) ?_;intro o3 A3 c3 w3 hout hown hg hor;have HO3:=jH hown;have HOU3:=jH (show o3=[smpS] from hout);have hb9:jB W1 w3:=(bthen HB2.out (balloc jR _)).trans (grown_own hg (OwnL.nil (f:=idC) (e:=9) (n:=1) W1.heap.size W1) (by have:=HB2.out.size;simp;omega))
               have HB3:=jH hb9;have HBW3:=jH (bthen HB1.out hb9);clear a1 a2 a3 a4 a5 a6;obtain ⟨a1,a2,a3⟩:=box_cells HB3.out HX1.out;obtain ⟨a4,a5,a6⟩:=box_cells HB3.out HX2.out;clear hout hown hg hor hb9)
            | (go_at_call 58
               refine (CS.out W1 HB1.out).mono ?_;rintro e w2 ⟨rfl,hb⟩;have HB2:=jH (show jB W1 w2 from hb);have HBW2:=jH (bthen HB1.out hb);clear a1 a2 a3 a4 a5 a6;obtain ⟨a1,a2,a3⟩:=box_cells HB2.out HX1.out;obtain ⟨a4,a5,a6⟩:=box_cells HB2.out HX2.out;clear hb)
           )
           go_ret
           refine ⟨A3,c3,?_,?_,HBW4.out⟩
           · rw [HRES.out];have h9:=HOU3.out;subst h9;rfl
           · rw [HRES.out];have h9:=(HO3.out.below HK4.out);rw [HOU3.out] at h9;exact h9.lower HLT.out
      · have z1:(b == d)=false:=by simpa using hr
        have z2:(b != d)=true:=by simpa using hr
        have HRES:=jH (show partsB false (decide (b=d) && pq) true=[smpS,polS] from by rw [show (decide (b=d) && pq)=false from by simp [hr]];rfl);clear hr
        as_aux_lemma =>
         go_wp2_with (first
          | (go_at_call 59
             refine (CA.out w4 HBW4.out).mono ?_;rintro e w5 ⟨rfl,hb⟩;have HB5:=jH (show jB W1 w5 from bthen HB4.out hb);have HBW5:=jH (bthen HBW4.out hb);clear a1 a2 a3 a4 a5 a6;obtain ⟨a1,a2,a3⟩:=box_cells HB5.out HX1.out;obtain ⟨a4,a5,a6⟩:=box_cells HB5.out HX2.out;have HK5:=jH hb;clear hb)
          | (at_builtin
             refine wpList_appendL eId (by rfl) (by rfl) W1.heap.size o3 [polS] (.slice A3 o3.length c3) _ (by rfl) (by rfl) (HO3.out |>.below (balloc jR _)) (RowIn.lit (n:=1) (f:=idC) w3 polS _ _ _ (by first|rfl|simp) rfl) (by rw [HOU3.out];simp) (by have:=HB3.out.size;simp;omega) ?_;intro o4 A4 c4 w4 hout hown hg hor;have HO4:=jH hown;have HOU4:=jH (show o4=[smpS]++[polS] from by rw [hout,HOU3.out] <;> rfl)
             have hb9:jB W1 w4:=(bthen HB3.out (balloc jR _)).trans (grown_own hg HO3.out (by have:=HB3.out.size;simp;omega));have HB4:=jH hb9;have HBW4:=jH (bthen HB1.out hb9);clear a1 a2 a3 a4 a5 a6;obtain ⟨a1,a2,a3⟩:=box_cells HB4.out HX1.out;obtain ⟨a4,a5,a6⟩:=box_cells HB4.out HX2.out;clear hout hown hg hor hb9)
          | (at_builtin
             refine wpList_appendL eId (by rfl) (by rfl) W1.heap.size [] [smpS] (.slice none 0 0) _ (by rfl) (by rfl) (OwnL.nil _ _) (RowIn.lit (n:=1) (f:=idC) w2 smpS _ _ _ (by first|rfl|simp) rfl) (by simp) (by have:=HB2.out.size;simp;omega) ?_;intro o3 A3 c3 w3 hout hown hg hor;have HO3:=jH hown;have HOU3:=jH (show o3=[smpS] from hout);have hb9:jB W1 w3:=(bthen HB2.out (balloc jR _)).trans (grown_own hg (OwnL.nil (f:=idC) (e:=9) (n:=1) W1.heap.size W1) (by have:=HB2.out.size;simp;omega))
             have HB3:=jH hb9;have HBW3:=jH (bthen HB1.out hb9);clear a1 a2 a3 a4 a5 a6;obtain ⟨a1,a2,a3⟩:=box_cells HB3.out HX1.out;obtain ⟨a4,a5,a6⟩:=box_cells HB3.out HX2.out;clear hout hown hg hor hb9)
          | (go_at_call 58
             refine (CS.out W1 HB1.out).mono ?_;rintro e w2 ⟨rfl,hb⟩;have HB2:=jH (show jB W1 w2 from hb);have HBW2:=jH (bthen HB1.out hb);clear a1 a2 a3 a4 a5 a6;obtain ⟨a1,a2,a3⟩:=box_cells HB2.out HX1.out;obtain ⟨a4,a5,a6⟩:=box_cells HB2.out HX2.out;clear hb)
         )
         go_ret
         refine ⟨A4,c4,?_,?_,HBW5.out⟩
         · rw [HRES.out];have h9:=HOU4.out;subst h9;rfl
         · rw [HRES.out];have h9:=(HO4.out.below HK5.out);rw [HOU4.out] at h9;exact h9.lower HLT.out
  | true =>
    cases ab with
    | false =>
      by_cases hr:b=d
      · subst hr
        have z1:(b == b)=true:=by simp
        cases pq with
        | false =>
          have HRES:=jH (show partsB true (decide (b=b) && false) false=[polS,pastS] from by rw [show (decide (b=b) && false)=false from by simp];rfl)
          as_aux_lemma =>
           go_wp2_with (first
            | (at_builtin
               refine wpList_appendL eId (by rfl) (by rfl) W1.heap.size o3 [pastS] (.slice A3 o3.length c3) _ (by rfl) (by rfl) (HO3.out.below HK4.out |>.below (balloc jR _)) (RowIn.lit (n:=1) (f:=idC) w4 pastS _ _ _ (by first|rfl|simp) rfl) (by rw [HOU3.out];simp) (by have:=HB4.out.size;simp;omega) ?_;intro o5 A5 c5 w5 hout hown hg hor;have HO5:=jH hown;have HOU5:=jH (show o5=[polS]++[pastS] from by rw [hout,HOU3.out] <;> rfl)
               have hb9:jB W1 w5:=(bthen HB4.out (balloc jR _)).trans (grown_own hg HO3.out (by have:=HB4.out.size;simp;omega));have HB5:=jH hb9;have HBW5:=jH (bthen HB1.out hb9);clear a1 a2 a3 a4 a5 a6;obtain ⟨a1,a2,a3⟩:=box_cells HB5.out HX1.out;obtain ⟨a4,a5,a6⟩:=box_cells HB5.out HX2.out;clear hout hown hg hor hb9)
            | (go_at_call 59
               refine (CA.out w3 HBW3.out).mono ?_;rintro e w4 ⟨rfl,hb⟩;have HB4:=jH (show jB W1 w4 from bthen HB3.out hb);have HBW4:=jH (bthen HBW3.out hb);clear a1 a2 a3 a4 a5 a6;obtain ⟨a1,a2,a3⟩:=box_cells HB4.out HX1.out;obtain ⟨a4,a5,a6⟩:=box_cells HB4.out HX2.out;have HK4:=jH hb;clear hb)
            | (at_builtin
               refine wpList_appendL eId (by rfl) (by rfl) W1.heap.size [] [polS] (.slice none 0 0) _ (by rfl) (by rfl) (OwnL.nil _ _) (RowIn.lit (n:=1) (f:=idC) w2 polS _ _ _ (by first|rfl|simp) rfl) (by simp) (by have:=HB2.out.size;simp;omega) ?_;intro o3 A3 c3 w3 hout hown hg hor;have HO3:=jH hown;have HOU3:=jH (show o3=[polS] from hout);have hb9:jB W1 w3:=(bthen HB2.out (balloc jR _)).trans (grown_own hg (OwnL.nil (f:=idC) (e:=9) (n:=1) W1.heap.size W1) (by have:=HB2.out.size;simp;omega))
               have HB3:=jH hb9;have HBW3:=jH (bthen HB1.out hb9);clear a1 a2 a3 a4 a5 a6;obtain ⟨a1,a2,a3⟩:=box_cells HB3.out HX1.out;obtain ⟨a4,a5,a6⟩:=box_cells HB3.out HX2.out;clear hout hown hg hor hb9)
            | (go_at_call 58
               refine (CS.out W1 HB1.out).mono ?_;rintro e w2 ⟨rfl,hb⟩;have HB2:=jH (show jB W1 w2 from hb);have HBW2:=jH (bthen HB1.out hb);clear a1 a2 a3 a4 a5 a6;obtain ⟨a1,a2,a3⟩:=box_cells HB2.out HX1.out;obtain ⟨a4,a5,a6⟩:=box_cells HB2.out HX2.out;clear hb)
           )
           go_ret
           refine ⟨A5,c5,?_,?_,HBW5.out⟩
           · rw [HRES.out];have h9:=HOU5.out;subst h9;rfl
           · rw [HRES.out];have h9:=HO5.out;rw [HOU5.out] at h9;exact h9.lower HLT.out
        | true =>
          have HRES:=jH (show partsB true (decide (b=b) && true) false=[pastS] from by rw [show (decide (b=b) && true)=true from by simp];rfl)
          as_aux_lemma =>
           go_wp2_with (first
            | (at_builtin
               refine wpList_appendL eId (by rfl) (by rfl) W1.heap.size [] [pastS] (.slice none 0 0) _ (by rfl) (by rfl) (OwnL.nil _ _) (RowIn.lit (n:=1) (f:=idC) w3 pastS _ _ _ (by first|rfl|simp) rfl) (by simp) (by have:=HB3.out.size;simp;omega) ?_;intro o4 A4 c4 w4 hout hown hg hor;have HO4:=jH hown;have HOU4:=jH (show o4=[pastS] from hout);have hb9:jB W1 w4:=(bthen HB3.out (balloc jR _)).trans (grown_own hg (OwnL.nil (f:=idC) (e:=9) (n:=1) W1.heap.size W1) (by have:=HB3.out.size;simp;omega))
               have HB4:=jH hb9;have HBW4:=jH (bthen HB1.out hb9);clear a1 a2 a3 a4 a5 a6;obtain ⟨a1,a2,a3⟩:=box_cells HB4.out HX1.out;obtain ⟨a4,a5,a6⟩:=box_cells HB4.out HX2.out;clear hout hown hg hor hb9)
            | (go_at_call 59
               refine (CA.out w2 HBW2.out).mono ?_;rintro e w3 ⟨rfl,hb⟩;have HB3:=jH (show jB W1 w3 from bthen HB2.out hb);have HBW3:=jH (bthen HBW2.out hb);clear a1 a2 a3 a4 a5 a6;obtain ⟨a1,a2,a3⟩:=box_cells HB3.out HX1.out;obtain ⟨a4,a5,a6⟩:=box_cells HB3.out HX2.out;clear hb)
            | (go_at_call 58
               refine (CS.out W1 HB1.out).mono ?_;rintro e w2 ⟨rfl,hb⟩;have HB2:=jH (show jB W1 w2 from hb);have HBW2:=jH (bthen HB1.out hb);clear a1 a2 a3 a4 a5 a6;obtain ⟨a1,a2,a3⟩:=box_cells HB2.out HX1.out;obtain ⟨a4,a5,a6⟩:=box_cells HB2.out HX2.out;clear hb)
           )
           go_ret
           refine ⟨A4,c4,?_,?_,HBW4.out⟩
           · rw [HRES.out];have h9:=HOU4.out;subst h9;rfl
           · rw [HRES.out];have h9:=HO4.out;rw [HOU4.out] at h9;exact h9.lower HLT.out
      · have z1:(b == d)=false:=by simpa using hr
        have z2:(b != d)=true:=by simpa using hr
        have HRES:=jH (show partsB true (decide (b=d) && pq) false=[polS,pastS] from by rw [show (decide (b=d) && pq)=false from by simp [hr]];rfl);clear hr
        as_aux_lemma =>
         go_wp2_with (first
          | (at_builtin
             refine wpList_appendL eId (by rfl) (by rfl) W1.heap.size o3 [pastS] (.slice A3 o3.length c3) _ (by rfl) (by rfl) (HO3.out.below HK4.out |>.below (balloc jR _)) (RowIn.lit (n:=1) (f:=idC) w4 pastS _ _ _ (by first|rfl|simp) rfl) (by rw [HOU3.out];simp) (by have:=HB4.out.size;simp;omega) ?_;intro o5 A5 c5 w5 hout hown hg hor;have HO5:=jH hown;have HOU5:=jH (show o5=[polS]++[pastS] from by rw [hout,HOU3.out] <;> rfl)
             have hb9:jB W1 w5:=(bthen HB4.out (balloc jR _)).trans (grown_own hg HO3.out (by have:=HB4.out.size;simp;omega));have HB5:=jH hb9;have HBW5:=jH (bthen HB1.out hb9);clear a1 a2 a3 a4 a5 a6;obtain ⟨a1,a2,a3⟩:=box_cells HB5.out HX1.out;obtain ⟨a4,a5,a6⟩:=box_cells HB5.out HX2.out;clear hout hown hg hor hb9)
          | (go_at_call 59
             refine (CA.out w3 HBW3.out).mono ?_;rintro e w4 ⟨rfl,hb⟩;have HB4:=jH (show jB W1 w4 from bthen HB3.out hb);have HBW4:=jH (bthen HBW3.out hb);clear a1 a2 a3 a4 a5 a6;obtain ⟨a1,a2,a3⟩:=box_cells HB4.out HX1.out;obtain ⟨a4,a5,a6⟩:=box_cells HB4.out HX2.out;have HK4:=jH hb;clear hb)
          | (at_builtin
             refine wpList_appendL eId (by rfl) (by rfl) W1.heap.size [] [polS] (.slice none 0 0) _ (by rfl) (by rfl) (OwnL.nil _ _) (RowIn.lit (n:=1) (f:=idC) w2 polS _ _ _ (by first|rfl|simp) rfl) (by simp) (by have:=HB2.out.size;simp;omega) ?_;intro o3 A3 c3 w3 hout hown hg hor;have HO3:=jH hown;have HOU3:=jH (show o3=[polS] from hout);have hb9:jB W1 w3:=(bthen HB2.out (balloc jR _)).trans (grown_own hg (OwnL.nil (f:=idC) (e:=9) (n:=1) W1.heap.size W1) (by have:=HB2.out.size;simp;omega))
             have HB3:=jH hb9;have HBW3:=jH (bthen HB1.out hb9);clear a1 a2 a3 a4 a5 a6;obtain ⟨a1,a2,a3⟩:=box_cells HB3.out HX1.out;obtain ⟨a4,a5,a6⟩:=box_cells HB3.out HX2.out;clear hout hown hg hor hb9)
          | (go_at_call 58
             refine (CS.out W1 HB1.out).mono ?_;rintro e w2 ⟨rfl,hb⟩;have HB2:=jH (show jB W1 w2 from hb);have HBW2:=jH (bthen HB1.out hb);clear a1 a2 a3 a4 a5 a6;obtain ⟨a1,a2,a3⟩:=box_cells HB2.out HX1.out;obtain ⟨a4,a5,a6⟩:=box_cells HB2.out HX2.out;clear hb)
         )
         go_ret
         refine ⟨A5,c5,?_,?_,HBW5.out⟩
         · rw [HRES.out];have h9:=HOU5.out;subst h9;rfl
         · rw [HRES.out];have h9:=HO5.out;rw [HOU5.out] at h9;exact h9.lower HLT.out
    | true =>
      by_cases hr:b=d
      · subst hr
        have z1:(b == b)=true:=by simp
        cases pq with
        | false =>
          have HRES:=jH (show partsB true (decide (b=b) && false) true=[polS] from by rw [show (decide (b=b) && false)=false from by simp];rfl)
          as_aux_lemma =>
           go_wp2_with (first
            | (go_at_call 59
               refine (CA.out w3 HBW3.out).mono ?_;rintro e w4 ⟨rfl,hb⟩;have HB4:=jH (show jB W1 w4 from bthen HB3.out hb);have HBW4:=jH (bthen HBW3.out hb);clear a1 a2 a3 a4 a5 a6;obtain ⟨a1,a2,a3⟩:=box_cells HB4.out HX1.out;obtain ⟨a4,a5,a6⟩:=box_cells HB4.out HX2.out;have HK4:=jH hb;clear hb)
            | (at_builtin
               refine wpList_appendL eId (by rfl) (by rfl) W1.heap.size [] [polS] (.slice none 0 0) _ (by rfl) (by rfl) (OwnL.nil _ _) (RowIn.lit (n:=1) (f:=idC) w2 polS _ _ _ (by first|rfl|simp) rfl) (by simp) (by have:=HB2.out.size;simp;omega) ?_;intro o3 A3 c3 w3 hout hown hg hor;have HO3:=jH hown;have HOU3:=jH (show o3=[polS] from hout);have hb9:jB W1 w3:=(bthen HB2.out (balloc jR _)).trans (grown_own hg (OwnL.nil (f:=idC) (e:=9) (n:=1) W1.heap.size W1) (by have:=HB2.out.size;simp;omega))
               have HB3:=jH hb9;have HBW3:=jH (bthen HB1.out hb9);clear a1 a2 a3 a4 a5 a6;obtain ⟨a1,a2,a3⟩:=box_cells HB3.out HX1.out;obtain ⟨a4,a5,a6⟩:=box_cells HB3.out HX2.out;clear hout hown hg hor hb9)
            | (go_at_call 58
               refine (CS.out W1 HB1.out).mono ?_;rintro e w2 ⟨rfl,hb⟩;have HB2:=jH (show jB W1 w2 from hb);have HBW2:=jH (bthen HB1.out hb);clear a1 a2 a3 a4 a5 a6;obtain ⟨a1,a2,a3⟩:=box_cells HB2.out HX1.out;obtain ⟨a4,a5,a6⟩:=box_cells HB2.out HX2.out;clear hb)
           )
           go_ret
           refine ⟨A3,c3,?_,?_,HBW4.out⟩
           · rw [HRES.out];have h9:=HOU3.out;subst h9;rfl
           · rw [HRES.out];have h9:=(HO3.out.below HK4.out);rw [HOU3.out] at h9;exact h9.lower HLT.out
        | true =>
          have HRES:=jH (show partsB true (decide (b=b) && true) true=[] from by rw [show (decide (b=b) && true)=true from by simp];rfl)
          as_aux_lemma =>
           go_wp2_with (first
            | (go_at_call 59
               refine (CA.out w2 HBW2.out).mono ?_;rintro e w3 ⟨rfl,hb⟩;have HB3:=jH (show jB W1 w3 from bthen HB2.out hb);have HBW3:=jH (bthen HBW2.out hb);clear a1 a2 a3 a4 a5 a6;obtain ⟨a1,a2,a3⟩:=box_cells HB3.out HX1.out;obtain ⟨a4,a5,a6⟩:=box_cells HB3.out HX2.out;clear hb)
            | (go_at_call 58
               refine (CS.out W1 HB1.out).mono ?_;rintro e w2 ⟨rfl,hb⟩;have HB2:=jH (show jB W1 w2 from hb);have HBW2:=jH (bthen HB1.out hb);clear a1 a2 a3 a4 a5 a6;obtain ⟨a1,a2,a3⟩:=box_cells HB2.out HX1.out;obtain ⟨a4,a5,a6⟩:=box_cells HB2.out HX2.out;clear hb)
           )
           go_ret
           refine ⟨none,0,?_,?_,HBW3.out⟩
           · rw [HRES.out];rfl
           · rw [HRES.out];exact OwnL.nil _ _
      · have z1:(b == d)=false:=by simpa using hr
        have z2:(b != d)=true:=by simpa using hr
        have HRES:=jH (show partsB true (decide (b=d) && pq) true=[polS] from by rw [show (decide (b=d) && pq)=false from by simp [hr]];rfl);clear hr
        as_aux_lemma =>
         go_wp2_with (first
          | (go_at_call 59
             refine (CA.out w3 HBW3.out).mono ?_;rintro e w4 ⟨rfl,hb⟩;have HB4:=jH (show jB W1 w4 from bthen HB3.out hb);have HBW4:=jH (bthen HBW3.out hb);clear a1 a2 a3 a4 a5 a6;obtain ⟨a1,a2,a3⟩:=box_cells HB4.out HX1.out;obtain ⟨a4,a5,a6⟩:=box_cells HB4.out HX2.out;have HK4:=jH hb;clear hb)
          | (at_builtin
             refine wpList_appendL eId (by rfl) (by rfl) W1.heap.size [] [polS] (.slice none 0 0) _ (by rfl) (by rfl) (OwnL.nil _ _) (RowIn.lit (n:=1) (f:=idC) w2 polS _ _ _ (by first|rfl|simp) rfl) (by simp) (by have:=HB2.out.size;simp;omega) ?_;intro o3 A3 c3 w3 hout hown hg hor;have HO3:=jH hown;have HOU3:=jH (show o3=[polS] from hout);have hb9:jB W1 w3:=(bthen HB2.out (balloc jR _)).trans (grown_own hg (OwnL.nil (f:=idC) (e:=9) (n:=1) W1.heap.size W1) (by have:=HB2.out.size;simp;omega))
             have HB3:=jH hb9;have HBW3:=jH (bthen HB1.out hb9);clear a1 a2 a3 a4 a5 a6;obtain ⟨a1,a2,a3⟩:=box_cells HB3.out HX1.out;obtain ⟨a4,a5,a6⟩:=box_cells HB3.out HX2.out;clear hout hown hg hor hb9)
          | (go_at_call 58
             refine (CS.out W1 HB1.out).mono ?_;rintro e w2 ⟨rfl,hb⟩;have HB2:=jH (show jB W1 w2 from hb);have HBW2:=jH (bthen HB1.out hb);clear a1 a2 a3 a4 a5 a6;obtain ⟨a1,a2,a3⟩:=box_cells HB2.out HX1.out;obtain ⟨a4,a5,a6⟩:=box_cells HB2.out HX2.out;clear hb)
         )
         go_ret
         refine ⟨A3,c3,?_,?_,HBW4.out⟩
         · rw [HRES.out];have h9:=HOU3.out;subst h9;rfl
         · rw [HRES.out];have h9:=(HO3.out.below HK4.out);rw [HOU3.out] at h9;exact h9.lower HLT.out
theorem rparts_core (p q:Pol) (b d:Bool) (l m:List Smp) (l2 m2:List Adv) (sA sB pA pB:Option Addr) (sc sd pc pd:Nat) (v1 v2:Int) (w:World)
    (HR1:Hid (RowIn 2 smpC w (.slice sA l.length sc) l)) (HR2:Hid (RowIn 2 smpC w (.slice sB m.length sd) m)) (HA1:Hid (RowIn 5 advC w (.slice pA l2.length pc) l2)) (HA2:Hid (RowIn 5 advC w (.slice pB m2.length pd) m2))
    (HL:Hid (l.length≤1000000∧m.length≤1000000∧l2.length≤1000000∧m2.length≤1000000)) :
    Calls Tryz.prog 20 #[.agg #[.slice sA l.length sc,.slice pA l2.length pc,.int .i64 p.mn,.int .i64 p.mx,.int .i64 p.tg,.int .i64 p.tol,.int .i64 p.win,.int .i64 p.hold,.bool b,.int .i64 v1],.agg #[.slice sB m.length sd,.slice pB m2.length pd,.int .i64 q.mn,.int .i64 q.mx,.int .i64 q.tg,.int .i64 q.tol,.int .i64 q.win,.int .i64 q.hold,.bool d,.int .i64 v2]] w (WordsSays w (partsB (decide (l=m)) (decide (b=d) && decide (p=q)) (decide (l2=m2)))):=by
  have EP:=nePol p q;obtain ⟨pq,hpq⟩:∃r,r=decide (p=q):=⟨_,rfl⟩;rw [←hpq] at EP ⊢;have CS:=jH (fun W (hW:jB w W)=>r8eq_any _ _ l m W (HR1.out.below hW) (HR2.out.below hW) HL.out.1 HL.out.2.1);have CA:=jH (fun W (hW:jB w W)=>r14eq_any _ _ l2 m2 W (HA1.out.below hW) (HA2.out.below hW) HL.out.2.2.1 HL.out.2.2.2);obtain ⟨sb,hsb⟩:∃r,r=decide (l=m):=⟨_,rfl⟩;obtain ⟨ab,hab⟩:∃r,r=decide (l2=m2):=⟨_,rfl⟩;rw [←hsb] at CS ⊢
  rw [←hab] at CA ⊢;clear hpq hsb hab HR1 HR2 HA1 HA2 HL;obtain ⟨p1,p2,p3,p4,p5,p6⟩:=p;obtain ⟨q1,q2,q3,q4,q5,q6⟩:=q;dsimp only at EP ⊢;generalize l.length=n1 at CS ⊢;generalize m.length=n2 at CS ⊢;generalize l2.length=n3 at CA ⊢;generalize m2.length=n4 at CA ⊢;clear l m l2 m2
  go_enter Tryz.func20,Tryz.ntmps20
  go_upto_region 2 with fail
  refine name_world ?_;intro W1 hW1;have HB1:=jH (show jB w W1 by rw [hW1];exact balloc (balloc jR _) _);have HX1:=jH (show W1.heap[w.heap.size]?=some (.cells #[.slice sA n1 sc,.slice pA n3 pc,.int .i64 p1,.int .i64 p2,.int .i64 p3,.int .i64 p4,.int .i64 p5,.int .i64 p6,.bool b,.int .i64 v1] 48 (0,0)) by rw [hW1];exact box_old _ _ _);have HX2:=jH (show W1.heap[w.heap.size+1]?=some (.cells #[.slice sB n2 sd,.slice pB n4 pd,.int .i64 q1,.int .i64 q2,.int .i64 q3,.int .i64 q4,.int .i64 q5,.int .i64 q6,.bool d,.int .i64 v2] 48 (0,0)) by rw [hW1];exact box_new _ _ _)
  clear hW1;obtain ⟨a1,a2,a3⟩:=box_cells jR HX1.out;obtain ⟨a4,a5,a6⟩:=box_cells jR HX2.out;have HLT:=jH (show w.heap.size≤W1.heap.size from HB1.out.size)
  cases sb with
  | false =>
    cases ab with
    | false =>
      cases pq with
      | false =>
        have HRES:=jH (show partsB false (decide (b=d) && false) false=[smpS,polS,pastS] from by rw [show (decide (b=d) && false)=false from by simp];rfl)
        as_aux_lemma =>
         go_wp2_with (first
          | (at_builtin
             refine wpList_appendL eId (by rfl) (by rfl) W1.heap.size o4 [pastS] (.slice A4 o4.length c4) _ (by rfl) (by rfl) (HO4.out.below HK5.out |>.below (balloc jR _)) (RowIn.lit (n:=1) (f:=idC) w5 pastS _ _ _ (by first|rfl|simp) rfl) (by rw [HOU4.out];simp) (by have:=HB5.out.size;simp;omega) ?_;intro o6 A6 c6 w6 hout hown hg hor;have HO6:=jH hown;have HOU6:=jH (show o6=[smpS,polS]++[pastS] from by rw [hout,HOU4.out] <;> rfl)
             have hb9:jB W1 w6:=(bthen HB5.out (balloc jR _)).trans (grown_own hg HO4.out (by have:=HB5.out.size;simp;omega));have HB6:=jH hb9;have HBW6:=jH (bthen HB1.out hb9);clear a1 a2 a3 a4 a5 a6;obtain ⟨a1,a2,a3⟩:=box_cells HB6.out HX1.out;obtain ⟨a4,a5,a6⟩:=box_cells HB6.out HX2.out;clear hout hown hg hor hb9)
          | (go_at_call 60
             refine (CA.out w4 HBW4.out).mono ?_;rintro e w5 ⟨rfl,hb⟩;have HB5:=jH (show jB W1 w5 from bthen HB4.out hb);have HBW5:=jH (bthen HBW4.out hb);clear a1 a2 a3 a4 a5 a6;obtain ⟨a1,a2,a3⟩:=box_cells HB5.out HX1.out;obtain ⟨a4,a5,a6⟩:=box_cells HB5.out HX2.out;have HK5:=jH hb;clear hb)
          | (at_builtin
             refine wpList_appendL eId (by rfl) (by rfl) W1.heap.size o3 [polS] (.slice A3 o3.length c3) _ (by rfl) (by rfl) (HO3.out |>.below (balloc jR _)) (RowIn.lit (n:=1) (f:=idC) w3 polS _ _ _ (by first|rfl|simp) rfl) (by rw [HOU3.out];simp) (by have:=HB3.out.size;simp;omega) ?_;intro o4 A4 c4 w4 hout hown hg hor;have HO4:=jH hown;have HOU4:=jH (show o4=[smpS]++[polS] from by rw [hout,HOU3.out] <;> rfl)
             have hb9:jB W1 w4:=(bthen HB3.out (balloc jR _)).trans (grown_own hg HO3.out (by have:=HB3.out.size;simp;omega));have HB4:=jH hb9;have HBW4:=jH (bthen HB1.out hb9);clear a1 a2 a3 a4 a5 a6;obtain ⟨a1,a2,a3⟩:=box_cells HB4.out HX1.out;obtain ⟨a4,a5,a6⟩:=box_cells HB4.out HX2.out;clear hout hown hg hor hb9)
          | (at_builtin
             refine wpList_appendL eId (by rfl) (by rfl) W1.heap.size [] [smpS] (.slice none 0 0) _ (by rfl) (by rfl) (OwnL.nil _ _) (RowIn.lit (n:=1) (f:=idC) w2 smpS _ _ _ (by first|rfl|simp) rfl) (by simp) (by have:=HB2.out.size;simp;omega) ?_;intro o3 A3 c3 w3 hout hown hg hor;have HO3:=jH hown;have HOU3:=jH (show o3=[smpS] from hout);have hb9:jB W1 w3:=(bthen HB2.out (balloc jR _)).trans (grown_own hg (OwnL.nil (f:=idC) (e:=9) (n:=1) W1.heap.size W1) (by have:=HB2.out.size;simp;omega))
             have HB3:=jH hb9;have HBW3:=jH (bthen HB1.out hb9);clear a1 a2 a3 a4 a5 a6;obtain ⟨a1,a2,a3⟩:=box_cells HB3.out HX1.out;obtain ⟨a4,a5,a6⟩:=box_cells HB3.out HX2.out;clear hout hown hg hor hb9)
          | (go_at_call 21
             refine (CS.out W1 HB1.out).mono ?_;rintro e w2 ⟨rfl,hb⟩;have HB2:=jH (show jB W1 w2 from hb);have HBW2:=jH (bthen HB1.out hb);clear a1 a2 a3 a4 a5 a6;obtain ⟨a1,a2,a3⟩:=box_cells HB2.out HX1.out;obtain ⟨a4,a5,a6⟩:=box_cells HB2.out HX2.out;clear hb)
         )
         go_ret
         refine ⟨A6,c6,?_,?_,HBW6.out⟩
         · rw [HRES.out];have h9:=HOU6.out;subst h9;rfl
         · rw [HRES.out];have h9:=HO6.out;rw [HOU6.out] at h9;exact h9.lower HLT.out
      | true =>
        by_cases hr:b=d
        · subst hr
          have z1:(b == b)=true:=by simp
          have HRES:=jH (show partsB false (decide (b=b) && true) false=[smpS,pastS] from by rw [show (decide (b=b) && true)=true from by simp];rfl)
          as_aux_lemma =>
           go_wp2_with (first
            | (at_builtin
               refine wpList_appendL eId (by rfl) (by rfl) W1.heap.size o3 [pastS] (.slice A3 o3.length c3) _ (by rfl) (by rfl) (HO3.out.below HK4.out |>.below (balloc jR _)) (RowIn.lit (n:=1) (f:=idC) w4 pastS _ _ _ (by first|rfl|simp) rfl) (by rw [HOU3.out];simp) (by have:=HB4.out.size;simp;omega) ?_;intro o5 A5 c5 w5 hout hown hg hor;have HO5:=jH hown;have HOU5:=jH (show o5=[smpS]++[pastS] from by rw [hout,HOU3.out] <;> rfl)
               have hb9:jB W1 w5:=(bthen HB4.out (balloc jR _)).trans (grown_own hg HO3.out (by have:=HB4.out.size;simp;omega));have HB5:=jH hb9;have HBW5:=jH (bthen HB1.out hb9);clear a1 a2 a3 a4 a5 a6;obtain ⟨a1,a2,a3⟩:=box_cells HB5.out HX1.out;obtain ⟨a4,a5,a6⟩:=box_cells HB5.out HX2.out;clear hout hown hg hor hb9)
            | (go_at_call 60
               refine (CA.out w3 HBW3.out).mono ?_;rintro e w4 ⟨rfl,hb⟩;have HB4:=jH (show jB W1 w4 from bthen HB3.out hb);have HBW4:=jH (bthen HBW3.out hb);clear a1 a2 a3 a4 a5 a6;obtain ⟨a1,a2,a3⟩:=box_cells HB4.out HX1.out;obtain ⟨a4,a5,a6⟩:=box_cells HB4.out HX2.out;have HK4:=jH hb;clear hb)
            | (at_builtin
               refine wpList_appendL eId (by rfl) (by rfl) W1.heap.size [] [smpS] (.slice none 0 0) _ (by rfl) (by rfl) (OwnL.nil _ _) (RowIn.lit (n:=1) (f:=idC) w2 smpS _ _ _ (by first|rfl|simp) rfl) (by simp) (by have:=HB2.out.size;simp;omega) ?_;intro o3 A3 c3 w3 hout hown hg hor;have HO3:=jH hown;have HOU3:=jH (show o3=[smpS] from hout);have hb9:jB W1 w3:=(bthen HB2.out (balloc jR _)).trans (grown_own hg (OwnL.nil (f:=idC) (e:=9) (n:=1) W1.heap.size W1) (by have:=HB2.out.size;simp;omega))
               have HB3:=jH hb9;have HBW3:=jH (bthen HB1.out hb9);clear a1 a2 a3 a4 a5 a6;obtain ⟨a1,a2,a3⟩:=box_cells HB3.out HX1.out;obtain ⟨a4,a5,a6⟩:=box_cells HB3.out HX2.out;clear hout hown hg hor hb9)
            | (go_at_call 21
               refine (CS.out W1 HB1.out).mono ?_;rintro e w2 ⟨rfl,hb⟩;have HB2:=jH (show jB W1 w2 from hb);have HBW2:=jH (bthen HB1.out hb);clear a1 a2 a3 a4 a5 a6;obtain ⟨a1,a2,a3⟩:=box_cells HB2.out HX1.out;obtain ⟨a4,a5,a6⟩:=box_cells HB2.out HX2.out;clear hb)
           )
           go_ret
           refine ⟨A5,c5,?_,?_,HBW5.out⟩
           · rw [HRES.out];have h9:=HOU5.out;subst h9;rfl
           · rw [HRES.out];have h9:=HO5.out;rw [HOU5.out] at h9;exact h9.lower HLT.out
        · have z1:(b == d)=false:=by simpa using hr
          have z2:(b != d)=true:=by simpa using hr
          have HRES:=jH (show partsB false (decide (b=d) && true) false=[smpS,polS,pastS] from by rw [show (decide (b=d) && true)=false from by simp [hr]];rfl);clear hr
          as_aux_lemma =>
           go_wp2_with (first
            | (at_builtin
               refine wpList_appendL eId (by rfl) (by rfl) W1.heap.size o4 [pastS] (.slice A4 o4.length c4) _ (by rfl) (by rfl) (HO4.out.below HK5.out |>.below (balloc jR _)) (RowIn.lit (n:=1) (f:=idC) w5 pastS _ _ _ (by first|rfl|simp) rfl) (by rw [HOU4.out];simp) (by have:=HB5.out.size;simp;omega) ?_;intro o6 A6 c6 w6 hout hown hg hor;have HO6:=jH hown;have HOU6:=jH (show o6=[smpS,polS]++[pastS] from by rw [hout,HOU4.out] <;> rfl)
               have hb9:jB W1 w6:=(bthen HB5.out (balloc jR _)).trans (grown_own hg HO4.out (by have:=HB5.out.size;simp;omega));have HB6:=jH hb9;have HBW6:=jH (bthen HB1.out hb9);clear a1 a2 a3 a4 a5 a6;obtain ⟨a1,a2,a3⟩:=box_cells HB6.out HX1.out;obtain ⟨a4,a5,a6⟩:=box_cells HB6.out HX2.out;clear hout hown hg hor hb9)
            | (go_at_call 60
               refine (CA.out w4 HBW4.out).mono ?_;rintro e w5 ⟨rfl,hb⟩;have HB5:=jH (show jB W1 w5 from bthen HB4.out hb);have HBW5:=jH (bthen HBW4.out hb);clear a1 a2 a3 a4 a5 a6;obtain ⟨a1,a2,a3⟩:=box_cells HB5.out HX1.out;obtain ⟨a4,a5,a6⟩:=box_cells HB5.out HX2.out;have HK5:=jH hb;clear hb)
            | (at_builtin
               refine wpList_appendL eId (by rfl) (by rfl) W1.heap.size o3 [polS] (.slice A3 o3.length c3) _ (by rfl) (by rfl) (HO3.out |>.below (balloc jR _)) (RowIn.lit (n:=1) (f:=idC) w3 polS _ _ _ (by first|rfl|simp) rfl) (by rw [HOU3.out];simp) (by have:=HB3.out.size;simp;omega) ?_;intro o4 A4 c4 w4 hout hown hg hor;have HO4:=jH hown;have HOU4:=jH (show o4=[smpS]++[polS] from by rw [hout,HOU3.out] <;> rfl)
               have hb9:jB W1 w4:=(bthen HB3.out (balloc jR _)).trans (grown_own hg HO3.out (by have:=HB3.out.size;simp;omega));have HB4:=jH hb9;have HBW4:=jH (bthen HB1.out hb9);clear a1 a2 a3 a4 a5 a6;obtain ⟨a1,a2,a3⟩:=box_cells HB4.out HX1.out;obtain ⟨a4,a5,a6⟩:=box_cells HB4.out HX2.out;clear hout hown hg hor hb9)
            | (at_builtin
               refine wpList_appendL eId (by rfl) (by rfl) W1.heap.size [] [smpS] (.slice none 0 0) _ (by rfl) (by rfl) (OwnL.nil _ _) (RowIn.lit (n:=1) (f:=idC) w2 smpS _ _ _ (by first|rfl|simp) rfl) (by simp) (by have:=HB2.out.size;simp;omega) ?_;intro o3 A3 c3 w3 hout hown hg hor;have HO3:=jH hown;have HOU3:=jH (show o3=[smpS] from hout);have hb9:jB W1 w3:=(bthen HB2.out (balloc jR _)).trans (grown_own hg (OwnL.nil (f:=idC) (e:=9) (n:=1) W1.heap.size W1) (by have:=HB2.out.size;simp;omega))
               have HB3:=jH hb9;have HBW3:=jH (bthen HB1.out hb9);clear a1 a2 a3 a4 a5 a6;obtain ⟨a1,a2,a3⟩:=box_cells HB3.out HX1.out;obtain ⟨a4,a5,a6⟩:=box_cells HB3.out HX2.out;clear hout hown hg hor hb9)
            | (go_at_call 21
               refine (CS.out W1 HB1.out).mono ?_;rintro e w2 ⟨rfl,hb⟩;have HB2:=jH (show jB W1 w2 from hb);have HBW2:=jH (bthen HB1.out hb);clear a1 a2 a3 a4 a5 a6;obtain ⟨a1,a2,a3⟩:=box_cells HB2.out HX1.out;obtain ⟨a4,a5,a6⟩:=box_cells HB2.out HX2.out;clear hb)
           )
           go_ret
           refine ⟨A6,c6,?_,?_,HBW6.out⟩
           · rw [HRES.out];have h9:=HOU6.out;subst h9;rfl
           · rw [HRES.out];have h9:=HO6.out;rw [HOU6.out] at h9;exact h9.lower HLT.out
    | true =>
      cases pq with
      | false =>
        have HRES:=jH (show partsB false (decide (b=d) && false) true=[smpS,polS] from by rw [show (decide (b=d) && false)=false from by simp];rfl)
        as_aux_lemma =>
         go_wp2_with (first
          | (go_at_call 60
             refine (CA.out w4 HBW4.out).mono ?_;rintro e w5 ⟨rfl,hb⟩;have HB5:=jH (show jB W1 w5 from bthen HB4.out hb);have HBW5:=jH (bthen HBW4.out hb);clear a1 a2 a3 a4 a5 a6;obtain ⟨a1,a2,a3⟩:=box_cells HB5.out HX1.out;obtain ⟨a4,a5,a6⟩:=box_cells HB5.out HX2.out;have HK5:=jH hb;clear hb)
          | (at_builtin
             refine wpList_appendL eId (by rfl) (by rfl) W1.heap.size o3 [polS] (.slice A3 o3.length c3) _ (by rfl) (by rfl) (HO3.out |>.below (balloc jR _)) (RowIn.lit (n:=1) (f:=idC) w3 polS _ _ _ (by first|rfl|simp) rfl) (by rw [HOU3.out];simp) (by have:=HB3.out.size;simp;omega) ?_;intro o4 A4 c4 w4 hout hown hg hor;have HO4:=jH hown;have HOU4:=jH (show o4=[smpS]++[polS] from by rw [hout,HOU3.out] <;> rfl)
             have hb9:jB W1 w4:=(bthen HB3.out (balloc jR _)).trans (grown_own hg HO3.out (by have:=HB3.out.size;simp;omega));have HB4:=jH hb9;have HBW4:=jH (bthen HB1.out hb9);clear a1 a2 a3 a4 a5 a6;obtain ⟨a1,a2,a3⟩:=box_cells HB4.out HX1.out;obtain ⟨a4,a5,a6⟩:=box_cells HB4.out HX2.out;clear hout hown hg hor hb9)
          | (at_builtin
             refine wpList_appendL eId (by rfl) (by rfl) W1.heap.size [] [smpS] (.slice none 0 0) _ (by rfl) (by rfl) (OwnL.nil _ _) (RowIn.lit (n:=1) (f:=idC) w2 smpS _ _ _ (by first|rfl|simp) rfl) (by simp) (by have:=HB2.out.size;simp;omega) ?_;intro o3 A3 c3 w3 hout hown hg hor;have HO3:=jH hown;have HOU3:=jH (show o3=[smpS] from hout);have hb9:jB W1 w3:=(bthen HB2.out (balloc jR _)).trans (grown_own hg (OwnL.nil (f:=idC) (e:=9) (n:=1) W1.heap.size W1) (by have:=HB2.out.size;simp;omega))
             have HB3:=jH hb9;have HBW3:=jH (bthen HB1.out hb9);clear a1 a2 a3 a4 a5 a6;obtain ⟨a1,a2,a3⟩:=box_cells HB3.out HX1.out;obtain ⟨a4,a5,a6⟩:=box_cells HB3.out HX2.out;clear hout hown hg hor hb9)
          | (go_at_call 21
             refine (CS.out W1 HB1.out).mono ?_;rintro e w2 ⟨rfl,hb⟩;have HB2:=jH (show jB W1 w2 from hb);have HBW2:=jH (bthen HB1.out hb);clear a1 a2 a3 a4 a5 a6;obtain ⟨a1,a2,a3⟩:=box_cells HB2.out HX1.out;obtain ⟨a4,a5,a6⟩:=box_cells HB2.out HX2.out;clear hb)
         )
         go_ret
         refine ⟨A4,c4,?_,?_,HBW5.out⟩
         · rw [HRES.out];have h9:=HOU4.out;subst h9;rfl
         · rw [HRES.out];have h9:=(HO4.out.below HK5.out);rw [HOU4.out] at h9;exact h9.lower HLT.out
      | true =>
        by_cases hr:b=d
        · subst hr
          have z1:(b == b)=true:=by simp
          have HRES:=jH (show partsB false (decide (b=b) && true) true=[smpS] from by rw [show (decide (b=b) && true)=true from by simp];rfl)
          as_aux_lemma =>
           go_wp2_with (first
            | (go_at_call 60
               refine (CA.out w3 HBW3.out).mono ?_;rintro e w4 ⟨rfl,hb⟩;have HB4:=jH (show jB W1 w4 from bthen HB3.out hb);have HBW4:=jH (bthen HBW3.out hb);clear a1 a2 a3 a4 a5 a6;obtain ⟨a1,a2,a3⟩:=box_cells HB4.out HX1.out;obtain ⟨a4,a5,a6⟩:=box_cells HB4.out HX2.out;have HK4:=jH hb;clear hb)
            | (at_builtin
               refine wpList_appendL eId (by rfl) (by rfl) W1.heap.size [] [smpS] (.slice none 0 0) _ (by rfl) (by rfl) (OwnL.nil _ _) (RowIn.lit (n:=1) (f:=idC) w2 smpS _ _ _ (by first|rfl|simp) rfl) (by simp) (by have:=HB2.out.size;simp;omega) ?_;intro o3 A3 c3 w3 hout hown hg hor;have HO3:=jH hown;have HOU3:=jH (show o3=[smpS] from hout);have hb9:jB W1 w3:=(bthen HB2.out (balloc jR _)).trans (grown_own hg (OwnL.nil (f:=idC) (e:=9) (n:=1) W1.heap.size W1) (by have:=HB2.out.size;simp;omega))
               have HB3:=jH hb9;have HBW3:=jH (bthen HB1.out hb9);clear a1 a2 a3 a4 a5 a6;obtain ⟨a1,a2,a3⟩:=box_cells HB3.out HX1.out;obtain ⟨a4,a5,a6⟩:=box_cells HB3.out HX2.out;clear hout hown hg hor hb9)
            | (go_at_call 21
               refine (CS.out W1 HB1.out).mono ?_;rintro e w2 ⟨rfl,hb⟩;have HB2:=jH (show jB W1 w2 from hb);have HBW2:=jH (bthen HB1.out hb);clear a1 a2 a3 a4 a5 a6;obtain ⟨a1,a2,a3⟩:=box_cells HB2.out HX1.out;obtain ⟨a4,a5,a6⟩:=box_cells HB2.out HX2.out;clear hb)
           )
           go_ret
           refine ⟨A3,c3,?_,?_,HBW4.out⟩
           · rw [HRES.out];have h9:=HOU3.out;subst h9;rfl
           · rw [HRES.out];have h9:=(HO3.out.below HK4.out);rw [HOU3.out] at h9;exact h9.lower HLT.out
        · have z1:(b == d)=false:=by simpa using hr
          have z2:(b != d)=true:=by simpa using hr
          have HRES:=jH (show partsB false (decide (b=d) && true) true=[smpS,polS] from by rw [show (decide (b=d) && true)=false from by simp [hr]];rfl);clear hr
          as_aux_lemma =>
           go_wp2_with (first
            | (go_at_call 60
               refine (CA.out w4 HBW4.out).mono ?_;rintro e w5 ⟨rfl,hb⟩;have HB5:=jH (show jB W1 w5 from bthen HB4.out hb);have HBW5:=jH (bthen HBW4.out hb);clear a1 a2 a3 a4 a5 a6;obtain ⟨a1,a2,a3⟩:=box_cells HB5.out HX1.out;obtain ⟨a4,a5,a6⟩:=box_cells HB5.out HX2.out;have HK5:=jH hb;clear hb)
            | (at_builtin
               refine wpList_appendL eId (by rfl) (by rfl) W1.heap.size o3 [polS] (.slice A3 o3.length c3) _ (by rfl) (by rfl) (HO3.out |>.below (balloc jR _)) (RowIn.lit (n:=1) (f:=idC) w3 polS _ _ _ (by first|rfl|simp) rfl) (by rw [HOU3.out];simp) (by have:=HB3.out.size;simp;omega) ?_;intro o4 A4 c4 w4 hout hown hg hor;have HO4:=jH hown;have HOU4:=jH (show o4=[smpS]++[polS] from by rw [hout,HOU3.out] <;> rfl)
               have hb9:jB W1 w4:=(bthen HB3.out (balloc jR _)).trans (grown_own hg HO3.out (by have:=HB3.out.size;simp;omega));have HB4:=jH hb9;have HBW4:=jH (bthen HB1.out hb9);clear a1 a2 a3 a4 a5 a6;obtain ⟨a1,a2,a3⟩:=box_cells HB4.out HX1.out;obtain ⟨a4,a5,a6⟩:=box_cells HB4.out HX2.out;clear hout hown hg hor hb9)
            | (at_builtin
               refine wpList_appendL eId (by rfl) (by rfl) W1.heap.size [] [smpS] (.slice none 0 0) _ (by rfl) (by rfl) (OwnL.nil _ _) (RowIn.lit (n:=1) (f:=idC) w2 smpS _ _ _ (by first|rfl|simp) rfl) (by simp) (by have:=HB2.out.size;simp;omega) ?_;intro o3 A3 c3 w3 hout hown hg hor;have HO3:=jH hown;have HOU3:=jH (show o3=[smpS] from hout);have hb9:jB W1 w3:=(bthen HB2.out (balloc jR _)).trans (grown_own hg (OwnL.nil (f:=idC) (e:=9) (n:=1) W1.heap.size W1) (by have:=HB2.out.size;simp;omega))
               have HB3:=jH hb9;have HBW3:=jH (bthen HB1.out hb9);clear a1 a2 a3 a4 a5 a6;obtain ⟨a1,a2,a3⟩:=box_cells HB3.out HX1.out;obtain ⟨a4,a5,a6⟩:=box_cells HB3.out HX2.out;clear hout hown hg hor hb9)
            | (go_at_call 21
               refine (CS.out W1 HB1.out).mono ?_;rintro e w2 ⟨rfl,hb⟩;have HB2:=jH (show jB W1 w2 from hb);have HBW2:=jH (bthen HB1.out hb);clear a1 a2 a3 a4 a5 a6;obtain ⟨a1,a2,a3⟩:=box_cells HB2.out HX1.out;obtain ⟨a4,a5,a6⟩:=box_cells HB2.out HX2.out;clear hb)
           )
           go_ret
           refine ⟨A4,c4,?_,?_,HBW5.out⟩
           · rw [HRES.out];have h9:=HOU4.out;subst h9;rfl
           · rw [HRES.out];have h9:=(HO4.out.below HK5.out);rw [HOU4.out] at h9;exact h9.lower HLT.out
  | true =>
    cases ab with
    | false =>
      cases pq with
      | false =>
        have HRES:=jH (show partsB true (decide (b=d) && false) false=[polS,pastS] from by rw [show (decide (b=d) && false)=false from by simp];rfl)
        as_aux_lemma =>
         go_wp2_with (first
          | (at_builtin
             refine wpList_appendL eId (by rfl) (by rfl) W1.heap.size o3 [pastS] (.slice A3 o3.length c3) _ (by rfl) (by rfl) (HO3.out.below HK4.out |>.below (balloc jR _)) (RowIn.lit (n:=1) (f:=idC) w4 pastS _ _ _ (by first|rfl|simp) rfl) (by rw [HOU3.out];simp) (by have:=HB4.out.size;simp;omega) ?_;intro o5 A5 c5 w5 hout hown hg hor;have HO5:=jH hown;have HOU5:=jH (show o5=[polS]++[pastS] from by rw [hout,HOU3.out] <;> rfl)
             have hb9:jB W1 w5:=(bthen HB4.out (balloc jR _)).trans (grown_own hg HO3.out (by have:=HB4.out.size;simp;omega));have HB5:=jH hb9;have HBW5:=jH (bthen HB1.out hb9);clear a1 a2 a3 a4 a5 a6;obtain ⟨a1,a2,a3⟩:=box_cells HB5.out HX1.out;obtain ⟨a4,a5,a6⟩:=box_cells HB5.out HX2.out;clear hout hown hg hor hb9)
          | (go_at_call 60
             refine (CA.out w3 HBW3.out).mono ?_;rintro e w4 ⟨rfl,hb⟩;have HB4:=jH (show jB W1 w4 from bthen HB3.out hb);have HBW4:=jH (bthen HBW3.out hb);clear a1 a2 a3 a4 a5 a6;obtain ⟨a1,a2,a3⟩:=box_cells HB4.out HX1.out;obtain ⟨a4,a5,a6⟩:=box_cells HB4.out HX2.out;have HK4:=jH hb;clear hb)
          | (at_builtin
             refine wpList_appendL eId (by rfl) (by rfl) W1.heap.size [] [polS] (.slice none 0 0) _ (by rfl) (by rfl) (OwnL.nil _ _) (RowIn.lit (n:=1) (f:=idC) w2 polS _ _ _ (by first|rfl|simp) rfl) (by simp) (by have:=HB2.out.size;simp;omega) ?_;intro o3 A3 c3 w3 hout hown hg hor;have HO3:=jH hown;have HOU3:=jH (show o3=[polS] from hout);have hb9:jB W1 w3:=(bthen HB2.out (balloc jR _)).trans (grown_own hg (OwnL.nil (f:=idC) (e:=9) (n:=1) W1.heap.size W1) (by have:=HB2.out.size;simp;omega))
             have HB3:=jH hb9;have HBW3:=jH (bthen HB1.out hb9);clear a1 a2 a3 a4 a5 a6;obtain ⟨a1,a2,a3⟩:=box_cells HB3.out HX1.out;obtain ⟨a4,a5,a6⟩:=box_cells HB3.out HX2.out;clear hout hown hg hor hb9)
          | (go_at_call 21
             refine (CS.out W1 HB1.out).mono ?_;rintro e w2 ⟨rfl,hb⟩;have HB2:=jH (show jB W1 w2 from hb);have HBW2:=jH (bthen HB1.out hb);clear a1 a2 a3 a4 a5 a6;obtain ⟨a1,a2,a3⟩:=box_cells HB2.out HX1.out;obtain ⟨a4,a5,a6⟩:=box_cells HB2.out HX2.out;clear hb)
         )
         go_ret
         refine ⟨A5,c5,?_,?_,HBW5.out⟩
         · rw [HRES.out];have h9:=HOU5.out;subst h9;rfl
         · rw [HRES.out];have h9:=HO5.out;rw [HOU5.out] at h9;exact h9.lower HLT.out
      | true =>
        by_cases hr:b=d
        · subst hr
          have z1:(b == b)=true:=by simp
          have HRES:=jH (show partsB true (decide (b=b) && true) false=[pastS] from by rw [show (decide (b=b) && true)=true from by simp];rfl)
          as_aux_lemma =>
           go_wp2_with (first
            | (at_builtin
               refine wpList_appendL eId (by rfl) (by rfl) W1.heap.size [] [pastS] (.slice none 0 0) _ (by rfl) (by rfl) (OwnL.nil _ _) (RowIn.lit (n:=1) (f:=idC) w3 pastS _ _ _ (by first|rfl|simp) rfl) (by simp) (by have:=HB3.out.size;simp;omega) ?_;intro o4 A4 c4 w4 hout hown hg hor;have HO4:=jH hown;have HOU4:=jH (show o4=[pastS] from hout);have hb9:jB W1 w4:=(bthen HB3.out (balloc jR _)).trans (grown_own hg (OwnL.nil (f:=idC) (e:=9) (n:=1) W1.heap.size W1) (by have:=HB3.out.size;simp;omega))
               have HB4:=jH hb9;have HBW4:=jH (bthen HB1.out hb9);clear a1 a2 a3 a4 a5 a6;obtain ⟨a1,a2,a3⟩:=box_cells HB4.out HX1.out;obtain ⟨a4,a5,a6⟩:=box_cells HB4.out HX2.out;clear hout hown hg hor hb9)
            | (go_at_call 60
               refine (CA.out w2 HBW2.out).mono ?_;rintro e w3 ⟨rfl,hb⟩;have HB3:=jH (show jB W1 w3 from bthen HB2.out hb);have HBW3:=jH (bthen HBW2.out hb);clear a1 a2 a3 a4 a5 a6;obtain ⟨a1,a2,a3⟩:=box_cells HB3.out HX1.out;obtain ⟨a4,a5,a6⟩:=box_cells HB3.out HX2.out;clear hb)
            | (go_at_call 21
               refine (CS.out W1 HB1.out).mono ?_;rintro e w2 ⟨rfl,hb⟩;have HB2:=jH (show jB W1 w2 from hb);have HBW2:=jH (bthen HB1.out hb);clear a1 a2 a3 a4 a5 a6;obtain ⟨a1,a2,a3⟩:=box_cells HB2.out HX1.out;obtain ⟨a4,a5,a6⟩:=box_cells HB2.out HX2.out;clear hb)
           )
           go_ret
           refine ⟨A4,c4,?_,?_,HBW4.out⟩
           · rw [HRES.out];have h9:=HOU4.out;subst h9;rfl
           · rw [HRES.out];have h9:=HO4.out;rw [HOU4.out] at h9;exact h9.lower HLT.out
        · have z1:(b == d)=false:=by simpa using hr
          have z2:(b != d)=true:=by simpa using hr
          have HRES:=jH (show partsB true (decide (b=d) && true) false=[polS,pastS] from by rw [show (decide (b=d) && true)=false from by simp [hr]];rfl);clear hr
          as_aux_lemma =>
           go_wp2_with (first
            | (at_builtin
               refine wpList_appendL eId (by rfl) (by rfl) W1.heap.size o3 [pastS] (.slice A3 o3.length c3) _ (by rfl) (by rfl) (HO3.out.below HK4.out |>.below (balloc jR _)) (RowIn.lit (n:=1) (f:=idC) w4 pastS _ _ _ (by first|rfl|simp) rfl) (by rw [HOU3.out];simp) (by have:=HB4.out.size;simp;omega) ?_;intro o5 A5 c5 w5 hout hown hg hor;have HO5:=jH hown;have HOU5:=jH (show o5=[polS]++[pastS] from by rw [hout,HOU3.out] <;> rfl)
               have hb9:jB W1 w5:=(bthen HB4.out (balloc jR _)).trans (grown_own hg HO3.out (by have:=HB4.out.size;simp;omega));have HB5:=jH hb9;have HBW5:=jH (bthen HB1.out hb9);clear a1 a2 a3 a4 a5 a6;obtain ⟨a1,a2,a3⟩:=box_cells HB5.out HX1.out;obtain ⟨a4,a5,a6⟩:=box_cells HB5.out HX2.out;clear hout hown hg hor hb9)
            | (go_at_call 60
               refine (CA.out w3 HBW3.out).mono ?_;rintro e w4 ⟨rfl,hb⟩;have HB4:=jH (show jB W1 w4 from bthen HB3.out hb);have HBW4:=jH (bthen HBW3.out hb);clear a1 a2 a3 a4 a5 a6;obtain ⟨a1,a2,a3⟩:=box_cells HB4.out HX1.out;obtain ⟨a4,a5,a6⟩:=box_cells HB4.out HX2.out;have HK4:=jH hb;clear hb)
            | (at_builtin
               refine wpList_appendL eId (by rfl) (by rfl) W1.heap.size [] [polS] (.slice none 0 0) _ (by rfl) (by rfl) (OwnL.nil _ _) (RowIn.lit (n:=1) (f:=idC) w2 polS _ _ _ (by first|rfl|simp) rfl) (by simp) (by have:=HB2.out.size;simp;omega) ?_;intro o3 A3 c3 w3 hout hown hg hor;have HO3:=jH hown;have HOU3:=jH (show o3=[polS] from hout);have hb9:jB W1 w3:=(bthen HB2.out (balloc jR _)).trans (grown_own hg (OwnL.nil (f:=idC) (e:=9) (n:=1) W1.heap.size W1) (by have:=HB2.out.size;simp;omega))
               have HB3:=jH hb9;have HBW3:=jH (bthen HB1.out hb9);clear a1 a2 a3 a4 a5 a6;obtain ⟨a1,a2,a3⟩:=box_cells HB3.out HX1.out;obtain ⟨a4,a5,a6⟩:=box_cells HB3.out HX2.out;clear hout hown hg hor hb9)
            | (go_at_call 21
               refine (CS.out W1 HB1.out).mono ?_;rintro e w2 ⟨rfl,hb⟩;have HB2:=jH (show jB W1 w2 from hb);have HBW2:=jH (bthen HB1.out hb);clear a1 a2 a3 a4 a5 a6;obtain ⟨a1,a2,a3⟩:=box_cells HB2.out HX1.out;obtain ⟨a4,a5,a6⟩:=box_cells HB2.out HX2.out;clear hb)
           )
           go_ret
           refine ⟨A5,c5,?_,?_,HBW5.out⟩
           · rw [HRES.out];have h9:=HOU5.out;subst h9;rfl
           · rw [HRES.out];have h9:=HO5.out;rw [HOU5.out] at h9;exact h9.lower HLT.out
    | true =>
      cases pq with
      | false =>
        have HRES:=jH (show partsB true (decide (b=d) && false) true=[polS] from by rw [show (decide (b=d) && false)=false from by simp];rfl)
        as_aux_lemma =>
         go_wp2_with (first
          | (go_at_call 60
             refine (CA.out w3 HBW3.out).mono ?_;rintro e w4 ⟨rfl,hb⟩;have HB4:=jH (show jB W1 w4 from bthen HB3.out hb);have HBW4:=jH (bthen HBW3.out hb);clear a1 a2 a3 a4 a5 a6;obtain ⟨a1,a2,a3⟩:=box_cells HB4.out HX1.out;obtain ⟨a4,a5,a6⟩:=box_cells HB4.out HX2.out;have HK4:=jH hb;clear hb)
          | (at_builtin
             refine wpList_appendL eId (by rfl) (by rfl) W1.heap.size [] [polS] (.slice none 0 0) _ (by rfl) (by rfl) (OwnL.nil _ _) (RowIn.lit (n:=1) (f:=idC) w2 polS _ _ _ (by first|rfl|simp) rfl) (by simp) (by have:=HB2.out.size;simp;omega) ?_;intro o3 A3 c3 w3 hout hown hg hor;have HO3:=jH hown;have HOU3:=jH (show o3=[polS] from hout);have hb9:jB W1 w3:=(bthen HB2.out (balloc jR _)).trans (grown_own hg (OwnL.nil (f:=idC) (e:=9) (n:=1) W1.heap.size W1) (by have:=HB2.out.size;simp;omega))
             have HB3:=jH hb9;have HBW3:=jH (bthen HB1.out hb9);clear a1 a2 a3 a4 a5 a6;obtain ⟨a1,a2,a3⟩:=box_cells HB3.out HX1.out;obtain ⟨a4,a5,a6⟩:=box_cells HB3.out HX2.out;clear hout hown hg hor hb9)
          | (go_at_call 21
             refine (CS.out W1 HB1.out).mono ?_;rintro e w2 ⟨rfl,hb⟩;have HB2:=jH (show jB W1 w2 from hb);have HBW2:=jH (bthen HB1.out hb);clear a1 a2 a3 a4 a5 a6;obtain ⟨a1,a2,a3⟩:=box_cells HB2.out HX1.out;obtain ⟨a4,a5,a6⟩:=box_cells HB2.out HX2.out;clear hb)
         )
         go_ret
         refine ⟨A3,c3,?_,?_,HBW4.out⟩
         · rw [HRES.out];have h9:=HOU3.out;subst h9;rfl
         · rw [HRES.out];have h9:=(HO3.out.below HK4.out);rw [HOU3.out] at h9;exact h9.lower HLT.out
      | true =>
        by_cases hr:b=d
        · subst hr
          have z1:(b == b)=true:=by simp
          have HRES:=jH (show partsB true (decide (b=b) && true) true=[] from by rw [show (decide (b=b) && true)=true from by simp];rfl)
          as_aux_lemma =>
           go_wp2_with (first
            | (go_at_call 60
               refine (CA.out w2 HBW2.out).mono ?_;rintro e w3 ⟨rfl,hb⟩;have HB3:=jH (show jB W1 w3 from bthen HB2.out hb);have HBW3:=jH (bthen HBW2.out hb);clear a1 a2 a3 a4 a5 a6;obtain ⟨a1,a2,a3⟩:=box_cells HB3.out HX1.out;obtain ⟨a4,a5,a6⟩:=box_cells HB3.out HX2.out;clear hb)
            | (go_at_call 21
               refine (CS.out W1 HB1.out).mono ?_;rintro e w2 ⟨rfl,hb⟩;have HB2:=jH (show jB W1 w2 from hb);have HBW2:=jH (bthen HB1.out hb);clear a1 a2 a3 a4 a5 a6;obtain ⟨a1,a2,a3⟩:=box_cells HB2.out HX1.out;obtain ⟨a4,a5,a6⟩:=box_cells HB2.out HX2.out;clear hb)
           )
           go_ret
           refine ⟨none,0,?_,?_,HBW3.out⟩
           · rw [HRES.out];rfl
           · rw [HRES.out];exact OwnL.nil _ _
        · have z1:(b == d)=false:=by simpa using hr
          have z2:(b != d)=true:=by simpa using hr
          have HRES:=jH (show partsB true (decide (b=d) && true) true=[polS] from by rw [show (decide (b=d) && true)=false from by simp [hr]];rfl);clear hr
          as_aux_lemma =>
           go_wp2_with (first
            | (go_at_call 60
               refine (CA.out w3 HBW3.out).mono ?_;rintro e w4 ⟨rfl,hb⟩;have HB4:=jH (show jB W1 w4 from bthen HB3.out hb);have HBW4:=jH (bthen HBW3.out hb);clear a1 a2 a3 a4 a5 a6;obtain ⟨a1,a2,a3⟩:=box_cells HB4.out HX1.out;obtain ⟨a4,a5,a6⟩:=box_cells HB4.out HX2.out;have HK4:=jH hb;clear hb)
            | (at_builtin
               refine wpList_appendL eId (by rfl) (by rfl) W1.heap.size [] [polS] (.slice none 0 0) _ (by rfl) (by rfl) (OwnL.nil _ _) (RowIn.lit (n:=1) (f:=idC) w2 polS _ _ _ (by first|rfl|simp) rfl) (by simp) (by have:=HB2.out.size;simp;omega) ?_;intro o3 A3 c3 w3 hout hown hg hor;have HO3:=jH hown;have HOU3:=jH (show o3=[polS] from hout);have hb9:jB W1 w3:=(bthen HB2.out (balloc jR _)).trans (grown_own hg (OwnL.nil (f:=idC) (e:=9) (n:=1) W1.heap.size W1) (by have:=HB2.out.size;simp;omega))
               have HB3:=jH hb9;have HBW3:=jH (bthen HB1.out hb9);clear a1 a2 a3 a4 a5 a6;obtain ⟨a1,a2,a3⟩:=box_cells HB3.out HX1.out;obtain ⟨a4,a5,a6⟩:=box_cells HB3.out HX2.out;clear hout hown hg hor hb9)
            | (go_at_call 21
               refine (CS.out W1 HB1.out).mono ?_;rintro e w2 ⟨rfl,hb⟩;have HB2:=jH (show jB W1 w2 from hb);have HBW2:=jH (bthen HB1.out hb);clear a1 a2 a3 a4 a5 a6;obtain ⟨a1,a2,a3⟩:=box_cells HB2.out HX1.out;obtain ⟨a4,a5,a6⟩:=box_cells HB2.out HX2.out;clear hb)
           )
           go_ret
           refine ⟨A3,c3,?_,?_,HBW4.out⟩
           · rw [HRES.out];have h9:=HOU3.out;subst h9;rfl
           · rw [HRES.out];have h9:=(HO3.out.below HK4.out);rw [HOU3.out] at h9;exact h9.lower HLT.out
end
end Go.Proofs.YtkcdhaallnhhmaaGreat
