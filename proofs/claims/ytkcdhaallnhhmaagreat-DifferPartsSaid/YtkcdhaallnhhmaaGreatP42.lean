/- Part 42 of the proof: DfFr. -/
import Derived.Test.YtkcdhaallnhhmaaGreatP26
namespace Go.Proofs.YtkcdhaallnhhmaaGreat
set_option linter.unusedSimpArgs false
set_option linter.unusedVariables false
set_option linter.unusedSectionVars false
set_option maxRecDepth 100000
set_option maxHeartbeats 16000000
section
open Go.RowKit Go.Lib
def freshE (l m:List Smp):List Smp:=m.filter fun s=>decide (s∉l)
theorem freshE_snoc {l m:List Smp} {s:Smp}:freshE l (m++[s])=if decide (s∈l)=true then freshE l m else freshE l m++[s]:=by
 unfold freshE;rw [List.filter_append]
 by_cases h:s∈l
 · rw [if_pos (by simpa using h),List.filter_cons_of_neg (by simpa using h)];simp
 · rw [if_neg (by simpa using h),List.filter_cons_of_pos (by simpa using h)];rfl
theorem freshE_len (l m:List Smp):(freshE l m).length≤m.length:=List.length_filter_le _ _
theorem eqSm (x y:Smp) (U:World):(binOp .eql 118 (.agg #[.int .i64 x.1,.int .i64 x.2]) (.agg #[.int .i64 y.1,.int .i64 y.2])).run Tryz.prog U=.ok (.bool (decide (x=y))) U:=by
 obtain ⟨a,b⟩:=x;obtain ⟨c,d⟩:=y;dsimp only;go_simp
 by_cases h1:a=c
 · by_cases h2:b=d
   · simp [h1,h2]
   · simp [h1,h2]
 · simp [h1]
def SmpSays (w:World) (l:List Smp) (e:Ending) (w':World):Prop:=∃A c,e=.returned (.slice A l.length c)∧OwnL smpC 118 2 w.heap.size w' (.slice A l.length c) l∧jB w w'
theorem sIndex_any (v:Value) (l:List Smp) (s:Smp) (w:World) (hv:RowIn 2 smpC w v l) (hl:l.length≤1000000) :
 Calls Tryz.prog 105 #[v,(.agg #[.int .i64 s.1,.int .i64 s.2])] w fun e w'=>∃r:Int,e=.returned (.int .i64 r)∧decide (0≤r)=decide (s∈l)∧jB w w':=by
 obtain ⟨A,c,rfl⟩:=hv.form;have HV:=jH hv;have hl9:l.length≤9223372036854775807:=by omega
 have q9:(l.length:Int)≤1000000:=by omega
 clear hv hl;have EQ:=eqSm s;obtain ⟨s1,s2⟩:=s;dsimp only at EQ ⊢
 go_enter Tryz.func105,Tryz.ntmps105
 go_upto_region 1 with fail
 refine name_world ?_;intro W1 hW1;have HB1:=jH (show jB w W1 by rw [hW1];exact balloc jR _);have HX1:=jH (show W1.heap[w.heap.size]?=some (.cells #[.int .i64 s1,.int .i64 s2] 118 (0,0)) by rw [hW1];exact heap_alloc_new _ _);clear hW1;go_wp2_with fail
 go_loopg [8] l.length (fun g s8 wr=>∃k:Nat,k≤l.length∧l.length - k≤g∧s8=.int .i64 k∧Hid ((s1,s2)∉l.take k)∧Hid (jB W1 wr))
 case atStart=>exact ⟨0,Nat.zero_le _,Nat.le_refl _,rfl,jH (by simp),jH jR⟩
 case round =>
  obtain ⟨k,hk,hg,rfl,HT,HB⟩:=hrel;rename World=>wr
  obtain ⟨a1,a2,a3⟩:=box_cells HB.out HX1.out
  by_cases hlt:k<l.length
  · obtain ⟨b1,o1,rfl,hb1,hc1⟩:=(HV.out.below (bthen HB1.out HB.out)).at_ hlt
    have z1:(0:Int)≤(k:Int):=by omega
    have z2:(k:Int)<(l.length:Int):=by omega
    have HIN:=jH (show ∀y:Smp,l[k]=y→y∈l from fun y hy=>hy ▸ List.getElem_mem hlt);have HT2:=jH (show (s1,s2)≠l[k]→(s1,s2)∉l.take (k+1) from fun hn h=>by
     rw [List.take_succ_eq_append_getElem hlt,List.mem_append,List.mem_singleton] at h
     rcases h with h|h
     · exact HT.out h
     · exact hn h)
    have EQ2:=EQ l[k];have c0:=hc1 0 _ rfl;have c1:=hc1 1 _ rfl;rw [Nat.add_zero] at c0;generalize l[k]=x at HIN HT2 EQ2 c0 c1;clear hc1 EQ
    by_cases hxy:(s1,s2)=x
    · have HR:=jH (show decide ((0:Int)≤(k:Nat))=decide ((s1,s2)∈l) by rw [decide_eq_true z1,decide_eq_true (HIN.out _ hxy.symm)])
      rw [decide_eq_true hxy] at EQ2;clear hxy HT2 HIN;go_wp2_with fail
      go_quiet (fail)
      go_wp2_with fail
      go_ret
      exact ⟨_,rfl,HR.out,below_drewN (bthen HB1.out HB.out) _⟩
    · have HT3:=jH (HT2.out hxy)
      rw [decide_eq_false hxy] at EQ2;clear hxy HT2 HIN;go_wp2_with fail
      go_quiet (fail)
      go_wp2_with fail
      go_roundg (l.length - (k+1))
      case measure=>omega
      case rel=>exact ⟨k+1,hlt,Nat.le_refl _,by go_num,HT3,jH (below_drewN HB.out _)⟩
  · obtain rfl:k=l.length:=by omega
    have HR:=jH (show decide ((0:Int)≤-1)=decide ((s1,s2)∈l) by have:=HT.out;rw [List.take_length] at this;rw [decide_eq_false this];rfl);go_wp2_with fail
    go_ret
    exact ⟨_,rfl,HR.out,bthen HB1.out HB.out⟩
theorem sContains_any (v:Value) (l:List Smp) (s:Smp) (w:World) (hv:RowIn 2 smpC w v l) (hl:l.length≤1000000) :
 Calls Tryz.prog 61 #[v,(.agg #[.int .i64 s.1,.int .i64 s.2])] w (jP w (.bool (decide (s∈l)))):=by
 have CI:=jH (fun W (hW:jB w W)=>sIndex_any v l s W (hv.below hW) hl);obtain ⟨A,c,rfl⟩:=hv.form;obtain ⟨b,hb⟩:∃r,r=decide (s∈l):=⟨_,rfl⟩;rw [←hb] at CI ⊢;clear hv hl hb;generalize l.length=n at CI ⊢;obtain ⟨s1,s2⟩:=s;dsimp only at CI ⊢
 go_enter Tryz.func61,Tryz.ntmps61
 go_wp2_with (first
  | (go_at_call 105
     refine calls_named ?_;intro W1 hW1;have hb1:jB w W1:=by rw [hW1];exact balloc jR _
     clear hW1;refine (CI.out W1 hb1).mono ?_;rintro e w2 ⟨r,rfl,hr,hb2⟩;have HR:=jH hr;have HB2:=jH (bthen hb1 hb2);clear hr hb1 hb2))
 go_ret
 exact ⟨by simp only [HR.out];rfl,HB2.out⟩
theorem fresh_core (p q:Pol) (b d:Bool) (l m:List Smp) (n3 n4:Nat) (sA sB pA pB:Option Addr) (sc sd pc pd:Nat) (w:World)
    (HR1:Hid (RowIn 2 smpC w (.slice sA l.length sc) l)) (HR2:Hid (RowIn 2 smpC w (.slice sB m.length sd) m)) (HL:Hid (l.length≤1000000∧m.length≤1000000)) :
    Calls Tryz.prog 22 #[.agg #[.slice sA l.length sc,.slice pA n3 pc,.int .i64 p.mn,.int .i64 p.mx,.int .i64 p.tg,.int .i64 p.tol,.int .i64 p.win,.int .i64 p.hold,.bool b],.agg #[.slice sB m.length sd,.slice pB n4 pd,.int .i64 q.mn,.int .i64 q.mx,.int .i64 q.tg,.int .i64 q.tol,.int .i64 q.win,.int .i64 q.hold,.bool d]] w (SmpSays w (freshE l m)):=by
  have CC:=jH (fun (s:Smp) W (hW:jB w W)=>sContains_any _ l s W (HR1.out.below hW) HL.out.1);have q9:(m.length:Int)≤1000000:=by have:=HL.out.2;omega
  have q8:(l.length:Int)≤1000000:=by have:=HL.out.1;omega
  obtain ⟨p1,p2,p3,p4,p5,p6⟩:=p;obtain ⟨q1,q2,q3,q4,q5,q6⟩:=q;dsimp only
  go_enter Tryz.func22,Tryz.ntmps22
  go_upto_region 2 with fail
  refine name_world ?_;intro W1 hW1;have HB1:=jH (show jB w W1 by rw [hW1];exact balloc (balloc jR _) _);have HX1:=jH (show W1.heap[w.heap.size]?=some (.cells #[.slice sA l.length sc,.slice pA n3 pc,.int .i64 p1,.int .i64 p2,.int .i64 p3,.int .i64 p4,.int .i64 p5,.int .i64 p6,.bool b] 50 (0,0)) by rw [hW1];exact box_old _ _ _);have HX2:=jH (show W1.heap[w.heap.size+1]?=some (.cells #[.slice sB m.length sd,.slice pB n4 pd,.int .i64 q1,.int .i64 q2,.int .i64 q3,.int .i64 q4,.int .i64 q5,.int .i64 q6,.bool d] 50 (0,0)) by rw [hW1];exact box_new _ _ _)
  clear hW1;obtain ⟨a1,a2,a3⟩:=box_cells jR HX1.out;obtain ⟨a4,a5,a6⟩:=box_cells jR HX2.out;have HLT:=jH (show w.heap.size≤W1.heap.size from HB1.out.size)
  go_upto_region 3 with fail
  clear a1 a2 a3 a4 a5 a6
  go_loopg [5,11] m.length (fun g s5 s11 wr=>∃k:Nat,k≤m.length∧m.length - k≤g∧s11=.int .i64 k∧OwnL smpC 118 2 W1.heap.size wr s5 (freshE l (m.take k))∧jB W1 wr)
  case atStart=>exact ⟨0,Nat.zero_le _,Nat.le_refl _,rfl,OwnL.nil _ _,jR⟩
  case round =>
   obtain ⟨k,hk,hg,rfl,hown,hbw⟩:=hrel;rename World=>wr
   have HBr:=jH hbw;obtain ⟨a1,a2,a3⟩:=box_cells HBr.out HX1.out
   by_cases hlt:k<m.length
   · obtain ⟨B1,e1,rfl⟩:=hown.form
     have z1:(k:Int)<(m.length:Int):=by omega
     have z2:(0:Int)≤(k:Int):=by omega
     obtain ⟨b1,o1,rfl,hb1,hc⟩:=(HR2.out.below (bthen HB1.out HBr.out)).at_ hlt;have HT2:=jH (show freshE l (m.take (k+1))=if decide (m[k]∈l)=true then freshE l (m.take k) else freshE l (m.take k)++[m[k]] by rw [List.take_succ_eq_append_getElem hlt,freshE_snoc]);have htl:(freshE l (m.take k)).length≤1000000:=Nat.le_trans (freshE_len _ _) (by rw [List.length_take];have:=HL.out.2;omega);generalize freshE l (m.take k)=ys at hown HT2 htl ⊢
     have HY:=jH hown;have HYL:=jH htl;have HWS:=jH (show W1.heap.size≤wr.heap.size from HBr.out.size);have c0:=hc 0 _ rfl;have c1:=hc 1 _ rfl;rw [Nat.add_zero] at c0;have CX:=jH (CC.out m[k]);generalize m[k]=x at c0 c1 HT2 CX;obtain ⟨x1,x2⟩:=x;dsimp only at c0 c1 CX;generalize decide ((x1,x2)∈l)=is at HT2 CX;clear hc hown htl hbw
     cases is with
     | true =>
       have HT3:=jH (HT2.out.trans (if_pos rfl))
       go_wp2_with (first
        | (go_at_call 61
           refine calls_named ?_;intro W2 hW2;have hb2:jB wr W2:=by rw [hW2];exact balloc jR _
           clear hW2;refine (CX.out W2 (bthen HB1.out (bthen HBr.out hb2))).mono ?_;rintro e w3 ⟨rfl,hb3⟩;have HB3:=jH (show jB W1 w3 from bthen (bthen HBr.out hb2) hb3);have HBY:=jH (show jB wr w3 from bthen hb2 hb3);clear hb2 hb3))
       go_roundg (m.length - (k+1))
       case measure=>omega
       case rel=>exact ⟨k+1,hlt,Nat.le_refl _,by go_num,by rw [HT3.out];exact HY.out.below HBY.out,HB3.out⟩
     | false =>
       have HT3:=jH (HT2.out.trans (if_neg (by simp)))
       go_wp2_with (first
        | (go_at_call 61
           refine calls_named ?_;intro W2 hW2;have hb2:jB wr W2:=by rw [hW2];exact balloc jR _
           have hx2:W2.heap[wr.heap.size]?=some (.cells #[.int .i64 x1,.int .i64 x2] 118 (0,0)):=by rw [hW2];exact heap_alloc_new _ _
           clear hW2;refine (CX.out W2 (bthen HB1.out (bthen HBr.out hb2))).mono ?_;rintro e w3 ⟨rfl,hb3⟩;obtain ⟨d1,d2,d3⟩:=box_cells hb3 hx2;have HB3:=jH (show jB W1 w3 from bthen (bthen HBr.out hb2) hb3);have HBY:=jH (show jB wr w3 from bthen hb2 hb3);clear hb2 hb3 hx2)
        | (at_builtin
           refine wpList_appendL eSmp (by rfl) (by rfl) W1.heap.size ys [(x1,x2)] (.slice B1 ys.length e1) _ (by rfl) (by rfl) (HY.out.below HBY.out |>.below (balloc jR _)) (RowIn.lit (n:=2) (f:=smpC) w3 (x1,x2) _ _ _ (by first|rfl|simp) rfl) (by have:=HYL.out;simp;omega) (by have:=HB3.out.size;simp;omega) ?_;intro o5 A5 c5 w5 hout hown hg hor;have HOU:=jH (show o5=ys++[(x1,x2)] from hout);have HO:=jH hown
           have HB5:=jH (show jB W1 w5 from (bthen HB3.out (balloc jR _)).trans (grown_own hg HY.out (by have:=HB3.out.size;simp;omega)));clear hown hout hg hor)
        )
       go_roundg (m.length - (k+1))
       case measure=>omega
       case rel=>exact ⟨k+1,hlt,Nat.le_refl _,by go_num,by rw [HT3.out,←HOU.out];exact HO.out,HB5.out⟩
   · obtain rfl:k=m.length:=by omega
     have z1:¬(m.length:Int)<(m.length:Int):=by omega
     rw [List.take_length] at hown;obtain ⟨B1,e1,rfl⟩:=hown.form;have HO:=jH hown;clear hown hbw;go_wp2_with fail
     go_ret
     exact ⟨_,_,rfl,HO.out.lower HLT.out,bthen HB1.out HBr.out⟩
theorem rfresh_any (v u:Value) (l m:List Smp) (w:World) (hv:RowIn 2 smpC w v l) (hu:RowIn 2 smpC w u m) (hl:l.length≤1000000) (hm:m.length≤1000000) :
 Calls Tryz.prog 23 #[v,u] w (SmpSays w (freshE l m)):=by
 obtain ⟨A,c,rfl⟩:=hv.form;obtain ⟨A',c',rfl⟩:=hu.form;have HV:=jH hv;have HU:=jH hu;have HL:=jH (And.intro hl hm);have q9:(m.length:Int)≤1000000:=by omega
 have q8:(l.length:Int)≤1000000:=by omega
 clear hv hu hl hm
 go_enter Tryz.func23,Tryz.ntmps23
 go_wp2_with fail
 go_loopg [5,6] m.length (fun g s5 s6 wr=>∃k:Nat,k≤m.length∧m.length - k≤g∧s6=.int .i64 k∧OwnL smpC 118 2 w.heap.size wr s5 (freshE l (m.take k))∧jB w wr)
 case atStart=>exact ⟨0,Nat.zero_le _,Nat.le_refl _,rfl,OwnL.nil _ _,jR⟩
 case round =>
  obtain ⟨k,hk,hg,rfl,hown,hbw⟩:=hrel;rename World=>wr
  have HBr:=jH hbw
  by_cases hlt:k<m.length
  · obtain ⟨B1,e1,rfl⟩:=hown.form
    have z1:(k:Int)<(m.length:Int):=by omega
    have z2:(0:Int)≤(k:Int):=by omega
    obtain ⟨b1,o1,rfl,hb1,hc⟩:=(HU.out.below HBr.out).at_ hlt;have HT2:=jH (show freshE l (m.take (k+1))=if decide (m[k]∈l)=true then freshE l (m.take k) else freshE l (m.take k)++[m[k]] by rw [List.take_succ_eq_append_getElem hlt,freshE_snoc]);have htl:(freshE l (m.take k)).length≤1000000:=Nat.le_trans (freshE_len _ _) (by rw [List.length_take];have:=HL.out.2;omega);generalize freshE l (m.take k)=ys at hown HT2 htl ⊢
    have HY:=jH hown;have HYL:=jH htl;have HCX:=jH hc;have EQ:=fun y=>eqSm y m[k]
    generalize m[k]=x at HCX HT2 EQ;obtain ⟨x1,x2⟩:=x;dsimp only at EQ;clear hc hown htl hbw
    go_upto_region 7 with fail
    go_loopg [7,8] l.length (fun g s7 s8 wi=>∃j:Nat,j≤l.length∧l.length - j≤g∧s8=.int .i64 j∧s7=.bool (!decide ((x1,x2)∈l.take j))∧Hid (jB wr wi))
    case atStart=>exact ⟨0,Nat.zero_le _,Nat.le_refl _,rfl,rfl,jH jR⟩
    case round =>
     obtain ⟨j,hj,hg,rfl,rfl,HBi⟩:=hrel;rename World=>wi
     have HCI:=jH (show ∀(i:Nat) (v:Value),(smpC (x1,x2))[i]?=some v→wi.cell? ⟨b1,o1+k * 2+i,none⟩=some v from fun i v hi=>(HBi.out.cell (p:=⟨b1,_,none⟩) hb1).trans (HCX.out i v hi));have c0:=HCI.out 0 _ rfl;have c1:=HCI.out 1 _ rfl;rw [Nat.add_zero] at c0;dsimp only at c0 c1
     by_cases hlj:j<l.length
     · have y1:(j:Int)<(l.length:Int):=by omega
       have y2:(0:Int)≤(j:Int):=by omega
       obtain ⟨b2,o2,rfl,hb2,hc2⟩:=(HV.out.below (bthen HBr.out HBi.out)).at_ hlj;have d0:=hc2 0 _ rfl;have d1:=hc2 1 _ rfl;rw [Nat.add_zero] at d0;have EQ2:=EQ l[j];have HN:=jH (show (!decide ((x1,x2)∈l.take (j+1)))=if l[j]=(x1,x2) then false else !decide ((x1,x2)∈l.take j) by
        rw [List.take_succ_eq_append_getElem hlj]
        by_cases h:l[j]=(x1,x2)
        · rw [if_pos h,decide_eq_true (by rw [List.mem_append,List.mem_singleton];exact .inr h.symm)];rfl
        · rw [if_neg h]
          have h9:((x1,x2)∈l.take j++[l[j]]) ↔ (x1,x2)∈l.take j:=by rw [List.mem_append,List.mem_singleton];exact ⟨fun h8=>h8.resolve_right (fun e=>h e.symm),.inl⟩
          rw [decide_eq_decide.2 h9])
       generalize (!decide ((x1,x2)∈l.take j))=was at HN ⊢;generalize l[j]=y at d0 d1 EQ2 HN;obtain ⟨y1',y2'⟩:=y;dsimp only at d0 d1 EQ2;clear hc2 EQ
       by_cases he:(y1',y2')=(x1,x2)
       · have HN2:=jH (HN.out.trans (if_pos he))
         rw [decide_eq_true he] at EQ2;clear he;go_wp2_with fail
         go_quiet (fail)
         go_wp2_with fail
         go_roundg (l.length - (j+1))
         case measure=>omega
         case rel=>exact ⟨j+1,hlj,Nat.le_refl _,by go_num,by rw [HN2.out],jH (below_drewN HBi.out _)⟩
       · have HN2:=jH (HN.out.trans (if_neg he))
         rw [decide_eq_false he] at EQ2;clear he;go_wp2_with fail
         go_quiet (fail)
         go_wp2_with fail
         go_roundg (l.length - (j+1))
         case measure=>omega
         case rel=>exact ⟨j+1,hlj,Nat.le_refl _,by go_num,by rw [HN2.out],jH (below_drewN HBi.out _)⟩
     · obtain rfl:j=l.length:=by omega
       have y1:¬(l.length:Int)<(l.length:Int):=by omega
       have HYi:=jH (HY.out.below HBi.out);have HBw:=jH (show jB w wi from bthen HBr.out HBi.out);rw [List.take_length];generalize decide ((x1,x2)∈l)=is at HT2 ⊢
       cases is with
       | true =>
         have HT3:=jH (HT2.out.trans (if_pos rfl));go_wp2_with fail
         go_roundg (m.length - (k+1))
         case measure=>omega
         case rel=>exact ⟨k+1,hlt,Nat.le_refl _,by go_num,by rw [HT3.out];exact HYi.out,HBw.out⟩
       | false =>
         have HT3:=jH (HT2.out.trans (if_neg (by simp)))
         go_wp2_with (first
          | (at_builtin
             refine wpList_appendL eSmp (by rfl) (by rfl) w.heap.size ys [(x1,x2)] (.slice B1 ys.length e1) _ (by rfl) (by rfl) (HYi.out.below jR |>.below (balloc jR _)) (RowIn.lit (n:=2) (f:=smpC) wi (x1,x2) _ _ _ (by first|rfl|simp) rfl) (by have:=HYL.out;simp;omega) (by have:=HBw.out.size;simp;omega) ?_;intro o5 A5 c5 w5 hout hown hg hor;have HOU:=jH (show o5=ys++[(x1,x2)] from hout);have HO:=jH hown
             have HB5:=jH (show jB w w5 from (bthen HBw.out (balloc jR _)).trans (grown_own hg HYi.out (by have:=HBw.out.size;simp;omega)));clear hown hout hg hor)
          )
         go_roundg (m.length - (k+1))
         case measure=>omega
         case rel=>exact ⟨k+1,hlt,Nat.le_refl _,by go_num,by rw [HT3.out,←HOU.out];exact HO.out,HB5.out⟩
  · obtain rfl:k=m.length:=by omega
    have z1:¬(m.length:Int)<(m.length:Int):=by omega
    rw [List.take_length] at hown;obtain ⟨B1,e1,rfl⟩:=hown.form;have HO:=jH hown;clear hown hbw;go_wp2_with fail
    go_ret
    exact ⟨_,_,rfl,HO.out,HBr.out⟩
end
end Go.Proofs.YtkcdhaallnhhmaaGreat
