/- Part 45 of the proof: TrTold. -/
import Derived.Test.YtkcdhaallnhhmaaGreatL33
namespace Go.Proofs.YtkcdhaallnhhmaaGreat
set_option linter.unusedSimpArgs false
set_option linter.unusedVariables false
set_option linter.unusedSectionVars false
set_option maxRecDepth 100000
set_option maxHeartbeats 16000000
section
open Go.RowKit Go.Lib
def tellB (pre:List EvtD) (e:EvtD):Bool:=if e.kind=3 then (match lastE 2 e.task e.nth pre with|none=>false|some p=>sameRep p.rep' e.rep') else true
def toldG:List EvtD→List EvtD→Bool
  | _,[]=>true
  | pre,e::l=>tellB pre e && toldG (pre++[e]) l
theorem toldG_drop {es:List EvtD} {k:Nat} (hk:k<es.length):toldG (es.take k) (es.drop k)=(tellB (es.take k) es[k] && toldG (es.take (k+1)) (es.drop (k+1))):=by
 rw [List.drop_eq_getElem_cons hk,List.take_succ_eq_append_getElem hk];rfl
theorem neRep (a b:RepD) (U:World):(binOp .neq 76 (repV a) (repV b)).run Tryz.prog U=.ok (.bool (!sameRep a b)) U:=by
 obtain ⟨a0,a1,a2,⟨a3,a4,a5,a6,a7⟩,⟨a8,a9,a10,a11,a12⟩⟩:=a;obtain ⟨b0,b1,b2,⟨b3,b4,b5,b6,b7⟩,⟨b8,b9,b10,b11,b12⟩⟩:=b;obtain ⟨R,hR⟩:∃R:Result Value,R=Result.ok (Value.bool (!((decide (a0=b0) && (decide (a1=b1) && (decide (a2=b2) && (decide (a3=b3) && (decide (a4=b4) && (decide (a5=b5) && (decide (a6=b6) && (decide (a7=b7) && (decide (a8=b8) && (decide (a9=b9) && (decide (a10=b10) && (decide (a11=b11) && decide (a12=b12)))))))))))))))) U:=⟨_,rfl⟩
 have hs:sameRep ⟨a0,a1,a2,⟨a3,a4,a5,a6,a7⟩,⟨a8,a9,a10,a11,a12⟩⟩ ⟨b0,b1,b2,⟨b3,b4,b5,b6,b7⟩,⟨b8,b9,b10,b11,b12⟩⟩=((decide (a0=b0) && (decide (a1=b1) && (decide (a2=b2) && (decide (a3=b3) && (decide (a4=b4) && (decide (a5=b5) && (decide (a6=b6) && (decide (a7=b7) && (decide (a8=b8) && (decide (a9=b9) && (decide (a10=b10) && (decide (a11=b11) && decide (a12=b12)))))))))))))):=by
  unfold sameRep;simp only [Bool.decide_and]
 rw [hs,←hR];unfold repV repC;dsimp only;clear hs;have HR:=jH hR;clear hR;go_simp;rw [HR.out]
 repeat (refine ite_f (fun b=>Result.ok (Value.bool (!b)) U) _ ?_)
 by_cases h:a12=b12
 · simp [h]
 · simp [h]
theorem rtold_any (v:Value) (es:List EvtD) (w:World) (he:RowIn 34 evC w v es) (hel:es.length≤100) :
 Calls Tryz.prog 37 #[v] w (jP w (.bool (toldG [] es))):=by
 obtain ⟨A,c,rfl,hAc,h0⟩:=id he;clear h0;have HE:=jH he;have HEL:=jH hel;have q9:(es.length:Int)≤100:=by omega
 obtain ⟨ans,hans⟩:∃r,r=toldG [] es:=⟨_,rfl⟩;rw [←hans];have HANS:=jH hans;clear he hAc hel hans
 go_enter Tryz.func37,Tryz.ntmps37
 go_wp2_with fail
 go_loopg [3] es.length (fun g s3 wr=>∃k:Nat,k≤es.length∧es.length - k≤g∧s3=.int .i64 k∧Hid (toldG (es.take k) (es.drop k)=ans)∧jB w wr)
 case atStart=>exact ⟨0,Nat.zero_le _,Nat.le_refl _,rfl,jH (by rw [HANS.out];rfl),jR⟩
 case round =>
  obtain ⟨k,hk,hg,rfl,HR,hb⟩:=hrel;rename World=>wr
  have HBr:=jH hb;clear hb
  by_cases hlt:k<es.length
  · have z1:(k:Int)<(es.length:Int):=by omega
    have z2:(0:Int)≤(k:Int):=by omega
    have z3:(k:Int)≤(es.length:Int):=by omega
    have HER:=jH (HE.out.below HBr.out);obtain ⟨b1,o1,rfl,hb1,hc⟩:=HER.out.at_ hlt;have HRR:=jH ((toldG_drop hlt).symm.trans HR.out);clear HR;have c0:=hc 0 _ rfl;rw [Nat.add_zero] at c0;have HTB:=jH (show tellB (es.take k) es[k]=if es[k].kind=3 then (match lastE 2 es[k].task es[k].nth (es.take k) with|none=>false|some p=>sameRep p.rep' es[k].rep') else true from rfl)
    by_cases h3:es[k].kind=3
    · have HTB3:=jH (HTB.out.trans (if_pos h3))
      obtain ⟨m,A2,c2,hm,hsl,hrow⟩:=row_to eEvR HER.out k (Nat.le_of_lt hlt);have c1:=hc 1 _ rfl;have c2':=hc 2 _ rfl;have d0:=hc 14 _ rfl;have d1:=hc 15 _ rfl;have d2:=hc 16 _ rfl;have d3:=hc 17 _ rfl;have d4:=hc 18 _ rfl;have d5:=hc 19 _ rfl;have d6:=hc 20 _ rfl;have d7:=hc 21 _ rfl;have d8:=hc 22 _ rfl;have d9:=hc 23 _ rfl;have d10:=hc 24 _ rfl;have d11:=hc 25 _ rfl;have d12:=hc 26 _ rfl;have HML:=jH (show m.length≤100 by rw [hm,List.length_take];have:=HEL.out;omega)
      have CL:=jH (fun W (hW:jB wr W)=>last30_any (.slice A2 m.length c2) m 2 es[k].task es[k].nth W (hrow.below hW) HML.out);have HSP:=jH (lastN_spec (kd:=2) (t:=es[k].task) (n:=es[k].nth) m);rw [hm] at HSP;have h3':=h3;rw [h3] at c0;obtain ⟨n9,hn9⟩:∃r,r=lastN 2 es[k].task es[k].nth m:=⟨_,rfl⟩;rw [←hn9] at CL;rw [hm] at hn9;rw [←hn9] at HSP;have NE:=fun p:EvtD=>neRep p.rep' es[k].rep'
      have HCOPY:=jH hc;clear hm hn9 h3 h3' hc HTB
      rcases HSP.out with ⟨e1,e2⟩|⟨j,hj,e1,e2⟩
      · subst e1
        have HR2:=jH (show false=ans from by have h9:=HRR.out;rw [HTB3.out,e2] at h9;exact h9);clear HRR HTB3 e2 NE
        go_upto_region 5 with fail
        go_quiet ((go_at_call 74;exact Calls.quiet_of_same (CL.out _ (below_drewN jR _))))
        go_upto_region 6 with fail
        go_quiet (fail)
        go_wp2_with fail
        go_ret
        exact ⟨by rw [←HR2.out];rfl,below_drewN HBr.out _⟩
      · subst e1
        have hjl:j<es.length:=by rw [List.length_take] at hj;omega
        have hje:(es.take k)[j]=es[j]:=List.getElem_take;rw [hje] at e2;obtain ⟨b2,o2,h9,hb2,hc2⟩:=HER.out.at_ hjl;injection h9 with h9
        injection h9 with h9 h10 h11
        subst h9 h10;have f0:=hc2 14 _ rfl;have f1:=hc2 15 _ rfl;have f2:=hc2 16 _ rfl;have f3:=hc2 17 _ rfl;have f4:=hc2 18 _ rfl;have f5:=hc2 19 _ rfl;have f6:=hc2 20 _ rfl;have f7:=hc2 21 _ rfl;have f8:=hc2 22 _ rfl;have f9:=hc2 23 _ rfl;have f10:=hc2 24 _ rfl;have f11:=hc2 25 _ rfl;have f12:=hc2 26 _ rfl;have y1:(0:Int)≤(j:Int):=by omega
        have y2:(j:Int)<(es.length:Int):=by omega
        have y3:¬(j:Int)<0:=by omega
        obtain ⟨sb,hsb⟩:∃r,r=sameRep es[j].rep' es[k].rep':=⟨_,rfl⟩;have NE9:∀U,(binOp .neq 76 (.agg #[.int .i64 es[j].err,.int .i64 es[j].epoch,.int .i64 es[j].handle,.int .i64 es[j].cnt,.int .i64 es[j].sum,.int .i64 es[j].least,.int .i64 es[j].most,.int .i64 es[j].mean,.int .i64 es[j].atick,.int .i64 es[j].aload,.int .i64 es[j].awant,.int .i64 es[j].arepl,.int .i64 es[j].awhy]) (.agg #[.int .i64 es[k].err,.int .i64 es[k].epoch,.int .i64 es[k].handle,.int .i64 es[k].cnt,.int .i64 es[k].sum,.int .i64 es[k].least,.int .i64 es[k].most,.int .i64 es[k].mean,.int .i64 es[k].atick,.int .i64 es[k].aload,.int .i64 es[k].awant,.int .i64 es[k].arepl,.int .i64 es[k].awhy])).run Tryz.prog U=.ok (.bool (!sb)) U:=fun U=>by rw [hsb];exact neRep es[j].rep' es[k].rep' U
        have HR2:=jH (show (sb && toldG (es.take (k+1)) (es.drop (k+1)))=ans from by have h9:=HRR.out;rw [HTB3.out,e2] at h9;rw [hsb];exact h9);clear HRR HTB3 e2 NE hsb hc2 hje hj
        cases sb with
        | false =>
          have HR3:=jH (show false=ans from HR2.out)
          go_upto_region 5 with fail
          go_quiet ((go_at_call 74;exact Calls.quiet_of_same (CL.out _ (below_drewN jR _))))
          go_upto_region 6 with fail
          go_quiet (fail)
          go_wp2_with fail
          go_ret
          exact ⟨by rw [←HR3.out];rfl,below_drewN HBr.out _⟩
        | true =>
          have HR3:=jH (show toldG (es.take (k+1)) (es.drop (k+1))=ans from HR2.out)
          go_upto_region 5 with fail
          go_quiet ((go_at_call 74;exact Calls.quiet_of_same (CL.out _ (below_drewN jR _))))
          go_upto_region 6 with fail
          go_quiet (fail)
          go_wp2_with fail
          go_roundg (es.length - (k+1))
          case measure=>omega
          case rel=>exact ⟨k+1,hlt,Nat.le_refl _,by go_num,HR3,below_drewN HBr.out _⟩
    · have HR2:=jH (show toldG (es.take (k+1)) (es.drop (k+1))=ans from by have h9:=HRR.out;rw [HTB.out,if_neg h3,Bool.true_and] at h9;exact h9)
      have y0:(es[k].kind != 3)=true:=by simpa using h3
      generalize es[k].kind=ek at c0 y0;clear HRR HTB h3 hc;go_wp2_with fail
      go_roundg (es.length - (k+1))
      case measure=>omega
      case rel=>exact ⟨k+1,hlt,Nat.le_refl _,by go_num,HR2,HBr.out⟩
  · obtain rfl:k=es.length:=by omega
    have z1:¬(es.length:Int)<(es.length:Int):=by omega
    have HR2:=jH (show true=ans from by have h9:=HR.out;rw [List.drop_length] at h9;exact h9);clear HR;go_wp2_with fail
    go_ret
    exact ⟨by rw [←HR2.out];rfl,HBr.out⟩
end
end Go.Proofs.YtkcdhaallnhhmaaGreat
