/- Part 49 of the proof: OrdEp, OrdLaw. -/
import Derived.Test.YtkcdhaallnhhmaaGreatL47
namespace Go.Proofs.YtkcdhaallnhhmaaGreat
set_option linter.unusedSimpArgs false
set_option linter.unusedVariables false
set_option linter.unusedSectionVars false
set_option maxRecDepth 100000
set_option maxHeartbeats 16000000
section
open Go.RowKit Go.Lib
def kindV (B:Nat):Value:=.func (.func 162) #[] #[.pointer (some ⟨B,0,none⟩)]
def kindsE (kd:Int) (es:List EvtD):List EvtD:=es.filter fun e=>decide (e.kind=kd)
def epB (e:EvtD):Bool:=decide (e.call.kind=3∧e.err=0)
def epE (es:List EvtD):List Int:=((kindsE 2 es).filter epB).map (·.epoch)
theorem kindsE_snoc {kd:Int} {es:List EvtD} {e:EvtD}:kindsE kd (es++[e])=if e.kind=kd then kindsE kd es++[e] else kindsE kd es:=by
 unfold kindsE;rw [List.filter_append]
 by_cases h:e.kind=kd
 · rw [if_pos h,List.filter_cons_of_pos (by simpa using h)];rfl
 · rw [if_neg h,List.filter_cons_of_neg (by simpa using h)];simp
theorem ep_snoc {es:List EvtD} {e:EvtD}:((es++[e]).filter epB).map (·.epoch)=if epB e=true then (es.filter epB).map (·.epoch)++[e.epoch] else (es.filter epB).map (·.epoch):=by
 rw [List.filter_append]
 by_cases h:epB e=true
 · rw [if_pos h,List.filter_cons_of_pos h];simp
 · rw [if_neg h,List.filter_cons_of_neg h];simp
theorem kindsE_len (kd:Int) (es:List EvtD):(kindsE kd es).length≤es.length:=List.length_filter_le _ _
theorem kindFn_any (e:EvtD) (kd:Int) (B:Nat) (w:World) (hB:∀U,jB w U→U.cell? ⟨B,0,none⟩=some (.int .i64 kd)) :
 Calls Tryz.prog 162 #[evV e,.pointer (some ⟨B,0,none⟩)] w fun x w'=>x=.returned (.bool (decide (e.kind=kd)))∧jB w w':=by
 have q:=hB (w.alloc (.cells (evC e).toArray 132)) (balloc jR _);obtain ⟨sb,hsb⟩:∃sb,sb=decide (e.kind=kd):=⟨_,rfl⟩;have hsb2:(e.kind == kd)=sb:=by rw [hsb];rfl
 rw [←hsb];clear hB hsb;unfold evV;unfold evC at q
 go_enter Tryz.func162,Tryz.ntmps162
 go_wp2_with fail
 go_ret
 exact ⟨rfl,balloc jR _⟩
theorem tkeep_any (v:Value) (es:List EvtD) (kd:Int) (B:Nat) (w:World) (he:RowIn 34 evC w v es) (hel:es.length≤100) (hB:w.cell? ⟨B,0,none⟩=some (.int .i64 kd)) (hBl:B<w.heap.size) :
 Calls Tryz.prog 161 #[v,kindV B] w fun e w'=>∃u,e=.returned u∧RowIn 34 evC w' u (kindsE kd es)∧jB w w':=by
 obtain ⟨A,c,rfl,hAc,h0⟩:=id he;clear h0;have HE:=jH he;have HAC:=jH hAc;have HEL:=jH hel;have q9:(es.length:Int)≤100:=by omega
 have HBC:=jH (fun W (hW:jB w W)=>show W.cell? ⟨B,0,none⟩=some (.int .i64 kd) from (hW.cell (p:=⟨B,_,none⟩) hBl).trans hB);clear he hAc hB hBl hel;unfold kindV
 go_enter Tryz.func161,Tryz.ntmps161
 go_wp2_with fail
 go_loopg [5,10] es.length (fun g s5 s10 wr=>∃k:Nat,k≤es.length∧es.length - k≤g∧s10=.int .i64 k∧OwnL evC 132 34 w.heap.size wr s5 (kindsE kd (es.take k))∧jB w wr)
 case atStart=>exact ⟨0,Nat.zero_le _,Nat.le_refl _,rfl,OwnL.nil _ _,jR⟩
 case round =>
  obtain ⟨k,hk,hg,rfl,hown,hbw⟩:=hrel;rename World=>wr
  have HBr:=jH hbw
  by_cases hlt:k<es.length
  · obtain ⟨b1,o1,rfl,hb1,hc⟩:=(HE.out.below HBr.out).at_ hlt
    obtain ⟨B1,e1,rfl⟩:=hown.form;have hcl:(evC es[k]).length=34:=rfl;have hone:∀v∈evC es[k],v.oneCell'=true:=evC_one _;have HT2:=jH (show kindsE kd (es.take (k+1))=if es[k].kind=kd then kindsE kd (es.take k)++[es[k]] else kindsE kd (es.take k) by rw [List.take_succ_eq_append_getElem hlt,kindsE_snoc]);have htl:(kindsE kd (es.take k)).length≤100:=Nat.le_trans (kindsE_len _ _) (by rw [List.length_take];have:=HEL.out;omega)
    generalize kindsE kd (es.take k)=ys at hown HT2 htl ⊢;have HY:=jH hown;have HYL:=jH htl;have CK:=jH (fun W (hW:jB w W)=>kindFn_any es[k] kd B W (fun U hU=>HBC.out U (bthen hW hU)));obtain ⟨cs,hcs⟩:∃cs,cs=evC es[k]:=⟨_,rfl⟩;have CK9:=jH (fun W (hW:jB w W)=>show Calls Tryz.prog 162 #[.agg cs.toArray,.pointer (some ⟨B,0,none⟩)] W fun x w'=>x=.returned (.bool (decide (es[k].kind=kd)))∧jB W w' by rw [hcs];exact CK.out W hW)
    rw [←hcs] at hc hcl hone;generalize es[k]=x at hcs HT2 CK9;have HCS:=jH hcs;have hst:=store_new (P:=Tryz.prog) wr 132 cs 34 hcl (by kernel_rfl) hone;have HC:=jH hc;have HCL:=jH hcl;clear hc hcl hone hown htl hcs hbw CK
    by_cases hx:x.kind=kd
    · have HT3:=jH (HT2.out.trans (if_pos hx))
      rw [decide_eq_true hx] at CK9;clear hx
      go_wp2_with (first
       | (refine wpList_load_list rfl 132 (.tmp 12) rfl b1 (o1+k * 34) cs HC.out (by rfl) _ Tryz.underlying132 (by rfl) (by rw [HCL.out];kernel_rfl) ?_)
       | (refine wpList_load_list rfl 132 (.tmp 7) rfl wr.heap.size 0 cs HN9.out (by rfl) _ Tryz.underlying132 (by rfl) (by rw [HCL.out];kernel_rfl) ?_)
       | (refine wpList_load_list rfl 132 (.tmp 7) rfl wr.heap.size 0 cs (new_cells _ _ _) (by rfl) _ Tryz.underlying132 (by rfl) (by rw [HCL.out];kernel_rfl) ?_)
       | (go_at_call 162
          refine (CK9.out _ (bthen HBr.out (balloc jR _))).mono ?_;rintro e w2 ⟨rfl,hb⟩;have HN9:=jH (show ∀j v,cs[j]?=some v→w2.cell? ⟨wr.heap.size,0+j,none⟩=some v from fun j v hj=>(hb.cell (p:=⟨wr.heap.size,_,none⟩) (by simp)).trans (new_cells _ _ _ j v hj));have HB2:=jH (bthen (balloc (Below.refl wr.heap.size wr) (.cells cs.toArray 132)) hb);clear hb)
       | (refine wpList_build_one eEv (by decide) rfl (.tmp 18) rfl cs HCL.out (by rfl) ?_)
       | (at_builtin
          refine wpList_appendL eEv (by rfl) (by rfl) w.heap.size ys [x] (.slice B1 ys.length e1) _ (by rfl) (by rfl) ((HY.out.below HB2.out).below (balloc jR _)) (RowIn.lit (n:=34) (f:=evC) w2 x cs.toArray _ _ rfl (by simp [HCS.out])) (by have:=HYL.out;simp;omega) (by have:=HBr.out.size;have:=HB2.out.size;simp;omega) ?_;intro out A2 c2 w3 hout hown hg hor;have HOU:=jH (show out=ys++[x] from hout)
          have hb7:jB w w3:=(bthen HBr.out (bthen HB2.out (balloc jR _))).trans (grown_own hg HY.out (by have:=HBr.out.size;have:=HB2.out.size;simp;omega));have HO:=jH hown;have HB7:=jH hb7;clear hown hout hg hor hb7))
      go_roundg (es.length - (k+1))
      case measure=>omega
      case rel=>exact ⟨k+1,hlt,Nat.le_refl _,by go_num,by rw [HT3.out,←HOU.out];exact HO.out,HB7.out⟩
    · have HT3:=jH (HT2.out.trans (if_neg hx))
      rw [decide_eq_false hx] at CK9;clear hx
      go_wp2_with (first
       | (refine wpList_load_list rfl 132 (.tmp 12) rfl b1 (o1+k * 34) cs HC.out (by rfl) _ Tryz.underlying132 (by rfl) (by rw [HCL.out];kernel_rfl) ?_)
       | (refine wpList_load_list rfl 132 (.tmp 7) rfl wr.heap.size 0 cs (new_cells _ _ _) (by rfl) _ Tryz.underlying132 (by rfl) (by rw [HCL.out];kernel_rfl) ?_)
       | (go_at_call 162
          refine (CK9.out _ (bthen HBr.out (balloc jR _))).mono ?_;rintro e w2 ⟨rfl,hb⟩;have HB2:=jH (bthen (balloc (Below.refl wr.heap.size wr) (.cells cs.toArray 132)) hb);clear hb))
      go_roundg (es.length - (k+1))
      case measure=>omega
      case rel=>exact ⟨k+1,hlt,Nat.le_refl _,by go_num,by rw [HT3.out];exact HY.out.below HB2.out,bthen HBr.out HB2.out⟩
  · obtain rfl:k=es.length:=by omega
    have z1:¬(es.length:Int)<(es.length:Int):=by omega
    rw [List.take_length] at hown;have HO:=jH (hown.row eEv);clear hown hbw;go_wp2_with fail
    go_ret
    exact ⟨_,rfl,HO.out,HBr.out⟩
theorem tkind_any (v:Value) (es:List EvtD) (kd:Int) (w:World) (he:RowIn 34 evC w v es) (hel:es.length≤100) :
 Calls Tryz.prog 109 #[v,.int .i64 kd] w fun e w'=>∃u,e=.returned u∧RowIn 34 evC w' u (kindsE kd es)∧jB w w':=by
 obtain ⟨A,c,rfl,hAc,h0⟩:=id he;clear h0;have CK:=jH (fun W (hW:jB w W) (hB:W.cell? ⟨w.heap.size,0,none⟩=some (.int .i64 kd)) (hl:w.heap.size<W.heap.size)=>tkeep_any _ es kd w.heap.size W (he.below hW) hel hB hl);unfold kindV at CK;clear he hel hAc
 go_enter Tryz.func109,Tryz.ntmps109
 go_wp2_with (first
  | (go_at_call 161
     refine calls_named ?_;intro W1 hW1;have hb1:jB w W1:=by rw [hW1];exact balloc jR _
     have hc1:W1.heap[w.heap.size]?=some (.cells #[.int .i64 kd] 3 (0,0)):=by rw [hW1];exact heap_alloc_new _ _
     clear hW1;refine (CK.out W1 hb1 ((box_cells jR hc1).1 0) (jL hc1)).mono ?_;rintro e w2 ⟨u,rfl,hr,hb⟩;obtain ⟨A2,c2,rfl⟩:=hr.form;have HR:=jH hr;have HB:=jH (bthen hb1 hb);clear hb1 hc1 hr hb))
 go_ret
 exact ⟨_,rfl,HR.out,HB.out⟩
theorem tepochs_any (v:Value) (es:List EvtD) (w:World) (he:RowIn 34 evC w v es) (hel:es.length≤100) :
 Calls Tryz.prog 72 #[v] w fun e w'=>∃u,e=.returned u∧RowIn 1 nmC w' u (epE es)∧jB w w':=by
 obtain ⟨A,c,rfl,hAc,h0⟩:=id he;clear h0;have CK:=jH (tkind_any _ es 2 w he hel);have HLL:=jH (show (kindsE 2 es).length≤100 from Nat.le_trans (kindsE_len _ _) hel);have HEP:=jH (show epE es=((kindsE 2 es).filter epB).map (·.epoch) from rfl);obtain ⟨ans,hans⟩:∃r,r=epE es:=⟨_,rfl⟩;rw [←hans] at HEP ⊢;generalize kindsE 2 es=ls at CK HLL HEP;have q9:(ls.length:Int)≤100:=by have:=HLL.out;omega
 clear he hel hAc hans
 go_enter Tryz.func72,Tryz.ntmps72
 go_wp2_with (first
  | (go_at_call 109
     refine CK.out.mono ?_;rintro e w1 ⟨u,rfl,hr,hb⟩;obtain ⟨A2,c2,rfl⟩:=hr.form;have HR:=jH hr;have HB1:=jH hb;clear hr hb))
 go_loopg [3,9] ls.length (fun g s3 s9 wr=>∃k:Nat,k≤ls.length∧ls.length - k≤g∧s9=.int .i64 k∧OwnL nmC 2 1 w1.heap.size wr s3 (((ls.take k).filter epB).map (·.epoch))∧jB w1 wr)
 case atStart=>exact ⟨0,Nat.zero_le _,Nat.le_refl _,rfl,OwnL.nil _ _,jR⟩
 case round =>
  obtain ⟨k,hk,hg,rfl,hown,hbw⟩:=hrel;rename World=>wr
  have HBr:=jH hbw
  by_cases hlt:k<ls.length
  · obtain ⟨b1,o1,rfl,hb1,hc⟩:=(HR.out.below HBr.out).at_ hlt
    obtain ⟨B1,e1,rfl⟩:=hown.form;have hcl:(evC ls[k]).length=34:=rfl;have hone:∀v∈evC ls[k],v.oneCell'=true:=evC_one _;have HT2:=jH (show ((ls.take (k+1)).filter epB).map (·.epoch)=if epB ls[k]=true then ((ls.take k).filter epB).map (·.epoch)++[ls[k].epoch] else ((ls.take k).filter epB).map (·.epoch) by rw [List.take_succ_eq_append_getElem hlt,ep_snoc]);have htl:(((ls.take k).filter epB).map (·.epoch)).length≤100:=by rw [List.length_map];exact Nat.le_trans (List.length_filter_le _ _) (by rw [List.length_take];have:=HLL.out;omega)
    generalize ((ls.take k).filter epB).map (·.epoch)=ys at hown HT2 htl ⊢;have HY:=jH hown;have HYL:=jH htl;have g3:(evC ls[k])[3]?=some (.int .i64 ls[k].call.kind):=rfl;have g14:(evC ls[k])[14]?=some (.int .i64 ls[k].err):=rfl;have g15:(evC ls[k])[15]?=some (.int .i64 ls[k].epoch):=rfl;have HEB:=jH (show epB ls[k]=decide (ls[k].call.kind=3∧ls[k].err=0) from rfl);obtain ⟨cs,hcs⟩:∃cs,cs=evC ls[k]:=⟨_,rfl⟩
    rw [←hcs] at hc hcl hone g3 g14 g15;generalize ls[k].call.kind=ck at g3 HEB;generalize ls[k].err=er at g14 HEB;generalize ls[k].epoch=ep at g15 HT2;generalize epB ls[k]=eb at HT2 HEB;have k3:∀h,cs[3]'h=.int .i64 ck:=fun h=>Option.some.inj ((List.getElem?_eq_getElem h).symm.trans g3)
    have k14:∀h,cs[14]'h=.int .i64 er:=fun h=>Option.some.inj ((List.getElem?_eq_getElem h).symm.trans g14)
    have k15:∀h,cs[15]'h=.int .i64 ep:=fun h=>Option.some.inj ((List.getElem?_eq_getElem h).symm.trans g15)
    have hst:=store_new (P:=Tryz.prog) wr 132 cs 34 hcl (by kernel_rfl) hone;have HC:=jH hc;have HCL:=jH hcl;clear hc hone hown htl hcs hbw g3 g14 g15;have hwz:=HBr.out.size;have HWZ:=jH hwz;clear hwz
    by_cases h3:ck=3
    · have z3:(ck == 3)=true:=by simpa using h3
      by_cases he:er=0
      · have z0:(er == 0)=true:=by simpa using he
        have HT3:=jH (show ((ls.take (k+1)).filter epB).map (·.epoch)=ys++[ep] by rw [HT2.out,if_pos (by rw [HEB.out];simpa using ⟨h3,he⟩)]);clear h3 he
        go_wp2_with (first
         | (refine wpList_load_list rfl 132 (.tmp 11) rfl b1 (o1+k * 34) cs HC.out (by rfl) _ Tryz.underlying132 (by rfl) (by rw [HCL.out];kernel_rfl) ?_)
         | (at_builtin
            refine wpList_appendL eNm (by rfl) (by rfl) w1.heap.size ys [ep] (.slice B1 ys.length e1) _ (by rfl) (by rfl) ((HY.out.below (balloc jR _)).below (balloc jR _)) (RowIn.lit (n:=1) (f:=nmC) _ ep _ _ _ (by first|rfl|simp) rfl) (by have:=HYL.out;simp;omega) (by have:=HWZ.out;simp;omega) ?_;intro out A3 c3 w3 hout hown hg hor;have HOU:=jH (show out=ys++[ep] from hout);have HB7:=jH (show jB w1 w3 from (bthen HBr.out (balloc (balloc jR _) _)).trans (grown_own hg HY.out (by have:=HWZ.out;simp;omega)))
            have HO:=jH hown;clear hown hout hg hor))
        go_roundg (ls.length - (k+1))
        case measure=>omega
        case rel=>exact ⟨k+1,hlt,Nat.le_refl _,by go_num,by rw [HT3.out,←HOU.out];exact HO.out,HB7.out⟩
      · have z0:(er == 0)=false:=by simpa using he
        have HT3:=jH (show ((ls.take (k+1)).filter epB).map (·.epoch)=ys by rw [HT2.out,if_neg (by rw [HEB.out];simpa using fun _=>he)]);clear h3 he
        go_wp2_with (first
         | (refine wpList_load_list rfl 132 (.tmp 11) rfl b1 (o1+k * 34) cs HC.out (by rfl) _ Tryz.underlying132 (by rfl) (by rw [HCL.out];kernel_rfl) ?_))
        go_roundg (ls.length - (k+1))
        case measure=>omega
        case rel=>exact ⟨k+1,hlt,Nat.le_refl _,by go_num,by rw [HT3.out];exact HY.out.below (balloc jR _),bthen HBr.out (balloc jR _)⟩
    · have z3:(ck == 3)=false:=by simpa using h3
      have HT3:=jH (show ((ls.take (k+1)).filter epB).map (·.epoch)=ys by rw [HT2.out,if_neg (by rw [HEB.out];simpa using fun h9=>absurd h9 h3)]);clear h3
      go_wp2_with (first
       | (refine wpList_load_list rfl 132 (.tmp 11) rfl b1 (o1+k * 34) cs HC.out (by rfl) _ Tryz.underlying132 (by rfl) (by rw [HCL.out];kernel_rfl) ?_))
      go_roundg (ls.length - (k+1))
      case measure=>omega
      case rel=>exact ⟨k+1,hlt,Nat.le_refl _,by go_num,by rw [HT3.out];exact HY.out.below (balloc jR _),bthen HBr.out (balloc jR _)⟩
  · obtain rfl:k=ls.length:=by omega
    have z1:¬(ls.length:Int)<(ls.length:Int):=by omega
    rw [List.take_length,←HEP.out] at hown;obtain ⟨B1,e1,rfl⟩:=hown.form;have HO:=jH (hown.row eNm);clear hown hbw;go_wp2_with fail
    go_ret
    exact ⟨_,rfl,HO.out,bthen HB1.out HBr.out⟩
end
section
open Go.RowKit Go.Lib
theorem tright_nil (w:World):Calls Tryz.prog 75 #[.slice none 0 0] w (jP w (.bool true)):=by
 have hmm:=@run_makeMap Tryz.prog
 go_enter Tryz.func75,Tryz.ntmps75
 go_wp2_with fail
 go_loopg [10] 0 (fun g s10 wr=>s10=.int .i64 0∧jB w wr)
 case atStart=>exact ⟨rfl,by repeat (first|exact jR|refine balloc ?_ _)⟩
 case round =>
  obtain ⟨rfl,hb⟩:=hrel;have HB:=jH hb;clear hb;go_wp2_with fail
  go_ret
  exact ⟨rfl,HB.out⟩
theorem otold_nil (w:World):Calls Tryz.prog 35 #[.slice none 0 0] w (jP w (.bool true)):=by
 have hmm:=@run_makeMap Tryz.prog
 go_enter Tryz.func35,Tryz.ntmps35
 go_wp2_with fail
 go_loopg [12] 0 (fun g s12 wr=>s12=.int .i64 0∧jB w wr)
 case atStart=>exact ⟨rfl,by repeat (first|exact jR|refine balloc ?_ _)⟩
 case round =>
  obtain ⟨rfl,hb⟩:=hrel;have HB:=jH hb;clear hb;go_wp2_with fail
  go_ret
  exact ⟨rfl,HB.out⟩
def cS35:Cfg:=⟨1,2,2,1⟩
theorem cS35_ok:CfgOk cS35 2 1:=⟨by decide,rfl,rfl,⟨i64_sm (by decide),i64_sm (by decide),i64_sm (by decide),i64_sm (by decide)⟩⟩
theorem row_nil34 (w:World):RowIn 34 evC w (.slice none 0 0) []:=(OwnL.nil (e:=132) 0 w).row eEv
theorem small35 (w:World):Calls Tryz.prog 71 #[] w (jP w (.agg #[.int .i64 1,.int .i64 2,.int .i64 2,.int .i64 1])):=by
 go_enter Tryz.func71,Tryz.ntmps71
 go_wp2_with fail
 first
  | (go_ret;exact ⟨rfl,by repeat (first|exact jR|refine balloc ?_ _)⟩)
  | (refine post_named ?_
     intro W9 hW9;have hb9:jB w W9:=by rw [hW9];repeat (first|exact jR|refine Below.setCell ?_ (by simp) _|refine balloc ?_ _)
     exact bodyPost_ret (v:=.agg #[.int .i64 1,.int .i64 2,.int .i64 2,.int .i64 1]) (by simp [results,Tryz.results71,go_sem,hW9]) rfl ⟨rfl,hb9⟩)
theorem linear_nil (w:World):Calls Tryz.prog 38 #[.agg #[.int .i64 1,.int .i64 2,.int .i64 2,.int .i64 1],.slice none 0 0] w (jP w (.bool true)):=by
 have CR:=jH (fun W=>ordReplay_any cS35 2 1 1 (.slice none 0 0) [] W cS35_ok rfl (row_nil34 W) (fun e h=>by cases h) (by simp));unfold cfgV cS35 at CR;dsimp only at CR
 go_enter Tryz.func38,Tryz.ntmps38
 go_wp2_with (first
  | (go_at_call 75
     refine calls_named ?_;intro W1 hW1;have hb1:jB w W1:=by rw [hW1];exact balloc jR _
     have hc1:W1.heap[w.heap.size]?=some (.cells #[.int .i64 1,.int .i64 2,.int .i64 2,.int .i64 1] 23 (0,0)):=by rw [hW1];exact heap_alloc_new _ _
     clear hW1;refine (tright_nil W1).mono ?_;rintro e w2 ⟨rfl,hb⟩;have HB2:=jH (bthen hb1 hb);have HC2:=jH (jK hb hc1);clear hb1 hc1 hb)
  | (go_at_call 35
     refine (otold_nil w2).mono ?_;rintro e w3 ⟨rfl,hb⟩;have HB3:=jH (bthen HB2.out hb);have HC3:=jH (jK hb HC2.out);obtain ⟨q1,q2,q3⟩:=box_cells jR HC3.out;clear hb)
  | (go_at_call 34
     refine (CR.out w3).mono ?_;rintro e w4 ⟨he,hb⟩;have he9:e=.returned (.int .i64 (-1)):=he;subst he9;have HB4:=jH (bthen HB3.out hb);clear he hb))
 go_ret
 exact ⟨rfl,HB4.out⟩
def eS35:EvtD:=⟨2,0,0,⟨3,⟨#[]⟩,0,0,0,⟨0,0,0,0,0,0⟩⟩,0,2,1,0,0,0,0,0,0,0,0,0,0,0,0,0,0,0,0,0⟩
theorem eS35_ok:eS35.ok:=by
 have h:I64 0:=i64_sm (by decide);have h1:I64 1:=i64_sm (by decide);have h2:I64 2:=i64_sm (by decide);have h3:I64 3:=i64_sm (by decide);exact ⟨h2,h,h,⟨h3,by decide,h,h,h,⟨h,h,h,h,h,h⟩⟩,⟨h,h2,h1,h,h,h,h,h,h,h,h,h,h⟩,by decide,by decide,⟨h,h,h,h,h⟩⟩
theorem replay_s35:replayE cS35 2 1 (newW 1) 0 [eS35]=0:=by
 unfold replayE;rw [applyE_2 rfl];rw [if_neg (by rw [show sameRep (doW cS35 2 1 (newW 1) eS35.call).2 eS35.rep'=false from by decide +kernel];simp)]
theorem awake35_any (w:World):Calls Tryz.prog 32 #[] w (jP w (.bool true)):=by
 have CR:=jH (fun W v (hv:RowIn 34 evC W v [eS35])=>ordReplay_any cS35 2 1 1 v [eS35] W cS35_ok rfl hv (fun e h=>by rw [List.mem_singleton.1 h];exact eS35_ok) (by simp));rw [replay_s35] at CR;unfold cfgV cS35 at CR;dsimp only at CR;have CE:=jH (fun W v (hv:RowIn 34 evC W v [eS35])=>tepochs_any v [eS35] W hv (by simp));have HLE:=jH (show (epE [eS35]).length=1 from by decide);obtain ⟨le,hle⟩:∃r,r=epE [eS35]:=⟨_,rfl⟩
 rw [←hle] at CE HLE;clear hle
 go_enter Tryz.func32,Tryz.ntmps32
 go_upto_region 2 with (first
  | (refine wpList_build_one eEv (by decide) rfl (.tmp 4) rfl (evC eS35) (by rfl) (by rfl) ?_))
 refine name_world ?_;intro W1 hW1;have HB1:=jH (show jB w W1 by rw [hW1];exact balloc jR _);have HV1:=jH (show RowIn 34 evC W1 (.slice (some ⟨w.heap.size,0,none⟩) 1 1) [eS35] by rw [hW1];exact RowIn.lit (n:=34) (f:=evC) w eS35 _ _ _ (by first|rfl|simp) rfl);clear hW1
 go_wp2_with (first
  | (go_at_call 71
     have h9:=HB3
     with_reducible refine (small35 w3).mono ?_
     rintro e w4 ⟨rfl,hb⟩;have HB4:=jH (bthen HB3.out hb);have HV4:=jH (HV3.out.below hb);clear hb h9)
  | (go_at_call 71
     with_reducible refine (small35 W1).mono ?_
     rintro e w2 ⟨rfl,hb⟩;have HB2:=jH (bthen HB1.out hb);have HV2:=jH (HV1.out.below hb);clear hb)
  | (go_at_call 38
     refine (linear_nil w2).mono ?_;rintro e w3 ⟨rfl,hb⟩;have HB3:=jH (bthen HB2.out hb);have HV3:=jH (HV2.out.below hb);clear hb)
  | (go_at_call 34
     refine (CR.out w4 _ HV4.out).mono ?_;rintro e w5 ⟨rfl,hb⟩;have HB5:=jH (bthen HB4.out hb);have HV5:=jH (HV4.out.below hb);clear hb)
  | (go_at_call 72
     refine (CE.out w5 _ HV5.out).mono ?_;rintro e w6 ⟨u,rfl,hr,hb⟩;obtain ⟨A9,c9,rfl⟩:=hr.form;have HB6:=jH (bthen HB5.out hb);have hl9:=HLE.out;clear hr hb))
 go_ret
 exact ⟨rfl,HB6.out⟩
end
end Go.Proofs.YtkcdhaallnhhmaaGreat
