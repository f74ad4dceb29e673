/- Part 52 of the proof: OrdEp. -/
import Derived.Test.YtpmfcpdelkchaaaGreatL29
namespace Go.Proofs.YtpmfcpdelkchaaaGreat
set_option linter.unusedSimpArgs false
set_option linter.unusedVariables false
set_option linter.unusedSectionVars false
set_option maxRecDepth 100000
set_option maxHeartbeats 16000000
section
open Go.RowKit Go.Lib
theorem OwnL.other {α β:Type} {e e':TypeId} {n n' b b':Nat} {f:α→List Value} {g:β→List Value} {w w':World} {v v':Value} {l:List α} {l':List β} (h':OwnL g e' n' b' w v' l') (h:OwnL f e n b w v l) (hne:e≠e') (hg:w.grownBy w' v.ownBlock):OwnL g e' n' b' w' v' l' :=
 h'.kept (fun r hr=>hg.block r (h'.lt hr).2 (fun e9=>own_apart h h' hne r e9.symm hr))
def kindV (B:Nat):Value:=.func (.func 139) #[] #[.pointer (some ⟨B,0,none⟩)]
def kindsE (kd:Int) (es:List EvtD):List EvtD:=es.filter fun e=>decide (e.kind=kd)
def epB (e:EvtD):Bool:=decide (e.call.kind=3∧e.err=0)
def epE (es:List EvtD):List Int:=((kindsE 2 es).filter epB).map (·.epoch)
theorem kindsE_snoc {kd:Int} {es:List EvtD} {e:EvtD}:kindsE kd (es++[e])=if e.kind=kd then kindsE kd es++[e] else kindsE kd es:=by
 unfold kindsE;rw [List.filter_append]
 by_cases h:e.kind=kd
 · rw [if_pos h,List.filter_cons_of_pos (by simpa using h)];rfl
 · rw [if_neg h,List.filter_cons_of_neg (by simpa using h)];simp
theorem ep_snoc {es:List EvtD} {e:EvtD}:((es++[e]).filter epB).map (·.epoch)=if epB e=true then (es.filter epB).map (·.epoch)++[e.epoch] else (es.filter epB).map (·.epoch):=by
 rw [List.filter_append]
 by_cases h:epB e=true
 · rw [if_pos h,List.filter_cons_of_pos h];simp
 · rw [if_neg h,List.filter_cons_of_neg h];simp
theorem epE_snoc {es:List EvtD} {e:EvtD}:epE (es++[e])=if e.kind=2∧e.call.kind=3∧e.err=0 then epE es++[e.epoch] else epE es:=by
 unfold epE;rw [kindsE_snoc]
 by_cases h:e.kind=2
 · rw [if_pos h,ep_snoc]
   by_cases h2:e.call.kind=3∧e.err=0
   · rw [if_pos (by simpa [epB] using h2),if_pos ⟨h,h2⟩]
   · rw [if_neg (by simpa [epB] using h2),if_neg (fun h9=>h2 h9.2)]
 · rw [if_neg h,if_neg (fun h9=>h h9.1)]
theorem kindsE_len (kd:Int) (es:List EvtD):(kindsE kd es).length≤es.length:=List.length_filter_le _ _
theorem epE_len (es:List EvtD):(epE es).length≤es.length:=by
 unfold epE;rw [List.length_map];exact Nat.le_trans (List.length_filter_le _ _) (kindsE_len 2 es)
theorem kindFn_any (e:EvtD) (kd:Int) (B:Nat) (w:World) (hB:∀U,jB w U→U.cell? ⟨B,0,none⟩=some (.int .i64 kd)) :
 Calls Tryz.prog 139 #[evV e,.pointer (some ⟨B,0,none⟩)] w fun x w'=>x=.returned (.bool (decide (e.kind=kd)))∧jB w w':=by
 have q:=hB (w.alloc (.cells (evC e).toArray 148)) (balloc jR _);obtain ⟨sb,hsb⟩:∃sb,sb=decide (e.kind=kd):=⟨_,rfl⟩;have hsb2:(e.kind == kd)=sb:=by rw [hsb];rfl
 rw [←hsb];clear hB hsb;unfold evV;unfold evC at q
 go_enter Tryz.func139,Tryz.ntmps139
 go_wp2_with fail
 go_ret
 exact ⟨rfl,balloc jR _⟩
theorem tkeep_any (v:Value) (es:List EvtD) (kd:Int) (B:Nat) (w:World) (he:RowIn 34 evC w v es) (hel:es.length≤100) (hB:w.cell? ⟨B,0,none⟩=some (.int .i64 kd)) (hBl:B<w.heap.size) :
 Calls Tryz.prog 138 #[v,kindV B] w fun e w'=>∃u,e=.returned u∧RowIn 34 evC w' u (kindsE kd es)∧jB w w':=by
 obtain ⟨A,c,rfl,hAc,h0⟩:=id he;clear h0;have HE:=jH he;have HAC:=jH hAc;have HEL:=jH hel;have q9:(es.length:Int)≤100:=by omega
 have HBC:=jH (fun W (hW:jB w W)=>show W.cell? ⟨B,0,none⟩=some (.int .i64 kd) from (hW.cell (p:=⟨B,_,none⟩) hBl).trans hB);clear he hAc hB hBl hel;unfold kindV
 go_enter Tryz.func138,Tryz.ntmps138
 go_wp2_with fail
 go_loopg [5,10] es.length (fun g s5 s10 wr=>∃k:Nat,k≤es.length∧es.length - k≤g∧s10=.int .i64 k∧OwnL evC 148 34 w.heap.size wr s5 (kindsE kd (es.take k))∧jB w wr)
 case atStart=>exact ⟨0,Nat.zero_le _,Nat.le_refl _,rfl,OwnL.nil _ _,jR⟩
 case round =>
  obtain ⟨k,hk,hg,rfl,hown,hbw⟩:=hrel;rename World=>wr
  have HBr:=jH hbw
  by_cases hlt:k<es.length
  · obtain ⟨b1,o1,rfl,hb1,hc⟩:=(HE.out.below HBr.out).at_ hlt
    obtain ⟨B1,e1,rfl⟩:=hown.form;have hcl:(evC es[k]).length=34:=rfl;have hone:∀v∈evC es[k],v.oneCell'=true:=evC_one _;have HT2:=jH (show kindsE kd (es.take (k+1))=if es[k].kind=kd then kindsE kd (es.take k)++[es[k]] else kindsE kd (es.take k) by rw [List.take_succ_eq_append_getElem hlt,kindsE_snoc]);have htl:(kindsE kd (es.take k)).length≤100:=Nat.le_trans (kindsE_len _ _) (by rw [List.length_take];have:=HEL.out;omega)
    generalize kindsE kd (es.take k)=ys at hown HT2 htl ⊢;have HY:=jH hown;have HYL:=jH htl;have CK:=jH (fun W (hW:jB w W)=>kindFn_any es[k] kd B W (fun U hU=>HBC.out U (bthen hW hU)));obtain ⟨cs,hcs⟩:∃cs,cs=evC es[k]:=⟨_,rfl⟩;have CK9:=jH (fun W (hW:jB w W)=>show Calls Tryz.prog 139 #[.agg cs.toArray,.pointer (some ⟨B,0,none⟩)] W fun x w'=>x=.returned (.bool (decide (es[k].kind=kd)))∧jB W w' by rw [hcs];exact CK.out W hW)
    rw [←hcs] at hc hcl hone;generalize es[k]=x at hcs HT2 CK9;have HCS:=jH hcs;have hst:=store_new (P:=Tryz.prog) wr 148 cs 34 hcl (by kernel_rfl) hone;have HC:=jH hc;have HCL:=jH hcl;clear hc hcl hone hown htl hcs hbw CK
    by_cases hx:x.kind=kd
    · have HT3:=jH (HT2.out.trans (if_pos hx))
      rw [decide_eq_true hx] at CK9;clear hx
      go_wp2_with (first
       | (refine wpList_load_list rfl 148 (.tmp 12) rfl b1 (o1+k * 34) cs HC.out (by rfl) _ Tryz.underlying148 (by rfl) (by rw [HCL.out];kernel_rfl) ?_)
       | (refine wpList_load_list rfl 148 (.tmp 7) rfl wr.heap.size 0 cs HN9.out (by rfl) _ Tryz.underlying148 (by rfl) (by rw [HCL.out];kernel_rfl) ?_)
       | (refine wpList_load_list rfl 148 (.tmp 7) rfl wr.heap.size 0 cs (new_cells _ _ _) (by rfl) _ Tryz.underlying148 (by rfl) (by rw [HCL.out];kernel_rfl) ?_)
       | (go_at_call 139
          refine (CK9.out _ (bthen HBr.out (balloc jR _))).mono ?_;rintro e w2 ⟨rfl,hb⟩;have HN9:=jH (show ∀j v,cs[j]?=some v→w2.cell? ⟨wr.heap.size,0+j,none⟩=some v from fun j v hj=>(hb.cell (p:=⟨wr.heap.size,_,none⟩) (by simp)).trans (new_cells _ _ _ j v hj));have HB2:=jH (bthen (balloc (Below.refl wr.heap.size wr) (.cells cs.toArray 148)) hb);clear hb)
       | (refine wpList_build_one eEv (by decide) rfl (.tmp 18) rfl cs HCL.out (by rfl) ?_)
       | (at_builtin
          refine wpList_appendL eEv (by rfl) (by rfl) w.heap.size ys [x] (.slice B1 ys.length e1) _ (by rfl) (by rfl) ((HY.out.below HB2.out).below (balloc jR _)) (RowIn.lit (n:=34) (f:=evC) w2 x cs.toArray _ _ rfl (by simp [HCS.out])) (by have:=HYL.out;simp;omega) (by have:=HBr.out.size;have:=HB2.out.size;simp;omega) ?_;intro out A2 c2 w3 hout hown hg hor;have HOU:=jH (show out=ys++[x] from hout)
          have hb7:jB w w3:=(bthen HBr.out (bthen HB2.out (balloc jR _))).trans (grown_own hg HY.out (by have:=HBr.out.size;have:=HB2.out.size;simp;omega));have HO:=jH hown;have HB7:=jH hb7;clear hown hout hg hor hb7))
      go_roundg (es.length - (k+1))
      case measure=>omega
      case rel=>exact ⟨k+1,hlt,Nat.le_refl _,by go_num,by rw [HT3.out,←HOU.out];exact HO.out,HB7.out⟩
    · have HT3:=jH (HT2.out.trans (if_neg hx))
      rw [decide_eq_false hx] at CK9;clear hx
      go_wp2_with (first
       | (refine wpList_load_list rfl 148 (.tmp 12) rfl b1 (o1+k * 34) cs HC.out (by rfl) _ Tryz.underlying148 (by rfl) (by rw [HCL.out];kernel_rfl) ?_)
       | (refine wpList_load_list rfl 148 (.tmp 7) rfl wr.heap.size 0 cs (new_cells _ _ _) (by rfl) _ Tryz.underlying148 (by rfl) (by rw [HCL.out];kernel_rfl) ?_)
       | (go_at_call 139
          refine (CK9.out _ (bthen HBr.out (balloc jR _))).mono ?_;rintro e w2 ⟨rfl,hb⟩;have HB2:=jH (bthen (balloc (Below.refl wr.heap.size wr) (.cells cs.toArray 148)) hb);clear hb))
      go_roundg (es.length - (k+1))
      case measure=>omega
      case rel=>exact ⟨k+1,hlt,Nat.le_refl _,by go_num,by rw [HT3.out];exact HY.out.below HB2.out,bthen HBr.out HB2.out⟩
  · obtain rfl:k=es.length:=by omega
    have z1:¬(es.length:Int)<(es.length:Int):=by omega
    rw [List.take_length] at hown;have HO:=jH (hown.row eEv);clear hown hbw;go_wp2_with fail
    go_ret
    exact ⟨_,rfl,HO.out,HBr.out⟩
theorem tkind_any (v:Value) (es:List EvtD) (kd:Int) (w:World) (he:RowIn 34 evC w v es) (hel:es.length≤100) :
 Calls Tryz.prog 95 #[v,.int .i64 kd] w fun e w'=>∃u,e=.returned u∧RowIn 34 evC w' u (kindsE kd es)∧jB w w':=by
 obtain ⟨A,c,rfl,hAc,h0⟩:=id he;clear h0;have CK:=jH (fun W (hW:jB w W) (hB:W.cell? ⟨w.heap.size,0,none⟩=some (.int .i64 kd)) (hl:w.heap.size<W.heap.size)=>tkeep_any _ es kd w.heap.size W (he.below hW) hel hB hl);unfold kindV at CK;clear he hel hAc
 go_enter Tryz.func95,Tryz.ntmps95
 go_wp2_with (first
  | (go_at_call 138
     refine calls_named ?_;intro W1 hW1;have hb1:jB w W1:=by rw [hW1];exact balloc jR _
     have hc1:W1.heap[w.heap.size]?=some (.cells #[.int .i64 kd] 3 (0,0)):=by rw [hW1];exact heap_alloc_new _ _
     clear hW1;refine (CK.out W1 hb1 ((box_cells jR hc1).1 0) (jL hc1)).mono ?_;rintro e w2 ⟨u,rfl,hr,hb⟩;obtain ⟨A2,c2,rfl⟩:=hr.form;have HR:=jH hr;have HB:=jH (bthen hb1 hb);clear hb1 hc1 hr hb))
 go_ret
 exact ⟨_,rfl,HR.out,HB.out⟩
theorem tepochs_any (v:Value) (es:List EvtD) (w:World) (he:RowIn 34 evC w v es) (hel:es.length≤100) :
 Calls Tryz.prog 46 #[v] w fun e w'=>∃u,e=.returned u∧RowIn 1 nmC w' u (epE es)∧jB w w':=by
 obtain ⟨A,c,rfl,hAc,h0⟩:=id he;clear h0;have CK:=jH (tkind_any _ es 2 w he hel);have HLL:=jH (show (kindsE 2 es).length≤100 from Nat.le_trans (kindsE_len _ _) hel);have HEP:=jH (show epE es=((kindsE 2 es).filter epB).map (·.epoch) from rfl);obtain ⟨ans,hans⟩:∃r,r=epE es:=⟨_,rfl⟩;rw [←hans] at HEP ⊢;generalize kindsE 2 es=ls at CK HLL HEP;have q9:(ls.length:Int)≤100:=by have:=HLL.out;omega
 clear he hel hAc hans
 go_enter Tryz.func46,Tryz.ntmps46
 go_wp2_with (first
  | (go_at_call 95
     refine CK.out.mono ?_;rintro e w1 ⟨u,rfl,hr,hb⟩;obtain ⟨A2,c2,rfl⟩:=hr.form;have HR:=jH hr;have HB1:=jH hb;clear hr hb))
 go_loopg [3,9] ls.length (fun g s3 s9 wr=>∃k:Nat,k≤ls.length∧ls.length - k≤g∧s9=.int .i64 k∧OwnL nmC 2 1 w1.heap.size wr s3 (((ls.take k).filter epB).map (·.epoch))∧jB w1 wr)
 case atStart=>exact ⟨0,Nat.zero_le _,Nat.le_refl _,rfl,OwnL.nil _ _,jR⟩
 case round =>
  obtain ⟨k,hk,hg,rfl,hown,hbw⟩:=hrel;rename World=>wr
  have HBr:=jH hbw
  by_cases hlt:k<ls.length
  · obtain ⟨b1,o1,rfl,hb1,hc⟩:=(HR.out.below HBr.out).at_ hlt
    obtain ⟨B1,e1,rfl⟩:=hown.form;have hcl:(evC ls[k]).length=34:=rfl;have hone:∀v∈evC ls[k],v.oneCell'=true:=evC_one _;have HT2:=jH (show ((ls.take (k+1)).filter epB).map (·.epoch)=if epB ls[k]=true then ((ls.take k).filter epB).map (·.epoch)++[ls[k].epoch] else ((ls.take k).filter epB).map (·.epoch) by rw [List.take_succ_eq_append_getElem hlt,ep_snoc]);have htl:(((ls.take k).filter epB).map (·.epoch)).length≤100:=by rw [List.length_map];exact Nat.le_trans (List.length_filter_le _ _) (by rw [List.length_take];have:=HLL.out;omega)
    generalize ((ls.take k).filter epB).map (·.epoch)=ys at hown HT2 htl ⊢;have HY:=jH hown;have HYL:=jH htl;have g3:(evC ls[k])[3]?=some (.int .i64 ls[k].call.kind):=rfl;have g14:(evC ls[k])[14]?=some (.int .i64 ls[k].err):=rfl;have g15:(evC ls[k])[15]?=some (.int .i64 ls[k].epoch):=rfl;have HEB:=jH (show epB ls[k]=decide (ls[k].call.kind=3∧ls[k].err=0) from rfl);obtain ⟨cs,hcs⟩:∃cs,cs=evC ls[k]:=⟨_,rfl⟩
    rw [←hcs] at hc hcl hone g3 g14 g15;generalize ls[k].call.kind=ck at g3 HEB;generalize ls[k].err=er at g14 HEB;generalize ls[k].epoch=ep at g15 HT2;generalize epB ls[k]=eb at HT2 HEB;have k3:∀h,cs[3]'h=.int .i64 ck:=fun h=>Option.some.inj ((List.getElem?_eq_getElem h).symm.trans g3)
    have k14:∀h,cs[14]'h=.int .i64 er:=fun h=>Option.some.inj ((List.getElem?_eq_getElem h).symm.trans g14)
    have k15:∀h,cs[15]'h=.int .i64 ep:=fun h=>Option.some.inj ((List.getElem?_eq_getElem h).symm.trans g15)
    have hst:=store_new (P:=Tryz.prog) wr 148 cs 34 hcl (by kernel_rfl) hone;have HC:=jH hc;have HCL:=jH hcl;clear hc hone hown htl hcs hbw g3 g14 g15;have hwz:=HBr.out.size;have HWZ:=jH hwz;clear hwz
    by_cases h3:ck=3
    · have z3:(ck == 3)=true:=by simpa using h3
      by_cases he:er=0
      · have z0:(er == 0)=true:=by simpa using he
        have HT3:=jH (show ((ls.take (k+1)).filter epB).map (·.epoch)=ys++[ep] by rw [HT2.out,if_pos (by rw [HEB.out];simpa using ⟨h3,he⟩)]);clear h3 he
        go_wp2_with (first
         | (refine wpList_load_list rfl 148 (.tmp 11) rfl b1 (o1+k * 34) cs HC.out (by rfl) _ Tryz.underlying148 (by rfl) (by rw [HCL.out];kernel_rfl) ?_)
         | (at_builtin
            refine wpList_appendL eNm (by rfl) (by rfl) w1.heap.size ys [ep] (.slice B1 ys.length e1) _ (by rfl) (by rfl) ((HY.out.below (balloc jR _)).below (balloc jR _)) (RowIn.lit (n:=1) (f:=nmC) _ ep _ _ _ (by first|rfl|simp) rfl) (by have:=HYL.out;simp;omega) (by have:=HWZ.out;simp;omega) ?_;intro out A3 c3 w3 hout hown hg hor;have HOU:=jH (show out=ys++[ep] from hout);have HB7:=jH (show jB w1 w3 from (bthen HBr.out (balloc (balloc jR _) _)).trans (grown_own hg HY.out (by have:=HWZ.out;simp;omega)))
            have HO:=jH hown;clear hown hout hg hor))
        go_roundg (ls.length - (k+1))
        case measure=>omega
        case rel=>exact ⟨k+1,hlt,Nat.le_refl _,by go_num,by rw [HT3.out,←HOU.out];exact HO.out,HB7.out⟩
      · have z0:(er == 0)=false:=by simpa using he
        have HT3:=jH (show ((ls.take (k+1)).filter epB).map (·.epoch)=ys by rw [HT2.out,if_neg (by rw [HEB.out];simpa using fun _=>he)]);clear h3 he
        go_wp2_with (first
         | (refine wpList_load_list rfl 148 (.tmp 11) rfl b1 (o1+k * 34) cs HC.out (by rfl) _ Tryz.underlying148 (by rfl) (by rw [HCL.out];kernel_rfl) ?_))
        go_roundg (ls.length - (k+1))
        case measure=>omega
        case rel=>exact ⟨k+1,hlt,Nat.le_refl _,by go_num,by rw [HT3.out];exact HY.out.below (balloc jR _),bthen HBr.out (balloc jR _)⟩
    · have z3:(ck == 3)=false:=by simpa using h3
      have HT3:=jH (show ((ls.take (k+1)).filter epB).map (·.epoch)=ys by rw [HT2.out,if_neg (by rw [HEB.out];simpa using fun h9=>absurd h9 h3)]);clear h3
      go_wp2_with (first
       | (refine wpList_load_list rfl 148 (.tmp 11) rfl b1 (o1+k * 34) cs HC.out (by rfl) _ Tryz.underlying148 (by rfl) (by rw [HCL.out];kernel_rfl) ?_))
      go_roundg (ls.length - (k+1))
      case measure=>omega
      case rel=>exact ⟨k+1,hlt,Nat.le_refl _,by go_num,by rw [HT3.out];exact HY.out.below (balloc jR _),bthen HBr.out (balloc jR _)⟩
  · obtain rfl:k=ls.length:=by omega
    have z1:¬(ls.length:Int)<(ls.length:Int):=by omega
    rw [List.take_length,←HEP.out] at hown;obtain ⟨B1,e1,rfl⟩:=hown.form;have HO:=jH (hown.row eNm);clear hown hbw;go_wp2_with fail
    go_ret
    exact ⟨_,rfl,HO.out,bthen HB1.out HBr.out⟩
end
end Go.Proofs.YtpmfcpdelkchaaaGreat
