/- Part 46 of the proof: OTold. -/
import Derived.Test.YtkcdhaallnhhmaaGreatL45
namespace Go.Proofs.YtkcdhaallnhhmaaGreat
set_option linter.unusedSimpArgs false
set_option linter.unusedVariables false
set_option linter.unusedSectionVars false
set_option maxRecDepth 100000
set_option maxHeartbeats 16000000
section
open Go.RowKit Go.Lib
open Go.ChangeMaps (setBlock)
open Go.Maps (Keyed)
abbrev CK:={ p:Int × Int // I64 p.1∧I64 p.2 }
def ckV (x:CK):Value:=.agg #[.int .i64 x.1.1,.int .i64 x.1.2]
theorem cl_ocall:Tryz.prog.cellsOf 140=2:=by kernel_rfl
theorem cl_intC:Tryz.prog.cellsOf 3=1:=by kernel_rfl
theorem laidOutC:laidOutB Tryz.prog=true:=by kernel_rfl
theorem rowCall:(140:TypeId)<Tryz.prog.types.size:=of_decide_eq_true (by kernel_rfl)
theorem deepCall:Tryz.prog.keyType 140=true:=by kernel_rfl
theorem wideCall:(match Tryz.prog.underlying 140 with|some (.array _ _)|some (.struct _)=>true|_=>false)=true:=by kernel_rfl
theorem manyTypesC:2≤Tryz.prog.types.size:=of_decide_eq_true (by kernel_rfl)
theorem lawCall:Keyed Tryz.prog 140:=Keyed.of_law (deep_law_laid laidOutC (m:=9) (by decide) rowCall (by kernel_rfl) wideCall)
theorem keyOf_ck (x:CK):∃l,keyOf Tryz.prog 140 (ckV x)=some l:=by
 obtain ⟨⟨a,b⟩,h1,h2⟩:=x;simp only at h1 h2
 unfold I64 at h1 h2;have hform:(ckV ⟨(a,b),h1,h2⟩).formed Tryz.prog 140=true:=by simp [ckV,Value.formed,Tryz.underlying140,cl_ocall]
 obtain ⟨d,hd⟩:∃d,Tryz.prog.types.size=d+1:=⟨_,(Nat.sub_add_cancel (Nat.le_trans (by decide) manyTypesC)).symm⟩;have hlits:Tryz.prog.keyLits (Tryz.prog.types.size+1) 140 [.int .i64 a,.int .i64 b]=some [.int .i64 a,.int .i64 b]:=by
  have hw1:(Lit.int .i64 a).wf=true:=by simp [Lit.wf,IntKind.min,IntKind.max,IntKind.signed,IntKind.bits];omega
  have hw2:(Lit.int .i64 b).wf=true:=by simp [Lit.wf,IntKind.min,IntKind.max,IntKind.signed,IntKind.bits];omega
  simp [Program.keyLits,hd,Tryz.underlying140,Tryz.underlying3,cl_ocall,cl_intC,hw1,hw2]
 refine ⟨.string (keyBytes [.int .i64 a,.int .i64 b]),?_⟩;unfold keyOf;simp only [Tryz.underlying140,deepCall,hform]
 show (if _ then (Tryz.prog.keyLits (Tryz.prog.types.size+1) 140 [.int .i64 a,.int .i64 b]).map _ else none)=_
 rw [hlits];rfl
theorem keysCk:KeysBy Tryz.prog 140 ckV where
 law:=lawCall
 key:=keyOf_ck
 inj x y h:=by
  simp only [ckV,Value.agg.injEq,Array.mk.injEq,List.cons.injEq,Value.int.injEq,and_true,true_and] at h
  exact Subtype.ext (Prod.ext h.1 h.2)
theorem mput_find {β:Type} (es:List (CK × β)) (x y:CK) (v:β):findM (putM es x v) y=if y=x then some v else findM es y:=tput_find es x y v
theorem call_none {w:World} {L:Nat} {m:List (CK × RepD)} (h:MapIn ckV repV w L m) (t n:Int) (ht:I64 t∧I64 n) (hp:findM m ⟨(t,n),ht⟩=none) (W:World) (hW:W.heap[L]?=w.heap[L]?) :
 (Instr.lookup 138 (.map (some L)) (.agg #[.int .i64 t,.int .i64 n]) true).run Tryz.prog W=.ok (.tuple #[.agg #[.int .i64 0,.int .i64 0,.int .i64 0,.int .i64 0,.int .i64 0,.int .i64 0,.int .i64 0,.int .i64 0,.int .i64 0,.int .i64 0,.int .i64 0,.int .i64 0,.int .i64 0],.bool false]) W:=by
 have h1:=MapIn.look (V:=repV) (h.block hW) keysCk Tryz.underlying138 (Tryz.zeroValue76 W) true ⟨(t,n),ht⟩;have h2:hasM m ⟨(t,n),ht⟩=false:=by
  cases hh:hasM m ⟨(t,n),ht⟩ with
  | false=>rfl
  | true=>obtain ⟨v,hv,_⟩:=findM_some hh;rw [hp] at hv;cases hv
 rw [hp,h2] at h1;exact h1
theorem call_some {w:World} {L:Nat} {m:List (CK × RepD)} (h:MapIn ckV repV w L m) (t n:Int) (ht:I64 t∧I64 n) (p:RepD) (hp:findM m ⟨(t,n),ht⟩=some p) (W:World) (hW:W.heap[L]?=w.heap[L]?) :
 (Instr.lookup 138 (.map (some L)) (.agg #[.int .i64 t,.int .i64 n]) true).run Tryz.prog W=.ok (.tuple #[repV p,.bool true]) W:=by
 have h1:=MapIn.look (V:=repV) (h.block hW) keysCk Tryz.underlying138 (Tryz.zeroValue76 W) true ⟨(t,n),ht⟩;have h2:hasM m ⟨(t,n),ht⟩=true:=by
  cases hh:hasM m ⟨(t,n),ht⟩ with
  | true=>rfl
  | false=>rw [findM_none hh] at hp;cases hp
 rw [hp,h2] at h1;exact h1
def MRel (m:List (CK × RepD)) (pre:List EvtD):Prop:=∀x:CK,findM m x=(lastE 2 x.1.1 x.1.2 pre).map EvtD.rep'
theorem MRel.put {m:List (CK × RepD)} {pre:List EvtD} (h:MRel m pre) (e:EvtD) (hk:e.kind=2) (ht:I64 e.task∧I64 e.nth):MRel (putM m ⟨(e.task,e.nth),ht⟩ e.rep') (pre++[e]):=by
 intro x;rw [mput_find,lastE_snoc]
 by_cases hx:x=⟨(e.task,e.nth),ht⟩
 · subst hx
   rw [if_pos rfl,if_pos (by unfold isE;simpa using hk)];rfl
 · rw [if_neg hx,if_neg (fun h9=>hx (Subtype.ext (Prod.ext (by unfold isE at h9;simp only [decide_eq_true_eq] at h9;exact h9.2.1.symm) (by unfold isE at h9;simp only [decide_eq_true_eq] at h9;exact h9.2.2.symm))))]
   exact h x
theorem MRel.same {m:List (CK × RepD)} {pre:List EvtD} (h:MRel m pre) (e:EvtD) (hk:e.kind≠2):MRel m (pre++[e]):=by
 intro x;rw [lastE_snoc,if_neg (by unfold isE;simp only [decide_eq_true_eq];exact fun h9=>hk h9.1)];exact h x
theorem otold_any (v:Value) (es:List EvtD) (w:World) (he:RowIn 34 evC w v es) (heok:∀e∈es,e.ok) (hel:es.length≤100) :
 Calls Tryz.prog 35 #[v] w (jP w (.bool (toldG [] es))):=by
 obtain ⟨A,cp,rfl,hAc,h0⟩:=id he;clear h0;have hmm:=@run_makeMap Tryz.prog;have HE:=jH he;have HEOK:=jH heok;have q9:(es.length:Int)≤100:=by omega
 obtain ⟨ans,hans⟩:∃r,r=toldG [] es:=⟨_,rfl⟩;rw [←hans];have HANS:=jH hans;clear he heok hAc hans hel
 go_enter Tryz.func35,Tryz.ntmps35
 go_wp2_with fail
 clear hmm
 go_loopg [12] es.length (fun g s12 wr=>∃(k:Nat) (m:List (CK × RepD)),k≤es.length∧es.length - k≤g∧s12=.int .i64 k∧MapIn ckV repV wr w.heap.size m∧Hid (MRel m (es.take k))∧Hid (toldG (es.take k) (es.drop k)=ans)∧jB w wr)
 case atStart=>exact ⟨0,[],Nat.zero_le _,Nat.le_refl _,rfl,MapIn.made w,jH (fun x=>rfl),jH (by rw [HANS.out];rfl),balloc jR _⟩
 case round =>
  obtain ⟨k,m,hk,hg,rfl,hm,HMR,HR,hb⟩:=hrel;rename World=>wr
  have HM:=jH hm;have HBr:=jH hb;clear hm hb
  by_cases hlt:k<es.length
  · have z1:(k:Int)<(es.length:Int):=by omega
    have z2:(0:Int)≤(k:Int):=by omega
    obtain ⟨b1,o1,rfl,hb1,hc⟩:=(HE.out.below HBr.out).at_ hlt;have hcl:(evC es[k]).length=34:=rfl;have hone:∀v∈evC es[k],v.oneCell'=true:=evC_one _;have HOK:=jH (HEOK.out _ (List.getElem_mem hlt));have HIK:=jH (show I64 es[k].task∧I64 es[k].nth from ⟨HOK.out.task,HOK.out.nth⟩);have HRR:=jH ((toldG_drop hlt).symm.trans HR.out);have HTK:=jH (List.take_succ_eq_append_getElem hlt);clear HR;have g0:(evC es[k])[0]?=some (.int .i64 es[k].kind):=rfl
    have g1:(evC es[k])[1]?=some (.int .i64 es[k].task):=rfl;have g2:(evC es[k])[2]?=some (.int .i64 es[k].nth):=rfl;have g14:(evC es[k])[14]?=some (.int .i64 es[k].err):=rfl;have g15:(evC es[k])[15]?=some (.int .i64 es[k].epoch):=rfl;have g16:(evC es[k])[16]?=some (.int .i64 es[k].handle):=rfl;have g17:(evC es[k])[17]?=some (.int .i64 es[k].cnt):=rfl;have g18:(evC es[k])[18]?=some (.int .i64 es[k].sum):=rfl
    have g19:(evC es[k])[19]?=some (.int .i64 es[k].least):=rfl;have g20:(evC es[k])[20]?=some (.int .i64 es[k].most):=rfl;have g21:(evC es[k])[21]?=some (.int .i64 es[k].mean):=rfl;have g22:(evC es[k])[22]?=some (.int .i64 es[k].atick):=rfl;have g23:(evC es[k])[23]?=some (.int .i64 es[k].aload):=rfl;have g24:(evC es[k])[24]?=some (.int .i64 es[k].awant):=rfl;have g25:(evC es[k])[25]?=some (.int .i64 es[k].arepl):=rfl
    have g26:(evC es[k])[26]?=some (.int .i64 es[k].awhy):=rfl;obtain ⟨cs,hcs⟩:∃cs,cs=evC es[k]:=⟨_,rfl⟩;rw [←hcs] at hc hcl hone g0 g1 g2 g14 g15 g16 g17 g18 g19 g20 g21 g22 g23 g24 g25 g26;have hst:=store_new (P:=Tryz.prog) wr 132 cs 34 hcl (by kernel_rfl) hone;have HC:=jH hc;have HCL:=jH hcl;have HMB:=jH (show w.heap.size<wr.heap.size from HM.out.lt);clear hc hone hcs
    go_upto_region 5 with (first
     | (refine wpList_load_list rfl 132 (.tmp 14) rfl b1 (o1+k * 34) cs HC.out (by rfl) _ Tryz.underlying132 (by rfl) (by rw [HCL.out];kernel_rfl) ?_))
    refine name_world ?_;intro W1 hW1;have hbW:jB wr W1:=by rw [hW1];exact balloc jR _
    have HC1:=jH (show W1.heap[wr.heap.size]?=some (.cells cs.toArray 132 (0,0)) by rw [hW1];exact heap_alloc_new _ _);have HBW1:=jH hbW;have e1:W1.cell? ⟨wr.heap.size,1,none⟩=some (.int .i64 es[k].task):=((box_cells jR HC1.out).1 1).trans (by rw [List.getElem?_toArray];exact g1);have e2:W1.cell? ⟨wr.heap.size,2,none⟩=some (.int .i64 es[k].nth):=((box_cells jR HC1.out).1 2).trans (by rw [List.getElem?_toArray];exact g2)
    clear hW1 hbW hst hcl
    go_upto_region 6 with fail
    refine name_world ?_;intro W2 hW2;have hb12:jB W1 W2:=by rw [hW2];exact balloc jR _
    have HK2:=jH (show W2.heap[W1.heap.size]?=some (.cells #[.int .i64 es[k].task,.int .i64 es[k].nth] 140 (0,0)) by rw [hW2];exact heap_alloc_new _ _);have HC2:=jH (jK hb12 HC1.out);have HBW2:=jH (bthen HBW1.out hb12);clear hW2 hb12 e1 e2;have e0:W2.cell? ⟨wr.heap.size,0,none⟩=some (.int .i64 es[k].kind):=((box_cells jR HC2.out).1 0).trans (by rw [List.getElem?_toArray];exact g0);have e1:W2.cell? ⟨wr.heap.size,1,none⟩=some (.int .i64 es[k].task):=((box_cells jR HC2.out).1 1).trans (by rw [List.getElem?_toArray];exact g1)
    have e2:W2.cell? ⟨wr.heap.size,2,none⟩=some (.int .i64 es[k].nth):=((box_cells jR HC2.out).1 2).trans (by rw [List.getElem?_toArray];exact g2);have e14:W2.cell? ⟨wr.heap.size,14,none⟩=some (.int .i64 es[k].err):=((box_cells jR HC2.out).1 14).trans (by rw [List.getElem?_toArray];exact g14);have e15:W2.cell? ⟨wr.heap.size,15,none⟩=some (.int .i64 es[k].epoch):=((box_cells jR HC2.out).1 15).trans (by rw [List.getElem?_toArray];exact g15)
    have e16:W2.cell? ⟨wr.heap.size,16,none⟩=some (.int .i64 es[k].handle):=((box_cells jR HC2.out).1 16).trans (by rw [List.getElem?_toArray];exact g16);have e17:W2.cell? ⟨wr.heap.size,17,none⟩=some (.int .i64 es[k].cnt):=((box_cells jR HC2.out).1 17).trans (by rw [List.getElem?_toArray];exact g17);have e18:W2.cell? ⟨wr.heap.size,18,none⟩=some (.int .i64 es[k].sum):=((box_cells jR HC2.out).1 18).trans (by rw [List.getElem?_toArray];exact g18)
    have e19:W2.cell? ⟨wr.heap.size,19,none⟩=some (.int .i64 es[k].least):=((box_cells jR HC2.out).1 19).trans (by rw [List.getElem?_toArray];exact g19);have e20:W2.cell? ⟨wr.heap.size,20,none⟩=some (.int .i64 es[k].most):=((box_cells jR HC2.out).1 20).trans (by rw [List.getElem?_toArray];exact g20);have e21:W2.cell? ⟨wr.heap.size,21,none⟩=some (.int .i64 es[k].mean):=((box_cells jR HC2.out).1 21).trans (by rw [List.getElem?_toArray];exact g21)
    have e22:W2.cell? ⟨wr.heap.size,22,none⟩=some (.int .i64 es[k].atick):=((box_cells jR HC2.out).1 22).trans (by rw [List.getElem?_toArray];exact g22);have e23:W2.cell? ⟨wr.heap.size,23,none⟩=some (.int .i64 es[k].aload):=((box_cells jR HC2.out).1 23).trans (by rw [List.getElem?_toArray];exact g23);have e24:W2.cell? ⟨wr.heap.size,24,none⟩=some (.int .i64 es[k].awant):=((box_cells jR HC2.out).1 24).trans (by rw [List.getElem?_toArray];exact g24)
    have e25:W2.cell? ⟨wr.heap.size,25,none⟩=some (.int .i64 es[k].arepl):=((box_cells jR HC2.out).1 25).trans (by rw [List.getElem?_toArray];exact g25);have e26:W2.cell? ⟨wr.heap.size,26,none⟩=some (.int .i64 es[k].awhy):=((box_cells jR HC2.out).1 26).trans (by rw [List.getElem?_toArray];exact g26);obtain ⟨y1,y2,y3⟩:=box_cells jR HK2.out;clear g0 g1 g2 g14 g15 g16 g17 g18 g19 g20 g21 g22 g23 g24 g25 g26
    by_cases h2:es[k].kind=2
    · have HTB:=jH (show tellB (es.take k) es[k]=true by unfold tellB;rw [if_neg (by omega)])
      have HR2:=jH (show toldG (es.take (k+1)) (es.drop (k+1))=ans from by have h9:=HRR.out;rw [HTB.out,Bool.true_and] at h9;exact h9);have HPUT:=jH (show MRel (putM m ⟨(es[k].task,es[k].nth),HIK.out⟩ es[k].rep') (es.take (k+1)) by rw [HTK.out];exact HMR.out.put es[k] h2 HIK.out);obtain ⟨o,hs1,hs2⟩:=MapIn.store (V:=repV) (HM.out.below HBW2.out) keysCk Tryz.underlying138 ⟨(es[k].task,es[k].nth),HIK.out⟩ es[k].rep'
      have hs3:(Instr.mapUpdate 138 (.map (some w.heap.size)) (.agg #[.int .i64 es[k].task,.int .i64 es[k].nth]) (.agg #[.int .i64 es[k].err,.int .i64 es[k].epoch,.int .i64 es[k].handle,.int .i64 es[k].cnt,.int .i64 es[k].sum,.int .i64 es[k].least,.int .i64 es[k].most,.int .i64 es[k].mean,.int .i64 es[k].atick,.int .i64 es[k].aload,.int .i64 es[k].awant,.int .i64 es[k].arepl,.int .i64 es[k].awhy])).run Tryz.prog W2=.ok () (setBlock W2 w.heap.size o):=hs1
      have HS2:=jH hs2;rw [h2] at e0;clear hs1 hs2 h2 HTB HRR;go_wp2_with fail
      go_roundg (es.length - (k+1))
      case measure=>omega
      case rel=>exact ⟨k+1,_,hlt,Nat.le_refl _,by go_num,HS2.out,HPUT,HR2,tri_setBlock (bthen HBr.out HBW2.out) o (Nat.le_refl _)⟩
    · have z20:(es[k].kind == 2)=false:=by simpa using h2
      have HSAME:=jH (show MRel m (es.take (k+1)) by rw [HTK.out];exact HMR.out.same es[k] h2)
      by_cases h3:es[k].kind=3
      · have HTB:=jH (show tellB (es.take k) es[k]=(match lastE 2 es[k].task es[k].nth (es.take k) with|none=>false|some p=>sameRep p.rep' es[k].rep') by unfold tellB;rw [if_pos h3];rfl)
        have z30:(es[k].kind == 3)=true:=by simpa using h3
        have HF:=jH (HMR.out ⟨(es[k].task,es[k].nth),HIK.out⟩)
        cases hl:lastE 2 es[k].task es[k].nth (es.take k) with
        | none =>
          have HR2:=jH (show false=ans from by have h9:=HRR.out;rw [HTB.out,hl] at h9;exact h9);have q1:=call_none HM.out es[k].task es[k].nth HIK.out (by have h9:=HF.out;dsimp only at h9;rw [hl] at h9;exact h9) W2 (HBW2.out.block _ HMB.out);clear HRR HTB h2 h3 hl;go_wp2_with fail
          go_ret
          exact ⟨by rw [←HR2.out];rfl,bthen HBr.out (bthen HBW2.out (balloc jR _))⟩
        | some p =>
          have q1:=call_some HM.out es[k].task es[k].nth HIK.out p.rep' (by have h9:=HF.out;dsimp only at h9;rw [hl] at h9;exact h9) W2 (HBW2.out.block _ HMB.out);have q2:(Instr.lookup 138 (.map (some w.heap.size)) (.agg #[.int .i64 es[k].task,.int .i64 es[k].nth]) true).run Tryz.prog W2=.ok (.tuple #[.agg #[.int .i64 p.err,.int .i64 p.epoch,.int .i64 p.handle,.int .i64 p.cnt,.int .i64 p.sum,.int .i64 p.least,.int .i64 p.most,.int .i64 p.mean,.int .i64 p.atick,.int .i64 p.aload,.int .i64 p.awant,.int .i64 p.arepl,.int .i64 p.awhy],.bool true]) W2:=q1
          obtain ⟨sb,hsb⟩:∃r,r=sameRep p.rep' es[k].rep':=⟨_,rfl⟩;have NE9:∀U,(binOp .neq 76 (.agg #[.int .i64 p.err,.int .i64 p.epoch,.int .i64 p.handle,.int .i64 p.cnt,.int .i64 p.sum,.int .i64 p.least,.int .i64 p.most,.int .i64 p.mean,.int .i64 p.atick,.int .i64 p.aload,.int .i64 p.awant,.int .i64 p.arepl,.int .i64 p.awhy]) (.agg #[.int .i64 es[k].err,.int .i64 es[k].epoch,.int .i64 es[k].handle,.int .i64 es[k].cnt,.int .i64 es[k].sum,.int .i64 es[k].least,.int .i64 es[k].most,.int .i64 es[k].mean,.int .i64 es[k].atick,.int .i64 es[k].aload,.int .i64 es[k].awant,.int .i64 es[k].arepl,.int .i64 es[k].awhy])).run Tryz.prog U=.ok (.bool (!sb)) U:=fun U=>by rw [hsb];exact neRep p.rep' es[k].rep' U
          have HR2:=jH (show (sb && toldG (es.take (k+1)) (es.drop (k+1)))=ans from by have h9:=HRR.out;rw [HTB.out,hl] at h9;rw [hsb];exact h9);clear HRR HTB h2 h3 hl hsb q1
          go_upto_region 11 with fail
          refine name_world ?_;intro W3 hW3;have hb23:jB W2 W3:=by rw [hW3];exact balloc jR _
          have HR3x:=jH (show W3.heap[W2.heap.size]?=some (.cells #[.int .i64 p.err,.int .i64 p.epoch,.int .i64 p.handle,.int .i64 p.cnt,.int .i64 p.sum,.int .i64 p.least,.int .i64 p.most,.int .i64 p.mean,.int .i64 p.atick,.int .i64 p.aload,.int .i64 p.awant,.int .i64 p.arepl,.int .i64 p.awhy] 76 (0,0)) by rw [hW3];exact heap_alloc_new _ _);have HBW3:=jH (bthen HBW2.out hb23);have hlt9:wr.heap.size<W2.heap.size:=(jL HC2.out)
          have f14:W3.cell? ⟨wr.heap.size,14,none⟩=some (.int .i64 es[k].err):=(hb23.cell (p:=⟨wr.heap.size,_,none⟩) hlt9).trans e14;have f15:W3.cell? ⟨wr.heap.size,15,none⟩=some (.int .i64 es[k].epoch):=(hb23.cell (p:=⟨wr.heap.size,_,none⟩) hlt9).trans e15;have f16:W3.cell? ⟨wr.heap.size,16,none⟩=some (.int .i64 es[k].handle):=(hb23.cell (p:=⟨wr.heap.size,_,none⟩) hlt9).trans e16;have f17:W3.cell? ⟨wr.heap.size,17,none⟩=some (.int .i64 es[k].cnt):=(hb23.cell (p:=⟨wr.heap.size,_,none⟩) hlt9).trans e17
          have f18:W3.cell? ⟨wr.heap.size,18,none⟩=some (.int .i64 es[k].sum):=(hb23.cell (p:=⟨wr.heap.size,_,none⟩) hlt9).trans e18;have f19:W3.cell? ⟨wr.heap.size,19,none⟩=some (.int .i64 es[k].least):=(hb23.cell (p:=⟨wr.heap.size,_,none⟩) hlt9).trans e19;have f20:W3.cell? ⟨wr.heap.size,20,none⟩=some (.int .i64 es[k].most):=(hb23.cell (p:=⟨wr.heap.size,_,none⟩) hlt9).trans e20;have f21:W3.cell? ⟨wr.heap.size,21,none⟩=some (.int .i64 es[k].mean):=(hb23.cell (p:=⟨wr.heap.size,_,none⟩) hlt9).trans e21
          have f22:W3.cell? ⟨wr.heap.size,22,none⟩=some (.int .i64 es[k].atick):=(hb23.cell (p:=⟨wr.heap.size,_,none⟩) hlt9).trans e22;have f23:W3.cell? ⟨wr.heap.size,23,none⟩=some (.int .i64 es[k].aload):=(hb23.cell (p:=⟨wr.heap.size,_,none⟩) hlt9).trans e23;have f24:W3.cell? ⟨wr.heap.size,24,none⟩=some (.int .i64 es[k].awant):=(hb23.cell (p:=⟨wr.heap.size,_,none⟩) hlt9).trans e24;have f25:W3.cell? ⟨wr.heap.size,25,none⟩=some (.int .i64 es[k].arepl):=(hb23.cell (p:=⟨wr.heap.size,_,none⟩) hlt9).trans e25
          have f26:W3.cell? ⟨wr.heap.size,26,none⟩=some (.int .i64 es[k].awhy):=(hb23.cell (p:=⟨wr.heap.size,_,none⟩) hlt9).trans e26;obtain ⟨x1,x2,x3⟩:=box_cells jR HR3x.out;clear hW3 hb23 hlt9 e0 e1 e2 e14 e15 e16 e17 e18 e19 e20 e21 e22 e23 e24 e25 e26 y1 y2 y3
          cases sb with
          | false =>
            have HR3:=jH (show false=ans from HR2.out);go_wp2_with fail
            go_ret
            exact ⟨by rw [←HR3.out];rfl,bthen HBr.out HBW3.out⟩
          | true =>
            have HR3:=jH (show toldG (es.take (k+1)) (es.drop (k+1))=ans from HR2.out);go_wp2_with fail
            go_roundg (es.length - (k+1))
            case measure=>omega
            case rel=>exact ⟨k+1,m,hlt,Nat.le_refl _,by go_num,HM.out.below HBW3.out,HSAME,HR3,bthen HBr.out HBW3.out⟩
      · have z30:(es[k].kind == 3)=false:=by simpa using h3
        have HTB:=jH (show tellB (es.take k) es[k]=true by unfold tellB;rw [if_neg h3]);have HR2:=jH (show toldG (es.take (k+1)) (es.drop (k+1))=ans from by have h9:=HRR.out;rw [HTB.out,Bool.true_and] at h9;exact h9);clear HRR HTB h2 h3;go_wp2_with fail
        go_roundg (es.length - (k+1))
        case measure=>omega
        case rel=>exact ⟨k+1,m,hlt,Nat.le_refl _,by go_num,HM.out.below HBW2.out,HSAME,HR2,bthen HBr.out HBW2.out⟩
  · obtain rfl:k=es.length:=by omega
    have z1:¬(es.length:Int)<(es.length:Int):=by omega
    have HR2:=jH (show true=ans from by have h9:=HR.out;rw [List.drop_length] at h9;exact h9);clear HR;go_wp2_with fail
    go_ret
    exact ⟨by rw [←HR2.out];rfl,HBr.out⟩
end
end Go.Proofs.YtkcdhaallnhhmaaGreat
