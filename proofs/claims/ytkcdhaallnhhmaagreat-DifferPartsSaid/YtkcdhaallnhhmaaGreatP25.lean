/- Part 25 of the proof: FlC, FlE. -/
import Derived.Test.YtkcdhaallnhhmaaGreatP23
import Derived.Test.YtkcdhaallnhhmaaGreatP24
namespace Go.Proofs.YtkcdhaallnhhmaaGreat
set_option linter.unusedSimpArgs false
set_option linter.unusedVariables false
set_option linter.unusedSectionVars false
set_option maxRecDepth 100000
set_option maxHeartbeats 16000000
section
open Go.RowKit Go.Lib
def it00:It:=⟨(0,0),none,0,none,0,nd0⟩
def LoadS (w:World) (o:Option It) (e:Ending) (w':World):Prop :=
 ∃y:It,e=.returned (.tuple #[ldV y,.bool o.isSome])∧y.nd=(o.getD it00).nd∧LoadOwn w.heap.size w' y∧jB w w'
theorem fl_look {w:World} {L:Nat} {es:List (SK × It)} (h:MapIn skV ldV w L es) (s:SK) (cm:Bool) {W:World} (hW:W.heap[L]?=w.heap[L]?) :
 (Instr.lookup 94 (.map (some L)) (.string s.1) cm).run Tryz.prog W=.ok (if cm then .tuple #[ldV ((findM es s).getD it00),.bool (hasM es s)] else ldV ((findM es s).getD it00)) W:=by
 have h1:=MapIn.look (V:=ldV) (h.block hW) keysSk Tryz.underlying94 (Tryz.zeroValue50 W) cm s;have h2:((findM es s).map ldV).getD (ldV it00)=ldV ((findM es s).getD it00):=by cases findM es s <;> rfl
 rw [←h2];exact h1
theorem isSome_has (es:List (SK × It)) (s:SK):(findM es s).isSome=hasM es s:=by
 cases h:hasM es s with
 | false=>rw [findM_none h];rfl
 | true=>obtain ⟨v,hv,_⟩:=findM_some h;rw [hv];rfl
theorem flLoad_any {P:Nat→Prop} {M:Nat} {c:Cfg} {rs rh n:Nat} {wd:Wd} {d:FlatD} (s:SK) (w:World) (h:FlatAt P w M c rs rh n wd d) (hl:∀p∈d.es,p.2.nd.smp.length≤1000000∧p.2.nd.past.length≤1000000) :
 Calls Tryz.prog 88 #[.pointer (some ⟨M,0,none⟩),.string s.1] w (LoadS w (findM d.es s)):=by
 obtain ⟨o,ho⟩:∃o,o=findM d.es s:=⟨_,rfl⟩;rw [←ho];have hx:LoadIn (fun b=>P b∨False) w (o.getD it00)∧(o.getD it00).nd.smp.length≤1000000∧(o.getD it00).nd.past.length≤1000000:=by
  cases hf:o with
  | none=>exact ⟨⟨RowG.nil,RowG.nil⟩,by decide,by decide⟩
  | some x =>
    rw [hf] at ho;have hm:=find_mem ho.symm;exact ⟨(h.rows _ hm).imp (fun b hb=>.inl hb),(hl _ hm).1,(hl _ hm).2⟩
 have CM:=jH (fun W (hW:jB w W)=>flMade_any W (h.below hW));have CC:=jH (fun W (hW:jB w W)=>flCopied_any _ (o.getD it00) W (hx.1.below hW) hx.2.1 hx.2.2);have hlk:=fun (W:World) (hW:jB w W)=>fl_look h.map s true (hW.block d.L h.map.lt)
 rw [←ho,←isSome_has,←ho] at hlk;have HC:=jH h.cell;have HLM:=jH h.lt;obtain ⟨x,hxx⟩:∃x,x=o.getD it00:=⟨_,rfl⟩;rw [←hxx] at CC hlk;unfold ldV ldC at CC hlk;simp only [↓reduceIte] at hlk
 have HXX:=jH hxx;obtain ⟨ob,hob⟩:∃b,b=o.isSome:=⟨_,rfl⟩;rw [←hob] at hlk;have HOB:=jH hob.symm;clear hob;have HLK:=jH hlk;clear h hl hx ho hlk hxx
 go_enter Tryz.func88,Tryz.ntmps88
 go_upto_region 4 with (first
  | (go_at_call 48
     refine calls_named ?_;intro W1 hW1;have hb1:jB w W1:=by rw [hW1];exact balloc jR _
     have HR1:=jH (show W1.heap[w.heap.size]?=some (.cells #[.slice none 0 0,.slice none 0 0,.int .i64 0,.int .i64 0,.int .i64 0,.int .i64 0,.int .i64 0,.int .i64 0,.bool false] 50 (0,0)) by rw [hW1];exact heap_alloc_new _ _);have HB1:=jH hb1;clear hW1 hb1;refine (CM.out W1 HB1.out).mono ?_;rintro e w2 ⟨rfl,rfl⟩;obtain ⟨a1,a2,a3⟩:=box_cells HB1.out HC.out;have hq:=HLK.out w2 HB1.out))
 refine name_world ?_;intro W3 hW3;have hd3:jB w2 W3:=by rw [hW3];exact balloc jR _
 have HX3:=jH (show W3.heap[w2.heap.size]?=some (.cells #[.slice x.sA x.nd.smp.length x.sc,.slice x.pA x.nd.past.length x.pc,.int .i64 x.nd.pol.mn,.int .i64 x.nd.pol.mx,.int .i64 x.nd.pol.tg,.int .i64 x.nd.pol.tol,.int .i64 x.nd.pol.win,.int .i64 x.nd.pol.hold,.bool x.nd.ruled] 50 (0,0)) by rw [hW3];exact heap_alloc_new _ _);have HR3:=jH (jK hd3 HR1.out);have HB3:=jH (bthen HB1.out hd3);clear hW3 hd3 a1 a2 a3 hq
 obtain ⟨b1,b2,b3⟩:=box_cells jR HX3.out
 go_wp2_with (first
  | (go_at_call 135
     refine (CC.out W3 HB3.out).mono ?_;rintro e w4 ⟨y,rfl,hy1,hy2,hy3,hb4⟩;unfold ldV ldC;have HR4:=jH (jK hb4 HR3.out);have HB4:=jH (bthen HB3.out hb4);have HY1:=jH hy1;have HY3:=jH hy3;have HS3:=jH (show w.heap.size<W3.heap.size from (jL HR3.out));obtain ⟨r1,r2,r3⟩:=box_cells jR HR4.out;clear hy1 hy2 hy3 hb4 b1 b2 b3))
 refine post_named ?_;intro W9 hW9;have hW9':W9=stor w4 w.heap.size 0 [.slice y.sA y.nd.smp.length y.sc,.slice y.pA y.nd.past.length y.pc,.int .i64 y.nd.pol.mn,.int .i64 y.nd.pol.mx,.int .i64 y.nd.pol.tg,.int .i64 y.nd.pol.tol,.int .i64 y.nd.pol.win,.int .i64 y.nd.pol.hold,.bool y.nd.ruled]:=hW9;obtain ⟨t1,t2,t3,t4⟩:=stor_at HR4.out [.slice y.sA y.nd.smp.length y.sc,.slice y.pA y.nd.past.length y.pc,.int .i64 y.nd.pol.mn,.int .i64 y.nd.pol.mx,.int .i64 y.nd.pol.tg,.int .i64 y.nd.pol.tol,.int .i64 y.nd.pol.win,.int .i64 y.nd.pol.hold,.bool y.nd.ruled] rfl W9 hW9'
 obtain ⟨a9,a8,a7⟩:=box_cells jR t1;clear hW9 hW9';have hs3:=HS3.out;have hk:∀b,W3.heap.size≤b→b<w4.heap.size→W9.heap[b]?=w4.heap[b]?:=fun b hb _=>t2 b (by omega)
 exact bodyPost_ret (v:=.tuple #[.agg #[.slice y.sA y.nd.smp.length y.sc,.slice y.pA y.nd.past.length y.pc,.int .i64 y.nd.pol.mn,.int .i64 y.nd.pol.mx,.int .i64 y.nd.pol.tg,.int .i64 y.nd.pol.tol,.int .i64 y.nd.pol.win,.int .i64 y.nd.pol.hold,.bool y.nd.ruled],.bool ob]) (by simp [results,Tryz.results88,go_sem,a9]) rfl
   ⟨y,by rw [HOB.out];rfl,by rw [HY1.out,HXX.out],(HY3.out.kept hk).lower (by omega),HB4.out.trans (t4 _ (Nat.le_refl _))⟩
end
section
open Go.RowKit Go.Lib
def readF (o:Option It):RepD:=match o with
 | none=>repF 5
 | some x=>match x.nd.past.getLast? with
   | none=>repF 0
   | some a=>⟨0,0,0,st0,a⟩
theorem flRead_any {P:Nat→Prop} {M:Nat} {c:Cfg} {rs rh n:Nat} {wd:Wd} {d:FlatD} (s:SK) (w:World) (h:FlatAt P w M c rs rh n wd d) (hl:∀p∈d.es,p.2.nd.past.length≤1000000) :
 Calls Tryz.prog 85 #[.pointer (some ⟨M,0,none⟩),.string s.1] w (jP w (repV (readF (findM d.es s)))):=by
 obtain ⟨o,ho⟩:∃o,o=findM d.es s:=⟨_,rfl⟩;rw [←ho];have hx:LoadIn (fun b=>P b∨False) w (o.getD it00)∧(o.getD it00).nd.past.length≤1000000:=by
  cases hf:o with
  | none=>exact ⟨⟨RowG.nil,RowG.nil⟩,by decide⟩
  | some x =>
    rw [hf] at ho;have hm:=find_mem ho.symm;exact ⟨(h.rows _ hm).imp (fun b hb=>.inl hb),hl _ hm⟩
 have hlk:=fun (W:World) (hW:jB w W)=>fl_look h.map s true (hW.block d.L h.map.lt)
 rw [←ho,←isSome_has,←ho] at hlk;have HC:=jH h.cell;obtain ⟨r,hr⟩:∃r,r=readF o:=⟨_,rfl⟩;rw [←hr];obtain ⟨x,hxx⟩:∃x,x=o.getD it00:=⟨_,rfl⟩;rw [←hxx] at hx hlk;unfold ldV ldC at hlk;simp only [↓reduceIte] at hlk
 obtain ⟨ob,hob⟩:∃b,b=o.isSome:=⟨_,rfl⟩;rw [←hob] at hlk;have HRR:=jH (show (ob=false→r=repF 5)∧(ob=true→r=match x.nd.past.getLast? with|none=>repF 0|some a=>⟨0,0,0,st0,a⟩) by
  rw [hob,hr,hxx]
  cases o with
  | none=>exact ⟨fun _=>rfl,(fun h=>nomatch h)⟩
  | some z=>exact ⟨(fun h=>nomatch h),fun _=>rfl⟩)
 have HLK:=jH hlk;have HP:=jH hx.1.2.1;have HPL:=jH hx.2;clear h hl hx ho hlk hxx hob hr
 go_enter Tryz.func85,Tryz.ntmps85
 go_upto_region 1 with fail
 refine name_world ?_;intro W1 hW1;have HB1:=jH (show jB w W1 by rw [hW1];exact balloc jR _);have HR1:=jH (show W1.heap[w.heap.size]?=some (.cells #[.int .i64 0,.int .i64 0,.int .i64 0,.int .i64 0,.int .i64 0,.int .i64 0,.int .i64 0,.int .i64 0,.int .i64 0,.int .i64 0,.int .i64 0,.int .i64 0,.int .i64 0] 76 (0,0)) by rw [hW1];exact heap_alloc_new _ _);clear hW1;obtain ⟨a1,a2,a3⟩:=box_cells HB1.out HC.out
 have hq:=HLK.out W1 HB1.out
 go_upto_region 2 with fail
 refine name_world ?_;intro W3 hW3;have hd3:jB W1 W3:=by rw [hW3];exact balloc jR _
 have hx3:W3.heap[W1.heap.size]?=some (.cells #[.slice x.sA x.nd.smp.length x.sc,.slice x.pA x.nd.past.length x.pc,.int .i64 x.nd.pol.mn,.int .i64 x.nd.pol.mx,.int .i64 x.nd.pol.tg,.int .i64 x.nd.pol.tol,.int .i64 x.nd.pol.win,.int .i64 x.nd.pol.hold,.bool x.nd.ruled] 50 (0,0)):=by rw [hW3];exact heap_alloc_new _ _
 have HR3:=jH (jK hd3 HR1.out);have HB3:=jH (bthen HB1.out hd3);clear hW3 hd3 a1 a2 a3 hq;obtain ⟨b1,b2,b3⟩:=box_cells jR hx3;obtain ⟨r1,r2,r3⟩:=box_cells jR HR3.out;clear hx3;have fin:∀(rp:RepD) (W9:World),W9=stor W3 w.heap.size 0 (repC rp)→W9.heap[w.heap.size]?=some (.cells (repC rp).toArray 76 (0,0))∧jB w W9:=fun rp W9 hW9=>by
  obtain ⟨t1,t2,t3,t4⟩:=stor_at HR3.out (repC rp) rfl W9 hW9;exact ⟨t1,HB3.out.trans (t4 _ (Nat.le_refl _))⟩
 have HFIN:=jH fin;clear fin
 cases ob
 · have HR:=jH (HRR.out.1 rfl)
   go_wp2_with fail
   refine post_named ?_;intro W9 hW9;obtain ⟨t1,hb9⟩:=HFIN.out (repF 5) W9 hW9;obtain ⟨a9,a8,a7⟩:=box_cells jR t1;clear hW9;exact bodyPost_ret (v:=repV (repF 5)) (by simp [results,Tryz.results85,go_sem,a9,repV,repC,repF,st0,adv0]) rfl ⟨by rw [HR.out],hb9⟩
 · have HR:=jH (HRR.out.2 rfl)
   by_cases h0:x.nd.past.length=0
   · have hnil:x.nd.past=[]:=List.eq_nil_of_length_eq_zero h0
     have HR2:=jH (show r=repF 0 by rw [HR.out,hnil];rfl);rw [h0] at b1;clear hnil;go_wp2_with fail
     refine post_named ?_;intro W9 hW9;obtain ⟨t1,hb9⟩:=HFIN.out (repF 0) W9 hW9;obtain ⟨a9,a8,a7⟩:=box_cells jR t1;clear hW9;exact bodyPost_ret (v:=repV (repF 0)) (by simp [results,Tryz.results85,go_sem,a9,repV,repC,repF,st0,adv0]) rfl ⟨by rw [HR2.out],hb9⟩
   · have hpos:0<x.nd.past.length:=by omega
     obtain ⟨m,hm⟩:∃m,m=x.nd.past.length - 1:=⟨_,rfl⟩;have hlt:m<x.nd.past.length:=by omega
     obtain ⟨bb,o2,hA,hbb,hcc⟩:=HP.out.at_ hlt;have HR2:=jH (show r=⟨0,0,0,st0,x.nd.past[m]⟩ by
      rw [HR.out,getLast_nth hpos];simp only [hm])
     have c0:=(HB3.out.cell (p:=⟨bb,_,none⟩) hbb).trans (hcc 0 _ rfl);have c1:=(HB3.out.cell (p:=⟨bb,_,none⟩) hbb).trans (hcc 1 _ rfl);have c2:=(HB3.out.cell (p:=⟨bb,_,none⟩) hbb).trans (hcc 2 _ rfl);have c3:=(HB3.out.cell (p:=⟨bb,_,none⟩) hbb).trans (hcc 3 _ rfl);have c4:=(HB3.out.cell (p:=⟨bb,_,none⟩) hbb).trans (hcc 4 _ rfl);rw [Nat.add_zero] at c0;generalize x.nd.past[m]=a at c0 c1 c2 c3 c4 HR2
     rw [hA] at b1;have hpl:=HPL.out;have z9:¬((x.nd.past.length:Nat):Int)=0:=by omega
     have z7:(((x.nd.past.length:Nat):Int) == 0)=false:=beq_eq_false_iff_ne.2 z9;have hw:wrap64 ((m:Nat):Int)=(m:Nat):=by unfold wrap64;omega
     have hw2:((x.nd.past.length:Nat) - 1:Int)=(m:Nat):=by omega
     have z1:(0:Int)≤(m:Int):=by omega
     have z2:(m:Int)<(x.nd.past.length:Int):=by omega
     generalize x.nd.past.length=pl at b1 z9 z7 hw2 z2;clear hA hcc hm hlt hpos h0 hpl;go_wp2_with fail
     refine post_named ?_;intro W9 hW9;obtain ⟨t1,hb9⟩:=HFIN.out ⟨0,0,0,st0,a⟩ W9 hW9;obtain ⟨a9,a8,a7⟩:=box_cells jR t1;clear hW9;exact bodyPost_ret (v:=repV ⟨0,0,0,st0,a⟩) (by simp [results,Tryz.results85,go_sem,a9,repV,repC,repF,st0,adv0]) rfl ⟨by rw [HR2.out],hb9⟩
end
end Go.Proofs.YtkcdhaallnhhmaaGreat
