/- Part 34 of the proof. -/
import Derived.Test.YtmniiodpbebnmaaGreatJ33
import Derived.Test.YtmniiodpbebnmaaGreatJ32
namespace Go.Proofs.YtmniiodpbebnmaaGreat
set_option linter.unusedSimpArgs false
set_option linter.unusedVariables false
set_option linter.unusedSectionVars false
set_option maxRecDepth 100000
set_option maxHeartbeats 16000000
section
open Go.RowKit Go.Lib
def w0C (o:Option It):Adv × Int:=match o with
 | none=>(b0O,5)
 | some x=>if x.nd.ruled=true then o0G x.nd.pol x.nd.smp x.nd.past else (b0O,5)
theorem s0R (M:Option Addr) (id:ByteArray) (o:Option It) (w:World) (ho:o=none∨∃x,o=some x∧x.nd.ruled=false)
    (CL:Hid (∀W,jB w W→Calls Tryz.prog 22 #[.pointer M,.string id] W (r0Q W o))) :
    Calls Tryz.prog 23 #[.pointer M,.string id] w (jP w (.tuple #[.agg (c0U b0O).toArray,.int .i64 5])):=by
  obtain ⟨ob,hob⟩:∃b,b=o.isSome:=⟨_,rfl⟩;have hru:∀y:It,y.nd=(o.getD o0K).nd→ob=false∨y.nd.ruled=false:=fun y hy=>by
   rcases ho with rfl|⟨x,rfl,hx⟩
   · exact .inl hob
   · exact .inr (by rw [hy];exact hx)
  unfold r0Q at CL;rw [←hob] at CL;have HRU:=jH hru;clear ho hru hob
  go_enter Tryz.func23,Tryz.ntmps23
  go_upto_region 2 with (first
   | (go_at_call 22
      refine a0B ?_;intro W1 hW1;have hb1:jB w W1:=by rw [hW1];exact a0C jR _
      have HR1:=jH (show W1.heap[w.heap.size]?=some (.cells #[.int .i64 0,.int .i64 0,.int .i64 0,.int .i64 0,.int .i64 0] 44 (0,0)) by rw [hW1];exact heap_alloc_new _ _);have HB1:=jH hb1;clear hW1 hb1;refine (CL.out W1 HB1.out).mono ?_;rintro e w2 ⟨y,rfl,hy1,hy3,hb2⟩;have HR2:=jH (jK hb2 HR1.out);have HB2:=jH (a0D HB1.out hb2);have HY3:=jH hy3.load;unfold ldV ldC;have HRY:=jH (HRU.out y hy1);clear hb2 hy3 hy1))
  refine a0J ?_;intro W3 hW3;have hd3:jB w2 W3:=by rw [hW3];exact a0C jR _
  have hx3:W3.heap[w2.heap.size]?=some (.cells #[.slice y.sA y.nd.smp.length y.sc,.slice y.pA y.nd.past.length y.pc,.int .i64 y.nd.pol.mn,.int .i64 y.nd.pol.mx,.int .i64 y.nd.pol.tg,.int .i64 y.nd.pol.tol,.int .i64 y.nd.pol.win,.int .i64 y.nd.pol.hold,.bool y.nd.ruled] 60 (0,0)):=by rw [hW3];exact heap_alloc_new _ _
  have HRX:=jH (jK hd3 HR2.out);have HBX:=jH (a0D HB2.out hd3);clear hW3 hd3;obtain ⟨b1,b2,b3⟩:=a0A jR hx3;obtain ⟨r1,r2,r3⟩:=a0A jR HRX.out;clear hx3
  rcases HRY.out with h9|h9
  all_goals (first|subst h9|rw [h9] at b1)
  all_goals go_wp2_with fail
  all_goals
      refine a0H ?_;intro W9 hW9;have hW9':W9=c0T W3 w.heap.size 0 [.int .i64 0,.int .i64 0,.int .i64 0,.int .i64 0,.int .i64 0]:=hW9;obtain ⟨t1,t2,t3,t4⟩:=a0M HRX.out [.int .i64 0,.int .i64 0,.int .i64 0,.int .i64 0,.int .i64 0] rfl W9 hW9';obtain ⟨a9,a8,a7⟩:=a0A jR t1;clear hW9 hW9';exact bodyPost_ret (v:=.tuple #[.agg #[.int .i64 0,.int .i64 0,.int .i64 0,.int .i64 0,.int .i64 0],.int .i64 5]) (by simp [results,Tryz.results23,go_sem,a9]) rfl ⟨rfl,HBX.out.trans (t4 _ (Nat.le_refl _))⟩
theorem c1N (M:Option Addr) (id:ByteArray) (x:It) (w:World) (hx:x.nd.ruled=true) (hl1:x.nd.smp.length≤1000000) (hl2:x.nd.past.length≤1000000) (hi:u0E x.nd.smp) (hp:x.nd.pol.ok)
    (CL:Hid (∀W,jB w W→Calls Tryz.prog 22 #[.pointer M,.string id] W (r0Q W (some x)))) :
    Calls Tryz.prog 23 #[.pointer M,.string id] w (jP w (.tuple #[.agg (c0U (o0G x.nd.pol x.nd.smp x.nd.past).1).toArray,.int .i64 (o0G x.nd.pol x.nd.smp x.nd.past).2])):=by
  obtain ⟨⟨a,er⟩,ha⟩:∃r,o0G x.nd.pol x.nd.smp x.nd.past=r:=⟨_,rfl⟩;have HCO:=jH (show ∀(y:It) W,y.nd=x.nd→d0J (fun _=>True) W y→Calls Tryz.prog 75 #[.agg #[.int .i64 y.nd.pol.mn,.int .i64 y.nd.pol.mx,.int .i64 y.nd.pol.tg,.int .i64 y.nd.pol.tol,.int .i64 y.nd.pol.win,.int .i64 y.nd.pol.hold],.slice y.sA y.nd.smp.length y.sc,.slice y.pA y.nd.past.length y.pc] W (jP W (.tuple #[.agg #[.int .i64 a.tick,.int .i64 a.load,.int .i64 a.want,.int .i64 a.repl,.int .i64 a.why],.int .i64 er])) from fun y W hy hin=>by
   have:=s0E y.nd.pol y.nd.smp y.nd.past _ _ W hin.1.1 hin.2.1 (by rw [hy];exact hl1) (by rw [hy];exact hl2) (by rw [hy];exact hi) (by rw [hy];exact hp);rw [show o0G y.nd.pol y.nd.smp y.nd.past=(a,er) by rw [hy];exact ha] at this;exact this)
  rw [ha];unfold c0U;dsimp only;unfold r0Q at CL;have HRU:=jH (show ∀y:It,y.nd=x.nd→y.nd.ruled=true from fun y hy=>by rw [hy];exact hx);clear hx hl1 hl2 hi hp ha
  go_enter Tryz.func23,Tryz.ntmps23
  go_upto_region 2 with (first
   | (go_at_call 22
      refine a0B ?_;intro W1 hW1;have hb1:jB w W1:=by rw [hW1];exact a0C jR _
      have HR1:=jH (show W1.heap[w.heap.size]?=some (.cells #[.int .i64 0,.int .i64 0,.int .i64 0,.int .i64 0,.int .i64 0] 44 (0,0)) by rw [hW1];exact heap_alloc_new _ _);have HB1:=jH hb1;clear hW1 hb1;refine (CL.out W1 HB1.out).mono ?_;rintro e w2 ⟨y,rfl,hy1,hy3,hb2⟩;have HR2:=jH (jK hb2 HR1.out);have HB2:=jH (a0D HB1.out hb2);have HY3:=jH hy3.load;have HRY:=jH (HRU.out y hy1);have HC2:=jH (fun W=>HCO.out y W hy1)
      unfold ldV ldC;clear hb2 hy3 hy1))
  refine a0J ?_;intro W3 hW3;have hd3:jB w2 W3:=by rw [hW3];exact a0C jR _
  have hx3:W3.heap[w2.heap.size]?=some (.cells #[.slice y.sA y.nd.smp.length y.sc,.slice y.pA y.nd.past.length y.pc,.int .i64 y.nd.pol.mn,.int .i64 y.nd.pol.mx,.int .i64 y.nd.pol.tg,.int .i64 y.nd.pol.tol,.int .i64 y.nd.pol.win,.int .i64 y.nd.pol.hold,.bool y.nd.ruled] 60 (0,0)):=by rw [hW3];exact heap_alloc_new _ _
  have HR3:=jH (jK hd3 HR2.out);have HB3:=jH (a0D HB2.out hd3);have HY4:=jH ((HY3.out.below hd3).imp (fun b hb=>True.intro));clear hW3 hd3;obtain ⟨b1,b2,b3⟩:=a0A jR hx3;clear hx3;rw [HRY.out] at b1
  go_wp2_with (first
   | (go_at_call 75
      refine (HC2.out W3 HY4.out).mono ?_;rintro e w4 ⟨rfl,hb4⟩;have HRX:=jH (jK hb4 HR3.out);have HBX:=jH (a0D HB3.out hb4);obtain ⟨r1,r2,r3⟩:=a0A jR HRX.out;clear hb4 b1 b2 b3))
  refine a0H ?_;intro W9 hW9;have hW9':W9=c0T w4 w.heap.size 0 [.int .i64 a.tick,.int .i64 a.load,.int .i64 a.want,.int .i64 a.repl,.int .i64 a.why]:=hW9;obtain ⟨t1,t2,t3,t4⟩:=a0M HRX.out [.int .i64 a.tick,.int .i64 a.load,.int .i64 a.want,.int .i64 a.repl,.int .i64 a.why] rfl W9 hW9';obtain ⟨a9,a8,a7⟩:=a0A jR t1;clear hW9 hW9';exact bodyPost_ret (v:=.tuple #[.agg #[.int .i64 a.tick,.int .i64 a.load,.int .i64 a.want,.int .i64 a.repl,.int .i64 a.why],.int .i64 er]) (by simp [results,Tryz.results23,go_sem,a9]) rfl ⟨rfl,HBX.out.trans (t4 _ (Nat.le_refl _))⟩
def k1Q (o:Option It):c1C:=match o with
 | none=>a0R 5
 | some x=>match x.nd.past.getLast? with
   | none=>a0R 0
   | some a=>⟨0,0,0,st0,a⟩
theorem b1Z {P:Nat→Prop} {M:Nat} {c:Cfg} {rs rh n:Nat} {wd:Wd} {d:b0J} (s:SK) (w:World) (h:c0L P w M c rs rh n wd d) (hl:∀p∈d.es,p.2.nd.past.length≤1000000) :
 Calls Tryz.prog 64 #[.pointer (some ⟨M,0,none⟩),.string s.1] w (jP w (a0X (k1Q (a0L d.es s)))):=by
 obtain ⟨o,ho⟩:∃o,o=a0L d.es s:=⟨_,rfl⟩;rw [←ho];have hx:d0J (fun b=>P b∨False) w (o.getD o0K)∧(o.getD o0K).nd.past.length≤1000000:=by
  cases hf:o with
  | none=>exact ⟨⟨d0G.nil,d0G.nil⟩,by decide⟩
  | some x =>
    rw [hf] at ho;have hm:=b0B ho.symm;exact ⟨(h.rows _ hm).imp (fun b hb=>.inl hb),hl _ hm⟩
 have hlk:=fun (W:World) (hW:jB w W)=>i0U h.map s true (hW.block d.L h.map.lt)
 rw [←ho,←k0X,←ho] at hlk;have HC:=jH h.cell;obtain ⟨r,hr⟩:∃r,r=k1Q o:=⟨_,rfl⟩;rw [←hr];obtain ⟨x,hxx⟩:∃x,x=o.getD o0K:=⟨_,rfl⟩;rw [←hxx] at hx hlk;unfold ldV ldC at hlk;simp only [↓reduceIte] at hlk
 obtain ⟨ob,hob⟩:∃b,b=o.isSome:=⟨_,rfl⟩;rw [←hob] at hlk;have HRR:=jH (show (ob=false→r=a0R 5)∧(ob=true→r=match x.nd.past.getLast? with|none=>a0R 0|some a=>⟨0,0,0,st0,a⟩) by
  rw [hob,hr,hxx]
  cases o with
  | none=>exact ⟨fun _=>rfl,(fun h=>nomatch h)⟩
  | some z=>exact ⟨(fun h=>nomatch h),fun _=>rfl⟩)
 have HLK:=jH hlk;have HP:=jH hx.1.2.1;have HPL:=jH hx.2;clear h hl hx ho hlk hxx hob hr
 go_enter Tryz.func64,Tryz.ntmps64
 go_upto_region 1 with fail
 refine a0J ?_;intro W1 hW1;have HB1:=jH (show jB w W1 by rw [hW1];exact a0C jR _);have HR1:=jH (show W1.heap[w.heap.size]?=some (.cells #[.int .i64 0,.int .i64 0,.int .i64 0,.int .i64 0,.int .i64 0,.int .i64 0,.int .i64 0,.int .i64 0,.int .i64 0,.int .i64 0,.int .i64 0,.int .i64 0,.int .i64 0] 46 (0,0)) by rw [hW1];exact heap_alloc_new _ _);clear hW1;obtain ⟨a1,a2,a3⟩:=a0A HB1.out HC.out
 have hq:=HLK.out W1 HB1.out
 go_upto_region 2 with fail
 refine a0J ?_;intro W3 hW3;have hd3:jB W1 W3:=by rw [hW3];exact a0C jR _
 have hx3:W3.heap[W1.heap.size]?=some (.cells #[.slice x.sA x.nd.smp.length x.sc,.slice x.pA x.nd.past.length x.pc,.int .i64 x.nd.pol.mn,.int .i64 x.nd.pol.mx,.int .i64 x.nd.pol.tg,.int .i64 x.nd.pol.tol,.int .i64 x.nd.pol.win,.int .i64 x.nd.pol.hold,.bool x.nd.ruled] 60 (0,0)):=by rw [hW3];exact heap_alloc_new _ _
 have HR3:=jH (jK hd3 HR1.out);have HB3:=jH (a0D HB1.out hd3);clear hW3 hd3 a1 a2 a3 hq;obtain ⟨b1,b2,b3⟩:=a0A jR hx3;obtain ⟨r1,r2,r3⟩:=a0A jR HR3.out;clear hx3;have fin:∀(rp:c1C) (W9:World),W9=c0T W3 w.heap.size 0 (b0E rp)→W9.heap[w.heap.size]?=some (.cells (b0E rp).toArray 46 (0,0))∧jB w W9:=fun rp W9 hW9=>by
  obtain ⟨t1,t2,t3,t4⟩:=a0M HR3.out (b0E rp) rfl W9 hW9;exact ⟨t1,HB3.out.trans (t4 _ (Nat.le_refl _))⟩
 have HFIN:=jH fin;clear fin
 cases ob
 · have HR:=jH (HRR.out.1 rfl)
   go_wp2_with fail
   refine a0H ?_;intro W9 hW9;obtain ⟨t1,hb9⟩:=HFIN.out (a0R 5) W9 hW9;obtain ⟨a9,a8,a7⟩:=a0A jR t1;clear hW9;exact bodyPost_ret (v:=a0X (a0R 5)) (by simp [results,Tryz.results64,go_sem,a9,a0X,b0E,a0R,st0,b0O]) rfl ⟨by rw [HR.out],hb9⟩
 · have HR:=jH (HRR.out.2 rfl)
   by_cases h0:x.nd.past.length=0
   · have hnil:x.nd.past=[]:=List.eq_nil_of_length_eq_zero h0
     have HR2:=jH (show r=a0R 0 by rw [HR.out,hnil];rfl);rw [h0] at b1;clear hnil;go_wp2_with fail
     refine a0H ?_;intro W9 hW9;obtain ⟨t1,hb9⟩:=HFIN.out (a0R 0) W9 hW9;obtain ⟨a9,a8,a7⟩:=a0A jR t1;clear hW9;exact bodyPost_ret (v:=a0X (a0R 0)) (by simp [results,Tryz.results64,go_sem,a9,a0X,b0E,a0R,st0,b0O]) rfl ⟨by rw [HR2.out],hb9⟩
   · have hpos:0<x.nd.past.length:=by omega
     obtain ⟨m,hm⟩:∃m,m=x.nd.past.length - 1:=⟨_,rfl⟩;have hlt:m<x.nd.past.length:=by omega
     obtain ⟨bb,o2,hA,hbb,hcc⟩:=HP.out.at_ hlt;have HR2:=jH (show r=⟨0,0,0,st0,x.nd.past[m]⟩ by
      rw [HR.out,n0U hpos];simp only [hm])
     have c0:=(HB3.out.cell (p:=⟨bb,_,none⟩) hbb).trans (hcc 0 _ rfl);have c1:=(HB3.out.cell (p:=⟨bb,_,none⟩) hbb).trans (hcc 1 _ rfl);have c2:=(HB3.out.cell (p:=⟨bb,_,none⟩) hbb).trans (hcc 2 _ rfl);have c3:=(HB3.out.cell (p:=⟨bb,_,none⟩) hbb).trans (hcc 3 _ rfl);have c4:=(HB3.out.cell (p:=⟨bb,_,none⟩) hbb).trans (hcc 4 _ rfl);rw [Nat.add_zero] at c0;generalize x.nd.past[m]=a at c0 c1 c2 c3 c4 HR2
     rw [hA] at b1;have hpl:=HPL.out;have z9:¬((x.nd.past.length:Nat):Int)=0:=by omega
     have z7:(((x.nd.past.length:Nat):Int) == 0)=false:=beq_eq_false_iff_ne.2 z9;have hw:wrap64 ((m:Nat):Int)=(m:Nat):=by unfold wrap64;omega
     have hw2:((x.nd.past.length:Nat) - 1:Int)=(m:Nat):=by omega
     have z1:(0:Int)≤(m:Int):=by omega
     have z2:(m:Int)<(x.nd.past.length:Int):=by omega
     generalize x.nd.past.length=pl at b1 z9 z7 hw2 z2;clear hA hcc hm hlt hpos h0 hpl;go_wp2_with fail
     refine a0H ?_;intro W9 hW9;obtain ⟨t1,hb9⟩:=HFIN.out ⟨0,0,0,st0,a⟩ W9 hW9;obtain ⟨a9,a8,a7⟩:=a0A jR t1;clear hW9;exact bodyPost_ret (v:=a0X ⟨0,0,0,st0,a⟩) (by simp [results,Tryz.results64,go_sem,a9,a0X,b0E,a0R,st0,b0O]) rfl ⟨by rw [HR2.out],hb9⟩
theorem h0X {P:Nat→Prop} {M:Nat} {c:Cfg} {rs rh n:Nat} {wd:Wd} {d:b0J} (k:Int) (w:World) (h:c0L P w M c rs rh n wd d) (hl:wd.cuts.length≤900000) (hep:∀q∈wd.cuts,0≤q.ep) :
 Calls Tryz.prog 133 #[.pointer (some ⟨M,0,none⟩),.int .i64 k] w fun e w'=>e=.returned (.int .i64 (b0U (c0I wd) k))∧w'=w:=by
 obtain ⟨a1,a2,a3⟩:=a0A jR h.cell;have htl:(c0I wd).length=d.cuts.length:=by rw [h.len];simp [c0I]
 by_cases hk:k<1∨((c0I wd).length:Nat)<k
 · rw [h0H hk]
   rw [htl] at hk;clear h hl hep htl
   by_cases h1:k<1
   · go_enter Tryz.func133,Tryz.ntmps133
     go_wp2_with fail
     go_ret
     exact ⟨rfl,rfl⟩
   · have h2:(d.cuts.length:Int)<k:=by omega
     clear hk
     go_enter Tryz.func133,Tryz.ntmps133
     go_wp2_with fail
     go_ret
     exact ⟨rfl,rfl⟩
 · obtain ⟨j,hj,rfl⟩:∃j:Nat,j<d.cuts.length∧k=((j+1:Nat):Int):=⟨k.toNat - 1,by omega,by omega⟩
   have hjw:j<wd.cuts.length:=by rw [←h.len];exact hj
   obtain ⟨b,o,hA,hb,hc⟩:=h.row.1.at_ hj;have c2:=hc 2 _ rfl;have hct:=(h.cut j _ _ (List.getElem?_eq_getElem hj) (List.getElem?_eq_getElem hjw)).1;have hr:b0U (c0I wd) ((j+1:Nat):Int)=if d.cuts[j].fr=true then 8 else 0:=by
    unfold b0U;rw [if_neg (by rw [htl];omega),show ((j+1:Nat):Int).toNat - 1=j by omega];have:(c0I wd)[j]?=some (if wd.cuts[j].freed=true then -1 else wd.cuts[j].ep):=by
     unfold c0I;rw [List.getElem?_map,List.getElem?_eq_getElem hjw];rfl
    rw [this,hct];have:=hep _ (List.getElem_mem hjw)
    cases wd.cuts[j].freed with
    | true=>rfl
    | false =>
      show (if wd.cuts[j].ep<0 then (8:Int) else 0)=_
      rw [if_neg (by omega)];rfl
   rw [hr];generalize d.cuts[j].fr=fr at c2;rw [hA] at a1;have hjm:j≤900000:=by omega
   obtain ⟨cl,hcl⟩:∃n,n=d.cuts.length:=⟨_,rfl⟩;rw [←hcl] at a1;have z1:¬((j:Int)+1)<1:=by omega
   have z2:¬(cl:Int)<((j:Int)+1):=by omega
   have z3:(0:Int)≤(j:Int):=by omega
   have z4:(j:Int)<(cl:Int):=by omega
   have z5:((j:Int)+1) - 1=(j:Int):=by omega
   clear h hl hep htl hk hc hct hr hA hcl hj hjw
   cases fr
   all_goals
     go_enter Tryz.func133,Tryz.ntmps133
     go_wp2_with fail
     go_ret
     exact ⟨rfl,rfl⟩
end
end Go.Proofs.YtmniiodpbebnmaaGreat
