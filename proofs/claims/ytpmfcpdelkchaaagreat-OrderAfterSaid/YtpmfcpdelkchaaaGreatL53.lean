/- Part 53 of the proof: OrdTd. -/
import Derived.Test.YtpmfcpdelkchaaaGreatL38
namespace Go.Proofs.YtpmfcpdelkchaaaGreat
set_option linter.unusedSimpArgs false
set_option linter.unusedVariables false
set_option linter.unusedSectionVars false
set_option maxRecDepth 100000
set_option maxHeartbeats 16000000
section
open Go.RowKit Go.Lib
theorem told35_any {P Q:Nat→Prop} {w:World} {M:Nat} {c:Cfg} {rs rh n:Nat} {d:FlatD} (x:WdH) (h:FW P w M c rs rh n (absW x) d) (hc:CfgOk c rs rh) (hQ:∀b,w.heap.size≤b→Q b) (hx:WdIn Q w x) (v:Value) (l:List ByteArray) (hv:RowIn 1 idC w v l) (hl:l.length≤1000) (hm:∀s∈l,s.size≤maxLen) (hkeys:∀p∈d.es,p.1.1∈l) :
 Calls Tryz.prog 47 #[.pointer (some ⟨M,0,none⟩),.agg (wdC c x).toArray,v] w (jP w (.bool true)):=by
 obtain ⟨A,cp,rfl⟩:=hv.form;have hst:=okSt_bd _ hc.st;obtain ⟨f1,f2,f3⟩:=wd_facts h.ok hst.2;have hlen:d.es.length=(allX x).length:=by rw [h.at_.tells.len hc.st,←allX_abs,List.length_map]
 have hids:refI (fun id=>(loadW (absW x) id).isSome && idS id) l=idsF d.es:=by
  refine refI_idsF h.at_.tells.nod (fun s hs=>?_) hkeys
  constructor
  · intro hb
    rw [Bool.and_eq_true] at hb;have h1:=h.at_.tells.is ⟨s,hm s hs⟩ hb.2;rw [hb.1,hasM_iff] at h1;obtain ⟨p,hp,he⟩:=List.mem_map.1 h1;exact ⟨p,hp,by rw [he]⟩
  · rintro ⟨p,hp,rfl⟩
    have h0:=h.at_.tells.has.1 p hp;have h1:=h.at_.tells.is p.1 h0;rw [(hasM_iff _ _).2 (List.mem_map.2 ⟨p,hp,rfl⟩)] at h1;rw [←h1,h0];rfl
 have CI:=jH (fun W (hW:jB w W)=>ids22_any Q c rs rh n x _ l W (fun b hb=>hQ b (Nat.le_trans hW.size hb)) (hx.below hW) hst.2 h.ok (hv.below hW) hl hm);rw [hids] at CI;have CF:=jH (fun W (hW:jB w W)=>flIds_any W (h.below hW).at_.toFlMem (by rw [hlen];omega));have CC:=jH (fun W (hW:jB w W)=>count22_any Q c x W (fun b hb=>hQ b (Nat.le_trans hW.size hb)) (hx.below hW) f1 (by omega));rw [←hlen,←idsF_len] at CC
 have CT:=jH (fun W (u1 u2:Value) (h1:RowIn 1 idC W u1 (idsF d.es)) (h2:RowIn 1 idC W u2 (idsF d.es))=>texts22_any u1 u2 _ W h1 h2 (by rw [idsF_len,hlen];omega));have HSM:=jH (h.small hc)
 have CL:=jH (fun (s:ByteArray) (hs:s∈idsF d.es)=>show ∃(nd:Nd) (z:It),(z.nd.smp=nd.smp∧z.nd.past=nd.past∧z.nd.pol=nd.pol∧z.nd.ruled=nd.ruled)∧nd.smp.length≤1000000∧nd.past.length≤1000000∧RowIn 2 smpC w (.slice z.sA z.nd.smp.length z.sc) z.nd.smp∧RowIn 5 advC w (.slice z.pA z.nd.past.length z.pc) z.nd.past ∧
     (∀W,jB w W→Calls Tryz.prog 97 #[.pointer (some ⟨M,0,none⟩),.string s] W fun e w'=>∃y:It,e=.returned (.tuple #[ldV y,.bool true])∧y.nd=nd∧LoadOwn W.heap.size w' y∧jB W w') ∧
     (∀W,jB w W→Calls Tryz.prog 75 #[.agg (wdC c x).toArray,.string s] W (jP W (.tuple #[.agg #[.slice z.sA z.nd.smp.length z.sc,.slice z.pA z.nd.past.length z.pc,.int .i64 z.nd.pol.mn,.int .i64 z.nd.pol.mx,.int .i64 z.nd.pol.tg,.int .i64 z.nd.pol.tol,.int .i64 z.nd.pol.win,.int .i64 z.nd.pol.hold,.bool z.nd.ruled,.int .i64 (z.nd.ver:Nat)],.bool true]))) by
   obtain ⟨p,hp,rfl⟩:=mem_idsF.1 hs;have h0:=h.at_.tells.has.1 p hp;have h1:=h.at_.tells.load p.1 h0;rw [findM_self h.at_.tells.nod hp] at h1;obtain ⟨y0,hy0,a1,a2,a3,a4⟩:=h1;obtain ⟨z,b,hz,hin,hcl⟩:=load21_at Q c rs rh n x p.1.1 w hQ hx hst.2 h.ok p.1.2;rw [hy0] at hz
   cases b with
   | false=>cases hz
   | true =>
     simp only [if_true,Option.some.injEq] at hz
     subst hz;obtain ⟨r1,r2,_⟩:=hin rfl;refine ⟨p.2.nd,z,⟨a1.symm,a2.symm,a3.symm,a4.symm⟩,(h.small hc p hp).1,(h.small hc p hp).2,r1,r2,fun W hW=>?_,fun W hW=>hcl W hW⟩;have h2:=flLoad_any p.1 W (h.below hW).at_ (h.small hc);rw [findM_self h.at_.tells.nod hp] at h2;exact h2)
 obtain ⟨ids,hidl⟩:∃r,r=idsF d.es:=⟨_,rfl⟩;rw [←hidl] at CI CF CC CT CL;have hil:ids.length≤16384:=by rw [hidl,idsF_len,hlen];exact f2
 clear h hc hQ hx hv hl hm hkeys hst f1 f2 f3 hlen hids hidl;unfold wdC at CI CC CL ⊢
 go_enter Tryz.func47,Tryz.ntmps47
 go_upto_region 1 with fail
 refine name_world ?_;intro W0 hW0;have HB0:=jH (show jB w W0 by rw [hW0];exact balloc jR _);have HX0:=jH (show W0.heap[w.heap.size]?=some (.cells #[.int .i64 c.st,.int .i64 c.sa,.int .i64 c.lo,.int .i64 c.hi,.slice x.sA x.st.length x.sc,.slice x.cA x.cuts.length x.cc,.int .i64 x.ep,.bool x.over] 32 (0,0)) by rw [hW0];exact heap_alloc_new _ _);clear hW0;obtain ⟨b1,b2,b3⟩:=box_cells jR HX0.out
 go_wp2_with (first
  | (go_at_call 73
     refine (CI.out W0 HB0.out).mono ?_;rintro e w1 ⟨v1,rfl,ho1,hb⟩;obtain ⟨A1,c1,rfl⟩:=ho1.form;have HO1:=jH (ho1.row eId);have HB1:=jH (bthen HB0.out hb);have HX1:=jH (jK hb HX0.out);clear ho1 hb b1 b2 b3)
  | (go_at_call 69
     refine (CF.out w1 HB1.out).mono ?_;rintro e w2 ⟨A2,c2,rfl,ho2,hb⟩;have HO2:=jH (ho2.row eId);have HO12:=jH (HO1.out.below hb);have HB2:=jH (bthen HB1.out hb);have HX2:=jH (jK hb HX1.out);clear ho2 hb)
  | (go_at_call 21
     refine (CT.out w2 _ _ HO2.out HO12.out).mono ?_;rintro e w3 ⟨rfl,hb⟩;have HO13:=jH (HO12.out.below hb);have HB3:=jH (bthen HB2.out hb);have HX3:=jH (jK hb HX2.out);obtain ⟨b1,b2,b3⟩:=box_cells jR HX3.out;clear hb)
  | (go_at_call 96
     refine (CC.out w3 HB3.out).mono ?_;rintro e w4 ⟨rfl,hb⟩;have HO14:=jH (HO13.out.below hb);have HB4:=jH (bthen HB3.out hb);have HX4:=jH (jK hb HX3.out);clear hb b1 b2 b3))
 go_loopg [31] ids.length (fun g s31 wr=>∃k:Nat,k≤ids.length∧ids.length - k≤g∧s31=.int .i64 k∧jB w4 wr)
 case atStart=>exact ⟨0,Nat.zero_le _,Nat.le_refl _,rfl,jR⟩
 case round =>
  obtain ⟨k,hk,hg,rfl,hb⟩:=hrel;rename World=>wr
  have HB:=jH hb;clear hb
  by_cases hlt:k<ids.length
  · obtain ⟨b4,o4,rfl,hb4,hc4⟩:=HO14.out.at_ hlt
    have z1:(0:Int)≤(k:Int):=by omega
    have z2:(k:Int)<(ids.length:Int):=by omega
    obtain ⟨nd,z,⟨e1,e2,e3,e4⟩,l1,l2,r1,r2,q1,q2⟩:=CL.out _ (List.getElem_mem hlt);generalize ids[k]=s at hc4 q1 q2;have rdo:wr.cell? ⟨b4,o4+k,none⟩=some (.string s):=by
     have h9:=hc4 0 _ rfl;rw [Nat.add_zero,Nat.mul_one] at h9;exact (HB.out.cell (p:=⟨b4,_,none⟩) hb4).trans h9
    have Q1:=jH q1;have Q2:=jH q2;have R1:=jH r1;have R2:=jH r2;have HXr:=jH (jK HB.out HX4.out);have HBr:=jH (bthen HB4.out HB.out);obtain ⟨zk,zA,zc,zP,zpc,⟨zpol,zr,zv,zs,zp,zf⟩⟩:=z;dsimp only at e1 e2 e3 e4 R1 R2 Q2;subst e1 e2 e3 e4;clear hc4 q1 q2 r1 r2
    go_upto_region 8 with (first
     | (go_at_call 97
        refine (Q1.out wr HBr.out).mono ?_;rintro e w5 ⟨y,rfl,hy1,hy2,hb⟩;unfold ldV ldC;subst hy1;have HY2:=jH hy2;have HB5:=jH hb;clear hy2 hb rdo))
    refine name_world ?_;intro U hU;have hdU:jB w5 U:=by rw [hU];exact balloc jR _
    have HYU:=jH (show U.heap[w5.heap.size]?=some (.cells #[.slice y.sA y.nd.smp.length y.sc,.slice y.pA y.nd.past.length y.pc,.int .i64 y.nd.pol.mn,.int .i64 y.nd.pol.mx,.int .i64 y.nd.pol.tg,.int .i64 y.nd.pol.tol,.int .i64 y.nd.pol.win,.int .i64 y.nd.pol.hold,.bool y.nd.ruled] 50 (0,0)) by rw [hU];exact heap_alloc_new _ _);have HBU:=jH (bthen HB5.out hdU);have HYR:=jH (And.intro (((HY2.out.1.row eSmp)).below hdU) (((HY2.out.2.row eAdv)).below hdU))
    have HXU:=jH (jK HBU.out HXr.out);obtain ⟨x1,x2,x3⟩:=box_cells jR HXU.out;clear hU hdU
    go_upto_region 9 with (first
     | (go_at_call 75
        refine (Q2.out U (bthen HBr.out HBU.out)).mono ?_;rintro e w6 ⟨rfl,hb⟩;have HB6:=jH hb;clear hb x1 x2 x3))
    refine name_world ?_;intro T hT;have hdT:jB U T:=by rw [hT];exact bthen HB6.out (balloc jR _)
    have HZT:=jH (show T.heap[w6.heap.size]?=some (.cells #[.slice zA y.nd.smp.length zc,.slice zP y.nd.past.length zpc,.int .i64 y.nd.pol.mn,.int .i64 y.nd.pol.mx,.int .i64 y.nd.pol.tg,.int .i64 y.nd.pol.tol,.int .i64 y.nd.pol.win,.int .i64 y.nd.pol.hold,.bool y.nd.ruled,.int .i64 (zv:Nat)] 48 (0,0)) by rw [hT];exact heap_alloc_new _ _);have HYT:=jH (jK hdT HYU.out);have HYS:=jH (And.intro (HYR.out.1.below hdT) (HYR.out.2.below hdT))
    have HZS:=jH (And.intro (R1.out.below (bthen HBr.out (bthen HBU.out hdT))) (R2.out.below (bthen HBr.out (bthen HBU.out hdT))));have HBT:=jH (bthen HBU.out hdT);obtain ⟨y1,y2,y3⟩:=box_cells jR HYT.out;obtain ⟨t1,t2,t3⟩:=box_cells jR HZT.out;clear hT hdT Q1 Q2 CL CT CC CF CI
    go_wp2_with (first
     | (go_at_call 25
        refine (r8same_any _ _ y.nd.smp T HYS.out.1 HZS.out.1 l1).mono ?_;rintro e w7 ⟨rfl,hb⟩;have HB7:=jH hb;have HY7:=jH (jK hb HYT.out);have HZ7:=jH (jK hb HZT.out);clear y1 y2 y3 t1 t2 t3;obtain ⟨y1,y2,y3⟩:=box_cells jR HY7.out;obtain ⟨t1,t2,t3⟩:=box_cells jR HZ7.out;clear hb)
     | (go_at_call 78
        refine (r14same_any _ _ y.nd.past w7 (HYS.out.2.below HB7.out) (HZS.out.2.below HB7.out) l2).mono ?_;rintro e w8 ⟨rfl,hb⟩;have HB8:=jH (bthen HB7.out hb);have HY8:=jH (jK hb HY7.out);have HZ8:=jH (jK hb HZ7.out);clear y1 y2 y3 t1 t2 t3;obtain ⟨y1,y2,y3⟩:=box_cells jR HY8.out;obtain ⟨t1,t2,t3⟩:=box_cells jR HZ8.out;clear hb))
    go_roundg (ids.length - (k+1))
    case measure=>omega
    case rel=>exact ⟨k+1,hlt,Nat.le_refl _,by go_num,bthen HB.out (bthen HBT.out HB8.out)⟩
  · obtain rfl:k=ids.length:=by omega
    have z1:¬(ids.length:Int)<(ids.length:Int):=by omega
    go_wp2_with fail
    go_ret
    exact ⟨rfl,bthen HB4.out HB.out⟩
end
end Go.Proofs.YtpmfcpdelkchaaaGreat
