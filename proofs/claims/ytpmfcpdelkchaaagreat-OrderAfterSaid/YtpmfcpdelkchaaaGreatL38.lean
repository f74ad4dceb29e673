/- Part 38 of the proof: FlTd, FlTw, FlWd, FlDecP. -/
import Derived.Test.YtpmfcpdelkchaaaGreatL35
import Derived.Test.YtpmfcpdelkchaaaGreatL37
namespace Go.Proofs.YtpmfcpdelkchaaaGreat
set_option linter.unusedSimpArgs false
set_option linter.unusedVariables false
set_option linter.unusedSectionVars false
set_option maxRecDepth 100000
set_option maxHeartbeats 16000000
section
open Go.RowKit Go.Lib
theorem count22_any (P:Nat→Prop) (c:Cfg) (x:WdH) (w:World) (hP:∀b,w.heap.size≤b→P b) (hx:WdIn P w x) (hl:x.st.length≤64) (hn:(allX x).length≤1000000) :
 Calls Tryz.prog 96 #[.agg (wdC c x).toArray] w (jP w (.int .i64 (((allX x).length:Nat):Int))):=by
 have CA:=jH (fun W (hW:jB w W)=>all21_any P c x W (fun b hb=>hP b (Nat.le_trans hW.size hb)) (hx.below hW) hl hn);clear hP hx hl hn;unfold wdC AllSays at CA;unfold wdC;generalize allX x=all at CA
 go_enter Tryz.func96,Tryz.ntmps96
 go_wp2_with (first
  | (go_at_call 131
     refine calls_named ?_;intro W1 hW1;have HB1:=jH (show jB w W1 by rw [hW1];exact balloc jR _);clear hW1;refine (CA.out W1 HB1.out).mono ?_;rintro e w2 ⟨A,cp,rfl,_,hb⟩;have HB2:=jH (bthen HB1.out hb);clear hb))
 go_ret
 exact ⟨rfl,HB2.out⟩
theorem told22_any {P Q:Nat→Prop} {w:World} {M:Nat} {c:Cfg} {rs rh n:Nat} {d:FlatD} (x:WdH) (h:FW P w M c rs rh n (absW x) d) (hc:CfgOk c rs rh) (hQ:∀b,w.heap.size≤b→Q b) (hx:WdIn Q w x) (v:Value) (l:List ByteArray) (hv:RowIn 1 idC w v l) (hl:l.length≤1000) (hm:∀s∈l,s.size≤maxLen) (hkeys:∀p∈d.es,p.1.1∈l) :
 Calls Tryz.prog 52 #[.pointer (some ⟨M,0,none⟩),.agg (wdC c x).toArray,v] w (jP w (.bool true)):=by
 obtain ⟨A,cp,rfl⟩:=hv.form;have hst:=okSt_bd _ hc.st;obtain ⟨f1,f2,f3⟩:=wd_facts h.ok hst.2;have hlen:d.es.length=(allX x).length:=by rw [h.at_.tells.len hc.st,←allX_abs,List.length_map]
 have hids:refI (fun id=>(loadW (absW x) id).isSome && idS id) l=idsF d.es:=by
  refine refI_idsF h.at_.tells.nod (fun s hs=>?_) hkeys
  constructor
  · intro hb
    rw [Bool.and_eq_true] at hb;have h1:=h.at_.tells.is ⟨s,hm s hs⟩ hb.2;rw [hb.1,hasM_iff] at h1;obtain ⟨p,hp,he⟩:=List.mem_map.1 h1;exact ⟨p,hp,by rw [he]⟩
  · rintro ⟨p,hp,rfl⟩
    have h0:=h.at_.tells.has.1 p hp;have h1:=h.at_.tells.is p.1 h0;rw [(hasM_iff _ _).2 (List.mem_map.2 ⟨p,hp,rfl⟩)] at h1;rw [←h1,h0];rfl
 have CI:=jH (fun W (hW:jB w W)=>ids22_any Q c rs rh n x _ l W (fun b hb=>hQ b (Nat.le_trans hW.size hb)) (hx.below hW) hst.2 h.ok (hv.below hW) hl hm);rw [hids] at CI;have CF:=jH (fun W (hW:jB w W)=>flIds_any W (h.below hW).at_.toFlMem (by rw [hlen];omega));have CC:=jH (fun W (hW:jB w W)=>count22_any Q c x W (fun b hb=>hQ b (Nat.le_trans hW.size hb)) (hx.below hW) f1 (by omega));rw [←hlen,←idsF_len] at CC
 have CT:=jH (fun W (u1 u2:Value) (h1:RowIn 1 idC W u1 (idsF d.es)) (h2:RowIn 1 idC W u2 (idsF d.es))=>texts22_any u1 u2 _ W h1 h2 (by rw [idsF_len,hlen];omega));have HSM:=jH (h.small hc)
 have CL:=jH (fun (s:ByteArray) (hs:s∈idsF d.es)=>show ∃(nd:Nd) (z:It),(z.nd.smp=nd.smp∧z.nd.past=nd.past∧z.nd.pol=nd.pol∧z.nd.ruled=nd.ruled)∧nd.smp.length≤1000000∧nd.past.length≤1000000∧RowIn 2 smpC w (.slice z.sA z.nd.smp.length z.sc) z.nd.smp∧RowIn 5 advC w (.slice z.pA z.nd.past.length z.pc) z.nd.past ∧
     (∀W,jB w W→Calls Tryz.prog 97 #[.pointer (some ⟨M,0,none⟩),.string s] W fun e w'=>∃y:It,e=.returned (.tuple #[ldV y,.bool true])∧y.nd=nd∧LoadOwn W.heap.size w' y∧jB W w') ∧
     (∀W,jB w W→Calls Tryz.prog 75 #[.agg (wdC c x).toArray,.string s] W (jP W (.tuple #[.agg #[.slice z.sA z.nd.smp.length z.sc,.slice z.pA z.nd.past.length z.pc,.int .i64 z.nd.pol.mn,.int .i64 z.nd.pol.mx,.int .i64 z.nd.pol.tg,.int .i64 z.nd.pol.tol,.int .i64 z.nd.pol.win,.int .i64 z.nd.pol.hold,.bool z.nd.ruled,.int .i64 (z.nd.ver:Nat)],.bool true]))) by
   obtain ⟨p,hp,rfl⟩:=mem_idsF.1 hs;have h0:=h.at_.tells.has.1 p hp;have h1:=h.at_.tells.load p.1 h0;rw [findM_self h.at_.tells.nod hp] at h1;obtain ⟨y0,hy0,a1,a2,a3,a4⟩:=h1;obtain ⟨z,b,hz,hin,hcl⟩:=load21_at Q c rs rh n x p.1.1 w hQ hx hst.2 h.ok p.1.2;rw [hy0] at hz
   cases b with
   | false=>cases hz
   | true =>
     simp only [if_true,Option.some.injEq] at hz
     subst hz;obtain ⟨r1,r2,_⟩:=hin rfl;refine ⟨p.2.nd,z,⟨a1.symm,a2.symm,a3.symm,a4.symm⟩,(h.small hc p hp).1,(h.small hc p hp).2,r1,r2,fun W hW=>?_,fun W hW=>hcl W hW⟩;have h2:=flLoad_any p.1 W (h.below hW).at_ (h.small hc);rw [findM_self h.at_.tells.nod hp] at h2;exact h2)
 obtain ⟨ids,hidl⟩:∃r,r=idsF d.es:=⟨_,rfl⟩;rw [←hidl] at CI CF CC CT CL;have hil:ids.length≤16384:=by rw [hidl,idsF_len,hlen];exact f2
 clear h hc hQ hx hv hl hm hkeys hst f1 f2 f3 hlen hids hidl;unfold wdC at CI CC CL ⊢
 go_enter Tryz.func52,Tryz.ntmps52
 go_upto_region 1 with fail
 refine name_world ?_;intro W0 hW0;have HB0:=jH (show jB w W0 by rw [hW0];exact balloc jR _);have HX0:=jH (show W0.heap[w.heap.size]?=some (.cells #[.int .i64 c.st,.int .i64 c.sa,.int .i64 c.lo,.int .i64 c.hi,.slice x.sA x.st.length x.sc,.slice x.cA x.cuts.length x.cc,.int .i64 x.ep,.bool x.over] 32 (0,0)) by rw [hW0];exact heap_alloc_new _ _);clear hW0;obtain ⟨b1,b2,b3⟩:=box_cells jR HX0.out
 go_wp2_with (first
  | (go_at_call 73
     refine (CI.out W0 HB0.out).mono ?_;rintro e w1 ⟨v1,rfl,ho1,hb⟩;obtain ⟨A1,c1,rfl⟩:=ho1.form;have HO1:=jH (ho1.row eId);have HB1:=jH (bthen HB0.out hb);have HX1:=jH (jK hb HX0.out);clear ho1 hb b1 b2 b3)
  | (go_at_call 69
     refine (CF.out w1 HB1.out).mono ?_;rintro e w2 ⟨A2,c2,rfl,ho2,hb⟩;have HO2:=jH (ho2.row eId);have HO12:=jH (HO1.out.below hb);have HB2:=jH (bthen HB1.out hb);have HX2:=jH (jK hb HX1.out);clear ho2 hb)
  | (go_at_call 21
     refine (CT.out w2 _ _ HO2.out HO12.out).mono ?_;rintro e w3 ⟨rfl,hb⟩;have HO13:=jH (HO12.out.below hb);have HB3:=jH (bthen HB2.out hb);have HX3:=jH (jK hb HX2.out);obtain ⟨b1,b2,b3⟩:=box_cells jR HX3.out;clear hb)
  | (go_at_call 96
     refine (CC.out w3 HB3.out).mono ?_;rintro e w4 ⟨rfl,hb⟩;have HO14:=jH (HO13.out.below hb);have HB4:=jH (bthen HB3.out hb);have HX4:=jH (jK hb HX3.out);clear hb b1 b2 b3))
 go_loopg [31] ids.length (fun g s31 wr=>∃k:Nat,k≤ids.length∧ids.length - k≤g∧s31=.int .i64 k∧jB w4 wr)
 case atStart=>exact ⟨0,Nat.zero_le _,Nat.le_refl _,rfl,jR⟩
 case round =>
  obtain ⟨k,hk,hg,rfl,hb⟩:=hrel;rename World=>wr
  have HB:=jH hb;clear hb
  by_cases hlt:k<ids.length
  · obtain ⟨b4,o4,rfl,hb4,hc4⟩:=HO14.out.at_ hlt
    have z1:(0:Int)≤(k:Int):=by omega
    have z2:(k:Int)<(ids.length:Int):=by omega
    obtain ⟨nd,z,⟨e1,e2,e3,e4⟩,l1,l2,r1,r2,q1,q2⟩:=CL.out _ (List.getElem_mem hlt);generalize ids[k]=s at hc4 q1 q2;have rdo:wr.cell? ⟨b4,o4+k,none⟩=some (.string s):=by
     have h9:=hc4 0 _ rfl;rw [Nat.add_zero,Nat.mul_one] at h9;exact (HB.out.cell (p:=⟨b4,_,none⟩) hb4).trans h9
    have Q1:=jH q1;have Q2:=jH q2;have R1:=jH r1;have R2:=jH r2;have HXr:=jH (jK HB.out HX4.out);have HBr:=jH (bthen HB4.out HB.out);obtain ⟨zk,zA,zc,zP,zpc,⟨zpol,zr,zv,zs,zp,zf⟩⟩:=z;dsimp only at e1 e2 e3 e4 R1 R2 Q2;subst e1 e2 e3 e4;clear hc4 q1 q2 r1 r2
    go_upto_region 8 with (first
     | (go_at_call 97
        refine (Q1.out wr HBr.out).mono ?_;rintro e w5 ⟨y,rfl,hy1,hy2,hb⟩;unfold ldV ldC;subst hy1;have HY2:=jH hy2;have HB5:=jH hb;clear hy2 hb rdo))
    refine name_world ?_;intro U hU;have hdU:jB w5 U:=by rw [hU];exact balloc jR _
    have HYU:=jH (show U.heap[w5.heap.size]?=some (.cells #[.slice y.sA y.nd.smp.length y.sc,.slice y.pA y.nd.past.length y.pc,.int .i64 y.nd.pol.mn,.int .i64 y.nd.pol.mx,.int .i64 y.nd.pol.tg,.int .i64 y.nd.pol.tol,.int .i64 y.nd.pol.win,.int .i64 y.nd.pol.hold,.bool y.nd.ruled] 50 (0,0)) by rw [hU];exact heap_alloc_new _ _);have HBU:=jH (bthen HB5.out hdU);have HYR:=jH (And.intro (((HY2.out.1.row eSmp)).below hdU) (((HY2.out.2.row eAdv)).below hdU))
    have HXU:=jH (jK HBU.out HXr.out);obtain ⟨x1,x2,x3⟩:=box_cells jR HXU.out;clear hU hdU
    go_upto_region 9 with (first
     | (go_at_call 75
        refine (Q2.out U (bthen HBr.out HBU.out)).mono ?_;rintro e w6 ⟨rfl,hb⟩;have HB6:=jH hb;clear hb x1 x2 x3))
    refine name_world ?_;intro T hT;have hdT:jB U T:=by rw [hT];exact bthen HB6.out (balloc jR _)
    have HZT:=jH (show T.heap[w6.heap.size]?=some (.cells #[.slice zA y.nd.smp.length zc,.slice zP y.nd.past.length zpc,.int .i64 y.nd.pol.mn,.int .i64 y.nd.pol.mx,.int .i64 y.nd.pol.tg,.int .i64 y.nd.pol.tol,.int .i64 y.nd.pol.win,.int .i64 y.nd.pol.hold,.bool y.nd.ruled,.int .i64 (zv:Nat)] 48 (0,0)) by rw [hT];exact heap_alloc_new _ _);have HYT:=jH (jK hdT HYU.out);have HYS:=jH (And.intro (HYR.out.1.below hdT) (HYR.out.2.below hdT))
    have HZS:=jH (And.intro (R1.out.below (bthen HBr.out (bthen HBU.out hdT))) (R2.out.below (bthen HBr.out (bthen HBU.out hdT))));have HBT:=jH (bthen HBU.out hdT);obtain ⟨y1,y2,y3⟩:=box_cells jR HYT.out;obtain ⟨t1,t2,t3⟩:=box_cells jR HZT.out;clear hT hdT Q1 Q2 CL CT CC CF CI
    go_wp2_with (first
     | (go_at_call 25
        refine (r8same_any _ _ y.nd.smp T HYS.out.1 HZS.out.1 l1).mono ?_;rintro e w7 ⟨rfl,hb⟩;have HB7:=jH hb;have HY7:=jH (jK hb HYT.out);have HZ7:=jH (jK hb HZT.out);clear y1 y2 y3 t1 t2 t3;obtain ⟨y1,y2,y3⟩:=box_cells jR HY7.out;obtain ⟨t1,t2,t3⟩:=box_cells jR HZ7.out;clear hb)
     | (go_at_call 78
        refine (r14same_any _ _ y.nd.past w7 (HYS.out.2.below HB7.out) (HZS.out.2.below HB7.out) l2).mono ?_;rintro e w8 ⟨rfl,hb⟩;have HB8:=jH (bthen HB7.out hb);have HY8:=jH (jK hb HY7.out);have HZ8:=jH (jK hb HZ7.out);clear y1 y2 y3 t1 t2 t3;obtain ⟨y1,y2,y3⟩:=box_cells jR HY8.out;obtain ⟨t1,t2,t3⟩:=box_cells jR HZ8.out;clear hb))
    go_roundg (ids.length - (k+1))
    case measure=>omega
    case rel=>exact ⟨k+1,hlt,Nat.le_refl _,by go_num,bthen HB.out (bthen HBT.out HB8.out)⟩
  · obtain rfl:k=ids.length:=by omega
    have z1:¬(ids.length:Int)<(ids.length:Int):=by omega
    go_wp2_with fail
    go_ret
    exact ⟨rfl,bthen HB4.out HB.out⟩
end
section
open Go.RowKit Go.Lib
def OffT (P:Nat→Prop) (T L b:Nat):Prop:=P b∧b≠T∧b≠L
theorem FW.twin {P:Nat→Prop} {w w':World} {M T L:Nat} {c:Cfg} {rs rh n:Nat} {wd:Wd} {d:FlatD} {A:Option Addr} {cp:Nat} (h:FW P w M c rs rh n wd d) (hb:jB w w') (hT:w.heap.size≤T) (hL:w.heap.size≤L) (hTL:T≠L)
    (hcell:w'.heap[T]?=some (.cells #[.int .i64 c.st,.int .i64 c.sa,.int .i64 c.lo,.int .i64 c.hi,.map (some L),.slice A d.cuts.length cp,.int .i64 wd.ep,.bool wd.over] 120 (0,0)))
    (hmap:MapIn skV ldV w' L d.es) (hrow:RowG (OffT P T L) 3 fcC w' (.slice A d.cuts.length cp) d.cuts) :
    FW (OffT P T L) w' M c rs rh n wd d∧FW (OffT P T L) w' T c rs rh n wd { d with L:=L,A:=A,cp:=cp }:=by
  have h1:FlatAt (OffT P T L) w' M c rs rh n wd d:=h.at_.keep hb.size (hb.block _ h.at_.lt) (hb.block _ h.at_.map.lt) (fun b hP hlt=>⟨hb.block b hlt,hP,by omega,by omega⟩) (fun b hb=>h.at_.off b hb.1);exact ⟨⟨h1,h.ok⟩,⟨⟨⟨hcell,hmap,hTL,fun b hb=>hb.2,h1.rows,h1.len,hrow,h1.cut⟩,h1.tells⟩,h.ok⟩⟩
theorem flTwin_any {P:Nat→Prop} {w:World} {M:Nat} {c:Cfg} {rs rh n:Nat} {wd:Wd} {d:FlatD} (h:FW P w M c rs rh n wd d) (hP:∀b,w.heap.size≤b→P b) (hl:d.cuts.length≤1000000) :
 Calls Tryz.prog 17 #[.pointer (some ⟨M,0,none⟩)] w fun e w'=>∃T d',e=.returned (.pointer (some ⟨T,0,none⟩))∧FW (OffT P T d'.L) w' M c rs rh n wd d∧FW (OffT P T d'.L) w' T c rs rh n wd d'∧w.heap.size≤T∧w.heap.size≤d'.L∧jB w w':=by
 have CM:=jH (flMade_any w h.at_);have CC:=jH (fun W (hW:jB w W)=>cloneF_any (.slice d.A d.cuts.length d.cp) d.cuts W (h.at_.row.1.below hW) hl);have CL:=jH (fun W (hW:jB w W)=>flMapClone d.L d.es W (h.at_.map.below hW));have HC:=jH h.at_.cell;have HLT:=jH h.at_.lt
 have HFIN:=jH (show ∀(W9:World) (T L:Nat) (A:Option Addr) (cp:Nat),jB w W9→w.heap.size≤T→w.heap.size≤L→T≠L→W9.heap[T]?=some (.cells #[.int .i64 c.st,.int .i64 c.sa,.int .i64 c.lo,.int .i64 c.hi,.map (some L),.slice A d.cuts.length cp,.int .i64 wd.ep,.bool wd.over] 120 (0,0))→MapIn skV ldV W9 L d.es→RowG (fun b=>w.heap.size≤b∧b≠T∧b≠L) 3 fcC W9 (.slice A d.cuts.length cp) d.cuts →
     ∃T' d',(Ending.returned (.pointer (some ⟨T,0,none⟩)))=.returned (.pointer (some ⟨T',0,none⟩))∧FW (OffT P T' d'.L) W9 M c rs rh n wd d∧FW (OffT P T' d'.L) W9 T' c rs rh n wd d'∧w.heap.size≤T'∧w.heap.size≤d'.L∧jB w W9 from fun W9 T L A cp hb h1 h2 h3 h4 h5 h6=>by
   obtain ⟨q1,q2⟩:=h.twin hb h1 h2 h3 h4 h5 (h6.imp (fun b hb=>⟨hP b hb.1,hb.2⟩));exact ⟨T,{ d with L:=L,A:=A,cp:=cp },rfl,q1,q2,h1,h2,hb⟩)
 obtain ⟨cuts,hcu⟩:∃l,l=d.cuts:=⟨_,rfl⟩;obtain ⟨A0,hA⟩:∃l,l=d.A:=⟨_,rfl⟩;obtain ⟨cp0,hcp⟩:∃l,l=d.cp:=⟨_,rfl⟩;obtain ⟨L0,hL⟩:∃l,l=d.L:=⟨_,rfl⟩;rw [←hcu] at HFIN CC HC;rw [←hA,←hcp] at CC HC;rw [←hL] at CL HC;obtain ⟨mn,hmn⟩:∃f:Ending→World→Prop,f=fun e w'=>∃T d',e=.returned (.pointer (some ⟨T,0,none⟩))∧FW (OffT P T d'.L) w' M c rs rh n wd d∧FW (OffT P T d'.L) w' T c rs rh n wd d'∧w.heap.size≤T∧w.heap.size≤d'.L∧jB w w':=⟨_,rfl⟩
 have HMN:=jH (show ∀e w',(∃T d',e=.returned (.pointer (some ⟨T,0,none⟩))∧FW (OffT P T d'.L) w' M c rs rh n wd d∧FW (OffT P T d'.L) w' T c rs rh n wd d'∧w.heap.size≤T∧w.heap.size≤d'.L∧jB w w')→mn e w' from fun e w' hh=>by rw [hmn];exact hh);rw [←hmn];obtain ⟨m1,m2,m3⟩:=box_cells jR HC.out;clear h hP hl hcu hA hcp hL hmn
 go_enter Tryz.func17,Tryz.ntmps17
 go_upto_region 4 with (first
  | (go_at_call 66
     refine CM.out.mono ?_;rintro e w1 ⟨rfl,rfl⟩))
 refine name_world ?_;intro W1 hW1;have hd1:jB w1 W1:=by rw [hW1];exact balloc jR _
 have HT1:=jH (show W1.heap[w1.heap.size]?=some (.cells #[.int .i64 c.st,.int .i64 c.sa,.int .i64 c.lo,.int .i64 c.hi,.map (some L0),.slice A0 cuts.length cp0,.int .i64 wd.ep,.bool wd.over] 120 (0,0)) by rw [hW1];exact heap_alloc_new _ _);have hs1:w1.heap.size<W1.heap.size:=by rw [hW1];simp
 have HS1:=jH hs1;have HD1:=jH hd1;have rm:∀U,jB w1 U→∀j,U.cell? ⟨M,j,none⟩=(#[.int .i64 c.st,.int .i64 c.sa,.int .i64 c.lo,.int .i64 c.hi,.map (some L0),.slice A0 cuts.length cp0,.int .i64 wd.ep,.bool wd.over]:Array Value)[j]?:=fun U hU j=>(box_cells hU HC.out).1 j
 have hS00:jB w1 W1:=hd1;have hS0:jB w1 W1.drew:=hd1.drew;clear hW1 hs1 hd1 m1 m2 m3
 go_region_held3 (fun U=>jB w1 U)
   (first
     | with_reducible exact hS0
     | with_reducible exact HB3.out
     | with_reducible exact HB2.out
     | (with_reducible refine Below.setCell ?_ (by exact Nat.le_refl _) _
        with_reducible exact HB3.out)
     | (with_reducible refine Below.setCell (Below.setCell ?_ (by exact Nat.le_refl _) _) (by exact Nat.le_refl _) _
        with_reducible exact HB3.out))
   (first
     | (go_at_call 67
        refine calls_named ?_;intro V hV;have hd:jB w1 V:=by rw [hV];first|exact hS0|exact hS00
        have hx:V.heap[w1.heap.size]?=some (.cells #[.int .i64 c.st,.int .i64 c.sa,.int .i64 c.lo,.int .i64 c.hi,.map (some L0),.slice A0 cuts.length cp0,.int .i64 wd.ep,.bool wd.over] 120 (0,0)):=by rw [hV];exact HT1.out
        have hlt:w1.heap.size<V.heap.size:=(jL hx);clear hV;refine (CL.out V hd).mono ?_;rintro e w2 ⟨rfl,hm,hb⟩;have HM2:=jH hm;have HB2:=jH (bthen hd hb);have HX2:=jH ((hb.block _ hlt).trans hx);have HV2:=jH (And.intro hlt hm.lt);clear hd hx hlt hm hb)
     | (go_at_call 68
        refine calls_named ?_;intro V3 hV3;have hd3:jB w2 V3:=by rw [hV3];first|exact jR|exact jR.drew
        clear hV3;refine (CC.out V3 (bthen HB2.out hd3)).mono ?_;rintro e w3 ⟨A9,c9,fp9,rfl,hq9,hf9,hb9⟩;have HQ3:=jH (own_srow (base:=V3.heap.size) hq9 hf9);have HB23:=jH (bthen hd3 hb9);have HB3:=jH (bthen HB2.out (bthen hd3 hb9));have HX3:=jH (jK HB23.out HX2.out);have HM3:=jH (HM2.out.below HB23.out);have HV3:=jH hd3.size;obtain ⟨y1,y2,y3⟩:=box_cells jR HX3.out;clear hq9 hf9 hb9 hd3))
 all_goals
   refine then_named ?_;intro W9 hW9;have hX9:W9.heap[w1.heap.size]?=some (.cells #[.int .i64 c.st,.int .i64 c.sa,.int .i64 c.lo,.int .i64 c.hi,.map (some V.heap.size),.slice A9 cuts.length c9,.int .i64 wd.ep,.bool wd.over] 120 (0,0)):=by rw [hW9];exact setCell_block (setCell_block HX3.out)
   have hk9:∀b,b≠w1.heap.size→W9.heap[b]?=w3.heap[b]?:=fun b hb=>by rw [hW9];exact (heap_set_ne rfl hb).trans (heap_set_ne rfl hb)
   have hB9:jB w1 W9:=by rw [hW9];exact Below.setCell (Below.setCell HB3.out (by exact Nat.le_refl _) _) (by exact Nat.le_refl _) _
   have hv:=HV2.out;have hv3:=HV3.out;have hne:V.heap.size≠w1.heap.size:=by omega
   have hM9:MapIn skV ldV W9 V.heap.size d.es:=HM3.out.block (hk9 _ hne);have hO9:OwnL fcC 128 3 V3.heap.size W9 (.slice A9 cuts.length c9) cuts:=HQ3.out.kept (fun r hr=>hk9 r (by have:=(HQ3.out.lt hr).1;omega));have hR9:RowG (fun b=>w1.heap.size≤b∧b≠w1.heap.size∧b≠V.heap.size) 3 fcC W9 (.slice A9 cuts.length c9) cuts:=RowG.ownQ eFc hO9 (fun r hr=>by have:=(hO9.lt hr).1;exact ⟨by omega,by omega,by omega⟩)
   have HEND:=jH (HMN.out _ _ (HFIN.out W9 w1.heap.size V.heap.size A9 c9 hB9 (Nat.le_refl _) (by omega) (fun e=>hne e.symm) hX9 hM9 hR9));clear hW9 hX9 hk9 hB9 hv hv3 hne hM9 hO9 hR9 y1 y2 y3;go_wp2_with fail
   exact HEND.out
end
section
open Go.RowKit Go.Lib
structure FlWd (own:List Nat) (w:World) (M L X:Nat) (c:Cfg) (rs rh n:Nat) (wd:Wd) (d:FlatD) (x:WdH):Prop where
 fw:FW (fun b=>b∉own) w M c rs rh n wd d
 l:d.L=L
 wo:WdIn (fun b=>b∉own) w x
 abs:absW x=wd
 box:w.heap[X]?=some (.cells (wdC c x).toArray 32 (0,0))
 mem:M∈own∧L∈own∧X∈own
 ne:M≠X∧L≠X
 lt:∀b∈own,b<w.heap.size
theorem FlWd.below {own:List Nat} {w w':World} {M L X:Nat} {c:Cfg} {rs rh n:Nat} {wd:Wd} {d:FlatD} {x:WdH} (h:FlWd own w M L X c rs rh n wd d x) (hb:jB w w'):FlWd own w' M L X c rs rh n wd d x :=
 ⟨h.fw.below hb,h.l,h.wo.below hb,h.abs,(hb.block _ (h.lt X h.mem.2.2)).trans h.box,h.mem,h.ne,fun b hq=>Nat.lt_of_lt_of_le (h.lt b hq) hb.size⟩
theorem FlWd.new {own:List Nat} {w:World} {M L X:Nat} {c:Cfg} {rs rh n:Nat} {wd:Wd} {d:FlatD} {x:WdH} (h:FlWd own w M L X c rs rh n wd d x):∀b,w.heap.size≤b→b∉own:=fun b hb hq=>by have:=h.lt b hq;omega
theorem FlWd.keep {own:List Nat} {w w':World} {M L X:Nat} {c:Cfg} {rs rh n:Nat} {wd:Wd} {d:FlatD} {x:WdH} (h:FlWd own w M L X c rs rh n wd d x) (hs:w.heap.size≤w'.heap.size) (hM:w'.heap[M]?=w.heap[M]?) (hL:w'.heap[L]?=w.heap[L]?) (hX:w'.heap[X]?=w.heap[X]?) (hk:∀b,b∉own→b<w.heap.size→w'.heap[b]?=w.heap[b]?):FlWd own w' M L X c rs rh n wd d x :=
 ⟨⟨h.fw.at_.keep hs hM (by rw [h.l];exact hL) (fun b hb hlt=>⟨hk b hb hlt,hb⟩) h.fw.at_.off,h.fw.ok⟩,h.l,h.wo.keepP hs (fun b hb hlt=>hk b hb hlt),h.abs,hX.trans h.box,h.mem,h.ne,fun b hq=>Nat.lt_of_lt_of_le (h.lt b hq) hs⟩
theorem FlWd.put {own:List Nat} {w u W9:World} {M L X:Nat} {c:Cfg} {rs rh k m:Nat} {wd wd':Wd} {d d':FlatD} {x x':WdH} (h:FlWd own w M L X c rs rh k wd d x) (hu:Upd w u [M,L] [M,L]) (hf:FW (fun b=>b∉own) u M c rs rh m wd' d') (hl:d'.L=L) (hw:WdIn (fun b=>b∉own) u x') (ha:absW x'=wd') (h9:W9=stor u X 0 (wdC c x')) :
 FlWd own W9 M L X c rs rh m wd' d' x'∧W9.heap.size=u.heap.size∧(∀b,b<w.heap.size→b≠M→b≠L→b≠X→W9.heap[b]?=w.heap[b]?):=by
 have hx:=upd_at hu (fun hq=>by simp only [List.mem_cons,List.not_mem_nil,or_false] at hq;rcases hq with e|e;exact h.ne.1 e.symm;exact h.ne.2 e.symm) h.box;obtain ⟨t1,t2,t3,t4⟩:=stor_at hx (wdC c x') (by simp [wdC]) W9 h9;have hX:∀b,b∉own→b≠X:=fun b hb e=>hb (by rw [e];exact h.mem.2.2)
 refine ⟨⟨⟨hf.at_.keep (Nat.le_of_eq t3.symm) (t2 M h.ne.1) (by rw [hl];exact t2 L h.ne.2) (fun b hb hlt=>⟨t2 b (hX b hb),hb⟩) hf.at_.off,hf.ok⟩,hl,hw.keepP (Nat.le_of_eq t3.symm) (fun b hb hlt=>t2 b (hX b hb)),ha,t1,h.mem,h.ne,fun b hq=>by have:=h.lt b hq;have:=hu.size;omega⟩,t3,fun b hlt h1 h2 h3=>(t2 b h3).trans (hu.block b hlt (by simp only [List.mem_cons,List.not_mem_nil,or_false];rintro (e|e);exact h1 e;exact h2 e))⟩
theorem FlWd.twin {w w6 W7:World} {M L X T L2:Nat} {c:Cfg} {rs rh n:Nat} {wd:Wd} {d dT:FlatD} {x:WdH} (h:FlWd [M,L,X] w M L X c rs rh n wd d x) (hb6:jB w w6) (q1:FW (OffT (fun b=>b∉[M,L,X]) T L2) w6 M c rs rh n wd d) (q2:FW (OffT (fun b=>b∉[M,L,X]) T L2) w6 T c rs rh n wd dT) (hl2:dT.L=L2) (hT:w.heap.size≤T) (hL2:w.heap.size≤L2) (h7:jB w6 W7) (hlt:w6.heap.size<W7.heap.size)
    (hX2:W7.heap[w6.heap.size]?=some (.cells (wdC c x).toArray 32 (0,0))) :
    FlWd [M,L,X,T,L2,w6.heap.size] W7 M L X c rs rh n wd d x∧FlWd [M,L,X,T,L2,w6.heap.size] W7 T L2 w6.heap.size c rs rh n wd dT x:=by
  have hM:=h.lt M h.mem.1;have hL:=h.lt L h.mem.2.1;have hX:=h.lt X h.mem.2.2;have hTl:=q2.at_.lt;have hLl:=q2.at_.map.lt;rw [hl2] at hLl;have hs6:=hb6.size;have hs7:=h7.size;have hk:∀b,OffT (fun b=>b∉[M,L,X]) T L2 b→b<w6.heap.size→W7.heap[b]?=w6.heap[b]?∧b∉[M,L,X,T,L2,w6.heap.size]:=fun b hb hlt=>⟨h7.block b hlt,by
   obtain ⟨h1,h2,h3⟩:=hb;simp only [List.mem_cons,List.not_mem_nil,or_false] at h1 ⊢
   omega⟩
  have hin:∀b∈[M,L,X,T,L2,w6.heap.size],b<W7.heap.size:=fun b hb=>by
   simp only [List.mem_cons,List.not_mem_nil,or_false] at hb
   omega
  have hwo:WdIn (fun b=>b∉[M,L,X,T,L2,w6.heap.size]) W7 x:=(h.wo.old.below (bthen hb6 h7)).imp (fun b hb=>by
   obtain ⟨h1,h2⟩:=hb;simp only [List.mem_cons,List.not_mem_nil,or_false] at h1 ⊢
   omega)
  refine ⟨⟨⟨q1.at_.keep hs7 (h7.block _ q1.at_.lt) (h7.block _ q1.at_.map.lt) hk (fun b hb=>?_),h.fw.ok⟩,h.l,hwo,h.abs,((bthen hb6 h7).block _ hX).trans h.box,⟨by simp,by simp,by simp⟩,h.ne,hin⟩,
    ⟨⟨q2.at_.keep hs7 (h7.block _ hTl) (h7.block _ q2.at_.map.lt) hk (fun b hb=>?_),h.fw.ok⟩,hl2,hwo,h.abs,hX2,⟨by simp,by simp,by simp⟩,⟨by omega,by omega⟩,hin⟩⟩
  · rw [h.l]
    simp only [List.mem_cons,List.not_mem_nil,or_false] at hb
    omega
  · rw [hl2]
    simp only [List.mem_cons,List.not_mem_nil,or_false] at hb
    omega
end
section
open Go.RowKit Go.Lib
theorem cfgOk_of22 {c:Cfg} (hc:cfgB c=true) (hok:c.ok):CfgOk c c.sa.toNat c.hi.toNat:=by
 have h:=hc;unfold cfgB at h;simp only [Bool.and_eq_true,decide_eq_true_eq] at h
 exact ⟨hc,by omega,by omega,hok⟩
def decF (c:Cfg) (rs rh:Nat) (wd:Wd) (id:ByteArray):Wd:=if idS id=true then (noteW c rs rh wd id (planW wd id).1).1 else wd
theorem NamedW.decF {S:List ByteArray} {c:Cfg} {rs rh:Nat} {wd:Wd} {id:ByteArray} (h:NamedW S wd) (hm:id∈S):NamedW S (decF c rs rh wd id):=by
 unfold Go.Proofs.YtpmfcpdelkchaaaGreat.decF
 split
 · rename_i hid;exact h.note hid hm
 · exact h
theorem FlWd.more {own:List Nat} {w W:World} {M L X R:Nat} {c:Cfg} {rs rh n:Nat} {wd:Wd} {d:FlatD} {x:WdH} (h:FlWd own w M L X c rs rh n wd d x) (hb:jB w W) (hR:w.heap.size≤R) (hlt:R<W.heap.size):FlWd (R::own) W M L X c rs rh n wd d x:=by
 have hM:=h.lt M h.mem.1;have hL:=h.lt L h.mem.2.1;have hX:=h.lt X h.mem.2.2;have hk:∀b,b∉own→b<w.heap.size→b∉R::own:=fun b hb hl hq=>by
  rcases List.mem_cons.1 hq with e|e
  · omega
  · exact hb e
 refine ⟨⟨h.fw.at_.keep hb.size (hb.block _ hM) (hb.block _ (by rw [h.l];exact hL)) (fun b hq hl=>⟨hb.block b hl,hk b hq hl⟩) (fun b hq=>h.fw.at_.off b (fun e=>hq (List.mem_cons_of_mem _ e))),h.fw.ok⟩,h.l,(h.wo.old.below hb).imp (fun b hq=>hk b hq.1 hq.2),h.abs,(hb.block _ hX).trans h.box,⟨List.mem_cons_of_mem _ h.mem.1,List.mem_cons_of_mem _ h.mem.2.1,List.mem_cons_of_mem _ h.mem.2.2⟩,h.ne,fun b hq=>?_⟩
 rcases List.mem_cons.1 hq with e|e
 · omega
 · exact Nat.lt_of_lt_of_le (h.lt b e) hb.size
theorem flNote_bad {P:Nat→Prop} {w:World} {M:Nat} {c:Cfg} {rs rh n:Nat} {wd:Wd} {d:FlatD} (s:SK) (av:Adv) (h:FW P w M c rs rh n wd d) (hc:CfgOk c rs rh) (hs:idS s.1=false) :
 Calls Tryz.prog 64 #[.pointer (some ⟨M,0,none⟩),.string s.1,.agg (advC av).toArray] w (jP w (.bool false)):=by
 have CL:=jH (fun W (hW:jB w W)=>flLoad_any s W (h.at_.below hW) (h.small hc));rw [h.at_.tells.none s hs] at CL;exact flNote_none _ _ av w CL
theorem flPlan_bad {P:Nat→Prop} {w:World} {M:Nat} {c:Cfg} {rs rh n:Nat} {wd:Wd} {d:FlatD} (s:SK) (h:FW P w M c rs rh n wd d) (hc:CfgOk c rs rh) (hs:idS s.1=false) :
 Calls Tryz.prog 99 #[.pointer (some ⟨M,0,none⟩),.string s.1] w (jP w (.tuple #[.agg (advC adv0).toArray,.int .i64 5])):=by
 have h9:=flPlan_any s h hc;rw [h.at_.tells.none s hs] at h9;exact h9
theorem flPlan_is {P:Nat→Prop} {w:World} {M:Nat} {c:Cfg} {rs rh n:Nat} {wd:Wd} {d:FlatD} (s:SK) (h:FW P w M c rs rh n wd d) (hc:CfgOk c rs rh) (hs:idS s.1=true) :
 Calls Tryz.prog 99 #[.pointer (some ⟨M,0,none⟩),.string s.1] w (jP w (.tuple #[.agg (advC (planW wd s.1).1).toArray,.int .i64 (planW wd s.1).2])):=by
 have h9:=flPlan_any s h hc;rw [planF_law h.at_.tells s hs] at h9;exact h9
def DecF (own:List Nat) (w:World) (M L:Nat) (c:Cfg) (rs rh n:Nat) (wd:Wd) (e:Ending) (w':World):Prop :=
 ∃d' x',e=.returned (.tuple #[.agg (wdC c x').toArray,.bool true])∧FW (fun b=>b∉own) w' M c rs rh n wd d'∧d'.L=L∧WdIn (fun b=>b∉own) w' x'∧absW x'=wd∧Upd w w' [M,L] [M,L]
theorem DecF.below {own:List Nat} {w w1 w2:World} {M L:Nat} {c:Cfg} {rs rh n:Nat} {wd:Wd} {e:Ending} (h:DecF own w M L c rs rh n wd e w1) (hb:jB w1 w2):DecF own w M L c rs rh n wd e w2:=by
 obtain ⟨d',x',h1,h2,h3,h4,h5,h6⟩:=h;exact ⟨d',x',h1,h2.below hb,h3,h4.below hb,h5,h6.trans (Upd.of_below hb _)⟩
theorem decF_end {own:List Nat} {w w5 W9:World} {M L R:Nat} {c:Cfg} {rs rh n:Nat} {wd:Wd} {d':FlatD} {x':WdH} (hM:M∈own) (hLo:L∈own) (hlt:M<w.heap.size∧L<w.heap.size) (h:FW (fun b=>b∉R::own) w5 M c rs rh n wd d') (hl:d'.L=L) (hx:WdIn (fun b=>b∉R::own) w5 x') (ha:absW x'=wd) (hu:Upd w w5 [M,L] [M,L]) (hR:w.heap.size≤R)
    (h2:∀k,k≠R→W9.heap[k]?=w5.heap[k]?) (h3:W9.heap.size=w5.heap.size) (h4:∀n,n≤R→Below n w5 W9) :
    DecF own w M L c rs rh n wd (.returned (.tuple #[.agg (wdC c x').toArray,.bool true])) W9:=by
  have hk:∀b,b∉R::own→b<w5.heap.size→W9.heap[b]?=w5.heap[b]?∧b∉own:=fun b hb _=>⟨h2 b (fun e=>hb (by rw [e];exact List.mem_cons_self ..)),fun e=>hb (List.mem_cons_of_mem _ e)⟩
  have hne:M≠R∧L≠R:=by omega
  refine ⟨d',x',rfl,⟨h.at_.keep (Nat.le_of_eq h3.symm) (h2 M hne.1) (by rw [hl];exact h2 L hne.2) hk (fun b hb=>⟨fun e=>hb (by rw [e];exact hM),fun e=>hb (by rw [e,hl];exact hLo)⟩),h.ok⟩,hl,(hx.keepP (Nat.le_of_eq h3.symm) (fun b hb hlt=>(hk b hb hlt).1)).imp (fun b hb e=>hb (List.mem_cons_of_mem _ e)),ha,?_⟩;exact hu.thenB (h4 _ hR)
end
end Go.Proofs.YtpmfcpdelkchaaaGreat
