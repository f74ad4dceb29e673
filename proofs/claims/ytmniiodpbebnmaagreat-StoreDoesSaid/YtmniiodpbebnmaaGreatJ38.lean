/- Part 38 of the proof. -/
import Derived.Test.YtmniiodpbebnmaaGreatJ37
namespace Go.Proofs.YtmniiodpbebnmaaGreat
set_option linter.unusedSimpArgs false
set_option linter.unusedVariables false
set_option linter.unusedSectionVars false
set_option maxRecDepth 100000
set_option maxHeartbeats 16000000
section
open Go.RowKit Go.Lib
def t1U (B:Nat→Prop) (w:World) (S:Nat) (c:Cfg) (rs rh n:Nat) (fp:List Nat) (wd:Wd) (a:Adv) (er:Int) (e:Ending) (w':World):Prop :=
 (er≠0→e=.returned (.tuple #[.agg (c0V c0U).toArray,.int .i64 er])∧jB w w')∧(er=0→d0Z B w S c rs rh (n+1) fp (.tuple #[.agg (c0V a).toArray,.int .i64 0]) wd e w')
theorem n0D {B:Nat→Prop} {S:Nat} {c:Cfg} {rs rh n:Nat} {wd:Wd} {d:d0M} (w:World) (h:a0J B w S c rs rh n wd d) (hB:∀b,w.heap.size≤b→B b) (hc:e0T c rs rh) (hi:g0B c rs rh n wd) (hh:c0F c wd) (hn:n≤100) (id:ByteArray) (hm:id.size≤maxLen) (hid:idS id=true) {y:Nd} (hf9:m0H wd id=some y) (hru:y.ruled=true) {a:Adv} {er:Int} (hde:n0K y.pol y.smp y.past=(a,er))  :
 Calls Tryz.prog 44 #[.pointer (some ⟨S,0,none⟩),.string id] w (t1U B w S c rs rh n (d.fp S) (j0P c rs rh wd id a).1 a er):=by
 have hst:e0X c.st=true:=by have:=hc.cfg;unfold i0L at this;simp only [Bool.and_eq_true] at this;exact this.1
 have hbd:=c0B _ hst;have hl:(d.sts.length:Int)=c.st:=by rw [h.len];exact hi.len
 have hroom:=hc.room;have hk:=c0S id;have CP:=jH (fun W=>show Calls Tryz.prog 81 #[.string id] W (jP W (.tuple #[.agg #[.int .u64 (c0C id).1,.int .u64 (c0C id).2],.int .i64 0])) from by
  have h9:=n0W id W hm;have hp:k0Q id=.tuple #[.agg #[.int .u64 (c0C id).1,.int .u64 (c0C id).2],.int .i64 0]:=by unfold k0Q c0C;rw [hid];rfl
  rw [←hp];exact h9)
 have hf8:b0O (g0C wd) (c0C id)=some y:=hf9;obtain ⟨i,s,R,hri,hs,hR,hsk⟩:=h.home hl hst (c0C id);have hld:=i0W hh hR hri;obtain ⟨r,hr⟩:∃r,r=(j0P c rs rh wd id a).1:=⟨_,rfl⟩;rw [←hr];have hrr:r = { wd with st:=wd.st.set i (l0X c rs rh R (c0C id) ⟨3,(0,0),k0L,a⟩).1 }:=by
  rw [hr];unfold j0P;rw [hf9]
  show (u0V c rs rh wd id ⟨3,(0,0),k0L,a⟩).1=_
  rw [b1A hri hR]
 clear hr;generalize c0C id=k at *;have CH:=jH (fun W (hW:jB w W)=>show Calls Tryz.prog 30 #[.pointer (some ⟨S,0,none⟩),.agg #[.int .u64 k.1,.int .u64 k.2]] W (jP W (.int .i64 (i:Nat))) from hri ▸ f0D W (h.below hW) (by omega) hl (by omega) k hk);have CS:=jH (fun W (hW:jB w W)=>d0V W (h.below hW) i s hs (by omega));have CG:=jH (fun W (hW:jB w W)=>h0Z s.T s.M c s.ver s.es rs rh ⟨k,hk⟩ W (hsk.at_.below hW))
 have hfd:=hsk.load ⟨k,hk⟩;rw [←hld] at hfd
 cases hf:a0V s.es ⟨k,hk⟩ with
 | none =>
   rw [hf] at hfd;have hfd2:b0O (g0C wd) k=none:=hfd;rw [hf8] at hfd2
   cases hfd2
 | some b =>
   rw [hf] at hfd CG;obtain ⟨y2,hy,hsm⟩:=hfd;rw [hf8] at hy;obtain rfl:=Option.some.inj hy;have hitm:n0Z rs rh n (k,y):=by
    unfold b0O at hf8;obtain ⟨p,hp1,hp2⟩:=Option.map_eq_some_iff.1 hf8;have h1:=z0Z hi p (List.mem_of_find?_eq_some hp1);have h2:p.1=k:=by simpa using List.find?_some hp1
    rw [←h2,←hp2];exact h1
   have hru2:b.2.1.ruled=true:=hsm.2.2.2.trans hru;have hnd:b0B w b.1 b.2.1 rs rh b.2.2:=hsk.at_.node _ (b0U hf);have CQ:=jH (fun W (hW:jB w W)=>h0G b.1 b.2.1 rs rh b.2.2 W (hnd.below hW));rw [hru2] at CQ;have CM:=jH (fun W (hW:jB w W)=>g0N b.1 b.2.1 rs rh b.2.2 W (hnd.below hW) hroom.r2);have CA:=jH (fun W (hW:jB w W)=>j0F b.1 b.2.1 rs rh b.2.2 W (hnd.below hW) hroom.h2)
   rw [←hsm.1,←hsm.2.1,←hsm.2.2.1] at hde;have hl1:b.2.1.smp.length≤1000000:=by obtain ⟨_,_,_,_,_,_,_,_,_,_,_,_,h8⟩:=hnd;have:=hroom.r2;omega
   have hl2:b.2.1.past.length≤1000000:=by obtain ⟨_,_,_,_,_,_,hh,_⟩:=hnd;have:=hh.len;have:=hroom.h2;omega
   have CO:=jH (fun W A1 c1 A2 c2 hs1 hs2=>j1D b.2.1.pol b.2.1.smp b.2.1.past (.slice A1 b.2.1.smp.length c1) (.slice A2 b.2.1.past.length c2) W hs1 hs2 hl1 hl2 (by rw [hsm.1];exact hitm.smp) (by rw [hsm.2.2.1];exact hitm.pol));rw [hde] at CO;unfold b0W c0V at CO;dsimp only at CO;have CG2:=jH (show ∀W,jB w W→Calls Tryz.prog 105 #[.pointer (some ⟨s.T,0,none⟩),.agg #[.int .u64 k.1,.int .u64 k.2]] W (jP W (.pointer (some ⟨b.1,0,none⟩))) from CG.out)
   have herr:(doS c rs rh s.ver (ab s.es) ⟨k,hk⟩ ⟨3,(0,0),k0L,a⟩).err=0:=by
    unfold doS;rw [if_neg (show ¬(3:Int)=0 by decide),if_neg (show ¬(3:Int)=1 by decide),if_neg (show ¬(3:Int)=2 by decide),if_pos (show (3:Int)=3 from rfl),if_pos (by rw [o0V];exact n0Q hf)]
   have HST:=jH (fun W (hW:jB w W)=>h.avoidX (X:=w.heap.size) (Nat.le_refl _) hW);have hB1:∀W,jB w W→w.heap.size<W.heap.size→∀b,W.heap.size≤b→B b∧b≠w.heap.size:=fun W hW h1 b hb=>⟨hB b (Nat.le_trans hW.size hb),by omega⟩
   have HFP:=jH (show ∀r∈d.fp S,r<w.heap.size from fun r hr=>(h.fpLt r hr).1);have CN:=jH (fun W (hW:jB w W)=>o1F s.T s.M c s.ver s.es rs rh ⟨k,hk⟩ ⟨3,(0,0),k0L,a⟩ W (hsk.at_.below hW) (hsk.sok hc hn) rfl);rw [herr] at CN;unfold c0V at CN;have CW:=jH (fun W (hW:jB w W) (h1:w.heap.size<W.heap.size) W' es' hat hab hu ho=>(h.avoidX (X:=w.heap.size) (Nat.le_refl _) hW).act (w':=W') (hB1 W hW h1) hc hn hs hR ⟨k,hk⟩ ⟨3,(0,0),k0L,a⟩ (show ¬(3:Int)<0 by decide) (show (3:Int)≠1 by decide) (show ¬3<(3:Int) by decide) (es':=es') hat hab hu ho)
   dsimp only at CN CW;generalize (l0X c rs rh R k ⟨3,(0,0),k0L,a⟩).1=R' at CW hrr;have HRR:=jH hrr;generalize b.2.1.pol=po at CQ CO;generalize b.2.1.smp=sm at CM CO;generalize b.2.1.past=pa at CA CO;generalize b.1=N at CQ CG2 CM CA;clear h hB hc hi hh hs hR hsk hf CG hld hri hf9 hf8 hid hru hsm hru2 hnd hy hde hl1 hl2 hitm hroom hB1 hrr herr
   go_enter Tryz.func44,Tryz.ntmps44
   go_upto_region 8 with (first
   | (go_at_call 81
      refine a0B ?_;intro W1 hW1;have hb1:jB w W1:=by rw [hW1];exact a0C jR _
      have hx1:W1.heap[w.heap.size]?=some (.cells #[.int .i64 0,.int .i64 0,.int .i64 0,.int .i64 0,.int .i64 0] 44 (0,0)):=by rw [hW1];exact heap_alloc_new _ _
      clear hW1;refine (CP.out W1).mono ?_;rintro e w2 ⟨rfl,hb2⟩;have HX2:=jH (jK hb2 hx1);have HB2:=jH (a0D hb1 hb2);clear hb1 hb2 hx1)
   | (go_at_call 30
      refine a0B ?_;intro W3 hW3;have hb3:jB w2 W3:=by rw [hW3];exact a0C jR _
      have hk3:W3.heap[w2.heap.size]?=some (.cells #[.int .u64 k.1,.int .u64 k.2] 74 (0,0)):=by rw [hW3];exact heap_alloc_new _ _
      clear hW3;refine (CH.out W3 (a0D HB2.out hb3)).mono ?_;rintro e w4 ⟨rfl,hb4⟩;have HK4:=jH (jK hb4 hk3);have HB24:=jH (a0D hb3 hb4);have HB4:=jH (a0D HB2.out (a0D hb3 hb4));obtain ⟨a1,a2,a3⟩:=a0A jR HK4.out;clear hb3 hb4 hk3)
   | (go_at_call 32
      refine (CS.out _ HB4.out).mono ?_;rintro e w5 ⟨rfl,rfl⟩)
   | (go_at_call 105
      refine (CG2.out _ HB4.out).mono ?_;rintro e w6 ⟨rfl,hb6⟩;have HB46:=jH hb6;have HB6:=jH (a0D HB24.out hb6);clear hb6)
   | (go_at_call 106
      refine (CQ.out w6 (a0D HB2.out HB6.out)).mono ?_;rintro e w7 ⟨rfl,hb7⟩;have HB7:=jH (a0D HB6.out hb7);have HK7:=jH (jK (a0D HB46.out hb7) HK4.out);have HX7:=jH (jK (a0D HB6.out hb7) HX2.out);clear hb7))
   refine a0I ?_;intro W0 hW0;have hd0:jB w7 W0:=by rw [hW0];exact a0C jR _
   have HB0:=jH (a0D (a0D HB2.out HB7.out) hd0);have HX0:=jH (jK hd0 HX7.out);have HK0:=jH (jK hd0 HK7.out);have HP0:=jH (show W0.heap[w7.heap.size]?=some (.cells #[.int .i64 po.mn,.int .i64 po.mx,.int .i64 po.tg,.int .i64 po.tol,.int .i64 po.win,.int .i64 po.hold] 35 (0,0)) by rw [hW0];exact heap_alloc_new _ _);have HL0:=jH (show w.heap.size<W0.heap.size from (jL HX0.out));clear hW0 hd0 a1 a2 a3
   have rk:∀U,jB W0 U→∀j,U.cell? ⟨w2.heap.size,j,none⟩=(#[.int .u64 k.1,.int .u64 k.2]:Array Value)[j]?:=fun U hU j=>(a0A hU HK0.out).1 j
   have rp:∀U,jB W0 U→∀j,U.cell? ⟨w7.heap.size,j,none⟩=(#[.int .i64 po.mn,.int .i64 po.mx,.int .i64 po.tg,.int .i64 po.tol,.int .i64 po.win,.int .i64 po.hold]:Array Value)[j]?:=fun U hU j=>(a0A hU HP0.out).1 j
   go_cut [7,11] (fun s7 s11 wx=>∃X,s7=.int .i64 er∧s11=.pointer (some ⟨X,0,none⟩)∧wx.heap[X]?=some (.cells #[.int .i64 a.tick,.int .i64 a.load,.int .i64 a.want,.int .i64 a.repl,.int .i64 a.why] 44 (0,0))∧W0.heap.size≤X∧jB W0 wx)
   case first =>
    have hS00:jB W0 W0:=jR;have hS0:jB W0 W0.drew:=hS00.drew
    go_region_held3 (fun U=>jB W0 U)
      (first
        | with_reducible exact hS0
        | with_reducible exact HV5.out
        | with_reducible exact a0C HV5.out _
        | with_reducible exact HV4.out
        | with_reducible exact a0C HV4.out _
        | with_reducible exact HV3.out
        | with_reducible exact a0C HV3.out _
        | with_reducible exact HV2.out
        | with_reducible exact a0C HV2.out _
        | with_reducible exact HV1.out
        | with_reducible exact a0C HV1.out _
        | with_reducible exact Below.drew (a0C hS00 _)
        | with_reducible exact a0C hS0 _
        | (iterate 5 (with_reducible refine Below.setCell ?_ (by first|exact Nat.le_refl _|exact HV1.out.size|exact HV2.out.size|exact HV3.out.size|exact HV4.out.size|exact HV5.out.size) _)
           first
            | with_reducible exact HV5.out
            | with_reducible exact a0C HV5.out _))
      (first
      | (go_at_call 107
         have h9:=HV3;refine a0B ?_;intro V4 hV4;have hd4:jB u3 V4:=by rw [hV4];first|exact jR|exact jR.drew|exact a0C jR _|exact Below.drew (a0C jR _)|exact a0C (Below.drew jR) _
         (first
           | (have hz:=jK hd4 HZ.out)
           | (have hz:V4.heap[u3.heap.size]?=some (.cells #[.int .i64 0,.int .i64 0,.int .i64 0,.int .i64 0,.int .i64 0] 44 (0,0)):=by
               first
                | (with_reducible refine f0R hV4 ?_
                   rfl)
                | (with_reducible refine d0Y hV4 ?_
                   rfl))
           | skip)
         clear hV4;have HD4:=jH (a0D HB0.out (a0D HV3.out hd4));refine (CM.out V4 HD4.out).mono ?_;rintro e u4 ⟨A4,c4,fq4,rfl,hq,hf,hc4⟩;have HV4:=jH (a0D (a0D HV3.out hd4) hc4)
         (try (have HZ:=jH (jK hc4 hz)))
         (try clear hz)
         have HS:=jH (fun U (hU:jB u4 U)=>(hq.row d0J).below hU);clear hq hf
         (try (have HP:=jH (fun U (hU:jB u4 U)=>HP.out U (a0D hd4 (a0D hc4 hU)))))
         clear hc4 hd4)
      | (go_at_call 108
         have h9:=HV3;refine a0B ?_;intro V4 hV4;have hd4:jB u3 V4:=by rw [hV4];first|exact jR|exact jR.drew|exact a0C jR _|exact Below.drew (a0C jR _)|exact a0C (Below.drew jR) _
         (first
           | (have hz:=jK hd4 HZ.out)
           | (have hz:V4.heap[u3.heap.size]?=some (.cells #[.int .i64 0,.int .i64 0,.int .i64 0,.int .i64 0,.int .i64 0] 44 (0,0)):=by
               first
                | (with_reducible refine f0R hV4 ?_
                   rfl)
                | (with_reducible refine d0Y hV4 ?_
                   rfl))
           | skip)
         clear hV4;have HD4:=jH (a0D HB0.out (a0D HV3.out hd4));refine (CA.out V4 HD4.out).mono ?_;rintro e u4 ⟨A6,c6,fq6,rfl,hq,hf,hc4⟩;have HV4:=jH (a0D (a0D HV3.out hd4) hc4)
         (try (have HZ:=jH (jK hc4 hz)))
         (try clear hz)
         have HP:=jH (fun U (hU:jB u4 U)=>(hq.row q0L).below hU);clear hq hf
         (try (have HS:=jH (fun U (hU:jB u4 U)=>HS.out U (a0D hd4 (a0D hc4 hU)))))
         clear hc4 hd4)
      | (go_at_call 107
         have h9:=HV2;refine a0B ?_;intro V3 hV3;have hd3:jB u2 V3:=by rw [hV3];first|exact jR|exact jR.drew|exact a0C jR _|exact Below.drew (a0C jR _)|exact a0C (Below.drew jR) _
         (first
           | (have hz:=jK hd3 HZ.out)
           | (have hz:V3.heap[u2.heap.size]?=some (.cells #[.int .i64 0,.int .i64 0,.int .i64 0,.int .i64 0,.int .i64 0] 44 (0,0)):=by
               first
                | (with_reducible refine f0R hV3 ?_
                   rfl)
                | (with_reducible refine d0Y hV3 ?_
                   rfl))
           | skip)
         clear hV3;have HD3:=jH (a0D HB0.out (a0D HV2.out hd3));refine (CM.out V3 HD3.out).mono ?_;rintro e u3 ⟨A4,c4,fq4,rfl,hq,hf,hc3⟩;have HV3:=jH (a0D (a0D HV2.out hd3) hc3)
         (try (have HZ:=jH (jK hc3 hz)))
         (try clear hz)
         have HS:=jH (fun U (hU:jB u3 U)=>(hq.row d0J).below hU);clear hq hf
         (try (have HP:=jH (fun U (hU:jB u3 U)=>HP.out U (a0D hd3 (a0D hc3 hU)))))
         clear hc3 hd3)
      | (go_at_call 108
         have h9:=HV2;refine a0B ?_;intro V3 hV3;have hd3:jB u2 V3:=by rw [hV3];first|exact jR|exact jR.drew|exact a0C jR _|exact Below.drew (a0C jR _)|exact a0C (Below.drew jR) _
         (first
           | (have hz:=jK hd3 HZ.out)
           | (have hz:V3.heap[u2.heap.size]?=some (.cells #[.int .i64 0,.int .i64 0,.int .i64 0,.int .i64 0,.int .i64 0] 44 (0,0)):=by
               first
                | (with_reducible refine f0R hV3 ?_
                   rfl)
                | (with_reducible refine d0Y hV3 ?_
                   rfl))
           | skip)
         clear hV3;have HD3:=jH (a0D HB0.out (a0D HV2.out hd3));refine (CA.out V3 HD3.out).mono ?_;rintro e u3 ⟨A6,c6,fq6,rfl,hq,hf,hc3⟩;have HV3:=jH (a0D (a0D HV2.out hd3) hc3)
         (try (have HZ:=jH (jK hc3 hz)))
         (try clear hz)
         have HP:=jH (fun U (hU:jB u3 U)=>(hq.row q0L).below hU);clear hq hf
         (try (have HS:=jH (fun U (hU:jB u3 U)=>HS.out U (a0D hd3 (a0D hc3 hU)))))
         clear hc3 hd3)
      | (go_at_call 105
         have h9:=HV2;refine a0B ?_;intro V3 hV3;have hd3:jB u2 V3:=by rw [hV3];first|exact jR|exact jR.drew|exact a0C jR _|exact Below.drew (a0C jR _)|exact a0C (Below.drew jR) _
         (first
           | (have hz:=jK hd3 HZ.out)
           | (have hz:V3.heap[u2.heap.size]?=some (.cells #[.int .i64 0,.int .i64 0,.int .i64 0,.int .i64 0,.int .i64 0] 44 (0,0)):=by
               first
                | (with_reducible refine f0R hV3 ?_
                   rfl)
                | (with_reducible refine d0Y hV3 ?_
                   rfl))
           | skip)
         clear hV3;have HD3:=jH (a0D HB0.out (a0D HV2.out hd3));refine (CG2.out V3 HD3.out).mono ?_;rintro e u3 ⟨rfl,hc3⟩;have HV3:=jH (a0D (a0D HV2.out hd3) hc3)
         (try (have HZ:=jH (jK hc3 hz)))
         (try clear hz)
         (try (have HS:=jH (fun U (hU:jB u3 U)=>HS.out U (a0D hd3 (a0D hc3 hU)))))
         (try (have HP:=jH (fun U (hU:jB u3 U)=>HP.out U (a0D hd3 (a0D hc3 hU)))))
         clear hc3 hd3)
      | (go_at_call 107
         have h9:=HV1;refine a0B ?_;intro V2 hV2;have hd2:jB u1 V2:=by rw [hV2];first|exact jR|exact jR.drew|exact a0C jR _|exact Below.drew (a0C jR _)|exact a0C (Below.drew jR) _
         (first
           | (have hz:=jK hd2 HZ.out)
           | (have hz:V2.heap[u1.heap.size]?=some (.cells #[.int .i64 0,.int .i64 0,.int .i64 0,.int .i64 0,.int .i64 0] 44 (0,0)):=by
               first
                | (with_reducible refine f0R hV2 ?_
                   rfl)
                | (with_reducible refine d0Y hV2 ?_
                   rfl))
           | skip)
         clear hV2;have HD2:=jH (a0D HB0.out (a0D HV1.out hd2));refine (CM.out V2 HD2.out).mono ?_;rintro e u2 ⟨A4,c4,fq4,rfl,hq,hf,hc2⟩;have HV2:=jH (a0D (a0D HV1.out hd2) hc2)
         (try (have HZ:=jH (jK hc2 hz)))
         (try clear hz)
         have HS:=jH (fun U (hU:jB u2 U)=>(hq.row d0J).below hU);clear hq hf
         (try (have HP:=jH (fun U (hU:jB u2 U)=>HP.out U (a0D hd2 (a0D hc2 hU)))))
         clear hc2 hd2)
      | (go_at_call 108
         have h9:=HV1;refine a0B ?_;intro V2 hV2;have hd2:jB u1 V2:=by rw [hV2];first|exact jR|exact jR.drew|exact a0C jR _|exact Below.drew (a0C jR _)|exact a0C (Below.drew jR) _
         (first
           | (have hz:=jK hd2 HZ.out)
           | (have hz:V2.heap[u1.heap.size]?=some (.cells #[.int .i64 0,.int .i64 0,.int .i64 0,.int .i64 0,.int .i64 0] 44 (0,0)):=by
               first
                | (with_reducible refine f0R hV2 ?_
                   rfl)
                | (with_reducible refine d0Y hV2 ?_
                   rfl))
           | skip)
         clear hV2;have HD2:=jH (a0D HB0.out (a0D HV1.out hd2));refine (CA.out V2 HD2.out).mono ?_;rintro e u2 ⟨A6,c6,fq6,rfl,hq,hf,hc2⟩;have HV2:=jH (a0D (a0D HV1.out hd2) hc2)
         (try (have HZ:=jH (jK hc2 hz)))
         (try clear hz)
         have HP:=jH (fun U (hU:jB u2 U)=>(hq.row q0L).below hU);clear hq hf
         (try (have HS:=jH (fun U (hU:jB u2 U)=>HS.out U (a0D hd2 (a0D hc2 hU)))))
         clear hc2 hd2)
      | (go_at_call 105
         have h9:=HV1;refine a0B ?_;intro V2 hV2;have hd2:jB u1 V2:=by rw [hV2];first|exact jR|exact jR.drew|exact a0C jR _|exact Below.drew (a0C jR _)|exact a0C (Below.drew jR) _
         (first
           | (have hz:=jK hd2 HZ.out)
           | (have hz:V2.heap[u1.heap.size]?=some (.cells #[.int .i64 0,.int .i64 0,.int .i64 0,.int .i64 0,.int .i64 0] 44 (0,0)):=by
               first
                | (with_reducible refine f0R hV2 ?_
                   rfl)
                | (with_reducible refine d0Y hV2 ?_
                   rfl))
           | skip)
         clear hV2;have HD2:=jH (a0D HB0.out (a0D HV1.out hd2));refine (CG2.out V2 HD2.out).mono ?_;rintro e u2 ⟨rfl,hc2⟩;have HV2:=jH (a0D (a0D HV1.out hd2) hc2)
         (try (have HZ:=jH (jK hc2 hz)))
         (try clear hz)
         (try (have HS:=jH (fun U (hU:jB u2 U)=>HS.out U (a0D hd2 (a0D hc2 hU)))))
         (try (have HP:=jH (fun U (hU:jB u2 U)=>HP.out U (a0D hd2 (a0D hc2 hU)))))
         clear hc2 hd2)
      | (go_at_call 105
         refine a0B ?_;intro V1 hV1;have hd1:jB W0 V1:=by rw [hV1];first|exact jR|exact jR.drew|exact a0C jR _|exact Below.drew (a0C jR _)|exact a0C (Below.drew jR) _
         (first
           | (have hz:=jK hd1 HZ.out)
           | (have hz:V1.heap[W0.heap.size]?=some (.cells #[.int .i64 0,.int .i64 0,.int .i64 0,.int .i64 0,.int .i64 0] 44 (0,0)):=by
               first
                | (with_reducible refine f0R hV1 ?_
                   rfl)
                | (with_reducible refine d0Y hV1 ?_
                   rfl))
           | skip)
         clear hV1;have HD1:=jH (a0D HB0.out hd1);refine (CG2.out V1 HD1.out).mono ?_;rintro e u1 ⟨rfl,hc1⟩;have HV1:=jH (a0D hd1 hc1)
         (try (have HZ:=jH (jK hc1 hz)))
         (try clear hz)
         (try (have HS:=jH (fun U (hU:jB u1 U)=>HS.out U (a0D hd1 (a0D hc1 hU)))))
         (try (have HP:=jH (fun U (hU:jB u1 U)=>HP.out U (a0D hd1 (a0D hc1 hU)))))
         clear hc1 hd1)
      | (go_at_call 75
         have h9:=HV4;refine a0B ?_;intro V5 hV5;have hd5:jB u4 V5:=by rw [hV5];first|exact jR|exact jR.drew|exact a0C jR _|exact Below.drew (a0C jR _)|exact a0C (Below.drew jR) _
         (first
           | (have hz:=jK hd5 HZ.out)
           | (have hz:V5.heap[u4.heap.size]?=some (.cells #[.int .i64 0,.int .i64 0,.int .i64 0,.int .i64 0,.int .i64 0] 44 (0,0)):=by
               first
                | (with_reducible refine f0R hV5 ?_
                   rfl)
                | (with_reducible refine d0Y hV5 ?_
                   rfl))
           | skip)
         clear hV5;have HD5:=jH (a0D HB0.out (a0D HV4.out hd5));refine (CO.out V5 A4 c4 A6 c6 (HS.out V5 hd5) (HP.out V5 hd5)).mono ?_;rintro e u5 ⟨rfl,hc5⟩;have HV5:=jH (a0D (a0D HV4.out hd5) hc5)
         (try (have HZ:=jH (jK hc5 hz)))
         (try clear hz)
         (try (have HS:=jH (fun U (hU:jB u5 U)=>HS.out U (a0D hd5 (a0D hc5 hU)))))
         (try (have HP:=jH (fun U (hU:jB u5 U)=>HP.out U (a0D hd5 (a0D hc5 hU)))))
         clear hc5 hd5
         (first
           | (have h7:=HZ.out
              have h8:=a0A jR h7;clear h7;obtain ⟨y1,y2,y3⟩:=h8)
           | skip)))
    all_goals
      go_wp2_with fail
      go_meet
      refine ⟨_,rfl,rfl,?_⟩
      first
       | exact s1A HZ.out (by first|exact Nat.le_refl _|exact HV1.out.size|exact HV2.out.size|exact HV3.out.size|exact HV4.out.size) HV5.out [.int .i64 a.tick,.int .i64 a.load,.int .i64 a.want,.int .i64 a.repl,.int .i64 a.why] rfl
       | exact x0S HV5.out [.int .i64 a.tick,.int .i64 a.load,.int .i64 a.want,.int .i64 a.repl,.int .i64 a.why]
       | trace_state
   case rest =>
    obtain ⟨X,rfl,rfl,hX,hle,hb⟩:=hcut;rename World=>wr
    have HX:=jH hX;have HLE:=jH hle;have HB:=jH hb;clear hX hle hb;have HX8:=jH (jK HB.out HX0.out)
    by_cases he:er=0
    · subst he
      go_upto_region 11 with fail
      have HS0:=jH (And.intro HX.out (jK HB.out HK0.out));refine d0E (S:=(fun U=>U.heap[X]?=some (.cells #[.int .i64 a.tick,.int .i64 a.load,.int .i64 a.want,.int .i64 a.repl,.int .i64 a.why] 44 (0,0))∧U.heap[w2.heap.size]?=some (.cells #[.int .u64 k.1,.int .u64 k.2] 74 (0,0)))) 5 (by kernel_rfl) ?hS1 (fun hHeld=>?_)
      case hS1=>(first|exact HS0.out|exact HS8.out|exact ⟨HS0.out.1,HS0.out.2⟩|exact ⟨HS8.out.1,HS8.out.2⟩)
      refine a0L (i:=0) (v:=?v2) rfl (by kernel_rfl) (by kernel_rfl) (by kernel_rfl) (by kernel_rfl) (fun _ _ _ h=>h) (Or.inl ⟨by rfl,?hy2⟩) (by assumption) ?_
      case hy2 =>
       intro w' hSw
       (try dsimp only at hSw)
       obtain ⟨e1,e2,e3⟩:=a0A jR hSw.1;obtain ⟨e4,e5,e6⟩:=a0A jR hSw.2;go_simp
       try (with_reducible rfl)
      try simp only [Act.put,jA]
      refine a0L (i:=1) (v:=?v3) rfl (by kernel_rfl) (by kernel_rfl) (by kernel_rfl) (by kernel_rfl) (fun _ _ _ h=>h) (Or.inl ⟨by rfl,?hy3⟩) (by assumption) ?_
      case hy3 =>
       intro w' hSw
       (try dsimp only at hSw)
       go_simp
       try (with_reducible rfl)
      try simp only [Act.put,jA]
      refine a0L (i:=2) (v:=?v4) rfl (by kernel_rfl) (by kernel_rfl) (by kernel_rfl) (by kernel_rfl) (fun _ _ _ h=>h) (Or.inl ⟨by rfl,?hy4⟩) (by assumption) ?_
      case hy4 =>
       intro w' hSw
       (try dsimp only at hSw)
       obtain ⟨e1,e2,e3⟩:=a0A jR hSw.1;obtain ⟨e4,e5,e6⟩:=a0A jR hSw.2;go_simp
       try (with_reducible rfl)
      try simp only [Act.put,jA]
      refine a0L (i:=3) (v:=?v5) rfl (by kernel_rfl) (by kernel_rfl) (by kernel_rfl) (by kernel_rfl) (fun _ _ _ h=>h) (Or.inl ⟨by rfl,?hy5⟩) (by assumption) ?_
      case hy5 =>
       intro w' hSw
       (try dsimp only at hSw)
       obtain ⟨e1,e2,e3⟩:=a0A jR hSw.1;obtain ⟨e4,e5,e6⟩:=a0A jR hSw.2;go_simp
       try (with_reducible rfl)
      try simp only [Act.put,jA]
      refine a0W (i:=4) (by kernel_rfl) rfl (fun K hK=>?_);go_simp
      (go_at_call 109
       refine a0B ?_;intro V hV;have hdv:jB wr V:=by rw [hV];first|exact jR|exact jR.drew|exact a0F jR _
       clear hV;have hdw:=a0D (a0D HB0.out HB.out) hdv;refine (CN.out V hdw).mono ?_;rintro e w8 ⟨es',rfl,hat,hab,hu,ho⟩;obtain ⟨d',hd',hu',_⟩:=CW.out V hdw (Nat.lt_of_lt_of_le HL0.out (a0D HB.out hdv).size) w8 es' hat hab hu ho;have HD:=jH hd';have HU:=jH ((Upd.of_below hdw (d.fp S)).trans hu');have HXR:=jH (e0O hu' (fun hq=>Nat.lt_irrefl _ (HFP.out _ hq)) (jK (a0D HB.out hdv) HX0.out))
       have HS8:=jH (And.intro (e0O hu' (fun hq=>by have:=HFP.out _ hq;have:=HLE.out;have:=HL0.out;omega) (jK hdv HX.out)) (e0O hu' (fun hq=>by have:=HFP.out _ hq;have:=HB2.out.size;omega) (jK (a0D HB.out hdv) HK0.out)));clear hat hab hu ho hd' hu' hdw hdv;obtain ⟨y1,y2,y3⟩:=a0A jR HXR.out)
      try go_simp
      refine hK.out _ _ ?hS6 (fun hHeld2=>?_)
      case hS6 =>
       intro _
       (first|exact HS0.out|exact HS8.out|exact ⟨HS0.out.1,HS0.out.2⟩|exact ⟨HS8.out.1,HS8.out.2⟩)
      clear hK K hHeld;have hHeld:=hHeld2 (by kernel_rfl);clear hHeld2
      try simp only [Act.put,jA]
      refine a0W (i:=5) (by kernel_rfl) rfl (fun K hK=>?_);go_simp
      skip
      try go_simp
      refine hK.out _ _ ?hS7 (fun hHeld2=>?_)
      case hS7=>exact fun h=>nomatch (show (true:Bool)=false from h)
      clear hK K hHeld hHeld2
      try simp only [Act.put,jA]
      refine a0W (i:=6) (by kernel_rfl) rfl (fun K hK=>?_);go_simp
      skip
      try go_simp
      refine hK.out _ _ ?hS8 (fun hHeld2=>?_)
      case hS8=>exact fun h=>nomatch (show (true:Bool)=false from h)
      clear hK K hHeld2
      try simp only [Act.put,jA]
      refine d0F (by kernel_rfl) ?_ _;refine a0T ?_;intro W9 hW9;have hW9':W9=b0J w8 w.heap.size 0 [.int .i64 a.tick,.int .i64 a.load,.int .i64 a.want,.int .i64 a.repl,.int .i64 a.why]:=hW9;obtain ⟨t1,t2,t3,t4⟩:=a0P HXR.out [.int .i64 a.tick,.int .i64 a.load,.int .i64 a.want,.int .i64 a.repl,.int .i64 a.why] rfl W9 hW9';obtain ⟨a9,a8,a7⟩:=a0A jR t1;clear hW9 hW9';go_wp2_with fail
      exact bodyPost_ret (v:=.tuple #[.agg #[.int .i64 a.tick,.int .i64 a.load,.int .i64 a.want,.int .i64 a.repl,.int .i64 a.why],.int .i64 0]) (by simp [results,Tryz.results44,go_sem,a9]) rfl ⟨fun h=>absurd rfl h,fun _=>by rw [HRR.out];exact e0H (Nat.le_refl _) HD.out HU.out t2 t3 t4⟩
    · have z0:(er == 0)=false:=by simpa using he
      have z1:(er != 0)=true:=by simpa using he
      obtain ⟨x1,x2,x3⟩:=a0A jR HX8.out;go_wp2_with fail
      refine a0H ?_;intro W9 hW9;have hW9':W9=b0J wr w.heap.size 0 [.int .i64 0,.int .i64 0,.int .i64 0,.int .i64 0,.int .i64 0]:=hW9;obtain ⟨s1,s2,s3,s4⟩:=a0P HX8.out [.int .i64 0,.int .i64 0,.int .i64 0,.int .i64 0,.int .i64 0] rfl W9 hW9';obtain ⟨a9,a8,a7⟩:=a0A jR s1;clear hW9 hW9';exact bodyPost_ret (v:=.tuple #[.agg #[.int .i64 0,.int .i64 0,.int .i64 0,.int .i64 0,.int .i64 0],.int .i64 er]) (by simp [results,Tryz.results44,go_sem,a9]) rfl ⟨fun _=>⟨rfl,(a0D HB0.out HB.out).trans (s4 _ (Nat.le_refl _))⟩,fun h=>absurd h he⟩
end
section
open Go.RowKit Go.Lib Go.Sort
theorem eStp:i0N 146 78 1 8 (.pointer none) stpC :=
 ⟨by kernel_rfl,by kernel_rfl,rfl,by decide,by decide,fun _=>rfl,fun x u hu=>by
  simp only [stpC,List.mem_cons,List.not_mem_nil,or_false] at hu
  subst hu
  rfl⟩
theorem h1J (w:World) :
 Calls Tryz.prog 78 #[] w fun e w'=>e=.returned (.pointer (some ⟨w.heap.size+1,0,none⟩))∧w'=(w.alloc (.map #[] 0)).alloc (.cells #[.map (some w.heap.size),.int .i64 1] 229):=by
 have hmm:=@run_makeMap Tryz.prog
 go_enter Tryz.func78,Tryz.ntmps78
 go_wp2
 go_ret
 exact ⟨by simp,rfl⟩
structure n1L (w wr:World) (S H L base:Nat) (c:Cfg) (rs rh:Nat) (v:Value) (sts:List St):Prop where
 x0:wr.heap[w.heap.size]?=some (.cells #[.int .i64 c.st,.int .i64 c.sa,.int .i64 c.lo,.int .i64 c.hi] 23 (0,0))
 b:jB w wr
 cell:wr.heap[S]?=some (.cells #[v,.pointer (some ⟨H,0,none⟩),.int .i64 0,.bool false] 148 (0,0))
 tab:wr.heap[H]?=some (.cells #[.map (some L),.int .i64 1] 229 (0,0))
 live:b0N hdV q0A wr L ([]:List (HN × Nat))
 low:w.heap.size<S∧w.heap.size≤H∧w.heap.size≤L∧S<base∧H<base∧L<base∧base≤wr.heap.size
 ne:S≠H∧S≠L∧H≠L
 own:b0Q stpC 78 1 base wr v sts
 str:∀s∈sts,f0U wr c rs rh 0 s []
 pair:∀(i j:Nat) s t,sts[i]?=some s→sts[j]?=some t→i≠j→apart s.all t.all
 off:∀s∈sts,∀r∈s.all,base≤r∧v.ownBlock≠some r
theorem n1L.below {w wr w':World} {S H L base:Nat} {c:Cfg} {rs rh:Nat} {v:Value} {sts:List St} (h:n1L w wr S H L base c rs rh v sts) (hb:jB wr w'):n1L w w' S H L base c rs rh v sts :=
 ⟨(hb.block _ (Array.getElem?_eq_some_iff.1 h.x0).1).trans h.x0,a0D h.b hb,(hb.block _ (Array.getElem?_eq_some_iff.1 h.cell).1).trans h.cell,(hb.block _ (Array.getElem?_eq_some_iff.1 h.tab).1).trans h.tab,h.live.below hb,by have:=h.low;have:=hb.size;omega,h.ne,h.own.below hb,fun s hs=>(h.str s hs).kept (fun r hr=>hb.block r ((h.str s hs).lt r hr)),h.pair,h.off⟩
theorem n1L.step {w wr w1 u w2 w3:World} {S H L base:Nat} {c:Cfg} {rs rh:Nat} {v v2:Value} {sts:List St} {T M:Nat} (h:n1L w wr S H L base c rs rh v sts) (hb:jB wr w1) (hs:SAt w1 T M c 0 [] rs rh) (hT:wr.heap.size≤T∧wr.heap.size≤M)
    (hu:jB w1 u) (hg:u.grownBy w2 v.ownBlock) (hblk:v2.ownBlock=v.ownBlock∨v2.ownBlock=some u.heap.size) (ho:b0Q stpC 78 1 base w2 v2 (sts++[⟨T,M,0,[]⟩])) (h3:w3=w2.setCell ⟨S,0,none⟩ v2) :
    n1L w w3 S H L base c rs rh v2 (sts++[⟨T,M,0,[]⟩]):=by
  have hlow:=h.low;have h1:=h.below (hb.trans (hu.mono hb.size));have hus:wr.heap.size≤u.heap.size:=Nat.le_trans hb.size hu.size;have hb12:Below base u w2:=c0H hg (by omega) (fun r hr=>(h.own.lt hr).1);have hsz:=hb12.size;have hk:∀r,r≠S→w3.heap[r]?=w2.heap[r]?:=fun r hr=>by rw [h3];exact a0U rfl hr
  have hs3:w3.heap.size=w2.heap.size:=by rw [h3];simp
  have hblk2:∀r,r<u.heap.size→v.ownBlock≠some r→w2.heap[r]?=u.heap[r]?:=fun r hr hn=>hg.block r hr (Ne.symm hn)
  have hTM:T<w1.heap.size∧M<w1.heap.size:=⟨hs.ltT,hs.map.lt⟩;have huw:=hu.size;have hw1:=hb.size;have hown:∀r,v.ownBlock=some r→base≤r∧r<wr.heap.size:=fun r hr=>h.own.lt hr
  have hnew:f0U w1 c rs rh 0 ⟨T,M,0,[]⟩ []:=⟨hs,b0M.nil,⟨Nat.le_refl _,fun p hp=>by cases hp⟩,Nat.le_refl _⟩;have hnall:St.all ⟨T,M,0,[]⟩=[T,M]:=rfl;refine ⟨(hk w.heap.size (by omega)).trans ((hb12.block w.heap.size (by omega)).trans h1.x0),?_,?_,?_,?_,by omega,h.ne,ho.kept (fun r hr=>hk r (by have:=(ho.lt hr).1;omega)),fun s hs'=>?_,fun i j s t hi hj hij=>?_,fun s hs' r hr=>?_⟩
  · rw [h3]
    exact (h1.b.trans (hb12.mono (by omega))).setCell (by simp;omega) _
  · rw [h3,a0E ((hb12.block S (by omega)).trans h1.cell)]
    rfl
  · exact (hk H (Ne.symm h.ne.1)).trans ((hb12.block H (by omega)).trans h1.tab)
  · exact h1.live.block ((hk L (Ne.symm h.ne.2.1)).trans (hb12.block L (by omega)))
  · rcases List.mem_append.1 hs' with hs'|hs'
    · refine (h1.str s hs').kept (fun r hr=>?_)
      have h9:=h.off s hs' r hr;exact (hk r (by omega)).trans (hblk2 r (by have:=(h.str s hs').lt r hr;omega) h9.2)
    · rw [List.mem_singleton.1 hs']
      refine hnew.kept (fun r hr=>?_);have hr2:r=T∨r=M:=by rw [hnall] at hr;simpa using hr
      have hr3:wr.heap.size≤r∧r<w1.heap.size:=by rcases hr2 with rfl|rfl <;> omega
      refine (hk r (by omega)).trans ((hblk2 r (by omega) (fun e=>by have:=hown r e;omega)).trans (hu.block r hr3.2))
  · have hsplit:∀(i:Nat) s,(sts++[⟨T,M,0,[]⟩])[i]?=some s→(i<sts.length∧sts[i]?=some s)∨(i=sts.length∧s=⟨T,M,0,[]⟩):=fun i s hi=>by
     rcases Nat.lt_or_ge i sts.length with h9|h9
     · rw [List.getElem?_append_left h9] at hi
       exact .inl ⟨h9,hi⟩
     · rw [List.getElem?_append_right h9] at hi
       have:=(List.getElem?_eq_some_iff.1 hi).1;simp at this
       have e:i=sts.length:=by omega
       subst e;simp at hi
       exact .inr ⟨rfl,hi.symm⟩
    have hlt:∀s∈sts,∀r∈s.all,r<wr.heap.size:=fun s hs r hr=>(h.str s hs).lt r hr
    rcases hsplit i s hi with ⟨h4,h5⟩|⟨h4,h5⟩
    · rcases hsplit j t hj with ⟨h6,h7⟩|⟨h6,h7⟩
      · exact h.pair i j s t h5 h7 hij
      · intro r hr hr'
        rw [h7,hnall] at hr';have:=hlt s (List.mem_of_getElem? h5) r hr;have hr2:r=T∨r=M:=by simpa using hr'
        rcases hr2 with rfl|rfl <;> omega
    · rcases hsplit j t hj with ⟨h6,h7⟩|⟨h6,h7⟩
      · intro r hr hr'
        rw [h5,hnall] at hr;have:=hlt t (List.mem_of_getElem? h7) r hr';have hr2:r=T∨r=M:=by simpa using hr
        rcases hr2 with rfl|rfl <;> omega
      · omega
  · rcases List.mem_append.1 hs' with hs'|hs'
    · have h9:=h.off s hs' r hr
      refine ⟨h9.1,fun e=>?_⟩
      rcases hblk with h8|h8
      · rw [h8] at e;exact h9.2 e
      · rw [h8] at e
        injection e with e
        have:=(h.str s hs').lt r hr;omega
    · rw [List.mem_singleton.1 hs',hnall] at hr
      have hr2:r=T∨r=M:=by simpa using hr
      have hr3:wr.heap.size≤r∧r<w1.heap.size:=by rcases hr2 with rfl|rfl <;> omega
      refine ⟨by omega,fun e=>?_⟩
      rcases hblk with h8|h8
      · rw [h8] at e;have:=hown r e;omega
      · rw [h8] at e
        injection e with e
        omega
theorem n1L.done {w wr:World} {S H L base:Nat} {c:Cfg} {rs rh:Nat} {v:Value} {sts:List St} (h:n1L w wr S H L base c rs rh v sts) (hp:0<sts.length):∃d,a0J (fun b=>w.heap.size≤b) wr S c rs rh 0 (w0Z sts.length) d∧d.sts.length=sts.length:=by
 obtain ⟨A,cp,rfl⟩:=h.own.form;have hform:=h.own.2;obtain ⟨g,rfl⟩:∃g,A=some ⟨g,0,none⟩:=by
  rcases h.own.2 with ⟨e,e2⟩|⟨g,cap,cur,e,_⟩
  · omega
  · injection e with e1 _ _
    exact ⟨g,e1⟩
 have hlow:=h.low;refine ⟨⟨g,cp,H,L,sts,[]⟩,⟨h.cell,?_,by simp [w0Z],fun i s R hs hR=>?_,h.pair,fun s hs=>?_,h.ne,h.tab,h.live,(fun p hp=>by cases hp),fun i q hq=>?_,rfl,by dsimp only;omega,fun s hs r hr=>by have:=(h.off s hs r hr).1;omega⟩,rfl⟩
 · refine ⟨h.own.row eStp,fun b o m c' e hn=>?_⟩
   injection e with e1 _ _
   injection e1 with e1
   injection e1 with e1 _ _
   have e1:g=b:=e1;subst e1;have hg:=h.own.lt (r:=g) rfl;refine ⟨fun hq=>?_,by omega⟩
   rcases c0L.1 hq with e|e|e|⟨s,hs,hr⟩
   · omega
   · dsimp only at e;omega
   · dsimp only at e;omega
   · exact (h.off s hs g (s.sub g hr)).2 rfl
 · have:R=[]:=by
    have h9:=List.mem_of_getElem? hR;exact List.eq_of_mem_replicate h9
   rw [this];exact h.str s (List.mem_of_getElem? hs)
 · refine ⟨fun hq=>?_,fun hq=>?_,fun hq=>?_⟩
   · have:=(h.off s hs _ hq).1;omega
   · have:=(h.off s hs _ hq).1;dsimp only at this;omega
   · have:=(h.off s hs _ hq).1;dsimp only at this;omega
 · simp [w0Z] at hq
def NewSto (w:World) (c:Cfg) (rs rh:Nat) (e:Ending) (w':World):Prop :=
 ∃S d,e=.returned (.tuple #[.pointer (some ⟨S,0,none⟩),.int .i64 0])∧a0J (fun b=>w.heap.size≤b) w' S c rs rh 0 (w0Z d.sts.length) d∧(d.sts.length:Int)=c.st∧jB w w'
theorem f1O (c:Cfg) (w:World) (hc:i0L c=false) (hok:c.ok) :
 Calls Tryz.prog 27 #[j0Q c] w (jP w (.tuple #[.pointer none,.int .i64 1])):=by
 have HNR:=jH (fun W=>g0E c W hok);have HE:=jH (show i1D c=1 by unfold i1D;rw [if_neg (by rw [hc];simp)]);rw [HE.out] at HNR;unfold j0Q at HNR ⊢;clear hc hok
 go_enter Tryz.func27,Tryz.ntmps27
 go_wp2_with (first
  | (go_at_call 46
     refine (HNR.out _).mono ?_;rintro e w2 ⟨rfl,hb2⟩;have HB2:=jH (a0D (a0C (Below.refl w.heap.size w) _) hb2);clear hb2))
 go_ret2
 exact ⟨rfl,HB2.out⟩
theorem h1S (c:Cfg) (rs rh:Nat) (w:World) (hc:e0T c rs rh) :
 Calls Tryz.prog 27 #[j0Q c] w (NewSto w c rs rh):=by
 have HNR:=jH (fun W=>g0E c W hc.ok);have HE:=jH (show i1D c=0 by unfold i1D;rw [if_pos hc.cfg]);have hst:e0X c.st=true:=by have:=hc.cfg;unfold i0L at this;simp only [Bool.and_eq_true] at this;exact this.1
 have hbd:=c0B _ hst;obtain ⟨N,hN⟩:=Int.eq_ofNat_of_zero_le (show 0≤c.st by omega);have CN:=jH (fun W=>t0F c rs rh W hc.cfg hc.ok);have HNC:=jH hN;rw [HE.out] at HNR;have hN1:0<N:=by omega
 have hN64:N≤64:=by omega
 unfold j0Q at HNR CN ⊢;have hstn:c.st=(N:Int):=hN;clear hc hst hbd hN;rw [hstn] at HNR CN ⊢
 go_enter Tryz.func27,Tryz.ntmps27
 go_wp2_with (first
  | (go_at_call 46
     refine a0B ?_;intro W1 hW1;have hb1:jB w W1:=by rw [hW1];exact a0C jR _
     have hx1:W1.heap[w.heap.size]?=some (.cells #[.int .i64 (N:Nat),.int .i64 c.sa,.int .i64 c.lo,.int .i64 c.hi] 23 (0,0)):=by rw [hW1];exact heap_alloc_new _ _
     clear hW1;refine (HNR.out W1).mono ?_;rintro e w2 ⟨rfl,hb2⟩;have HX2:=jH (jK hb2 hx1);have HB2:=jH (a0D hb1 hb2);clear hb1 hb2 hx1)
  | (go_at_call 78
     refine (h1J _).mono ?_;rintro e w3 ⟨rfl,hw3⟩;have hb3:jB w2 w3:=by rw [hw3];exact a0C (a0C jR _) _
     have HX3:=jH (jK hb3 HX2.out);have HB3:=jH (a0D HB2.out hb3);have HH3:=jH (show w3.heap[w2.heap.size+1]?=some (.cells #[.map (some w2.heap.size),.int .i64 1] 229 (0,0)) by rw [hw3];exact b0R _ _ _);have HL3:=jH (show b0N hdV q0A w3 w2.heap.size ([]:List (HN × Nat)) by rw [hw3];exact (b0N.made w2).below (a0C jR _));have HZ3:=jH (show w3.heap.size=w2.heap.size+2 by rw [hw3];simp);obtain ⟨c1,c2,c3⟩:=a0A jR HX3.out
     clear hw3 hb3))
 have HM:=jH (show n1L w (w3.alloc (.cells #[.slice none 0 0,.pointer (some ⟨w2.heap.size+1,0,none⟩),.int .i64 0,.bool false] 148)) w3.heap.size (w2.heap.size+1) w2.heap.size (w3.heap.size+1) c rs rh (.slice none 0 0) [] from by
  have hba:=a0C (Below.refl w3.heap.size w3) (.cells #[.slice none 0 0,.pointer (some ⟨w2.heap.size+1,0,none⟩),.int .i64 0,.bool false] 148);have hz:=HZ3.out;have hlt:w.heap.size<w2.heap.size:=(jL HX2.out);refine ⟨?_,a0D HB3.out hba,heap_alloc_new _ _,(hba.block _ (by omega)).trans HH3.out,HL3.out.below hba,⟨by omega,by omega,by omega,by omega,by omega,by omega,by simp⟩,by omega,b0Q.nil _ _,(fun s hs=>by cases hs),(fun i j s t hi=>by simp at hi),(fun s hs=>by cases hs)⟩
  rw [HNC.out];exact (hba.block _ (by omega)).trans HX3.out)
 clear c1 c2 c3
 go_loopg [16] N (fun g s16 wr=>∃(v:Value) (sts:List St),sts.length≤N∧N - sts.length≤g∧s16=.int .i64 (sts.length:Nat)∧n1L w wr w3.heap.size (w2.heap.size+1) w2.heap.size (w3.heap.size+1) c rs rh v sts)
 case atStart=>exact ⟨_,[],Nat.zero_le _,Nat.le_refl _,rfl,HM.out⟩
 case round =>
  obtain ⟨v,sts,hk,hg,rfl,hat⟩:=hrel;rename World=>wr
  obtain ⟨A3,c3,rfl⟩:=hat.own.form;have HA:=jH hat;obtain ⟨a1,a2,a3⟩:=a0A jR hat.cell;obtain ⟨d1,d2,d3⟩:=a0A jR hat.x0;rw [HNC.out] at d1;have hlow:=hat.low;clear hat
  by_cases hlt:sts.length<N
  · have z1:(sts.length:Int)<(N:Int):=by omega
    go_wp2_with fail
    go_region_law (first
     | (refine d0B eStp (by rfl) (.tmp 22) (.tmp 25) (by rfl) (w3.heap.size+1) sts [⟨T,M,0,[]⟩] (.slice A3 sts.length c3) _ (by rfl) (by rfl) (HO4.out.below (by repeat (first|exact jR|refine a0C ?_ _|refine Below.drew ?_|refine a0F ?_ _))) (a0O.lit (n:=1) (f:=stpC) _ ⟨T,M,0,[]⟩ _ _ _ (by first|rfl|simp) rfl) (by simp;omega) (by have:=HZ4.out;simp;omega) ?_
        intro out6 A6 c6 w6 hout6 hown6 hg6 hblk6;have HG6:=jH hg6;have HBK6:=jH hblk6;have HO6:=jH hown6;have HE6:=jH hout6;have hS6:=(hg6.block w3.heap.size (by simp;have:=HZ4.out;omega) (fun e=>by have:=HO4.out.lt e.symm;omega)).trans (((by repeat (first|exact jR|refine a0C ?_ _|refine Below.drew ?_|refine a0F ?_ _):jB w4 _).block _ (by have:=HZ4.out;omega)).trans HC4.out);obtain ⟨e1,e2,e3⟩:=a0A jR hS6
        clear hS6 hout6 hown6 hg6 hblk6)
     | (go_simp
        go_at_call 79
        refine a0B ?_;intro W2 hW2;have hb2:jB wr W2:=by rw [hW2];repeat (first|exact jR|refine a0C ?_ _|refine Below.drew ?_)
        clear hW2;refine (CN.out W2).mono ?_;rintro e w4 ⟨T,fp,rfl,hs4,hf4,hb4⟩;obtain ⟨M,hs5,hfp⟩:=hs4.at_;have hTM:wr.heap.size≤T∧wr.heap.size≤M:=by
         have h1:=hf4 T (by rw [hfp];simp);have h2:=hf4 M (by rw [hfp];simp);have:=hb2.size;omega
        have HTM:=jH hTM;have HS5:=jH hs5;have HB4:=jH (a0D hb2 hb4);have HO4:=jH (HA.out.own.below (a0D hb2 hb4));have HZ4:=jH (show w3.heap.size+1≤w4.heap.size from Nat.le_trans (by omega) (a0D hb2 hb4).size);have HC4:=jH (((a0D hb2 hb4).block _ (Array.getElem?_eq_some_iff.1 HA.out.cell).1).trans HA.out.cell);obtain ⟨q1,q2,q3⟩:=a0A (a0D hb2 hb4) HA.out.cell;obtain ⟨p1,p2,p3⟩:=a0A (a0D hb2 hb4) HA.out.x0
        clear hs4 hf4 hb4 hb2 hs5 hfp hTM))
    all_goals
      have hw:IntKind.i64.wrap ((sts.length:Nat)+1:Int)=((sts.length+1:Nat):Int):=by rw [IntKind.wrap_i64];omega
      go_wp2
      go_roundg (N - (sts.length+1))
      case measure=>omega
      case rel =>
       have hout:=HE6.out;subst hout;exact ⟨_,_,by simp;omega,by simp,by simp,HA.out.step HB4.out HS5.out HTM.out (by repeat (first|exact jR|refine a0C ?_ _|refine Below.drew ?_|refine a0F ?_ _)) HG6.out HBK6.out HO6.out rfl⟩
  · obtain rfl:N=sts.length:=by omega
    have z1:¬(sts.length:Int)<(sts.length:Int):=by omega
    go_wp2
    go_ret2
    obtain ⟨d,hd,hds⟩:=HA.out.done hN1;exact ⟨_,d,rfl,by rw [hds];exact hd,by rw [hds];exact HNC.out.symm,HA.out.b⟩
end
end Go.Proofs.YtmniiodpbebnmaaGreat
