/- Part 51 of the proof: OrdRep. -/
import Derived.Test.YtkcdhaallnhhmaaGreatL49
import Derived.Test.YtkcdhaallnhhmaaGreatL50
namespace Go.Proofs.YtkcdhaallnhhmaaGreat
set_option linter.unusedSimpArgs false
set_option linter.unusedVariables false
set_option linter.unusedSectionVars false
set_option maxRecDepth 100000
set_option maxHeartbeats 16000000
section
open Go.RowKit Go.Lib
theorem ordR_nil (c:Cfg) (v:Value) (es:List EvtD) (w:World) (hv:RowIn 34 evC w v es) (hok:∀e∈es,e.ok) (hc:c.ok) (hcb:cfgB c=false) :
 Calls Tryz.prog 7 #[cfgV c,v] w (jP w (.bool true)):=by
 obtain ⟨A,cp,rfl,hAc,h0⟩:=id hv;clear h0;have CR:=jH (fun W=>ref17Right_any c W);rw [hcb] at CR;unfold cfgV at CR ⊢;clear hv hok hc hcb hAc
 go_enter Tryz.func7,Tryz.ntmps7
 go_wp2_with (first
  | (go_at_call 32
     refine calls_named ?_;intro W1 hW1;have HB1:=jH (show jB w W1 by rw [hW1];exact balloc jR _);have HC1:=jH (show W1.heap[w.heap.size]?=some (.cells #[.int .i64 c.st,.int .i64 c.sa,.int .i64 c.lo,.int .i64 c.hi] 23 (0,0)) by rw [hW1];exact heap_alloc_new _ _);clear hW1;refine (awake35_any W1).mono ?_;rintro e w2 ⟨rfl,hb⟩;have HB2:=jH (bthen HB1.out hb);have HC2:=jH (jK hb HC1.out);obtain ⟨c1,c2,c3⟩:=box_cells jR HC2.out
     clear hb)
  | (go_at_call 9
     refine (CR.out _).mono ?_;rintro e w3 ⟨rfl,hb⟩;have HB3:=jH (bthen HB2.out hb);have HC3:=jH (jK hb HC2.out);clear c1 c2 c3;obtain ⟨c1,c2,c3⟩:=box_cells jR HC3.out;clear hb))
 go_ret
 exact ⟨rfl,HB3.out⟩
theorem ordR_long (c:Cfg) (v:Value) (es:List EvtD) (w:World) (hv:RowIn 34 evC w v es) (hok:∀e∈es,e.ok) (hc:c.ok) (hcb:cfgB c=true) (hl:40<es.length) :
 Calls Tryz.prog 7 #[cfgV c,v] w (jP w (.bool true)):=by
 obtain ⟨A,cp,rfl,hAc,h0⟩:=id hv;clear h0;have CR:=jH (fun W=>ref17Right_any c W);rw [hcb] at CR;have q0:(40:Int)<(es.length:Int):=by omega
 unfold cfgV at CR ⊢;clear hv hok hc hcb hAc
 go_enter Tryz.func7,Tryz.ntmps7
 go_wp2_with (first
  | (go_at_call 32
     refine calls_named ?_;intro W1 hW1;have HB1:=jH (show jB w W1 by rw [hW1];exact balloc jR _);have HC1:=jH (show W1.heap[w.heap.size]?=some (.cells #[.int .i64 c.st,.int .i64 c.sa,.int .i64 c.lo,.int .i64 c.hi] 23 (0,0)) by rw [hW1];exact heap_alloc_new _ _);clear hW1;refine (awake35_any W1).mono ?_;rintro e w2 ⟨rfl,hb⟩;have HB2:=jH (bthen HB1.out hb);have HC2:=jH (jK hb HC1.out);obtain ⟨c1,c2,c3⟩:=box_cells jR HC2.out
     clear hb)
  | (go_at_call 9
     refine (CR.out _).mono ?_;rintro e w3 ⟨rfl,hb⟩;have HB3:=jH (bthen HB2.out hb);have HC3:=jH (jK hb HC2.out);clear c1 c2 c3;obtain ⟨c1,c2,c3⟩:=box_cells jR HC3.out;clear hb))
 go_ret
 exact ⟨rfl,HB3.out⟩
theorem ordR_main (c:Cfg) (v:Value) (es:List EvtD) (w:World) (hv:RowIn 34 evC w v es) (hok:∀e∈es,e.ok) (hc:c.ok) (hcb:cfgB c=true) (hl:es.length≤40) :
 Calls Tryz.prog 7 #[cfgV c,v] w (jP w (.bool true)):=by
 obtain ⟨A,cp,rfl,hAc,h0⟩:=id hv;clear h0;have hcc:=cfgOk_of22 hcb hc;have hst:okSt c.st=true:=by unfold cfgB at hcb;simp only [Bool.and_eq_true] at hcb;exact hcb.1
 have hbd:=okSt_bd _ hst;obtain ⟨rs,hrs⟩:∃rs,rs=c.sa.toNat:=⟨_,rfl⟩;obtain ⟨rh,hrh⟩:∃rh,rh=c.hi.toNat:=⟨_,rfl⟩;obtain ⟨k0,hk0⟩:∃k,k=c.st.toNat:=⟨_,rfl⟩;rw [←hrs,←hrh] at hcc;have hk1:(k0:Int)=c.st:=by omega
 have CA:=jH (fun W u (hu:RowIn 34 evC W u es)=>ordReplay_any c rs rh k0 u es W hcc hk1 hu hok (by omega));have CB:=jH (fun W u (hu:RowIn 34 evC W u es)=>refReplay_any c rs rh k0 u es W hcc hk1 hu hok (by omega));have CL:=jH (fun W u (hu:RowIn 34 evC W u es)=>linear_any c rs rh k0 u es W hcc hk1 hu hok (by omega));have CO:=jH (fun W u (hu:RowIn 34 evC W u es)=>otold_any u es W hu hok (by omega));have CP:=jH (fun W u (hu:RowIn 34 evC W u es)=>rtold_any u es W hu (by omega))
 have CQ:=jH (fun W u (hu:RowIn 34 evC W u es)=>right30_any u es W hu (by omega));have CEV:=jH (fun W u (hu:RowIn 34 evC W u es)=>events_any u es W hu (by omega));have CR:=jH (fun W=>ref17Right_any c W);rw [hcb] at CR;have HV:=jH hv;have q0:¬(40:Int)<(es.length:Int):=by omega
 obtain ⟨r,hr⟩:∃r,r=replayE c rs rh (newW k0) 0 es:=⟨_,rfl⟩;obtain ⟨t,ht⟩:∃r,r=toldG [] es:=⟨_,rfl⟩;obtain ⟨p,hp⟩:∃r,r=rightR es:=⟨_,rfl⟩;obtain ⟨q,hq⟩:∃r,r=linW c rs rh k0 es:=⟨_,rfl⟩;have hq2:q=(p && (t && decide (r<0))):=by rw [hq,hp,ht,hr];unfold linW;rw [right_law]
 rw [←hr] at CA CB;rw [←ht] at CO CP;rw [←hp] at CQ;rw [←hq] at CL;clear hv hok hcc hcb hst hbd hrs hrh hk0 hk1 hc hl hAc hr ht hp hq
 cases p with
 | false =>
   obtain rfl:q=false:=hq2
   cases t with
   | false =>
     (try clear hq2)
     as_aux_lemma =>
      unfold cfgV at CA CB CL CR ⊢
      go_enter Tryz.func7,Tryz.ntmps7
      go_wp2_with (first
       | (go_at_call 32
          refine calls_named ?_;intro W1 hW1;have HB1:=jH (show jB w W1 by rw [hW1];exact balloc jR _);have HC1:=jH (show W1.heap[w.heap.size]?=some (.cells #[.int .i64 c.st,.int .i64 c.sa,.int .i64 c.lo,.int .i64 c.hi] 23 (0,0)) by rw [hW1];exact heap_alloc_new _ _);clear hW1;refine (awake35_any W1).mono ?_;rintro e w2 ⟨rfl,hb⟩;have HB2:=jH (bthen HB1.out hb);have HC2:=jH (jK hb HC1.out);obtain ⟨c1,c2,c3⟩:=box_cells jR HC2.out
          clear hb)
       | (go_at_call 9
          refine (CR.out _).mono ?_;rintro e w3 ⟨rfl,hb⟩;have HB3:=jH (bthen HB2.out hb);have HC3:=jH (jK hb HC2.out);clear c1 c2 c3;obtain ⟨c1,c2,c3⟩:=box_cells jR HC3.out;clear hb)
       | (go_at_call 33
          refine (CEV.out w3 _ (HV.out.below HB3.out)).mono ?_;rintro e w4 ⟨u,rfl,hr,hb⟩;obtain ⟨A4,c4,rfl⟩:=hr.form;have HU4:=jH hr;have HB4:=jH (bthen HB3.out hb);have HC4:=jH (jK hb HC3.out);clear c1 c2 c3;obtain ⟨c1,c2,c3⟩:=box_cells jR HC4.out;clear hr hb)
       | (go_at_call 34
          with_reducible refine (CA.out w4 _ HU4.out).mono ?_
          rintro e w5 ⟨rfl,hb⟩;have HB5:=jH (bthen HB4.out hb);have HC5:=jH (jK hb HC4.out);have HU5:=jH (HU4.out.below hb);clear c1 c2 c3;obtain ⟨c1,c2,c3⟩:=box_cells jR HC5.out;clear hb)
       | (go_at_call 35
          with_reducible refine (CO.out w5 _ HU5.out).mono ?_
          rintro e w6 ⟨rfl,hb⟩;have HB6:=jH (bthen HB5.out hb);have HC6:=jH (jK hb HC5.out);have HU6:=jH (HU5.out.below hb);clear c1 c2 c3;obtain ⟨c1,c2,c3⟩:=box_cells jR HC6.out;clear hb)
       | (go_at_call 36
          with_reducible refine (CB.out w6 _ (HV.out.below HB6.out)).mono ?_
          rintro e w7 ⟨rfl,hb⟩;have HB7:=jH (bthen HB6.out hb);have HC7:=jH (jK hb HC6.out);have HU7:=jH (HU6.out.below hb);clear c1 c2 c3;obtain ⟨c1,c2,c3⟩:=box_cells jR HC7.out;clear hb)
       | (go_at_call 37
          with_reducible refine (CP.out w7 _ (HV.out.below HB7.out)).mono ?_
          rintro e w8 ⟨rfl,hb⟩;have HB8:=jH (bthen HB7.out hb);have HC8:=jH (jK hb HC7.out);have HU8:=jH (HU7.out.below hb);clear c1 c2 c3;obtain ⟨c1,c2,c3⟩:=box_cells jR HC8.out;clear hb)
       | (go_at_call 38
          with_reducible refine (CL.out w8 _ HU8.out).mono ?_
          rintro e w9 ⟨rfl,hb⟩;have HB9:=jH (bthen HB8.out hb);have HC9:=jH (jK hb HC8.out);have HU9:=jH (HU8.out.below hb);clear c1 c2 c3;obtain ⟨c1,c2,c3⟩:=box_cells jR HC9.out;clear hb)
       | (go_at_call 39
          with_reducible refine (CQ.out w9 _ (HV.out.below HB9.out)).mono ?_
          rintro e w10 ⟨rfl,hb⟩;have HB10:=jH (bthen HB9.out hb);have HC10:=jH (jK hb HC9.out);have HU10:=jH (HU9.out.below hb);clear c1 c2 c3;obtain ⟨c1,c2,c3⟩:=box_cells jR HC10.out;clear hb))
      go_ret
      exact ⟨rfl,HB10.out⟩
   | true =>
     (try clear hq2)
     as_aux_lemma =>
      unfold cfgV at CA CB CL CR ⊢
      go_enter Tryz.func7,Tryz.ntmps7
      go_wp2_with (first
       | (go_at_call 32
          refine calls_named ?_;intro W1 hW1;have HB1:=jH (show jB w W1 by rw [hW1];exact balloc jR _);have HC1:=jH (show W1.heap[w.heap.size]?=some (.cells #[.int .i64 c.st,.int .i64 c.sa,.int .i64 c.lo,.int .i64 c.hi] 23 (0,0)) by rw [hW1];exact heap_alloc_new _ _);clear hW1;refine (awake35_any W1).mono ?_;rintro e w2 ⟨rfl,hb⟩;have HB2:=jH (bthen HB1.out hb);have HC2:=jH (jK hb HC1.out);obtain ⟨c1,c2,c3⟩:=box_cells jR HC2.out
          clear hb)
       | (go_at_call 9
          refine (CR.out _).mono ?_;rintro e w3 ⟨rfl,hb⟩;have HB3:=jH (bthen HB2.out hb);have HC3:=jH (jK hb HC2.out);clear c1 c2 c3;obtain ⟨c1,c2,c3⟩:=box_cells jR HC3.out;clear hb)
       | (go_at_call 33
          refine (CEV.out w3 _ (HV.out.below HB3.out)).mono ?_;rintro e w4 ⟨u,rfl,hr,hb⟩;obtain ⟨A4,c4,rfl⟩:=hr.form;have HU4:=jH hr;have HB4:=jH (bthen HB3.out hb);have HC4:=jH (jK hb HC3.out);clear c1 c2 c3;obtain ⟨c1,c2,c3⟩:=box_cells jR HC4.out;clear hr hb)
       | (go_at_call 34
          with_reducible refine (CA.out w4 _ HU4.out).mono ?_
          rintro e w5 ⟨rfl,hb⟩;have HB5:=jH (bthen HB4.out hb);have HC5:=jH (jK hb HC4.out);have HU5:=jH (HU4.out.below hb);clear c1 c2 c3;obtain ⟨c1,c2,c3⟩:=box_cells jR HC5.out;clear hb)
       | (go_at_call 35
          with_reducible refine (CO.out w5 _ HU5.out).mono ?_
          rintro e w6 ⟨rfl,hb⟩;have HB6:=jH (bthen HB5.out hb);have HC6:=jH (jK hb HC5.out);have HU6:=jH (HU5.out.below hb);clear c1 c2 c3;obtain ⟨c1,c2,c3⟩:=box_cells jR HC6.out;clear hb)
       | (go_at_call 36
          with_reducible refine (CB.out w6 _ (HV.out.below HB6.out)).mono ?_
          rintro e w7 ⟨rfl,hb⟩;have HB7:=jH (bthen HB6.out hb);have HC7:=jH (jK hb HC6.out);have HU7:=jH (HU6.out.below hb);clear c1 c2 c3;obtain ⟨c1,c2,c3⟩:=box_cells jR HC7.out;clear hb)
       | (go_at_call 37
          with_reducible refine (CP.out w7 _ (HV.out.below HB7.out)).mono ?_
          rintro e w8 ⟨rfl,hb⟩;have HB8:=jH (bthen HB7.out hb);have HC8:=jH (jK hb HC7.out);have HU8:=jH (HU7.out.below hb);clear c1 c2 c3;obtain ⟨c1,c2,c3⟩:=box_cells jR HC8.out;clear hb)
       | (go_at_call 38
          with_reducible refine (CL.out w8 _ HU8.out).mono ?_
          rintro e w9 ⟨rfl,hb⟩;have HB9:=jH (bthen HB8.out hb);have HC9:=jH (jK hb HC8.out);have HU9:=jH (HU8.out.below hb);clear c1 c2 c3;obtain ⟨c1,c2,c3⟩:=box_cells jR HC9.out;clear hb)
       | (go_at_call 39
          with_reducible refine (CQ.out w9 _ (HV.out.below HB9.out)).mono ?_
          rintro e w10 ⟨rfl,hb⟩;have HB10:=jH (bthen HB9.out hb);have HC10:=jH (jK hb HC9.out);have HU10:=jH (HU9.out.below hb);clear c1 c2 c3;obtain ⟨c1,c2,c3⟩:=box_cells jR HC10.out;clear hb))
      go_ret
      exact ⟨rfl,HB10.out⟩
 | true =>
   cases t with
   | false =>
     obtain rfl:q=false:=hq2
     (try clear hq2)
     as_aux_lemma =>
      unfold cfgV at CA CB CL CR ⊢
      go_enter Tryz.func7,Tryz.ntmps7
      go_wp2_with (first
       | (go_at_call 32
          refine calls_named ?_;intro W1 hW1;have HB1:=jH (show jB w W1 by rw [hW1];exact balloc jR _);have HC1:=jH (show W1.heap[w.heap.size]?=some (.cells #[.int .i64 c.st,.int .i64 c.sa,.int .i64 c.lo,.int .i64 c.hi] 23 (0,0)) by rw [hW1];exact heap_alloc_new _ _);clear hW1;refine (awake35_any W1).mono ?_;rintro e w2 ⟨rfl,hb⟩;have HB2:=jH (bthen HB1.out hb);have HC2:=jH (jK hb HC1.out);obtain ⟨c1,c2,c3⟩:=box_cells jR HC2.out
          clear hb)
       | (go_at_call 9
          refine (CR.out _).mono ?_;rintro e w3 ⟨rfl,hb⟩;have HB3:=jH (bthen HB2.out hb);have HC3:=jH (jK hb HC2.out);clear c1 c2 c3;obtain ⟨c1,c2,c3⟩:=box_cells jR HC3.out;clear hb)
       | (go_at_call 33
          refine (CEV.out w3 _ (HV.out.below HB3.out)).mono ?_;rintro e w4 ⟨u,rfl,hr,hb⟩;obtain ⟨A4,c4,rfl⟩:=hr.form;have HU4:=jH hr;have HB4:=jH (bthen HB3.out hb);have HC4:=jH (jK hb HC3.out);clear c1 c2 c3;obtain ⟨c1,c2,c3⟩:=box_cells jR HC4.out;clear hr hb)
       | (go_at_call 34
          with_reducible refine (CA.out w4 _ HU4.out).mono ?_
          rintro e w5 ⟨rfl,hb⟩;have HB5:=jH (bthen HB4.out hb);have HC5:=jH (jK hb HC4.out);have HU5:=jH (HU4.out.below hb);clear c1 c2 c3;obtain ⟨c1,c2,c3⟩:=box_cells jR HC5.out;clear hb)
       | (go_at_call 35
          with_reducible refine (CO.out w5 _ HU5.out).mono ?_
          rintro e w6 ⟨rfl,hb⟩;have HB6:=jH (bthen HB5.out hb);have HC6:=jH (jK hb HC5.out);have HU6:=jH (HU5.out.below hb);clear c1 c2 c3;obtain ⟨c1,c2,c3⟩:=box_cells jR HC6.out;clear hb)
       | (go_at_call 36
          with_reducible refine (CB.out w6 _ (HV.out.below HB6.out)).mono ?_
          rintro e w7 ⟨rfl,hb⟩;have HB7:=jH (bthen HB6.out hb);have HC7:=jH (jK hb HC6.out);have HU7:=jH (HU6.out.below hb);clear c1 c2 c3;obtain ⟨c1,c2,c3⟩:=box_cells jR HC7.out;clear hb)
       | (go_at_call 37
          with_reducible refine (CP.out w7 _ (HV.out.below HB7.out)).mono ?_
          rintro e w8 ⟨rfl,hb⟩;have HB8:=jH (bthen HB7.out hb);have HC8:=jH (jK hb HC7.out);have HU8:=jH (HU7.out.below hb);clear c1 c2 c3;obtain ⟨c1,c2,c3⟩:=box_cells jR HC8.out;clear hb)
       | (go_at_call 38
          with_reducible refine (CL.out w8 _ HU8.out).mono ?_
          rintro e w9 ⟨rfl,hb⟩;have HB9:=jH (bthen HB8.out hb);have HC9:=jH (jK hb HC8.out);have HU9:=jH (HU8.out.below hb);clear c1 c2 c3;obtain ⟨c1,c2,c3⟩:=box_cells jR HC9.out;clear hb)
       | (go_at_call 39
          with_reducible refine (CQ.out w9 _ (HV.out.below HB9.out)).mono ?_
          rintro e w10 ⟨rfl,hb⟩;have HB10:=jH (bthen HB9.out hb);have HC10:=jH (jK hb HC9.out);have HU10:=jH (HU9.out.below hb);clear c1 c2 c3;obtain ⟨c1,c2,c3⟩:=box_cells jR HC10.out;clear hb))
      go_ret
      exact ⟨rfl,HB10.out⟩
   | true =>
     by_cases hlt:r<0
     · obtain rfl:q=true:=by rw [hq2];simpa using hlt
       (try clear hq2)
       as_aux_lemma =>
        unfold cfgV at CA CB CL CR ⊢
        go_enter Tryz.func7,Tryz.ntmps7
        go_wp2_with (first
         | (go_at_call 32
            refine calls_named ?_;intro W1 hW1;have HB1:=jH (show jB w W1 by rw [hW1];exact balloc jR _);have HC1:=jH (show W1.heap[w.heap.size]?=some (.cells #[.int .i64 c.st,.int .i64 c.sa,.int .i64 c.lo,.int .i64 c.hi] 23 (0,0)) by rw [hW1];exact heap_alloc_new _ _);clear hW1;refine (awake35_any W1).mono ?_;rintro e w2 ⟨rfl,hb⟩;have HB2:=jH (bthen HB1.out hb);have HC2:=jH (jK hb HC1.out);obtain ⟨c1,c2,c3⟩:=box_cells jR HC2.out
            clear hb)
         | (go_at_call 9
            refine (CR.out _).mono ?_;rintro e w3 ⟨rfl,hb⟩;have HB3:=jH (bthen HB2.out hb);have HC3:=jH (jK hb HC2.out);clear c1 c2 c3;obtain ⟨c1,c2,c3⟩:=box_cells jR HC3.out;clear hb)
         | (go_at_call 33
            refine (CEV.out w3 _ (HV.out.below HB3.out)).mono ?_;rintro e w4 ⟨u,rfl,hr,hb⟩;obtain ⟨A4,c4,rfl⟩:=hr.form;have HU4:=jH hr;have HB4:=jH (bthen HB3.out hb);have HC4:=jH (jK hb HC3.out);clear c1 c2 c3;obtain ⟨c1,c2,c3⟩:=box_cells jR HC4.out;clear hr hb)
         | (go_at_call 34
            with_reducible refine (CA.out w4 _ HU4.out).mono ?_
            rintro e w5 ⟨rfl,hb⟩;have HB5:=jH (bthen HB4.out hb);have HC5:=jH (jK hb HC4.out);have HU5:=jH (HU4.out.below hb);clear c1 c2 c3;obtain ⟨c1,c2,c3⟩:=box_cells jR HC5.out;clear hb)
         | (go_at_call 35
            with_reducible refine (CO.out w5 _ HU5.out).mono ?_
            rintro e w6 ⟨rfl,hb⟩;have HB6:=jH (bthen HB5.out hb);have HC6:=jH (jK hb HC5.out);have HU6:=jH (HU5.out.below hb);clear c1 c2 c3;obtain ⟨c1,c2,c3⟩:=box_cells jR HC6.out;clear hb)
         | (go_at_call 36
            with_reducible refine (CB.out w6 _ (HV.out.below HB6.out)).mono ?_
            rintro e w7 ⟨rfl,hb⟩;have HB7:=jH (bthen HB6.out hb);have HC7:=jH (jK hb HC6.out);have HU7:=jH (HU6.out.below hb);clear c1 c2 c3;obtain ⟨c1,c2,c3⟩:=box_cells jR HC7.out;clear hb)
         | (go_at_call 37
            with_reducible refine (CP.out w7 _ (HV.out.below HB7.out)).mono ?_
            rintro e w8 ⟨rfl,hb⟩;have HB8:=jH (bthen HB7.out hb);have HC8:=jH (jK hb HC7.out);have HU8:=jH (HU7.out.below hb);clear c1 c2 c3;obtain ⟨c1,c2,c3⟩:=box_cells jR HC8.out;clear hb)
         | (go_at_call 38
            with_reducible refine (CL.out w8 _ HU8.out).mono ?_
            rintro e w9 ⟨rfl,hb⟩;have HB9:=jH (bthen HB8.out hb);have HC9:=jH (jK hb HC8.out);have HU9:=jH (HU8.out.below hb);clear c1 c2 c3;obtain ⟨c1,c2,c3⟩:=box_cells jR HC9.out;clear hb)
         | (go_at_call 39
            with_reducible refine (CQ.out w9 _ (HV.out.below HB9.out)).mono ?_
            rintro e w10 ⟨rfl,hb⟩;have HB10:=jH (bthen HB9.out hb);have HC10:=jH (jK hb HC9.out);have HU10:=jH (HU9.out.below hb);clear c1 c2 c3;obtain ⟨c1,c2,c3⟩:=box_cells jR HC10.out;clear hb))
        go_ret
        exact ⟨rfl,HB10.out⟩
     · obtain rfl:q=false:=by rw [hq2];simpa using hlt
       have HD:=jH (show decide (r<0)=false from decide_eq_false hlt)
       (try clear hq2)
       as_aux_lemma =>
        unfold cfgV at CA CB CL CR ⊢
        go_enter Tryz.func7,Tryz.ntmps7
        go_wp2_with (first
         | (go_at_call 32
            refine calls_named ?_;intro W1 hW1;have HB1:=jH (show jB w W1 by rw [hW1];exact balloc jR _);have HC1:=jH (show W1.heap[w.heap.size]?=some (.cells #[.int .i64 c.st,.int .i64 c.sa,.int .i64 c.lo,.int .i64 c.hi] 23 (0,0)) by rw [hW1];exact heap_alloc_new _ _);clear hW1;refine (awake35_any W1).mono ?_;rintro e w2 ⟨rfl,hb⟩;have HB2:=jH (bthen HB1.out hb);have HC2:=jH (jK hb HC1.out);obtain ⟨c1,c2,c3⟩:=box_cells jR HC2.out
            clear hb)
         | (go_at_call 9
            refine (CR.out _).mono ?_;rintro e w3 ⟨rfl,hb⟩;have HB3:=jH (bthen HB2.out hb);have HC3:=jH (jK hb HC2.out);clear c1 c2 c3;obtain ⟨c1,c2,c3⟩:=box_cells jR HC3.out;clear hb)
         | (go_at_call 33
            refine (CEV.out w3 _ (HV.out.below HB3.out)).mono ?_;rintro e w4 ⟨u,rfl,hr,hb⟩;obtain ⟨A4,c4,rfl⟩:=hr.form;have HU4:=jH hr;have HB4:=jH (bthen HB3.out hb);have HC4:=jH (jK hb HC3.out);clear c1 c2 c3;obtain ⟨c1,c2,c3⟩:=box_cells jR HC4.out;clear hr hb)
         | (go_at_call 34
            with_reducible refine (CA.out w4 _ HU4.out).mono ?_
            rintro e w5 ⟨rfl,hb⟩;have HB5:=jH (bthen HB4.out hb);have HC5:=jH (jK hb HC4.out);have HU5:=jH (HU4.out.below hb);clear c1 c2 c3;obtain ⟨c1,c2,c3⟩:=box_cells jR HC5.out;clear hb)
         | (go_at_call 35
            with_reducible refine (CO.out w5 _ HU5.out).mono ?_
            rintro e w6 ⟨rfl,hb⟩;have HB6:=jH (bthen HB5.out hb);have HC6:=jH (jK hb HC5.out);have HU6:=jH (HU5.out.below hb);clear c1 c2 c3;obtain ⟨c1,c2,c3⟩:=box_cells jR HC6.out;clear hb)
         | (go_at_call 36
            with_reducible refine (CB.out w6 _ (HV.out.below HB6.out)).mono ?_
            rintro e w7 ⟨rfl,hb⟩;have HB7:=jH (bthen HB6.out hb);have HC7:=jH (jK hb HC6.out);have HU7:=jH (HU6.out.below hb);clear c1 c2 c3;obtain ⟨c1,c2,c3⟩:=box_cells jR HC7.out;clear hb)
         | (go_at_call 37
            with_reducible refine (CP.out w7 _ (HV.out.below HB7.out)).mono ?_
            rintro e w8 ⟨rfl,hb⟩;have HB8:=jH (bthen HB7.out hb);have HC8:=jH (jK hb HC7.out);have HU8:=jH (HU7.out.below hb);clear c1 c2 c3;obtain ⟨c1,c2,c3⟩:=box_cells jR HC8.out;clear hb)
         | (go_at_call 38
            with_reducible refine (CL.out w8 _ HU8.out).mono ?_
            rintro e w9 ⟨rfl,hb⟩;have HB9:=jH (bthen HB8.out hb);have HC9:=jH (jK hb HC8.out);have HU9:=jH (HU8.out.below hb);clear c1 c2 c3;obtain ⟨c1,c2,c3⟩:=box_cells jR HC9.out;clear hb)
         | (go_at_call 39
            with_reducible refine (CQ.out w9 _ (HV.out.below HB9.out)).mono ?_
            rintro e w10 ⟨rfl,hb⟩;have HB10:=jH (bthen HB9.out hb);have HC10:=jH (jK hb HC9.out);have HU10:=jH (HU9.out.below hb);clear c1 c2 c3;obtain ⟨c1,c2,c3⟩:=box_cells jR HC10.out;clear hb))
        go_ret
        exact ⟨by simp only [HD.out];rfl,HB10.out⟩
theorem ordReplays_law (c:Cfg) (v:Value) (es:List EvtD) (w:World) (hv:RowIn 34 evC w v es) (hok:∀e∈es,e.ok) (hc:c.ok) :
 Calls Tryz.prog 7 #[cfgV c,v] w (jP w (.bool true)):=by
 cases hcb:cfgB c with
 | false=>exact ordR_nil c v es w hv hok hc hcb
 | true =>
   by_cases hl:es.length≤40
   · exact ordR_main c v es w hv hok hc hcb hl
   · exact ordR_long c v es w hv hok hc hcb (by omega)
end
end Go.Proofs.YtkcdhaallnhhmaaGreat
