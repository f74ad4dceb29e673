/- Part 43 of the proof: FlRi. -/
import Derived.Test.YtkcdhaallnhhmaaGreatQ36
namespace Go.Proofs.YtkcdhaallnhhmaaGreat
set_option linter.unusedSimpArgs false
set_option linter.unusedVariables false
set_option linter.unusedSectionVars false
set_option maxRecDepth 100000
set_option maxHeartbeats 16000000
section
open Go.RowKit Go.Lib
theorem str_ne22 {s t:ByteArray} (h:¬s=t):(s.toList == t.toList)=false:=by
 rw [beq_eq_false_iff_ne,ne_eq];intro e;rw [ByteArray.toList_eq,ByteArray.toList_eq] at e;exact h (ByteArray.ext (Array.toList_inj.1 e))
theorem ids22_any (P:Nat→Prop) (c:Cfg) (rs rh n:Nat) (x:WdH) (v:Value) (l:List ByteArray) (w:World) (hP:∀b,w.heap.size≤b→P b) (hx:WdIn P w x) (hst:c.st≤64) (hk:WdOk c rs rh n (absW x)) (hv:RowIn 1 idC w v l) (hl:l.length≤1000) (hm:∀s∈l,s.size≤maxLen) :
 Calls Tryz.prog 55 #[.agg (wdC c x).toArray,v] w fun e w'=>∃v',e=.returned v'∧OwnL idC 9 1 w.heap.size w' v' (refI (fun id=>(loadW (absW x) id).isSome && idS id) l)∧jB w w':=by
 obtain ⟨A,cp,rfl⟩:=hv.form;have CL:=jH (fun (id:ByteArray) (hid:id.size≤maxLen) (W0:World) (hW0:jB w W0)=>load21_at P c rs rh n x id W0 (fun b hb=>hP b (Nat.le_trans hW0.size hb)) (hx.below hW0) hst hk hid);have HM:=jH hm;have HV:=jH hv;have HL:=jH hl;obtain ⟨ok,hok⟩:∃f:ByteArray→Bool,f=fun id=>(loadW (absW x) id).isSome && idS id:=⟨_,rfl⟩
 rw [←hok];have HOK:=jH (fun id=>congrFun hok id);clear hP hx hst hk hv hl hm hok;unfold wdC at CL ⊢
 go_enter Tryz.func55,Tryz.ntmps55
 go_upto_region 1 with fail
 refine name_world ?_;intro W0 hW0;have HB0:=jH (show jB w W0 by rw [hW0];exact balloc jR _);have HX0:=jH (show W0.heap[w.heap.size]?=some (.cells #[.int .i64 c.st,.int .i64 c.sa,.int .i64 c.lo,.int .i64 c.hi,.slice x.sA x.st.length x.sc,.slice x.cA x.cuts.length x.cc,.int .i64 x.ep,.bool x.over] 32 (0,0)) by rw [hW0];exact heap_alloc_new _ _);clear hW0;go_wp2_with fail
 go_loopg [5,6] l.length (fun g s5 s6 wr=>∃k:Nat,k≤l.length∧l.length - k≤g∧s6=.int .i64 k∧OwnL idC 9 1 W0.heap.size wr s5 (refI ok (l.take k))∧jB W0 wr)
 case atStart=>exact ⟨0,Nat.zero_le _,Nat.le_refl _,rfl,by rw [List.take_zero];exact OwnL.nil _ _,jR⟩
 case round =>
  obtain ⟨k,hk,hg,rfl,hown,hb⟩:=hrel;rename World=>wr
  obtain ⟨out,hout⟩:∃pre,pre=refI ok (l.take k):=⟨_,rfl⟩;rw [←hout] at hown;obtain ⟨A5,c5,rfl⟩:=hown.form;have HOL:=jH (show out.length≤1000 by rw [hout];have:=refI_len ok (l.take k);rw [List.length_take] at this;have:=HL.out;omega);have HOM:=jH (show ∀y∈out,y.size≤maxLen from fun y hy=>HM.out y (List.mem_of_mem_take (mem_refI.1 (by rw [hout] at hy;exact hy)).1));have HOUT:=jH hout;have HO:=jH hown
  have HB:=jH hb;clear hout hown hb
  by_cases hlt:k<l.length
  · obtain ⟨b1,o1,rfl,hb1,hc⟩:=HV.out.at_ hlt
    have hms:=HM.out _ (List.getElem_mem hlt);have hl9:l.length≤1000:=HL.out;have hol9:out.length≤1000:=HOL.out;have HTK:=jH (show refI ok (l.take (k+1))=if ok l[k]=true then insB l[k] out else out by
     rw [HOUT.out,List.take_succ_eq_append_getElem hlt];unfold refI;rw [List.foldl_append];rfl)
    have z1:(0:Int)≤(k:Int):=by omega
    have z2:(k:Int)<(l.length:Int):=by omega
    generalize l[k]=s at hc hms HTK;have rd:∀W,jB wr W→W.cell? ⟨b1,o1+k,none⟩=some (.string s):=fun W hW=>by
     have h9:=hc 0 _ rfl;rw [Nat.add_zero,Nat.mul_one] at h9;exact (((bthen HB0.out (bthen HB.out hW)).cell (p:=⟨b1,_,none⟩) hb1)).trans h9
    have rx:∀W,jB wr W→∀j,W.cell? ⟨w.heap.size,j,none⟩=(#[.int .i64 c.st,.int .i64 c.sa,.int .i64 c.lo,.int .i64 c.hi,.slice x.sA x.st.length x.sc,.slice x.cA x.cuts.length x.cc,.int .i64 x.ep,.bool x.over]:Array Value)[j]?:=fun W hW j=>(box_cells (bthen HB.out hW) HX0.out).1 j
    obtain ⟨y,fb,hy,_,hcl⟩:=CL.out s hms wr (bthen HB0.out HB.out);have HCL:=jH hcl;clear hc hcl;have hS00:jB wr wr:=jR;have hS0:jB wr wr.drew:=hS00.drew
    go_upto_region 5 with fail
    go_region_held3 (fun U=>jB wr U)
      (first
        | with_reducible exact hS0
        | with_reducible exact HB1.out
        | with_reducible exact balloc HB1.out _
        | with_reducible exact Below.drew (balloc hS00 _)
        | with_reducible exact balloc hS0 _
        | (iterate 10 (with_reducible refine Below.setCell ?_ (by first|exact Nat.le_refl _|exact HB1.out.size) _)
           first
            | with_reducible exact HB1.out
            | with_reducible exact balloc HB1.out _))
      (first
      | (go_at_call 57
         refine calls_named ?_;intro W1 hW1;have hz:W1.heap[wr.heap.size]?=some (.cells #[.slice none 0 0,.slice none 0 0,.int .i64 0,.int .i64 0,.int .i64 0,.int .i64 0,.int .i64 0,.int .i64 0,.bool false,.int .i64 0] 48 (0,0)):=by
          first
           | (with_reducible refine new_at hW1 ?_
              rfl)
           | (with_reducible refine new_atd hW1 ?_
              rfl)
         subst hW1;refine (HCL.out _ ‹jB wr _›).mono ?_;rintro e w1 ⟨rfl,hb1⟩;have HZ1:=jH (jK hb1 hz);obtain ⟨z1',z2',z3'⟩:=box_cells jR HZ1.out;have HB1:=jH (bthen ‹jB wr _› hb1);clear hb1 hz)
      | (go_at_call 57
         refine calls_named ?_;intro W1 hW1;subst hW1;refine (HCL.out _ ‹jB wr _›).mono ?_;rintro e w1 ⟨rfl,hb1⟩;have HB1:=jH (bthen ‹jB wr _› hb1);clear hb1))
    all_goals
      refine then_named ?_;intro U hU;have HBU:=jH (show jB wr U by
       rw [hU]
       first
        | with_reducible exact balloc HB1.out _
        | (iterate 10 (with_reducible refine Below.setCell ?_ (by first|exact Nat.le_refl _|exact HB1.out.size) _)
           first|with_reducible exact HB1.out|with_reducible exact balloc HB1.out _))
      clear hU
      cases fb
      · have HOKS:=jH (show ok s=false by rw [HOK.out s,hy];rfl)
        go_wp2_with fail
        go_roundg (l.length - (k+1))
        case measure=>omega
        case rel=>exact ⟨k+1,hlt,Nat.le_refl _,by go_num,by rw [HTK.out,if_neg (by rw [HOKS.out];decide)];exact (HO.out.below (bthen HBU.out jR)),bthen HB.out HBU.out⟩
      · cases his:idS s with
        | false =>
          have HOKS:=jH (show ok s=false by rw [HOK.out s,his];simp);have rds:=rd U HBU.out
          go_wp2_with (first
           | (go_at_call 101
              refine (id_any s _ hms).mono ?_;rw [his];rintro e u1 ⟨rfl,rfl⟩))
          go_roundg (l.length - (k+1))
          case measure=>omega
          case rel=>exact ⟨k+1,hlt,Nat.le_refl _,by go_num,by rw [HTK.out,if_neg (by rw [HOKS.out];decide)];exact (HO.out.below (bthen HBU.out jR)),bthen HB.out HBU.out⟩
        | true =>
          have HOKS:=jH (show ok s=true by rw [HOK.out s,hy];simp [his]);have rds:=rd U HBU.out;have HR:=jH ((HO.out.row eId).below HBU.out);have hms9:s.size≤maxLen:=hms
          go_wp2_with (first
           | (go_at_call 101
              refine (id_any s _ hms9).mono ?_;rw [his];rintro e u1 ⟨rfl,rfl⟩))
          go_loopg [9] out.length (fun g s9 wi=>∃a:Nat,a≤out.length∧out.length - a≤g∧s9=.int .i64 a∧(∀j (h:j<out.length),j<a→beforeS out[j] s=true)∧jB U wi)
          case atStart=>exact ⟨0,Nat.zero_le _,Nat.le_refl _,rfl,fun j h hj=>absurd hj (Nat.not_lt_zero _),jR⟩
          case round =>
           obtain ⟨a,ha,hga,rfl,hless,hbi⟩:=hrel;rename World=>wi
           have HLs:=jH hless;clear hless rds;have ha0:(0:Int)≤(a:Int):=by omega
           have rdi:=rd wi (bthen HBU.out hbi)
           by_cases hal:a<out.length
           · obtain ⟨b4,o4,rfl,hbl4,hc4⟩:=HR.out.at_ hal
             have rdo:wi.cell? ⟨b4,o4+a,none⟩=some (.string out[a]):=by
              have h9:=hc4 0 _ rfl;rw [Nat.add_zero,Nat.mul_one] at h9;exact (hbi.cell (p:=⟨b4,_,none⟩) hbl4).trans h9
             have hyf:=HOM.out _ (List.getElem_mem hal);have HY:=jH (show ∃y,y=out[a] from ⟨_,rfl⟩);obtain ⟨y,hye⟩:=HY.out;have HYe:=jH hye;rw [←hye] at rdo hyf;clear hc4 hye;have ha1:(a:Int)<(out.length:Int):=by omega
             have hstep:beforeS y s=true→∀j (h:j<out.length),j<a+1→beforeS out[j] s=true:=fun hly j h hj=>by
              rcases Nat.lt_or_ge j a with h1|h1
              · exact HLs.out j h h1
              · obtain rfl:j=a:=by omega
                rw [←HYe.out];exact hly
             have HST:=jH hstep;clear hstep;have HBq:=fun W=>before_quiet y s W hyf hms9
             cases hbs:beforeS y s with
             | true =>
               rw [hbs] at HBq;have HBQ:=jH HBq;have HBS:=jH hbs;clear hbs HBq;go_wp2_with fail
               go_quiet ((go_at_call 56;exact Calls.quiet_of (HBQ.out _)))
               go_wp2
               go_roundg (out.length - (a+1))
               case measure=>omega
               case rel=>exact ⟨a+1,hal,Nat.le_refl _,by go_num,HST.out HBS.out,below_drewN hbi _⟩
             | false =>
               have HBS:=jH hbs;rw [hbs] at HBq;have HBQ:=jH HBq;clear hbs HBq
               by_cases e1:y=s
               · have HI:=jH (show insB s out=out by
                  rw [insB_at s out a ha HLs.out (fun _=>by rw [←HYe.out];exact HBS.out),if_pos (by rw [List.getElem?_eq_getElem hal,←HYe.out,e1])])
                 have hq9:(s.toList == s.toList)=true:=by simp
                 rw [e1] at rdo HBQ;clear e1;go_wp2_with fail
                 go_quiet ((go_at_call 56;exact Calls.quiet_of (HBQ.out _)))
                 obtain ⟨wj,hwj⟩:∃wj:World,wj=wi.drewN nq:=⟨_,rfl⟩;rw [←hwj];have hbj:jB U wj:=by rw [hwj];exact below_drewN hbi _
                 have rdj:=rd wj (bthen HBU.out hbj);have rdo2:wj.cell? ⟨b4,o4+a,none⟩=some (.string s):=by rw [hwj];exact rdo
                 clear hwj;go_wp2
                 go_quiet (fail)
                 go_wp2
                 go_roundg (l.length - (k+1))
                 case measure=>omega
                 case rel=>exact ⟨k+1,hlt,Nat.le_refl _,by go_num,by rw [HTK.out,if_pos HOKS.out,HI.out];exact HO.out.below (bthen HBU.out (below_drewN hbj _)),bthen HB.out (bthen HBU.out (below_drewN hbj _))⟩
               · have HI:=jH (show insB s out=out.take a++(s::out.drop a) by
                  rw [insB_at s out a ha HLs.out (fun _=>by rw [←HYe.out];exact HBS.out),if_neg (by rw [List.getElem?_eq_getElem hal,←HYe.out];simpa using e1)])
                 have e3:=str_ne22 e1;clear e1;go_wp2_with fail
                 go_quiet ((go_at_call 56;exact Calls.quiet_of (HBQ.out _)))
                 obtain ⟨wj,hwj⟩:∃wj:World,wj=wi.drewN nq:=⟨_,rfl⟩;rw [←hwj];have hbj:jB U wj:=by rw [hwj];exact below_drewN hbi _
                 have rdj:=rd wj (bthen HBU.out hbj);have rdo2:wj.cell? ⟨b4,o4+a,none⟩=some (.string y):=by rw [hwj];exact rdo
                 clear hwj;go_wp2
                 go_quiet (fail)
                 obtain ⟨w2,hw2⟩:∃w2:World,w2=wj.drewN nq:=⟨_,rfl⟩;rw [←hw2];have hb2:jB U w2:=by rw [hw2];exact below_drewN hbj _
                 clear hw2;have hbw2:jB W0 w2:=bthen HB.out (bthen HBU.out hb2);have hs2:=hbw2.size;have hs3:=hb2.size;obtain ⟨mt,At,ct,hmt,hrt,hRt⟩:=row_to eId (HR.out.below hb2) a ha;obtain ⟨mf,Af,cf,hmf,hrf,hRf⟩:=row_from eId (HR.out.below hb2) a ha;have HMT:=jH hmt;have HMF:=jH hmf;have HRT:=jH hRt;have HRF:=jH hRf;have hmtl:mt.length≤1000000:=by rw [hmt,List.length_take];have:=HOL.out;omega
                 have hmfl:mf.length≤1000000:=by rw [hmf,List.length_drop];have:=HOL.out;omega
                 have hbwr2:jB wr w2:=bthen HBU.out hb2;have rd2:∀W,jB w2 W→W.cell? ⟨b1,o1+k,none⟩=some (.string s):=fun W hW=>rd W (bthen hbwr2 hW)
                 have HRD:=jH rd2;clear hmt hmf hRt hRf rd rd2 rx
                 go_wp2_with (first
                  | (at_builtin;refine wpList_appendL eId (by rfl) (s:=.tmp 68) (x:=.tmp 71) (by rfl) w2.heap.size [] mt _ _ (by rfl) (by rfl) (OwnL.lit0 _ w2 _ _ rfl (Nat.le_refl _)) (HRT.out.below (balloc jR _)) (by simp;omega) (by simp) ?_;intro out6 A6 c6 w6 hout6 hown6 hg6 _
                     have HO6:=jH hout6;have HW6:=jH hown6;have hb6:jB w2 w6:=(balloc jR _).trans (grown_below hg6 (by simp) (fun r hr=>by have hr':some w2.heap.size=some r:=hr;injection hr';omega));have hl6:out6.length≤1000000:=by rw [hout6];simpa using hmtl
                     have rd6:=HRD.out w6 hb6;clear hout6 hown6 hg6)
                  | (at_builtin;refine wpList_appendL eId (by rfl) (s:=.tmp 73) (x:=.tmp 78) (by rfl) w2.heap.size out6 [s] _ _ (by rfl) (by rfl) (HW6.out.below (balloc jR _)) (RowIn.lit w6 s _ _ _ rfl rfl) (by simp;omega) (by have:=hb6.size;simp;omega) ?_;intro out7 A7 c7 w7 hout7 hown7 hg7 _
                     have HO7:=jH hout7;have HW7:=jH hown7;have hb7:jB w2 w7:=(balloc hb6 _).trans (grown_own hg7 HW6.out (by have:=hb6.size;simp;omega));have hl7:out7.length≤1000001:=by rw [hout7];simp;omega
                     clear hout7 hown7 hg7)
                  | (at_builtin;refine wpList_appendL eId (by rfl) (s:=.tmp 80) (x:=.tmp 83) (by rfl) w2.heap.size out7 mf _ _ (by rfl) (by rfl) HW7.out (HRF.out.below hb7) (by omega) hb7.size ?_;intro out8 A8 c8 w8 hout8 hown8 hg8 _
                     have HO8:=jH hout8;have HW8:=jH hown8;have hb8:jB w2 w8:=hb7.trans (grown_own hg8 HW7.out hb7.size);clear hout8 hown8 hg8))
                 go_roundg (l.length - (k+1))
                 case measure=>omega
                 case rel =>
                  refine ⟨k+1,hlt,Nat.le_refl _,by go_num,?_,hbw2.trans (hb8.mono hs2)⟩;rw [HTK.out,if_pos HOKS.out,HI.out];have e8:out8=out.take a++(s::out.drop a):=by rw [HO8.out,HO7.out,HO6.out,HMT.out,HMF.out];simp
                  rw [←e8];exact HW8.out.lower hs2
           · go_wp2_with fail
             go_quiet (fail)
             obtain ⟨wj,hwj⟩:∃wj:World,wj=wi.drewN nq:=⟨_,rfl⟩;rw [←hwj];have hbj:jB U wj:=by rw [hwj];exact below_drewN hbi _
             have rdj:=rd wj (bthen HBU.out hbj);clear hwj;go_wp2
             go_quiet (fail)
             have HI:=jH (show insB s out=out.take a++(s::out.drop a) by
              rw [insB_at s out a ha HLs.out (fun h=>absurd h (by omega)),if_neg (by rw [List.getElem?_eq_none (by omega)];simp)])
             obtain ⟨w2,hw2⟩:∃w2:World,w2=wj.drewN nq:=⟨_,rfl⟩;rw [←hw2];have hb2:jB U w2:=by rw [hw2];exact below_drewN hbj _
             clear hw2;have hbw2:jB W0 w2:=bthen HB.out (bthen HBU.out hb2);have hs2:=hbw2.size;have hs3:=hb2.size;obtain ⟨mt,At,ct,hmt,hrt,hRt⟩:=row_to eId (HR.out.below hb2) a ha;obtain ⟨mf,Af,cf,hmf,hrf,hRf⟩:=row_from eId (HR.out.below hb2) a ha;have HMT:=jH hmt;have HMF:=jH hmf;have HRT:=jH hRt;have HRF:=jH hRf;have hmtl:mt.length≤1000000:=by rw [hmt,List.length_take];have:=HOL.out;omega
             have hmfl:mf.length≤1000000:=by rw [hmf,List.length_drop];have:=HOL.out;omega
             have hbwr2:jB wr w2:=bthen HBU.out hb2;have rd2:∀W,jB w2 W→W.cell? ⟨b1,o1+k,none⟩=some (.string s):=fun W hW=>rd W (bthen hbwr2 hW)
             have HRD:=jH rd2;clear hmt hmf hRt hRf rd rd2 rx
             go_wp2_with (first
              | (at_builtin;refine wpList_appendL eId (by rfl) (s:=.tmp 68) (x:=.tmp 71) (by rfl) w2.heap.size [] mt _ _ (by rfl) (by rfl) (OwnL.lit0 _ w2 _ _ rfl (Nat.le_refl _)) (HRT.out.below (balloc jR _)) (by simp;omega) (by simp) ?_;intro out6 A6 c6 w6 hout6 hown6 hg6 _
                 have HO6:=jH hout6;have HW6:=jH hown6;have hb6:jB w2 w6:=(balloc jR _).trans (grown_below hg6 (by simp) (fun r hr=>by have hr':some w2.heap.size=some r:=hr;injection hr';omega));have hl6:out6.length≤1000000:=by rw [hout6];simpa using hmtl
                 have rd6:=HRD.out w6 hb6;clear hout6 hown6 hg6)
              | (at_builtin;refine wpList_appendL eId (by rfl) (s:=.tmp 73) (x:=.tmp 78) (by rfl) w2.heap.size out6 [s] _ _ (by rfl) (by rfl) (HW6.out.below (balloc jR _)) (RowIn.lit w6 s _ _ _ rfl rfl) (by simp;omega) (by have:=hb6.size;simp;omega) ?_;intro out7 A7 c7 w7 hout7 hown7 hg7 _
                 have HO7:=jH hout7;have HW7:=jH hown7;have hb7:jB w2 w7:=(balloc hb6 _).trans (grown_own hg7 HW6.out (by have:=hb6.size;simp;omega));have hl7:out7.length≤1000001:=by rw [hout7];simp;omega
                 clear hout7 hown7 hg7)
              | (at_builtin;refine wpList_appendL eId (by rfl) (s:=.tmp 80) (x:=.tmp 83) (by rfl) w2.heap.size out7 mf _ _ (by rfl) (by rfl) HW7.out (HRF.out.below hb7) (by omega) hb7.size ?_;intro out8 A8 c8 w8 hout8 hown8 hg8 _
                 have HO8:=jH hout8;have HW8:=jH hown8;have hb8:jB w2 w8:=hb7.trans (grown_own hg8 HW7.out hb7.size);clear hout8 hown8 hg8))
             go_roundg (l.length - (k+1))
             case measure=>omega
             case rel =>
              refine ⟨k+1,hlt,Nat.le_refl _,by go_num,?_,hbw2.trans (hb8.mono hs2)⟩;rw [HTK.out,if_pos HOKS.out,HI.out];have e8:out8=out.take a++(s::out.drop a):=by rw [HO8.out,HO7.out,HO6.out,HMT.out,HMF.out];simp
              rw [←e8];exact HW8.out.lower hs2
  · obtain rfl:k=l.length:=by omega
    have hp:=HOUT.out;rw [List.take_length] at hp;have HP9:=jH hp;clear hp;go_wp2_with fail
    go_ret
    exact ⟨_,rfl,by rw [←HP9.out];exact HO.out.lower HB0.out.size,bthen HB0.out HB.out⟩
end
end Go.Proofs.YtkcdhaallnhhmaaGreat
