/- Part 54 of the proof: OrdLaw. -/
import Derived.Test.YtpmfcpdelkchaaaGreatL50
import Derived.Test.YtpmfcpdelkchaaaGreatL51
import Derived.Test.YtpmfcpdelkchaaaGreatL52
import Derived.Test.YtpmfcpdelkchaaaGreatL53
namespace Go.Proofs.YtpmfcpdelkchaaaGreat
set_option linter.unusedSimpArgs false
set_option linter.unusedVariables false
set_option linter.unusedSectionVars false
set_option maxRecDepth 100000
set_option maxHeartbeats 16000000
section
open Go.RowKit Go.Lib
theorem tright_nil (w:World):Calls Tryz.prog 92 #[.slice none 0 0] w (jP w (.bool true)):=by
 have hmm:=@run_makeMap Tryz.prog
 go_enter Tryz.func92,Tryz.ntmps92
 go_wp2_with fail
 go_loopg [10] 0 (fun g s10 wr=>s10=.int .i64 0∧jB w wr)
 case atStart=>exact ⟨rfl,by repeat (first|exact jR|refine balloc ?_ _)⟩
 case round =>
  obtain ⟨rfl,hb⟩:=hrel;have HB:=jH hb;clear hb;go_wp2_with fail
  go_ret
  exact ⟨rfl,HB.out⟩
theorem otold_nil (w:World):Calls Tryz.prog 39 #[.slice none 0 0] w (jP w (.bool true)):=by
 have hmm:=@run_makeMap Tryz.prog
 go_enter Tryz.func39,Tryz.ntmps39
 go_wp2_with fail
 go_loopg [12] 0 (fun g s12 wr=>s12=.int .i64 0∧jB w wr)
 case atStart=>exact ⟨rfl,by repeat (first|exact jR|refine balloc ?_ _)⟩
 case round =>
  obtain ⟨rfl,hb⟩:=hrel;have HB:=jH hb;clear hb;go_wp2_with fail
  go_ret
  exact ⟨rfl,HB.out⟩
def cS35:Cfg:=⟨1,2,2,1⟩
theorem cS35_ok:CfgOk cS35 2 1:=⟨by decide,rfl,rfl,⟨i64_sm (by decide),i64_sm (by decide),i64_sm (by decide),i64_sm (by decide)⟩⟩
theorem row_nil34 (w:World):RowIn 34 evC w (.slice none 0 0) []:=(OwnL.nil (e:=148) 0 w).row eEv
theorem small35 (w:World):Calls Tryz.prog 89 #[] w (jP w (.agg #[.int .i64 1,.int .i64 2,.int .i64 2,.int .i64 1])):=by
 go_enter Tryz.func89,Tryz.ntmps89
 go_wp2_with fail
 first
  | (go_ret;exact ⟨rfl,by repeat (first|exact jR|refine balloc ?_ _)⟩)
  | (refine post_named ?_
     intro W9 hW9;have hb9:jB w W9:=by rw [hW9];repeat (first|exact jR|refine Below.setCell ?_ (by simp) _|refine balloc ?_ _)
     exact bodyPost_ret (v:=.agg #[.int .i64 1,.int .i64 2,.int .i64 2,.int .i64 1]) (by simp [results,Tryz.results89,go_sem,hW9]) rfl ⟨rfl,hb9⟩)
theorem linear_nil (w:World):Calls Tryz.prog 42 #[.agg #[.int .i64 1,.int .i64 2,.int .i64 2,.int .i64 1],.slice none 0 0] w (jP w (.bool true)):=by
 have CR:=jH (fun W=>ordReplay_any cS35 2 1 1 (.slice none 0 0) [] W cS35_ok rfl (row_nil34 W) (fun e h=>by cases h) (by simp));unfold cfgV cS35 at CR;dsimp only at CR
 go_enter Tryz.func42,Tryz.ntmps42
 go_wp2_with (first
  | (go_at_call 92
     refine calls_named ?_;intro W1 hW1;have hb1:jB w W1:=by rw [hW1];exact balloc jR _
     have hc1:W1.heap[w.heap.size]?=some (.cells #[.int .i64 1,.int .i64 2,.int .i64 2,.int .i64 1] 23 (0,0)):=by rw [hW1];exact heap_alloc_new _ _
     clear hW1;refine (tright_nil W1).mono ?_;rintro e w2 ⟨rfl,hb⟩;have HB2:=jH (bthen hb1 hb);have HC2:=jH (jK hb hc1);clear hb1 hc1 hb)
  | (go_at_call 39
     refine (otold_nil w2).mono ?_;rintro e w3 ⟨rfl,hb⟩;have HB3:=jH (bthen HB2.out hb);have HC3:=jH (jK hb HC2.out);obtain ⟨q1,q2,q3⟩:=box_cells jR HC3.out;clear hb)
  | (go_at_call 38
     refine (CR.out w3).mono ?_;rintro e w4 ⟨he,hb⟩;have he9:e=.returned (.int .i64 (-1)):=he;subst he9;have HB4:=jH (bthen HB3.out hb);clear he hb))
 go_ret
 exact ⟨rfl,HB4.out⟩
def eS35:EvtD:=⟨2,0,0,⟨3,⟨#[]⟩,0,0,0,⟨0,0,0,0,0,0⟩⟩,0,2,1,0,0,0,0,0,0,0,0,0,0,0,0,0,0,0,0,0⟩
theorem eS35_ok:eS35.ok:=by
 have h:I64 0:=i64_sm (by decide);have h1:I64 1:=i64_sm (by decide);have h2:I64 2:=i64_sm (by decide);have h3:I64 3:=i64_sm (by decide);exact ⟨h2,h,h,⟨h3,by decide,h,h,h,⟨h,h,h,h,h,h⟩⟩,⟨h,h2,h1,h,h,h,h,h,h,h,h,h,h⟩,by decide,by decide,⟨h,h,h,h,h⟩⟩
theorem replay_s35:replayE cS35 2 1 (newW 1) 0 [eS35]=0:=by
 unfold replayE;rw [applyE_2 rfl];rw [if_neg (by rw [show sameRep (doW cS35 2 1 (newW 1) eS35.call).2 eS35.rep'=false from by decide +kernel];simp)]
theorem awake35_any (w:World):Calls Tryz.prog 36 #[] w (jP w (.bool true)):=by
 have CR:=jH (fun W v (hv:RowIn 34 evC W v [eS35])=>ordReplay_any cS35 2 1 1 v [eS35] W cS35_ok rfl hv (fun e h=>by rw [List.mem_singleton.1 h];exact eS35_ok) (by simp));rw [replay_s35] at CR;unfold cfgV cS35 at CR;dsimp only at CR;have CE:=jH (fun W v (hv:RowIn 34 evC W v [eS35])=>tepochs_any v [eS35] W hv (by simp));have HLE:=jH (show (epE [eS35]).length=1 from by decide);obtain ⟨le,hle⟩:∃r,r=epE [eS35]:=⟨_,rfl⟩
 rw [←hle] at CE HLE;clear hle
 go_enter Tryz.func36,Tryz.ntmps36
 go_upto_region 2 with (first
  | (refine wpList_build_one eEv (by decide) rfl (.tmp 4) rfl (evC eS35) (by rfl) (by rfl) ?_))
 refine name_world ?_;intro W1 hW1;have HB1:=jH (show jB w W1 by rw [hW1];exact balloc jR _);have HV1:=jH (show RowIn 34 evC W1 (.slice (some ⟨w.heap.size,0,none⟩) 1 1) [eS35] by rw [hW1];exact RowIn.lit (n:=34) (f:=evC) w eS35 _ _ _ (by first|rfl|simp) rfl);clear hW1
 go_wp2_with (first
  | (go_at_call 89
     have h9:=HB3
     with_reducible refine (small35 w3).mono ?_
     rintro e w4 ⟨rfl,hb⟩;have HB4:=jH (bthen HB3.out hb);have HV4:=jH (HV3.out.below hb);clear hb h9)
  | (go_at_call 89
     with_reducible refine (small35 W1).mono ?_
     rintro e w2 ⟨rfl,hb⟩;have HB2:=jH (bthen HB1.out hb);have HV2:=jH (HV1.out.below hb);clear hb)
  | (go_at_call 42
     refine (linear_nil w2).mono ?_;rintro e w3 ⟨rfl,hb⟩;have HB3:=jH (bthen HB2.out hb);have HV3:=jH (HV2.out.below hb);clear hb)
  | (go_at_call 38
     refine (CR.out w4 _ HV4.out).mono ?_;rintro e w5 ⟨rfl,hb⟩;have HB5:=jH (bthen HB4.out hb);have HV5:=jH (HV4.out.below hb);clear hb)
  | (go_at_call 46
     refine (CE.out w5 _ HV5.out).mono ?_;rintro e w6 ⟨u,rfl,hr,hb⟩;obtain ⟨A9,c9,rfl⟩:=hr.form;have HB6:=jH (bthen HB5.out hb);have hl9:=HLE.out;clear hr hb))
 go_ret
 exact ⟨rfl,HB6.out⟩
theorem ordA_nil (c:Cfg) (n:Int) (v:Value) (es:List EvtD) (w:World) (hv:RowIn 34 evC w v es) (hok:∀e∈es,e.ok) (hc:c.ok) (hcb:cfgB c=false) :
 Calls Tryz.prog 8 #[cfgV c,v,.int .i64 n] w (jP w (.bool true)):=by
 obtain ⟨A,cp,rfl,hAc,h0⟩:=id hv;clear h0;have CR:=jH (fun W=>ref17Right_any c W);rw [hcb] at CR;unfold cfgV at CR ⊢;clear hv hok hc hcb hAc
 go_enter Tryz.func8,Tryz.ntmps8
 go_wp2_with (first
  | (go_at_call 36
     refine calls_named ?_;intro W1 hW1;have HB1:=jH (show jB w W1 by rw [hW1];exact balloc jR _);have HC1:=jH (show W1.heap[w.heap.size]?=some (.cells #[.int .i64 c.st,.int .i64 c.sa,.int .i64 c.lo,.int .i64 c.hi] 23 (0,0)) by rw [hW1];exact heap_alloc_new _ _);clear hW1;refine (awake35_any W1).mono ?_;rintro e w2 ⟨rfl,hb⟩;have HB2:=jH (bthen HB1.out hb);have HC2:=jH (jK hb HC1.out);obtain ⟨c1,c2,c3⟩:=box_cells jR HC2.out
     clear hb)
  | (go_at_call 13
     refine (CR.out _).mono ?_;rintro e w3 ⟨rfl,hb⟩;have HB3:=jH (bthen HB2.out hb);have HC3:=jH (jK hb HC2.out);clear c1 c2 c3;obtain ⟨c1,c2,c3⟩:=box_cells jR HC3.out;clear hb))
 go_ret
 exact ⟨rfl,HB3.out⟩
theorem ordA_long (c:Cfg) (n:Int) (v:Value) (es:List EvtD) (w:World) (hv:RowIn 34 evC w v es) (hok:∀e∈es,e.ok) (hc:c.ok) (hcb:cfgB c=true) (hl:40<es.length) :
 Calls Tryz.prog 8 #[cfgV c,v,.int .i64 n] w (jP w (.bool true)):=by
 obtain ⟨A,cp,rfl,hAc,h0⟩:=id hv;clear h0;have CR:=jH (fun W=>ref17Right_any c W);rw [hcb] at CR;have q0:(40:Int)<(es.length:Int):=by omega
 unfold cfgV at CR ⊢;clear hv hok hc hcb hAc
 go_enter Tryz.func8,Tryz.ntmps8
 go_wp2_with (first
  | (go_at_call 36
     refine calls_named ?_;intro W1 hW1;have HB1:=jH (show jB w W1 by rw [hW1];exact balloc jR _);have HC1:=jH (show W1.heap[w.heap.size]?=some (.cells #[.int .i64 c.st,.int .i64 c.sa,.int .i64 c.lo,.int .i64 c.hi] 23 (0,0)) by rw [hW1];exact heap_alloc_new _ _);clear hW1;refine (awake35_any W1).mono ?_;rintro e w2 ⟨rfl,hb⟩;have HB2:=jH (bthen HB1.out hb);have HC2:=jH (jK hb HC1.out);obtain ⟨c1,c2,c3⟩:=box_cells jR HC2.out
     clear hb)
  | (go_at_call 13
     refine (CR.out _).mono ?_;rintro e w3 ⟨rfl,hb⟩;have HB3:=jH (bthen HB2.out hb);have HC3:=jH (jK hb HC2.out);clear c1 c2 c3;obtain ⟨c1,c2,c3⟩:=box_cells jR HC3.out;clear hb))
 go_ret
 exact ⟨rfl,HB3.out⟩
theorem ordA_main (c:Cfg) (n:Int) (v:Value) (es:List EvtD) (w:World) (hv:RowIn 34 evC w v es) (hok:∀e∈es,e.ok) (hc:c.ok) (hcb:cfgB c=true) (hl:es.length≤40) :
 Calls Tryz.prog 8 #[cfgV c,v,.int .i64 n] w (jP w (.bool true)):=by
 obtain ⟨A,cp,rfl,hAc,h0⟩:=id hv;clear h0;have hcc:=cfgOk_of22 hcb hc;have hst:okSt c.st=true:=by unfold cfgB at hcb;simp only [Bool.and_eq_true] at hcb;exact hcb.1
 have hbd:=okSt_bd _ hst;have hlo9:c.lo≤256:=by have:=hcc.cfg;unfold cfgB at this;simp only [Bool.and_eq_true,decide_eq_true_eq] at this;omega
 obtain ⟨rs,hrs⟩:∃rs,rs=c.sa.toNat:=⟨_,rfl⟩;obtain ⟨rh,hrh⟩:∃rh,rh=c.hi.toNat:=⟨_,rfl⟩;obtain ⟨k0,hk0⟩:∃k,k=c.st.toNat:=⟨_,rfl⟩;rw [←hrs,←hrh] at hcc;have HCC:=jH hcc;have hk1:(k0:Int)=c.st:=by omega
 have CF:=jH (fun W u (hu:RowIn 34 evC W u es)=>ordAfter_any c rs rh k0 n u es W hcc hk1 hu hok (by omega));have CF2:=jH (fun W u (hu:RowIn 34 evC W u es)=>refAfter_any (fun _=>True) c rs rh k0 n u es W (fun _ _=>trivial) hcc hk1 hu hok (by omega));have CE:=jH (fun W u (hu:RowIn 34 evC W u es)=>tepochs_any u es W hu (by omega));have CEV:=jH (fun W u (hu:RowIn 34 evC W u es)=>events_any u es W hu (by omega))
 have HNM:=jH (show NamedW (es.map (·.call.id)) (afterE c rs rh (newW k0) (es.take n.toNat)) from (NamedW.new _ _).afterE (fun e he=>List.mem_map.2 ⟨e,List.mem_of_mem_take he,rfl⟩));have CR:=jH (fun W=>ref17Right_any c W);rw [hcb] at CR;have HV:=jH hv;have HOK:=jH hok;have HL:=jH hl;have HAC:=jH hAc;have q0:¬(40:Int)<(es.length:Int):=by omega
 obtain ⟨wd,hwd⟩:∃r,r=afterE c rs rh (newW k0) (es.take n.toNat):=⟨_,rfl⟩;rw [←hwd] at CF CF2 HNM;unfold cfgV at CF CF2 CR ⊢;clear hv hok hcc hcb hst hbd hlo9 hrs hrh hk0 hk1 hc hl hAc hwd
 go_enter Tryz.func8,Tryz.ntmps8
 go_upto_region 8 with (first
  | (go_at_call 36
     refine calls_named ?_;intro W1 hW1;have HB1:=jH (show jB w W1 by rw [hW1];exact balloc jR _);have HC1:=jH (show W1.heap[w.heap.size]?=some (.cells #[.int .i64 c.st,.int .i64 c.sa,.int .i64 c.lo,.int .i64 c.hi] 23 (0,0)) by rw [hW1];exact heap_alloc_new _ _);clear hW1;refine (awake35_any W1).mono ?_;rintro e w2 ⟨rfl,hb⟩;have HB2:=jH (bthen HB1.out hb);have HC2:=jH (jK hb HC1.out);obtain ⟨c1,c2,c3⟩:=box_cells jR HC2.out
     clear hb)
  | (go_at_call 13
     refine (CR.out _).mono ?_;rintro e w3 ⟨rfl,hb⟩;have HB3:=jH (bthen HB2.out hb);have HC3:=jH (jK hb HC2.out);clear c1 c2 c3;obtain ⟨c1,c2,c3⟩:=box_cells jR HC3.out;clear hb)
  | (go_at_call 37
     refine (CEV.out w3 _ (HV.out.below HB3.out)).mono ?_;rintro e w4 ⟨u,rfl,hr,hb⟩;obtain ⟨A4,c4,rfl⟩:=hr.form;have HU4:=jH hr;have HB4:=jH (bthen HB3.out hb);have HC4:=jH (jK hb HC3.out);clear c1 c2 c3;obtain ⟨c1,c2,c3⟩:=box_cells jR HC4.out;clear hr hb)
  | (go_at_call 44
     refine (CF.out w4 _ HU4.out).mono ?_;rintro e w5 ⟨M,d,rfl,hf,h1,h2,hb⟩;have HF5:=jH hf;have HU5:=jH (HU4.out.below hb);have HB5:=jH (bthen HB4.out hb);have HC5:=jH (jK hb HC4.out);clear c1 c2 c3;obtain ⟨c1,c2,c3⟩:=box_cells jR HC5.out;clear hf h1 h2 hb)
  | (go_at_call 45
     refine (CF2.out w5 _ (HV.out.below HB5.out)).mono ?_;rintro e w6 ⟨x,rfl,hx,hab,hb⟩;unfold wdC;have HX6:=jH hx;have HAB:=jH hab;have HF6:=jH (HF5.out.below hb);have HU6:=jH (HU5.out.below hb);have HB6:=jH (bthen HB5.out hb);clear hx hab hb c1 c2 c3))
 refine name_world ?_;intro W9 hW9;have hd9:jB w6 W9:=by rw [hW9];exact balloc jR _
 have HX9:=jH (show W9.heap[w6.heap.size]?=some (.cells #[.int .i64 c.st,.int .i64 c.sa,.int .i64 c.lo,.int .i64 c.hi,.slice x.sA x.st.length x.sc,.slice x.cA x.cuts.length x.cc,.int .i64 x.ep,.bool x.over] 32 (0,0)) by rw [hW9];exact heap_alloc_new _ _);have HWI:=jH (HX6.out.below hd9);have HF9:=jH (HF6.out.below hd9);have HU9:=jH (HU6.out.below hd9);have HB9:=jH (bthen HB6.out hd9);have HV9:=jH (HV.out.below (bthen HB6.out hd9))
 clear hW9 hd9 HX6 HF5 HF6 HU4 HU5 HU6
 try go_wp2_with fail
 go_loopg [10,11,38] es.length (fun g s10 s11 s38 wr=>∃k:Nat,k≤es.length∧es.length - k≤g∧s38=.int .i64 k∧OwnL idC 9 1 W9.heap.size wr s10 ((es.take k).map (·.call.id))∧OwnL nmC 2 1 W9.heap.size wr s11 (epE (es.take k))∧jB W9 wr)
 case atStart=>exact ⟨0,Nat.zero_le _,Nat.le_refl _,rfl,OwnL.nil _ _,OwnL.nil _ _,jR⟩
 case round =>
  obtain ⟨k,hk,hg,rfl,hy,hz,hbw⟩:=hrel;rename World=>wr
  have HBr:=jH hbw
  by_cases hlt:k<es.length
  · obtain ⟨b1,o1,rfl,hb1,hc⟩:=(HV9.out.below HBr.out).at_ hlt
    obtain ⟨B1,e1,rfl⟩:=hy.form;obtain ⟨B2,e2,rfl⟩:=hz.form;have z1:(k:Int)<(es.length:Int):=by omega
    have z2:(0:Int)≤(k:Int):=by omega
    have hcl:(evC es[k]).length=34:=rfl;have hone:∀v∈evC es[k],v.oneCell'=true:=evC_one _;have HT2:=jH (show (es.take (k+1)).map (·.call.id)=(es.take k).map (·.call.id)++[es[k].call.id] by rw [List.take_succ_eq_append_getElem hlt,List.map_append];rfl);have HTE:=jH (show epE (es.take (k+1))=if es[k].kind=2∧es[k].call.kind=3∧es[k].err=0 then epE (es.take k)++[es[k].epoch] else epE (es.take k) by rw [List.take_succ_eq_append_getElem hlt,epE_snoc])
    have hyl:((es.take k).map (·.call.id)).length≤40:=by rw [List.length_map,List.length_take];have:=HL.out;omega
    have hzl:(epE (es.take k)).length≤40:=Nat.le_trans (epE_len _) (by rw [List.length_take];have:=HL.out;omega);generalize (es.take k).map (·.call.id)=ys at hy HT2 hyl ⊢;generalize epE (es.take k)=zs at hz HTE hzl ⊢;have HY:=jH hy;have HZ:=jH hz;have HYL:=jH hyl;have HZL:=jH hzl;have HWZ:=jH hbw.size;have g0:(evC es[k])[0]?=some (.int .i64 es[k].kind):=rfl;have g3:(evC es[k])[3]?=some (.int .i64 es[k].call.kind):=rfl
    have g4:(evC es[k])[4]?=some (.string es[k].call.id):=rfl;have g14:(evC es[k])[14]?=some (.int .i64 es[k].err):=rfl;have g15:(evC es[k])[15]?=some (.int .i64 es[k].epoch):=rfl;obtain ⟨cs,hcs⟩:∃cs,cs=evC es[k]:=⟨_,rfl⟩;rw [←hcs] at hc hcl hone g0 g3 g4 g14 g15;generalize es[k].kind=kd at g0 HTE;generalize es[k].call.kind=ck at g3 HTE;generalize es[k].call.id=id at g4 HT2;generalize es[k].err=er at g14 HTE
    generalize es[k].epoch=ep at g15 HTE;have k0:∀h,cs[0]'h=.int .i64 kd:=fun h=>Option.some.inj ((List.getElem?_eq_getElem h).symm.trans g0)
    have k3:∀h,cs[3]'h=.int .i64 ck:=fun h=>Option.some.inj ((List.getElem?_eq_getElem h).symm.trans g3)
    have k4:∀h,cs[4]'h=.string id:=fun h=>Option.some.inj ((List.getElem?_eq_getElem h).symm.trans g4)
    have k14:∀h,cs[14]'h=.int .i64 er:=fun h=>Option.some.inj ((List.getElem?_eq_getElem h).symm.trans g14)
    have k15:∀h,cs[15]'h=.int .i64 ep:=fun h=>Option.some.inj ((List.getElem?_eq_getElem h).symm.trans g15)
    have hst:=store_new (P:=Tryz.prog) wr 97 cs 34 hcl (by kernel_rfl) hone;have HC:=jH hc;have HCL:=jH hcl;clear hc hone hy hz hyl hzl hcs hbw g0 g3 g4 g14 g15
    by_cases h2:kd=2
    · have z3:(kd == 2)=true:=by simpa using h2
      by_cases h3:ck=3
      · have z4:(ck == 3)=true:=by simpa using h3
        by_cases he:er=0
        · have z5:(er == 0)=true:=by simpa using he
          have HT3:=jH (HTE.out.trans (if_pos ⟨h2,h3,he⟩));clear h2 h3 he
          go_wp2_with (first
           | (refine wpList_load_list rfl 97 (.tmp 40) rfl b1 (o1+k * 34) cs HC.out (by rfl) _ Tryz.underlying97 (by rfl) (by rw [HCL.out];kernel_rfl) ?_)
           | (at_builtin
              have h9:=HZ5.out;refine wpList_appendL eNm (by rfl) (by rfl) W9.heap.size zs [ep] (.slice B2 zs.length e2) _ (by rfl) (by rfl) (HZ5.out.below (balloc jR _)) (RowIn.lit (n:=1) (f:=nmC) _ ep _ _ _ (by first|rfl|simp) rfl) (by have:=HZL.out;simp;omega) (by have:=HB5.out.size;simp;omega) ?_;intro o6 A6 c6 w6 hout hown hg hor;have HOZ:=jH (show o6=zs++[ep] from hout);have HB6:=jH (show jB W9 w6 from (bthen HB5.out (balloc jR _)).trans (grown_own hg HZ5.out (by have:=HB5.out.size;simp;omega)))
              have HZ6:=jH hown;have HO6:=jH ((HO.out.below (balloc jR _)).other (HZ5.out.below (balloc jR _)) (by decide) hg);clear h9 hown hout hg hor)
           | (at_builtin
              refine wpList_appendL eId (by rfl) (by rfl) W9.heap.size ys [id] (.slice B1 ys.length e1) _ (by rfl) (by rfl) ((HY.out.below (balloc jR _)).below (balloc jR _)) (RowIn.lit (n:=1) (f:=idC) _ id _ _ _ (by first|rfl|simp) rfl) (by have:=HYL.out;simp;omega) (by have:=HWZ.out;simp;omega) ?_;intro o5 A5 c5 w5 hout hown hg hor;have HOU:=jH (show o5=ys++[id] from hout);have HB5:=jH (show jB W9 w5 from (bthen HBr.out (balloc (balloc jR _) _)).trans (grown_own hg HY.out (by have:=HWZ.out;simp;omega)))
              have HBB5:=jH (hg.block wr.heap.size (by simp;omega) (fun e9=>by have h7:=(HY.out.lt e9.symm).2;omega));have HBX:=jH (show w5.heap[wr.heap.size]?=some (.cells cs.toArray 97 (0,0)) from HBB5.out.trans (box_old _ _ _));obtain ⟨x1,x2,x3⟩:=box_cells jR HBX.out;have HO:=jH hown;have HZ5:=jH (((HZ.out.below (balloc jR _)).below (balloc jR _)).other ((HY.out.below (balloc jR _)).below (balloc jR _)) (by decide) hg)
              clear hown hout hg hor))
          go_roundg (es.length - (k+1))
          case measure=>omega
          case rel=>exact ⟨k+1,hlt,Nat.le_refl _,by go_num,by rw [HT2.out,←HOU.out];exact HO6.out,by rw [HT3.out,←HOZ.out];exact HZ6.out,HB6.out⟩
        · have z5:(er == 0)=false:=by simpa using he
          have HT3:=jH (HTE.out.trans (if_neg (fun h=>he h.2.2)));clear h2 h3 he
          go_wp2_with (first
           | (refine wpList_load_list rfl 97 (.tmp 40) rfl b1 (o1+k * 34) cs HC.out (by rfl) _ Tryz.underlying97 (by rfl) (by rw [HCL.out];kernel_rfl) ?_)
           | (at_builtin
              refine wpList_appendL eId (by rfl) (by rfl) W9.heap.size ys [id] (.slice B1 ys.length e1) _ (by rfl) (by rfl) ((HY.out.below (balloc jR _)).below (balloc jR _)) (RowIn.lit (n:=1) (f:=idC) _ id _ _ _ (by first|rfl|simp) rfl) (by have:=HYL.out;simp;omega) (by have:=HWZ.out;simp;omega) ?_;intro o5 A5 c5 w5 hout hown hg hor;have HOU:=jH (show o5=ys++[id] from hout);have HB5:=jH (show jB W9 w5 from (bthen HBr.out (balloc (balloc jR _) _)).trans (grown_own hg HY.out (by have:=HWZ.out;simp;omega)))
              have HBB5:=jH (hg.block wr.heap.size (by simp;omega) (fun e9=>by have h7:=(HY.out.lt e9.symm).2;omega));have HBX:=jH (show w5.heap[wr.heap.size]?=some (.cells cs.toArray 97 (0,0)) from HBB5.out.trans (box_old _ _ _));obtain ⟨x1,x2,x3⟩:=box_cells jR HBX.out;have HO:=jH hown;have HZ5:=jH (((HZ.out.below (balloc jR _)).below (balloc jR _)).other ((HY.out.below (balloc jR _)).below (balloc jR _)) (by decide) hg)
              clear hown hout hg hor))
          go_roundg (es.length - (k+1))
          case measure=>omega
          case rel=>exact ⟨k+1,hlt,Nat.le_refl _,by go_num,by rw [HT2.out,←HOU.out];exact HO.out,by rw [HT3.out];exact HZ5.out,HB5.out⟩
      · have z4:(ck == 3)=false:=by simpa using h3
        have HT3:=jH (HTE.out.trans (if_neg (fun h=>h3 h.2.1)));clear h2 h3
        go_wp2_with (first
         | (refine wpList_load_list rfl 97 (.tmp 40) rfl b1 (o1+k * 34) cs HC.out (by rfl) _ Tryz.underlying97 (by rfl) (by rw [HCL.out];kernel_rfl) ?_)
         | (at_builtin
            refine wpList_appendL eId (by rfl) (by rfl) W9.heap.size ys [id] (.slice B1 ys.length e1) _ (by rfl) (by rfl) ((HY.out.below (balloc jR _)).below (balloc jR _)) (RowIn.lit (n:=1) (f:=idC) _ id _ _ _ (by first|rfl|simp) rfl) (by have:=HYL.out;simp;omega) (by have:=HWZ.out;simp;omega) ?_;intro o5 A5 c5 w5 hout hown hg hor;have HOU:=jH (show o5=ys++[id] from hout);have HB5:=jH (show jB W9 w5 from (bthen HBr.out (balloc (balloc jR _) _)).trans (grown_own hg HY.out (by have:=HWZ.out;simp;omega)))
            have HBB5:=jH (hg.block wr.heap.size (by simp;omega) (fun e9=>by have h7:=(HY.out.lt e9.symm).2;omega));have HBX:=jH (show w5.heap[wr.heap.size]?=some (.cells cs.toArray 97 (0,0)) from HBB5.out.trans (box_old _ _ _));obtain ⟨x1,x2,x3⟩:=box_cells jR HBX.out;have HO:=jH hown;have HZ5:=jH (((HZ.out.below (balloc jR _)).below (balloc jR _)).other ((HY.out.below (balloc jR _)).below (balloc jR _)) (by decide) hg)
            clear hown hout hg hor))
        go_roundg (es.length - (k+1))
        case measure=>omega
        case rel=>exact ⟨k+1,hlt,Nat.le_refl _,by go_num,by rw [HT2.out,←HOU.out];exact HO.out,by rw [HT3.out];exact HZ5.out,HB5.out⟩
    · have z3:(kd == 2)=false:=by simpa using h2
      have HT3:=jH (HTE.out.trans (if_neg (fun h=>h2 h.1)));clear h2
      go_wp2_with (first
       | (refine wpList_load_list rfl 97 (.tmp 40) rfl b1 (o1+k * 34) cs HC.out (by rfl) _ Tryz.underlying97 (by rfl) (by rw [HCL.out];kernel_rfl) ?_)
       | (at_builtin
          refine wpList_appendL eId (by rfl) (by rfl) W9.heap.size ys [id] (.slice B1 ys.length e1) _ (by rfl) (by rfl) ((HY.out.below (balloc jR _)).below (balloc jR _)) (RowIn.lit (n:=1) (f:=idC) _ id _ _ _ (by first|rfl|simp) rfl) (by have:=HYL.out;simp;omega) (by have:=HWZ.out;simp;omega) ?_;intro o5 A5 c5 w5 hout hown hg hor;have HOU:=jH (show o5=ys++[id] from hout);have HB5:=jH (show jB W9 w5 from (bthen HBr.out (balloc (balloc jR _) _)).trans (grown_own hg HY.out (by have:=HWZ.out;simp;omega)))
          have HBB5:=jH (hg.block wr.heap.size (by simp;omega) (fun e9=>by have h7:=(HY.out.lt e9.symm).2;omega));have HBX:=jH (show w5.heap[wr.heap.size]?=some (.cells cs.toArray 97 (0,0)) from HBB5.out.trans (box_old _ _ _));obtain ⟨x1,x2,x3⟩:=box_cells jR HBX.out;have HO:=jH hown;have HZ5:=jH (((HZ.out.below (balloc jR _)).below (balloc jR _)).other ((HY.out.below (balloc jR _)).below (balloc jR _)) (by decide) hg)
          clear hown hout hg hor))
      go_roundg (es.length - (k+1))
      case measure=>omega
      case rel=>exact ⟨k+1,hlt,Nat.le_refl _,by go_num,by rw [HT2.out,←HOU.out];exact HO.out,by rw [HT3.out];exact HZ5.out,HB5.out⟩
  · obtain rfl:k=es.length:=by omega
    have z1:¬(es.length:Int)<(es.length:Int):=by omega
    rw [List.take_length] at hy hz;obtain ⟨B1,e1,rfl⟩:=hy.form;obtain ⟨B2,e2,rfl⟩:=hz.form;have HY:=jH hy;have HZ:=jH (hz.row eNm);have HKY:=jH (show ∀p∈d.es,p.1.1∈es.map (·.call.id) from HNM.out.keys HF9.out.at_.tells);have CT:=jH (fun W (hW:jB W9 W) (v:Value) (hv:RowIn 1 idC W v (es.map (·.call.id)))=>told35_any (Q:=fun _=>True) x (show FW (fun b=>b≠M∧b≠d.L) W M c rs rh es.length (absW x) d by rw [HAB.out];exact HF9.out.below hW) HCC.out (fun b _=>trivial) (HWI.out.below hW) v (es.map (·.call.id)) hv (by rw [List.length_map];have:=HL.out;omega) (fun s hs=>by obtain ⟨p,hp,rfl⟩:=List.mem_map.1 hs;exact (HOK.out p hp).call.2.1) HKY.out)
    have CE9:=jH (CE.out wr _ (HU9.out.below HBr.out));obtain ⟨zs,hzs⟩:∃r,r=epE es:=⟨_,rfl⟩;obtain ⟨ys,hys⟩:∃r,r=es.map (·.call.id):=⟨_,rfl⟩;rw [←hzs] at HZ CE9;rw [←hys] at HY CT;have HZL:=jH (show zs.length≤40 by rw [hzs];exact Nat.le_trans (epE_len _) HL.out);have q8:(zs.length:Int)≤40:=by have:=HZL.out;omega
    have e1':(epE es).length=zs.length:=by rw [hzs]
    have e2':(es.map (·.call.id)).length=ys.length:=by rw [hys]
    rw [e1',e2'];clear hy hz hzs hys e1' e2' hbw HNM;unfold wdC at CT
    go_wp2_with (first
     | (go_at_call 46
        refine CE9.out.mono ?_;rintro e w2 ⟨u2,rfl,hr,hb⟩;obtain ⟨A5,c5,rfl⟩:=hr.form;have HE2:=jH hr;have HZ2:=jH (HZ.out.below hb);have HY2:=jH (HY.out.below hb);have HB2x:=jH (bthen HBr.out hb);clear hr hb))
    go_loopg [79] zs.length (fun g s79 wi=>∃k:Nat,k≤zs.length∧zs.length - k≤g∧s79=.int .i64 k∧jB w2 wi)
    case atStart=>exact ⟨0,Nat.zero_le _,Nat.le_refl _,rfl,jR⟩
    case round =>
     obtain ⟨k,hk,hg,rfl,hbi⟩:=hrel;rename World=>wi
     have HBi:=jH hbi;clear hbi
     by_cases hlt:k<zs.length
     · obtain ⟨b1,o1,rfl,hb1,hc1⟩:=(HE2.out.below HBi.out).at_ hlt
       obtain ⟨b2,o2,rfl,hb2,hc2⟩:=(HZ2.out.below HBi.out).at_ hlt;have y1:(k:Int)<(zs.length:Int):=by omega
       have y2:(0:Int)≤(k:Int):=by omega
       have d1:=hc1 0 _ rfl;have d2:=hc2 0 _ rfl;rw [Nat.add_zero,Nat.mul_one] at d1 d2;generalize zs[k]=z9 at d1 d2;clear hc1 hc2;go_wp2_with fail
       go_quiet (fail)
       go_wp2_with fail
       go_roundg (zs.length - (k+1))
       case measure=>omega
       case rel=>exact ⟨k+1,hlt,Nat.le_refl _,by go_num,below_drewN HBi.out _⟩
     · obtain rfl:k=zs.length:=by omega
       have y1:¬(zs.length:Int)<(zs.length:Int):=by omega
       have HBw:=jH (bthen HB2x.out HBi.out);have HXw:=jH (jK HBw.out HX9.out);obtain ⟨p1,p2,p3⟩:=box_cells jR HXw.out
       go_wp2_with (first
        | (go_at_call 47
           refine (CT.out wi HBw.out _ ((HY2.out.below HBi.out).row eId)).mono ?_;rintro e w8 ⟨rfl,hb⟩;have HB8:=jH (bthen (bthen HB9.out HBw.out) hb);clear hb))
       go_ret
       exact ⟨rfl,HB8.out⟩
theorem ordAfter_law (c:Cfg) (n:Int) (v:Value) (es:List EvtD) (w:World) (hv:RowIn 34 evC w v es) (hok:∀e∈es,e.ok) (hc:c.ok) :
 Calls Tryz.prog 8 #[cfgV c,v,.int .i64 n] w (jP w (.bool true)):=by
 cases hcb:cfgB c with
 | false=>exact ordA_nil c n v es w hv hok hc hcb
 | true =>
   by_cases hl:es.length≤40
   · exact ordA_main c n v es w hv hok hc hcb hl
   · exact ordA_long c n v es w hv hok hc hcb (by omega)
end
end Go.Proofs.YtpmfcpdelkchaaaGreat
