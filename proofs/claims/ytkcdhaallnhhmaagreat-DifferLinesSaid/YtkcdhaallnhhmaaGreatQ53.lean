/- Part 53 of the proof: DfLaw. -/
import Derived.Test.YtkcdhaallnhhmaaGreatQ52
namespace Go.Proofs.YtkcdhaallnhhmaaGreat
set_option linter.unusedSimpArgs false
set_option linter.unusedVariables false
set_option linter.unusedSectionVars false
set_option maxRecDepth 100000
set_option maxHeartbeats 16000000
section
open Go.RowKit Go.Lib
theorem cfgOk_of47 {c:Cfg} (hc:cfgB c=true) (hok:c.ok):CfgOk c c.sa.toNat c.hi.toNat:=by
 have h:=hc;unfold cfgB at h;simp only [Bool.and_eq_true,decide_eq_true_eq] at h
 exact ⟨hc,by omega,by omega,hok⟩
theorem lines_self {P Q:Nat→Prop} {w:World} {M1 M2:Nat} {c:Cfg} {rs rh n1 n2:Nat} {wd:Wd} {d1 d2:FlatD} (h1:FW P w M1 c rs rh n1 wd d1) (h2:FW Q w M2 c rs rh n2 wd d2) (hc:CfgOk c rs rh) :
 Calls Tryz.prog 15 #[.pointer (some ⟨M1,0,none⟩),.pointer (some ⟨M2,0,none⟩)] w (WordsSays w []):=by
 have h:=lines_any h1.at_ h2.at_ (h1.cmp hc) (h2.cmp hc);rw [linesE_self h1.at_.tells h2.at_.tells] at h;exact h
theorem same_self {P Q:Nat→Prop} {w:World} {M1 M2:Nat} {c:Cfg} {rs rh n1 n2:Nat} {wd:Wd} {d1 d2:FlatD} (h1:FW P w M1 c rs rh n1 wd d1) (h2:FW Q w M2 c rs rh n2 wd d2) (hc:CfgOk c rs rh) :
 Calls Tryz.prog 14 #[.pointer (some ⟨M1,0,none⟩),.pointer (some ⟨M2,0,none⟩)] w (jP w (.bool true)):=by
 have h:=same47_any h1.at_ h2.at_ (h1.cmp hc) (h2.cmp hc);rw [linesE_self h1.at_.tells h2.at_.tells] at h;exact h
theorem FW.own {P Q:Nat→Prop} {w w':World} {M:Nat} {c:Cfg} {rs rh n:Nat} {wd:Wd} {d:FlatD} (h:FW P w M c rs rh n wd d) (hb:jB w w') (hk:∀b,P b→b<w.heap.size→Q b) (ho:∀b,Q b→b≠M∧b≠d.L):FW Q w' M c rs rh n wd d :=
 ⟨h.at_.keep hb.size (hb.block _ h.at_.lt) (hb.block _ h.at_.map.lt) (fun b hP hlt=>⟨hb.block b hlt,hk b hP hlt⟩) ho,h.ok⟩
theorem FW.keepU {P:Nat→Prop} {w w':World} {M:Nat} {c:Cfg} {rs rh n:Nat} {wd:Wd} {d:FlatD} {l l':List Nat} (h:FW P w M c rs rh n wd d) (hu:Upd w w' l l') (hM:M∉l) (hL:d.L∉l) (hP:∀b,P b→b∉l):FW P w' M c rs rh n wd d :=
 ⟨h.at_.keep hu.size (hu.block _ h.at_.lt hM) (hu.block _ h.at_.map.lt hL) (fun b hb hlt=>⟨hu.block b hlt (hP b hb),hb⟩) h.at_.off,h.ok⟩
theorem dfL_nil (c:Cfg) (v1 v2 v3:Value) (l1 l2 l3:List CallD) (w:World) (hv1:RowIn 11 callCells w v1 l1) (hv2:RowIn 11 callCells w v2 l2) (hv3:RowIn 11 callCells w v3 l3) (hok1:∀p∈l1,p.ok) (hok2:∀p∈l2,p.ok) (hok3:∀p∈l3,p.ok) (hc:c.ok) (hcb:cfgB c=false) :
 Calls Tryz.prog 3 #[cfgV c,v1,v2,v3] w (jP w (.bool true)):=by
 obtain ⟨A1,cp1,rfl⟩:=hv1.form;obtain ⟨A2,cp2,rfl⟩:=hv2.form;obtain ⟨A3,cp3,rfl⟩:=hv3.form;have CR:=jH (fun W=>ref17RightD_any c W);rw [hcb] at CR;unfold cfgV at CR ⊢;clear hv1 hv2 hv3 hok1 hok2 hok3 hc hcb
 go_enter Tryz.func3,Tryz.ntmps3
 go_wp2_with (first
  | (go_at_call 8
     refine calls_named ?_;intro W1 hW1;have HB1:=jH (show jB w W1 by rw [hW1];exact balloc jR _);have HC1:=jH (show W1.heap[w.heap.size]?=some (.cells #[.int .i64 c.st,.int .i64 c.sa,.int .i64 c.lo,.int .i64 c.hi] 23 (0,0)) by rw [hW1];exact heap_alloc_new _ _);clear hW1;refine (awake47_any W1).mono ?_;rintro e w2 ⟨rfl,hb⟩;have HB2:=jH (bthen HB1.out hb);have HC2:=jH (jK hb HC1.out);obtain ⟨c1,c2,c3⟩:=box_cells jR HC2.out
     clear hb)
  | (go_at_call 9
     refine (CR.out _).mono ?_;rintro e w3 ⟨rfl,hb⟩;have HB3:=jH (bthen HB2.out hb);have HC3:=jH (jK hb HC2.out);clear c1 c2 c3;obtain ⟨c1,c2,c3⟩:=box_cells jR HC3.out;clear hb))
 go_ret
 exact ⟨rfl,HB3.out⟩
theorem dfL_long1 (c:Cfg) (v1 v2 v3:Value) (l1 l2 l3:List CallD) (w:World) (hv1:RowIn 11 callCells w v1 l1) (hv2:RowIn 11 callCells w v2 l2) (hv3:RowIn 11 callCells w v3 l3) (hok1:∀p∈l1,p.ok) (hok2:∀p∈l2,p.ok) (hok3:∀p∈l3,p.ok) (hc:c.ok) (hcb:cfgB c=true) (h1:20<l1.length) :
 Calls Tryz.prog 3 #[cfgV c,v1,v2,v3] w (jP w (.bool true)):=by
 obtain ⟨A1,cp1,rfl⟩:=hv1.form;obtain ⟨A2,cp2,rfl⟩:=hv2.form;obtain ⟨A3,cp3,rfl⟩:=hv3.form;have CR:=jH (fun W=>ref17RightD_any c W);rw [hcb] at CR;have q1:(20:Int)<(l1.length:Int):=by omega
 unfold cfgV at CR ⊢;clear hv1 hv2 hv3 hok1 hok2 hok3 hc hcb
 go_enter Tryz.func3,Tryz.ntmps3
 go_wp2_with (first
  | (go_at_call 8
     refine calls_named ?_;intro W1 hW1;have HB1:=jH (show jB w W1 by rw [hW1];exact balloc jR _);have HC1:=jH (show W1.heap[w.heap.size]?=some (.cells #[.int .i64 c.st,.int .i64 c.sa,.int .i64 c.lo,.int .i64 c.hi] 23 (0,0)) by rw [hW1];exact heap_alloc_new _ _);clear hW1;refine (awake47_any W1).mono ?_;rintro e w2 ⟨rfl,hb⟩;have HB2:=jH (bthen HB1.out hb);have HC2:=jH (jK hb HC1.out);obtain ⟨c1,c2,c3⟩:=box_cells jR HC2.out
     clear hb)
  | (go_at_call 9
     refine (CR.out _).mono ?_;rintro e w3 ⟨rfl,hb⟩;have HB3:=jH (bthen HB2.out hb);have HC3:=jH (jK hb HC2.out);clear c1 c2 c3;obtain ⟨c1,c2,c3⟩:=box_cells jR HC3.out;clear hb))
 go_ret
 exact ⟨rfl,HB3.out⟩
theorem dfL_long2 (c:Cfg) (v1 v2 v3:Value) (l1 l2 l3:List CallD) (w:World) (hv1:RowIn 11 callCells w v1 l1) (hv2:RowIn 11 callCells w v2 l2) (hv3:RowIn 11 callCells w v3 l3) (hok1:∀p∈l1,p.ok) (hok2:∀p∈l2,p.ok) (hok3:∀p∈l3,p.ok) (hc:c.ok) (hcb:cfgB c=true) (h1:l1.length≤20) (h2:20<l2.length) :
 Calls Tryz.prog 3 #[cfgV c,v1,v2,v3] w (jP w (.bool true)):=by
 obtain ⟨A1,cp1,rfl⟩:=hv1.form;obtain ⟨A2,cp2,rfl⟩:=hv2.form;obtain ⟨A3,cp3,rfl⟩:=hv3.form;have CR:=jH (fun W=>ref17RightD_any c W);rw [hcb] at CR;have q1:¬(20:Int)<(l1.length:Int):=by omega
 have q2:(20:Int)<(l2.length:Int):=by omega
 unfold cfgV at CR ⊢;clear hv1 hv2 hv3 hok1 hok2 hok3 hc hcb
 go_enter Tryz.func3,Tryz.ntmps3
 go_wp2_with (first
  | (go_at_call 8
     refine calls_named ?_;intro W1 hW1;have HB1:=jH (show jB w W1 by rw [hW1];exact balloc jR _);have HC1:=jH (show W1.heap[w.heap.size]?=some (.cells #[.int .i64 c.st,.int .i64 c.sa,.int .i64 c.lo,.int .i64 c.hi] 23 (0,0)) by rw [hW1];exact heap_alloc_new _ _);clear hW1;refine (awake47_any W1).mono ?_;rintro e w2 ⟨rfl,hb⟩;have HB2:=jH (bthen HB1.out hb);have HC2:=jH (jK hb HC1.out);obtain ⟨c1,c2,c3⟩:=box_cells jR HC2.out
     clear hb)
  | (go_at_call 9
     refine (CR.out _).mono ?_;rintro e w3 ⟨rfl,hb⟩;have HB3:=jH (bthen HB2.out hb);have HC3:=jH (jK hb HC2.out);clear c1 c2 c3;obtain ⟨c1,c2,c3⟩:=box_cells jR HC3.out;clear hb))
 go_ret
 exact ⟨rfl,HB3.out⟩
theorem dfL_long3 (c:Cfg) (v1 v2 v3:Value) (l1 l2 l3:List CallD) (w:World) (hv1:RowIn 11 callCells w v1 l1) (hv2:RowIn 11 callCells w v2 l2) (hv3:RowIn 11 callCells w v3 l3) (hok1:∀p∈l1,p.ok) (hok2:∀p∈l2,p.ok) (hok3:∀p∈l3,p.ok) (hc:c.ok) (hcb:cfgB c=true) (h1:l1.length≤20) (h2:l2.length≤20) (h3:20<l3.length) :
 Calls Tryz.prog 3 #[cfgV c,v1,v2,v3] w (jP w (.bool true)):=by
 obtain ⟨A1,cp1,rfl⟩:=hv1.form;obtain ⟨A2,cp2,rfl⟩:=hv2.form;obtain ⟨A3,cp3,rfl⟩:=hv3.form;have CR:=jH (fun W=>ref17RightD_any c W);rw [hcb] at CR;have q1:¬(20:Int)<(l1.length:Int):=by omega
 have q2:¬(20:Int)<(l2.length:Int):=by omega
 have q3:(20:Int)<(l3.length:Int):=by omega
 unfold cfgV at CR ⊢;clear hv1 hv2 hv3 hok1 hok2 hok3 hc hcb
 go_enter Tryz.func3,Tryz.ntmps3
 go_wp2_with (first
  | (go_at_call 8
     refine calls_named ?_;intro W1 hW1;have HB1:=jH (show jB w W1 by rw [hW1];exact balloc jR _);have HC1:=jH (show W1.heap[w.heap.size]?=some (.cells #[.int .i64 c.st,.int .i64 c.sa,.int .i64 c.lo,.int .i64 c.hi] 23 (0,0)) by rw [hW1];exact heap_alloc_new _ _);clear hW1;refine (awake47_any W1).mono ?_;rintro e w2 ⟨rfl,hb⟩;have HB2:=jH (bthen HB1.out hb);have HC2:=jH (jK hb HC1.out);obtain ⟨c1,c2,c3⟩:=box_cells jR HC2.out
     clear hb)
  | (go_at_call 9
     refine (CR.out _).mono ?_;rintro e w3 ⟨rfl,hb⟩;have HB3:=jH (bthen HB2.out hb);have HC3:=jH (jK hb HC2.out);clear c1 c2 c3;obtain ⟨c1,c2,c3⟩:=box_cells jR HC3.out;clear hb))
 go_ret
 exact ⟨rfl,HB3.out⟩
theorem dfL_main (c:Cfg) (v1 v2 v3:Value) (l1 l2 l3:List CallD) (w:World) (hv1:RowIn 11 callCells w v1 l1) (hv2:RowIn 11 callCells w v2 l2) (hv3:RowIn 11 callCells w v3 l3) (hok1:∀p∈l1,p.ok) (hok2:∀p∈l2,p.ok) (hok3:∀p∈l3,p.ok) (hc:c.ok) (hcb:cfgB c=true) (h1:l1.length≤20) (h2:l2.length≤20) (h3:l3.length≤20) :
 Calls Tryz.prog 3 #[cfgV c,v1,v2,v3] w (jP w (.bool true)):=by
 obtain ⟨A1,cp1,rfl⟩:=hv1.form;obtain ⟨A2,cp2,rfl⟩:=hv2.form;obtain ⟨A3,cp3,rfl⟩:=hv3.form;have hcc:=cfgOk_of47 hcb hc;have hst:okSt c.st=true:=by unfold cfgB at hcb;simp only [Bool.and_eq_true] at hcb;exact hcb.1
 have hbd:=okSt_bd _ hst;have HCC:=jH hcc;have CN:=jH (fun W P hP=>new21_any P c c.st.toNat W hP (by omega) (by omega));have CF:=jH (fun W=>fw_new c c.sa.toNat c.hi.toNat c.st.toNat W hcc (by omega));have CR:=jH (fun W=>ref17RightD_any c W);rw [hcb] at CR;have HV1:=jH hv1;have HV2:=jH hv2;have HV3:=jH hv3;have HOK1:=jH hok1;have HOK2:=jH hok2;have HOK3:=jH hok3;obtain ⟨rs,hrs⟩:∃rs,rs=c.sa.toNat:=⟨_,rfl⟩
 obtain ⟨rh,hrh⟩:∃rh,rh=c.hi.toNat:=⟨_,rfl⟩;rw [←hrs,←hrh] at HCC CF;have q1:¬(20:Int)<(l1.length:Int):=by omega
 have q2:¬(20:Int)<(l2.length:Int):=by omega
 have q3:¬(20:Int)<(l3.length:Int):=by omega
 have HL:=jH (And.intro h1 (And.intro h2 h3));have HST:=jH (And.intro hst hbd);obtain ⟨wd0,hwd0⟩:∃r,r=newW c.st.toNat:=⟨_,rfl⟩;rw [←hwd0] at CN CF;have HNW0:=jH (show NamedW (l1.map (·.id)++l2.map (·.id)++l3.map (·.id)) wd0 by rw [hwd0];exact NamedW.new _ _);unfold cfgV at CN CR CF ⊢;clear hv1 hv2 hv3 hok1 hok2 hok3 hcc hcb hst hbd hrs hrh hc h1 h2 h3 hwd0
 go_enter Tryz.func3,Tryz.ntmps3
 go_upto_region 7 with (first
  | (go_at_call 8
     refine calls_named ?_;intro W1 hW1;have HB1:=jH (show jB w W1 by rw [hW1];exact balloc jR _);have HC1:=jH (show W1.heap[w.heap.size]?=some (.cells #[.int .i64 c.st,.int .i64 c.sa,.int .i64 c.lo,.int .i64 c.hi] 23 (0,0)) by rw [hW1];exact heap_alloc_new _ _);clear hW1;refine (awake47_any W1).mono ?_;rintro e w2 ⟨rfl,hb⟩;have HB2:=jH (bthen HB1.out hb);have HC2:=jH (jK hb HC1.out);obtain ⟨c1,c2,c3⟩:=box_cells jR HC2.out
     clear hb)
  | (go_at_call 9
     refine (CR.out _).mono ?_;rintro e w3 ⟨rfl,hb⟩;have HB3:=jH (bthen HB2.out hb);have HC3:=jH (jK hb HC2.out);clear c1 c2 c3;obtain ⟨c1,c2,c3⟩:=box_cells jR HC3.out;clear hb)
  | (go_at_call 10
     refine (CF.out _).mono ?_;rintro e w4 ⟨M,f0,rfl,hf,h1,h2,hb⟩;have HF4:=jH hf;have HML:=jH (And.intro h1 h2);have HB4:=jH hb;have HC4:=jH (jK hb HC3.out);clear c1 c2 c3;obtain ⟨c1,c2,c3⟩:=box_cells jR HC4.out;clear hb h1 h2 hf)
  | (go_at_call 12
     refine (CN.out w4 (fun b=>w4.heap.size≤b) (fun b hb=>hb)).mono ?_;rintro e w5 ⟨x0,rfl,hx0,hab0,hb⟩;unfold wdC;have HX5:=jH hx0;have HAB5:=jH hab0;have HB5:=jH hb;clear hb hx0 hab0 c1 c2 c3)
  | (go_at_call 11
     have hm1:=HF4.out.at_.lt;have hm2:=HF4.out.at_.map.lt;have hs5:=HB5.out.size;have hml:=HML.out
     have h:=play_any [M,f0.L] c rs rh 0 wd0 f0 x0 _ l1 w3 w5
       (HF4.out.own HB5.out (Q:=fun b=>b∉[M,f0.L]) (fun b hb _=>by simp only [List.mem_cons,List.not_mem_nil,or_false];rintro (e|e);exact hb.1 e;exact hb.2 e) (fun b hb=>by simp only [List.mem_cons,List.not_mem_nil,or_false] at hb;exact ⟨fun e=>hb (.inl e),fun e=>hb (.inr e)⟩))
       rfl ⟨by simp,by simp⟩ (fun b hb=>by simp only [List.mem_cons,List.not_mem_nil,or_false] at hb;omega) (HX5.out.imp (fun b hb=>by simp only [List.mem_cons,List.not_mem_nil,or_false];omega)) HAB5.out
       (HV1.out.below HB3.out) (bthen HB4.out HB5.out) hml HOK1.out HCC.out HL.out.1 (by decide)
     unfold wdC at h;refine h.mono ?_;rintro e w6 ⟨d1,x1,rfl,hf,hl,hx,ha,hu⟩;unfold wdC;have HF6:=jH hf;have HL6:=jH hl;have HX6:=jH hx;have HA6:=jH ha;have HB6:=jH (show jB w3 w6 from (bthen HB4.out HB5.out).trans (hu.below (bthen HB4.out HB5.out).size (fun r hr=>by simp only [List.mem_cons,List.not_mem_nil,or_false] at hr;rcases hr with rfl|rfl;exact hml.1;exact hml.2)));have HLT6:=jH (show M<w6.heap.size∧f0.L<w6.heap.size by have:=hu.size;omega)
     clear h hf hl hx ha hu hm1 hm2 hs5 hml))
 refine name_world ?_;intro W7 hW7;have hd7:jB w6 W7:=by rw [hW7];exact balloc jR _
 have HBX7:=jH (show W7.heap[w6.heap.size]?=some (.cells (wdC c x1).toArray 32 (0,0)) by rw [hW7];exact heap_alloc_new _ _);have HF7:=jH (HF6.out.below hd7);have HX7:=jH (HX6.out.below hd7);have HBW7:=jH (show jB w3 W7 from bthen HB6.out hd7);have HLT7:=jH (show M<W7.heap.size∧f0.L<W7.heap.size∧w3.heap.size≤M∧w3.heap.size≤f0.L by have:=HLT6.out;have:=hd7.size;have:=HML.out;omega);clear hW7 hd7 HF6 HX6 HF4 HX5
 obtain ⟨L,hLL⟩:∃L,L=f0.L:=⟨_,rfl⟩;rw [←hLL] at HF7 HL6 HX7 HLT7 HLT6;have HLL:=jH (show L<w6.heap.size from HLT6.out.2);clear hLL;obtain ⟨wd1,hwd1⟩:∃r,r=playW c rs rh wd0 l1:=⟨_,rfl⟩;rw [←hwd1] at HF7 HA6;have HNW1:=jH (show NamedW (l1.map (·.id)++l2.map (·.id)++l3.map (·.id)) wd1 by rw [hwd1];exact HNW0.out.play (fun x hx=>List.mem_append_left _ (List.mem_append_left _ (List.mem_map.2 ⟨x,hx,rfl⟩))))
 clear hwd1 HNW0;obtain ⟨m1,hm1⟩:∃m,m=l1.map (·.id):=⟨_,rfl⟩;obtain ⟨m2,hm2⟩:∃m,m=l2.map (·.id):=⟨_,rfl⟩;obtain ⟨m3,hm3⟩:∃m,m=l3.map (·.id):=⟨_,rfl⟩;have CN1:=jH (fun W (hW:jB w3 W)=>names22_any _ l1 W (HV1.out.below (bthen HB3.out hW)) (by have:=HL.out;omega));have CN2:=jH (fun W (hW:jB w3 W)=>names22_any _ l2 W (HV2.out.below (bthen HB3.out hW)) (by have:=HL.out;omega));have CN3:=jH (fun W (hW:jB w3 W)=>names22_any _ l3 W (HV3.out.below (bthen HB3.out hW)) (by have:=HL.out;omega))
 rw [←hm1] at CN1;rw [←hm2] at CN2;rw [←hm3] at CN3;have HMS:=jH (And.intro hm1 (And.intro hm2 hm3));have HMZ:=jH (show m1.length≤20∧m2.length≤20∧m3.length≤20 by rw [hm1,hm2,hm3];simp only [List.length_map];exact HL.out);clear hm1 hm2 hm3
 go_upto_region 12 with (first
  | (go_at_call 13
     have hlt7:=HLT7.out;refine (flTwin_any HF7.out (fun b hb=>by simp only [List.mem_cons,List.not_mem_nil,or_false];omega) (by have h1:=HF7.out.ok.cuts;have h2:=HF7.out.at_.len;have:=HL.out;omega)).mono ?_;rintro e w8 ⟨T,d2,rfl,tq1,tq2,tq3,tq4,hb⟩;have HTM:=jH tq1;have HTT:=jH tq2;have HT8:=jH (show W7.heap.size≤T∧W7.heap.size≤d2.L∧T<w8.heap.size∧d2.L<w8.heap.size from ⟨tq3,tq4,tq2.at_.lt,tq2.at_.map.lt⟩)
     have HB8:=jH hb;clear tq1 tq2 tq3 tq4 hb hlt7)
  | (go_at_call 14
     refine (same_self HTM.out HTT.out HCC.out).mono ?_;rintro e w9 ⟨rfl,hb⟩;have HB9:=jH (bthen HB8.out hb);have HS9:=jH hb.size;have HTM9:=jH (HTM.out.below hb);have HTT9:=jH (HTT.out.below hb);clear hb)
  | (go_at_call 15
     refine (lines_self HTM9.out HTM9.out HCC.out).mono ?_;rintro e w10 ⟨AA,cc,rfl,ho,hb⟩;have HB10:=jH (bthen HB9.out hb);have HS10:=jH hb.size;have HTM10:=jH (HTM9.out.below hb);have HTT10:=jH (HTT9.out.below hb);clear ho hb)
  | (go_at_call 16
     have h9:=HNB4.out
     with_reducible refine (CN3.out n4 (bthen HBW7.out HNB4.out)).mono ?_
     rintro e n5 ⟨v,rfl,ho,hb⟩;obtain ⟨NA5,nc5,rfl⟩:=ho.form;have HR5:=jH (ho.row eId);have HO45:=jH (HO4.out.below hb);have HNB5:=jH (show jB W7 n5 from bthen HNB4.out hb);have HN5W:=jH (show jB w10 n5 from bthen HN4W.out hb);clear h9 ho hb)
  | (go_at_call 16
     have h9:=HNB2.out
     with_reducible refine (CN2.out n2 (bthen HBW7.out HNB2.out)).mono ?_
     rintro e n3 ⟨v,rfl,ho,hb⟩;obtain ⟨NA3,nc3,rfl⟩:=ho.form;have HR3:=jH (ho.row eId);have HO23:=jH (HO2.out.below hb);have HNB3:=jH (show jB W7 n3 from bthen HNB2.out hb);have HN3W:=jH (show jB w10 n3 from bthen HN2W.out hb);clear h9 ho hb)
  | (go_at_call 16
     with_reducible refine (CN1.out w10 (bthen HBW7.out HB10.out)).mono ?_
     rintro e n2 ⟨v,rfl,ho,hb⟩;obtain ⟨NA2,nc2,rfl⟩:=ho.form;have HO2:=jH ho;have HNB2:=jH (show jB W7 n2 from bthen HB10.out hb);have HN2W:=jH hb;clear ho hb)
  | (at_builtin
     have h9:=HNB5.out;refine wpList_appendL eId (by rfl) (by rfl) w10.heap.size o4 m3 (.slice NA4 o4.length nc4) (.slice NA5 m3.length nc5) (by rfl) (by rfl) HO45.out HR5.out (by rw [HOU4.out,List.length_append];have:=HMZ.out;omega) HN5W.out.size ?_;intro nm NA6 nc6 n6 hout hown hg hor;have HNM:=jH (show nm=l1.map (·.id)++l2.map (·.id)++l3.map (·.id) from by rw [hout,HOU4.out,HMS.out.1,HMS.out.2.1,HMS.out.2.2])
     have HO6:=jH hown;have HN6W:=jH (show jB w10 n6 from HN5W.out.trans (grown_own hg HO45.out HN5W.out.size));clear h9 hout hown hg hor)
  | (at_builtin
     have h9:=HNB3.out;refine wpList_appendL eId (by rfl) (by rfl) w10.heap.size m1 m2 (.slice NA2 m1.length nc2) (.slice NA3 m2.length nc3) (by rfl) (by rfl) HO23.out HR3.out (by have:=HMZ.out;omega) HN3W.out.size ?_;intro o4 NA4 nc4 n4 hout hown hg hor;have HOU4:=jH (show o4=m1++m2 from hout);have HO4:=jH hown;have HN4W:=jH (show jB w10 n4 from HN3W.out.trans (grown_own hg HO23.out HN3W.out.size))
     have HNB4:=jH (show jB W7 n4 from HB10.out.trans (HN4W.out.mono HB10.out.size));clear h9 hout hown hg hor))
 obtain ⟨L2,hL2⟩:∃L2,L2=d2.L:=⟨_,rfl⟩;have HBN:=jH (show jB W7 n6 from HB10.out.trans (HN6W.out.mono HB10.out.size));have HNE:=jH (show (M<T∧L<T∧M<L2∧L<L2∧M≠L∧T≠L2)∧(M<W7.heap.size∧L<W7.heap.size∧W7.heap.size≤T∧W7.heap.size≤L2)∧(T<w10.heap.size∧L2<w10.heap.size∧w10.heap.size≤n6.heap.size)∧(w3.heap.size≤M∧w3.heap.size≤L∧w3.heap.size≤T∧w3.heap.size≤L2) by
  have h1:=HLT7.out;have h2:=HT8.out;have h3:=HS9.out;have h4:=HS10.out;have h5:=HN6W.out.size;have h6:=HBW7.out.size;have h7:=HTM.out.at_.ne;have h8:=HTT.out.at_.ne;rw [HL6.out] at h7;rw [←hL2] at h2 h8;omega)
 have HM6:=jH (HTM10.out.own HN6W.out (Q:=fun b=>b∉[M,L,T,L2]) (fun b hb _=>by
  obtain ⟨g1,g2,g3⟩:=hb;rw [←hL2] at g3;simp only [List.mem_cons,List.not_mem_nil,or_false] at g1 ⊢
  omega) (fun b hb=>by
  rw [HL6.out];simp only [List.mem_cons,List.not_mem_nil,or_false] at hb
  omega))
 have HT6:=jH (HTT10.out.own HN6W.out (Q:=fun b=>b∉[M,L,T,L2]) (fun b hb _=>by
  obtain ⟨g1,g2,g3⟩:=hb;rw [←hL2] at g3;simp only [List.mem_cons,List.not_mem_nil,or_false] at g1 ⊢
  omega) (fun b hb=>by
  rw [←hL2];simp only [List.mem_cons,List.not_mem_nil,or_false] at hb
  omega))
 have HX6':=jH ((HX7.out.old.below HBN.out).imp (Q:=fun b=>b∉[M,L,T,L2]) (fun b hb=>by
  have h9:=HNE.out;obtain ⟨g1,g2⟩:=hb;simp only [List.mem_cons,List.not_mem_nil,or_false] at g1 ⊢
  omega))
 have HLT2:=jH hL2.symm;clear hL2 HTM HTT HTM9 HTT9 HTM10 HTT10 HF7 HX7 HO2 HO23 HO4 HO45 HR3 HR5 CN CF CR;have HNM2:=jH (show nm.length≤60∧(∀s∈nm,s.size≤maxLen) by
  rw [HNM.out];refine ⟨by have:=HL.out;simp only [List.length_append,List.length_map];omega,fun s hs=>?_⟩;simp only [List.mem_append,List.mem_map] at hs
  rcases hs with (⟨p,hp,rfl⟩|⟨p,hp,rfl⟩)|⟨p,hp,rfl⟩
  · exact (HOK1.out p hp).2.1
  · exact (HOK2.out p hp).2.1
  · exact (HOK3.out p hp).2.1)
 rw [←HNM.out] at HNW1;obtain ⟨wd2,hwd2⟩:∃r,r=playW c rs rh wd1 l2:=⟨_,rfl⟩;obtain ⟨wd3,hwd3⟩:∃r,r=playW c rs rh wd1 l3:=⟨_,rfl⟩;have HNW2:=jH (show NamedW nm wd2 by rw [hwd2];exact HNW1.out.play (fun x hx=>by rw [HNM.out];exact List.mem_append_left _ (List.mem_append_right _ (List.mem_map.2 ⟨x,hx,rfl⟩))));have HNW3:=jH (show NamedW nm wd3 by rw [hwd3];exact HNW1.out.play (fun x hx=>by rw [HNM.out];exact List.mem_append_right _ (List.mem_map.2 ⟨x,hx,rfl⟩)))
 have HWD2:=jH hwd2;have HWD3:=jH hwd3;clear hwd2 hwd3;obtain ⟨XB,hXB⟩:∃XB,XB=w6.heap.size:=⟨_,rfl⟩;rw [←hXB] at HBX7 ⊢;have HXB:=jH (show XB<W7.heap.size∧XB≠M∧XB≠L by
  have:=(jL HBX7.out);have h9:=HLT6.out;rw [hXB];rw [hXB] at this;refine ⟨this,by omega,?_⟩;have h8:=HLL.out;omega)
 clear hXB;have HBXn:=jH (jK HBN.out HBX7.out);have HB3n:=jH (show jB w3 n6 from bthen HBW7.out HBN.out);have HRW:=jH (show RowIn 11 callCells w3 (.slice A2 l2.length cp2) l2∧RowIn 11 callCells w3 (.slice A3 l3.length cp3) l3 from ⟨HV2.out.below HB3.out,HV3.out.below HB3.out⟩);obtain ⟨X1,X2,X3⟩:=box_cells jR HBXn.out;unfold wdC at X1
 go_upto_region 13 with (first
  | (go_at_call 11
     have hne:=HNE.out;have h:=play_any [M,L,T,L2] c rs rh (0+l1.length) wd1 d1 x1 _ l2 w3 n6 HM6.out HL6.out ⟨by simp,by simp⟩ (fun b hb=>by simp only [List.mem_cons,List.not_mem_nil,or_false] at hb;omega) HX6'.out HA6.out HRW.out.1 HB3n.out ⟨by omega,by omega⟩ HOK2.out HCC.out HL.out.2.1 (by have:=HL.out;omega);rw [←HWD2.out] at h;unfold wdC at h;refine h.mono ?_;rintro e w11 ⟨d3,x2,rfl,hf,hl,hx,ha,hu⟩
     unfold wdC;have HM11:=jH hf;have HL11:=jH hl;have HX11:=jH hx;have HA11:=jH ha;have HT11:=jH (HT6.out.keepU hu (by simp only [List.mem_cons,List.not_mem_nil,or_false];omega) (by rw [HLT2.out];simp only [List.mem_cons,List.not_mem_nil,or_false];omega) (fun b hb=>by simp only [List.mem_cons,List.not_mem_nil,or_false] at hb ⊢;omega));have HXo11:=jH (HX6'.out.keepP hu.size (fun b hb hlt=>hu.block b hlt (by simp only [List.mem_cons,List.not_mem_nil,or_false] at hb ⊢;omega)))
     have HBX11:=jH (upd_at hu (by have:=HXB.out;simp only [List.mem_cons,List.not_mem_nil,or_false];omega) HBXn.out);have HO11:=jH (HO6.out.kept (fun r hr=>hu.block r (HO6.out.lt hr).2 (by have:=(HO6.out.lt hr).1;simp only [List.mem_cons,List.not_mem_nil,or_false];omega)));have HB11:=jH (show jB w3 w11 from HB3n.out.trans (hu.below HB3n.out.size (fun r hr=>by simp only [List.mem_cons,List.not_mem_nil,or_false] at hr;omega)))
     have HS11:=jH hu.size;clear h hf hl hx ha hu hne X1 X2 X3))
 refine name_world ?_;intro W12 hW12;have hd12:jB w11 W12:=by rw [hW12];exact balloc jR _
 have HBY12:=jH (show W12.heap[w11.heap.size]?=some (.cells (wdC c x2).toArray 32 (0,0)) by rw [hW12];exact heap_alloc_new _ _);have HBX12:=jH (jK hd12 HBX11.out);have HM12:=jH (HM11.out.below hd12);have HT12:=jH (HT11.out.below hd12);have HX12:=jH (HX11.out.below hd12);have HXo12:=jH (HXo11.out.below hd12);have HO12:=jH (HO11.out.below hd12);have HB12:=jH (bthen HB11.out hd12);have HS12:=jH (show n6.heap.size≤w11.heap.size∧w11.heap.size≤W12.heap.size from ⟨HS11.out,hd12.size⟩)
 clear hW12 hd12 HM11 HT11 HX11 HXo11 HO11 HBX11 HM6 HT6 HX6' HBXn;obtain ⟨YB,hYB⟩:∃YB,YB=w11.heap.size:=⟨_,rfl⟩;rw [←hYB] at HBY12 HS12 ⊢;clear hYB;obtain ⟨X1,X2,X3⟩:=box_cells jR HBX12.out;unfold wdC at X1
 go_upto_region 14 with (first
  | (go_at_call 11
     have hne:=HNE.out;have hs:=HS12.out;have h:=play_any [M,L,T,L2] c rs rh (0+l1.length) wd1 d2 x1 _ l3 w3 W12 HT12.out HLT2.out ⟨by simp,by simp⟩ (fun b hb=>by simp only [List.mem_cons,List.not_mem_nil,or_false] at hb;omega) HXo12.out HA6.out HRW.out.2 HB12.out ⟨by omega,by omega⟩ HOK3.out HCC.out HL.out.2.2 (by have:=HL.out;omega);rw [←HWD3.out] at h;unfold wdC at h;refine h.mono ?_;rintro e w13 ⟨d4,x3,rfl,hf,hl,hx,ha,hu⟩
     unfold wdC;have HT13:=jH hf;have HX13:=jH hx;have HA13:=jH ha;have HM13:=jH (HM12.out.keepU hu (by simp only [List.mem_cons,List.not_mem_nil,or_false];omega) (by rw [HL11.out];simp only [List.mem_cons,List.not_mem_nil,or_false];omega) (fun b hb=>by simp only [List.mem_cons,List.not_mem_nil,or_false] at hb ⊢;omega));have HXp13:=jH (HX12.out.keepP hu.size (fun b hb hlt=>hu.block b hlt (by simp only [List.mem_cons,List.not_mem_nil,or_false] at hb ⊢;omega)))
     have HBY13:=jH (upd_at hu (by simp only [List.mem_cons,List.not_mem_nil,or_false];omega) HBY12.out);have HO13:=jH (HO12.out.kept (fun r hr=>hu.block r (HO12.out.lt hr).2 (by have:=(HO12.out.lt hr).1;simp only [List.mem_cons,List.not_mem_nil,or_false];omega)));have HB13:=jH (show jB w3 w13 from HB12.out.trans (hu.below HB12.out.size (fun r hr=>by simp only [List.mem_cons,List.not_mem_nil,or_false] at hr;omega)))
     clear h hf hl hx ha hu hne hs X1 X2 X3))
 refine name_world ?_;intro W14 hW14;have hd14:jB w13 W14:=by rw [hW14];exact balloc jR _
 have HBZ14:=jH (show W14.heap[w13.heap.size]?=some (.cells (wdC c x3).toArray 32 (0,0)) by rw [hW14];exact heap_alloc_new _ _);have HBY14:=jH (jK hd14 HBY13.out);have HM14:=jH (HM13.out.below hd14);have HT14:=jH (HT13.out.below hd14);have HX14:=jH (HXp13.out.below hd14);have HZ14:=jH (HX13.out.below hd14);have HO14:=jH ((HO13.out.below hd14).row eId);have HB14:=jH (bthen HB13.out hd14);have HP14:=jH (show ∀b,W14.heap.size≤b→b∉[M,L,T,L2] from fun b hb=>by
  have h1:=HNE.out;have h2:=HS12.out;have h3:=HM14.out.at_.lt;have h4:=HM14.out.at_.map.lt;have h5:=HT14.out.at_.lt;have h6:=HX14.out;have h7:=HBY12.out;have h8:=(jL HBY14.out);simp only [List.mem_cons,List.not_mem_nil,or_false]
  omega)
 clear hW14 hd14 HM13 HT13 HXp13 HX13 HO13 HBY13 HM12 HT12 HX12 HXo12 HO12 HBX12;obtain ⟨lN,hlN⟩:∃r,r=idsN wd2 wd3 nm:=⟨_,rfl⟩;obtain ⟨ls,hls⟩:∃r,r=linesWd wd2 wd3 lN:=⟨_,rfl⟩;have HLN:=jH (show SrtB lN∧∀s,s∈lN ↔ idS s=true∧((loadW wd2 s).isSome=true∨(loadW wd3 s).isSome=true) by rw [hlN];exact ⟨idsN_srt _ _ _,idsN_iff HNW2.out HNW3.out⟩);have HLS:=jH (show linesWd wd2 wd3 lN=ls∧(linesWd wd3 wd2 lN).length=ls.length from ⟨hls.symm,by rw [hls];exact linesWd_comm _ _ _⟩)
 have CRL:=jH (fun W (hW:jB W14 W)=>rlines_any (fun b=>b∉[M,L,T,L2]) (fun b=>b∉[M,L,T,L2]) c rs rh 100 x2 x3 _ nm W (fun b hb=>HP14.out b (Nat.le_trans hW.size hb)) (fun b hb=>HP14.out b (Nat.le_trans hW.size hb)) (HX14.out.below hW) (HZ14.out.below hW) (by have:=HST.out.2;omega) (by rw [HA11.out];exact HM14.out.ok.mono (by have:=HL.out;omega)) (by rw [HA13.out];exact HT14.out.ok.mono (by have:=HL.out;omega)) (by have h9:=HCC.out.room;have:=h9.r2;have:=h9.h2;omega) (HO14.out.below hW) (by have:=HNM2.out;omega) HNM2.out.2)
 rw [HA11.out,HA13.out,←hlN,←hls] at CRL;have HLL2:=jH (show ls.length≤1000000 by
  rw [hls,hlN];unfold linesWd idsN;have h1:=linesL_len (fun s=>lineS s (loadW wd2 s) (loadW wd3 s)) (refI okT (refI (fun id=>(loadW wd2 id).isSome && idS id) nm++refI (fun id=>(loadW wd3 id).isSome && idS id) nm));have h2:=refI_len okT (refI (fun id=>(loadW wd2 id).isSome && idS id) nm++refI (fun id=>(loadW wd3 id).isSome && idS id) nm);have h3:=refI_len (fun id=>(loadW wd2 id).isSome && idS id) nm
  have h4:=refI_len (fun id=>(loadW wd3 id).isSome && idS id) nm;have h5:=HNM2.out.1;rw [List.length_append] at h2;omega)
 clear hlN hls;unfold wdC at CRL
 by_cases h0:ls.length=0
 · have y0:((ls.length:Int) == 0)=true:=by simp [h0]
   have HD:=jH (show decide (ls.length=0)=true from decide_eq_true h0);clear h0
   as_aux_lemma =>
    go_upto_region 15 with (first
     | (go_at_call 15
        refine (lines_wd HM14.out HT14.out HCC.out lN ls HLN.out.1 HLN.out.2 HLS.out.1).mono ?_;rintro e w15 ⟨A15,c15,rfl,ho,hb⟩;have HB15:=jH hb;have HO15:=jH (ho.row eId);clear ho hb))
    have HBYn:=jH (jK HB15.out HBY14.out);have HBZn:=jH (jK HB15.out HBZ14.out);obtain ⟨X1,X2,X3⟩:=box_cells jR HBYn.out;obtain ⟨Y1,Y2,Y3⟩:=box_cells jR HBZn.out;unfold wdC at X1 Y1
    go_wp2_with (first
     | (go_at_call 18
        refine (CRL.out w15 HB15.out).mono ?_;rintro e w16 ⟨A16,c16,rfl,ho,hb⟩;have HB16:=jH (bthen HB15.out hb);have HO16:=jH (ho.row eId);have HO15b:=jH (HO15.out.below hb);clear ho hb)
     | (go_at_call 17
        refine (texts22_any _ _ ls w16 HO15b.out HO16.out HLL2.out).mono ?_;rintro e w17 ⟨rfl,hb⟩;have HB17:=jH (bthen HB16.out hb);clear hb X1 X2 X3 Y1 Y2 Y3)
     | (go_at_call 15
        refine (lines_wd (HT14.out.below HB17.out) (HM14.out.below HB17.out) HCC.out lN _ HLN.out.1 (fun s=>(HLN.out.2 s).trans (and_congr_right fun _=>Or.comm)) rfl).mono ?_;rintro e w18 ⟨A18,c18,rfl,ho,hb⟩;rw [HLS.out.2];have HB18:=jH (bthen HB17.out hb);clear ho hb)
     | (go_at_call 14
        refine (same_wd (HM14.out.below HB18.out) (HT14.out.below HB18.out) HCC.out lN ls HLN.out.1 HLN.out.2 HLS.out.1).mono ?_;rw [HD.out];rintro e w19 ⟨rfl,hb⟩;have HB19:=jH (bthen HB18.out hb);clear hb))
    go_ret
    exact ⟨rfl,bthen HB3.out (bthen HB14.out HB19.out)⟩
 · have y0:((ls.length:Int) == 0)=false:=by simpa using h0
   have HD:=jH (show decide (ls.length=0)=false from decide_eq_false h0);clear h0
   as_aux_lemma =>
    go_upto_region 15 with (first
     | (go_at_call 15
        refine (lines_wd HM14.out HT14.out HCC.out lN ls HLN.out.1 HLN.out.2 HLS.out.1).mono ?_;rintro e w15 ⟨A15,c15,rfl,ho,hb⟩;have HB15:=jH hb;have HO15:=jH (ho.row eId);clear ho hb))
    have HBYn:=jH (jK HB15.out HBY14.out);have HBZn:=jH (jK HB15.out HBZ14.out);obtain ⟨X1,X2,X3⟩:=box_cells jR HBYn.out;obtain ⟨Y1,Y2,Y3⟩:=box_cells jR HBZn.out;unfold wdC at X1 Y1
    go_wp2_with (first
     | (go_at_call 18
        refine (CRL.out w15 HB15.out).mono ?_;rintro e w16 ⟨A16,c16,rfl,ho,hb⟩;have HB16:=jH (bthen HB15.out hb);have HO16:=jH (ho.row eId);have HO15b:=jH (HO15.out.below hb);clear ho hb)
     | (go_at_call 17
        refine (texts22_any _ _ ls w16 HO15b.out HO16.out HLL2.out).mono ?_;rintro e w17 ⟨rfl,hb⟩;have HB17:=jH (bthen HB16.out hb);clear hb X1 X2 X3 Y1 Y2 Y3)
     | (go_at_call 15
        refine (lines_wd (HT14.out.below HB17.out) (HM14.out.below HB17.out) HCC.out lN _ HLN.out.1 (fun s=>(HLN.out.2 s).trans (and_congr_right fun _=>Or.comm)) rfl).mono ?_;rintro e w18 ⟨A18,c18,rfl,ho,hb⟩;rw [HLS.out.2];have HB18:=jH (bthen HB17.out hb);clear ho hb)
     | (go_at_call 14
        refine (same_wd (HM14.out.below HB18.out) (HT14.out.below HB18.out) HCC.out lN ls HLN.out.1 HLN.out.2 HLS.out.1).mono ?_;rw [HD.out];rintro e w19 ⟨rfl,hb⟩;have HB19:=jH (bthen HB18.out hb);clear hb))
    go_ret
    exact ⟨rfl,bthen HB3.out (bthen HB14.out HB19.out)⟩
theorem dfL_any (c:Cfg) (v1 v2 v3:Value) (l1 l2 l3:List CallD) (w:World) (hv1:RowIn 11 callCells w v1 l1) (hv2:RowIn 11 callCells w v2 l2) (hv3:RowIn 11 callCells w v3 l3) (hok1:∀p∈l1,p.ok) (hok2:∀p∈l2,p.ok) (hok3:∀p∈l3,p.ok) (hc:c.ok) :
 Calls Tryz.prog 3 #[cfgV c,v1,v2,v3] w (jP w (.bool true)):=by
 cases hcb:cfgB c with
 | false=>exact dfL_nil c v1 v2 v3 l1 l2 l3 w hv1 hv2 hv3 hok1 hok2 hok3 hc hcb
 | true =>
   by_cases h1:l1.length≤20
   · by_cases h2:l2.length≤20
     · by_cases h3:l3.length≤20
       · exact dfL_main c v1 v2 v3 l1 l2 l3 w hv1 hv2 hv3 hok1 hok2 hok3 hc hcb h1 h2 h3
       · exact dfL_long3 c v1 v2 v3 l1 l2 l3 w hv1 hv2 hv3 hok1 hok2 hok3 hc hcb h1 h2 (by omega)
     · exact dfL_long2 c v1 v2 v3 l1 l2 l3 w hv1 hv2 hv3 hok1 hok2 hok3 hc hcb h1 (by omega)
   · exact dfL_long1 c v1 v2 v3 l1 l2 l3 w hv1 hv2 hv3 hok1 hok2 hok3 hc hcb (by omega)
end
end Go.Proofs.YtkcdhaallnhhmaaGreat
