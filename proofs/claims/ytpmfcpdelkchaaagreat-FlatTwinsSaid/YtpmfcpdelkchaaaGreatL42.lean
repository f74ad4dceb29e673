/- Part 42 of the proof: FlTwins. -/
import Derived.Test.YtpmfcpdelkchaaaGreatL38
import Derived.Test.YtpmfcpdelkchaaaGreatL41
namespace Go.Proofs.YtpmfcpdelkchaaaGreat
set_option linter.unusedSimpArgs false
set_option linter.unusedVariables false
set_option linter.unusedSectionVars false
set_option maxRecDepth 100000
set_option maxHeartbeats 16000000
section
open Go.RowKit Go.Lib
theorem flTw_nil (c:Cfg) (v1 v2 v3:Value) (l1 l2 l3:List CallD) (w:World) (hv1:RowIn 11 callCells w v1 l1) (hv2:RowIn 11 callCells w v2 l2) (hv3:RowIn 11 callCells w v3 l3) (hok1:∀p∈l1,p.ok) (hok2:∀p∈l2,p.ok) (hok3:∀p∈l3,p.ok) (hc:c.ok) (hcb:cfgB c=false) :
 Calls Tryz.prog 10 #[cfgV c,v1,v2,v3] w (jP w (.bool true)):=by
 obtain ⟨A1,cp1,rfl⟩:=hv1.form;obtain ⟨A2,cp2,rfl⟩:=hv2.form;obtain ⟨A3,cp3,rfl⟩:=hv3.form;have CR:=jH (fun W=>ref17Right_any c W);rw [hcb] at CR;unfold cfgV at CR ⊢;clear hv1 hv2 hv3 hok1 hok2 hok3 hc hcb
 go_enter Tryz.func10,Tryz.ntmps10
 go_wp2_with (first
  | (go_at_call 48
     refine calls_named ?_;intro W1 hW1;have HB1:=jH (show jB w W1 by rw [hW1];exact balloc jR _);have HC1:=jH (show W1.heap[w.heap.size]?=some (.cells #[.int .i64 c.st,.int .i64 c.sa,.int .i64 c.lo,.int .i64 c.hi] 23 (0,0)) by rw [hW1];exact heap_alloc_new _ _);clear hW1;refine (awake22_any W1).mono ?_;rintro e w2 ⟨rfl,hb⟩;have HB2:=jH (bthen HB1.out hb);have HC2:=jH (jK hb HC1.out);obtain ⟨c1,c2,c3⟩:=box_cells jR HC2.out
     clear hb)
  | (go_at_call 13
     refine (CR.out _).mono ?_;rintro e w3 ⟨rfl,hb⟩;have HB3:=jH (bthen HB2.out hb);have HC3:=jH (jK hb HC2.out);clear c1 c2 c3;obtain ⟨c1,c2,c3⟩:=box_cells jR HC3.out;clear hb))
 go_ret
 exact ⟨rfl,HB3.out⟩
theorem flTw_long1 (c:Cfg) (v1 v2 v3:Value) (l1 l2 l3:List CallD) (w:World) (hv1:RowIn 11 callCells w v1 l1) (hv2:RowIn 11 callCells w v2 l2) (hv3:RowIn 11 callCells w v3 l3) (hok1:∀p∈l1,p.ok) (hok2:∀p∈l2,p.ok) (hok3:∀p∈l3,p.ok) (hc:c.ok) (hcb:cfgB c=true) (h1:20<l1.length) :
 Calls Tryz.prog 10 #[cfgV c,v1,v2,v3] w (jP w (.bool true)):=by
 obtain ⟨A1,cp1,rfl⟩:=hv1.form;obtain ⟨A2,cp2,rfl⟩:=hv2.form;obtain ⟨A3,cp3,rfl⟩:=hv3.form;have CR:=jH (fun W=>ref17Right_any c W);rw [hcb] at CR;have q1:(20:Int)<(l1.length:Int):=by omega
 unfold cfgV at CR ⊢;clear hv1 hv2 hv3 hok1 hok2 hok3 hc hcb
 go_enter Tryz.func10,Tryz.ntmps10
 go_wp2_with (first
  | (go_at_call 48
     refine calls_named ?_;intro W1 hW1;have HB1:=jH (show jB w W1 by rw [hW1];exact balloc jR _);have HC1:=jH (show W1.heap[w.heap.size]?=some (.cells #[.int .i64 c.st,.int .i64 c.sa,.int .i64 c.lo,.int .i64 c.hi] 23 (0,0)) by rw [hW1];exact heap_alloc_new _ _);clear hW1;refine (awake22_any W1).mono ?_;rintro e w2 ⟨rfl,hb⟩;have HB2:=jH (bthen HB1.out hb);have HC2:=jH (jK hb HC1.out);obtain ⟨c1,c2,c3⟩:=box_cells jR HC2.out
     clear hb)
  | (go_at_call 13
     refine (CR.out _).mono ?_;rintro e w3 ⟨rfl,hb⟩;have HB3:=jH (bthen HB2.out hb);have HC3:=jH (jK hb HC2.out);clear c1 c2 c3;obtain ⟨c1,c2,c3⟩:=box_cells jR HC3.out;clear hb))
 go_ret
 exact ⟨rfl,HB3.out⟩
theorem flTw_long2 (c:Cfg) (v1 v2 v3:Value) (l1 l2 l3:List CallD) (w:World) (hv1:RowIn 11 callCells w v1 l1) (hv2:RowIn 11 callCells w v2 l2) (hv3:RowIn 11 callCells w v3 l3) (hok1:∀p∈l1,p.ok) (hok2:∀p∈l2,p.ok) (hok3:∀p∈l3,p.ok) (hc:c.ok) (hcb:cfgB c=true) (h1:l1.length≤20) (h2:20<l2.length) :
 Calls Tryz.prog 10 #[cfgV c,v1,v2,v3] w (jP w (.bool true)):=by
 obtain ⟨A1,cp1,rfl⟩:=hv1.form;obtain ⟨A2,cp2,rfl⟩:=hv2.form;obtain ⟨A3,cp3,rfl⟩:=hv3.form;have CR:=jH (fun W=>ref17Right_any c W);rw [hcb] at CR;have q1:¬(20:Int)<(l1.length:Int):=by omega
 have q2:(20:Int)<(l2.length:Int):=by omega
 unfold cfgV at CR ⊢;clear hv1 hv2 hv3 hok1 hok2 hok3 hc hcb
 go_enter Tryz.func10,Tryz.ntmps10
 go_wp2_with (first
  | (go_at_call 48
     refine calls_named ?_;intro W1 hW1;have HB1:=jH (show jB w W1 by rw [hW1];exact balloc jR _);have HC1:=jH (show W1.heap[w.heap.size]?=some (.cells #[.int .i64 c.st,.int .i64 c.sa,.int .i64 c.lo,.int .i64 c.hi] 23 (0,0)) by rw [hW1];exact heap_alloc_new _ _);clear hW1;refine (awake22_any W1).mono ?_;rintro e w2 ⟨rfl,hb⟩;have HB2:=jH (bthen HB1.out hb);have HC2:=jH (jK hb HC1.out);obtain ⟨c1,c2,c3⟩:=box_cells jR HC2.out
     clear hb)
  | (go_at_call 13
     refine (CR.out _).mono ?_;rintro e w3 ⟨rfl,hb⟩;have HB3:=jH (bthen HB2.out hb);have HC3:=jH (jK hb HC2.out);clear c1 c2 c3;obtain ⟨c1,c2,c3⟩:=box_cells jR HC3.out;clear hb))
 go_ret
 exact ⟨rfl,HB3.out⟩
theorem flTw_long3 (c:Cfg) (v1 v2 v3:Value) (l1 l2 l3:List CallD) (w:World) (hv1:RowIn 11 callCells w v1 l1) (hv2:RowIn 11 callCells w v2 l2) (hv3:RowIn 11 callCells w v3 l3) (hok1:∀p∈l1,p.ok) (hok2:∀p∈l2,p.ok) (hok3:∀p∈l3,p.ok) (hc:c.ok) (hcb:cfgB c=true) (h1:l1.length≤20) (h2:l2.length≤20) (h3:20<l3.length) :
 Calls Tryz.prog 10 #[cfgV c,v1,v2,v3] w (jP w (.bool true)):=by
 obtain ⟨A1,cp1,rfl⟩:=hv1.form;obtain ⟨A2,cp2,rfl⟩:=hv2.form;obtain ⟨A3,cp3,rfl⟩:=hv3.form;have CR:=jH (fun W=>ref17Right_any c W);rw [hcb] at CR;have q1:¬(20:Int)<(l1.length:Int):=by omega
 have q2:¬(20:Int)<(l2.length:Int):=by omega
 have q3:(20:Int)<(l3.length:Int):=by omega
 unfold cfgV at CR ⊢;clear hv1 hv2 hv3 hok1 hok2 hok3 hc hcb
 go_enter Tryz.func10,Tryz.ntmps10
 go_wp2_with (first
  | (go_at_call 48
     refine calls_named ?_;intro W1 hW1;have HB1:=jH (show jB w W1 by rw [hW1];exact balloc jR _);have HC1:=jH (show W1.heap[w.heap.size]?=some (.cells #[.int .i64 c.st,.int .i64 c.sa,.int .i64 c.lo,.int .i64 c.hi] 23 (0,0)) by rw [hW1];exact heap_alloc_new _ _);clear hW1;refine (awake22_any W1).mono ?_;rintro e w2 ⟨rfl,hb⟩;have HB2:=jH (bthen HB1.out hb);have HC2:=jH (jK hb HC1.out);obtain ⟨c1,c2,c3⟩:=box_cells jR HC2.out
     clear hb)
  | (go_at_call 13
     refine (CR.out _).mono ?_;rintro e w3 ⟨rfl,hb⟩;have HB3:=jH (bthen HB2.out hb);have HC3:=jH (jK hb HC2.out);clear c1 c2 c3;obtain ⟨c1,c2,c3⟩:=box_cells jR HC3.out;clear hb))
 go_ret
 exact ⟨rfl,HB3.out⟩
theorem flTw_main (c:Cfg) (v1 v2 v3:Value) (l1 l2 l3:List CallD) (w:World) (hv1:RowIn 11 callCells w v1 l1) (hv2:RowIn 11 callCells w v2 l2) (hv3:RowIn 11 callCells w v3 l3) (hok1:∀p∈l1,p.ok) (hok2:∀p∈l2,p.ok) (hok3:∀p∈l3,p.ok) (hc:c.ok) (hcb:cfgB c=true) (h1:l1.length≤20) (h2:l2.length≤20) (h3:l3.length≤20) :
 Calls Tryz.prog 10 #[cfgV c,v1,v2,v3] w (jP w (.bool true)):=by
 obtain ⟨A1,cp1,rfl⟩:=hv1.form;obtain ⟨A2,cp2,rfl⟩:=hv2.form;obtain ⟨A3,cp3,rfl⟩:=hv3.form;have hcc:=cfgOk_of22 hcb hc;have hst:okSt c.st=true:=by unfold cfgB at hcb;simp only [Bool.and_eq_true] at hcb;exact hcb.1
 have hbd:=okSt_bd _ hst;have HCC:=jH hcc;have CN:=jH (fun W P hP=>new21_any P c c.st.toNat W hP (by omega) (by omega));have CF:=jH (fun W=>fw_new c c.sa.toNat c.hi.toNat c.st.toNat W hcc (by omega));have CR:=jH (fun W=>ref17Right_any c W);rw [hcb] at CR;have HV1:=jH hv1;have HV2:=jH hv2;have HV3:=jH hv3;have HOK1:=jH hok1;have HOK2:=jH hok2;have HOK3:=jH hok3;obtain ⟨rs,hrs⟩:∃rs,rs=c.sa.toNat:=⟨_,rfl⟩
 obtain ⟨rh,hrh⟩:∃rh,rh=c.hi.toNat:=⟨_,rfl⟩;rw [←hrs,←hrh] at HCC CF;have q1:¬(20:Int)<(l1.length:Int):=by omega
 have q2:¬(20:Int)<(l2.length:Int):=by omega
 have q3:¬(20:Int)<(l3.length:Int):=by omega
 have HL:=jH (And.intro h1 (And.intro h2 h3));have HST:=jH (And.intro hst hbd);unfold cfgV at CN CR CF ⊢;clear hv1 hv2 hv3 hok1 hok2 hok3 hcc hcb hst hbd hrs hrh hc h1 h2 h3
 go_enter Tryz.func10,Tryz.ntmps10
 go_wp2_with (first
  | (go_at_call 48
     refine calls_named ?_;intro W1 hW1;have HB1:=jH (show jB w W1 by rw [hW1];exact balloc jR _);have HC1:=jH (show W1.heap[w.heap.size]?=some (.cells #[.int .i64 c.st,.int .i64 c.sa,.int .i64 c.lo,.int .i64 c.hi] 23 (0,0)) by rw [hW1];exact heap_alloc_new _ _);clear hW1;refine (awake22_any W1).mono ?_;rintro e w2 ⟨rfl,hb⟩;have HB2:=jH (bthen HB1.out hb);have HC2:=jH (jK hb HC1.out);obtain ⟨c1,c2,c3⟩:=box_cells jR HC2.out
     clear hb)
  | (go_at_call 13
     refine (CR.out _).mono ?_;rintro e w3 ⟨rfl,hb⟩;have HB3:=jH (bthen HB2.out hb);have HC3:=jH (jK hb HC2.out);clear c1 c2 c3;obtain ⟨c1,c2,c3⟩:=box_cells jR HC3.out;clear hb)
  | (go_at_call 14
     refine (CF.out _).mono ?_;rintro e w4 ⟨M,f0,rfl,hf,h1,h2,hb⟩;have HF4:=jH hf;have HML:=jH (And.intro h1 h2);have HB4:=jH hb;have HC4:=jH (jK hb HC3.out);clear c1 c2 c3;obtain ⟨c1,c2,c3⟩:=box_cells jR HC4.out;clear hb h1 h2 hf)
  | (go_at_call 16
     refine (CN.out w4 (fun b=>w4.heap.size≤b) (fun b hb=>hb)).mono ?_;rintro e w5 ⟨x0,rfl,hx0,hab0,hb⟩;unfold wdC;have HX5:=jH hx0;have HAB5:=jH hab0;have HB5:=jH hb;clear hb hx0 hab0 c1 c2 c3))
 refine name_world ?_;intro W5 hW5;have hd5:jB w5 W5:=by rw [hW5];exact balloc jR _
 have hb5:W5.heap[w5.heap.size]?=some (.cells (wdC c x0).toArray 32 (0,0)):=by rw [hW5];exact heap_alloc_new _ _
 have hlt5:w5.heap.size<W5.heap.size:=by rw [hW5];simp
 obtain ⟨L,hLL⟩:∃L,L=f0.L:=⟨_,rfl⟩;have HP0:=jH (show FlWd [M,L,w5.heap.size] W5 M L w5.heap.size c rs rh 0 (newW c.st.toNat) f0 x0∧jB w3 W5∧w3.heap.size≤M∧w3.heap.size≤L∧w3.heap.size≤w5.heap.size by
  subst hLL;have hb45:=bthen HB5.out hd5;have hm1:=HF4.out.at_.lt;have hm2:=HF4.out.at_.map.lt;have hs5:=HB5.out.size;have hs4:=HB4.out.size;refine ⟨⟨⟨HF4.out.at_.keep hb45.size (hb45.block _ hm1) (hb45.block _ hm2) (fun b hb hlt=>⟨hb45.block b hlt,?_⟩) (fun b hb=>?_),HF4.out.ok⟩,rfl,(HX5.out.old.below hd5).imp (fun b hb=>?_),HAB5.out,hb5,⟨by simp,by simp,by simp⟩,⟨by omega,by omega⟩,fun b hb=>?_⟩,bthen HB4.out hb45,HML.out.1,HML.out.2,by omega⟩
  · have:=hb.1;have:=hb.2
    simp only [List.mem_cons,List.not_mem_nil,or_false];omega
  · simp only [List.mem_cons,List.not_mem_nil,or_false] at hb;omega
  · have h1:=hb.1;have h2:=hb.2
    simp only [List.mem_cons,List.not_mem_nil,or_false];omega
  · simp only [List.mem_cons,List.not_mem_nil,or_false] at hb;omega)
 clear hW5 hd5 hb5 hlt5 hLL;generalize w5.heap.size=X at HP0
 try go_wp2_with fail
 go_loopg [50] l1.length (fun g s50 wr=>∃(k:Nat) (wd:Wd) (d:FlatD) (x:WdH),k≤l1.length∧l1.length - k≤g∧s50=.int .i64 k∧FlWd [M,L,X] wr M L X c rs rh k wd d x∧jB w3 wr∧NamedW (l1.map (·.id)) wd)
 case atStart=>exact ⟨0,_,f0,x0,Nat.zero_le _,Nat.le_refl _,rfl,HP0.out.1,HP0.out.2.1,NamedW.new _ _⟩
 case round =>
  obtain ⟨k,wd,d,x,hk,hg,rfl,hp,hbr,hnm⟩:=hrel;rename World=>wr
  have HP:=jH hp;have HBR:=jH hbr;have HNM:=jH hnm;have HLO:=jH HP0.out.2.2;clear hp hbr hnm HP0
  by_cases hlt:k<l1.length
  · have z1:(k:Int)<(l1.length:Int):=by omega
    have z2:(0:Int)≤(k:Int):=by omega
    obtain ⟨b,o,rfl,hbw,hcx⟩:=HV1.out.at_ hlt;have hxok:=HOK1.out _ (List.getElem_mem hlt);have hmem:l1[k].id∈l1.map (·.id):=List.mem_map.2 ⟨_,List.getElem_mem hlt,rfl⟩;generalize l1[k]=xx at hcx hxok hmem;have hbb:∀j u,(callCells xx)[j]?=some u→wr.cell? ⟨b,o+k * 11+j,none⟩=some u:=fun j u hu=>by
     have hlow:b<w3.heap.size:=Nat.lt_of_lt_of_le hbw HB3.out.size;exact (HBR.out.cell (p:=⟨b,_,none⟩) hlow).trans ((HB3.out.cell (p:=⟨b,_,none⟩) hbw).trans (hcx j u hu))
    have HNM2:=jH (HNM.out.do_ (c:=c) (rs:=rs) (rh:=rh) (x:=xx) hmem);have CD:=jH (fun W (hW:jB wr W)=>flDo_any xx (HP.out.below hW).fw (HP.out.below hW).new HCC.out (by have:=HL.out;omega) hxok);have CD2:=jH (fun W (P:Nat→Prop) (hP:∀b,W.heap.size≤b→P b) (hx:WdIn P W x)=>do21_any P c rs rh k x xx W hP hx HCC.out.room HST.out.1 (by rw [HP.out.abs];exact HP.out.fw.ok) (by have:=HL.out;omega) hxok);rw [HP.out.abs] at CD2
    rw [HP.out.l] at CD;clear hcx hxok hmem;obtain ⟨r,hr⟩:∃r,r=doW c rs rh wd xx:=⟨_,rfl⟩;rw [←hr] at CD CD2 HNM2;clear hr;obtain ⟨X1,X2,X3⟩:=box_cells jR HP.out.box;unfold wdC at X1;have hne0:¬X=wr.heap.size:=by have:=HP.out.lt X HP.out.mem.2.2;omega
    have hne0b:¬wr.heap.size=X:=fun h=>hne0 h.symm
    obtain ⟨kind,id,tick,val,handle,⟨p0,p1,p2,p3,p4,p5⟩⟩:=xx;have x0:=hbb 0 _ rfl;have x1:=hbb 1 _ rfl;have x2:=hbb 2 _ rfl;have x3:=hbb 3 _ rfl;have x4:=hbb 4 _ rfl;have x5:=hbb 5 _ rfl;have x6:=hbb 6 _ rfl;have x7:=hbb 7 _ rfl;have x8:=hbb 8 _ rfl;have x9:=hbb 9 _ rfl;have x10:=hbb 10 _ rfl;rw [Nat.add_zero] at x0;unfold callV at CD CD2;unfold wdC at CD2;dsimp only at x0 x1 x2 x3 x4 x5 x6 x7 x8 x9 x10 CD CD2
    obtain ⟨nw9,rp⟩:=r;unfold repV repC at CD;dsimp only at CD HNM2;clear hbb
    go_upto_region 11 with (first
     | (go_at_call 51
        refine calls_named ?_;intro V hV;have hd:jB wr V:=by rw [hV];exact balloc jR _
        have hx1:V.heap[wr.heap.size]?=some (.cells #[.int .i64 kind,.string id,.int .i64 tick,.int .i64 val,.int .i64 handle,.int .i64 p0,.int .i64 p1,.int .i64 p2,.int .i64 p3,.int .i64 p4,.int .i64 p5] 69 (0,0)):=by rw [hV];exact heap_alloc_new _ _
        clear hV;refine (CD.out V hd).mono ?_;rintro e u1 ⟨d',rfl,hfw,hl9,hu⟩;have hu1:=(Upd.of_below hd _).trans hu;have HF1:=jH hfw;have HL1:=jH hl9;have HU1:=jH hu1;have HC1:=jH (upd_at hu (by have h8:=HP.out.lt M HP.out.mem.1;have h9:=HP.out.lt L HP.out.mem.2.1;simp only [List.mem_cons,List.not_mem_nil,or_false];omega) hx1);have HX1:=jH (upd_at hu1 (by have h8:=HP.out.ne;simp only [List.mem_cons,List.not_mem_nil,or_false];rintro (e|e);exact h8.1 e.symm;exact h8.2 e.symm) HP.out.box)
        have HW1:=jH (HP.out.wo.keepP hu1.size (fun b hb hlt=>hu1.block b hlt (fun hq=>hb (by simp only [List.mem_cons,List.not_mem_nil,or_false] at hq ⊢;rcases hq with e|e;exact .inl e;exact .inr (.inl e)))));have HN1:=jH (show ∀b,u1.heap.size≤b→b∉[M,L,X] from fun b hb=>HP.out.new b (Nat.le_trans hu1.size hb));obtain ⟨y1,y2,y3⟩:=box_cells jR HX1.out;unfold wdC at y1;obtain ⟨g1,g2,g3⟩:=box_cells jR HC1.out
        clear hd hx1 hfw hl9 hu hu1 x0 x1 x2 x3 x4 x5 x6 x7 x8 x9 x10 X1 X2 X3))
    go_wp2_with (first
     | (go_at_call 50
        refine (CD2.out u1 _ HN1.out HW1.out).mono ?_;rintro e u2 ⟨x',rfl,hw,ha,hb⟩;unfold wdC;have HW2:=jH hw;have HA2:=jH ha;have HB2':=jH hb;have HX2:=jH (jK hb HX1.out);clear hw ha hb y1 y2 y3 g1 g2 g3;obtain ⟨y1,y2,y3⟩:=box_cells jR HX2.out;unfold wdC at y1))
    go_roundg (l1.length - (k+1))
    case measure=>omega
    case rel =>
     have hu2:=HU1.out.trans (Upd.of_below HB2'.out [M,L]);refine ⟨k+1,nw9,d',x',hlt,Nat.le_refl _,by go_num,(HP.out.put hu2 (HF1.out.below HB2'.out) HL1.out HW2.out HA2.out rfl).1,?_,HNM2.out⟩
     iterate 8 refine Below.setCell ?_ (by exact HLO.out.2.2) _
     exact HBR.out.trans (hu2.below HBR.out.size (fun r hr=>by
      simp only [List.mem_cons,List.not_mem_nil,or_false] at hr
      rcases hr with rfl|rfl
      · exact HLO.out.1
      · exact HLO.out.2.1))
  · obtain rfl:k=l1.length:=by omega
    have z1:¬(l1.length:Int)<(l1.length:Int):=by omega
    obtain ⟨X1,X2,X3⟩:=box_cells jR HP.out.box;unfold wdC at X1;have CTW:=jH (flTwin_any HP.out.fw HP.out.new (by have h1:=HP.out.fw.ok.cuts;have h2:=HP.out.fw.at_.len;have:=HL.out;omega))
    go_upto_region 15 with (first
     | (go_at_call 17
        refine CTW.out.mono ?_;rintro e w6 ⟨T,dT,rfl,tq1,tq2,tq3,tq4,hb⟩;have HTQ:=jH (And.intro tq1 (And.intro tq2 (And.intro tq3 tq4)));have HB6:=jH hb;have HX6:=jH ((hb.block _ (Array.getElem?_eq_some_iff.1 HP.out.box).1).trans HP.out.box);clear X1 X2 X3;obtain ⟨X1,X2,X3⟩:=box_cells jR HX6.out;unfold wdC at X1;clear tq1 tq2 tq3 tq4 hb))
    refine name_world ?_;intro W7 hW7;have hd7:jB w6 W7:=by rw [hW7];exact balloc jR _
    have hb7:W7.heap[w6.heap.size]?=some (.cells (wdC c x).toArray 32 (0,0)):=by rw [hW7];exact heap_alloc_new _ _
    have hlt7:w6.heap.size<W7.heap.size:=by rw [hW7];simp
    obtain ⟨L2,hL2⟩:∃L2,L2=dT.L:=⟨_,rfl⟩;have HPT:=jH (show FlWd [M,L,X,T,L2,w6.heap.size] W7 M L X c rs rh l1.length wd d x∧FlWd [M,L,X,T,L2,w6.heap.size] W7 T L2 w6.heap.size c rs rh l1.length wd dT x by
     subst hL2;exact HP.out.twin HB6.out HTQ.out.1 HTQ.out.2.1 rfl HTQ.out.2.2.1 HTQ.out.2.2.2 hd7 hlt7 hb7)
    have HBW:=jH (show jB w3 W7 from bthen HBR.out (bthen HB6.out hd7));have HLT:=jH (show w3.heap.size≤T∧w3.heap.size≤L2∧w3.heap.size≤w6.heap.size by
     have:=HBR.out.size;have:=HTQ.out.2.2;have:=HB6.out.size;rw [hL2];omega)
    have HDS:=jH (show (T≠M∧T≠L∧T≠X)∧(L2≠M∧L2≠L∧L2≠X)∧(w6.heap.size≠M∧w6.heap.size≠L∧w6.heap.size≠X) by
     have h1:=HP.out.lt M HP.out.mem.1;have h2:=HP.out.lt L HP.out.mem.2.1;have h3:=HP.out.lt X HP.out.mem.2.2;have:=HTQ.out.2.2;have:=HB6.out.size;rw [hL2];omega)
    clear hW7 hd7 hb7 hlt7 hL2 X1 X2 X3 z1;generalize w6.heap.size=XT at HPT HLT HDS
    try go_wp2_with fail
    obtain ⟨wdT,hwdT⟩:∃r,r=wd:=⟨_,rfl⟩;obtain ⟨xT,hxT⟩:∃r,r=x:=⟨_,rfl⟩;have HPT1:=jH HPT.out.1;have HPT2:=jH (show FlWd [M,L,X,T,L2,XT] W7 T L2 XT c rs rh l1.length wdT dT xT by rw [hwdT,hxT];exact HPT.out.2);have HNT:=jH (show NamedW (l1.map (·.id)) wdT by rw [hwdT];exact HNM.out);clear HPT hwdT hxT HP
    go_loopg [69] l2.length (fun g s69 wr=>∃(k:Nat) (wd:Wd) (d:FlatD) (x:WdH),k≤l2.length∧l2.length - k≤g∧s69=.int .i64 k∧FlWd [M,L,X,T,L2,XT] wr M L X c rs rh (l1.length+k) wd d x∧FlWd [M,L,X,T,L2,XT] wr T L2 XT c rs rh l1.length wdT dT xT∧jB w3 wr∧NamedW (l1.map (·.id)++l2.map (·.id)++l3.map (·.id)) wd)
    case atStart=>exact ⟨0,_,_,_,Nat.zero_le _,Nat.le_refl _,rfl,HPT1.out,HPT2.out,HBW.out,HNM.out.more (fun id hid=>by simp only [List.mem_append];exact .inl (.inl hid))⟩
    case round =>
     obtain ⟨k,wd,d,x,hk,hg,rfl,hp,hq,hbr,hnm⟩:=hrel;rename World=>wr
     have HP:=jH hp;have HQ:=jH hq;have HBR:=jH hbr;have HNM:=jH hnm;clear hp hq hbr hnm
     by_cases hlt:k<l2.length
     · have z1:(k:Int)<(l2.length:Int):=by omega
       have z2:(0:Int)≤(k:Int):=by omega
       obtain ⟨b,o,rfl,hbw,hcx⟩:=HV2.out.at_ hlt;have hxok:=HOK2.out _ (List.getElem_mem hlt);have hmem:l2[k].id∈l1.map (·.id)++l2.map (·.id)++l3.map (·.id):=by
        have h9:l2[k].id∈l2.map (·.id):=List.mem_map.2 ⟨_,List.getElem_mem hlt,rfl⟩;simp only [List.mem_append]
        simp only [h9,true_or,or_true]
       generalize l2[k]=xx at hcx hxok hmem;have hbb:∀j u,(callCells xx)[j]?=some u→wr.cell? ⟨b,o+k * 11+j,none⟩=some u:=fun j u hu=>by
        have hlow:b<w3.heap.size:=Nat.lt_of_lt_of_le hbw HB3.out.size;exact (HBR.out.cell (p:=⟨b,_,none⟩) hlow).trans ((HB3.out.cell (p:=⟨b,_,none⟩) hbw).trans (hcx j u hu))
       have HNM2:=jH (HNM.out.do_ (c:=c) (rs:=rs) (rh:=rh) (x:=xx) hmem);have CD:=jH (fun W (hW:jB wr W)=>flDo_any xx (HP.out.below hW).fw (HP.out.below hW).new HCC.out (by have:=HL.out;omega) hxok);have CD2:=jH (fun W (P:Nat→Prop) (hP:∀b,W.heap.size≤b→P b) (hx:WdIn P W x)=>do21_any P c rs rh (l1.length+k) x xx W hP hx HCC.out.room HST.out.1 (by rw [HP.out.abs];exact HP.out.fw.ok) (by have:=HL.out;omega) hxok)
       rw [HP.out.abs] at CD2;rw [HP.out.l] at CD;clear hcx hxok hmem;obtain ⟨r,hr⟩:∃r,r=doW c rs rh wd xx:=⟨_,rfl⟩;rw [←hr] at CD CD2 HNM2;clear hr;obtain ⟨X1,X2,X3⟩:=box_cells jR HP.out.box;unfold wdC at X1;have hne0:¬X=wr.heap.size:=by have:=HP.out.lt X HP.out.mem.2.2;omega
       have hne0b:¬wr.heap.size=X:=fun h=>hne0 h.symm
       obtain ⟨kind,id,tick,val,handle,⟨p0,p1,p2,p3,p4,p5⟩⟩:=xx;have x0:=hbb 0 _ rfl;have x1:=hbb 1 _ rfl;have x2:=hbb 2 _ rfl;have x3:=hbb 3 _ rfl;have x4:=hbb 4 _ rfl;have x5:=hbb 5 _ rfl;have x6:=hbb 6 _ rfl;have x7:=hbb 7 _ rfl;have x8:=hbb 8 _ rfl;have x9:=hbb 9 _ rfl;have x10:=hbb 10 _ rfl;rw [Nat.add_zero] at x0;unfold callV at CD CD2;unfold wdC at CD2;dsimp only at x0 x1 x2 x3 x4 x5 x6 x7 x8 x9 x10 CD CD2
       obtain ⟨nw9,rp⟩:=r;unfold repV repC at CD;dsimp only at CD HNM2;have CD2:=jH (fun W (P:Nat→Prop) (hP:∀b,W.heap.size≤b→P b) (hx:WdIn P W x)=>show Calls Tryz.prog 50 #[.agg #[.int .i64 c.st,.int .i64 c.sa,.int .i64 c.lo,.int .i64 c.hi,.slice x.sA x.st.length x.sc,.slice x.cA x.cuts.length x.cc,.int .i64 x.ep,.bool x.over],.agg #[.int .i64 kind,.string id,.int .i64 tick,.int .i64 val,.int .i64 handle,.int .i64 p0,.int .i64 p1,.int .i64 p2,.int .i64 p3,.int .i64 p4,.int .i64 p5]] W fun e w'=>∃x',e=.returned (.tuple #[.agg #[.int .i64 c.st,.int .i64 c.sa,.int .i64 c.lo,.int .i64 c.hi,.slice x'.sA x'.st.length x'.sc,.slice x'.cA x'.cuts.length x'.cc,.int .i64 x'.ep,.bool x'.over],.agg #[.int .i64 rp.err,.int .i64 rp.ep,.int .i64 rp.hd,.int .i64 rp.st.cnt,.int .i64 rp.st.sum,.int .i64 rp.st.least,.int .i64 rp.st.most,.int .i64 rp.st.mean,.int .i64 rp.adv.tick,.int .i64 rp.adv.load,.int .i64 rp.adv.want,.int .i64 rp.adv.repl,.int .i64 rp.adv.why]])∧WdIn P w' x'∧absW x'=nw9∧jB W w' from CD2.out W P hP hx)
       clear hbb
       go_upto_region 19 with (first
        | (go_at_call 50
           refine calls_named ?_;intro V hV;have hd:jB wr V:=by rw [hV];exact balloc jR _
           have hx1:V.heap[wr.heap.size]?=some (.cells #[.int .i64 kind,.string id,.int .i64 tick,.int .i64 val,.int .i64 handle,.int .i64 p0,.int .i64 p1,.int .i64 p2,.int .i64 p3,.int .i64 p4,.int .i64 p5] 69 (0,0)):=by rw [hV];exact heap_alloc_new _ _
           clear hV;refine (CD2.out V _ (fun b hb=>HP.out.new b (Nat.le_trans hd.size hb)) (HP.out.wo.below hd)).mono ?_;rintro e u1 ⟨x',rfl,hw,ha,hb⟩;have HW1:=jH hw;have HA1:=jH ha;have HB1u:=jH (bthen hd hb);have HC1:=jH (jK hb hx1);clear hd hx1 hw ha hb x0 x1 x2 x3 x4 x5 x6 x7 x8 x9 x10 X1 X2 X3))
       refine name_world ?_;intro U hU;have hdU:jB u1 U:=by rw [hU];exact balloc (balloc jR _) _
       have HWU:=jH (show U.heap[u1.heap.size]?=some (.cells #[.int .i64 c.st,.int .i64 c.sa,.int .i64 c.lo,.int .i64 c.hi,.slice x'.sA x'.st.length x'.sc,.slice x'.cA x'.cuts.length x'.cc,.int .i64 x'.ep,.bool x'.over] 32 (0,0)) by rw [hU];exact box_old _ _ _);have HRU:=jH (show U.heap[u1.heap.size+1]?=some (.cells #[.int .i64 rp.err,.int .i64 rp.ep,.int .i64 rp.hd,.int .i64 rp.st.cnt,.int .i64 rp.st.sum,.int .i64 rp.st.least,.int .i64 rp.st.most,.int .i64 rp.st.mean,.int .i64 rp.adv.tick,.int .i64 rp.adv.load,.int .i64 rp.adv.want,.int .i64 rp.adv.repl,.int .i64 rp.adv.why] 76 (0,0)) by rw [hU];exact box_new _ _ _)
       have HCU:=jH (jK hdU HC1.out);have HBU:=jH (bthen HB1u.out hdU);have HWW:=jH (HW1.out.below hdU);clear hU hdU;have rr1:∀W:World,W.heap[wr.heap.size]?=some (.cells #[.int .i64 kind,.string id,.int .i64 tick,.int .i64 val,.int .i64 handle,.int .i64 p0,.int .i64 p1,.int .i64 p2,.int .i64 p3,.int .i64 p4,.int .i64 p5] 69 (0,0))∧W.heap[u1.heap.size+1]?=some (.cells #[.int .i64 rp.err,.int .i64 rp.ep,.int .i64 rp.hd,.int .i64 rp.st.cnt,.int .i64 rp.st.sum,.int .i64 rp.st.least,.int .i64 rp.st.most,.int .i64 rp.st.mean,.int .i64 rp.adv.tick,.int .i64 rp.adv.load,.int .i64 rp.adv.want,.int .i64 rp.adv.repl,.int .i64 rp.adv.why] 76 (0,0))→∀j,W.cell? ⟨wr.heap.size,j,none⟩=(#[.int .i64 kind,.string id,.int .i64 tick,.int .i64 val,.int .i64 handle,.int .i64 p0,.int .i64 p1,.int .i64 p2,.int .i64 p3,.int .i64 p4,.int .i64 p5]:Array Value)[j]?:=fun W hW j=>(box_cells jR hW.1).1 j
       have rr2:∀W:World,W.heap[wr.heap.size]?=some (.cells #[.int .i64 kind,.string id,.int .i64 tick,.int .i64 val,.int .i64 handle,.int .i64 p0,.int .i64 p1,.int .i64 p2,.int .i64 p3,.int .i64 p4,.int .i64 p5] 69 (0,0))∧W.heap[u1.heap.size+1]?=some (.cells #[.int .i64 rp.err,.int .i64 rp.ep,.int .i64 rp.hd,.int .i64 rp.st.cnt,.int .i64 rp.st.sum,.int .i64 rp.st.least,.int .i64 rp.st.most,.int .i64 rp.st.mean,.int .i64 rp.adv.tick,.int .i64 rp.adv.load,.int .i64 rp.adv.want,.int .i64 rp.adv.repl,.int .i64 rp.adv.why] 76 (0,0))→∀j,W.cell? ⟨u1.heap.size+1,j,none⟩=(#[.int .i64 rp.err,.int .i64 rp.ep,.int .i64 rp.hd,.int .i64 rp.st.cnt,.int .i64 rp.st.sum,.int .i64 rp.st.least,.int .i64 rp.st.most,.int .i64 rp.st.mean,.int .i64 rp.adv.tick,.int .i64 rp.adv.load,.int .i64 rp.adv.want,.int .i64 rp.adv.repl,.int .i64 rp.adv.why]:Array Value)[j]?:=fun W hW j=>(box_cells jR hW.2).1 j
       have hS0:U.drew.heap[wr.heap.size]?=some (.cells #[.int .i64 kind,.string id,.int .i64 tick,.int .i64 val,.int .i64 handle,.int .i64 p0,.int .i64 p1,.int .i64 p2,.int .i64 p3,.int .i64 p4,.int .i64 p5] 69 (0,0))∧U.drew.heap[u1.heap.size+1]?=some (.cells #[.int .i64 rp.err,.int .i64 rp.ep,.int .i64 rp.hd,.int .i64 rp.st.cnt,.int .i64 rp.st.sum,.int .i64 rp.st.least,.int .i64 rp.st.most,.int .i64 rp.st.mean,.int .i64 rp.adv.tick,.int .i64 rp.adv.load,.int .i64 rp.adv.want,.int .i64 rp.adv.repl,.int .i64 rp.adv.why] 76 (0,0)):=⟨HCU.out,HRU.out⟩
       go_region_held3 (fun W=>W.heap[wr.heap.size]?=some (.cells #[.int .i64 kind,.string id,.int .i64 tick,.int .i64 val,.int .i64 handle,.int .i64 p0,.int .i64 p1,.int .i64 p2,.int .i64 p3,.int .i64 p4,.int .i64 p5] 69 (0,0))∧W.heap[u1.heap.size+1]?=some (.cells #[.int .i64 rp.err,.int .i64 rp.ep,.int .i64 rp.hd,.int .i64 rp.st.cnt,.int .i64 rp.st.sum,.int .i64 rp.st.least,.int .i64 rp.st.most,.int .i64 rp.st.mean,.int .i64 rp.adv.tick,.int .i64 rp.adv.load,.int .i64 rp.adv.want,.int .i64 rp.adv.repl,.int .i64 rp.adv.why] 76 (0,0)))
         (first
           | with_reducible exact hS0
           | with_reducible exact HS2.out)
         (first
           | (go_at_call 51
              refine calls_named ?_;intro V1 hV1;have hd:jB U V1:=by rw [hV1];first|exact jR.drew|exact jR
              have hx1:V1.heap[wr.heap.size]?=some (.cells #[.int .i64 kind,.string id,.int .i64 tick,.int .i64 val,.int .i64 handle,.int .i64 p0,.int .i64 p1,.int .i64 p2,.int .i64 p3,.int .i64 p4,.int .i64 p5] 69 (0,0))∧V1.heap[u1.heap.size+1]?=some (.cells #[.int .i64 rp.err,.int .i64 rp.ep,.int .i64 rp.hd,.int .i64 rp.st.cnt,.int .i64 rp.st.sum,.int .i64 rp.st.least,.int .i64 rp.st.most,.int .i64 rp.st.mean,.int .i64 rp.adv.tick,.int .i64 rp.adv.load,.int .i64 rp.adv.want,.int .i64 rp.adv.repl,.int .i64 rp.adv.why] 76 (0,0)):=by rw [hV1];exact hS0
              clear hV1;refine (CD.out V1 (bthen HBU.out hd)).mono ?_;rintro e u2 ⟨d',rfl,hfw,hl9,hu⟩;have HF2:=jH hfw;have HL2:=jH hl9;have HU2:=jH ((Upd.of_below hd _).trans hu);have HS2:=jH (show u2.heap[wr.heap.size]?=some (.cells #[.int .i64 kind,.string id,.int .i64 tick,.int .i64 val,.int .i64 handle,.int .i64 p0,.int .i64 p1,.int .i64 p2,.int .i64 p3,.int .i64 p4,.int .i64 p5] 69 (0,0))∧u2.heap[u1.heap.size+1]?=some (.cells #[.int .i64 rp.err,.int .i64 rp.ep,.int .i64 rp.hd,.int .i64 rp.st.cnt,.int .i64 rp.st.sum,.int .i64 rp.st.least,.int .i64 rp.st.most,.int .i64 rp.st.mean,.int .i64 rp.adv.tick,.int .i64 rp.adv.load,.int .i64 rp.adv.want,.int .i64 rp.adv.repl,.int .i64 rp.adv.why] 76 (0,0)) from by
               have h8:=HP.out.lt M HP.out.mem.1;have h9:=HP.out.lt L HP.out.mem.2.1;have h7:=HB1u.out.size;exact ⟨upd_at hu (by simp only [List.mem_cons,List.not_mem_nil,or_false];omega) hx1.1,upd_at hu (by simp only [List.mem_cons,List.not_mem_nil,or_false];omega) hx1.2⟩)
              clear hd hx1 hfw hl9 hu))
       all_goals
         refine then_named ?_;intro U9 hU9;have HK9:=jH (show jB u2 U9 by rw [hU9];first|exact jR|exact jR.drew);clear hU9;have hmx:∀b,b≠M→b≠L→b∉[M,L]:=fun b h1 h2=>by simp only [List.mem_cons,List.not_mem_nil,or_false];rintro (e|e);exact h1 e;exact h2 e
         have HU9:=jH (HU2.out.trans (Upd.of_below HK9.out [M,L]));have HUW:=jH ((Upd.of_below HBU.out [M,L]).trans HU9.out);have HW9:=jH (upd_at HU9.out (hmx _ (by have:=HP.out.lt M HP.out.mem.1;have:=HB1u.out.size;omega) (by have:=HP.out.lt L HP.out.mem.2.1;have:=HB1u.out.size;omega)) HWU.out);have HXX9:=jH (upd_at HUW.out (hmx _ (fun e=>HP.out.ne.1 e.symm) (fun e=>HP.out.ne.2 e.symm)) HP.out.box)
         have HWW9:=jH (HWW.out.keepP HU9.out.size (fun b hb hlt=>HU9.out.block b hlt (hmx b (fun e=>hb (by rw [e];exact HP.out.mem.1)) (fun e=>hb (by rw [e];exact HP.out.mem.2.1)))));clear hmx rr1 rr2 hS0;obtain ⟨y1,y2,y3⟩:=box_cells jR HW9.out;obtain ⟨g1,g2,g3⟩:=box_cells jR HXX9.out;unfold wdC at g1;go_wp2_with fail
         go_roundg (l2.length - (k+1))
         case measure=>omega
         case rel =>
          have hput:=HP.out.put HUW.out (HF2.out.below HK9.out) HL2.out HWW9.out HA1.out rfl;refine ⟨k+1,nw9,d',x',hlt,Nat.le_refl _,by go_num,hput.1,HQ.out.keep (Nat.le_trans HUW.out.size (Nat.le_of_eq hput.2.1.symm)) (hput.2.2 T (HQ.out.lt T HQ.out.mem.1) HDS.out.1.1 HDS.out.1.2.1 HDS.out.1.2.2) (hput.2.2 L2 (HQ.out.lt L2 HQ.out.mem.2.1) HDS.out.2.1.1 HDS.out.2.1.2.1 HDS.out.2.1.2.2) (hput.2.2 XT (HQ.out.lt XT HQ.out.mem.2.2) HDS.out.2.2.1 HDS.out.2.2.2.1 HDS.out.2.2.2.2) (fun b hb hlt=>hput.2.2 b hlt (fun e=>hb (by rw [e];exact HP.out.mem.1)) (fun e=>hb (by rw [e];exact HP.out.mem.2.1)) (fun e=>hb (by rw [e];exact HP.out.mem.2.2))),?_,HNM2.out⟩
          iterate 8 refine Below.setCell ?_ (by exact HLO.out.2.2) _
          exact HBR.out.trans (HUW.out.below HBR.out.size (fun r hr=>by
           simp only [List.mem_cons,List.not_mem_nil,or_false] at hr
           rcases hr with rfl|rfl
           · exact HLO.out.1
           · exact HLO.out.2.1))
     · obtain rfl:k=l2.length:=by omega
       have z1:¬(l2.length:Int)<(l2.length:Int):=by omega
       obtain ⟨wdM,hwdM⟩:∃r,r=wd:=⟨_,rfl⟩;obtain ⟨dM,hdM⟩:∃r,r=d:=⟨_,rfl⟩;obtain ⟨xM,hxM⟩:∃r,r=x:=⟨_,rfl⟩;have HPM:=jH (show FlWd [M,L,X,T,L2,XT] wr M L X c rs rh (l1.length+l2.length) wdM dM xM by rw [hwdM,hdM,hxM];exact HP.out);have HNMM:=jH (show NamedW (l1.map (·.id)++l2.map (·.id)++l3.map (·.id)) wdM by rw [hwdM];exact HNM.out);have HQT:=jH HQ.out;have HBT:=jH HBR.out;clear hwdM hdM hxM HP HQ HNM HBR
       try go_wp2_with fail
       go_loopg [88] l3.length (fun g s88 wr=>∃(k:Nat) (wd:Wd) (d:FlatD) (x:WdH),k≤l3.length∧l3.length - k≤g∧s88=.int .i64 k∧FlWd [M,L,X,T,L2,XT] wr T L2 XT c rs rh (l1.length+k) wd d x∧FlWd [M,L,X,T,L2,XT] wr M L X c rs rh (l1.length+l2.length) wdM dM xM∧jB w3 wr∧NamedW (l1.map (·.id)++l2.map (·.id)++l3.map (·.id)) wd)
       case atStart=>exact ⟨0,_,_,_,Nat.zero_le _,Nat.le_refl _,rfl,HQT.out,HPM.out,HBT.out,HNT.out.more (fun id hid=>by simp only [List.mem_append];exact .inl (.inl hid))⟩
       case round =>
        obtain ⟨k,wd,d,x,hk,hg,rfl,hp,hq,hbr,hnm⟩:=hrel;rename World=>wr
        have HP:=jH hp;have HQ:=jH hq;have HBR:=jH hbr;have HNM:=jH hnm;clear hp hq hbr hnm
        by_cases hlt:k<l3.length
        · have z1:(k:Int)<(l3.length:Int):=by omega
          have z2:(0:Int)≤(k:Int):=by omega
          obtain ⟨b,o,rfl,hbw,hcx⟩:=HV3.out.at_ hlt;have hxok:=HOK3.out _ (List.getElem_mem hlt);have hmem:l3[k].id∈l1.map (·.id)++l2.map (·.id)++l3.map (·.id):=by
           have h9:l3[k].id∈l3.map (·.id):=List.mem_map.2 ⟨_,List.getElem_mem hlt,rfl⟩;simp only [List.mem_append]
           simp only [h9,true_or,or_true]
          generalize l3[k]=xx at hcx hxok hmem;have hbb:∀j u,(callCells xx)[j]?=some u→wr.cell? ⟨b,o+k * 11+j,none⟩=some u:=fun j u hu=>by
           have hlow:b<w3.heap.size:=Nat.lt_of_lt_of_le hbw HB3.out.size;exact (HBR.out.cell (p:=⟨b,_,none⟩) hlow).trans ((HB3.out.cell (p:=⟨b,_,none⟩) hbw).trans (hcx j u hu))
          have HNM2:=jH (HNM.out.do_ (c:=c) (rs:=rs) (rh:=rh) (x:=xx) hmem);have CD:=jH (fun W (hW:jB wr W)=>flDo_any xx (HP.out.below hW).fw (HP.out.below hW).new HCC.out (by have:=HL.out;omega) hxok);have CD2:=jH (fun W (P:Nat→Prop) (hP:∀b,W.heap.size≤b→P b) (hx:WdIn P W x)=>do21_any P c rs rh (l1.length+k) x xx W hP hx HCC.out.room HST.out.1 (by rw [HP.out.abs];exact HP.out.fw.ok) (by have:=HL.out;omega) hxok)
          rw [HP.out.abs] at CD2;rw [HP.out.l] at CD;clear hcx hxok hmem;obtain ⟨r,hr⟩:∃r,r=doW c rs rh wd xx:=⟨_,rfl⟩;rw [←hr] at CD CD2 HNM2;clear hr;obtain ⟨X1,X2,X3⟩:=box_cells jR HP.out.box;unfold wdC at X1;have hne0:¬XT=wr.heap.size:=by have:=HP.out.lt XT HP.out.mem.2.2;omega
          have hne0b:¬wr.heap.size=XT:=fun h=>hne0 h.symm
          obtain ⟨kind,id,tick,val,handle,⟨p0,p1,p2,p3,p4,p5⟩⟩:=xx;have x0:=hbb 0 _ rfl;have x1:=hbb 1 _ rfl;have x2:=hbb 2 _ rfl;have x3:=hbb 3 _ rfl;have x4:=hbb 4 _ rfl;have x5:=hbb 5 _ rfl;have x6:=hbb 6 _ rfl;have x7:=hbb 7 _ rfl;have x8:=hbb 8 _ rfl;have x9:=hbb 9 _ rfl;have x10:=hbb 10 _ rfl;rw [Nat.add_zero] at x0;unfold callV at CD CD2;unfold wdC at CD2;dsimp only at x0 x1 x2 x3 x4 x5 x6 x7 x8 x9 x10 CD CD2
          obtain ⟨nw9,rp⟩:=r;unfold repV repC at CD;dsimp only at CD HNM2;have CD2:=jH (fun W (P:Nat→Prop) (hP:∀b,W.heap.size≤b→P b) (hx:WdIn P W x)=>show Calls Tryz.prog 50 #[.agg #[.int .i64 c.st,.int .i64 c.sa,.int .i64 c.lo,.int .i64 c.hi,.slice x.sA x.st.length x.sc,.slice x.cA x.cuts.length x.cc,.int .i64 x.ep,.bool x.over],.agg #[.int .i64 kind,.string id,.int .i64 tick,.int .i64 val,.int .i64 handle,.int .i64 p0,.int .i64 p1,.int .i64 p2,.int .i64 p3,.int .i64 p4,.int .i64 p5]] W fun e w'=>∃x',e=.returned (.tuple #[.agg #[.int .i64 c.st,.int .i64 c.sa,.int .i64 c.lo,.int .i64 c.hi,.slice x'.sA x'.st.length x'.sc,.slice x'.cA x'.cuts.length x'.cc,.int .i64 x'.ep,.bool x'.over],.agg #[.int .i64 rp.err,.int .i64 rp.ep,.int .i64 rp.hd,.int .i64 rp.st.cnt,.int .i64 rp.st.sum,.int .i64 rp.st.least,.int .i64 rp.st.most,.int .i64 rp.st.mean,.int .i64 rp.adv.tick,.int .i64 rp.adv.load,.int .i64 rp.adv.want,.int .i64 rp.adv.repl,.int .i64 rp.adv.why]])∧WdIn P w' x'∧absW x'=nw9∧jB W w' from CD2.out W P hP hx)
          clear hbb
          go_upto_region 27 with (first
           | (go_at_call 50
              refine calls_named ?_;intro V hV;have hd:jB wr V:=by rw [hV];exact balloc jR _
              have hx1:V.heap[wr.heap.size]?=some (.cells #[.int .i64 kind,.string id,.int .i64 tick,.int .i64 val,.int .i64 handle,.int .i64 p0,.int .i64 p1,.int .i64 p2,.int .i64 p3,.int .i64 p4,.int .i64 p5] 69 (0,0)):=by rw [hV];exact heap_alloc_new _ _
              clear hV;refine (CD2.out V _ (fun b hb=>HP.out.new b (Nat.le_trans hd.size hb)) (HP.out.wo.below hd)).mono ?_;rintro e u1 ⟨x',rfl,hw,ha,hb⟩;have HW1:=jH hw;have HA1:=jH ha;have HB1u:=jH (bthen hd hb);have HC1:=jH (jK hb hx1);clear hd hx1 hw ha hb x0 x1 x2 x3 x4 x5 x6 x7 x8 x9 x10 X1 X2 X3))
          refine name_world ?_;intro U hU;have hdU:jB u1 U:=by rw [hU];exact balloc (balloc jR _) _
          have HWU:=jH (show U.heap[u1.heap.size]?=some (.cells #[.int .i64 c.st,.int .i64 c.sa,.int .i64 c.lo,.int .i64 c.hi,.slice x'.sA x'.st.length x'.sc,.slice x'.cA x'.cuts.length x'.cc,.int .i64 x'.ep,.bool x'.over] 32 (0,0)) by rw [hU];exact box_old _ _ _);have HRU:=jH (show U.heap[u1.heap.size+1]?=some (.cells #[.int .i64 rp.err,.int .i64 rp.ep,.int .i64 rp.hd,.int .i64 rp.st.cnt,.int .i64 rp.st.sum,.int .i64 rp.st.least,.int .i64 rp.st.most,.int .i64 rp.st.mean,.int .i64 rp.adv.tick,.int .i64 rp.adv.load,.int .i64 rp.adv.want,.int .i64 rp.adv.repl,.int .i64 rp.adv.why] 76 (0,0)) by rw [hU];exact box_new _ _ _)
          have HCU:=jH (jK hdU HC1.out);have HBU:=jH (bthen HB1u.out hdU);have HWW:=jH (HW1.out.below hdU);clear hU hdU;have rr1:∀W:World,W.heap[wr.heap.size]?=some (.cells #[.int .i64 kind,.string id,.int .i64 tick,.int .i64 val,.int .i64 handle,.int .i64 p0,.int .i64 p1,.int .i64 p2,.int .i64 p3,.int .i64 p4,.int .i64 p5] 69 (0,0))∧W.heap[u1.heap.size+1]?=some (.cells #[.int .i64 rp.err,.int .i64 rp.ep,.int .i64 rp.hd,.int .i64 rp.st.cnt,.int .i64 rp.st.sum,.int .i64 rp.st.least,.int .i64 rp.st.most,.int .i64 rp.st.mean,.int .i64 rp.adv.tick,.int .i64 rp.adv.load,.int .i64 rp.adv.want,.int .i64 rp.adv.repl,.int .i64 rp.adv.why] 76 (0,0))→∀j,W.cell? ⟨wr.heap.size,j,none⟩=(#[.int .i64 kind,.string id,.int .i64 tick,.int .i64 val,.int .i64 handle,.int .i64 p0,.int .i64 p1,.int .i64 p2,.int .i64 p3,.int .i64 p4,.int .i64 p5]:Array Value)[j]?:=fun W hW j=>(box_cells jR hW.1).1 j
          have rr2:∀W:World,W.heap[wr.heap.size]?=some (.cells #[.int .i64 kind,.string id,.int .i64 tick,.int .i64 val,.int .i64 handle,.int .i64 p0,.int .i64 p1,.int .i64 p2,.int .i64 p3,.int .i64 p4,.int .i64 p5] 69 (0,0))∧W.heap[u1.heap.size+1]?=some (.cells #[.int .i64 rp.err,.int .i64 rp.ep,.int .i64 rp.hd,.int .i64 rp.st.cnt,.int .i64 rp.st.sum,.int .i64 rp.st.least,.int .i64 rp.st.most,.int .i64 rp.st.mean,.int .i64 rp.adv.tick,.int .i64 rp.adv.load,.int .i64 rp.adv.want,.int .i64 rp.adv.repl,.int .i64 rp.adv.why] 76 (0,0))→∀j,W.cell? ⟨u1.heap.size+1,j,none⟩=(#[.int .i64 rp.err,.int .i64 rp.ep,.int .i64 rp.hd,.int .i64 rp.st.cnt,.int .i64 rp.st.sum,.int .i64 rp.st.least,.int .i64 rp.st.most,.int .i64 rp.st.mean,.int .i64 rp.adv.tick,.int .i64 rp.adv.load,.int .i64 rp.adv.want,.int .i64 rp.adv.repl,.int .i64 rp.adv.why]:Array Value)[j]?:=fun W hW j=>(box_cells jR hW.2).1 j
          have hS0:U.drew.heap[wr.heap.size]?=some (.cells #[.int .i64 kind,.string id,.int .i64 tick,.int .i64 val,.int .i64 handle,.int .i64 p0,.int .i64 p1,.int .i64 p2,.int .i64 p3,.int .i64 p4,.int .i64 p5] 69 (0,0))∧U.drew.heap[u1.heap.size+1]?=some (.cells #[.int .i64 rp.err,.int .i64 rp.ep,.int .i64 rp.hd,.int .i64 rp.st.cnt,.int .i64 rp.st.sum,.int .i64 rp.st.least,.int .i64 rp.st.most,.int .i64 rp.st.mean,.int .i64 rp.adv.tick,.int .i64 rp.adv.load,.int .i64 rp.adv.want,.int .i64 rp.adv.repl,.int .i64 rp.adv.why] 76 (0,0)):=⟨HCU.out,HRU.out⟩
          go_region_held3 (fun W=>W.heap[wr.heap.size]?=some (.cells #[.int .i64 kind,.string id,.int .i64 tick,.int .i64 val,.int .i64 handle,.int .i64 p0,.int .i64 p1,.int .i64 p2,.int .i64 p3,.int .i64 p4,.int .i64 p5] 69 (0,0))∧W.heap[u1.heap.size+1]?=some (.cells #[.int .i64 rp.err,.int .i64 rp.ep,.int .i64 rp.hd,.int .i64 rp.st.cnt,.int .i64 rp.st.sum,.int .i64 rp.st.least,.int .i64 rp.st.most,.int .i64 rp.st.mean,.int .i64 rp.adv.tick,.int .i64 rp.adv.load,.int .i64 rp.adv.want,.int .i64 rp.adv.repl,.int .i64 rp.adv.why] 76 (0,0)))
            (first
              | with_reducible exact hS0
              | with_reducible exact HS2.out)
            (first
              | (go_at_call 51
                 refine calls_named ?_;intro V1 hV1;have hd:jB U V1:=by rw [hV1];first|exact jR.drew|exact jR
                 have hx1:V1.heap[wr.heap.size]?=some (.cells #[.int .i64 kind,.string id,.int .i64 tick,.int .i64 val,.int .i64 handle,.int .i64 p0,.int .i64 p1,.int .i64 p2,.int .i64 p3,.int .i64 p4,.int .i64 p5] 69 (0,0))∧V1.heap[u1.heap.size+1]?=some (.cells #[.int .i64 rp.err,.int .i64 rp.ep,.int .i64 rp.hd,.int .i64 rp.st.cnt,.int .i64 rp.st.sum,.int .i64 rp.st.least,.int .i64 rp.st.most,.int .i64 rp.st.mean,.int .i64 rp.adv.tick,.int .i64 rp.adv.load,.int .i64 rp.adv.want,.int .i64 rp.adv.repl,.int .i64 rp.adv.why] 76 (0,0)):=by rw [hV1];exact hS0
                 clear hV1;refine (CD.out V1 (bthen HBU.out hd)).mono ?_;rintro e u2 ⟨d',rfl,hfw,hl9,hu⟩;have HF2:=jH hfw;have HL2:=jH hl9;have HU2:=jH ((Upd.of_below hd _).trans hu);have HS2:=jH (show u2.heap[wr.heap.size]?=some (.cells #[.int .i64 kind,.string id,.int .i64 tick,.int .i64 val,.int .i64 handle,.int .i64 p0,.int .i64 p1,.int .i64 p2,.int .i64 p3,.int .i64 p4,.int .i64 p5] 69 (0,0))∧u2.heap[u1.heap.size+1]?=some (.cells #[.int .i64 rp.err,.int .i64 rp.ep,.int .i64 rp.hd,.int .i64 rp.st.cnt,.int .i64 rp.st.sum,.int .i64 rp.st.least,.int .i64 rp.st.most,.int .i64 rp.st.mean,.int .i64 rp.adv.tick,.int .i64 rp.adv.load,.int .i64 rp.adv.want,.int .i64 rp.adv.repl,.int .i64 rp.adv.why] 76 (0,0)) from by
                  have h8:=HP.out.lt T HP.out.mem.1;have h9:=HP.out.lt L2 HP.out.mem.2.1;have h7:=HB1u.out.size;exact ⟨upd_at hu (by simp only [List.mem_cons,List.not_mem_nil,or_false];omega) hx1.1,upd_at hu (by simp only [List.mem_cons,List.not_mem_nil,or_false];omega) hx1.2⟩)
                 clear hd hx1 hfw hl9 hu))
          all_goals
            refine then_named ?_;intro U9 hU9;have HK9:=jH (show jB u2 U9 by rw [hU9];first|exact jR|exact jR.drew);clear hU9;have hmx:∀b,b≠T→b≠L2→b∉[T,L2]:=fun b h1 h2=>by simp only [List.mem_cons,List.not_mem_nil,or_false];rintro (e|e);exact h1 e;exact h2 e
            have HU9:=jH (HU2.out.trans (Upd.of_below HK9.out [T,L2]));have HUW:=jH ((Upd.of_below HBU.out [T,L2]).trans HU9.out);have HW9:=jH (upd_at HU9.out (hmx _ (by have:=HP.out.lt T HP.out.mem.1;have:=HB1u.out.size;omega) (by have:=HP.out.lt L2 HP.out.mem.2.1;have:=HB1u.out.size;omega)) HWU.out);have HXX9:=jH (upd_at HUW.out (hmx _ (fun e=>HP.out.ne.1 e.symm) (fun e=>HP.out.ne.2 e.symm)) HP.out.box)
            have HWW9:=jH (HWW.out.keepP HU9.out.size (fun b hb hlt=>HU9.out.block b hlt (hmx b (fun e=>hb (by rw [e];exact HP.out.mem.1)) (fun e=>hb (by rw [e];exact HP.out.mem.2.1)))));clear hmx rr1 rr2 hS0;obtain ⟨y1,y2,y3⟩:=box_cells jR HW9.out;obtain ⟨g1,g2,g3⟩:=box_cells jR HXX9.out;unfold wdC at g1;go_wp2_with fail
            go_roundg (l3.length - (k+1))
            case measure=>omega
            case rel =>
             have hput:=HP.out.put HUW.out (HF2.out.below HK9.out) HL2.out HWW9.out HA1.out rfl;refine ⟨k+1,nw9,d',x',hlt,Nat.le_refl _,by go_num,hput.1,HQ.out.keep (Nat.le_trans HUW.out.size (Nat.le_of_eq hput.2.1.symm)) (hput.2.2 M (HQ.out.lt M HQ.out.mem.1) (fun e=>HDS.out.1.1 e.symm) (fun e=>HDS.out.2.1.1 e.symm) (fun e=>HDS.out.2.2.1 e.symm)) (hput.2.2 L (HQ.out.lt L HQ.out.mem.2.1) (fun e=>HDS.out.1.2.1 e.symm) (fun e=>HDS.out.2.1.2.1 e.symm) (fun e=>HDS.out.2.2.2.1 e.symm)) (hput.2.2 X (HQ.out.lt X HQ.out.mem.2.2) (fun e=>HDS.out.1.2.2 e.symm) (fun e=>HDS.out.2.1.2.2 e.symm) (fun e=>HDS.out.2.2.2.2 e.symm)) (fun b hb hlt=>hput.2.2 b hlt (fun e=>hb (by rw [e];exact HP.out.mem.1)) (fun e=>hb (by rw [e];exact HP.out.mem.2.1)) (fun e=>hb (by rw [e];exact HP.out.mem.2.2))),?_,HNM2.out⟩
             iterate 8 refine Below.setCell ?_ (by exact HLT.out.2.2) _
             exact HBR.out.trans (HUW.out.below HBR.out.size (fun r hr=>by
              simp only [List.mem_cons,List.not_mem_nil,or_false] at hr
              rcases hr with rfl|rfl
              · exact HLT.out.1
              · exact HLT.out.2.1))
        · obtain rfl:k=l3.length:=by omega
          have z1:¬(l3.length:Int)<(l3.length:Int):=by omega
          have HBe:=jH HBR.out;have HPe:=jH HP.out;have HQe:=jH HQ.out;have HBW3:=jH (bthen HB3.out HBR.out);obtain ⟨m1,hm1⟩:∃r,r=l1.map (·.id):=⟨_,rfl⟩;obtain ⟨m2,hm2⟩:∃r,r=l2.map (·.id):=⟨_,rfl⟩;obtain ⟨m3,hm3⟩:∃r,r=l3.map (·.id):=⟨_,rfl⟩;have CN1:=jH (fun W (hW:jB wr W)=>names22_any _ l1 W (HV1.out.below (bthen HBW3.out hW)) (by have:=HL.out;omega));have CN2':=jH (fun W (hW:jB wr W)=>names22_any _ l2 W (HV2.out.below (bthen HBW3.out hW)) (by have:=HL.out;omega))
          have CN3:=jH (fun W (hW:jB wr W)=>names22_any _ l3 W (HV3.out.below (bthen HBW3.out hW)) (by have:=HL.out;omega));have HKM:=jH (HNMM.out.keys HQe.out.fw.at_.tells);have HKT:=jH (HNM.out.keys HPe.out.fw.at_.tells);have HML9:=jH (show m1.length≤20∧m2.length≤20∧m3.length≤20 by rw [hm1,hm2,hm3];simp only [List.length_map];exact HL.out);have HMX:=jH (show ∀s∈m1++m2++m3,s.size≤maxLen by
           intro s hs;rw [hm1,hm2,hm3] at hs
           rcases List.mem_append.1 hs with hs|hs
           · rcases List.mem_append.1 hs with hs|hs
             · obtain ⟨p,hp,rfl⟩:=List.mem_map.1 hs;exact (HOK1.out p hp).2.1
             · obtain ⟨p,hp,rfl⟩:=List.mem_map.1 hs;exact (HOK2.out p hp).2.1
           · obtain ⟨p,hp,rfl⟩:=List.mem_map.1 hs;exact (HOK3.out p hp).2.1)
          rw [←hm1] at CN1;rw [←hm2] at CN2';rw [←hm3] at CN3;rw [←hm1,←hm2,←hm3] at HKM HKT;clear hm1 hm2 hm3;have CTM:=jH (fun W (hW:jB wr W) (v:Value) (hv:RowIn 1 idC W v (m1++m2++m3))=>told22_any (Q:=fun b=>b∉[M,L,X,T,L2,XT]) xM (show FW (fun b=>b∉[M,L,X,T,L2,XT]) W M c rs rh (l1.length+l2.length) (absW xM) dM by rw [HQe.out.abs];exact (HQe.out.fw.below hW)) HCC.out (fun b hb=>HQe.out.new b (Nat.le_trans hW.size hb)) (HQe.out.wo.below hW) v (m1++m2++m3) hv (by simp only [List.length_append];have:=HML9.out;omega) HMX.out HKM.out)
          have CTT:=jH (fun W (hW:jB wr W) (v:Value) (hv:RowIn 1 idC W v (m1++m2++m3))=>told22_any (Q:=fun b=>b∉[M,L,X,T,L2,XT]) x (show FW (fun b=>b∉[M,L,X,T,L2,XT]) W T c rs rh (l1.length+l3.length) (absW x) d by rw [HPe.out.abs];exact (HPe.out.fw.below hW)) HCC.out (fun b hb=>HPe.out.new b (Nat.le_trans hW.size hb)) (HPe.out.wo.below hW) v (m1++m2++m3) hv (by simp only [List.length_append];have:=HML9.out;omega) HMX.out HKT.out)
          unfold wdC at CTM CTT;clear HP HQ z1 HNM HNMM HPM HQT
          go_wp2_with (first
           | (go_at_call 20
              with_reducible refine (CN1.out wr jR).mono ?_
              rintro e n1 ⟨v1,rfl,ho,hb⟩;obtain ⟨NA1,nc1,rfl⟩:=ho.form;have HO1:=jH ho;have HBn1:=jH hb;clear ho hb)
           | (go_at_call 20
              have h9:=HBn1.out
              with_reducible refine (CN2'.out n1 HBn1.out).mono ?_
              rintro e n2 ⟨v2,rfl,ho,hb⟩;obtain ⟨NA2,nc2,rfl⟩:=ho.form;have HO2:=jH (ho.row eId);have HO12:=jH (HO1.out.below hb);have HBn2:=jH (bthen HBn1.out hb);clear h9 ho hb)
           | (go_at_call 20
              have h9:=HBn3.out
              with_reducible refine (CN3.out n3 HBn3.out).mono ?_
              rintro e n4 ⟨v3,rfl,ho,hb⟩;obtain ⟨NA4,nc4,rfl⟩:=ho.form;have HO4:=jH (ho.row eId);have HO34:=jH (HO3.out.below hb);have HBn4:=jH (bthen HBn3.out hb);clear h9 ho hb)
           | (at_builtin
              have h9:=HO34.out;refine wpList_appendL eId (by rfl) (by rfl) wr.heap.size o12 m3 (.slice NA3 o12.length nc3) (.slice NA4 m3.length nc4) (by rfl) (by rfl) HO34.out HO4.out (by rw [HE12.out,List.length_append];have:=HML9.out;omega) HBn4.out.size ?_;intro o13 NA5 nc5 n5 hout hown hg hor;have HE13:=jH (show o13=m1++m2++m3 by rw [hout,HE12.out]);have HBn5:=jH (HBn4.out.trans (grown_own hg HO34.out HBn4.out.size))
              have HO5:=jH (show RowIn 1 idC n5 (.slice NA5 o13.length nc5) (m1++m2++m3) by have h8:=hown.row eId;rw [HE13.out] at h8 ⊢;exact h8);obtain ⟨X1,X2,X3⟩:=box_cells HBn5.out HQe.out.box;unfold wdC at X1;clear h9 hout hown hg hor)
           | (at_builtin
              have h9:=HO12.out;refine wpList_appendL eId (by rfl) (by rfl) wr.heap.size m1 m2 (.slice NA1 m1.length nc1) (.slice NA2 m2.length nc2) (by rfl) (by rfl) HO12.out HO2.out (by have:=HML9.out;omega) HBn2.out.size ?_;intro o12 NA3 nc3 n3 hout hown hg hor;have HE12:=jH (show o12=m1++m2 from hout);have HBn3:=jH (HBn2.out.trans (grown_own hg HO12.out HBn2.out.size));have HO3:=jH hown;clear h9 hout hown hg hor)
           | (go_at_call 52
              have h9:=HO5.out
              with_reducible refine (CTM.out n5 HBn5.out _ HO5.out).mono ?_
              rintro e n6 ⟨rfl,hb⟩;have HBn6:=jH (bthen HBn5.out hb);have HO6:=jH (HO5.out.below hb);clear X1 X2 X3 h9 hb;obtain ⟨X1,X2,X3⟩:=box_cells HBn6.out HPe.out.box;unfold wdC at X1)
           | (go_at_call 52
              have h9:=HO6.out
              with_reducible refine (CTT.out n6 HBn6.out _ HO6.out).mono ?_
              rintro e n7 ⟨rfl,hb⟩;have HBn7:=jH (bthen (bthen HBW3.out HBn6.out) hb);clear h9 hb))
          go_ret
          exact ⟨rfl,HBn7.out⟩
theorem flTw_any (c:Cfg) (v1 v2 v3:Value) (l1 l2 l3:List CallD) (w:World) (hv1:RowIn 11 callCells w v1 l1) (hv2:RowIn 11 callCells w v2 l2) (hv3:RowIn 11 callCells w v3 l3) (hok1:∀p∈l1,p.ok) (hok2:∀p∈l2,p.ok) (hok3:∀p∈l3,p.ok) (hc:c.ok) :
 Calls Tryz.prog 10 #[cfgV c,v1,v2,v3] w (jP w (.bool true)):=by
 cases hcb:cfgB c with
 | false=>exact flTw_nil c v1 v2 v3 l1 l2 l3 w hv1 hv2 hv3 hok1 hok2 hok3 hc hcb
 | true =>
   by_cases h1:l1.length≤20
   · by_cases h2:l2.length≤20
     · by_cases h3:l3.length≤20
       · exact flTw_main c v1 v2 v3 l1 l2 l3 w hv1 hv2 hv3 hok1 hok2 hok3 hc hcb h1 h2 h3
       · exact flTw_long3 c v1 v2 v3 l1 l2 l3 w hv1 hv2 hv3 hok1 hok2 hok3 hc hcb h1 h2 (by omega)
     · exact flTw_long2 c v1 v2 v3 l1 l2 l3 w hv1 hv2 hv3 hok1 hok2 hok3 hc hcb h1 (by omega)
   · exact flTw_long1 c v1 v2 v3 l1 l2 l3 w hv1 hv2 hv3 hok1 hok2 hok3 hc hcb (by omega)
end
end Go.Proofs.YtpmfcpdelkchaaaGreat
