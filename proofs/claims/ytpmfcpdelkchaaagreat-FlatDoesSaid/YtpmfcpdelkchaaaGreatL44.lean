/- Part 44 of the proof: FlDoes. -/
import Derived.Test.YtpmfcpdelkchaaaGreatL41
import Derived.Test.YtpmfcpdelkchaaaGreatL43
namespace Go.Proofs.YtpmfcpdelkchaaaGreat
set_option linter.unusedSimpArgs false
set_option linter.unusedVariables false
set_option linter.unusedSectionVars false
set_option maxRecDepth 100000
set_option maxHeartbeats 16000000
section
open Go.RowKit Go.Lib
theorem flDoes_nil (c:Cfg) (v:Value) (l:List CallD) (w:World) (hv:RowIn 11 callCells w v l) (hok:∀p∈l,p.ok) (hc:c.ok) (hcb:cfgB c=false) :
 Calls Tryz.prog 9 #[cfgV c,v] w (jP w (.bool true)):=by
 obtain ⟨A,cp,rfl⟩:=hv.form;have CN:=jH (fun W=>flNew_bad c W hc (by unfold cfgE;rw [if_neg (by rw [hcb];simp)];decide));have CR:=jH (fun W=>ref17Right_any c W);rw [hcb] at CR;unfold cfgV at CN CR ⊢;clear hv hok hc hcb
 go_enter Tryz.func9,Tryz.ntmps9
 go_wp2_with (first
  | (go_at_call 48
     refine calls_named ?_;intro W1 hW1;have HB1:=jH (show jB w W1 by rw [hW1];exact balloc jR _);have HC1:=jH (show W1.heap[w.heap.size]?=some (.cells #[.int .i64 c.st,.int .i64 c.sa,.int .i64 c.lo,.int .i64 c.hi] 23 (0,0)) by rw [hW1];exact heap_alloc_new _ _);clear hW1;refine (awake22_any W1).mono ?_;rintro e w2 ⟨rfl,hb⟩;have HB2:=jH (bthen HB1.out hb);have HC2:=jH (jK hb HC1.out);obtain ⟨c1,c2,c3⟩:=box_cells jR HC2.out
     clear hb)
  | (go_at_call 14
     refine (CN.out _).mono ?_;rintro e w3 ⟨rfl,hb⟩;have HB3:=jH (bthen HB2.out hb);have HC3:=jH (jK hb HC2.out);clear c1 c2 c3;obtain ⟨c1,c2,c3⟩:=box_cells jR HC3.out;clear hb)
  | (go_at_call 13
     have h9:=HB4;refine (CR.out _).mono ?_;rintro e w5 ⟨rfl,hb⟩;have HB5:=jH (bthen HB4.out hb);clear hb)
  | (go_at_call 13
     refine (CR.out _).mono ?_;rintro e w4 ⟨rfl,hb⟩;have HB4:=jH (bthen HB3.out hb);have HC4:=jH (jK hb HC3.out);clear c1 c2 c3;obtain ⟨c1,c2,c3⟩:=box_cells jR HC4.out;clear hb))
 go_ret
 exact ⟨rfl,HB5.out⟩
theorem flDoes_long (c:Cfg) (v:Value) (l:List CallD) (w:World) (hv:RowIn 11 callCells w v l) (hok:∀p∈l,p.ok) (hc:c.ok) (hcb:cfgB c=true) (hl:40<l.length) :
 Calls Tryz.prog 9 #[cfgV c,v] w (jP w (.bool true)):=by
 obtain ⟨A,cp,rfl⟩:=hv.form;have hcc:=cfgOk_of22 hcb hc;have hst:okSt c.st=true:=by unfold cfgB at hcb;simp only [Bool.and_eq_true] at hcb;exact hcb.1
 have hbd:=okSt_bd _ hst;have CN:=jH (fun W=>fw_new c c.sa.toNat c.hi.toNat c.st.toNat W hcc (by omega));have CR:=jH (fun W=>ref17Right_any c W);rw [hcb] at CR;have q0:(40:Int)<(l.length:Int):=by omega
 unfold cfgV at CN CR ⊢;clear hv hok hc hcb hcc hst hbd hl
 go_enter Tryz.func9,Tryz.ntmps9
 go_wp2_with (first
  | (go_at_call 48
     refine calls_named ?_;intro W1 hW1;have HB1:=jH (show jB w W1 by rw [hW1];exact balloc jR _);have HC1:=jH (show W1.heap[w.heap.size]?=some (.cells #[.int .i64 c.st,.int .i64 c.sa,.int .i64 c.lo,.int .i64 c.hi] 23 (0,0)) by rw [hW1];exact heap_alloc_new _ _);clear hW1;refine (awake22_any W1).mono ?_;rintro e w2 ⟨rfl,hb⟩;have HB2:=jH (bthen HB1.out hb);have HC2:=jH (jK hb HC1.out);obtain ⟨c1,c2,c3⟩:=box_cells jR HC2.out
     clear hb)
  | (go_at_call 14
     refine (CN.out _).mono ?_;rintro e w3 ⟨M,d0,rfl,hd,h8,h9,hb⟩;have HB3:=jH (bthen HB2.out hb);have HC3:=jH (jK hb HC2.out);clear c1 c2 c3;obtain ⟨c1,c2,c3⟩:=box_cells jR HC3.out;clear hb hd h8 h9)
  | (go_at_call 13
     have h9:=HB4;refine (CR.out _).mono ?_;rintro e w5 ⟨rfl,hb⟩;have HB5:=jH (bthen HB4.out hb);clear hb)
  | (go_at_call 13
     refine (CR.out _).mono ?_;rintro e w4 ⟨rfl,hb⟩;have HB4:=jH (bthen HB3.out hb);have HC4:=jH (jK hb HC3.out);clear c1 c2 c3;obtain ⟨c1,c2,c3⟩:=box_cells jR HC4.out;clear hb))
 go_ret
 exact ⟨rfl,HB5.out⟩
theorem flDoes_main (c:Cfg) (v:Value) (l:List CallD) (w:World) (hv:RowIn 11 callCells w v l) (hok:∀p∈l,p.ok) (hc:c.ok) (hcb:cfgB c=true) (hl:l.length≤40) :
 Calls Tryz.prog 9 #[cfgV c,v] w (jP w (.bool true)):=by
 obtain ⟨A,cp,rfl⟩:=hv.form;have hcc:=cfgOk_of22 hcb hc;have hst:okSt c.st=true:=by unfold cfgB at hcb;simp only [Bool.and_eq_true] at hcb;exact hcb.1
 have hbd:=okSt_bd _ hst;have HCC:=jH hcc;have CN:=jH (fun W P hP=>new21_any P c c.st.toNat W hP (by omega) (by omega));have CF:=jH (fun W=>fw_new c c.sa.toNat c.hi.toNat c.st.toNat W hcc (by omega));have CR:=jH (fun W=>ref17Right_any c W);rw [hcb] at CR;have HV:=jH hv;have HOK:=jH hok;obtain ⟨rs,hrs⟩:∃rs,rs=c.sa.toNat:=⟨_,rfl⟩;obtain ⟨rh,hrh⟩:∃rh,rh=c.hi.toNat:=⟨_,rfl⟩;rw [←hrs,←hrh] at HCC CF;have q0:¬(40:Int)<(l.length:Int):=by omega
 have HL:=jH hl;have HST:=jH (And.intro hst hbd);unfold cfgV at CN CR CF ⊢;clear hv hok hcc hcb hst hbd hrs hrh hc hl
 go_enter Tryz.func9,Tryz.ntmps9
 go_wp2_with (first
  | (go_at_call 48
     refine calls_named ?_;intro W1 hW1;have HB1:=jH (show jB w W1 by rw [hW1];exact balloc jR _);have HC1:=jH (show W1.heap[w.heap.size]?=some (.cells #[.int .i64 c.st,.int .i64 c.sa,.int .i64 c.lo,.int .i64 c.hi] 23 (0,0)) by rw [hW1];exact heap_alloc_new _ _);clear hW1;refine (awake22_any W1).mono ?_;rintro e w2 ⟨rfl,hb⟩;have HB2:=jH (bthen HB1.out hb);have HC2:=jH (jK hb HC1.out);obtain ⟨c1,c2,c3⟩:=box_cells jR HC2.out
     clear hb)
  | (go_at_call 14
     refine (CF.out _).mono ?_;rintro e w3 ⟨M,f0,rfl,hf,h1,h2,hb⟩;have HF3:=jH hf;have HML:=jH (And.intro h1 h2);have HB3:=jH hb;have HC3:=jH (jK hb HC2.out);clear c1 c2 c3;obtain ⟨c1,c2,c3⟩:=box_cells jR HC3.out;clear hb h1 h2 hf)
  | (go_at_call 13
     refine (CR.out _).mono ?_;rintro e w4 ⟨rfl,hb⟩;have HB34:=jH hb;have HC4:=jH (jK hb HC3.out);clear c1 c2 c3;obtain ⟨c1,c2,c3⟩:=box_cells jR HC4.out;clear hb)
  | (go_at_call 16
     refine (CN.out w4 (fun b=>w4.heap.size≤b) (fun b hb=>hb)).mono ?_;rintro e w5 ⟨x0,rfl,hx0,hab0,hb⟩;unfold wdC;have HX5:=jH hx0;have HAB5:=jH hab0;have HB45:=jH hb;have HB35:=jH (bthen HB34.out hb);clear hb hx0 hab0 c1 c2 c3))
 refine name_world ?_;intro W5 hW5;have hd5:jB w5 W5:=by rw [hW5];exact balloc jR _
 have hb5:W5.heap[w5.heap.size]?=some (.cells (wdC c x0).toArray 32 (0,0)):=by rw [hW5];exact heap_alloc_new _ _
 have hlt5:w5.heap.size<W5.heap.size:=by rw [hW5];simp
 obtain ⟨L,hLL⟩:∃L,L=f0.L:=⟨_,rfl⟩;have HP0:=jH (show FlWd [M,L,w5.heap.size] W5 M L w5.heap.size c rs rh 0 (newW c.st.toNat) f0 x0∧jB w2 W5∧w2.heap.size≤M∧w2.heap.size≤L∧w2.heap.size≤w5.heap.size by
  subst hLL;have hb35:=bthen HB35.out hd5;have hm1:=HF3.out.at_.lt;have hm2:=HF3.out.at_.map.lt;have hs5:=HB35.out.size;have hs3:=HB3.out.size;have hs34:=HB34.out.size;have hs45:=HB45.out.size;refine ⟨⟨⟨HF3.out.at_.keep hb35.size (hb35.block _ hm1) (hb35.block _ hm2) (fun b hb hlt=>⟨hb35.block b hlt,?_⟩) (fun b hb=>?_),HF3.out.ok⟩,rfl,(HX5.out.old.below hd5).imp (fun b hb=>?_),HAB5.out,hb5,⟨by simp,by simp,by simp⟩,⟨by omega,by omega⟩,fun b hb=>?_⟩,bthen HB3.out hb35,HML.out.1,HML.out.2,by omega⟩
  · have:=hb.1;have:=hb.2
    simp only [List.mem_cons,List.not_mem_nil,or_false];omega
  · simp only [List.mem_cons,List.not_mem_nil,or_false] at hb;omega
  · have h1:=hb.1;have h2:=hb.2
    simp only [List.mem_cons,List.not_mem_nil,or_false];omega
  · simp only [List.mem_cons,List.not_mem_nil,or_false] at hb;omega)
 clear hW5 hd5 hb5 hlt5 hLL;generalize w5.heap.size=X at HP0
 try go_wp2_with fail
 go_loopg [34] l.length (fun g s34 wr=>∃(k:Nat) (wd:Wd) (d:FlatD) (x:WdH),k≤l.length∧l.length - k≤g∧s34=.int .i64 k∧FlWd [M,L,X] wr M L X c rs rh k wd d x∧jB w2 wr∧NamedW (l.map (·.id)) wd)
 case atStart=>exact ⟨0,_,f0,x0,Nat.zero_le _,Nat.le_refl _,rfl,HP0.out.1,HP0.out.2.1,NamedW.new _ _⟩
 case round =>
  obtain ⟨k,wd,d,x,hk,hg,rfl,hp,hbr,hnm⟩:=hrel;rename World=>wr
  have HP:=jH hp;have HBR:=jH hbr;have HNM:=jH hnm;have HLO:=jH HP0.out.2.2;clear hp hbr hnm HP0
  by_cases hlt:k<l.length
  · have z1:(k:Int)<(l.length:Int):=by omega
    have z2:(0:Int)≤(k:Int):=by omega
    obtain ⟨b,o,rfl,hbw,hcx⟩:=HV.out.at_ hlt;have hxok:=HOK.out _ (List.getElem_mem hlt);have hmem:l[k].id∈l.map (·.id):=List.mem_map.2 ⟨_,List.getElem_mem hlt,rfl⟩;generalize l[k]=xx at hcx hxok hmem;have hbb:∀j u,(callCells xx)[j]?=some u→wr.cell? ⟨b,o+k * 11+j,none⟩=some u:=fun j u hu=>by
     have hlow:b<w2.heap.size:=Nat.lt_of_lt_of_le hbw HB2.out.size;exact (HBR.out.cell (p:=⟨b,_,none⟩) hlow).trans ((HB2.out.cell (p:=⟨b,_,none⟩) hbw).trans (hcx j u hu))
    have HNM2:=jH (HNM.out.do_ (c:=c) (rs:=rs) (rh:=rh) (x:=xx) hmem);have HNM3:=jH (HNM.out.decF (c:=c) (rs:=rs) (rh:=rh) hmem);have CE:=jH (fun W (hW:jB wr W)=>lawDecF_any (HP.out.below hW) HCC.out (by have:=HL.out;omega) xx.id hxok.2.1);have CD:=jH (fun W (hW:jB wr W)=>flDo_any xx (HP.out.below hW).fw (HP.out.below hW).new HCC.out (by have:=HL.out;omega) hxok);have CD2:=jH (fun W (P:Nat→Prop) (hP:∀b,W.heap.size≤b→P b) (hx:WdIn P W x)=>do21_any P c rs rh k x xx W hP hx HCC.out.room HST.out.1 (by rw [HP.out.abs];exact HP.out.fw.ok) (by have:=HL.out;omega) hxok)
    rw [HP.out.abs] at CD2;rw [HP.out.l] at CD;clear hcx hxok hmem;obtain ⟨r,hr⟩:∃r,r=doW c rs rh wd xx:=⟨_,rfl⟩;rw [←hr] at CD CD2 HNM2;clear hr;obtain ⟨dw,hdw⟩:∃r,r=decF c rs rh wd xx.id:=⟨_,rfl⟩;rw [←hdw] at CE HNM3;clear hdw;obtain ⟨X1,X2,X3⟩:=box_cells jR HP.out.box;unfold wdC at X1;have hne0:¬X=wr.heap.size:=by have:=HP.out.lt X HP.out.mem.2.2;omega
    have hne0b:¬wr.heap.size=X:=fun h=>hne0 h.symm
    obtain ⟨kind,id,tick,val,handle,⟨p0,p1,p2,p3,p4,p5⟩⟩:=xx;have x0:=hbb 0 _ rfl;have x1:=hbb 1 _ rfl;have x2:=hbb 2 _ rfl;have x3:=hbb 3 _ rfl;have x4:=hbb 4 _ rfl;have x5:=hbb 5 _ rfl;have x6:=hbb 6 _ rfl;have x7:=hbb 7 _ rfl;have x8:=hbb 8 _ rfl;have x9:=hbb 9 _ rfl;have x10:=hbb 10 _ rfl;rw [Nat.add_zero] at x0;unfold callV at CD CD2;unfold wdC at CD2 CE;dsimp only at x0 x1 x2 x3 x4 x5 x6 x7 x8 x9 x10 CD CD2 CE
    obtain ⟨nw9,rp⟩:=r;unfold repV repC at CD;dsimp only at CD HNM2;have CD2:=jH (fun W (P:Nat→Prop) (hP:∀b,W.heap.size≤b→P b) (hx:WdIn P W x)=>show Calls Tryz.prog 50 #[.agg #[.int .i64 c.st,.int .i64 c.sa,.int .i64 c.lo,.int .i64 c.hi,.slice x.sA x.st.length x.sc,.slice x.cA x.cuts.length x.cc,.int .i64 x.ep,.bool x.over],.agg #[.int .i64 kind,.string id,.int .i64 tick,.int .i64 val,.int .i64 handle,.int .i64 p0,.int .i64 p1,.int .i64 p2,.int .i64 p3,.int .i64 p4,.int .i64 p5]] W fun e w'=>∃x',e=.returned (.tuple #[.agg #[.int .i64 c.st,.int .i64 c.sa,.int .i64 c.lo,.int .i64 c.hi,.slice x'.sA x'.st.length x'.sc,.slice x'.cA x'.cuts.length x'.cc,.int .i64 x'.ep,.bool x'.over],.agg #[.int .i64 rp.err,.int .i64 rp.ep,.int .i64 rp.hd,.int .i64 rp.st.cnt,.int .i64 rp.st.sum,.int .i64 rp.st.least,.int .i64 rp.st.most,.int .i64 rp.st.mean,.int .i64 rp.adv.tick,.int .i64 rp.adv.load,.int .i64 rp.adv.want,.int .i64 rp.adv.repl,.int .i64 rp.adv.why]])∧WdIn P w' x'∧absW x'=nw9∧jB W w' from CD2.out W P hP hx)
    clear hbb
    by_cases h0:kind=0
    · subst h0
      clear CD CD2 HNM2
      go_upto_region 12 with (first
       | (go_at_call 49
          refine calls_named ?_;intro V hV;have hd:jB wr V:=by rw [hV];exact balloc jR _
          clear hV;refine (CE.out V hd).mono ?_;rintro e u1 ⟨d',x',rfl,hfw,hl9,hw,ha,hu⟩;unfold wdC;have hu1:=(Upd.of_below hd _).trans hu;have HF1:=jH hfw;have HL1:=jH hl9;have HW1:=jH hw;have HA1:=jH ha;have HU1:=jH hu1;have HXX:=jH (upd_at hu1 (by have h8:=HP.out.ne;simp only [List.mem_cons,List.not_mem_nil,or_false];rintro (e|e);exact h8.1 e.symm;exact h8.2 e.symm) HP.out.box);clear hd hu hu1 hfw hl9 hw ha x0 x1 x2 x3 x4 x5 x6 x7 x8 x9 x10 X1 X2 X3))
      refine name_world ?_;intro U hU;have hdU:jB u1 U:=by rw [hU];exact balloc jR _
      have hn1:U.heap[u1.heap.size]?=some (.cells #[.int .i64 c.st,.int .i64 c.sa,.int .i64 c.lo,.int .i64 c.hi,.slice x'.sA x'.st.length x'.sc,.slice x'.cA x'.cuts.length x'.cc,.int .i64 x'.ep,.bool x'.over] 32 (0,0)):=by rw [hU];exact heap_alloc_new _ _
      have hx9:=jK hdU HXX.out;have HFV:=jH (HF1.out.below hdU);have HWV:=jH (HW1.out.below hdU);have HUV:=jH (HU1.out.trans (Upd.of_below hdU _));obtain ⟨y1,y2,y3⟩:=box_cells jR hn1;obtain ⟨g1,g2,g3⟩:=box_cells jR hx9;unfold wdC at g1;clear hU hdU hn1 hx9 hne0 hne0b;go_wp2_with fail
      go_roundg (l.length - (k+1))
      case measure=>omega
      case rel =>
       refine ⟨k+1,dw,d',x',hlt,Nat.le_refl _,by go_num,(HP.out.put HUV.out HFV.out HL1.out HWV.out HA1.out rfl).1,?_,HNM3.out⟩
       iterate 8 refine Below.setCell ?_ (by exact HLO.out.2.2) _
       exact HBR.out.trans (HUV.out.below HBR.out.size (fun r hr=>by
        simp only [List.mem_cons,List.not_mem_nil,or_false] at hr
        rcases hr with rfl|rfl
        · exact HLO.out.1
        · exact HLO.out.2.1))
    · have q3:(kind == 0)=false:=by simpa using h0
      clear CE HNM3
      go_upto_region 16 with (first
       | (go_at_call 50
          refine calls_named ?_;intro V hV;have hd:jB wr V:=by rw [hV];exact balloc jR _
          have hx1:V.heap[wr.heap.size]?=some (.cells #[.int .i64 kind,.string id,.int .i64 tick,.int .i64 val,.int .i64 handle,.int .i64 p0,.int .i64 p1,.int .i64 p2,.int .i64 p3,.int .i64 p4,.int .i64 p5] 69 (0,0)):=by rw [hV];exact heap_alloc_new _ _
          clear hV;refine (CD2.out V _ (fun b hb=>HP.out.new b (Nat.le_trans hd.size hb)) (HP.out.wo.below hd)).mono ?_;rintro e u1 ⟨x',rfl,hw,ha,hb⟩;have HW1:=jH hw;have HA1:=jH ha;have HB1u:=jH (bthen hd hb);have HC1:=jH (jK hb hx1);clear hd hx1 hw ha hb x0 x1 x2 x3 x4 x5 x6 x7 x8 x9 x10 X1 X2 X3))
      refine name_world ?_;intro U hU;have hdU:jB u1 U:=by rw [hU];exact balloc (balloc jR _) _
      have HWU:=jH (show U.heap[u1.heap.size]?=some (.cells #[.int .i64 c.st,.int .i64 c.sa,.int .i64 c.lo,.int .i64 c.hi,.slice x'.sA x'.st.length x'.sc,.slice x'.cA x'.cuts.length x'.cc,.int .i64 x'.ep,.bool x'.over] 32 (0,0)) by rw [hU];exact box_old _ _ _);have HRU:=jH (show U.heap[u1.heap.size+1]?=some (.cells #[.int .i64 rp.err,.int .i64 rp.ep,.int .i64 rp.hd,.int .i64 rp.st.cnt,.int .i64 rp.st.sum,.int .i64 rp.st.least,.int .i64 rp.st.most,.int .i64 rp.st.mean,.int .i64 rp.adv.tick,.int .i64 rp.adv.load,.int .i64 rp.adv.want,.int .i64 rp.adv.repl,.int .i64 rp.adv.why] 76 (0,0)) by rw [hU];exact box_new _ _ _)
      have HCU:=jH (jK hdU HC1.out);have HBU:=jH (bthen HB1u.out hdU);have HWW:=jH (HW1.out.below hdU);clear hU hdU;have rr1:∀W:World,W.heap[wr.heap.size]?=some (.cells #[.int .i64 kind,.string id,.int .i64 tick,.int .i64 val,.int .i64 handle,.int .i64 p0,.int .i64 p1,.int .i64 p2,.int .i64 p3,.int .i64 p4,.int .i64 p5] 69 (0,0))∧W.heap[u1.heap.size+1]?=some (.cells #[.int .i64 rp.err,.int .i64 rp.ep,.int .i64 rp.hd,.int .i64 rp.st.cnt,.int .i64 rp.st.sum,.int .i64 rp.st.least,.int .i64 rp.st.most,.int .i64 rp.st.mean,.int .i64 rp.adv.tick,.int .i64 rp.adv.load,.int .i64 rp.adv.want,.int .i64 rp.adv.repl,.int .i64 rp.adv.why] 76 (0,0))→∀j,W.cell? ⟨wr.heap.size,j,none⟩=(#[.int .i64 kind,.string id,.int .i64 tick,.int .i64 val,.int .i64 handle,.int .i64 p0,.int .i64 p1,.int .i64 p2,.int .i64 p3,.int .i64 p4,.int .i64 p5]:Array Value)[j]?:=fun W hW j=>(box_cells jR hW.1).1 j
      have rr2:∀W:World,W.heap[wr.heap.size]?=some (.cells #[.int .i64 kind,.string id,.int .i64 tick,.int .i64 val,.int .i64 handle,.int .i64 p0,.int .i64 p1,.int .i64 p2,.int .i64 p3,.int .i64 p4,.int .i64 p5] 69 (0,0))∧W.heap[u1.heap.size+1]?=some (.cells #[.int .i64 rp.err,.int .i64 rp.ep,.int .i64 rp.hd,.int .i64 rp.st.cnt,.int .i64 rp.st.sum,.int .i64 rp.st.least,.int .i64 rp.st.most,.int .i64 rp.st.mean,.int .i64 rp.adv.tick,.int .i64 rp.adv.load,.int .i64 rp.adv.want,.int .i64 rp.adv.repl,.int .i64 rp.adv.why] 76 (0,0))→∀j,W.cell? ⟨u1.heap.size+1,j,none⟩=(#[.int .i64 rp.err,.int .i64 rp.ep,.int .i64 rp.hd,.int .i64 rp.st.cnt,.int .i64 rp.st.sum,.int .i64 rp.st.least,.int .i64 rp.st.most,.int .i64 rp.st.mean,.int .i64 rp.adv.tick,.int .i64 rp.adv.load,.int .i64 rp.adv.want,.int .i64 rp.adv.repl,.int .i64 rp.adv.why]:Array Value)[j]?:=fun W hW j=>(box_cells jR hW.2).1 j
      have hS0:U.drew.heap[wr.heap.size]?=some (.cells #[.int .i64 kind,.string id,.int .i64 tick,.int .i64 val,.int .i64 handle,.int .i64 p0,.int .i64 p1,.int .i64 p2,.int .i64 p3,.int .i64 p4,.int .i64 p5] 69 (0,0))∧U.drew.heap[u1.heap.size+1]?=some (.cells #[.int .i64 rp.err,.int .i64 rp.ep,.int .i64 rp.hd,.int .i64 rp.st.cnt,.int .i64 rp.st.sum,.int .i64 rp.st.least,.int .i64 rp.st.most,.int .i64 rp.st.mean,.int .i64 rp.adv.tick,.int .i64 rp.adv.load,.int .i64 rp.adv.want,.int .i64 rp.adv.repl,.int .i64 rp.adv.why] 76 (0,0)):=⟨HCU.out,HRU.out⟩
      go_region_held3 (fun W=>W.heap[wr.heap.size]?=some (.cells #[.int .i64 kind,.string id,.int .i64 tick,.int .i64 val,.int .i64 handle,.int .i64 p0,.int .i64 p1,.int .i64 p2,.int .i64 p3,.int .i64 p4,.int .i64 p5] 69 (0,0))∧W.heap[u1.heap.size+1]?=some (.cells #[.int .i64 rp.err,.int .i64 rp.ep,.int .i64 rp.hd,.int .i64 rp.st.cnt,.int .i64 rp.st.sum,.int .i64 rp.st.least,.int .i64 rp.st.most,.int .i64 rp.st.mean,.int .i64 rp.adv.tick,.int .i64 rp.adv.load,.int .i64 rp.adv.want,.int .i64 rp.adv.repl,.int .i64 rp.adv.why] 76 (0,0)))
        (first
          | with_reducible exact hS0
          | with_reducible exact HS2.out)
        (first
          | (go_at_call 51
             refine calls_named ?_;intro V1 hV1;have hd:jB U V1:=by rw [hV1];first|exact jR.drew|exact jR
             have hx1:V1.heap[wr.heap.size]?=some (.cells #[.int .i64 kind,.string id,.int .i64 tick,.int .i64 val,.int .i64 handle,.int .i64 p0,.int .i64 p1,.int .i64 p2,.int .i64 p3,.int .i64 p4,.int .i64 p5] 69 (0,0))∧V1.heap[u1.heap.size+1]?=some (.cells #[.int .i64 rp.err,.int .i64 rp.ep,.int .i64 rp.hd,.int .i64 rp.st.cnt,.int .i64 rp.st.sum,.int .i64 rp.st.least,.int .i64 rp.st.most,.int .i64 rp.st.mean,.int .i64 rp.adv.tick,.int .i64 rp.adv.load,.int .i64 rp.adv.want,.int .i64 rp.adv.repl,.int .i64 rp.adv.why] 76 (0,0)):=by rw [hV1];exact hS0
             clear hV1;refine (CD.out V1 (bthen HBU.out hd)).mono ?_;rintro e u2 ⟨d',rfl,hfw,hl9,hu⟩;have HF2:=jH hfw;have HL2:=jH hl9;have HU2:=jH ((Upd.of_below hd _).trans hu);have HS2:=jH (show u2.heap[wr.heap.size]?=some (.cells #[.int .i64 kind,.string id,.int .i64 tick,.int .i64 val,.int .i64 handle,.int .i64 p0,.int .i64 p1,.int .i64 p2,.int .i64 p3,.int .i64 p4,.int .i64 p5] 69 (0,0))∧u2.heap[u1.heap.size+1]?=some (.cells #[.int .i64 rp.err,.int .i64 rp.ep,.int .i64 rp.hd,.int .i64 rp.st.cnt,.int .i64 rp.st.sum,.int .i64 rp.st.least,.int .i64 rp.st.most,.int .i64 rp.st.mean,.int .i64 rp.adv.tick,.int .i64 rp.adv.load,.int .i64 rp.adv.want,.int .i64 rp.adv.repl,.int .i64 rp.adv.why] 76 (0,0)) from by
              have h8:=HP.out.lt M HP.out.mem.1;have h9:=HP.out.lt L HP.out.mem.2.1;have h7:=HB1u.out.size;exact ⟨upd_at hu (by simp only [List.mem_cons,List.not_mem_nil,or_false];omega) hx1.1,upd_at hu (by simp only [List.mem_cons,List.not_mem_nil,or_false];omega) hx1.2⟩)
             clear hd hx1 hfw hl9 hu))
      all_goals
        refine then_named ?_;intro U9 hU9;have HK9:=jH (show jB u2 U9 by rw [hU9];first|exact jR|exact jR.drew);clear hU9;have hmx:∀b,b≠M→b≠L→b∉[M,L]:=fun b h1 h2=>by simp only [List.mem_cons,List.not_mem_nil,or_false];rintro (e|e);exact h1 e;exact h2 e
        have HU9:=jH (HU2.out.trans (Upd.of_below HK9.out [M,L]));have HUW:=jH ((Upd.of_below HBU.out [M,L]).trans HU9.out);have HW9:=jH (upd_at HU9.out (hmx _ (by have:=HP.out.lt M HP.out.mem.1;have:=HB1u.out.size;omega) (by have:=HP.out.lt L HP.out.mem.2.1;have:=HB1u.out.size;omega)) HWU.out);have HXX9:=jH (upd_at HUW.out (hmx _ (fun e=>HP.out.ne.1 e.symm) (fun e=>HP.out.ne.2 e.symm)) HP.out.box)
        have HWW9:=jH (HWW.out.keepP HU9.out.size (fun b hb hlt=>HU9.out.block b hlt (hmx b (fun e=>hb (by rw [e];exact HP.out.mem.1)) (fun e=>hb (by rw [e];exact HP.out.mem.2.1)))));clear hmx rr1 rr2 hS0;obtain ⟨y1,y2,y3⟩:=box_cells jR HW9.out;obtain ⟨g1,g2,g3⟩:=box_cells jR HXX9.out;unfold wdC at g1;go_wp2_with fail
        go_roundg (l.length - (k+1))
        case measure=>omega
        case rel =>
         refine ⟨k+1,nw9,d',x',hlt,Nat.le_refl _,by go_num,(HP.out.put HUW.out (HF2.out.below HK9.out) HL2.out HWW9.out HA1.out rfl).1,?_,HNM2.out⟩
         iterate 8 refine Below.setCell ?_ (by exact HLO.out.2.2) _
         exact HBR.out.trans (HUW.out.below HBR.out.size (fun r hr=>by
          simp only [List.mem_cons,List.not_mem_nil,or_false] at hr
          rcases hr with rfl|rfl
          · exact HLO.out.1
          · exact HLO.out.2.1))
  · obtain rfl:k=l.length:=by omega
    have z1:¬(l.length:Int)<(l.length:Int):=by omega
    have HBW2:=jH (bthen HB2.out HBR.out);have CNM:=jH (fun W (hW:jB wr W)=>names22_any _ l W (HV.out.below (bthen HBW2.out hW)) (by have:=HL.out;omega));have CT:=jH (fun W (hW:jB wr W) (v:Value) (hv:RowIn 1 idC W v (l.map (·.id)))=>told22_any (Q:=fun b=>b∉[M,L,X]) x (show FW (fun b=>b∉[M,L,X]) W M c rs rh l.length (absW x) d by rw [HP.out.abs];exact (HP.out.fw.below hW)) HCC.out (fun b hb=>HP.out.new b (Nat.le_trans hW.size hb)) (HP.out.wo.below hW) v (l.map (·.id)) hv (by rw [List.length_map];have:=HL.out;omega) (fun s hs=>by obtain ⟨p,hp,rfl⟩:=List.mem_map.1 hs;exact (HOK.out p hp).2.1) (HNM.out.keys HP.out.fw.at_.tells))
    obtain ⟨ms,hms⟩:∃r,r=l.map (·.id):=⟨_,rfl⟩;rw [←hms] at CNM CT;clear hms HNM;unfold wdC at CT;have r6:∀U,jB wr U→∀j,U.cell? ⟨X,j,none⟩=(#[.int .i64 c.st,.int .i64 c.sa,.int .i64 c.lo,.int .i64 c.hi,.slice x.sA x.st.length x.sc,.slice x.cA x.cuts.length x.cc,.int .i64 x.ep,.bool x.over]:Array Value)[j]?:=fun U hU j=>(box_cells hU HP.out.box).1 j
    have hS00:jB wr wr:=jR;have hS0:jB wr wr.drew:=hS00.drew
    go_upto_region 20 with fail
    go_region_held3 (fun U=>jB wr U)
      (first
        | with_reducible exact hS0
        | with_reducible exact HN1.out
        | with_reducible exact HN2.out)
      (first
        | (go_at_call 20
           refine calls_named ?_;intro V hV;have hd:jB wr V:=by rw [hV];first|exact hS00|exact hS0
           clear hV;refine (CNM.out V hd).mono ?_;rintro e n1 ⟨v1,rfl,ho,hb⟩;have HO1:=jH (ho.row eId);obtain ⟨NA1,nc1,rfl⟩:=ho.form;have HN1:=jH (bthen hd hb);clear hd ho hb)
        | (go_at_call 52
           refine calls_named ?_;intro V2 hV2;have hd:jB n1 V2:=by rw [hV2];first|exact jR|exact jR.drew
           clear hV2;refine (CT.out V2 (bthen HN1.out hd) _ (HO1.out.below hd)).mono ?_;rintro e n2 ⟨rfl,hb⟩;have HN2:=jH (bthen HN1.out (bthen hd hb));clear hd hb))
    all_goals
      refine then_named ?_;intro U9 hU9;have HB9:=jH (show jB w U9 by rw [hU9];first|exact bthen HBW2.out HN2.out|exact (bthen HBW2.out HN2.out).drew);clear hU9;go_wp2_with fail
      go_ret
      exact ⟨rfl,HB9.out⟩
theorem flDoes_any (c:Cfg) (v:Value) (l:List CallD) (w:World) (hv:RowIn 11 callCells w v l) (hok:∀p∈l,p.ok) (hc:c.ok) :
 Calls Tryz.prog 9 #[cfgV c,v] w (jP w (.bool true)):=by
 cases hcb:cfgB c with
 | false=>exact flDoes_nil c v l w hv hok hc hcb
 | true =>
   by_cases hl:l.length≤40
   · exact flDoes_main c v l w hv hok hc hcb hl
   · exact flDoes_long c v l w hv hok hc hcb (by omega)
end
end Go.Proofs.YtpmfcpdelkchaaaGreat
