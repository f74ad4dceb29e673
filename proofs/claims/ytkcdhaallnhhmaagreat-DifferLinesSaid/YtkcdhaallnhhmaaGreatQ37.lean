/- Part 37 of the proof: FlK. -/
import Derived.Test.YtkcdhaallnhhmaaGreatQ29
import Derived.Test.YtkcdhaallnhhmaaGreatQ36
namespace Go.Proofs.YtkcdhaallnhhmaaGreat
set_option linter.unusedSimpArgs false
set_option linter.unusedVariables false
set_option linter.unusedSectionVars false
set_option maxRecDepth 100000
set_option maxHeartbeats 16000000
section
open Go.RowKit Go.Lib
open Go.ChangeMaps (setBlock)
theorem flIng_bad (kind tick val handle:Int) (s:SK) (p:Pol) (M:Nat) (w:World) (he:serE tick val≠0) :
 Calls Tryz.prog 79 #[.pointer (some ⟨M,0,none⟩),callV ⟨kind,s.1,tick,val,handle,p⟩] w (jP w (repV (repF (serE tick val)))):=by
 have CK:=jH (fun W=>seriesRight_any tick val W);have z0:(serE tick val == 0)=false:=by simpa using he
 have z1:(serE tick val != 0)=true:=by simpa using he
 generalize serE tick val=er at *;obtain ⟨p0,p1,p2,p3,p4,p5⟩:=p;unfold callV;dsimp only
 go_enter Tryz.func79,Tryz.ntmps79
 go_wp2_with (first
  | (go_at_call 113
     refine calls_named ?_;intro W1 hW1;obtain ⟨HB2,HX02,HX9⟩:=boxesF w _ _ W1 hW1;clear hW1;refine (CK.out W1).mono ?_;rintro e w2 ⟨rfl,rfl⟩;obtain ⟨b1,b2,b3⟩:=box_cells jR HX02.out;obtain ⟨y1,y2,y3⟩:=box_cells jR HX9.out))
 refine post_named ?_;intro W9 hW9;have hW9':W9=stor W1 (w.heap.size+1) 0 (repC (repF er)):=hW9;obtain ⟨t1,t2,t3,t4⟩:=stor_at HX9.out (repC (repF er)) rfl W9 hW9';obtain ⟨a9,a8,a7⟩:=box_cells jR t1;clear hW9 hW9';exact bodyPost_ret (v:=repV (repF er)) (by simp [results,Tryz.results79,go_sem,a9,repV,repC,repF,st0,adv0]) rfl ⟨rfl,HB2.out.trans (t4 _ (Nat.le_succ _))⟩
theorem flIng_full {P:Nat→Prop} {w:World} {M:Nat} {c:Cfg} {rs rh n:Nat} {wd:Wd} {d:FlatD} (kind tick val handle:Int) (s:SK) (p:Pol) (h:FW P w M c rs rh n wd d) (hc:CfgOk c rs rh) (he:serE tick val=0) (hf:fullF c d.es s=true) :
 Calls Tryz.prog 79 #[.pointer (some ⟨M,0,none⟩),callV ⟨kind,s.1,tick,val,handle,p⟩] w (jP w (repV (repF 6))):=by
 have CK:=jH (fun W=>seriesRight_any tick val W);rw [he] at CK;have CF:=jH (fun W (hW:jB w W)=>flFull_any s (h.at_.below hW) hc.st (h.many hc));rw [hf] at CF;obtain ⟨p0,p1,p2,p3,p4,p5⟩:=p;unfold callV;dsimp only;clear he h hc hf
 go_enter Tryz.func79,Tryz.ntmps79
 go_wp2_with (first
  | (go_at_call 113
     refine calls_named ?_;intro W1 hW1;obtain ⟨HB2,HX02,HX9⟩:=boxesF w _ _ W1 hW1;clear hW1;refine (CK.out W1).mono ?_;rintro e w2 ⟨rfl,rfl⟩;obtain ⟨b1,b2,b3⟩:=box_cells jR HX02.out;obtain ⟨y1,y2,y3⟩:=box_cells jR HX9.out)
  | (go_at_call 114
     refine (CF.out W1 HB2.out).mono ?_;rintro e w3 ⟨rfl,hb3⟩;obtain ⟨HB3,HX03,HX93⟩:=keepHF hb3 HB2 HX02 HX9;clear hb3 b1 b2 b3 y1 y2 y3;obtain ⟨b1,b2,b3⟩:=box_cells jR HX03.out;obtain ⟨y1,y2,y3⟩:=box_cells jR HX93.out))
 refine post_named ?_;intro W9 hW9;have hW9':W9=stor w3 (w.heap.size+1) 0 (repC (repF 6)):=hW9;obtain ⟨t1,t2,t3,t4⟩:=stor_at HX93.out (repC (repF 6)) rfl W9 hW9';obtain ⟨a9,a8,a7⟩:=box_cells jR t1;clear hW9 hW9';exact bodyPost_ret (v:=repV (repF 6)) (by simp [results,Tryz.results79,go_sem,a9,repV,repC,repF,st0,adv0]) rfl ⟨rfl,HB3.out.trans (t4 _ (Nat.le_succ _))⟩
theorem flIng_ok {P:Nat→Prop} {w:World} {M:Nat} {c:Cfg} {rs rh n:Nat} {wd:Wd} {d:FlatD} (kind tick val handle:Int) (s:SK) (p:Pol) (h:FW P w M c rs rh n wd d) (hP:∀b,w.heap.size≤b→P b) (hc:CfgOk c rs rh) (hs:idS s.1=true) (hti:I64 tick∧I64 val) (he:serE tick val=0) (hf:fullF c d.es s=false) :
 Calls Tryz.prog 79 #[.pointer (some ⟨M,0,none⟩),callV ⟨kind,s.1,tick,val,handle,p⟩] w (FWSays P w M c rs rh (n+1) d.L (repV (repF 0)) (oneW c rs rh wd s.1 ⟨0,(tick,val),pol0,adv0⟩).1):=by
 have CK:=jH (fun W=>seriesRight_any tick val W);rw [he] at CK;have CF:=jH (fun W (hW:jB w W)=>flFull_any s (h.at_.below hW) hc.st (h.many hc));rw [hf] at CF;have hdo:∀y:Nd,do17 rs rh y ⟨0,(tick,val),pol0,adv0⟩=({ y with smp:=putS y.smp (rs:Nat) (tick,val),ver:=y.ver+1 },0,(y.smp.length:Int) - ((putS y.smp (rs:Nat) (tick,val)).length:Int)):=fun y=>by
  unfold do17;rw [if_pos rfl,if_pos he]
 have hone:=(h.at_.tells.one (rs:=rs) (rh:=rh) hc.st s hs ⟨0,(tick,val),pol0,adv0⟩ (show (0:Int)≠3 by decide) (by rw [hdo])).2 hf;have hhere:=(h.at_.tells.here hc.st s hs).2;have hold:=h.old s;have hok:NdOk rs rh ((findM d.es s).getD it00).nd∧∀q∈((findM d.es s).getD it00).nd.smp,0≤q.1∧0≤q.2:=by
  cases hf:findM d.es s with
  | none=>exact ⟨⟨List.Pairwise.nil,Nat.zero_le _,Nat.zero_le _⟩,fun q hq=>by cases hq⟩
  | some x =>
    have h9:=h.at_.tells.it h.ok _ (find_mem hf);exact ⟨h9.1,h9.2.2.1⟩
 obtain ⟨xo,hxo⟩:∃x,x=(findM d.es s).getD it00:=⟨_,rfl⟩;rw [←it_nd,←hxo] at hhere;rw [←hxo] at hold hok;have hav:=h.avoidX (X:=w.heap.size+1) (Nat.le_succ _) jR;have hroom:=hc.room;have hlo:c.lo≤256:=by
  have hcb:=hc.cfg;unfold cfgB at hcb;simp only [Bool.and_eq_true,decide_eq_true_eq] at hcb
  omega
 obtain ⟨sm,hsm⟩:∃l,l=putS xo.nd.smp (rs:Nat) (tick,val):=⟨_,rfl⟩
 have HFIN:=jH (show ∀(W8:World) (o:Obj) (A:Option Addr) (cc:Nat),jB w W8→RowG (fun b=>w.heap.size+1<b) 2 smpC W8 (.slice A sm.length cc) sm→MapIn skV ldV (setBlock W8 d.L o) d.L (putM d.es s ⟨xo.key,A,cc,xo.pA,xo.pc,{ xo.nd with smp:=sm }⟩) →
     ∃d',FW (fun b=>P b∧b≠w.heap.size+1) (setBlock W8 d.L o) M c rs rh (n+1) (oneW c rs rh wd s.1 ⟨0,(tick,val),pol0,adv0⟩).1 d'∧d'.L=d.L∧Upd w (setBlock W8 d.L o) [M,d.L] [M,d.L] from fun W8 o A cc hb hr hm=>by
   have hi:LoadIn (fun b=>P b∧b≠w.heap.size+1) W8 ⟨xo.key,A,cc,xo.pA,xo.pc,{ xo.nd with smp:=sm }⟩:=⟨hr.imp (fun b hb=>⟨hP b (by omega),by omega⟩),(hold.below hb).2.imp (fun b hb=>⟨hb.1,by omega⟩)⟩;obtain ⟨h1,h2⟩:=hav.at_.toFlMem.put hb hm hi;refine ⟨_,⟨⟨h1.wd rfl rfl rfl,hone.2 _ ?_⟩,oneW_ok h.ok hlo ⟨hti,pol0_ok⟩ hroom.h1⟩,rfl,h2⟩;rw [hdo];exact ⟨by rw [hsm,hhere.1],hhere.2.1,hhere.2.2.1,hhere.2.2.2⟩)
 have HEND:=jH (show ∀(W8 W9:World) d',FW (fun b=>P b∧b≠w.heap.size+1) W8 M c rs rh (n+1) (oneW c rs rh wd s.1 ⟨0,(tick,val),pol0,adv0⟩).1 d'→d'.L=d.L→Upd w W8 [M,d.L] [M,d.L]→(∀k,k≠w.heap.size+1→W9.heap[k]?=W8.heap[k]?)→W9.heap.size=W8.heap.size→(∀n,n≤w.heap.size+1→Below n W8 W9) →
     FWSays P w M c rs rh (n+1) d.L (repV (repF 0)) (oneW c rs rh wd s.1 ⟨0,(tick,val),pol0,adv0⟩).1 (.returned (repV (repF 0))) W9 from fun W8 W9 d' h1 h2 h3 h4 h5 h6=>by
   have h9:=h1.fin (fun b hb=>by rw [h2];exact h.at_.off b hb) (by rw [h2];exact h3) (Nat.le_succ _) h.at_.lt (by rw [h2];exact h.at_.map.lt) h4 h5 h6;rw [h2] at h9;exact ⟨d',rfl,h9.1,h2,h9.2⟩)
 have hlk:=fun (W:World) (hW:jB w W)=>fl_look h.at_.map s false (hW.block d.L h.at_.map.lt)
 rw [←hxo] at hlk;unfold ldV ldC at hlk;simp only [Bool.false_eq_true,↓reduceIte] at hlk
 have HLK:=jH hlk;have HMP:=jH (show ∀W,jB w W→MapIn skV ldV W d.L d.es from fun W hW=>h.at_.map.below hW);have hcell:=h.at_.cell;rw [hroom.sa] at hcell;have HC:=jH hcell;have HXL:=jH (show w.heap.size+1≠d.L from by have:=h.at_.map.lt;omega);have hsl:xo.nd.smp.length≤256:=by have:=hok.1.len;have:=hroom.r2;omega
 have HSL:=jH hsl;have CC:=jH (fun W (hW:jB w W)=>cloneS_any (.slice xo.sA xo.nd.smp.length xo.sc) xo.nd.smp W (hold.1.1.below hW) (by omega));have htv:0≤tick∧0≤val:=by
  unfold serE at he
  split at he
  · cases he
  · split at he
    · cases he
    · omega
 have CO:=jH (show ∀(l:List Smp) (A:Option Addr) (cc:Nat) (W:World),l=xo.nd.smp++[(tick,val)]→RowIn 2 smpC W (.slice A l.length cc) l→Calls Tryz.prog 115 #[.int .i64 (rs:Nat),.slice A l.length cc] W (NewSer W sm (rs:Nat)) from fun l A cc W hl hr=>by
  have h9:=serOf_any rs A cc l W hr (by rw [hl];simp;omega) hroom.r1 hroom.r2 (fun q hq=>by
   rw [hl] at hq
   rcases List.mem_append.1 hq with hq|hq
   · exact hok.2 q hq
   · rw [List.mem_singleton.1 hq];exact htv)
  rw [show foldS (rs:Nat) l=sm by rw [hl,hsm];exact foldS_one _ _ _ hok.1.ris (by have:=hok.1.len;omega)] at h9;exact h9)
 have hsml:sm.length≤256:=by
  rw [hsm];have:=putS_len hok.1.len (tick,val);have:=hroom.r2;omega
 have CL:=jH (show ∀(S:Nat) (fp:List Nat) (W:World),SerIn W S sm (rs:Nat) fp→Calls Tryz.prog 117 #[.pointer (some ⟨S,0,none⟩)] W (CloneS smpC 118 2 W sm) from fun S fp W hs=>serList_any S sm _ fp W hs (by omega));generalize (oneW c rs rh wd s.1 ⟨0,(tick,val),pol0,adv0⟩).1=wd9 at HFIN HEND ⊢;obtain ⟨p0,p1,p2,p3,p4,p5⟩:=p;unfold callV;dsimp only;clear he h hc hf hP hs hdo hone hhere hold hok hxo hav hlo hlk hroom hsl hsm hsml hti htv hcell
 go_enter Tryz.func79,Tryz.ntmps79
 go_upto_region 6 with (first
  | (go_at_call 113
     refine calls_named ?_;intro W1 hW1;obtain ⟨HB2,HX02,HX9⟩:=boxesF w _ _ W1 hW1;clear hW1;refine (CK.out W1).mono ?_;rintro e w2 ⟨rfl,rfl⟩;obtain ⟨b1,b2,b3⟩:=box_cells jR HX02.out;obtain ⟨y1,y2,y3⟩:=box_cells jR HX9.out)
  | (go_at_call 114
     refine (CF.out W1 HB2.out).mono ?_;rintro e w3 ⟨rfl,hb3⟩;obtain ⟨HB3,HX03,HX93⟩:=keepHF hb3 HB2 HX02 HX9;clear hb3 b1 b2 b3 y1 y2 y3;obtain ⟨b1,b2,b3⟩:=box_cells jR HX03.out;obtain ⟨y1,y2,y3⟩:=box_cells jR HX93.out))
 clear b1 b2 b3 y1 y2 y3;obtain ⟨b1,b2,b3⟩:=box_cells jR HX03.out;obtain ⟨m1,m2,m3⟩:=box_cells HB3.out HC.out;have q2:=HLK.out (w3.alloc (.cells #[.slice none 0 0,.slice none 0 0,.int .i64 0,.int .i64 0,.int .i64 0,.int .i64 0,.int .i64 0,.int .i64 0,.bool false] 50)).drew (balloc HB3.out _).drew;have q3:=HLK.out w3.drew HB3.out.drew
 go_region
 all_goals
   refine then_named ?_;intro W4 hW4;have hb34:jB w3 W4:=by rw [hW4];exact (balloc jR _).drew
   obtain ⟨HB4,HX04,HX94⟩:=keepHF hb34 HB3 HX03 HX93;have HZ4:=jH (show W4.heap[w3.heap.size]?=some (.cells #[.slice xo.sA xo.nd.smp.length xo.sc,.slice xo.pA xo.nd.past.length xo.pc,.int .i64 xo.nd.pol.mn,.int .i64 xo.nd.pol.mx,.int .i64 xo.nd.pol.tg,.int .i64 xo.nd.pol.tol,.int .i64 xo.nd.pol.win,.int .i64 xo.nd.pol.hold,.bool xo.nd.ruled] 50 (0,0)) by rw [hW4];exact heap_alloc_new _ _);have HLT:=jH (show w.heap.size+1<w3.heap.size from (jL HX93.out))
   have HZS:=jH (show w.heap.size≤W4.heap.size from HB4.out.size);have HZL:=jH (show w3.heap.size<W4.heap.size from (jL HZ4.out));clear hW4 hb34 b1 b2 b3 m1 m2 m3 q2 q3
   go_upto_region 7 with fail
   have rk0:∀U,jB W4 U→∀j,U.cell? ⟨w.heap.size,j,none⟩=(#[.int .i64 kind,.string s.1,.int .i64 tick,.int .i64 val,.int .i64 handle,.int .i64 p0,.int .i64 p1,.int .i64 p2,.int .i64 p3,.int .i64 p4,.int .i64 p5]:Array Value)[j]?:=fun U hU j=>(box_cells hU HX04.out).1 j
   have rk1:∀U,jB W4 U→U.cell? ⟨w3.heap.size,0,none⟩=some (.slice xo.sA xo.nd.smp.length xo.sc):=fun U hU=>(box_cells hU HZ4.out).1 0
   have rk2:∀U,jB W4 U→U.cell? ⟨M,1,none⟩=some (.int .i64 (rs:Nat)):=fun U hU=>(box_cells (bthen HB4.out hU) HC.out).1 1
   have hS00:jB W4 W4:=jR;have hS0:jB W4 W4.drew:=hS00.drew;have hS1:jB W4 (W4.drew.alloc (.cells #[.int .i64 tick,.int .i64 val] 118)):=balloc hS0 _;have hS2:jB W4 (W4.alloc (.cells #[.int .i64 tick,.int .i64 val] 118)):=balloc hS00 _;have hS3:jB W4 (W4.alloc (.cells #[.int .i64 tick,.int .i64 val] 118)).drew:=hS2.drew
   go_region_held3 (fun U=>jB W4 U)
     (first
       | with_reducible exact hS0
       | with_reducible exact hS00
       | with_reducible exact hS1
       | with_reducible exact hS2
       | with_reducible exact hS3
       | with_reducible exact HD5.out
       | with_reducible exact balloc HD5.out _
       | with_reducible exact HD6.out
       | with_reducible exact HD7.out)
     (first
       | (have h9:=HLIT2
          refine step_appendL eSmp (by rfl) (.tmp 36) (.tmp 42) (by rfl) W4.heap.size xo.nd.smp [(tick,val)] (.slice A5 xo.nd.smp.length c5) _ (by rfl) (by rfl) (HO5.out.below (by repeat (first|exact jR|refine balloc ?_ _|refine Below.drew ?_|refine below_drewN ?_ _))) (HLIT2.out.below (by repeat (first|exact jR|refine balloc ?_ _|refine Below.drew ?_|refine below_drewN ?_ _))) (by have:=HSL.out;simp;omega) (by have:=HD5.out.size;simp;omega) ?_
          intro out A6 c6 w6 hout hown hg hor;have HO6:=jH hown;have HE6:=jH hout;have HD6:=jH (show jB W4 w6 from (bthen HD5.out (by repeat (first|exact jR|refine balloc ?_ _|refine Below.drew ?_|refine below_drewN ?_ _))).trans (grown_own hg (HO5.out.below (by repeat (first|exact jR|refine balloc ?_ _|refine Below.drew ?_|refine below_drewN ?_ _))) (by have:=HD5.out.size;simp;omega)));clear hown hout hg hor)
       | (refine step_appendL eSmp (by rfl) (.tmp 36) (.tmp 42) (by rfl) W4.heap.size xo.nd.smp [(tick,val)] (.slice A5 xo.nd.smp.length c5) _ (by rfl) (by rfl) (HO5.out.below (by repeat (first|exact jR|refine balloc ?_ _|refine Below.drew ?_|refine below_drewN ?_ _))) (RowIn.lit (n:=2) (f:=smpC) _ (tick,val) _ _ _ (by first|rfl|simp) rfl) (by have:=HSL.out;simp;omega) (by have:=HD5.out.size;simp;omega) ?_
          intro out A6 c6 w6 hout hown hg hor;have HO6:=jH hown;have HE6:=jH hout;have HD6:=jH (show jB W4 w6 from (bthen HD5.out (by repeat (first|exact jR|refine balloc ?_ _|refine Below.drew ?_|refine below_drewN ?_ _))).trans (grown_own hg (HO5.out.below (by repeat (first|exact jR|refine balloc ?_ _|refine Below.drew ?_|refine below_drewN ?_ _))) (by have:=HD5.out.size;simp;omega)));clear hown hout hg hor)
       | (go_at_call 115
          refine calls_named ?_;intro V7 hV7;have hd7:jB w6 V7:=by rw [hV7];repeat (first|exact jR|refine balloc ?_ _|refine Below.drew ?_|refine below_drewN ?_ _)
          clear hV7;refine (CO.out out A6 c6 V7 HE6.out ((HO6.out.row eSmp).below hd7)).mono ?_;rintro e w7 ⟨S,fp7,rfl,hs7,hf7,hb7⟩;have HS7:=jH hs7;have HD7:=jH (bthen (bthen HD6.out hd7) hb7);clear hd7 hs7 hf7 hb7)
       | (go_at_call 116
          refine calls_named ?_;intro V hV;have hd:jB W4 V:=by rw [hV];repeat (first|exact jR|refine balloc ?_ _|refine Below.drew ?_|refine below_drewN ?_ _)
          have HLIT:=jH (show RowIn 2 smpC V (.slice (some ⟨W4.heap.size,0,none⟩) 1 1) [(tick,val)] by rw [hV];first|exact RowIn.lit (n:=2) (f:=smpC) W4 (tick,val) _ _ _ rfl rfl|exact (RowIn.lit (n:=2) (f:=smpC) W4 (tick,val) _ _ _ rfl rfl).below jR.drew);clear hV;refine (CC.out V (HB4.out.trans (hd.mono HZS.out))).mono ?_;rintro e u2 ⟨A5,c5,fp5,rfl,hq,hf,hb⟩;have HLIT2:=jH (HLIT.out.below hb);have HO5:=jH (own_srow (base:=W4.heap.size) hq (fun r hr=>Nat.le_trans hd.size (hf r hr)))
          have HD5:=jH (bthen hd hb);clear hd hq hf hb)
       | (go_at_call 116
          refine calls_named ?_;intro V hV;have hd:jB W4 V:=by rw [hV];repeat (first|exact jR|refine balloc ?_ _|refine Below.drew ?_|refine below_drewN ?_ _)
          clear hV;refine (CC.out V (HB4.out.trans (hd.mono HZS.out))).mono ?_;rintro e u2 ⟨A5,c5,fp5,rfl,hq,hf,hb⟩;have HO5:=jH (own_srow (base:=W4.heap.size) hq (fun r hr=>Nat.le_trans hd.size (hf r hr)));have HD5:=jH (bthen hd hb);clear hd hq hf hb))
   all_goals
     refine then_named ?_;intro W7 hW7;have hb77:jB w7 W7:=by rw [hW7];first|exact jR|exact jR.drew
     have HD8:=jH (bthen HD7.out hb77);have HS8:=jH (HS7.out.kept (fun r hr=>hb77.block r (HS7.out.lt r hr)));clear hW7 hb77 rk0 rk1 rk2 hS00 hS0 hS1 hS2 hS3
     go_upto_region 8 with fail
     have HZ7:=jH ((HD8.out.block _ HZL.out).trans HZ4.out);obtain ⟨z1,z2,z3⟩:=box_cells jR HZ7.out
     go_upto_region 9 with (first
      | (go_at_call 117
         refine (CL.out S fp7 W7 HS8.out).mono ?_;rintro e w8 ⟨A9,c9,fp9,rfl,hq9,hf9,hb9⟩;have HD9:=jH (bthen HD8.out hb9);have HQ9:=jH (own_srow (base:=W4.heap.size) hq9 (fun r hr=>Nat.le_trans HD8.out.size (hf9 r hr)));have HZ8:=jH ((HD9.out.block _ HZL.out).trans HZ4.out);clear hq9 hf9 hb9 z1 z2 z3;obtain ⟨z1,z2,z3⟩:=box_cells jR HZ8.out))
     refine name_world ?_;intro W8 hW8;have hb8:Below w3.heap.size w8 W8:=by rw [hW8];exact Below.setCell jR (by exact Nat.le_refl _) _
     have HZ5:=jH (show W8.heap[w3.heap.size]?=some (.cells #[.slice A9 sm.length c9,.slice xo.pA xo.nd.past.length xo.pc,.int .i64 xo.nd.pol.mn,.int .i64 xo.nd.pol.mx,.int .i64 xo.nd.pol.tg,.int .i64 xo.nd.pol.tol,.int .i64 xo.nd.pol.win,.int .i64 xo.nd.pol.hold,.bool xo.nd.ruled] 50 (0,0)) by rw [hW8];exact setCell_block HZ8.out);have HB5:=jH (bthen HB4.out HD9.out |>.trans (hb8.mono (by have:=HLT.out;omega)))
     have HX05:=jH ((hb8.block _ (by have:=HLT.out;omega)).trans ((HD9.out.block _ (by have:=HLT.out;have:=HZL.out;omega)).trans HX04.out));have HX95:=jH ((hb8.block _ HLT.out).trans ((HD9.out.block _ (by have:=HLT.out;have:=HZL.out;omega)).trans HX94.out));have HQ5:=jH (show OwnL smpC 118 2 W4.heap.size W8 (.slice A9 sm.length c9) sm from HQ9.out.kept (fun r hr=>by rw [hW8];exact heap_set_ne rfl (by have:=(HQ9.out.lt hr).1;have:=HZL.out;omega)))
     clear hW8 hb8 z1 z2 z3;obtain ⟨b1,b2,b3⟩:=box_cells jR HX05.out;obtain ⟨z1,z2,z3⟩:=box_cells jR HZ5.out;obtain ⟨m1,m2,m3⟩:=box_cells HB5.out HC.out;obtain ⟨o9,hs9,hm9⟩:=fl_store (HMP.out W8.drew HB5.out.drew) s ⟨xo.key,A9,c9,xo.pA,xo.pc,{ xo.nd with smp:=sm }⟩;obtain ⟨d9,hd1,hd2,hd3⟩:=HFIN.out W8.drew o9 A9 c9 HB5.out.drew (((RowG.own eSmp HQ5.out).imp (fun b hb=>by have:=HLT.out;have:=HZL.out;omega)).below jR.drew) hm9
     have HD1:=jH hd1;have HD2:=jH hd2;have HD3:=jH hd3;have hs8:(Instr.mapUpdate 94 (.map (some d.L)) (.string s.1) (.agg #[.slice A9 sm.length c9,.slice xo.pA xo.nd.past.length xo.pc,.int .i64 xo.nd.pol.mn,.int .i64 xo.nd.pol.mx,.int .i64 xo.nd.pol.tg,.int .i64 xo.nd.pol.tol,.int .i64 xo.nd.pol.win,.int .i64 xo.nd.pol.hold,.bool xo.nd.ruled])).run Tryz.prog W8.drew=.ok () (setBlock W8.drew d.L o9):=hs9
     clear hs9 hm9 hd1 hd2 hd3
     go_region
     refine then_named ?_;intro W6 hW6;have HX96:=jH (((show W6.heap[w.heap.size+1]?=W8.heap[w.heap.size+1]? by rw [hW6];exact setBlock_other HXL.out)).trans HX95.out);rw [←hW6] at HD1 HD3;clear hW6 b1 b2 b3 z1 z2 z3 m1 m2 m3 hs8;obtain ⟨y1,y2,y3⟩:=box_cells jR HX96.out;go_wp2_with fail
     refine post_named ?_;intro W9 hW9;have hW9':W9=stor W6 (w.heap.size+1) 0 (repC (repF 0)):=hW9;obtain ⟨t1,t2,t3,t4⟩:=stor_at HX96.out (repC (repF 0)) rfl W9 hW9';obtain ⟨a9,a8,a7⟩:=box_cells jR t1;clear hW9 hW9';exact bodyPost_ret (v:=repV (repF 0)) (by simp [results,Tryz.results79,go_sem,a9,repV,repC,repF,st0,adv0]) rfl (HEND.out W6 W9 d9 HD1.out HD2.out HD3.out t2 t3 t4)
end
end Go.Proofs.YtkcdhaallnhhmaaGreat
