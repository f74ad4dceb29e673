/- Part 38 of the proof. -/
import Derived.Test.YtmniiodpbebnmaaGreatJ37
import Derived.Shelf.SlMaps.Clone
import Derived.Shelf.SlLaysW
namespace Go.Proofs.YtmniiodpbebnmaaGreat
set_option linter.unusedSimpArgs false
set_option linter.unusedVariables false
set_option linter.unusedSectionVars false
set_option maxRecDepth 100000
set_option maxHeartbeats 16000000
section
open Go.RowKit Go.Lib
open Go.ChangeMaps (setBlock)
theorem e1A (kind tick val handle:Int) (s:SK) (p:Pol) (M:Nat) (w:World) (he:g0C tick val≠0) :
 Calls Tryz.prog 58 #[.pointer (some ⟨M,0,none⟩),a0S ⟨kind,s.1,tick,val,handle,p⟩] w (jP w (a0X (a0R (g0C tick val)))):=by
 have CK:=jH (fun W=>b0A tick val W);have z0:(g0C tick val == 0)=false:=by simpa using he
 have z1:(g0C tick val != 0)=true:=by simpa using he
 generalize g0C tick val=er at *;obtain ⟨p0,p1,p2,p3,p4,p5⟩:=p;unfold a0S;dsimp only
 go_enter Tryz.func58,Tryz.ntmps58
 go_wp2_with (first
  | (go_at_call 102
     refine a0B ?_;intro W1 hW1;obtain ⟨HB2,HX02,HX9⟩:=c0X w _ _ W1 hW1;clear hW1;refine (CK.out W1).mono ?_;rintro e w2 ⟨rfl,rfl⟩;obtain ⟨b1,b2,b3⟩:=a0A jR HX02.out;obtain ⟨y1,y2,y3⟩:=a0A jR HX9.out))
 refine a0H ?_;intro W9 hW9;have hW9':W9=c0T W1 (w.heap.size+1) 0 (b0E (a0R er)):=hW9;obtain ⟨t1,t2,t3,t4⟩:=a0M HX9.out (b0E (a0R er)) rfl W9 hW9';obtain ⟨a9,a8,a7⟩:=a0A jR t1;clear hW9 hW9';exact bodyPost_ret (v:=a0X (a0R er)) (by simp [results,Tryz.results58,go_sem,a9,a0X,b0E,a0R,st0,b0O]) rfl ⟨rfl,HB2.out.trans (t4 _ (Nat.le_succ _))⟩
theorem c1E {P:Nat→Prop} {w:World} {M:Nat} {c:Cfg} {rs rh n:Nat} {wd:Wd} {d:b0J} (kind tick val handle:Int) (s:SK) (p:Pol) (h:FW P w M c rs rh n wd d) (hc:b0S c rs rh) (he:g0C tick val=0) (hf:m0R c d.es s=true) :
 Calls Tryz.prog 58 #[.pointer (some ⟨M,0,none⟩),a0S ⟨kind,s.1,tick,val,handle,p⟩] w (jP w (a0X (a0R 6))):=by
 have CK:=jH (fun W=>b0A tick val W);rw [he] at CK;have CF:=jH (fun W (hW:jB w W)=>h0T s (h.at_.below hW) hc.st (h.many hc));rw [hf] at CF;obtain ⟨p0,p1,p2,p3,p4,p5⟩:=p;unfold a0S;dsimp only;clear he h hc hf
 go_enter Tryz.func58,Tryz.ntmps58
 go_wp2_with (first
  | (go_at_call 102
     refine a0B ?_;intro W1 hW1;obtain ⟨HB2,HX02,HX9⟩:=c0X w _ _ W1 hW1;clear hW1;refine (CK.out W1).mono ?_;rintro e w2 ⟨rfl,rfl⟩;obtain ⟨b1,b2,b3⟩:=a0A jR HX02.out;obtain ⟨y1,y2,y3⟩:=a0A jR HX9.out)
  | (go_at_call 125
     refine (CF.out W1 HB2.out).mono ?_;rintro e w3 ⟨rfl,hb3⟩;obtain ⟨HB3,HX03,HX93⟩:=c0O hb3 HB2 HX02 HX9;clear hb3 b1 b2 b3 y1 y2 y3;obtain ⟨b1,b2,b3⟩:=a0A jR HX03.out;obtain ⟨y1,y2,y3⟩:=a0A jR HX93.out))
 refine a0H ?_;intro W9 hW9;have hW9':W9=c0T w3 (w.heap.size+1) 0 (b0E (a0R 6)):=hW9;obtain ⟨t1,t2,t3,t4⟩:=a0M HX93.out (b0E (a0R 6)) rfl W9 hW9';obtain ⟨a9,a8,a7⟩:=a0A jR t1;clear hW9 hW9';exact bodyPost_ret (v:=a0X (a0R 6)) (by simp [results,Tryz.results58,go_sem,a9,a0X,b0E,a0R,st0,b0O]) rfl ⟨rfl,HB3.out.trans (t4 _ (Nat.le_succ _))⟩
theorem k1T {P:Nat→Prop} {w:World} {M:Nat} {c:Cfg} {rs rh n:Nat} {wd:Wd} {d:b0J} (kind tick val handle:Int) (s:SK) (p:Pol) (h:FW P w M c rs rh n wd d) (hP:∀b,w.heap.size≤b→P b) (hc:b0S c rs rh) (hs:idS s.1=true) (hti:I64 tick∧I64 val) (he:g0C tick val=0) (hf:m0R c d.es s=false) :
 Calls Tryz.prog 58 #[.pointer (some ⟨M,0,none⟩),a0S ⟨kind,s.1,tick,val,handle,p⟩] w (b0H P w M c rs rh (n+1) d.L (a0X (a0R 0)) (h0E c rs rh wd s.1 ⟨0,(tick,val),g0P,b0O⟩).1):=by
 have CK:=jH (fun W=>b0A tick val W);rw [he] at CK;have CF:=jH (fun W (hW:jB w W)=>h0T s (h.at_.below hW) hc.st (h.many hc));rw [hf] at CF;have hdo:∀y:Nd,l0S rs rh y ⟨0,(tick,val),g0P,b0O⟩=({ y with smp:=l0X y.smp (rs:Nat) (tick,val),ver:=y.ver+1 },0,(y.smp.length:Int) - ((l0X y.smp (rs:Nat) (tick,val)).length:Int)):=fun y=>by
  unfold l0S;rw [if_pos rfl,if_pos he]
 have hone:=(h.at_.tells.one (rs:=rs) (rh:=rh) hc.st s hs ⟨0,(tick,val),g0P,b0O⟩ (show (0:Int)≠3 by decide) (by rw [hdo])).2 hf;have hhere:=(h.at_.tells.here hc.st s hs).2;have hold:=h.old s;have hok:NdOk rs rh ((a0L d.es s).getD o0K).nd∧∀q∈((a0L d.es s).getD o0K).nd.smp,0≤q.1∧0≤q.2:=by
  cases hf:a0L d.es s with
  | none=>exact ⟨⟨List.Pairwise.nil,Nat.zero_le _,Nat.zero_le _⟩,fun q hq=>by cases hq⟩
  | some x =>
    have h9:=h.at_.tells.it h.ok _ (b0B hf);exact ⟨h9.1,h9.2.2.1⟩
 obtain ⟨xo,hxo⟩:∃x,x=(a0L d.es s).getD o0K:=⟨_,rfl⟩;rw [←it_nd,←hxo] at hhere;rw [←hxo] at hold hok;have hav:=h.avoidX (X:=w.heap.size+1) (Nat.le_succ _) jR;have hroom:=hc.room;have hlo:c.lo≤256:=by
  have hcb:=hc.cfg;unfold h0A at hcb;simp only [Bool.and_eq_true,decide_eq_true_eq] at hcb
  omega
 obtain ⟨sm,hsm⟩:∃l,l=l0X xo.nd.smp (rs:Nat) (tick,val):=⟨_,rfl⟩
 have HFIN:=jH (show ∀(W8:World) (o:Obj) (A:Option Addr) (cc:Nat),jB w W8→d0G (fun b=>w.heap.size+1<b) 2 c0B W8 (.slice A sm.length cc) sm→a0V skV ldV (setBlock W8 d.L o) d.L (d0F d.es s ⟨xo.key,A,cc,xo.pA,xo.pc,{ xo.nd with smp:=sm }⟩) →
     ∃d',FW (fun b=>P b∧b≠w.heap.size+1) (setBlock W8 d.L o) M c rs rh (n+1) (h0E c rs rh wd s.1 ⟨0,(tick,val),g0P,b0O⟩).1 d'∧d'.L=d.L∧Upd w (setBlock W8 d.L o) [M,d.L] [M,d.L] from fun W8 o A cc hb hr hm=>by
   have hi:d0J (fun b=>P b∧b≠w.heap.size+1) W8 ⟨xo.key,A,cc,xo.pA,xo.pc,{ xo.nd with smp:=sm }⟩:=⟨hr.imp (fun b hb=>⟨hP b (by omega),by omega⟩),(hold.below hb).2.imp (fun b hb=>⟨hb.1,by omega⟩)⟩;obtain ⟨h1,h2⟩:=hav.at_.tof0O.put hb hm hi;refine ⟨_,⟨⟨h1.wd rfl rfl rfl,hone.2 _ ?_⟩,n0E h.ok hlo ⟨hti,q0B⟩ hroom.h1⟩,rfl,h2⟩;rw [hdo];exact ⟨by rw [hsm,hhere.1],hhere.2.1,hhere.2.2.1,hhere.2.2.2⟩)
 have HEND:=jH (show ∀(W8 W9:World) d',FW (fun b=>P b∧b≠w.heap.size+1) W8 M c rs rh (n+1) (h0E c rs rh wd s.1 ⟨0,(tick,val),g0P,b0O⟩).1 d'→d'.L=d.L→Upd w W8 [M,d.L] [M,d.L]→(∀k,k≠w.heap.size+1→W9.heap[k]?=W8.heap[k]?)→W9.heap.size=W8.heap.size→(∀n,n≤w.heap.size+1→Below n W8 W9) →
     b0H P w M c rs rh (n+1) d.L (a0X (a0R 0)) (h0E c rs rh wd s.1 ⟨0,(tick,val),g0P,b0O⟩).1 (.returned (a0X (a0R 0))) W9 from fun W8 W9 d' h1 h2 h3 h4 h5 h6=>by
   have h9:=h1.fin (fun b hb=>by rw [h2];exact h.at_.off b hb) (by rw [h2];exact h3) (Nat.le_succ _) h.at_.lt (by rw [h2];exact h.at_.map.lt) h4 h5 h6;rw [h2] at h9;exact ⟨d',rfl,h9.1,h2,h9.2⟩)
 have hlk:=fun (W:World) (hW:jB w W)=>i0U h.at_.map s false (hW.block d.L h.at_.map.lt)
 rw [←hxo] at hlk;unfold ldV ldC at hlk;simp only [Bool.false_eq_true,↓reduceIte] at hlk
 have HLK:=jH hlk;have HMP:=jH (show ∀W,jB w W→a0V skV ldV W d.L d.es from fun W hW=>h.at_.map.below hW);have hcell:=h.at_.cell;rw [hroom.sa] at hcell;have HC:=jH hcell;have HXL:=jH (show w.heap.size+1≠d.L from by have:=h.at_.map.lt;omega);have hsl:xo.nd.smp.length≤256:=by have:=hok.1.len;have:=hroom.r2;omega
 have HSL:=jH hsl;have CC:=jH (fun W (hW:jB w W)=>h0Y (.slice xo.sA xo.nd.smp.length xo.sc) xo.nd.smp W (hold.1.1.below hW) (by omega));have htv:0≤tick∧0≤val:=by
  unfold g0C at he
  split at he
  · cases he
  · split at he
    · cases he
    · omega
 have CO:=jH (show ∀(l:List Smp) (A:Option Addr) (cc:Nat) (W:World),l=xo.nd.smp++[(tick,val)]→a0Q 2 c0B W (.slice A l.length cc) l→Calls Tryz.prog 126 #[.int .i64 (rs:Nat),.slice A l.length cc] W (t0X W sm (rs:Nat)) from fun l A cc W hl hr=>by
  have h9:=i1J rs A cc l W hr (by rw [hl];simp;omega) hroom.r1 hroom.r2 (fun q hq=>by
   rw [hl] at hq
   rcases List.mem_append.1 hq with hq|hq
   · exact hok.2 q hq
   · rw [List.mem_singleton.1 hq];exact htv)
  rw [show l0A (rs:Nat) l=sm by rw [hl,hsm];exact i1E _ _ _ hok.1.ris (by have:=hok.1.len;omega)] at h9;exact h9)
 have hsml:sm.length≤256:=by
  rw [hsm];have:=m0G hok.1.len (tick,val);have:=hroom.r2;omega
 have CL:=jH (show ∀(S:Nat) (fp:List Nat) (W:World),e0S W S sm (rs:Nat) fp→Calls Tryz.prog 128 #[.pointer (some ⟨S,0,none⟩)] W (i0L c0B 111 2 W sm) from fun S fp W hs=>e0E S sm _ fp W hs (by omega));generalize (h0E c rs rh wd s.1 ⟨0,(tick,val),g0P,b0O⟩).1=wd9 at HFIN HEND ⊢;obtain ⟨p0,p1,p2,p3,p4,p5⟩:=p;unfold a0S;dsimp only;clear he h hc hf hP hs hdo hone hhere hold hok hxo hav hlo hlk hroom hsl hsm hsml hti htv hcell
 go_enter Tryz.func58,Tryz.ntmps58
 go_upto_region 6 with (first
  | (go_at_call 102
     refine a0B ?_;intro W1 hW1;obtain ⟨HB2,HX02,HX9⟩:=c0X w _ _ W1 hW1;clear hW1;refine (CK.out W1).mono ?_;rintro e w2 ⟨rfl,rfl⟩;obtain ⟨b1,b2,b3⟩:=a0A jR HX02.out;obtain ⟨y1,y2,y3⟩:=a0A jR HX9.out)
  | (go_at_call 125
     refine (CF.out W1 HB2.out).mono ?_;rintro e w3 ⟨rfl,hb3⟩;obtain ⟨HB3,HX03,HX93⟩:=c0O hb3 HB2 HX02 HX9;clear hb3 b1 b2 b3 y1 y2 y3;obtain ⟨b1,b2,b3⟩:=a0A jR HX03.out;obtain ⟨y1,y2,y3⟩:=a0A jR HX93.out))
 clear b1 b2 b3 y1 y2 y3;obtain ⟨b1,b2,b3⟩:=a0A jR HX03.out;obtain ⟨m1,m2,m3⟩:=a0A HB3.out HC.out;have q2:=HLK.out (w3.alloc (.cells #[.slice none 0 0,.slice none 0 0,.int .i64 0,.int .i64 0,.int .i64 0,.int .i64 0,.int .i64 0,.int .i64 0,.bool false] 60)).drew (a0C HB3.out _).drew;have q3:=HLK.out w3.drew HB3.out.drew
 go_region
 all_goals
   refine a0Y ?_;intro W4 hW4;have hb34:jB w3 W4:=by rw [hW4];exact (a0C jR _).drew
   obtain ⟨HB4,HX04,HX94⟩:=c0O hb34 HB3 HX03 HX93;have HZ4:=jH (show W4.heap[w3.heap.size]?=some (.cells #[.slice xo.sA xo.nd.smp.length xo.sc,.slice xo.pA xo.nd.past.length xo.pc,.int .i64 xo.nd.pol.mn,.int .i64 xo.nd.pol.mx,.int .i64 xo.nd.pol.tg,.int .i64 xo.nd.pol.tol,.int .i64 xo.nd.pol.win,.int .i64 xo.nd.pol.hold,.bool xo.nd.ruled] 60 (0,0)) by rw [hW4];exact heap_alloc_new _ _);have HLT:=jH (show w.heap.size+1<w3.heap.size from (jL HX93.out))
   have HZS:=jH (show w.heap.size≤W4.heap.size from HB4.out.size);have HZL:=jH (show w3.heap.size<W4.heap.size from (jL HZ4.out));clear hW4 hb34 b1 b2 b3 m1 m2 m3 q2 q3
   go_upto_region 7 with fail
   have rk0:∀U,jB W4 U→∀j,U.cell? ⟨w.heap.size,j,none⟩=(#[.int .i64 kind,.string s.1,.int .i64 tick,.int .i64 val,.int .i64 handle,.int .i64 p0,.int .i64 p1,.int .i64 p2,.int .i64 p3,.int .i64 p4,.int .i64 p5]:Array Value)[j]?:=fun U hU j=>(a0A hU HX04.out).1 j
   have rk1:∀U,jB W4 U→U.cell? ⟨w3.heap.size,0,none⟩=some (.slice xo.sA xo.nd.smp.length xo.sc):=fun U hU=>(a0A hU HZ4.out).1 0
   have rk2:∀U,jB W4 U→U.cell? ⟨M,1,none⟩=some (.int .i64 (rs:Nat)):=fun U hU=>(a0A (a0D HB4.out hU) HC.out).1 1
   have hS00:jB W4 W4:=jR;have hS0:jB W4 W4.drew:=hS00.drew;have hS1:jB W4 (W4.drew.alloc (.cells #[.int .i64 tick,.int .i64 val] 111)):=a0C hS0 _;have hS2:jB W4 (W4.alloc (.cells #[.int .i64 tick,.int .i64 val] 111)):=a0C hS00 _;have hS3:jB W4 (W4.alloc (.cells #[.int .i64 tick,.int .i64 val] 111)).drew:=hS2.drew
   go_region_held3 (fun U=>jB W4 U)
     (first
       | with_reducible exact hS0
       | with_reducible exact hS00
       | with_reducible exact hS1
       | with_reducible exact hS2
       | with_reducible exact hS3
       | with_reducible exact HD5.out
       | with_reducible exact a0C HD5.out _
       | with_reducible exact HD6.out
       | with_reducible exact HD7.out)
     (first
       | (have h9:=HLIT2
          refine d0W d0C (by rfl) (.tmp 36) (.tmp 42) (by rfl) W4.heap.size xo.nd.smp [(tick,val)] (.slice A5 xo.nd.smp.length c5) _ (by rfl) (by rfl) (HO5.out.below (by repeat (first|exact jR|refine a0C ?_ _|refine Below.drew ?_|refine a0G ?_ _))) (HLIT2.out.below (by repeat (first|exact jR|refine a0C ?_ _|refine Below.drew ?_|refine a0G ?_ _))) (by have:=HSL.out;simp;omega) (by have:=HD5.out.size;simp;omega) ?_
          intro out A6 c6 w6 hout hown hg hor;have HO6:=jH hown;have HE6:=jH hout;have HD6:=jH (show jB W4 w6 from (a0D HD5.out (by repeat (first|exact jR|refine a0C ?_ _|refine Below.drew ?_|refine a0G ?_ _))).trans (f0J hg (HO5.out.below (by repeat (first|exact jR|refine a0C ?_ _|refine Below.drew ?_|refine a0G ?_ _))) (by have:=HD5.out.size;simp;omega)));clear hown hout hg hor)
       | (refine d0W d0C (by rfl) (.tmp 36) (.tmp 42) (by rfl) W4.heap.size xo.nd.smp [(tick,val)] (.slice A5 xo.nd.smp.length c5) _ (by rfl) (by rfl) (HO5.out.below (by repeat (first|exact jR|refine a0C ?_ _|refine Below.drew ?_|refine a0G ?_ _))) (a0Q.lit (n:=2) (f:=c0B) _ (tick,val) _ _ _ (by first|rfl|simp) rfl) (by have:=HSL.out;simp;omega) (by have:=HD5.out.size;simp;omega) ?_
          intro out A6 c6 w6 hout hown hg hor;have HO6:=jH hown;have HE6:=jH hout;have HD6:=jH (show jB W4 w6 from (a0D HD5.out (by repeat (first|exact jR|refine a0C ?_ _|refine Below.drew ?_|refine a0G ?_ _))).trans (f0J hg (HO5.out.below (by repeat (first|exact jR|refine a0C ?_ _|refine Below.drew ?_|refine a0G ?_ _))) (by have:=HD5.out.size;simp;omega)));clear hown hout hg hor)
       | (go_at_call 126
          refine a0B ?_;intro V7 hV7;have hd7:jB w6 V7:=by rw [hV7];repeat (first|exact jR|refine a0C ?_ _|refine Below.drew ?_|refine a0G ?_ _)
          clear hV7;refine (CO.out out A6 c6 V7 HE6.out ((HO6.out.row d0C).below hd7)).mono ?_;rintro e w7 ⟨S,fp7,rfl,hs7,hf7,hb7⟩;have HS7:=jH hs7;have HD7:=jH (a0D (a0D HD6.out hd7) hb7);clear hd7 hs7 hf7 hb7)
       | (go_at_call 127
          refine a0B ?_;intro V hV;have hd:jB W4 V:=by rw [hV];repeat (first|exact jR|refine a0C ?_ _|refine Below.drew ?_|refine a0G ?_ _)
          have HLIT:=jH (show a0Q 2 c0B V (.slice (some ⟨W4.heap.size,0,none⟩) 1 1) [(tick,val)] by rw [hV];first|exact a0Q.lit (n:=2) (f:=c0B) W4 (tick,val) _ _ _ rfl rfl|exact (a0Q.lit (n:=2) (f:=c0B) W4 (tick,val) _ _ _ rfl rfl).below jR.drew);clear hV;refine (CC.out V (HB4.out.trans (hd.mono HZS.out))).mono ?_;rintro e u2 ⟨A5,c5,fp5,rfl,hq,hf,hb⟩;have HLIT2:=jH (HLIT.out.below hb);have HO5:=jH (g0W (base:=W4.heap.size) hq (fun r hr=>Nat.le_trans hd.size (hf r hr)))
          have HD5:=jH (a0D hd hb);clear hd hq hf hb)
       | (go_at_call 127
          refine a0B ?_;intro V hV;have hd:jB W4 V:=by rw [hV];repeat (first|exact jR|refine a0C ?_ _|refine Below.drew ?_|refine a0G ?_ _)
          clear hV;refine (CC.out V (HB4.out.trans (hd.mono HZS.out))).mono ?_;rintro e u2 ⟨A5,c5,fp5,rfl,hq,hf,hb⟩;have HO5:=jH (g0W (base:=W4.heap.size) hq (fun r hr=>Nat.le_trans hd.size (hf r hr)));have HD5:=jH (a0D hd hb);clear hd hq hf hb))
   all_goals
     refine a0Y ?_;intro W7 hW7;have hb77:jB w7 W7:=by rw [hW7];first|exact jR|exact jR.drew
     have HD8:=jH (a0D HD7.out hb77);have HS8:=jH (HS7.out.kept (fun r hr=>hb77.block r (HS7.out.lt r hr)));clear hW7 hb77 rk0 rk1 rk2 hS00 hS0 hS1 hS2 hS3
     go_upto_region 8 with fail
     have HZ7:=jH ((HD8.out.block _ HZL.out).trans HZ4.out);obtain ⟨z1,z2,z3⟩:=a0A jR HZ7.out
     go_upto_region 9 with (first
      | (go_at_call 128
         refine (CL.out S fp7 W7 HS8.out).mono ?_;rintro e w8 ⟨A9,c9,fp9,rfl,hq9,hf9,hb9⟩;have HD9:=jH (a0D HD8.out hb9);have HQ9:=jH (g0W (base:=W4.heap.size) hq9 (fun r hr=>Nat.le_trans HD8.out.size (hf9 r hr)));have HZ8:=jH ((HD9.out.block _ HZL.out).trans HZ4.out);clear hq9 hf9 hb9 z1 z2 z3;obtain ⟨z1,z2,z3⟩:=a0A jR HZ8.out))
     refine a0J ?_;intro W8 hW8;have hb8:Below w3.heap.size w8 W8:=by rw [hW8];exact Below.setCell jR (by exact Nat.le_refl _) _
     have HZ5:=jH (show W8.heap[w3.heap.size]?=some (.cells #[.slice A9 sm.length c9,.slice xo.pA xo.nd.past.length xo.pc,.int .i64 xo.nd.pol.mn,.int .i64 xo.nd.pol.mx,.int .i64 xo.nd.pol.tg,.int .i64 xo.nd.pol.tol,.int .i64 xo.nd.pol.win,.int .i64 xo.nd.pol.hold,.bool xo.nd.ruled] 60 (0,0)) by rw [hW8];exact a0E HZ8.out);have HB5:=jH (a0D HB4.out HD9.out |>.trans (hb8.mono (by have:=HLT.out;omega)))
     have HX05:=jH ((hb8.block _ (by have:=HLT.out;omega)).trans ((HD9.out.block _ (by have:=HLT.out;have:=HZL.out;omega)).trans HX04.out));have HX95:=jH ((hb8.block _ HLT.out).trans ((HD9.out.block _ (by have:=HLT.out;have:=HZL.out;omega)).trans HX94.out));have HQ5:=jH (show b0Q c0B 111 2 W4.heap.size W8 (.slice A9 sm.length c9) sm from HQ9.out.kept (fun r hr=>by rw [hW8];exact a0K rfl (by have:=(HQ9.out.lt hr).1;have:=HZL.out;omega)))
     clear hW8 hb8 z1 z2 z3;obtain ⟨b1,b2,b3⟩:=a0A jR HX05.out;obtain ⟨z1,z2,z3⟩:=a0A jR HZ5.out;obtain ⟨m1,m2,m3⟩:=a0A HB5.out HC.out;obtain ⟨o9,hs9,hm9⟩:=j0X (HMP.out W8.drew HB5.out.drew) s ⟨xo.key,A9,c9,xo.pA,xo.pc,{ xo.nd with smp:=sm }⟩;obtain ⟨d9,hd1,hd2,hd3⟩:=HFIN.out W8.drew o9 A9 c9 HB5.out.drew (((d0G.own d0C HQ5.out).imp (fun b hb=>by have:=HLT.out;have:=HZL.out;omega)).below jR.drew) hm9
     have HD1:=jH hd1;have HD2:=jH hd2;have HD3:=jH hd3;have hs8:(Instr.mapUpdate 100 (.map (some d.L)) (.string s.1) (.agg #[.slice A9 sm.length c9,.slice xo.pA xo.nd.past.length xo.pc,.int .i64 xo.nd.pol.mn,.int .i64 xo.nd.pol.mx,.int .i64 xo.nd.pol.tg,.int .i64 xo.nd.pol.tol,.int .i64 xo.nd.pol.win,.int .i64 xo.nd.pol.hold,.bool xo.nd.ruled])).run Tryz.prog W8.drew=.ok () (setBlock W8.drew d.L o9):=hs9
     clear hs9 hm9 hd1 hd2 hd3
     go_region
     refine a0Y ?_;intro W6 hW6;have HX96:=jH (((show W6.heap[w.heap.size+1]?=W8.heap[w.heap.size+1]? by rw [hW6];exact b0I HXL.out)).trans HX95.out);rw [←hW6] at HD1 HD3;clear hW6 b1 b2 b3 z1 z2 z3 m1 m2 m3 hs8;obtain ⟨y1,y2,y3⟩:=a0A jR HX96.out;go_wp2_with fail
     refine a0H ?_;intro W9 hW9;have hW9':W9=c0T W6 (w.heap.size+1) 0 (b0E (a0R 0)):=hW9;obtain ⟨t1,t2,t3,t4⟩:=a0M HX96.out (b0E (a0R 0)) rfl W9 hW9';obtain ⟨a9,a8,a7⟩:=a0A jR t1;clear hW9 hW9';exact bodyPost_ret (v:=a0X (a0R 0)) (by simp [results,Tryz.results58,go_sem,a9,a0X,b0E,a0R,st0,b0O]) rfl (HEND.out W6 W9 d9 HD1.out HD2.out HD3.out t2 t3 t4)
end
section
open Go.Shelf
def a1H:Go.Shelf.Ren:=⟨fun|5=>71|7=>136|n=>n,fun|23=>100|25=>9|3=>60|4=>4|20=>20|n=>n,fun|n=>n⟩
theorem cloneM:Go.Proofs.SlLaysW.n5 Tryz.prog a1H:={
  mixed:=by kernel_rfl
  f5:=⟨Tryz.f71.name,by decide,Tryz.func71.trans (congrArg some (by kernel_rfl))⟩
  f7:=Tryz.func136.trans (congrArg some (by kernel_rfl))
  t4:=Tryz.underlying4
  a4:=Tryz.isAgg4
  z4:=Tryz.sizeOf4
  v4:=Tryz.zeroValue4
  t20:=Tryz.underlying20
  a20:=Tryz.isAgg20
  z20:=Tryz.sizeOf20
  v20:=Tryz.zeroValue20
  t23:=Tryz.underlying100
  a23:=Tryz.isAgg100
  z23:=Tryz.sizeOf100
  v23:=Tryz.zeroValue100 }
end
section
open Go.RowKit Go.Lib
section
theorem eFc:g0Y 101 136 3 24 (.agg #[.int .i64 0,.map none,.bool false]) fcC :=
 ⟨by kernel_rfl,by kernel_rfl,rfl,by decide,by decide,fun _=>rfl,fun x u hu=>by
  simp only [fcC,List.mem_cons,List.not_mem_nil,or_false] at hu
  rcases hu with rfl|rfl|rfl <;> rfl⟩
theorem z0Z (v:Value) (l:List p0W) (w:World) (hv:a0Q 3 fcC w v l) (hl:l.length≤1000000) :
 Calls Tryz.prog 72 #[v] w (i0L fcC 136 3 w l):=by
 obtain ⟨A,c,rfl⟩:=hv.form
 cases A with
 | none =>
   have h0:l.length=0:=by
    obtain ⟨A1,c1,e1,_,hr⟩:=hv;injection e1 with e1 _ _
    rcases Nat.eq_zero_or_pos l.length with h|h
    · exact h
    · obtain ⟨_,_,hA,_⟩:=hr h;rw [hA] at e1;cases e1
   obtain rfl:l=[]:=List.eq_nil_of_length_eq_zero h0;have hq:∀W,(binOp .eql 101 (.slice none 0 c) (.slice none 0 0)).run Tryz.prog W=.ok (.bool true) W:=fun W=>Lib.run_eql_slice_nil W _ _ none 0 c 0 0 eFc.ht
   clear hv h0
   go_enter Tryz.func72,Tryz.ntmps72
   go_wp2
   go_ret
   exact ⟨none,0,[],rfl,j0P.nil _,fun k hk=>by simp at hk,jR⟩
 | some ad =>
   have HV:=jH hv;have hq:∀W,(binOp .eql 101 (.slice (some ad) l.length c) (.slice none 0 0)).run Tryz.prog W=.ok (.bool false) W:=fun W=>Lib.run_eql_slice_nil W _ _ (some ad) l.length c 0 0 eFc.ht
   clear hv
   go_enter Tryz.func72,Tryz.ntmps72
   go_wp2_with (at_builtin;refine b0Y eFc (by rfl) (s:=.tmp 5) (x:=.tmp 6) (by rfl) w.heap.size [] l _ _ (by rfl) (by rfl) (b0Q.lit0 _ w _ _ rfl (Nat.le_refl _)) (HV.out.below (a0C jR _)) (by simp;omega) (by simp) ?_;intro out A2 c2 w2 hout hown hg _;have HOUT:=jH hout;have HO:=jH hown;have HG:=jH hg;clear hout hown hg)
   go_ret
   have e1:out=l:=by rw [HOUT.out];rfl
   subst e1;exact ⟨A2,c2,_,rfl,j0P.of _ HO.out,fun k hk=>(HO.out.lt (by simpa using hk)).1,(a0C jR _).trans (c0C HG.out (by simp) (fun r hr=>by have hr':some w.heap.size=some r:=hr;injection hr';omega))⟩
section
variable {α:Type} {t e:TypeId} {n bytes:Nat} {z:Value} {f:α→List Value}
theorem u0V (E:g0Y t e n bytes z f) (w:World) (ty:TypeId) (l m:List α) (A:Option Addr) (v2:Value)
    (hl:a0Q n f w (.slice A l.length l.length) l) (hm:a0Q n f w v2 m) (hm0:0<m.length) (hlen:l.length+m.length≤100000000) :
    ∃c w',(Builtin.append_ #[t,t] ty #[.slice A l.length l.length,v2]).run Tryz.prog w=.ok (.slice (some ⟨w.heap.size,0,none⟩) (l++m).length c) w'∧b0Q f e n w.heap.size w' (.slice (some ⟨w.heap.size,0,none⟩) (l++m).length c) (l++m)∧jB w w':=by
  obtain ⟨i0,hi0,hz0,hz1,hz2⟩:=info_parts E.hi;have hby:=E.hb;have cells:∀(k:List α) (ad:Addr) (c:Nat),a0Q n f w (.slice (some ad) k.length c) k→∀j u,(a0F f k)[j]?=some u→w.cell? (ad.add j)=some u:=fun k ad c hr j u hu=>by
   obtain ⟨y,hy,hyu⟩:=e0V E.hn E.len k j u hu;have hml:0<k.length:=Nat.lt_of_le_of_lt (Nat.zero_le _) (List.getElem?_eq_some_iff.1 hy).1;obtain ⟨A2,c2,hv,_,hr⟩:=hr;obtain ⟨b,o',hA,hlt,hat⟩:=hr hml;injection hv with hA2 _ _
   rw [hA] at hA2;injection hA2 with hA2
   subst hA2;have h:=hat (j / n) y hy (j % n) u hyu;rw [j0L,←h];have hd:j / n * n+j % n=j:=by rw [Nat.mul_comm];exact Nat.div_add_mod j n
   rw [Nat.add_assoc,hd]
  obtain ⟨A2,c2,hv2,hc2,hr2⟩:=id hm;subst hv2;obtain ⟨b2,o2,hA2,_,_⟩:=hr2 hm0;subst hA2;have hlen2:(l++m).length=l.length+m.length:=by simp
  have hsm:l.length+m.length≤maxLen:=by simp only [maxLen];omega
  have hbig:(l.length+m.length) * bytes≤140737488355328:=Nat.le_trans (Nat.mul_le_mul (by omega:l.length+m.length≤100000000) hby) (by omega)
  have grown:∀(xs:List Value) (old:Nat),xs=a0F f l→old<l.length+m.length →
      b0Q f e n w.heap.size (w.drew.alloc (.cells (xs.toArray++(a0F f m).toArray++Builtin.zeroCells z.cells (grownCap w (l.length+m.length) old e - (l.length+m.length))) e)) (.slice (some ⟨w.heap.size,0,none⟩) (l++m).length (grownCap w (l.length+m.length) old e)) (l++m):=by
    intro xs old hxs ho;have hge:=grownCap_ge w (l.length+m.length) old e;have hcm:grownCap w (l.length+m.length) old e≤maxLen:=grownCap_le_maxLen w (l.length+m.length) old e hsm;have hl1:=a0T E.len l;have hl2:=a0T E.len m;subst hxs;refine ⟨a0T E.len (l++m),.inr ⟨w.heap.size,_,_,rfl,Nat.le_refl _,heap_alloc_new w.drew _,by omega,hcm,?_,?_⟩⟩
    · simp only [Array.size_append,List.size_toArray,size_zeroCells,E.hz,hl1,hl2,←Nat.add_mul]
      congr 1
      omega
    · simp only [Array.toList_append,List.append_assoc]
      rw [←List.append_assoc,←b0W,←a0T E.len (l++m)];exact List.take_left
  rw [hlen2];rw [hlen2] at grown
  cases A with
  | none =>
    have h0:l=[]:=by
     obtain ⟨A3,c3,hv3,_,hr3⟩:=hl
     rcases Nat.eq_zero_or_pos l.length with h|h
     · exact List.eq_nil_of_length_eq_zero h
     · obtain ⟨_,_,hA,_⟩:=hr3 h
       injection hv3 with hv3 _ _
       rw [hA] at hv3
       cases hv3
    subst h0;have hr:=Go.run_append_nil (P:=Tryz.prog) w t ty e i0 z E.ht hi0 hz0 ⟨b2,o2,none⟩ m.length c2 (a0F f m) (by rw [hz1];exact a0T E.len m) (cells m _ _ hm) hm0 (by simp only [List.length_nil,Nat.zero_add,maxLen] at hsm;omega) (by rw [hz2];simp only [List.length_nil,Nat.zero_add] at hbig;omega);have hg:=grown [] 0 rfl (by simp;omega);simp only [List.length_nil,Nat.zero_add,List.nil_append,Array.empty_append] at hg hr ⊢
    exact ⟨_,_,hr,hg,⟨rfl,rfl,rfl,by simp,fun k hk=>Below.heap_alloc w.drew _ k hk⟩⟩
  | some ad =>
    have hr:=run_append_grow (P:=Tryz.prog) w t ty e i0 z E.ht hi0 hz0 ad l.length l.length (a0F f l) (by rw [hz1];exact a0T E.len l) (cells l _ _ hl) ⟨b2,o2,none⟩ m.length c2 (a0F f m) (by rw [hz1];exact a0T E.len m) (cells m _ _ hm) (by omega) (by omega) (by rw [hz2];exact growslice_fits (by omega) hbig);exact ⟨_,_,hr,grown _ _ rfl (by omega),⟨rfl,rfl,rfl,by simp,fun k hk=>Below.heap_alloc w.drew _ k hk⟩⟩
theorem t0Z (E:g0Y t e n bytes z f) {w:World} {ops:Array Oper} {o:Oper} {a:Act} {K:Act→World→Prop} {Q:Exit→Act→World→Prop} {X:Prop} (hgd:o.guard=none) (s x:Operand)
    (ho:o.op=.call { callee:=.builtin .append,args:=#[s,x],argTypes:=#[t,t] }) (l m:List α) (A:Option Addr) (v2:Value) (hs:a.eval s=.slice A l.length l.length) (hx:a.eval x=v2)
    (hl:a0Q n f w (.slice A l.length l.length) l) (hm:a0Q n f w v2 m) (hm0:0<m.length) (hlen:l.length+m.length≤100000000)
    (h:∀(out:List α) c w',out=l++m→b0Q f e n w.heap.size w' (.slice (some ⟨w.heap.size,0,none⟩) out.length c) out→jB w w'→K (a.put o.dst (.slice (some ⟨w.heap.size,0,none⟩) out.length c)) w') :
    if Region.wanted o (yielded ops a.tmps)=true then Oper.wp Tryz.prog o a w K Q else X:=by
  have hw:Region.wanted o (yielded ops a.tmps)=true:=by simp [Region.wanted,hgd]
  rw [if_pos hw];obtain ⟨c,w',hrun,h2,h3⟩:=u0V E w o.type l m A v2 hl hm hm0 hlen;unfold Oper.wp;simp [execOp,ho,resolve,invoke,builtin,hs,hx,hrun,Result.andThen]
  have h6:=h _ c w' rfl h2 h3;rw [List.length_append] at h6;exact h6
end
theorem d1F (L:Nat) (es:List (SK × It)) (w:World) (h:a0V skV ldV w L es) :
 Calls Tryz.prog 71 #[.map (some L)] w fun e w'=>e=.returned (.map (some w.heap.size))∧a0V skV ldV w' w.heap.size es∧jB w w':=by
 obtain ⟨ents,clock,hb,h2⟩:=h;refine (AnyW.maps_Clone cloneM L ents clock w hb).mono ?_;rintro e w' ⟨rfl,rfl⟩;exact ⟨rfl,⟨ents,clock,heap_alloc_new _ _,h2⟩,a0C jR _⟩
end
end
end Go.Proofs.YtmniiodpbebnmaaGreat
