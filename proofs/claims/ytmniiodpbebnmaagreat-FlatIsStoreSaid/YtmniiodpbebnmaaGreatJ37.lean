/- Part 37 of the proof. -/
import Derived.Test.YtmniiodpbebnmaaGreatJ36
namespace Go.Proofs.YtmniiodpbebnmaaGreat
set_option linter.unusedSimpArgs false
set_option linter.unusedVariables false
set_option linter.unusedSectionVars false
set_option maxRecDepth 100000
set_option maxHeartbeats 16000000
section
open Go.RowKit Go.Lib
open Go.ChangeMaps (setBlock)
theorem k1Y {w a b:World} {fp fp':List Nat} (h:Upd w a fp fp') (hb:Below w.heap.size a b) (hs:a.heap.size≤b.heap.size):Upd w b fp fp' :=
 ⟨hb.os.trans h.os,hb.tape.trans h.tape,hb.output.trans h.output,Nat.le_trans h.size hs,fun k hk hn=>(hb.block k hk).trans (h.block k hk hn),h.fresh⟩
theorem FW.avoidX {P:Nat→Prop} {w W:World} {M:Nat} {c:Cfg} {rs rh n X:Nat} {wd:Wd} {d:b0J} (h:FW P w M c rs rh n wd d) (hX:w.heap.size≤X) (hb:jB w W):FW (fun b=>P b∧b≠X) W M c rs rh n wd d :=
 ⟨h.at_.keep hb.size (hb.block _ h.at_.lt) (hb.block _ h.at_.map.lt) (fun b hP hlt=>⟨hb.block b hlt,hP,by omega⟩) (fun b hb=>h.at_.off b hb.1),h.ok⟩
theorem FW.fin {P:Nat→Prop} {w W8 W9:World} {M:Nat} {c:Cfg} {rs rh n X:Nat} {wd:Wd} {d:b0J} (h:FW (fun b=>P b∧b≠X) W8 M c rs rh n wd d) (hoff:∀b,P b→b≠M∧b≠d.L) (hu:Upd w W8 [M,d.L] [M,d.L]) (hX:w.heap.size≤X) (hM:M<w.heap.size) (hL:d.L<w.heap.size)
    (h2:∀k,k≠X→W9.heap[k]?=W8.heap[k]?) (h3:W9.heap.size=W8.heap.size) (h4:∀n,n≤X→Below n W8 W9):FW P W9 M c rs rh n wd d∧Upd w W9 [M,d.L] [M,d.L] :=
  ⟨⟨h.at_.keep (Nat.le_of_eq h3.symm) (h2 _ (by omega)) (h2 _ (by omega)) (fun b hb hlt=>⟨h2 b hb.2,hb.1⟩) hoff,h.ok⟩,k1Y hu (h4 _ hX) (Nat.le_of_eq h3.symm)⟩
theorem FW.many {P:Nat→Prop} {w:World} {M:Nat} {c:Cfg} {rs rh n:Nat} {wd:Wd} {d:b0J} (h:FW P w M c rs rh n wd d) (hc:b0S c rs rh):d.es.length≤1000000:=by
 have h1:=y0P h.ok (d0L _ hc.st).2;rw [h.at_.tells.len hc.st];omega
theorem FW.old {P:Nat→Prop} {w:World} {M:Nat} {c:Cfg} {rs rh n:Nat} {wd:Wd} {d:b0J} (h:FW P w M c rs rh n wd d) (s:SK):d0J (fun b=>P b∧b<w.heap.size) w ((a0L d.es s).getD o0K):=by
 cases hf:a0L d.es s with
 | none=>exact ⟨d0G.nil,d0G.nil⟩
 | some x =>
   have hm:=h.at_.rows _ (b0B hf);exact ⟨hm.1.ltG,hm.2.ltG⟩
theorem it_nd (o:Option It):(o.getD o0K).nd=(o.map (·.nd)).getD nd0:=by cases o <;> rfl
theorem c0X (w:World) (a b:Obj):∀W,W=(w.alloc a).alloc b→Hid (jB w W)∧Hid (W.heap[w.heap.size]?=some a)∧Hid (W.heap[w.heap.size+1]?=some b):=fun W hW=>by
 rw [hW];exact ⟨jH (a0C (a0C jR _) _),jH (d0V _ _ _),jH (c0G _ _ _)⟩
theorem c0O {w W w2:World} {a b:Nat} {o1 o2:Obj} (hb:jB W w2) (h:Hid (jB w W)) (h1:Hid (W.heap[a]?=some o1)) (h2:Hid (W.heap[b]?=some o2)):Hid (jB w w2)∧Hid (w2.heap[a]?=some o1)∧Hid (w2.heap[b]?=some o2) :=
 ⟨jH (a0D h.out hb),jH (jK hb h1.out),jH (jK hb h2.out)⟩
theorem g1J (kind tick val handle:Int) (s:SK) (p:Pol) (M:Nat) (w:World) (hp:g0Z p=false) :
 Calls Tryz.prog 63 #[.pointer (some ⟨M,0,none⟩),a0S ⟨kind,s.1,tick,val,handle,p⟩] w (jP w (a0X (a0R 7))):=by
 have CK:=jH (fun W=>a0W p W);have he:i0F p=7:=by unfold i0F;rw [if_neg (by rw [hp];simp)]
 rw [he] at CK;obtain ⟨p0,p1,p2,p3,p4,p5⟩:=p;unfold d0E at CK;unfold a0S;dsimp only at CK ⊢;clear hp he
 go_enter Tryz.func63,Tryz.ntmps63
 go_wp2_with (first
  | (go_at_call 103
     refine a0B ?_;intro W1 hW1;obtain ⟨HB1,HX0,HX1⟩:=c0X w _ _ W1 hW1;clear hW1;refine (CK.out W1).mono ?_;rintro e w2 ⟨rfl,hb2⟩;obtain ⟨HB2,HX02,HX9⟩:=c0O hb2 HB1 HX0 HX1;obtain ⟨b1,b2,b3⟩:=a0A jR HX02.out;obtain ⟨y1,y2,y3⟩:=a0A jR HX9.out;clear hb2))
 refine a0H ?_;intro W9 hW9;have hW9':W9=c0T w2 (w.heap.size+1) 0 (b0E (a0R 7)):=hW9;obtain ⟨t1,t2,t3,t4⟩:=a0M HX9.out (b0E (a0R 7)) rfl W9 hW9';obtain ⟨a9,a8,a7⟩:=a0A jR t1;clear hW9 hW9';exact bodyPost_ret (v:=a0X (a0R 7)) (by simp [results,Tryz.results63,go_sem,a9,a0X,b0E,a0R,st0,b0O]) rfl ⟨rfl,HB2.out.trans (t4 _ (Nat.le_succ _))⟩
theorem b1G {P:Nat→Prop} {w:World} {M:Nat} {c:Cfg} {rs rh n:Nat} {wd:Wd} {d:b0J} (kind tick val handle:Int) (s:SK) (p:Pol) (h:FW P w M c rs rh n wd d) (hc:b0S c rs rh) (hp:g0Z p=true) (hf:m0R c d.es s=true) :
 Calls Tryz.prog 63 #[.pointer (some ⟨M,0,none⟩),a0S ⟨kind,s.1,tick,val,handle,p⟩] w (jP w (a0X (a0R 6))):=by
 have CK:=jH (fun W=>a0W p W);have he:i0F p=0:=by unfold i0F;rw [if_pos hp]
 rw [he] at CK;have CF:=jH (fun W (hW:jB w W)=>h0T s (h.at_.below hW) hc.st (h.many hc));rw [hf] at CF;obtain ⟨p0,p1,p2,p3,p4,p5⟩:=p;unfold d0E at CK;unfold a0S;dsimp only at CK ⊢;clear hp he h hc hf
 go_enter Tryz.func63,Tryz.ntmps63
 go_wp2_with (first
  | (go_at_call 103
     refine a0B ?_;intro W1 hW1;obtain ⟨HB1,HX0,HX1⟩:=c0X w _ _ W1 hW1;clear hW1;refine (CK.out W1).mono ?_;rintro e w2 ⟨rfl,hb2⟩;obtain ⟨HB2,HX02,HX9⟩:=c0O hb2 HB1 HX0 HX1;obtain ⟨b1,b2,b3⟩:=a0A jR HX02.out;obtain ⟨y1,y2,y3⟩:=a0A jR HX9.out;clear hb2)
  | (go_at_call 125
     refine (CF.out w2 HB2.out).mono ?_;rintro e w3 ⟨rfl,hb3⟩;obtain ⟨HB3,HX03,HX93⟩:=c0O hb3 HB2 HX02 HX9;clear hb3 b1 b2 b3 y1 y2 y3;obtain ⟨b1,b2,b3⟩:=a0A jR HX03.out;obtain ⟨y1,y2,y3⟩:=a0A jR HX93.out))
 refine a0H ?_;intro W9 hW9;have hW9':W9=c0T w3 (w.heap.size+1) 0 (b0E (a0R 6)):=hW9;obtain ⟨t1,t2,t3,t4⟩:=a0M HX93.out (b0E (a0R 6)) rfl W9 hW9';obtain ⟨a9,a8,a7⟩:=a0A jR t1;clear hW9 hW9';exact bodyPost_ret (v:=a0X (a0R 6)) (by simp [results,Tryz.results63,go_sem,a9,a0X,b0E,a0R,st0,b0O]) rfl ⟨rfl,HB3.out.trans (t4 _ (Nat.le_succ _))⟩
theorem l1T {P:Nat→Prop} {w:World} {M:Nat} {c:Cfg} {rs rh n:Nat} {wd:Wd} {d:b0J} (kind tick val handle:Int) (s:SK) (p:Pol) (h:FW P w M c rs rh n wd d) (hP:∀b,w.heap.size≤b→P b) (hc:b0S c rs rh) (hs:idS s.1=true) (hpo:p.ok) (hp:g0Z p=true) (hf:m0R c d.es s=false) :
 Calls Tryz.prog 63 #[.pointer (some ⟨M,0,none⟩),a0S ⟨kind,s.1,tick,val,handle,p⟩] w (b0H P w M c rs rh (n+1) d.L (a0X (a0R 0)) (h0E c rs rh wd s.1 ⟨2,(0,0),p,b0O⟩).1):=by
 have CK:=jH (fun W=>a0W p W);have he:i0F p=0:=by unfold i0F;rw [if_pos hp]
 rw [he] at CK;have CF:=jH (fun W (hW:jB w W)=>h0T s (h.at_.below hW) hc.st (h.many hc));rw [hf] at CF;have hdo:∀y:Nd,l0S rs rh y ⟨2,(0,0),p,b0O⟩=({ y with pol:=p,ruled:=true,ver:=y.ver+1 },0,0):=fun y=>by
  unfold l0S;rw [if_neg (show ¬(2:Int)=0 by decide),if_neg (show ¬(2:Int)=1 by decide),if_pos rfl,if_pos hp]
 have hone:=(h.at_.tells.one (rs:=rs) (rh:=rh) hc.st s hs ⟨2,(0,0),p,b0O⟩ (show (2:Int)≠3 by decide) (by rw [hdo])).2 hf;have hhere:=(h.at_.tells.here hc.st s hs).2;have hold:=h.old s;obtain ⟨xo,hxo⟩:∃x,x=(a0L d.es s).getD o0K:=⟨_,rfl⟩;rw [←it_nd,←hxo] at hhere;rw [←hxo] at hold;have hav:=h.avoidX (X:=w.heap.size+1) (Nat.le_succ _) jR;have hlo:c.lo≤256:=by
  have hcb:=hc.cfg;unfold h0A at hcb;simp only [Bool.and_eq_true,decide_eq_true_eq] at hcb
  omega
 have HFIN:=jH (show ∀(W8:World) (o:Obj),jB w W8→a0V skV ldV (setBlock W8 d.L o) d.L (d0F d.es s ⟨xo.key,xo.sA,xo.sc,xo.pA,xo.pc,setF xo.nd p⟩) →
     ∃d',FW (fun b=>P b∧b≠w.heap.size+1) (setBlock W8 d.L o) M c rs rh (n+1) (h0E c rs rh wd s.1 ⟨2,(0,0),p,b0O⟩).1 d'∧d'.L=d.L∧Upd w (setBlock W8 d.L o) [M,d.L] [M,d.L] from fun W8 o hb hm=>by
   have hi:d0J (fun b=>P b∧b≠w.heap.size+1) W8 ⟨xo.key,xo.sA,xo.sc,xo.pA,xo.pc,setF xo.nd p⟩:=(hold.below hb).imp (fun b hb=>⟨hb.1,by omega⟩);obtain ⟨h1,h2⟩:=hav.at_.tof0O.put hb hm hi;refine ⟨_,⟨⟨h1.wd rfl rfl rfl,hone.2 _ ?_⟩,n0E h.ok hlo ⟨⟨by show I64 0;unfold I64;omega,by show I64 0;unfold I64;omega⟩,hpo⟩ hc.room.h1⟩,rfl,h2⟩;rw [hdo];exact ⟨hhere.1,hhere.2.1,rfl,rfl⟩)
 have HEND:=jH (show ∀(W8 W9:World) d',FW (fun b=>P b∧b≠w.heap.size+1) W8 M c rs rh (n+1) (h0E c rs rh wd s.1 ⟨2,(0,0),p,b0O⟩).1 d'→d'.L=d.L→Upd w W8 [M,d.L] [M,d.L]→(∀k,k≠w.heap.size+1→W9.heap[k]?=W8.heap[k]?)→W9.heap.size=W8.heap.size→(∀n,n≤w.heap.size+1→Below n W8 W9) →
     b0H P w M c rs rh (n+1) d.L (a0X (a0R 0)) (h0E c rs rh wd s.1 ⟨2,(0,0),p,b0O⟩).1 (.returned (a0X (a0R 0))) W9 from fun W8 W9 d' h1 h2 h3 h4 h5 h6=>by
   have h9:=h1.fin (fun b hb=>by rw [h2];exact h.at_.off b hb) (by rw [h2];exact h3) (Nat.le_succ _) h.at_.lt (by rw [h2];exact h.at_.map.lt) h4 h5 h6;rw [h2] at h9;exact ⟨d',rfl,h9.1,h2,h9.2⟩)
 have hlk:=fun (W:World) (hW:jB w W)=>i0U h.at_.map s false (hW.block d.L h.at_.map.lt)
 rw [←hxo] at hlk;unfold ldV ldC at hlk;simp only [Bool.false_eq_true,↓reduceIte] at hlk
 have HLK:=jH hlk;have HMP:=jH (show ∀W,jB w W→a0V skV ldV W d.L d.es from fun W hW=>h.at_.map.below hW);have HC:=jH h.at_.cell;have HXL:=jH (show w.heap.size+1≠d.L from by have:=h.at_.map.lt;omega);generalize (h0E c rs rh wd s.1 ⟨2,(0,0),p,b0O⟩).1=wd9 at HFIN HEND ⊢;obtain ⟨p0,p1,p2,p3,p4,p5⟩:=p;unfold d0E at CK;unfold a0S;dsimp only at CK ⊢;clear hp he h hc hf hP hs hpo hdo hone hhere hold hxo hav hlo hlk
 go_enter Tryz.func63,Tryz.ntmps63
 go_upto_region 6 with (first
  | (go_at_call 103
     refine a0B ?_;intro W1 hW1;obtain ⟨HB1,HX0,HX1⟩:=c0X w _ _ W1 hW1;clear hW1;refine (CK.out W1).mono ?_;rintro e w2 ⟨rfl,hb2⟩;obtain ⟨HB2,HX02,HX9⟩:=c0O hb2 HB1 HX0 HX1;obtain ⟨b1,b2,b3⟩:=a0A jR HX02.out;obtain ⟨y1,y2,y3⟩:=a0A jR HX9.out;clear hb2)
  | (go_at_call 125
     refine (CF.out w2 HB2.out).mono ?_;rintro e w3 ⟨rfl,hb3⟩;obtain ⟨HB3,HX03,HX93⟩:=c0O hb3 HB2 HX02 HX9;clear hb3 b1 b2 b3 y1 y2 y3;obtain ⟨b1,b2,b3⟩:=a0A jR HX03.out;obtain ⟨y1,y2,y3⟩:=a0A jR HX93.out))
 clear b1 b2 b3 y1 y2 y3;have q1:=HLK.out;obtain ⟨b1,b2,b3⟩:=a0A jR HX03.out;obtain ⟨m1,m2,m3⟩:=a0A HB3.out HC.out;have q2:=HLK.out (w3.alloc (.cells #[.slice none 0 0,.slice none 0 0,.int .i64 0,.int .i64 0,.int .i64 0,.int .i64 0,.int .i64 0,.int .i64 0,.bool false] 60)).drew (a0C HB3.out _).drew;have q3:=HLK.out w3.drew HB3.out.drew;clear q1
 go_region
 all_goals
   refine a0Y ?_;intro W4 hW4;have hb34:jB w3 W4:=by rw [hW4];exact (a0C jR _).drew
   obtain ⟨HB4,HX04,HX94⟩:=c0O hb34 HB3 HX03 HX93;have HZ4:=jH (show W4.heap[w3.heap.size]?=some (.cells #[.slice xo.sA xo.nd.smp.length xo.sc,.slice xo.pA xo.nd.past.length xo.pc,.int .i64 xo.nd.pol.mn,.int .i64 xo.nd.pol.mx,.int .i64 xo.nd.pol.tg,.int .i64 xo.nd.pol.tol,.int .i64 xo.nd.pol.win,.int .i64 xo.nd.pol.hold,.bool xo.nd.ruled] 60 (0,0)) by rw [hW4];exact heap_alloc_new _ _);have HLT:=jH (show w.heap.size+1<w3.heap.size from (jL HX93.out))
   clear hW4 hb34 b1 b2 b3 m1 m2 m3 q2 q3;obtain ⟨b1,b2,b3⟩:=a0A jR HX04.out;obtain ⟨z1,z2,z3⟩:=a0A jR HZ4.out
   go_upto_region 8 with fail
   refine a0J ?_;intro W5 hW5;have hW5':W5=c0T W4 w3.heap.size 2 [.int .i64 p0,.int .i64 p1,.int .i64 p2,.int .i64 p3,.int .i64 p4,.int .i64 p5,.bool true]:=hW5;obtain ⟨s1,s2,s3,s4⟩:=x0U [.int .i64 p0,.int .i64 p1,.int .i64 p2,.int .i64 p3,.int .i64 p4,.int .i64 p5,.bool true] W4 w3.heap.size 2 _ _ HZ4.out rfl;rw [←hW5'] at s1 s2 s3 s4;have hb45:Below w3.heap.size W4 W5:=s4 _ (Nat.le_refl _)
   have HZ5:=jH (show W5.heap[w3.heap.size]?=some (.cells #[.slice xo.sA xo.nd.smp.length xo.sc,.slice xo.pA xo.nd.past.length xo.pc,.int .i64 p0,.int .i64 p1,.int .i64 p2,.int .i64 p3,.int .i64 p4,.int .i64 p5,.bool true] 60 (0,0)) from s1);have HB5:=jH (HB4.out.trans (hb45.mono (by have:=HLT.out;omega)));have HX05:=jH ((hb45.block _ (by have:=HLT.out;omega)).trans HX04.out);have HX95:=jH ((hb45.block _ HLT.out).trans HX94.out)
   clear hW5 hW5' s1 s2 s3 s4 hb45 b1 b2 b3 z1 z2 z3;obtain ⟨b1,b2,b3⟩:=a0A jR HX05.out;obtain ⟨z1,z2,z3⟩:=a0A jR HZ5.out;obtain ⟨m1,m2,m3⟩:=a0A HB5.out HC.out;obtain ⟨o9,hs9,hm9⟩:=j0X (HMP.out W5.drew HB5.out.drew) s ⟨xo.key,xo.sA,xo.sc,xo.pA,xo.pc,setF xo.nd ⟨p0,p1,p2,p3,p4,p5⟩⟩;obtain ⟨d9,hd1,hd2,hd3⟩:=HFIN.out W5.drew o9 HB5.out.drew hm9;have HD1:=jH hd1;have HD2:=jH hd2
   have HD3:=jH hd3;have hs8:(Instr.mapUpdate 100 (.map (some d.L)) (.string s.1) (.agg #[.slice xo.sA xo.nd.smp.length xo.sc,.slice xo.pA xo.nd.past.length xo.pc,.int .i64 p0,.int .i64 p1,.int .i64 p2,.int .i64 p3,.int .i64 p4,.int .i64 p5,.bool true])).run Tryz.prog W5.drew=.ok () (setBlock W5.drew d.L o9):=hs9;clear hs9 hm9 hd1 hd2 hd3
   go_region
   refine a0Y ?_;intro W6 hW6;have HX96:=jH (((show W6.heap[w.heap.size+1]?=W5.heap[w.heap.size+1]? by rw [hW6];exact b0I HXL.out)).trans HX95.out);rw [←hW6] at HD1 HD3;clear hW6 b1 b2 b3 z1 z2 z3 m1 m2 m3 hs8;obtain ⟨y1,y2,y3⟩:=a0A jR HX96.out;go_wp2_with fail
   refine a0H ?_;intro W9 hW9;have hW9':W9=c0T W6 (w.heap.size+1) 0 (b0E (a0R 0)):=hW9;obtain ⟨t1,t2,t3,t4⟩:=a0M HX96.out (b0E (a0R 0)) rfl W9 hW9';obtain ⟨a9,a8,a7⟩:=a0A jR t1;clear hW9 hW9';exact bodyPost_ret (v:=a0X (a0R 0)) (by simp [results,Tryz.results63,go_sem,a9,a0X,b0E,a0R,st0,b0O]) rfl (HEND.out W6 W9 d9 HD1.out HD2.out HD3.out t2 t3 t4)
end
section
open Go.RowKit Go.Lib Go.Sort
theorem i1J (room:Nat) (A:Option Addr) (c:Nat) (l:List Smp) (w:World) (hv:a0Q 2 c0B w (.slice A l.length c) l) (hl:l.length≤1000000) (h1:1≤room) (h2:room≤256) (hpos:∀x∈l,0≤x.1∧0≤x.2) :
 Calls Tryz.prog 126 #[.int .i64 (room:Nat),.slice A l.length c] w (t0X w (l0A (room:Nat) l) (room:Nat)):=by
 have CN:=jH (l0G (room:Nat) w (by omega) (by omega));have HV:=jH hv;have HP:=jH hpos;have HR:=jH (And.intro h1 h2);have HL:=jH hl;clear hv hpos h1 h2;unfold t0X at CN ⊢
 go_enter Tryz.func126,Tryz.ntmps126
 go_wp2_with (first
  | (go_at_call 193
     refine CN.out.mono ?_;rintro e w1 ⟨S,fp,rfl,hs1,hf1,hb1⟩;have HS1:=jH hs1;have HF1:=jH hf1;have HB1:=jH hb1;clear hs1 hf1 hb1))
 go_loopg [7,12] l.length (fun g _ s12 wr=>∃k:Nat,k≤l.length∧l.length - k≤g∧s12=.int .i64 k∧jB w wr∧∃fp,e0S wr S (l0A (room:Nat) (l.take k)) (room:Nat) fp∧∀x∈fp,w.heap.size≤x)
 case atStart=>exact ⟨0,Nat.zero_le _,Nat.le_refl _,rfl,HB1.out,_,HS1.out,HF1.out⟩
 case round =>
  obtain ⟨k,hk,hg,rfl,hbr,fp2,hs2,hf2⟩:=hrel;have HBR:=jH hbr;have HS2:=jH hs2;have HF2:=jH hf2;clear hbr hs2 hf2
  by_cases hlt:k<l.length
  · obtain ⟨b,o,rfl,hb,hc⟩:=HV.out.at_ hlt
    have hp:=HP.out _ (List.getElem_mem hlt);have hfo:=l1B room (l.take k);have HPUT:=jH (fun W (hW:jB wr W)=>p0G S (l0A (room:Nat) (l.take k)) (room:Nat) fp2 l[k] W (HS2.out.kept (fun r hr=>hW.block r (HS2.out.lt r hr))) hfo.1 (by have:=HR.out.2;omega) (by have:=HR.out.1;omega) hp.1 hp.2);rw [←o0W (room:Nat) l k hlt] at HPUT;have c0:wr.cell? ⟨b,o+k * 2,none⟩=some (.int .i64 l[k].1):=(HBR.out.cell (p:=⟨b,_,none⟩) hb).trans (hc 0 _ rfl)
    have c1:wr.cell? ⟨b,o+k * 2+1,none⟩=some (.int .i64 l[k].2):=(HBR.out.cell (p:=⟨b,_,none⟩) hb).trans (hc 1 _ rfl);clear hc hfo hb;generalize l[k]=x at c0 c1 hp HPUT;clear hp
    go_wp2_with (first
     | (go_at_call 194
        refine a0B ?_;intro W2 hW2;have hb2:jB wr W2:=by rw [hW2];exact a0C jR _
        clear hW2;refine (HPUT.out W2 hb2).mono ?_;rintro e w3 ⟨fp3,rfl,hs3,hu3⟩;have HS3:=jH hs3;have HF3:=jH (show ∀x∈fp3,w.heap.size≤x from fun x hx=>(hu3.fresh x hx).elim (HF2.out x) (fun h=>Nat.le_trans HBR.out.size (Nat.le_trans hb2.size h)));have HB3:=jH ((a0D HBR.out hb2).trans (hu3.below (Nat.le_trans HBR.out.size hb2.size) HF2.out));clear hs3 hu3 hb2))
    go_roundg (l.length - (k+1))
    case measure=>omega
    case rel=>exact ⟨k+1,hlt,Nat.le_refl _,by go_num,HB3.out,fp3,HS3.out,HF3.out⟩
  · obtain rfl:k=l.length:=by omega
    have hs3:=HS2.out;rw [List.take_length] at hs3;have HS3:=jH hs3;clear hs3;go_wp2
    go_ret
    exact ⟨S,fp2,rfl,HS3.out,HF2.out,HBR.out⟩
end
end Go.Proofs.YtmniiodpbebnmaaGreat
