/- Part 29 of the proof: FlI. -/
import Derived.Test.YtkcdhaallnhhmaaGreatQ28
namespace Go.Proofs.YtkcdhaallnhhmaaGreat
set_option linter.unusedSimpArgs false
set_option linter.unusedVariables false
set_option linter.unusedSectionVars false
set_option maxRecDepth 100000
set_option maxHeartbeats 16000000
section
open Go.RowKit Go.Lib
open Go.ChangeMaps (setBlock)
theorem updLater {w a b:World} {fp fp':List Nat} (h:Upd w a fp fp') (hb:Below w.heap.size a b) (hs:a.heap.size≤b.heap.size):Upd w b fp fp' :=
 ⟨hb.os.trans h.os,hb.tape.trans h.tape,hb.output.trans h.output,Nat.le_trans h.size hs,fun k hk hn=>(hb.block k hk).trans (h.block k hk hn),h.fresh⟩
theorem FW.avoidX {P:Nat→Prop} {w W:World} {M:Nat} {c:Cfg} {rs rh n X:Nat} {wd:Wd} {d:FlatD} (h:FW P w M c rs rh n wd d) (hX:w.heap.size≤X) (hb:jB w W):FW (fun b=>P b∧b≠X) W M c rs rh n wd d :=
 ⟨h.at_.keep hb.size (hb.block _ h.at_.lt) (hb.block _ h.at_.map.lt) (fun b hP hlt=>⟨hb.block b hlt,hP,by omega⟩) (fun b hb=>h.at_.off b hb.1),h.ok⟩
theorem FW.fin {P:Nat→Prop} {w W8 W9:World} {M:Nat} {c:Cfg} {rs rh n X:Nat} {wd:Wd} {d:FlatD} (h:FW (fun b=>P b∧b≠X) W8 M c rs rh n wd d) (hoff:∀b,P b→b≠M∧b≠d.L) (hu:Upd w W8 [M,d.L] [M,d.L]) (hX:w.heap.size≤X) (hM:M<w.heap.size) (hL:d.L<w.heap.size)
    (h2:∀k,k≠X→W9.heap[k]?=W8.heap[k]?) (h3:W9.heap.size=W8.heap.size) (h4:∀n,n≤X→Below n W8 W9):FW P W9 M c rs rh n wd d∧Upd w W9 [M,d.L] [M,d.L] :=
  ⟨⟨h.at_.keep (Nat.le_of_eq h3.symm) (h2 _ (by omega)) (h2 _ (by omega)) (fun b hb hlt=>⟨h2 b hb.2,hb.1⟩) hoff,h.ok⟩,updLater hu (h4 _ hX) (Nat.le_of_eq h3.symm)⟩
theorem FW.many {P:Nat→Prop} {w:World} {M:Nat} {c:Cfg} {rs rh n:Nat} {wd:Wd} {d:FlatD} (h:FW P w M c rs rh n wd d) (hc:CfgOk c rs rh):d.es.length≤1000000:=by
 have h1:=allW_len h.ok (okSt_bd _ hc.st).2;rw [h.at_.tells.len hc.st];omega
theorem FW.old {P:Nat→Prop} {w:World} {M:Nat} {c:Cfg} {rs rh n:Nat} {wd:Wd} {d:FlatD} (h:FW P w M c rs rh n wd d) (s:SK):LoadIn (fun b=>P b∧b<w.heap.size) w ((findM d.es s).getD it00):=by
 cases hf:findM d.es s with
 | none=>exact ⟨RowG.nil,RowG.nil⟩
 | some x =>
   have hm:=h.at_.rows _ (find_mem hf);exact ⟨hm.1.ltG,hm.2.ltG⟩
theorem it_nd (o:Option It):(o.getD it00).nd=(o.map (·.nd)).getD nd0:=by cases o <;> rfl
theorem boxesF (w:World) (a b:Obj):∀W,W=(w.alloc a).alloc b→Hid (jB w W)∧Hid (W.heap[w.heap.size]?=some a)∧Hid (W.heap[w.heap.size+1]?=some b):=fun W hW=>by
 rw [hW];exact ⟨jH (balloc (balloc jR _) _),jH (box_old _ _ _),jH (box_new _ _ _)⟩
theorem keepHF {w W w2:World} {a b:Nat} {o1 o2:Obj} (hb:jB W w2) (h:Hid (jB w W)) (h1:Hid (W.heap[a]?=some o1)) (h2:Hid (W.heap[b]?=some o2)):Hid (jB w w2)∧Hid (w2.heap[a]?=some o1)∧Hid (w2.heap[b]?=some o2) :=
 ⟨jH (bthen h.out hb),jH (jK hb h1.out),jH (jK hb h2.out)⟩
theorem flSet_bad (kind tick val handle:Int) (s:SK) (p:Pol) (M:Nat) (w:World) (hp:polB p=false) :
 Calls Tryz.prog 84 #[.pointer (some ⟨M,0,none⟩),callV ⟨kind,s.1,tick,val,handle,p⟩] w (jP w (repV (repF 7))):=by
 have CK:=jH (fun W=>policyCheck_any p W);have he:polE p=7:=by unfold polE;rw [if_neg (by rw [hp];simp)]
 rw [he] at CK;obtain ⟨p0,p1,p2,p3,p4,p5⟩:=p;unfold polV at CK;unfold callV;dsimp only at CK ⊢;clear hp he
 go_enter Tryz.func84,Tryz.ntmps84
 go_wp2_with (first
  | (go_at_call 124
     refine calls_named ?_;intro W1 hW1;obtain ⟨HB1,HX0,HX1⟩:=boxesF w _ _ W1 hW1;clear hW1;refine (CK.out W1).mono ?_;rintro e w2 ⟨rfl,hb2⟩;obtain ⟨HB2,HX02,HX9⟩:=keepHF hb2 HB1 HX0 HX1;obtain ⟨b1,b2,b3⟩:=box_cells jR HX02.out;obtain ⟨y1,y2,y3⟩:=box_cells jR HX9.out;clear hb2))
 refine post_named ?_;intro W9 hW9;have hW9':W9=stor w2 (w.heap.size+1) 0 (repC (repF 7)):=hW9;obtain ⟨t1,t2,t3,t4⟩:=stor_at HX9.out (repC (repF 7)) rfl W9 hW9';obtain ⟨a9,a8,a7⟩:=box_cells jR t1;clear hW9 hW9';exact bodyPost_ret (v:=repV (repF 7)) (by simp [results,Tryz.results84,go_sem,a9,repV,repC,repF,st0,adv0]) rfl ⟨rfl,HB2.out.trans (t4 _ (Nat.le_succ _))⟩
theorem flSet_full {P:Nat→Prop} {w:World} {M:Nat} {c:Cfg} {rs rh n:Nat} {wd:Wd} {d:FlatD} (kind tick val handle:Int) (s:SK) (p:Pol) (h:FW P w M c rs rh n wd d) (hc:CfgOk c rs rh) (hp:polB p=true) (hf:fullF c d.es s=true) :
 Calls Tryz.prog 84 #[.pointer (some ⟨M,0,none⟩),callV ⟨kind,s.1,tick,val,handle,p⟩] w (jP w (repV (repF 6))):=by
 have CK:=jH (fun W=>policyCheck_any p W);have he:polE p=0:=by unfold polE;rw [if_pos hp]
 rw [he] at CK;have CF:=jH (fun W (hW:jB w W)=>flFull_any s (h.at_.below hW) hc.st (h.many hc));rw [hf] at CF;obtain ⟨p0,p1,p2,p3,p4,p5⟩:=p;unfold polV at CK;unfold callV;dsimp only at CK ⊢;clear hp he h hc hf
 go_enter Tryz.func84,Tryz.ntmps84
 go_wp2_with (first
  | (go_at_call 124
     refine calls_named ?_;intro W1 hW1;obtain ⟨HB1,HX0,HX1⟩:=boxesF w _ _ W1 hW1;clear hW1;refine (CK.out W1).mono ?_;rintro e w2 ⟨rfl,hb2⟩;obtain ⟨HB2,HX02,HX9⟩:=keepHF hb2 HB1 HX0 HX1;obtain ⟨b1,b2,b3⟩:=box_cells jR HX02.out;obtain ⟨y1,y2,y3⟩:=box_cells jR HX9.out;clear hb2)
  | (go_at_call 114
     refine (CF.out w2 HB2.out).mono ?_;rintro e w3 ⟨rfl,hb3⟩;obtain ⟨HB3,HX03,HX93⟩:=keepHF hb3 HB2 HX02 HX9;clear hb3 b1 b2 b3 y1 y2 y3;obtain ⟨b1,b2,b3⟩:=box_cells jR HX03.out;obtain ⟨y1,y2,y3⟩:=box_cells jR HX93.out))
 refine post_named ?_;intro W9 hW9;have hW9':W9=stor w3 (w.heap.size+1) 0 (repC (repF 6)):=hW9;obtain ⟨t1,t2,t3,t4⟩:=stor_at HX93.out (repC (repF 6)) rfl W9 hW9';obtain ⟨a9,a8,a7⟩:=box_cells jR t1;clear hW9 hW9';exact bodyPost_ret (v:=repV (repF 6)) (by simp [results,Tryz.results84,go_sem,a9,repV,repC,repF,st0,adv0]) rfl ⟨rfl,HB3.out.trans (t4 _ (Nat.le_succ _))⟩
theorem flSet_ok {P:Nat→Prop} {w:World} {M:Nat} {c:Cfg} {rs rh n:Nat} {wd:Wd} {d:FlatD} (kind tick val handle:Int) (s:SK) (p:Pol) (h:FW P w M c rs rh n wd d) (hP:∀b,w.heap.size≤b→P b) (hc:CfgOk c rs rh) (hs:idS s.1=true) (hpo:p.ok) (hp:polB p=true) (hf:fullF c d.es s=false) :
 Calls Tryz.prog 84 #[.pointer (some ⟨M,0,none⟩),callV ⟨kind,s.1,tick,val,handle,p⟩] w (FWSays P w M c rs rh (n+1) d.L (repV (repF 0)) (oneW c rs rh wd s.1 ⟨2,(0,0),p,adv0⟩).1):=by
 have CK:=jH (fun W=>policyCheck_any p W);have he:polE p=0:=by unfold polE;rw [if_pos hp]
 rw [he] at CK;have CF:=jH (fun W (hW:jB w W)=>flFull_any s (h.at_.below hW) hc.st (h.many hc));rw [hf] at CF;have hdo:∀y:Nd,do17 rs rh y ⟨2,(0,0),p,adv0⟩=({ y with pol:=p,ruled:=true,ver:=y.ver+1 },0,0):=fun y=>by
  unfold do17;rw [if_neg (show ¬(2:Int)=0 by decide),if_neg (show ¬(2:Int)=1 by decide),if_pos rfl,if_pos hp]
 have hone:=(h.at_.tells.one (rs:=rs) (rh:=rh) hc.st s hs ⟨2,(0,0),p,adv0⟩ (show (2:Int)≠3 by decide) (by rw [hdo])).2 hf;have hhere:=(h.at_.tells.here hc.st s hs).2;have hold:=h.old s;obtain ⟨xo,hxo⟩:∃x,x=(findM d.es s).getD it00:=⟨_,rfl⟩;rw [←it_nd,←hxo] at hhere;rw [←hxo] at hold;have hav:=h.avoidX (X:=w.heap.size+1) (Nat.le_succ _) jR;have hlo:c.lo≤256:=by
  have hcb:=hc.cfg;unfold cfgB at hcb;simp only [Bool.and_eq_true,decide_eq_true_eq] at hcb
  omega
 have HFIN:=jH (show ∀(W8:World) (o:Obj),jB w W8→MapIn skV ldV (setBlock W8 d.L o) d.L (putM d.es s ⟨xo.key,xo.sA,xo.sc,xo.pA,xo.pc,setF xo.nd p⟩) →
     ∃d',FW (fun b=>P b∧b≠w.heap.size+1) (setBlock W8 d.L o) M c rs rh (n+1) (oneW c rs rh wd s.1 ⟨2,(0,0),p,adv0⟩).1 d'∧d'.L=d.L∧Upd w (setBlock W8 d.L o) [M,d.L] [M,d.L] from fun W8 o hb hm=>by
   have hi:LoadIn (fun b=>P b∧b≠w.heap.size+1) W8 ⟨xo.key,xo.sA,xo.sc,xo.pA,xo.pc,setF xo.nd p⟩:=(hold.below hb).imp (fun b hb=>⟨hb.1,by omega⟩);obtain ⟨h1,h2⟩:=hav.at_.toFlMem.put hb hm hi;refine ⟨_,⟨⟨h1.wd rfl rfl rfl,hone.2 _ ?_⟩,oneW_ok h.ok hlo ⟨⟨by show I64 0;unfold I64;omega,by show I64 0;unfold I64;omega⟩,hpo⟩ hc.room.h1⟩,rfl,h2⟩;rw [hdo];exact ⟨hhere.1,hhere.2.1,rfl,rfl⟩)
 have HEND:=jH (show ∀(W8 W9:World) d',FW (fun b=>P b∧b≠w.heap.size+1) W8 M c rs rh (n+1) (oneW c rs rh wd s.1 ⟨2,(0,0),p,adv0⟩).1 d'→d'.L=d.L→Upd w W8 [M,d.L] [M,d.L]→(∀k,k≠w.heap.size+1→W9.heap[k]?=W8.heap[k]?)→W9.heap.size=W8.heap.size→(∀n,n≤w.heap.size+1→Below n W8 W9) →
     FWSays P w M c rs rh (n+1) d.L (repV (repF 0)) (oneW c rs rh wd s.1 ⟨2,(0,0),p,adv0⟩).1 (.returned (repV (repF 0))) W9 from fun W8 W9 d' h1 h2 h3 h4 h5 h6=>by
   have h9:=h1.fin (fun b hb=>by rw [h2];exact h.at_.off b hb) (by rw [h2];exact h3) (Nat.le_succ _) h.at_.lt (by rw [h2];exact h.at_.map.lt) h4 h5 h6;rw [h2] at h9;exact ⟨d',rfl,h9.1,h2,h9.2⟩)
 have hlk:=fun (W:World) (hW:jB w W)=>fl_look h.at_.map s false (hW.block d.L h.at_.map.lt)
 rw [←hxo] at hlk;unfold ldV ldC at hlk;simp only [Bool.false_eq_true,↓reduceIte] at hlk
 have HLK:=jH hlk;have HMP:=jH (show ∀W,jB w W→MapIn skV ldV W d.L d.es from fun W hW=>h.at_.map.below hW);have HC:=jH h.at_.cell;have HXL:=jH (show w.heap.size+1≠d.L from by have:=h.at_.map.lt;omega);generalize (oneW c rs rh wd s.1 ⟨2,(0,0),p,adv0⟩).1=wd9 at HFIN HEND ⊢;obtain ⟨p0,p1,p2,p3,p4,p5⟩:=p;unfold polV at CK;unfold callV;dsimp only at CK ⊢;clear hp he h hc hf hP hs hpo hdo hone hhere hold hxo hav hlo hlk
 go_enter Tryz.func84,Tryz.ntmps84
 go_upto_region 6 with (first
  | (go_at_call 124
     refine calls_named ?_;intro W1 hW1;obtain ⟨HB1,HX0,HX1⟩:=boxesF w _ _ W1 hW1;clear hW1;refine (CK.out W1).mono ?_;rintro e w2 ⟨rfl,hb2⟩;obtain ⟨HB2,HX02,HX9⟩:=keepHF hb2 HB1 HX0 HX1;obtain ⟨b1,b2,b3⟩:=box_cells jR HX02.out;obtain ⟨y1,y2,y3⟩:=box_cells jR HX9.out;clear hb2)
  | (go_at_call 114
     refine (CF.out w2 HB2.out).mono ?_;rintro e w3 ⟨rfl,hb3⟩;obtain ⟨HB3,HX03,HX93⟩:=keepHF hb3 HB2 HX02 HX9;clear hb3 b1 b2 b3 y1 y2 y3;obtain ⟨b1,b2,b3⟩:=box_cells jR HX03.out;obtain ⟨y1,y2,y3⟩:=box_cells jR HX93.out))
 clear b1 b2 b3 y1 y2 y3;have q1:=HLK.out;obtain ⟨b1,b2,b3⟩:=box_cells jR HX03.out;obtain ⟨m1,m2,m3⟩:=box_cells HB3.out HC.out;have q2:=HLK.out (w3.alloc (.cells #[.slice none 0 0,.slice none 0 0,.int .i64 0,.int .i64 0,.int .i64 0,.int .i64 0,.int .i64 0,.int .i64 0,.bool false] 50)).drew (balloc HB3.out _).drew;have q3:=HLK.out w3.drew HB3.out.drew;clear q1
 go_region
 all_goals
   refine then_named ?_;intro W4 hW4;have hb34:jB w3 W4:=by rw [hW4];exact (balloc jR _).drew
   obtain ⟨HB4,HX04,HX94⟩:=keepHF hb34 HB3 HX03 HX93;have HZ4:=jH (show W4.heap[w3.heap.size]?=some (.cells #[.slice xo.sA xo.nd.smp.length xo.sc,.slice xo.pA xo.nd.past.length xo.pc,.int .i64 xo.nd.pol.mn,.int .i64 xo.nd.pol.mx,.int .i64 xo.nd.pol.tg,.int .i64 xo.nd.pol.tol,.int .i64 xo.nd.pol.win,.int .i64 xo.nd.pol.hold,.bool xo.nd.ruled] 50 (0,0)) by rw [hW4];exact heap_alloc_new _ _);have HLT:=jH (show w.heap.size+1<w3.heap.size from (jL HX93.out))
   clear hW4 hb34 b1 b2 b3 m1 m2 m3 q2 q3;obtain ⟨b1,b2,b3⟩:=box_cells jR HX04.out;obtain ⟨z1,z2,z3⟩:=box_cells jR HZ4.out
   go_upto_region 8 with fail
   refine name_world ?_;intro W5 hW5;have hW5':W5=stor W4 w3.heap.size 2 [.int .i64 p0,.int .i64 p1,.int .i64 p2,.int .i64 p3,.int .i64 p4,.int .i64 p5,.bool true]:=hW5;obtain ⟨s1,s2,s3,s4⟩:=stor_all [.int .i64 p0,.int .i64 p1,.int .i64 p2,.int .i64 p3,.int .i64 p4,.int .i64 p5,.bool true] W4 w3.heap.size 2 _ _ HZ4.out rfl;rw [←hW5'] at s1 s2 s3 s4;have hb45:Below w3.heap.size W4 W5:=s4 _ (Nat.le_refl _)
   have HZ5:=jH (show W5.heap[w3.heap.size]?=some (.cells #[.slice xo.sA xo.nd.smp.length xo.sc,.slice xo.pA xo.nd.past.length xo.pc,.int .i64 p0,.int .i64 p1,.int .i64 p2,.int .i64 p3,.int .i64 p4,.int .i64 p5,.bool true] 50 (0,0)) from s1);have HB5:=jH (HB4.out.trans (hb45.mono (by have:=HLT.out;omega)));have HX05:=jH ((hb45.block _ (by have:=HLT.out;omega)).trans HX04.out);have HX95:=jH ((hb45.block _ HLT.out).trans HX94.out)
   clear hW5 hW5' s1 s2 s3 s4 hb45 b1 b2 b3 z1 z2 z3;obtain ⟨b1,b2,b3⟩:=box_cells jR HX05.out;obtain ⟨z1,z2,z3⟩:=box_cells jR HZ5.out;obtain ⟨m1,m2,m3⟩:=box_cells HB5.out HC.out;obtain ⟨o9,hs9,hm9⟩:=fl_store (HMP.out W5.drew HB5.out.drew) s ⟨xo.key,xo.sA,xo.sc,xo.pA,xo.pc,setF xo.nd ⟨p0,p1,p2,p3,p4,p5⟩⟩;obtain ⟨d9,hd1,hd2,hd3⟩:=HFIN.out W5.drew o9 HB5.out.drew hm9;have HD1:=jH hd1;have HD2:=jH hd2
   have HD3:=jH hd3;have hs8:(Instr.mapUpdate 94 (.map (some d.L)) (.string s.1) (.agg #[.slice xo.sA xo.nd.smp.length xo.sc,.slice xo.pA xo.nd.past.length xo.pc,.int .i64 p0,.int .i64 p1,.int .i64 p2,.int .i64 p3,.int .i64 p4,.int .i64 p5,.bool true])).run Tryz.prog W5.drew=.ok () (setBlock W5.drew d.L o9):=hs9;clear hs9 hm9 hd1 hd2 hd3
   go_region
   refine then_named ?_;intro W6 hW6;have HX96:=jH (((show W6.heap[w.heap.size+1]?=W5.heap[w.heap.size+1]? by rw [hW6];exact setBlock_other HXL.out)).trans HX95.out);rw [←hW6] at HD1 HD3;clear hW6 b1 b2 b3 z1 z2 z3 m1 m2 m3 hs8;obtain ⟨y1,y2,y3⟩:=box_cells jR HX96.out;go_wp2_with fail
   refine post_named ?_;intro W9 hW9;have hW9':W9=stor W6 (w.heap.size+1) 0 (repC (repF 0)):=hW9;obtain ⟨t1,t2,t3,t4⟩:=stor_at HX96.out (repC (repF 0)) rfl W9 hW9';obtain ⟨a9,a8,a7⟩:=box_cells jR t1;clear hW9 hW9';exact bodyPost_ret (v:=repV (repF 0)) (by simp [results,Tryz.results84,go_sem,a9,repV,repC,repF,st0,adv0]) rfl (HEND.out W6 W9 d9 HD1.out HD2.out HD3.out t2 t3 t4)
end
end Go.Proofs.YtkcdhaallnhhmaaGreat
