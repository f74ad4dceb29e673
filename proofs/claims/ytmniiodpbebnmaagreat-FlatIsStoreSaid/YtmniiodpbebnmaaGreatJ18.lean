/- Part 18 of the proof. -/
import Derived.Test.YtmniiodpbebnmaaGreatJ17
namespace Go.Proofs.YtmniiodpbebnmaaGreat
set_option linter.unusedSimpArgs false
set_option linter.unusedVariables false
set_option linter.unusedSectionVars false
set_option maxRecDepth 100000
set_option maxHeartbeats 16000000
section
open Go.RowKit Go.Lib Go.Sort
open Go.ChangeMaps (setBlock)
theorem j0V (w:World) (o1 o2:Obj):∀W,W=(w.alloc o1).alloc o2→W.heap[w.heap.size]?=some o1∧W.heap[w.heap.size+1]?=some o2∧jB w W:=by
 rintro W rfl;refine ⟨(Below.heap_alloc _ _ _ (by simp)).trans (heap_alloc_new _ _),?_,a0C (a0C jR _) _⟩;have:=heap_alloc_new (w.alloc o1) o2;rw [World.size_alloc] at this;exact this
theorem p1D (T M:Nat) (c:Cfg) (ver:Nat) (es:List (KO × NE)) (rs rh:Nat) (k:KO) (p:Pol) (w:World) (h:SAt w T M c ver es rs rh) (hp:g0Z p=true) (hl:¬(d0B es k=false∧c.lo≤(es.length:Nat))) (hc:h0A c=true) (hrs:c.sa=(rs:Nat)) (hrh:c.hi=(rh:Nat)) (hok:c.ok)
    (hv:ver≤1000000) (hvn:∀p∈ab es,p.2.ver≤1000000) :
    Calls Tryz.prog 86 #[.pointer (some ⟨T,0,none⟩),.agg #[.int .u64 k.1.1,.int .u64 k.1.2],d0E p] w (f0S w T M c es rs rh (.int .i64 0) (ver+1) (d0F (ab es) k { g0N (l0R (ab es) k) with pol:=p,ruled:=true })):=by
  have hNN:∀W,Calls Tryz.prog 156 #[.agg #[.int .i64 1,.int .i64 1,.int .i64 1,.int .i64 1]] W (n0Z W nd0 1 1):=fun W=>g0S cfg1 1 1 W (by decide) rfl rfl (by simp [Cfg.ok,cfg1,I64])
  have HNN:=jH hNN;have hb0:1≤rs∧rs≤256∧rh≤64:=by
   unfold h0A at hc;simp only [Bool.and_eq_true,decide_eq_true_eq] at hc
   omega
  have hvx:(l0R (ab es) k).ver≤1000000:=by
   unfold l0R
   cases hf:a0L (ab es) k with
   | none=>simp [nd0]
   | some x=>exact hvn _ (b0B hf)
  have HS1:=jH (fun (N:Nat) (fp:List Nat) (W:World) (h:b0G W N nd0 1 1 fp)=>j0E N nd0 1 1 fp p W h (by omega) (by omega) (by simp [nd0]) hp);have HS2:=jH (fun (N:Nat) (x:Nd) (fp:List Nat) (W:World) (h:b0G W N x rs rh fp) (hxv:x.ver≤1000000)=>j0E N x rs rh fp p W h hb0.2.1 hb0.2.2 hxv hp);have H:=jH h;have HRoom:=jH (fun (W:World) (hb:jB w W)=>y0S T M c ver es rs rh k w W h hb hl hc hrs hrh hok)
  have HVX:=jH hvx;have HV:=jH hv;unfold d0E;unfold d0E at HS1 HS2;clear h hl hc hrs hrh hok hvn hvx hv hNN hp
  go_enter Tryz.func86,Tryz.ntmps86
  go_upto_region 1 with fail
  refine a0J ?_;intro W1 hW1;obtain ⟨k0,k1,hb1⟩:=j0V w _ _ W1 hW1;clear hW1;obtain ⟨a1,a2,a3⟩:=a0A jR k1;have HX0:=jH k0;have HX1:=jH k1;have HB1:=jH hb1;clear k0 k1 hb1
  go_cut [7,8] (fun s7 s8 wx=>∃N,s7=.pointer (some ⟨N,0,none⟩)∧s8=.int .i64 0∧jB W1 wx)
  case first =>
   go_region_with (first
    | (go_at_call 156
       refine a0B ?_;intro W2 hW2;have hb2:jB W1 W2:=by rw [hW2];repeat (first|exact jR|refine a0C ?_ _|refine Below.drew ?_)
       clear hW2;refine (HNN.out W2).mono ?_;rintro e w3 ⟨N,fp,rfl,h1,h2,h3⟩;have hb3:=a0D hb2 h3;obtain ⟨b1,b2,b3⟩:=a0A hb3 HX1.out;have h2':∀k∈fp,W1.heap.size≤k:=fun k hk=>by have:=h2 k hk;have:=hb2.size;omega
       have HN:=jH h1;have HF:=jH h2';have HB3:=jH hb3;clear h1 h2 h3 h2' hb2 hb3)
    | (go_at_call 157
       refine a0B ?_;intro W4 hW4;have hb4:jB w3 W4:=by rw [hW4];repeat (first|exact jR|refine a0C ?_ _|refine Below.drew ?_)
       clear hW4;refine (HS1.out N fp W4 (HN.out.below hb4)).mono ?_;rintro e w5 ⟨N5,fp5,rfl,_,hu5⟩;have HB5:=jH ((a0D HB3.out hb4).trans (hu5.below (B:=W1.heap.size) (a0D HB3.out hb4).size (fun k hk=>HF.out k hk)));clear hu5 hb4))
   all_goals
     go_wp2_with fail
     go_meet
     exact ⟨N5,rfl,rfl,HB5.out⟩
  case rest =>
   obtain ⟨N0,rfl,rfl,hbc⟩:=hcut;have HBC:=jH (a0D HB1.out hbc);have HC0:=jH (jK hbc HX0.out);have HC1:=jH (jK hbc HX1.out);clear hbc a1 a2 a3
   go_wp2_with (first
    | (go_at_call 149
       refine (g0H T c ver es rs rh _ wc ((H.out.below HBC.out).in_)).mono ?_;rintro e w2 ⟨rfl,hb2⟩;obtain ⟨a1,a2,a3,a4⟩:=j0T hb2 HC0.out;have HY0:=jH a4;have HY1:=jH (jK hb2 HC1.out);have HB2:=jH (a0D HBC.out hb2);clear hb2 a4)
    | (go_at_call 150
       refine (HRoom.out w2 HB2.out).mono ?_;rintro e w3 ⟨N,x,fq,rfl,hg,hfq,hb3⟩;obtain ⟨b1,b2,b3,b4⟩:=j0T hb3 HY0.out;obtain ⟨d1,d2,d3,d4⟩:=j0T hb3 HY1.out;have hnb:w.heap.size∉fq:=fun hr=>by have:=(jL HY0.out);rcases hfq _ hr with h'|h' <;> omega
       have HX3:=jH (And.intro b4 hnb);have HG:=jH hg;clear hg hb3 b4 d4 hfq hnb)
    | (go_at_call 157
       refine (HS2.out N x fq w3 HG.out.1 (by rw [HG.out.2.1];exact HVX.out)).mono ?_;rintro e w4 ⟨N4,fr,rfl,hn4,hu4⟩;have hhole:=HG.out.2.2 w4 fr hu4;have hbox:w4.heap[w.heap.size]?=_:=j0I hu4 HX3.out.1 (fun hr=>HX3.out.2 (e0L _ _ _ hr));obtain ⟨c1,c2,c3⟩:=a0A jR hbox;have HN4:=jH hn4;have HH:=jH hhole;clear hn4 hu4 hhole hbox)
    | (go_at_call 152
       obtain ⟨hH,mf,hU,hmf⟩:=HH.out;refine (m0D T M c ver es rs rh k N4 _ fr w4 hH HN4.out HV.out).mono ?_;rintro e w5 ⟨rfl,h5,hu5⟩;have HF:=jH (k0L (v:=.int .i64 0) hU hmf h5 hu5);clear h5 hu5))
   go_ret
   have hf:=HF.out;rw [HG.out.2.1] at hf;exact hf
theorem g1B (T M:Nat) (c:Cfg) (ver:Nat) (es:List (KO × NE)) (rs rh:Nat) (k:KO) (p:Pol) (w:World) (h:SAt w T M c ver es rs rh) (hp:g0Z p=true) (hf:a0L es k=none) (hl:c.lo≤(es.length:Nat)) :
 Calls Tryz.prog 86 #[.pointer (some ⟨T,0,none⟩),.agg #[.int .u64 k.1.1,.int .u64 k.1.2],d0E p] w (f0S w T M c es rs rh (.int .i64 6) ver (ab es)):=by
 have hNN:∀W,Calls Tryz.prog 156 #[.agg #[.int .i64 1,.int .i64 1,.int .i64 1,.int .i64 1]] W (n0Z W nd0 1 1):=fun W=>g0S cfg1 1 1 W (by decide) rfl rfl (by simp [Cfg.ok,cfg1,I64])
 have HNN:=jH hNN;have HS1:=jH (fun (N:Nat) (fp:List Nat) (W:World) (h:b0G W N nd0 1 1 fp)=>j0E N nd0 1 1 fp p W h (by omega) (by omega) (by simp [nd0]) hp);have H:=jH h;have HE:=jH (fun w'=>f0S.of_below (w':=w') (.int .i64 6) h);have HRoom:=jH (fun (W:World) (hb:jB w W)=>s0A T M c ver es rs rh k W (h.below hb) hf hl);unfold d0E;unfold d0E at HS1;clear h hl hNN hp hf
 go_enter Tryz.func86,Tryz.ntmps86
 go_upto_region 1 with fail
 refine a0J ?_;intro W1 hW1;obtain ⟨k0,k1,hb1⟩:=j0V w _ _ W1 hW1;clear hW1;obtain ⟨a1,a2,a3⟩:=a0A jR k1;have HX0:=jH k0;have HX1:=jH k1;have HB1:=jH hb1;clear k0 k1 hb1
 go_cut [7,8] (fun s7 s8 wx=>∃N,s7=.pointer (some ⟨N,0,none⟩)∧s8=.int .i64 0∧jB W1 wx)
 case first =>
  go_region_with (first
   | (go_at_call 156
      refine a0B ?_;intro W2 hW2;have hb2:jB W1 W2:=by rw [hW2];repeat (first|exact jR|refine a0C ?_ _|refine Below.drew ?_)
      clear hW2;refine (HNN.out W2).mono ?_;rintro e w3 ⟨N,fp,rfl,h1,h2,h3⟩;have hb3:=a0D hb2 h3;obtain ⟨b1,b2,b3⟩:=a0A hb3 HX1.out;have h2':∀k∈fp,W1.heap.size≤k:=fun k hk=>by have:=h2 k hk;have:=hb2.size;omega
      have HN:=jH h1;have HF:=jH h2';have HB3:=jH hb3;clear h1 h2 h3 h2' hb2 hb3)
   | (go_at_call 157
      refine a0B ?_;intro W4 hW4;have hb4:jB w3 W4:=by rw [hW4];repeat (first|exact jR|refine a0C ?_ _|refine Below.drew ?_)
      clear hW4;refine (HS1.out N fp W4 (HN.out.below hb4)).mono ?_;rintro e w5 ⟨N5,fp5,rfl,_,hu5⟩;have HB5:=jH ((a0D HB3.out hb4).trans (hu5.below (B:=W1.heap.size) (a0D HB3.out hb4).size (fun k hk=>HF.out k hk)));clear hu5 hb4))
  all_goals
    go_wp2_with fail
    go_meet
    exact ⟨N5,rfl,rfl,HB5.out⟩
 case rest =>
  obtain ⟨N0,rfl,rfl,hbc⟩:=hcut;have HBC:=jH (a0D HB1.out hbc);have HC0:=jH (jK hbc HX0.out);have HC1:=jH (jK hbc HX1.out);clear hbc a1 a2 a3
  go_wp2_with (first
   | (go_at_call 149
      refine (g0H T c ver es rs rh _ wc ((H.out.below HBC.out).in_)).mono ?_;rintro e w2 ⟨rfl,hb2⟩;obtain ⟨a1,a2,a3,a4⟩:=j0T hb2 HC0.out;have HB2:=jH (a0D HBC.out hb2);clear hb2 a4)
   | (go_at_call 150
      refine (HRoom.out w2 HB2.out).mono ?_;rintro e w3 ⟨rfl,hb3⟩;have HB3:=jH (a0D HB2.out hb3);clear hb3))
  go_ret
  exact HE.out _ HB3.out
theorem k1R (T M:Nat) (c:Cfg) (ver:Nat) (es:List (KO × NE)) (rs rh:Nat) (k:KO) (p:Pol) (w:World) (h:SAt w T M c ver es rs rh) (hp:g0Z p=false) :
 Calls Tryz.prog 86 #[.pointer (some ⟨T,0,none⟩),.agg #[.int .u64 k.1.1,.int .u64 k.1.2],d0E p] w (f0S w T M c es rs rh (.int .i64 7) ver (ab es)):=by
 have hNN:∀W,Calls Tryz.prog 156 #[.agg #[.int .i64 1,.int .i64 1,.int .i64 1,.int .i64 1]] W (n0Z W nd0 1 1):=fun W=>g0S cfg1 1 1 W (by decide) rfl rfl (by simp [Cfg.ok,cfg1,I64])
 have HNN:=jH hNN;have HS1:=jH (fun (N:Nat) (W:World)=>w0O N p W hp);have HE:=jH (fun w'=>f0S.of_below (w':=w') (.int .i64 7) h);unfold d0E;unfold d0E at HS1;clear h hNN hp
 go_enter Tryz.func86,Tryz.ntmps86
 go_upto_region 1 with fail
 refine a0J ?_;intro W1 hW1;obtain ⟨k0,k1,hb1⟩:=j0V w _ _ W1 hW1;clear hW1;obtain ⟨a1,a2,a3⟩:=a0A jR k1;have HX0:=jH k0;have HX1:=jH k1;have HB1:=jH hb1;clear k0 k1 hb1
 go_cut [7,8] (fun s7 s8 wx=>∃N,s7=.pointer (some ⟨N,0,none⟩)∧s8=.int .i64 7∧jB W1 wx)
 case first =>
  go_region_with (first
   | (go_at_call 156
      refine a0B ?_;intro W2 hW2;have hb2:jB W1 W2:=by rw [hW2];repeat (first|exact jR|refine a0C ?_ _|refine Below.drew ?_)
      clear hW2;refine (HNN.out W2).mono ?_;rintro e w3 ⟨N,fp,rfl,h1,h2,h3⟩;have hb3:=a0D hb2 h3;obtain ⟨b1,b2,b3⟩:=a0A hb3 HX1.out;have h2':∀k∈fp,W1.heap.size≤k:=fun k hk=>by have:=h2 k hk;have:=hb2.size;omega
      have HN:=jH h1;have HF:=jH h2';have HB3:=jH hb3;clear h1 h2 h3 h2' hb2 hb3)
   | (go_at_call 157
      refine a0B ?_;intro W4 hW4;have hb4:jB w3 W4:=by rw [hW4];repeat (first|exact jR|refine a0C ?_ _|refine Below.drew ?_)
      clear hW4;refine (HS1.out N W4).mono ?_;rintro e w5 ⟨rfl,hu5⟩;have HB5:=jH (a0D (a0D HB3.out hb4) hu5);clear hu5 hb4))
  all_goals
    go_wp2_with fail
    go_meet
    exact ⟨N,rfl,rfl,HB5.out⟩
 case rest =>
  obtain ⟨N0,rfl,rfl,hbc⟩:=hcut;have HBC:=jH (a0D HB1.out hbc);have HC0:=jH (jK hbc HX0.out);have HC1:=jH (jK hbc HX1.out);clear hbc a1 a2 a3;go_wp2
  go_ret
  exact HE.out _ HBC.out
theorem z0U (T M:Nat) (c:Cfg) (ver:Nat) (es:List (KO × NE)) (rs rh:Nat) (k:KO) (a:Adv) (w:World) (h:SAt w T M c ver es rs rh) (hb:a0L es k=none) :
 Calls Tryz.prog 109 #[.pointer (some ⟨T,0,none⟩),.agg #[.int .u64 k.1.1,.int .u64 k.1.2],.agg (c0U a).toArray] w (f0S w T M c es rs rh (.int .i64 5) ver (ab es)):=by
 rw [show (c0U a).toArray=#[.int .i64 a.tick,.int .i64 a.load,.int .i64 a.want,.int .i64 a.repl,.int .i64 a.why] from rfl];have hg:=fun (W:World) (hbw:jB w W)=>h0W T M c ver es rs rh k W (h.below hbw)
 rw [hb] at hg;have HG:=jH hg;have HE:=jH (fun w'=>f0S.of_below (w':=w') (.int .i64 5) h);clear h hb hg
 go_enter Tryz.func109,Tryz.ntmps109
 go_wp2_with (first
  | (go_at_call 105
     refine a0B ?_;intro W1 hW1;obtain ⟨k0,k1,hb1⟩:=j0V w _ _ W1 hW1;clear hW1;refine (HG.out W1 hb1).mono ?_;rintro e w2 ⟨rfl,hb2⟩;have HB2:=jH (a0D hb1 hb2);unfold nptr;simp only [Option.map_none]
     clear k0 k1 hb1 hb2))
 go_ret
 exact HE.out _ HB2.out
theorem l1H (T M:Nat) (c:Cfg) (ver:Nat) (es:List (KO × NE)) (rs rh:Nat) (k:KO) (a:Adv) (w:World) (h:SAt w T M c ver es rs rh) (b:NE) (hb:a0L es k=some b) (hrs:rs≤256) (hrh:rh≤64) (hv:ver≤1000000) (hvn:b.2.1.ver≤1000000) :
 Calls Tryz.prog 109 #[.pointer (some ⟨T,0,none⟩),.agg #[.int .u64 k.1.1,.int .u64 k.1.2],.agg (c0U a).toArray] w (f0S w T M c es rs rh (.int .i64 0) (ver+1) (d0F (ab es) k { g0N b.2.1 with past:=g0B b.2.1.past rh a })):=by
 have hnn:=fun (W:World) (hw:jB w W)=>t0V b.1 b.2.1 rs rh b.2.2 a W ((h.node _ (b0B hb)).below hw) hrs hrh hvn
 rw [show (c0U a).toArray=#[.int .i64 a.tick,.int .i64 a.load,.int .i64 a.want,.int .i64 a.repl,.int .i64 a.why] from rfl] at hnn ⊢;have hg:=fun (W:World) (hbw:jB w W)=>h0W T M c ver es rs rh k W (h.below hbw)
 rw [hb] at hg;have HG:=jH hg;have HNN:=jH hnn;have H:=jH h;have HFB:=jH hb;have HV:=jH hv;clear h hb hg hnn hv hvn
 go_enter Tryz.func109,Tryz.ntmps109
 go_wp2_with (first
  | (go_at_call 105
     refine a0B ?_;intro W1 hW1;obtain ⟨k0,k1,hb1⟩:=j0V w _ _ W1 hW1;clear hW1;refine (HG.out W1 hb1).mono ?_;rintro e w2 ⟨rfl,hb2⟩;obtain ⟨a1,a2,a3,a4⟩:=j0T hb2 k0;obtain ⟨d1,d2,d3,d4⟩:=j0T hb2 k1;have HK0:=jH a4;have HB2:=jH (a0D hb1 hb2);unfold nptr;simp only [Option.map_some]
     clear k0 k1 hb1 hb2 a4 d4))
 go_cut [] (fun wx=>f0S w T M c es rs rh (.int .i64 0) (ver+1) (d0F (ab es) k { g0N b.2.1 with past:=g0B b.2.1.past rh a }) (.returned (.int .i64 0)) wx)
 case first =>
  go_region_with (first
   | (go_at_call 176
      refine a0B ?_;intro W3 hW3;have hb3:jB w2 W3:=by rw [hW3];repeat (first|exact jR|refine a0C ?_ _|refine Below.drew ?_)
      clear hW3;have hbw:=a0D HB2.out hb3;refine (HNN.out W3 hbw).mono ?_;rintro e w4 ⟨N4,fr,rfl,hn4,hu4⟩;have hm:=b0B HFB.out;have hbx:=jK hb3 HK0.out;have hb4:=j0I hu4 hbx (fun hr=>by have:=(H.out.node _ hm).lt _ (e0L _ _ _ hr);omega);obtain ⟨q1,q2,q3⟩:=a0A jR hb4;have hole:=(H.out.below hbw).hole hm hu4;have hU:Upd w w4 (mfp b.2.1 b.2.2) fr:=(Upd.of_below hbw _).trans hu4;have HN4:=jH hn4
      have HH:=jH hole;have HU:=jH hU;clear hb3 hbw hn4 hu4 hm hbx hb4 hole hU)
   | (go_at_call 152
      refine (m0D T M c ver es rs rh k N4 _ fr w4 HH.out HN4.out HV.out).mono ?_;rintro e w5 ⟨rfl,h5,hu5⟩;have HF:=jH (k0L (v:=.int .i64 0) HU.out (fun r hr=>d0S.2 ⟨_,b0B HFB.out,hr⟩) h5 hu5);clear h5 hu5))
  all_goals
    go_wp2_with fail
    go_meet
    exact HF.out
 case rest =>
  have HC:=jH hcut;clear hcut;go_wp2
  go_ret
  exact HC.out
end
section
open Go.RowKit Go.Lib
abbrev En:=Ky × Nat
def enC (x:En):List Value:=[.int .u64 x.1.1,.int .u64 x.1.2,.pointer (some ⟨x.2,0,none⟩)]
theorem eEn:g0Y 164 246 3 24 (.agg #[.int .u64 0,.int .u64 0,.pointer none]) enC :=
 ⟨by kernel_rfl,by kernel_rfl,rfl,by decide,by decide,fun _=>rfl,fun x u hu=>by
  simp only [enC,List.mem_cons,List.not_mem_nil,or_false] at hu
  rcases hu with rfl|rfl|rfl <;> rfl⟩
end
section
open Go.RowKit Go.Lib Go.Sort
open Go.ChangeMaps (setBlock)
def i0H (es:List (KO × NE)) (q:Ky):Nat:=((es.find? (fun p=>p.1.1=q)).map (fun p=>p.2.1)).getD 0
theorem m1R {es:List (KO × NE)} {k:KO} {b:NE} (h:a0L es k=some b):i0H es k.1=b.1:=by
 unfold i0H;have e:(fun p:KO × NE=>decide (p.1.1=k.1))=(fun p:KO × NE=>decide (p.1=k)):=by
  funext p
  rw [decide_eq_decide];exact ⟨fun h=>Subtype.ext h,fun h=>by rw [h]⟩
 rw [e];unfold a0L at h;obtain ⟨q,hq,rfl⟩:=Option.map_eq_some_iff.1 h;rw [hq];rfl
def g1M (w:World) (T M:Nat) (c:Cfg) (ver:Nat) (es:List (KO × NE)) (rs rh:Nat) (e:Ending) (w':World):Prop :=
 ∃ A cc,e=.returned (.slice A (risL (kyN es)).length cc)∧b0Q enC 246 3 w.heap.size w' (.slice A (risL (kyN es)).length cc) ((risL (kyN es)).map fun q=>(q,i0H es q)) ∧
   SAt w' T M c ver (f0P es (risL (kyN es))) rs rh∧Upd w w' (sfp T M es) (sfp T M (f0P es (risL (kyN es))))
def j1T (w:World) (T M:Nat) (c:Cfg) (ver:Nat) (es:List (KO × NE)) (rs rh:Nat) (K:List Ky) (e:Ending) (w':World):Prop :=
 ∃ A cc,e=.returned (.slice A K.length cc)∧b0Q enC 246 3 w.heap.size w' (.slice A K.length cc) (K.map fun q=>(q,i0H es q)) ∧
   SAt w' T M c ver (f0P es K) rs rh∧Upd w w' (sfp T M es) (sfp T M (f0P es K))
theorem SAt.keptB {w w':World} {T M:Nat} {c:Cfg} {ver:Nat} {es:List (KO × NE)} {rs rh:Nat} (h:SAt w T M c ver es rs rh) {n:Nat} (hT:T<n) (hM:M<n) (hn:∀p∈es,∀r∈p.2.2.2,r<n) (hb:Below n w w'):SAt w' T M c ver es rs rh :=
 ⟨(hb.block T hT).trans h.cell,h.map.block (hb.block M hM),fun p hp=>(h.node p hp).kept (fun r hr=>hb.block r (hn p hp r hr)),h.pair,h.off,h.ne⟩
theorem Upd.thenB {w a b:World} {fp fq:List Nat} (h:Upd w a fp fq) (hb:Below w.heap.size a b):Upd w b fp fq :=
 ⟨hb.os.trans h.os,hb.tape.trans h.tape,hb.output.trans h.output,Nat.le_trans h.size hb.size,fun k hk hn=>(hb.block k hk).trans (h.block k hk hn),h.fresh⟩
theorem i1B {w:World} {T M:Nat} {c:Cfg} {ver:Nat} {es:List (KO × NE)} {rs rh:Nat} (h:SAt w T M c ver es rs rh) (ks:List Ky):∀p∈f0P es ks,∀r∈p.2.2.2,r<w.heap.size:=by
 intro p hp r hr;obtain ⟨q,hq,rfl⟩:=m0B hp;exact (h.node q hq).lt r hr
theorem u0R (T M:Nat) (c:Cfg) (ver:Nat) (es:List (KO × NE)) (rs rh:Nat) (w:World) (h:SAt w T M c ver es rs rh) (hl:es.length≤1000) :
 Calls Tryz.prog 97 #[.pointer (some ⟨T,0,none⟩)] w (g1M w T M c ver es rs rh):=by
 have hnd:(kyN es).Nodup:=m0Y h.map;have hnod:(es.map (·.1)).Nodup:=h.nodup;obtain ⟨K,hK⟩:∃K,K=risL (kyN es):=⟨_,rfl⟩;have hKl:K.length≤1000:=by rw [hK,e0G hnd];simp [kyN];exact hl
 have hk0:=r0O T c ver es rs rh _ w h.in_ (by omega);unfold g1M;rw [←hK] at hk0 ⊢;have HK:=jH hk0;have H:=jH h;have HKK:=jH hK;have HND:=jH hnd;clear h hnd hnod hk0 hK
 go_enter Tryz.func97,Tryz.ntmps97
 go_wp2_with (first
  | (go_at_call 153
     refine HK.out.mono ?_;rintro e w2 ⟨v,rfl,hrow,hb2⟩;obtain ⟨A,cc,rfl⟩:=i0A hrow;have hri:a0Q 2 l0I w2 (.slice A K.length cc) K:=a0Q.own (n:=2) (f:=l0I) (fun _=>rfl) hrow;have hblk:∀b o m c',(Value.slice A K.length cc)=.slice (some ⟨b,o,none⟩) m c'→0<K.length→w.heap.size≤b∧b<w2.heap.size:=fun b o m c' e hn=>by
      rcases hrow.2 with ⟨hv',h0⟩|⟨g,cap,cur,hv',_⟩
      · omega
      · have hlt:=hrow.lt g (by rw [hv'];rfl)
        rw [e] at hv';injection hv' with e1 _ _
        injection e1 with e1
        injection e1 with e1
        rw [e1];exact hlt
     have HRI:=jH hri;have HBL:=jH hblk;have HB2:=jH hb2;clear hrow hri hblk hb2))
 go_loopg [3,9] K.length (fun g s3 s9 wr=>∃k,k≤K.length∧K.length - k≤g∧s9=.int .i64 (k:Nat)∧b0Q enC 246 3 w2.heap.size wr s3 ((K.take k).map fun q=>(q,i0H es q))∧SAt wr T M c ver (f0P es (K.take k)) rs rh∧Upd w wr (sfp T M es) (sfp T M (f0P es (K.take k)))∧a0Q 2 l0I wr (.slice A K.length cc) K∧w2.heap.size≤wr.heap.size)
 case atStart =>
  refine ⟨0,Nat.zero_le _,Nat.le_refl _,rfl,b0Q.nil _ _,?_,?_,HRI.out,Nat.le_refl _⟩
  · rw [List.take_zero,x0N];exact H.out.below HB2.out
  · rw [List.take_zero,x0N];exact Upd.of_below HB2.out _
 case round =>
  obtain ⟨k,hk,hg,rfl,hown,hS,hU,hrow,hsz⟩:=hrel
  by_cases hlt:k<K.length
  · have hm:K[k]∈kyN es:=by have:=HKK.out;subst this;exact s0W _ _ (List.getElem_mem hlt)
    obtain ⟨pp,hp,he⟩:=List.mem_map.1 hm;obtain ⟨ko,b⟩:=pp;have hn:K.Nodup:=by have:=HKK.out;subst this;exact o0U HND.out
    have hnk:K[k]∉K.take k:=fun hmem=>by
     obtain ⟨i,hi⟩:=List.getElem?_of_mem hmem;have hil:i<k:=by
      have:=(List.getElem?_eq_some_iff.1 hi).1;simp at this;omega
     rw [List.getElem?_take_of_lt hil] at hi;have:=d0O hn hi (List.getElem?_eq_getElem hlt);omega
    have hfb:=f0H H.out.nodup hp;have hff:a0L (f0P es (K.take k)) ko=some b:=by
     rw [i1N,hfb];have:ko.1∉K.take k:=by show ko.1∉_;rw [show ko.1=K[k] from he];exact hnk
     simp [this]
    have HTK:=jH (show K.take (k+1)=K.take k++[ko.1] by rw [List.take_succ_eq_append_getElem hlt,←he]);have HBK:=jH (m1R hfb);obtain ⟨bb,o,rfl,hbw,hc⟩:=hrow.at_ hlt;have c1:wr.cell? ⟨bb,o+k * 2,none⟩=some (.int .u64 K[k].1):=hc 0 _ rfl;have c2:wr.cell? ⟨bb,o+k * 2+1,none⟩=some (.int .u64 K[k].2):=hc 1 _ rfl;rw [←show ko.1=K[k] from he] at c1 c2;obtain ⟨A3,c3,rfl⟩:=hown.form;have hol:((K.take k).map fun q=>(q,i0H es q)).length=k:=by simp;omega
    have HOL:=jH hol;have HOW:=jH hown;have HN:=jH (hS.node _ (b0B hff));have HSS:=jH hS;have HUU:=jH hU;have HRW:=jH hrow;have HFF:=jH hff;have HSZ:=jH hsz;clear hm hp he hn hnk hfb hff hol hown hS hU hrow hc hsz;generalize hout:((K.take k).map fun q=>(q,i0H es q))=out at *;have HOUT:=jH hout;clear hout;go_wp2_with fail
    refine a0J ?_;intro W1 hW1;have hb1:jB wr W1:=by rw [hW1];exact a0C jR _
    have hx1:W1.heap[wr.heap.size]?=some (.cells #[.int .u64 ko.1.1,.int .u64 ko.1.2] 74 (0,0)):=by rw [hW1];exact heap_alloc_new _ _
    clear hW1 c1 c2;have a1:W1.cell? ⟨wr.heap.size,0,none⟩=some (.int .u64 ko.1.1):=by simp [World.cell?,hx1]
    have a2:W1.cell? ⟨wr.heap.size,1,none⟩=some (.int .u64 ko.1.2):=by simp [World.cell?,hx1]
    have h1:=HSS.out.below hb1;have hltT:=h1.ltT;have z0:W1.cell? ⟨T,0,none⟩=some (.map (some M)):=by simp only [World.cell?,h1.cell];rfl
    have r4:(Instr.lookup 230 (.map (some M)) (.agg #[.int .u64 ko.1.1,.int .u64 ko.1.2]) false).run Tryz.prog W1.drew=.ok (.pointer (some ⟨b.1,0,none⟩)) W1.drew:=by
     have:=k0Z (h1.map.below ((Below.refl _ W1).drew)) ko false;rw [HFF.out] at this;exact this
    have HX1:=jH hx1;have HB1:=jH hb1;clear hx1 hb1 h1
    go_region_law (first
     | (refine d0W eEn (by rfl) (.tmp 13) (.tmp 23) (by rfl) w2.heap.size out [(ko.1,b.1)] (.slice A3 out.length c3) _ (by rfl) (by rfl) (HO4.out.below (by repeat (first|exact jR|refine a0C ?_ _|refine Below.drew ?_|refine a0G ?_ _))) (a0Q.lit (n:=3) (f:=enC) _ (ko.1,b.1) _ _ _ (by first|rfl|simp) rfl) (by have:=HOL.out;simp;omega) (by have:=HZ4.out;simp;omega) ?_
        intro out6 A6 c6 w6 hout6 hown6 hg6 hblk6;have hb6:Below w2.heap.size w4 w6:=((by repeat (first|exact jR|refine a0C ?_ _|refine Below.drew ?_|refine a0G ?_ _):jB w4 _).mono HZ4.out).trans (f0J hg6 HO4.out (by have:=HZ4.out;simp;omega));have HB6:=jH hb6;have HO6:=jH hown6;have HE6:=jH hout6;clear hout6 hown6 hg6 hblk6 hb6)
     | (go_simp
        go_at_call 165
        refine a0B ?_;intro W2 hW2;have hb2:jB W1 W2:=by rw [hW2];repeat (first|exact jR|refine a0C ?_ _|refine Below.drew ?_)
        clear hW2;have hbw2:=a0D HB1.out hb2;refine (o0O b.1 b.2.1 rs rh b.2.2 W2 (HN.out.below hbw2)).mono ?_;rintro e w4 ⟨rfl,hn4,hu4⟩;have hsz:=HSZ.out;have hfl:∀r∈mfp b.2.1 b.2.2,r<w.heap.size:=fun r hr=>i1B H.out _ _ (b0B HFF.out) r (e0L _ _ r hr)
        have hx4:=j0I hu4 (jK hb2 HX1.out) (fun hr=>by have:=hfl _ hr;have:=HB2.out.size;omega);obtain ⟨q1,q2,q3⟩:=a0A jR hx4;have hu0:Upd wr w4 (mfp b.2.1 b.2.2) []:=(Upd.of_below hbw2 _).trans hu4;have hfz:=HSS.out.freeze HFF.out hn4 hu0;have HO4:=jH (HOW.out.kept (fun r hr=>hu0.block r (HOW.out.lt hr).2 (fun hk=>by have:=hfl r hk;have:=(HOW.out.lt hr).1;have:=HB2.out.size;omega)));have HR4:=jH (HRW.out.keepB hu0.size (fun b' o' m' c' e hn=>hu0.block b' (by injection e with e1 _ _;injection e1 with e1;injection e1 with e1;omega) (fun hk=>by
         have h1:=hfl b' hk;have h2:=(HBL.out b' o' m' c' e hn).1;omega)))
        have HZ4:=jH (show w2.heap.size≤w4.heap.size from Nat.le_trans hsz hu0.size);have HS4:=jH hfz.1;have HU4:=jH (HUU.out.trans hfz.2);clear hb2 hbw2 hn4 hu4 hx4 hu0 hfz hfl hsz))
    all_goals
      have hw:=HB2.out.size;have H3:Hid (b0Q enC 246 3 w2.heap.size w6 (.slice A6 out6.length c6) (out++[(ko.1,b.1)])):=jH (by rw [←HE6.out];exact HO6.out);have H4:=jH (HS4.out.keptB (n:=w2.heap.size) (Nat.lt_of_lt_of_le H.out.ltT hw) (Nat.lt_of_lt_of_le H.out.map.lt hw) (fun p hp r hr=>Nat.lt_of_lt_of_le (i1B H.out _ p hp r hr) hw) HB6.out);have H5:=jH (HU4.out.thenB (HB6.out.mono hw));have H6:=jH (HR4.out.keepB HB6.out.size (fun b' o' m' c' e hn=>HB6.out.block b' (HBL.out b' o' m' c' e hn).2))
      have H7:=jH (Nat.le_trans HZ4.out HB6.out.size);clear hw;go_wp2
      go_roundg (K.length - (k+1))
      case measure=>omega
      case rel =>
       refine ⟨k+1,hlt,Nat.le_refl _,by go_num,?_,?_,?_,H6.out,H7.out⟩
       · rw [HTK.out,List.map_append,HOUT.out,List.map_cons,List.map_nil,HBK.out]
         exact H3.out
       · rw [HTK.out];exact H4.out
       · rw [HTK.out];exact H5.out
  · obtain rfl:k=K.length:=by omega
    obtain ⟨A3,c3,rfl⟩:=hown.form;rw [List.take_length] at hown hS hU;have HOW:=jH hown;have HSS:=jH hS;have HUU:=jH hU;clear hown hS hU hrow;have hf:j1T w T M c ver es rs rh K (.returned (.slice A3 (((K.take K.length).map fun q=>(q,i0H es q))).length c3)) wr:=by
     have h9:=HOW.out.lower HB2.out.size;rw [show ((K.take K.length).map fun q=>(q,i0H es q)).length=K.length by simp];rw [show (K.map fun q=>(q,i0H es q)).length=K.length by simp] at h9;exact ⟨A3,c3,rfl,by simpa using h9,HSS.out,HUU.out⟩
    have HF:=jH hf;clear hf;go_wp2
    go_ret
    exact HF.out
end
section
open Go.RowKit Go.Lib Go.Sort
structure DoR where
 err:Int
 gone:Nat
 ver:Nat
 has:List (KO × Nd)
def doS (c:Cfg) (rs rh ver:Nat) (S:List (KO × Nd)) (k:KO) (a:d0U):DoR :=
 if a.kind=0 then (if g0C a.smp.1 a.smp.2=0 then (if d0B S k=false∧c.lo≤(S.length:Nat) then ⟨6,0,ver,S⟩ else ⟨0,0,ver+1,d0F S k { g0N (l0R S k) with smp:=l0X (l0R S k).smp (rs:Nat) a.smp }⟩) else ⟨g0C a.smp.1 a.smp.2,0,ver,S⟩)
 else if a.kind=1 then ⟨0,g0M S a.smp.1 (risL (c0M S)),ver+g0R S a.smp.1 (risL (c0M S)),f0Q S a.smp.1 (risL (c0M S))⟩
 else if a.kind=2 then (if g0Z a.pol=true then (if d0B S k=false∧c.lo≤(S.length:Nat) then ⟨6,0,ver,S⟩ else ⟨0,0,ver+1,d0F S k { g0N (l0R S k) with pol:=a.pol,ruled:=true }⟩) else ⟨7,0,ver,S⟩)
 else if a.kind=3 then (if d0B S k=true then ⟨0,0,ver+1,d0F S k { g0N (l0R S k) with past:=g0B (l0R S k).past rh a.adv }⟩ else ⟨5,0,ver,S⟩)
 else ⟨0,0,ver,S.map fun p=>(p.1,if p.1.1∈risL (c0M S) then frz p.2 else p.2)⟩
theorem t0Y (es:List (KO × NE)):kyN es=c0M (ab es):=by simp [kyN,c0M,ab,List.map_map,Function.comp_def]
theorem Old.frz (n:Nat) (es:List (KO × NE)) (K:List Ky):Old n es (f0P es K):=fun p hp r hr=>by
 obtain ⟨q,hq,rfl⟩:=m0B hp;exact .inr ⟨q,hq,hr⟩
structure SOk (c:Cfg) (rs rh ver:Nat) (S:List (KO × Nd)):Prop where
 cfg:h0A c=true
 sa:c.sa=(rs:Nat)
 hi:c.hi=(rh:Nat)
 ok:c.ok
 len:S.length≤1000
 ver_:ver≤900000
 vers:∀p∈S,p.2.ver≤1000000
theorem SOk.room {c:Cfg} {rs rh ver:Nat} {S:List (KO × Nd)} (h:SOk c rs rh ver S):rs≤256∧rh≤64:=by
 have hc:=h.cfg;have h1:=h.sa;have h2:=h.hi;unfold h0A at hc;simp only [Bool.and_eq_true,decide_eq_true_eq] at hc
 omega
theorem n0A {es:List (KO × NE)} {k:KO} (h:d0B es k=false):a0L es k=none:=f0G h
theorem b1L (T M:Nat) (c:Cfg) (ver:Nat) (es:List (KO × NE)) (rs rh:Nat) (k:KO) (a:d0U) (w:World) (h:SAt w T M c ver es rs rh) (ho:SOk c rs rh ver (ab es)) (h0:a.kind=0) :
 Calls Tryz.prog 82 #[.pointer (some ⟨T,0,none⟩),.agg #[.int .u64 k.1.1,.int .u64 k.1.2],.int .i64 a.smp.1,.int .i64 a.smp.2] w (f0S w T M c es rs rh (.int .i64 (doS c rs rh ver (ab es) k a).err) (doS c rs rh ver (ab es) k a).ver (doS c rs rh ver (ab es) k a).has):=by
 unfold doS;rw [if_pos h0]
 by_cases hs:g0C a.smp.1 a.smp.2=0
 · rw [if_pos hs]
   by_cases hf:d0B (ab es) k=false∧c.lo≤((ab es).length:Nat)
   · rw [if_pos hf]
     refine t0Q T M c ver es rs rh k a.smp w h hs ?_ (by rw [←l0T];exact hf.2);have:=n0A (by rw [←n0B];exact hf.1:d0B es k=false);exact this
   · rw [if_neg hf]
     exact b1O T M c ver es rs rh k a.smp w h hs (fun hh=>hf ⟨by rw [n0B];exact hh.1,by rw [l0T];exact hh.2⟩) ho.cfg ho.sa ho.hi ho.ok (by have:=ho.ver_;omega) ho.vers
 · rw [if_neg hs]
   exact u0L T M c ver es rs rh k a.smp w h hs
theorem p1W (T M:Nat) (c:Cfg) (ver:Nat) (es:List (KO × NE)) (rs rh:Nat) (k:KO) (a:d0U) (w:World) (h:SAt w T M c ver es rs rh) (ho:SOk c rs rh ver (ab es)) (h0:a.kind=2) :
 Calls Tryz.prog 86 #[.pointer (some ⟨T,0,none⟩),.agg #[.int .u64 k.1.1,.int .u64 k.1.2],d0E a.pol] w (f0S w T M c es rs rh (.int .i64 (doS c rs rh ver (ab es) k a).err) (doS c rs rh ver (ab es) k a).ver (doS c rs rh ver (ab es) k a).has):=by
 unfold doS;rw [if_neg (by omega),if_neg (by omega),if_pos h0]
 cases hs:g0Z a.pol with
 | true =>
   rw [if_pos rfl]
   by_cases hf:d0B (ab es) k=false∧c.lo≤((ab es).length:Nat)
   · rw [if_pos hf]
     exact g1B T M c ver es rs rh k a.pol w h hs (n0A (by rw [←n0B];exact hf.1)) (by rw [←l0T];exact hf.2)
   · rw [if_neg hf]
     exact p1D T M c ver es rs rh k a.pol w h hs (fun hh=>hf ⟨by rw [n0B];exact hh.1,by rw [l0T];exact hh.2⟩) ho.cfg ho.sa ho.hi ho.ok (by have:=ho.ver_;omega) ho.vers
 | false =>
   rw [if_neg (by simp)];exact k1R T M c ver es rs rh k a.pol w h hs
theorem k1G (T M:Nat) (c:Cfg) (ver:Nat) (es:List (KO × NE)) (rs rh:Nat) (k:KO) (a:d0U) (w:World) (h:SAt w T M c ver es rs rh) (ho:SOk c rs rh ver (ab es)) (h0:a.kind=3) :
 Calls Tryz.prog 109 #[.pointer (some ⟨T,0,none⟩),.agg #[.int .u64 k.1.1,.int .u64 k.1.2],.agg (c0U a.adv).toArray] w (f0S w T M c es rs rh (.int .i64 (doS c rs rh ver (ab es) k a).err) (doS c rs rh ver (ab es) k a).ver (doS c rs rh ver (ab es) k a).has):=by
 unfold doS;rw [if_neg (by omega),if_neg (by omega),if_neg (by omega),if_pos h0];have hr:=ho.room;have hvv:=ho.ver_
 cases hf:a0L es k with
 | none =>
   rw [if_neg (by rw [n0B,m0E hf];simp)];exact z0U T M c ver es rs rh k a.adv w h hf
 | some b =>
   rw [if_pos (by rw [n0B];exact m0H hf)];have hnd:l0R (ab es) k=b.2.1:=by unfold l0R;rw [o0F,hf];rfl
   rw [hnd];exact l1H T M c ver es rs rh k a.adv w h b hf hr.1 hr.2 (by omega) (ho.vers (k,b.2.1) (List.mem_map.2 ⟨(k,b),b0B hf,rfl⟩))
end
end Go.Proofs.YtmniiodpbebnmaaGreat
