/- Part 37 of the proof: FlAw, FlKy. -/
import Derived.KernelRfl
import Derived.Test.YtpmfcpdelkchaaaGreatL36
namespace Go.Proofs.YtpmfcpdelkchaaaGreat
set_option linter.unusedSimpArgs false
set_option linter.unusedVariables false
set_option linter.unusedSectionVars false
set_option maxRecDepth 100000
set_option maxHeartbeats 16000000
section
open Go.RowKit Go.Lib
theorem flPlan_any {P:Nat→Prop} {w:World} {M:Nat} {c:Cfg} {rs rh n:Nat} {wd:Wd} {d:FlatD} (s:SK) (h:FW P w M c rs rh n wd d) (hc:CfgOk c rs rh) :
 Calls Tryz.prog 99 #[.pointer (some ⟨M,0,none⟩),.string s.1] w (jP w (.tuple #[.agg (advC (planF (findM d.es s)).1).toArray,.int .i64 (planF (findM d.es s)).2])):=by
 have CL:=jH (fun W (hW:jB w W)=>flLoad_any s W (h.at_.below hW) (h.small hc))
 cases hf:findM d.es s with
 | none =>
   rw [hf] at CL;exact flPlan_no _ _ none w (.inl rfl) CL
 | some x =>
   rw [hf] at CL;unfold planF;dsimp only
   cases hr:x.nd.ruled with
   | false =>
     rw [if_neg (by simp)];exact flPlan_no _ _ (some x) w (.inr ⟨x,rfl,hr⟩) CL
   | true =>
     rw [if_pos rfl];have h1:=h.at_.tells.it h.ok _ (find_mem hf);have h2:=h.small hc _ (find_mem hf);exact flPlan_yes _ _ x w hr h2.1 h2.2 h1.2.1 h1.2.2.2 CL
theorem flNote_any {P:Nat→Prop} {w:World} {M:Nat} {c:Cfg} {rs rh n:Nat} {wd:Wd} {d:FlatD} (s:SK) (av:Adv) (h:FW P w M c rs rh n wd d) (hP:∀b,w.heap.size≤b→P b) (hc:CfgOk c rs rh) (hs:idS s.1=true) :
 Calls Tryz.prog 64 #[.pointer (some ⟨M,0,none⟩),.string s.1,.agg (advC av).toArray] w (FWSays P w M c rs rh (n+1) d.L (.bool (noteW c rs rh wd s.1 av).2) (noteW c rs rh wd s.1 av).1):=by
 cases hf:findM d.es s with
 | none =>
   have CL:=jH (fun W (hW:jB w W)=>flLoad_any s W (h.at_.below hW) (h.small hc));rw [hf] at CL;rw [h.at_.tells.note_no s hs av hf];refine (flNote_none _ _ av w CL).mono ?_;rintro e w' ⟨rfl,hb⟩;exact h.same (Nat.le_succ _) hb
 | some x =>
   rw [(h.at_.tells.note (rs:=rs) hc.st s hs av x hf ⟨x.key,x.sA,x.sc,x.pA,x.pc,noteF rh x.nd av⟩ rfl).1];exact flNote_some s av x h hP hc hs hf
theorem FlTells.none {c:Cfg} {es:List (SK × It)} {wd:Wd} (h:FlTells c es wd) (s:SK) (hs:idS s.1=false):findM es s=none:=by
 refine findM_none ?_
 cases hh:hasM es s with
 | false=>rfl
 | true =>
   obtain ⟨p,hp,rfl⟩:=List.mem_map.1 ((hasM_iff es s).1 hh);rw [h.has.1 p hp] at hs
   cases hs
theorem fw_new (c:Cfg) (rs rh k:Nat) (w:World) (hc:CfgOk c rs rh) (hk:(k:Int)=c.st) :
 Calls Tryz.prog 14 #[cfgV c] w fun e w'=>∃M d,e=.returned (.pointer (some ⟨M,0,none⟩))∧FW (fun b=>b≠M∧b≠d.L) w' M c rs rh 0 (newW k) d∧w.heap.size≤M∧w.heap.size≤d.L∧jB w w':=by
 refine (flNew_ok c rs rh k w hc.ok (by unfold cfgE;rw [if_pos hc.cfg]) hk).mono ?_;rintro e w' ⟨M,d,rfl,h,h1,h2,h3⟩;exact ⟨M,d,rfl,⟨h,newW_ok c rs rh k hk⟩,h1,h2,h3⟩
def cB22:Cfg:=⟨1,4,4,2⟩
theorem cB22_ok:CfgOk cB22 4 2:=⟨by decide,rfl,rfl,by unfold Cfg.ok I64 cB22;decide⟩
def idB:ByteArray:={ data:=#[97] }
def advB:Adv:=⟨1,250,3,3,2⟩
theorem i64_sm {n:Int} (h:0≤n∧n≤1000):I64 n:=by unfold I64;omega
def xB1:CallD:=⟨6,idB,0,0,0,⟨1,10,100,100,5,3⟩⟩
theorem xB1_ok:xB1.ok:=⟨i64_sm (by decide),by decide,i64_sm (by decide),i64_sm (by decide),i64_sm (by decide),⟨i64_sm (by decide),i64_sm (by decide),i64_sm (by decide),i64_sm (by decide),i64_sm (by decide),i64_sm (by decide)⟩⟩
def xB2:CallD:=⟨1,idB,1,250,0,⟨0,0,0,0,0,0⟩⟩
theorem xB2_ok:xB2.ok:=⟨i64_sm (by decide),by decide,i64_sm (by decide),i64_sm (by decide),i64_sm (by decide),⟨i64_sm (by decide),i64_sm (by decide),i64_sm (by decide),i64_sm (by decide),i64_sm (by decide),i64_sm (by decide)⟩⟩
def xB3:CallD:=⟨7,idB,0,0,0,⟨0,0,0,0,0,0⟩⟩
theorem xB3_ok:xB3.ok:=⟨i64_sm (by decide),by decide,i64_sm (by decide),i64_sm (by decide),i64_sm (by decide),⟨i64_sm (by decide),i64_sm (by decide),i64_sm (by decide),i64_sm (by decide),i64_sm (by decide),i64_sm (by decide)⟩⟩
def xB4:CallD:=⟨7,idB,0,0,0,⟨0,0,0,0,0,0⟩⟩
theorem xB4_ok:xB4.ok:=⟨i64_sm (by decide),by decide,i64_sm (by decide),i64_sm (by decide),i64_sm (by decide),⟨i64_sm (by decide),i64_sm (by decide),i64_sm (by decide),i64_sm (by decide),i64_sm (by decide),i64_sm (by decide)⟩⟩
def wB1:Wd:=(doW cB22 4 2 (newW 1) xB1).1
def wB2:Wd:=(doW cB22 4 2 wB1 xB2).1
def wB3:Wd:=(doW cB22 4 2 wB2 xB3).1
def wB4:Wd:=(noteW cB22 4 2 wB3 idB advB).1
def wB5:Wd:=(doW cB22 4 2 wB4 xB4).1
theorem rB1:repV (doW cB22 4 2 (newW 1) xB1).2=.agg #[.int .i64 0,.int .i64 0,.int .i64 0,.int .i64 0,.int .i64 0,.int .i64 0,.int .i64 0,.int .i64 0,.int .i64 0,.int .i64 0,.int .i64 0,.int .i64 0,.int .i64 0]:=by kernel_rfl
theorem dB1 {P:Nat→Prop} {w:World} {M:Nat} {d:FlatD} (h:FW P w M cB22 4 2 0 (newW 1) d) (hP:∀b,w.heap.size≤b→P b) :
 Calls Tryz.prog 51 #[.pointer (some ⟨M,0,none⟩),.agg #[.int .i64 6,.string { data:=#[97] },.int .i64 0,.int .i64 0,.int .i64 0,.int .i64 1,.int .i64 10,.int .i64 100,.int .i64 100,.int .i64 5,.int .i64 3]] w (FWSays P w M cB22 4 2 1 d.L (.agg #[.int .i64 0,.int .i64 0,.int .i64 0,.int .i64 0,.int .i64 0,.int .i64 0,.int .i64 0,.int .i64 0,.int .i64 0,.int .i64 0,.int .i64 0,.int .i64 0,.int .i64 0]) wB1):=by
 have:=flDo_any xB1 h hP cB22_ok (by decide) xB1_ok;rw [rB1] at this;exact this
theorem rB2:repV (doW cB22 4 2 wB1 xB2).2=.agg #[.int .i64 0,.int .i64 0,.int .i64 0,.int .i64 0,.int .i64 0,.int .i64 0,.int .i64 0,.int .i64 0,.int .i64 0,.int .i64 0,.int .i64 0,.int .i64 0,.int .i64 0]:=by kernel_rfl
theorem dB2 {P:Nat→Prop} {w:World} {M:Nat} {d:FlatD} (h:FW P w M cB22 4 2 1 wB1 d) (hP:∀b,w.heap.size≤b→P b) :
 Calls Tryz.prog 51 #[.pointer (some ⟨M,0,none⟩),.agg #[.int .i64 1,.string { data:=#[97] },.int .i64 1,.int .i64 250,.int .i64 0,.int .i64 0,.int .i64 0,.int .i64 0,.int .i64 0,.int .i64 0,.int .i64 0]] w (FWSays P w M cB22 4 2 2 d.L (.agg #[.int .i64 0,.int .i64 0,.int .i64 0,.int .i64 0,.int .i64 0,.int .i64 0,.int .i64 0,.int .i64 0,.int .i64 0,.int .i64 0,.int .i64 0,.int .i64 0,.int .i64 0]) wB2):=by
 have:=flDo_any xB2 h hP cB22_ok (by decide) xB2_ok;rw [rB2] at this;exact this
theorem rB3:repV (doW cB22 4 2 wB2 xB3).2=.agg #[.int .i64 0,.int .i64 0,.int .i64 0,.int .i64 0,.int .i64 0,.int .i64 0,.int .i64 0,.int .i64 0,.int .i64 0,.int .i64 0,.int .i64 0,.int .i64 0,.int .i64 0]:=by kernel_rfl
theorem dB3 {P:Nat→Prop} {w:World} {M:Nat} {d:FlatD} (h:FW P w M cB22 4 2 2 wB2 d) (hP:∀b,w.heap.size≤b→P b) :
 Calls Tryz.prog 51 #[.pointer (some ⟨M,0,none⟩),.agg #[.int .i64 7,.string { data:=#[97] },.int .i64 0,.int .i64 0,.int .i64 0,.int .i64 0,.int .i64 0,.int .i64 0,.int .i64 0,.int .i64 0,.int .i64 0]] w (FWSays P w M cB22 4 2 3 d.L (.agg #[.int .i64 0,.int .i64 0,.int .i64 0,.int .i64 0,.int .i64 0,.int .i64 0,.int .i64 0,.int .i64 0,.int .i64 0,.int .i64 0,.int .i64 0,.int .i64 0,.int .i64 0]) wB3):=by
 have:=flDo_any xB3 h hP cB22_ok (by decide) xB3_ok;rw [rB3] at this;exact this
theorem rB4:repV (doW cB22 4 2 wB4 xB4).2=.agg #[.int .i64 0,.int .i64 0,.int .i64 0,.int .i64 0,.int .i64 0,.int .i64 0,.int .i64 0,.int .i64 0,.int .i64 1,.int .i64 250,.int .i64 3,.int .i64 3,.int .i64 2]:=by kernel_rfl
theorem dB4 {P:Nat→Prop} {w:World} {M:Nat} {d:FlatD} (h:FW P w M cB22 4 2 4 wB4 d) (hP:∀b,w.heap.size≤b→P b) :
 Calls Tryz.prog 51 #[.pointer (some ⟨M,0,none⟩),.agg #[.int .i64 7,.string { data:=#[97] },.int .i64 0,.int .i64 0,.int .i64 0,.int .i64 0,.int .i64 0,.int .i64 0,.int .i64 0,.int .i64 0,.int .i64 0]] w (FWSays P w M cB22 4 2 5 d.L (.agg #[.int .i64 0,.int .i64 0,.int .i64 0,.int .i64 0,.int .i64 0,.int .i64 0,.int .i64 0,.int .i64 0,.int .i64 1,.int .i64 250,.int .i64 3,.int .i64 3,.int .i64 2]) wB5):=by
 have:=flDo_any xB4 h hP cB22_ok (by decide) xB4_ok;rw [rB4] at this;exact this
theorem pB:planW wB2 idB=(advB,0):=by kernel_rfl
theorem nB:(noteW cB22 4 2 wB3 idB advB).2=true:=by kernel_rfl
theorem planB {P:Nat→Prop} {w:World} {M:Nat} {d:FlatD} (h:FW P w M cB22 4 2 2 wB2 d) :
 Calls Tryz.prog 99 #[.pointer (some ⟨M,0,none⟩),.string { data:=#[97] }] w (jP w (.tuple #[.agg #[.int .i64 1,.int .i64 250,.int .i64 3,.int .i64 3,.int .i64 2],.int .i64 0])):=by
 have h1:=flPlan_any ⟨idB,by decide⟩ h cB22_ok;rw [planF_law h.at_.tells ⟨idB,by decide⟩ (by kernel_rfl),pB] at h1;exact h1
theorem noteB {P:Nat→Prop} {w:World} {M:Nat} {d:FlatD} (h:FW P w M cB22 4 2 3 wB3 d) (hP:∀b,w.heap.size≤b→P b) :
 Calls Tryz.prog 64 #[.pointer (some ⟨M,0,none⟩),.string { data:=#[97] },.agg #[.int .i64 1,.int .i64 250,.int .i64 3,.int .i64 3,.int .i64 2]] w (FWSays P w M cB22 4 2 4 d.L (.bool true) wB4):=by
 have h1:=flNote_any ⟨idB,by decide⟩ advB h hP cB22_ok (by kernel_rfl);rw [nB] at h1;exact h1
theorem usual22 (w:World):Calls Tryz.prog 98 #[] w (jP w (.agg #[.int .i64 1,.int .i64 10,.int .i64 100,.int .i64 100,.int .i64 5,.int .i64 3])):=by
 go_enter Tryz.func98,Tryz.ntmps98
 go_wp2_with fail
 refine post_named ?_;intro W9 hW9;have hx9:W9.heap[w.heap.size]?=some (.cells #[.int .i64 1,.int .i64 10,.int .i64 100,.int .i64 100,.int .i64 5,.int .i64 3] 46 (0,0)):=by rw [hW9];exact heap_alloc_new _ _
 have hb9:jB w W9:=by rw [hW9];exact balloc jR _
 obtain ⟨a9,a8,a7⟩:=box_cells jR hx9;clear hW9;exact bodyPost_ret (v:=.agg #[.int .i64 1,.int .i64 10,.int .i64 100,.int .i64 100,.int .i64 5,.int .i64 3]) (by simp [results,Tryz.results98,go_sem,a9]) rfl ⟨rfl,hb9⟩
theorem awake22_any (w:World):Calls Tryz.prog 48 #[] w (jP w (.bool true)):=by
 have CN:=jH (show Calls Tryz.prog 14 #[.agg #[.int .i64 1,.int .i64 4,.int .i64 4,.int .i64 2]] w fun e w'=>∃M d,e=.returned (.pointer (some ⟨M,0,none⟩))∧FW (fun b=>b≠M∧b≠d.L) w' M cB22 4 2 0 (newW 1) d∧w.heap.size≤M∧w.heap.size≤d.L∧jB w w' from fw_new cB22 4 2 1 w cB22_ok rfl)
 go_enter Tryz.func48,Tryz.ntmps48
 go_wp2_with (first
  | (go_at_call 14
     refine CN.out.mono ?_;rintro e w0 ⟨M,d0,rfl,hd,h1,h2,hb⟩;obtain ⟨z,hz⟩:∃z,z=w0.heap.size:=⟨_,rfl⟩;have HZ:=jH hz;have hMlt:M<z∧d0.L<z:=by rw [hz];exact ⟨hd.at_.lt,hd.at_.map.lt⟩
     obtain ⟨L,hLL⟩:∃L,L=d0.L:=⟨_,rfl⟩;rw [←hLL] at hd h2 hMlt;have HD0:=jH hd;have HB0:=jH hb;have HL0:=jH hLL.symm;have HS0:=jH (show z≤w0.heap.size from Nat.le_of_eq hz);have HM:=jH hMlt;have HMB:=jH (And.intro h1 h2);have HU0:=jH (Upd.refl w0 [M,L]);clear hd h1 h2 hb hLL hMlt hz)
  | (go_at_call 98
     refine (usual22 _).mono ?_;rintro e u1 ⟨rfl,hbu⟩;have HBU:=jH hbu;clear hbu)
  | (go_at_call 51
     refine calls_named ?_;intro V6 hV;have hb:jB w5 V6:=by rw [hV];repeat (first|exact jR|refine balloc ?_ _)
     clear hV
     with_reducible refine (dB4 (HD5.out.below hb) (fun b hb9=>⟨by have:=HM.out.1;have:=HS5.out;have:=hb.size;omega,by have:=HM.out.2;have:=HS5.out;have:=hb.size;omega⟩)).mono ?_
     rintro e w6 ⟨d6,rfl,hd,hL,hu⟩;have HD6:=jH hd;have HL6:=jH (hL.trans HL5.out);have HS6:=jH (Nat.le_trans HS5.out (Nat.le_trans hb.size hu.size));have HU6:=jH (HU5.out.trans ((Upd.of_below hb _).trans (by rw [HL5.out] at hu;exact hu)));have HXa_6:=jH ((hu.block _ (Nat.lt_of_lt_of_le (jL HXa_5.out) hb.size) (by rw [HL5.out];have h1:=HM.out.1;have h2:=HM.out.2;have h3:=HQa.out;simp only [List.mem_cons,List.not_mem_nil,or_false];omega)).trans (jK hb HXa_5.out))
     have HXb_6:=jH ((hu.block _ (Nat.lt_of_lt_of_le (jL HXb_5.out) hb.size) (by rw [HL5.out];have h1:=HM.out.1;have h2:=HM.out.2;have h3:=HQb.out;simp only [List.mem_cons,List.not_mem_nil,or_false];omega)).trans (jK hb HXb_5.out));obtain ⟨q1,q2,q3⟩:=box_cells jR HXa_6.out;obtain ⟨r1,r2,r3⟩:=box_cells jR HXb_6.out;clear hd hL hu hb)
  | (go_at_call 64
     refine calls_named ?_;intro V5 hV;have hb:jB w4 V5:=by rw [hV];repeat (first|exact jR|refine balloc ?_ _)
     have hn:V5.heap[w4.heap.size]?=some (.cells #[.int .i64 0,.int .i64 0,.int .i64 0,.int .i64 0,.int .i64 0,.int .i64 0,.int .i64 0,.int .i64 0,.int .i64 0,.int .i64 0,.int .i64 0,.int .i64 0,.int .i64 0] 76 (0,0)):=by rw [hV];exact heap_alloc_new _ _
     clear hV
     with_reducible refine (noteB (HD4.out.below hb) (fun b hb9=>⟨by have:=HM.out.1;have:=HS4.out;have:=hb.size;omega,by have:=HM.out.2;have:=HS4.out;have:=hb.size;omega⟩)).mono ?_
     rintro e w5 ⟨d5,rfl,hd,hL,hu⟩;have HD5:=jH hd;have HL5:=jH (hL.trans HL4.out);have HS5:=jH (Nat.le_trans HS4.out (Nat.le_trans hb.size hu.size));have HU5:=jH (HU4.out.trans ((Upd.of_below hb _).trans (by rw [HL4.out] at hu;exact hu)));have HXa_5:=jH ((hu.block _ (Nat.lt_of_lt_of_le (jL HXa_4.out) hb.size) (by rw [HL4.out];have h1:=HM.out.1;have h2:=HM.out.2;have h3:=HQa.out;simp only [List.mem_cons,List.not_mem_nil,or_false];omega)).trans (jK hb HXa_4.out))
     have HQb:=jH (show z≤w4.heap.size from HS4.out);have HXb_5:=jH ((hu.block _ (jL hn) (by rw [HL4.out];have h1:=HM.out.1;have h2:=HM.out.2;have h3:=HS4.out;simp only [List.mem_cons,List.not_mem_nil,or_false];omega)).trans hn);clear hd hL hu hb hn)
  | (go_at_call 51
     refine calls_named ?_;intro V4 hV;have hb:jB w3 V4:=by rw [hV];repeat (first|exact jR|refine balloc ?_ _)
     have hn:V4.heap[w3.heap.size]?=some (.cells #[.int .i64 1,.int .i64 250,.int .i64 3,.int .i64 3,.int .i64 2] 74 (0,0)):=by rw [hV];exact heap_alloc_new _ _
     clear hV
     with_reducible refine (dB3 (HD3.out.below hb) (fun b hb9=>⟨by have:=HM.out.1;have:=HS3.out;have:=hb.size;omega,by have:=HM.out.2;have:=HS3.out;have:=hb.size;omega⟩)).mono ?_
     rintro e w4 ⟨d4,rfl,hd,hL,hu⟩;have HD4:=jH hd;have HL4:=jH (hL.trans HL3.out);have HS4:=jH (Nat.le_trans HS3.out (Nat.le_trans hb.size hu.size));have HU4:=jH (HU3.out.trans ((Upd.of_below hb _).trans (by rw [HL3.out] at hu;exact hu)));have HQa:=jH (show z≤w3.heap.size from HS3.out);have HXa_4:=jH ((hu.block _ (jL hn) (by rw [HL3.out];have h1:=HM.out.1;have h2:=HM.out.2;have h3:=HS3.out;simp only [List.mem_cons,List.not_mem_nil,or_false];omega)).trans hn)
     obtain ⟨p1,p2,p3⟩:=box_cells jR HXa_4.out;clear hd hL hu hb hn)
  | (go_at_call 99
     refine (planB HD2.out).mono ?_;rintro e w3 ⟨rfl,hb⟩;have HD3:=jH (HD2.out.below hb);obtain ⟨d3,hd3⟩:∃d,d=d2:=⟨_,rfl⟩;rw [←hd3] at HD3;have HL3:=jH (show d3.L=L by rw [hd3];exact HL2.out);have HS3:=jH (Nat.le_trans HS2.out hb.size);have HU3:=jH (HU2.out.trans (Upd.of_below hb _));clear hb hd3)
  | (go_at_call 51
     refine calls_named ?_;intro V2 hV;have hb:jB w1 V2:=by rw [hV];repeat (first|exact jR|refine balloc ?_ _)
     clear hV
     with_reducible refine (dB2 (HD1.out.below hb) (fun b hb9=>⟨by have:=HM.out.1;have:=HS1.out;have:=hb.size;omega,by have:=HM.out.2;have:=HS1.out;have:=hb.size;omega⟩)).mono ?_
     rintro e w2 ⟨d2,rfl,hd,hL,hu⟩;have HD2:=jH hd;have HL2:=jH (hL.trans HL1.out);have HS2:=jH (Nat.le_trans HS1.out (Nat.le_trans hb.size hu.size));have HU2:=jH (HU1.out.trans ((Upd.of_below hb _).trans (by rw [HL1.out] at hu;exact hu)));clear hd hL hu hb)
  | (go_at_call 51
     refine calls_named ?_;intro V1 hV;have hb:jB w0 V1:=by rw [hV];exact HBU.out
     clear hV
     with_reducible refine (dB1 (HD0.out.below hb) (fun b hb9=>⟨by have:=HM.out.1;have:=HS0.out;have:=hb.size;omega,by have:=HM.out.2;have:=HS0.out;have:=hb.size;omega⟩)).mono ?_
     rintro e w1 ⟨d1,rfl,hd,hL,hu⟩;have HD1:=jH hd;have HL1:=jH (hL.trans HL0.out);have HS1:=jH (Nat.le_trans HS0.out (Nat.le_trans hb.size hu.size));have HU1:=jH (HU0.out.trans ((Upd.of_below hb _).trans (by rw [HL0.out] at hu;exact hu)));clear hd hL hu hb))
 go_ret
 refine ⟨rfl,balloc (HB0.out.trans (HU6.out.below (HZ.out ▸ HB0.out.size) (fun k hk=>?_))) _⟩;have h1:=HMB.out.1;have h2:=HMB.out.2;simp only [List.mem_cons,List.not_mem_nil,or_false] at hk
 rcases hk with rfl|rfl
 · exact h1
 · exact h2
end
section
open Go.RowKit Go.Lib
def NamedW (S:List ByteArray) (wd:Wd):Prop:=∀q∈allW wd,∃id∈S,idS id=true∧keyK id=q.1
theorem NamedW.more {S S':List ByteArray} {wd:Wd} (h:NamedW S wd) (hs:∀id∈S,id∈S'):NamedW S' wd:=fun q hq=>by
 obtain ⟨id,h1,h2⟩:=h q hq;exact ⟨id,hs id h1,h2⟩
theorem NamedW.same {S:List ByteArray} {wd wd':Wd} (h:NamedW S wd) (he:(allW wd').map (·.1)=(allW wd).map (·.1)):NamedW S wd':=fun q hq=>by
 have h1:q.1∈(allW wd).map (·.1):=by rw [←he];exact List.mem_map.2 ⟨q,hq,rfl⟩
 obtain ⟨q',hq',e⟩:=List.mem_map.1 h1;rw [←e];exact h q' hq'
theorem keys_oneP {c:Cfg} {rs rh:Nat} {R:List Itm} {k:Ky} {a:Act17}:∀q∈(oneP c rs rh R k a).1,q.1=k∨q∈R:=by
 intro q;unfold oneP;dsimp only
 split
 · exact .inr
 · split
   · exact .inr
   · split
     · exact .inr
     · unfold outP
       intro hq
       rcases List.mem_append.1 hq with hq|hq
       · rcases List.mem_append.1 hq with hq|hq
         · exact .inr (List.mem_of_mem_take hq)
         · exact .inl (by rw [List.mem_singleton.1 hq])
       · exact .inr (List.mem_of_mem_drop hq)
theorem keys_one {c:Cfg} {rs rh:Nat} {wd:Wd} {id:ByteArray} {a:Act17}:∀q∈allW (oneW c rs rh wd id a).1,q.1=keyK id∨q∈allW wd:=by
 intro q hq;obtain ⟨R,hR,hqR⟩:=List.mem_flatten.1 (show q∈(wd.st.set (atW c id) (oneP c rs rh (wd.st.getD (atW c id) []) (keyK id) a).1).flatten from hq)
 rcases List.mem_or_eq_of_mem_set hR with h1|h1
 · exact .inr (List.mem_flatten.2 ⟨R,h1,hqR⟩)
 · subst h1
   rcases keys_oneP q hqR with h2|h2
   · exact .inl h2
   · refine .inr (List.mem_flatten.2 ⟨wd.st.getD (atW c id) [],?_,h2⟩)
     rcases Nat.lt_or_ge (atW c id) wd.st.length with hl|hl
     · rw [List.getD_eq_getElem?_getD,List.getElem?_eq_getElem hl];exact List.getElem_mem hl
     · rw [List.getD_eq_getElem?_getD,List.getElem?_eq_none hl] at h2
       cases h2
theorem NamedW.one {S:List ByteArray} {c:Cfg} {rs rh:Nat} {wd:Wd} {id:ByteArray} {a:Act17} (h:NamedW S wd) (hid:idS id=true) (hm:id∈S):NamedW S (oneW c rs rh wd id a).1:=fun q hq=>by
 rcases keys_one q hq with h1|h1
 · exact ⟨id,hm,hid,h1.symm⟩
 · exact h q h1
theorem NamedW.note {S:List ByteArray} {c:Cfg} {rs rh:Nat} {wd:Wd} {id:ByteArray} {av:Adv} (h:NamedW S wd) (hid:idS id=true) (hm:id∈S):NamedW S (noteW c rs rh wd id av).1:=by
 unfold noteW
 split
 · exact h
 · exact h.one hid hm
theorem NamedW.do_ {S:List ByteArray} {c:Cfg} {rs rh:Nat} {wd:Wd} {x:CallD} (h:NamedW S wd) (hm:x.id∈S):NamedW S (doW c rs rh wd x).1:=by
 have hck:∀k:Int,x.kind=k→k=1∨k=6→chkC x=0→idS x.id=true:=fun k hk hk2 h0=>by
  unfold chkC at h0
  cases hid:idS x.id with
  | true=>rfl
  | false =>
    rw [hid] at h0
    rcases hk2 with rfl|rfl
    · simp [hk] at h0
    · simp [hk] at h0
 unfold doW
 split
 · exact h
 · rename_i h0
   have h0:chkC x=0:=Decidable.not_not.1 h0
   split
   · rename_i hk;exact h.one (hck 1 hk (.inl rfl) h0) hm
   · split
     · refine h.same ?_
       unfold allW trimW;simp [List.map_flatten,List.map_map,Function.comp_def]
     · split
       · unfold snapW
         split
         · exact h
         · exact h
       · split
         · unfold freeW
           split
           · exact h
           · exact h
         · split
           · exact h
           · split
             · rename_i hk;exact h.one (hck 6 hk (.inr rfl) h0) hm
             · split
               · exact h
               · split
                 · exact h
                 · exact h
theorem NamedW.new (S:List ByteArray) (k:Nat):NamedW S (newW k):=by
 intro q hq;have:=tot_new k;rw [List.length_eq_zero_iff] at this;rw [this] at hq
 cases hq
theorem NamedW.keys {S:List ByteArray} {c:Cfg} {es:List (SK × It)} {wd:Wd} (h:NamedW S wd) (ht:FlTells c es wd):∀p∈es,p.1.1∈S:=by
 intro p hp;have h0:=ht.has.1 p hp;have h1:=ht.is p.1 h0;rw [(hasM_iff _ _).2 (List.mem_map.2 ⟨p,hp,rfl⟩)] at h1;unfold loadW findIt at h1
 cases hf:(allW wd).find? fun q=>decide (q.1=keyK p.1.1) with
 | none=>rw [hf] at h1;cases h1
 | some q =>
   have hq:=List.find?_some hf;obtain ⟨id,hi,hid,hk⟩:=h q (List.mem_of_find?_eq_some hf);have e:q.1=keyK p.1.1:=by simpa using hq
   rw [←keyK_inj hid h0 (hk.trans e)];exact hi
end
end Go.Proofs.YtpmfcpdelkchaaaGreat
