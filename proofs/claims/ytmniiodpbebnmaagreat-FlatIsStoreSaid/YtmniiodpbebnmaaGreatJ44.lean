/- Part 44 of the proof. -/
import Derived.Test.YtmniiodpbebnmaaGreatJ43
import Derived.KernelRfl
namespace Go.Proofs.YtmniiodpbebnmaaGreat
set_option linter.unusedSimpArgs false
set_option linter.unusedVariables false
set_option linter.unusedSectionVars false
set_option maxRecDepth 100000
set_option maxHeartbeats 16000000
section
open Go.RowKit Go.Lib
theorem p0A {P:Nat→Prop} {w:World} {M:Nat} {c:Cfg} {rs rh n:Nat} {wd:Wd} {d:b0J} (s:SK) (h:FW P w M c rs rh n wd d) (hc:b0S c rs rh) :
 Calls Tryz.prog 23 #[.pointer (some ⟨M,0,none⟩),.string s.1] w (jP w (.tuple #[.agg (c0U (w0C (a0L d.es s)).1).toArray,.int .i64 (w0C (a0L d.es s)).2])):=by
 have CL:=jH (fun W (hW:jB w W)=>l0H s W (h.at_.below hW) (h.small hc))
 cases hf:a0L d.es s with
 | none =>
   rw [hf] at CL;exact s0R _ _ none w (.inl rfl) CL
 | some x =>
   rw [hf] at CL;unfold w0C;dsimp only
   cases hr:x.nd.ruled with
   | false =>
     rw [if_neg (by simp)];exact s0R _ _ (some x) w (.inr ⟨x,rfl,hr⟩) CL
   | true =>
     rw [if_pos rfl];have h1:=h.at_.tells.it h.ok _ (b0B hf);have h2:=h.small hc _ (b0B hf);exact c1N _ _ x w hr h2.1 h2.2 h1.2.1 h1.2.2.2 CL
theorem p0U {P:Nat→Prop} {w:World} {M:Nat} {c:Cfg} {rs rh n:Nat} {wd:Wd} {d:b0J} (s:SK) (av:Adv) (h:FW P w M c rs rh n wd d) (hP:∀b,w.heap.size≤b→P b) (hc:b0S c rs rh) (hs:idS s.1=true) :
 Calls Tryz.prog 24 #[.pointer (some ⟨M,0,none⟩),.string s.1,.agg (c0U av).toArray] w (b0H P w M c rs rh (n+1) d.L (.bool (e0D c rs rh wd s.1 av).2) (e0D c rs rh wd s.1 av).1):=by
 cases hf:a0L d.es s with
 | none =>
   have CL:=jH (fun W (hW:jB w W)=>l0H s W (h.at_.below hW) (h.small hc));rw [hf] at CL;rw [h.at_.tells.note_no s hs av hf];refine (v0A _ _ av w CL).mono ?_;rintro e w' ⟨rfl,hb⟩;exact h.same (Nat.le_succ _) hb
 | some x =>
   rw [(h.at_.tells.note (rs:=rs) hc.st s hs av x hf ⟨x.key,x.sA,x.sc,x.pA,x.pc,a1Y rh x.nd av⟩ rfl).1];exact v0W s av x h hP hc hs hf
theorem b0F.none {c:Cfg} {es:List (SK × It)} {wd:Wd} (h:b0F c es wd) (s:SK) (hs:idS s.1=false):a0L es s=none:=by
 refine f0G ?_
 cases hh:d0B es s with
 | false=>rfl
 | true =>
   obtain ⟨p,hp,rfl⟩:=List.mem_map.1 ((c0D es s).1 hh);rw [h.has.1 p hp] at hs
   cases hs
theorem n1H (c:Cfg) (rs rh k:Nat) (w:World) (hc:b0S c rs rh) (hk:(k:Int)=c.st) :
 Calls Tryz.prog 12 #[n0D c] w fun e w'=>∃M d,e=.returned (.pointer (some ⟨M,0,none⟩))∧FW (fun b=>b≠M∧b≠d.L) w' M c rs rh 0 (o0J k) d∧w.heap.size≤M∧w.heap.size≤d.L∧jB w w':=by
 refine (l1O c rs rh k w hc.ok (by unfold d1J;rw [if_pos hc.cfg]) hk).mono ?_;rintro e w' ⟨M,d,rfl,h,h1,h2,h3⟩;exact ⟨M,d,rfl,⟨h,d1W c rs rh k hk⟩,h1,h2,h3⟩
def l0V:Cfg:=⟨1,4,4,2⟩
theorem j0C:b0S l0V 4 2:=⟨by decide,rfl,rfl,by unfold Cfg.ok I64 l0V;decide⟩
def idB:ByteArray:={ data:=#[97] }
def advB:Adv:=⟨1,250,3,3,2⟩
theorem b0R {n:Int} (h:0≤n∧n≤1000):I64 n:=by unfold I64;omega
def xB1:b0Z:=⟨6,idB,0,0,0,⟨1,10,100,100,5,3⟩⟩
theorem xB1_ok:xB1.ok:=⟨b0R (by decide),by decide,b0R (by decide),b0R (by decide),b0R (by decide),⟨b0R (by decide),b0R (by decide),b0R (by decide),b0R (by decide),b0R (by decide),b0R (by decide)⟩⟩
def xB2:b0Z:=⟨1,idB,1,250,0,⟨0,0,0,0,0,0⟩⟩
theorem xB2_ok:xB2.ok:=⟨b0R (by decide),by decide,b0R (by decide),b0R (by decide),b0R (by decide),⟨b0R (by decide),b0R (by decide),b0R (by decide),b0R (by decide),b0R (by decide),b0R (by decide)⟩⟩
def xB3:b0Z:=⟨7,idB,0,0,0,⟨0,0,0,0,0,0⟩⟩
theorem xB3_ok:xB3.ok:=⟨b0R (by decide),by decide,b0R (by decide),b0R (by decide),b0R (by decide),⟨b0R (by decide),b0R (by decide),b0R (by decide),b0R (by decide),b0R (by decide),b0R (by decide)⟩⟩
def xB4:b0Z:=⟨7,idB,0,0,0,⟨0,0,0,0,0,0⟩⟩
theorem xB4_ok:xB4.ok:=⟨b0R (by decide),by decide,b0R (by decide),b0R (by decide),b0R (by decide),⟨b0R (by decide),b0R (by decide),b0R (by decide),b0R (by decide),b0R (by decide),b0R (by decide)⟩⟩
def wB1:Wd:=(doW l0V 4 2 (o0J 1) xB1).1
def wB2:Wd:=(doW l0V 4 2 wB1 xB2).1
def wB3:Wd:=(doW l0V 4 2 wB2 xB3).1
def wB4:Wd:=(e0D l0V 4 2 wB3 idB advB).1
def wB5:Wd:=(doW l0V 4 2 wB4 xB4).1
theorem rB1:a0X (doW l0V 4 2 (o0J 1) xB1).2=.agg #[.int .i64 0,.int .i64 0,.int .i64 0,.int .i64 0,.int .i64 0,.int .i64 0,.int .i64 0,.int .i64 0,.int .i64 0,.int .i64 0,.int .i64 0,.int .i64 0,.int .i64 0]:=by kernel_rfl
theorem dB1 {P:Nat→Prop} {w:World} {M:Nat} {d:b0J} (h:FW P w M l0V 4 2 0 (o0J 1) d) (hP:∀b,w.heap.size≤b→P b) :
 Calls Tryz.prog 17 #[.pointer (some ⟨M,0,none⟩),.agg #[.int .i64 6,.string { data:=#[97] },.int .i64 0,.int .i64 0,.int .i64 0,.int .i64 1,.int .i64 10,.int .i64 100,.int .i64 100,.int .i64 5,.int .i64 3]] w (b0H P w M l0V 4 2 1 d.L (.agg #[.int .i64 0,.int .i64 0,.int .i64 0,.int .i64 0,.int .i64 0,.int .i64 0,.int .i64 0,.int .i64 0,.int .i64 0,.int .i64 0,.int .i64 0,.int .i64 0,.int .i64 0]) wB1):=by
 have:=j0Q xB1 h hP j0C (by decide) xB1_ok;rw [rB1] at this;exact this
theorem rB2:a0X (doW l0V 4 2 wB1 xB2).2=.agg #[.int .i64 0,.int .i64 0,.int .i64 0,.int .i64 0,.int .i64 0,.int .i64 0,.int .i64 0,.int .i64 0,.int .i64 0,.int .i64 0,.int .i64 0,.int .i64 0,.int .i64 0]:=by kernel_rfl
theorem dB2 {P:Nat→Prop} {w:World} {M:Nat} {d:b0J} (h:FW P w M l0V 4 2 1 wB1 d) (hP:∀b,w.heap.size≤b→P b) :
 Calls Tryz.prog 17 #[.pointer (some ⟨M,0,none⟩),.agg #[.int .i64 1,.string { data:=#[97] },.int .i64 1,.int .i64 250,.int .i64 0,.int .i64 0,.int .i64 0,.int .i64 0,.int .i64 0,.int .i64 0,.int .i64 0]] w (b0H P w M l0V 4 2 2 d.L (.agg #[.int .i64 0,.int .i64 0,.int .i64 0,.int .i64 0,.int .i64 0,.int .i64 0,.int .i64 0,.int .i64 0,.int .i64 0,.int .i64 0,.int .i64 0,.int .i64 0,.int .i64 0]) wB2):=by
 have:=j0Q xB2 h hP j0C (by decide) xB2_ok;rw [rB2] at this;exact this
theorem rB3:a0X (doW l0V 4 2 wB2 xB3).2=.agg #[.int .i64 0,.int .i64 0,.int .i64 0,.int .i64 0,.int .i64 0,.int .i64 0,.int .i64 0,.int .i64 0,.int .i64 0,.int .i64 0,.int .i64 0,.int .i64 0,.int .i64 0]:=by kernel_rfl
theorem dB3 {P:Nat→Prop} {w:World} {M:Nat} {d:b0J} (h:FW P w M l0V 4 2 2 wB2 d) (hP:∀b,w.heap.size≤b→P b) :
 Calls Tryz.prog 17 #[.pointer (some ⟨M,0,none⟩),.agg #[.int .i64 7,.string { data:=#[97] },.int .i64 0,.int .i64 0,.int .i64 0,.int .i64 0,.int .i64 0,.int .i64 0,.int .i64 0,.int .i64 0,.int .i64 0]] w (b0H P w M l0V 4 2 3 d.L (.agg #[.int .i64 0,.int .i64 0,.int .i64 0,.int .i64 0,.int .i64 0,.int .i64 0,.int .i64 0,.int .i64 0,.int .i64 0,.int .i64 0,.int .i64 0,.int .i64 0,.int .i64 0]) wB3):=by
 have:=j0Q xB3 h hP j0C (by decide) xB3_ok;rw [rB3] at this;exact this
theorem rB4:a0X (doW l0V 4 2 wB4 xB4).2=.agg #[.int .i64 0,.int .i64 0,.int .i64 0,.int .i64 0,.int .i64 0,.int .i64 0,.int .i64 0,.int .i64 0,.int .i64 1,.int .i64 250,.int .i64 3,.int .i64 3,.int .i64 2]:=by kernel_rfl
theorem dB4 {P:Nat→Prop} {w:World} {M:Nat} {d:b0J} (h:FW P w M l0V 4 2 4 wB4 d) (hP:∀b,w.heap.size≤b→P b) :
 Calls Tryz.prog 17 #[.pointer (some ⟨M,0,none⟩),.agg #[.int .i64 7,.string { data:=#[97] },.int .i64 0,.int .i64 0,.int .i64 0,.int .i64 0,.int .i64 0,.int .i64 0,.int .i64 0,.int .i64 0,.int .i64 0]] w (b0H P w M l0V 4 2 5 d.L (.agg #[.int .i64 0,.int .i64 0,.int .i64 0,.int .i64 0,.int .i64 0,.int .i64 0,.int .i64 0,.int .i64 0,.int .i64 1,.int .i64 250,.int .i64 3,.int .i64 3,.int .i64 2]) wB5):=by
 have:=j0Q xB4 h hP j0C (by decide) xB4_ok;rw [rB4] at this;exact this
theorem pB:e0C wB2 idB=(advB,0):=by kernel_rfl
theorem nB:(e0D l0V 4 2 wB3 idB advB).2=true:=by kernel_rfl
theorem planB {P:Nat→Prop} {w:World} {M:Nat} {d:b0J} (h:FW P w M l0V 4 2 2 wB2 d) :
 Calls Tryz.prog 23 #[.pointer (some ⟨M,0,none⟩),.string { data:=#[97] }] w (jP w (.tuple #[.agg #[.int .i64 1,.int .i64 250,.int .i64 3,.int .i64 3,.int .i64 2],.int .i64 0])):=by
 have h1:=p0A ⟨idB,by decide⟩ h j0C;rw [s0N h.at_.tells ⟨idB,by decide⟩ (by kernel_rfl),pB] at h1;exact h1
theorem noteB {P:Nat→Prop} {w:World} {M:Nat} {d:b0J} (h:FW P w M l0V 4 2 3 wB3 d) (hP:∀b,w.heap.size≤b→P b) :
 Calls Tryz.prog 24 #[.pointer (some ⟨M,0,none⟩),.string { data:=#[97] },.agg #[.int .i64 1,.int .i64 250,.int .i64 3,.int .i64 3,.int .i64 2]] w (b0H P w M l0V 4 2 4 d.L (.bool true) wB4):=by
 have h1:=p0U ⟨idB,by decide⟩ advB h hP j0C (by kernel_rfl);rw [nB] at h1;exact h1
theorem o1F (w:World):Calls Tryz.prog 45 #[] w (jP w (.agg #[.int .i64 1,.int .i64 10,.int .i64 100,.int .i64 100,.int .i64 5,.int .i64 3])):=by
 go_enter Tryz.func45,Tryz.ntmps45
 go_wp2_with fail
 refine a0H ?_;intro W9 hW9;have hx9:W9.heap[w.heap.size]?=some (.cells #[.int .i64 1,.int .i64 10,.int .i64 100,.int .i64 100,.int .i64 5,.int .i64 3] 35 (0,0)):=by rw [hW9];exact heap_alloc_new _ _
 have hb9:jB w W9:=by rw [hW9];exact a0C jR _
 obtain ⟨a9,a8,a7⟩:=a0A jR hx9;clear hW9;exact bodyPost_ret (v:=.agg #[.int .i64 1,.int .i64 10,.int .i64 100,.int .i64 100,.int .i64 5,.int .i64 3]) (by simp [results,Tryz.results45,go_sem,a9]) rfl ⟨rfl,hb9⟩
theorem j0D (w:World):Calls Tryz.prog 11 #[] w (jP w (.bool true)):=by
 have CN:=jH (show Calls Tryz.prog 12 #[.agg #[.int .i64 1,.int .i64 4,.int .i64 4,.int .i64 2]] w fun e w'=>∃M d,e=.returned (.pointer (some ⟨M,0,none⟩))∧FW (fun b=>b≠M∧b≠d.L) w' M l0V 4 2 0 (o0J 1) d∧w.heap.size≤M∧w.heap.size≤d.L∧jB w w' from n1H l0V 4 2 1 w j0C rfl)
 go_enter Tryz.func11,Tryz.ntmps11
 go_wp2_with (first
  | (go_at_call 12
     refine CN.out.mono ?_;rintro e w0 ⟨M,d0,rfl,hd,h1,h2,hb⟩;obtain ⟨z,hz⟩:∃z,z=w0.heap.size:=⟨_,rfl⟩;have HZ:=jH hz;have hMlt:M<z∧d0.L<z:=by rw [hz];exact ⟨hd.at_.lt,hd.at_.map.lt⟩
     obtain ⟨L,hLL⟩:∃L,L=d0.L:=⟨_,rfl⟩;rw [←hLL] at hd h2 hMlt;have HD0:=jH hd;have HB0:=jH hb;have HL0:=jH hLL.symm;have HS0:=jH (show z≤w0.heap.size from Nat.le_of_eq hz);have HM:=jH hMlt;have HMB:=jH (And.intro h1 h2);have HU0:=jH (Upd.refl w0 [M,L]);clear hd h1 h2 hb hLL hMlt hz)
  | (go_at_call 45
     refine (o1F _).mono ?_;rintro e u1 ⟨rfl,hbu⟩;have HBU:=jH hbu;clear hbu)
  | (go_at_call 17
     refine a0B ?_;intro V6 hV;have hb:jB w5 V6:=by rw [hV];repeat (first|exact jR|refine a0C ?_ _)
     clear hV
     with_reducible refine (dB4 (HD5.out.below hb) (fun b hb9=>⟨by have:=HM.out.1;have:=HS5.out;have:=hb.size;omega,by have:=HM.out.2;have:=HS5.out;have:=hb.size;omega⟩)).mono ?_
     rintro e w6 ⟨d6,rfl,hd,hL,hu⟩;have HD6:=jH hd;have HL6:=jH (hL.trans HL5.out);have HS6:=jH (Nat.le_trans HS5.out (Nat.le_trans hb.size hu.size));have HU6:=jH (HU5.out.trans ((Upd.of_below hb _).trans (by rw [HL5.out] at hu;exact hu)));have HXa_6:=jH ((hu.block _ (Nat.lt_of_lt_of_le (jL HXa_5.out) hb.size) (by rw [HL5.out];have h1:=HM.out.1;have h2:=HM.out.2;have h3:=HQa.out;simp only [List.mem_cons,List.not_mem_nil,or_false];omega)).trans (jK hb HXa_5.out))
     have HXb_6:=jH ((hu.block _ (Nat.lt_of_lt_of_le (jL HXb_5.out) hb.size) (by rw [HL5.out];have h1:=HM.out.1;have h2:=HM.out.2;have h3:=HQb.out;simp only [List.mem_cons,List.not_mem_nil,or_false];omega)).trans (jK hb HXb_5.out));obtain ⟨q1,q2,q3⟩:=a0A jR HXa_6.out;obtain ⟨r1,r2,r3⟩:=a0A jR HXb_6.out;clear hd hL hu hb)
  | (go_at_call 24
     refine a0B ?_;intro V5 hV;have hb:jB w4 V5:=by rw [hV];repeat (first|exact jR|refine a0C ?_ _)
     have hn:V5.heap[w4.heap.size]?=some (.cells #[.int .i64 0,.int .i64 0,.int .i64 0,.int .i64 0,.int .i64 0,.int .i64 0,.int .i64 0,.int .i64 0,.int .i64 0,.int .i64 0,.int .i64 0,.int .i64 0,.int .i64 0] 46 (0,0)):=by rw [hV];exact heap_alloc_new _ _
     clear hV
     with_reducible refine (noteB (HD4.out.below hb) (fun b hb9=>⟨by have:=HM.out.1;have:=HS4.out;have:=hb.size;omega,by have:=HM.out.2;have:=HS4.out;have:=hb.size;omega⟩)).mono ?_
     rintro e w5 ⟨d5,rfl,hd,hL,hu⟩;have HD5:=jH hd;have HL5:=jH (hL.trans HL4.out);have HS5:=jH (Nat.le_trans HS4.out (Nat.le_trans hb.size hu.size));have HU5:=jH (HU4.out.trans ((Upd.of_below hb _).trans (by rw [HL4.out] at hu;exact hu)));have HXa_5:=jH ((hu.block _ (Nat.lt_of_lt_of_le (jL HXa_4.out) hb.size) (by rw [HL4.out];have h1:=HM.out.1;have h2:=HM.out.2;have h3:=HQa.out;simp only [List.mem_cons,List.not_mem_nil,or_false];omega)).trans (jK hb HXa_4.out))
     have HQb:=jH (show z≤w4.heap.size from HS4.out);have HXb_5:=jH ((hu.block _ (jL hn) (by rw [HL4.out];have h1:=HM.out.1;have h2:=HM.out.2;have h3:=HS4.out;simp only [List.mem_cons,List.not_mem_nil,or_false];omega)).trans hn);clear hd hL hu hb hn)
  | (go_at_call 17
     refine a0B ?_;intro V4 hV;have hb:jB w3 V4:=by rw [hV];repeat (first|exact jR|refine a0C ?_ _)
     have hn:V4.heap[w3.heap.size]?=some (.cells #[.int .i64 1,.int .i64 250,.int .i64 3,.int .i64 3,.int .i64 2] 44 (0,0)):=by rw [hV];exact heap_alloc_new _ _
     clear hV
     with_reducible refine (dB3 (HD3.out.below hb) (fun b hb9=>⟨by have:=HM.out.1;have:=HS3.out;have:=hb.size;omega,by have:=HM.out.2;have:=HS3.out;have:=hb.size;omega⟩)).mono ?_
     rintro e w4 ⟨d4,rfl,hd,hL,hu⟩;have HD4:=jH hd;have HL4:=jH (hL.trans HL3.out);have HS4:=jH (Nat.le_trans HS3.out (Nat.le_trans hb.size hu.size));have HU4:=jH (HU3.out.trans ((Upd.of_below hb _).trans (by rw [HL3.out] at hu;exact hu)));have HQa:=jH (show z≤w3.heap.size from HS3.out);have HXa_4:=jH ((hu.block _ (jL hn) (by rw [HL3.out];have h1:=HM.out.1;have h2:=HM.out.2;have h3:=HS3.out;simp only [List.mem_cons,List.not_mem_nil,or_false];omega)).trans hn)
     obtain ⟨p1,p2,p3⟩:=a0A jR HXa_4.out;clear hd hL hu hb hn)
  | (go_at_call 23
     refine (planB HD2.out).mono ?_;rintro e w3 ⟨rfl,hb⟩;have HD3:=jH (HD2.out.below hb);obtain ⟨d3,hd3⟩:∃d,d=d2:=⟨_,rfl⟩;rw [←hd3] at HD3;have HL3:=jH (show d3.L=L by rw [hd3];exact HL2.out);have HS3:=jH (Nat.le_trans HS2.out hb.size);have HU3:=jH (HU2.out.trans (Upd.of_below hb _));clear hb hd3)
  | (go_at_call 17
     refine a0B ?_;intro V2 hV;have hb:jB w1 V2:=by rw [hV];repeat (first|exact jR|refine a0C ?_ _)
     clear hV
     with_reducible refine (dB2 (HD1.out.below hb) (fun b hb9=>⟨by have:=HM.out.1;have:=HS1.out;have:=hb.size;omega,by have:=HM.out.2;have:=HS1.out;have:=hb.size;omega⟩)).mono ?_
     rintro e w2 ⟨d2,rfl,hd,hL,hu⟩;have HD2:=jH hd;have HL2:=jH (hL.trans HL1.out);have HS2:=jH (Nat.le_trans HS1.out (Nat.le_trans hb.size hu.size));have HU2:=jH (HU1.out.trans ((Upd.of_below hb _).trans (by rw [HL1.out] at hu;exact hu)));clear hd hL hu hb)
  | (go_at_call 17
     refine a0B ?_;intro V1 hV;have hb:jB w0 V1:=by rw [hV];exact HBU.out
     clear hV
     with_reducible refine (dB1 (HD0.out.below hb) (fun b hb9=>⟨by have:=HM.out.1;have:=HS0.out;have:=hb.size;omega,by have:=HM.out.2;have:=HS0.out;have:=hb.size;omega⟩)).mono ?_
     rintro e w1 ⟨d1,rfl,hd,hL,hu⟩;have HD1:=jH hd;have HL1:=jH (hL.trans HL0.out);have HS1:=jH (Nat.le_trans HS0.out (Nat.le_trans hb.size hu.size));have HU1:=jH (HU0.out.trans ((Upd.of_below hb _).trans (by rw [HL0.out] at hu;exact hu)));clear hd hL hu hb))
 go_ret
 refine ⟨rfl,a0C (HB0.out.trans (HU6.out.below (HZ.out ▸ HB0.out.size) (fun k hk=>?_))) _⟩;have h1:=HMB.out.1;have h2:=HMB.out.2;simp only [List.mem_cons,List.not_mem_nil,or_false] at hk
 rcases hk with rfl|rfl
 · exact h1
 · exact h2
end
end Go.Proofs.YtmniiodpbebnmaaGreat
