/- Part 44 of the proof: FlDo. -/
import Derived.Test.YtkcdhaallnhhmaaGreatQ37
import Derived.Test.YtkcdhaallnhhmaaGreatQ39
import Derived.Test.YtkcdhaallnhhmaaGreatQ40
import Derived.Test.YtkcdhaallnhhmaaGreatQ42
namespace Go.Proofs.YtkcdhaallnhhmaaGreat
set_option linter.unusedSimpArgs false
set_option linter.unusedVariables false
set_option linter.unusedSectionVars false
set_option maxRecDepth 100000
set_option maxHeartbeats 16000000
section
open Go.RowKit Go.Lib
section
variable {P:Nat→Prop} {w:World} {M:Nat} {c:Cfg} {rs rh n:Nat} {wd:Wd} {d:FlatD}
theorem chk_named {K:Int} (hK:K=1∨K=5∨K=6∨K=7) (id:ByteArray) (tick val handle:Int) (p:Pol) (hid:idS id=false):chkC ⟨K,id,tick,val,handle,p⟩=2:=by
 unfold chkC;rw [if_neg (by show ¬(K<1∨8<K);omega),if_pos ⟨hK,hid⟩]
theorem chk_1 (id:ByteArray) (tick val handle:Int) (p:Pol) (hid:idS id=true):chkC ⟨1,id,tick,val,handle,p⟩=serE tick val:=by
 unfold chkC;simp [hid]
theorem chk_2 (id:ByteArray) (tick val handle:Int) (p:Pol):chkC ⟨2,id,tick,val,handle,p⟩=if tick<0 then 3 else 0:=by
 unfold chkC;simp
theorem chk_6 (id:ByteArray) (tick val handle:Int) (p:Pol) (hid:idS id=true):chkC ⟨6,id,tick,val,handle,p⟩=if polB p=true then 0 else 7:=by
 unfold chkC;simp [hid]
 cases polB p <;> rfl
theorem chk_57 {K:Int} (hK:K=5∨K=7) (id:ByteArray) (tick val handle:Int) (p:Pol) (hid:idS id=true):chkC ⟨K,id,tick,val,handle,p⟩=0:=by
 unfold chkC
 rcases hK with rfl|rfl <;> simp [hid]
theorem chk_348 {K:Int} (hK:K=3∨K=4∨K=8) (id:ByteArray) (tick val handle:Int) (p:Pol):chkC ⟨K,id,tick,val,handle,p⟩=0:=by
 unfold chkC
 rcases hK with rfl|rfl|rfl <;> simp
theorem flM1 (id:ByteArray) (tick val handle:Int) (p:Pol) (h:FW P w M c rs rh n wd d) (hP:∀b,w.heap.size≤b→P b) (hc:CfgOk c rs rh) (hn:n≤100000) (hx:(⟨1,id,tick,val,handle,p⟩:CallD).ok) (hid:idS id=true) :
 Calls Tryz.prog 79 #[.pointer (some ⟨M,0,none⟩),callV ⟨1,id,tick,val,handle,p⟩] w (FWSays P w M c rs rh (n+1) d.L (repV (doW c rs rh wd ⟨1,id,tick,val,handle,p⟩).2) (doW c rs rh wd ⟨1,id,tick,val,handle,p⟩).1):=by
 obtain ⟨hk,hm,ht,hv,hh,hp⟩:=hx;unfold doW;rw [chk_1 id tick val handle p hid]
 by_cases he:serE tick val=0
 · rw [if_neg (by rw [he];simp),if_pos rfl]
   have ho:=(h.at_.tells.one (rs:=rs) (rh:=rh) hc.st ⟨id,hm⟩ hid ⟨0,(tick,val),pol0,adv0⟩ (show (0:Int)≠3 by decide) (by unfold do17;rw [if_pos rfl,if_pos he]))
   cases hf:fullF c d.es ⟨id,hm⟩ with
   | true =>
     have h1:=ho.1 hf
     show Calls Tryz.prog 79 #[.pointer (some ⟨M,0,none⟩),callV ⟨1,id,tick,val,handle,p⟩] w (FWSays P w M c rs rh (n+1) d.L (repV (repF (oneW c rs rh wd id ⟨0,(tick,val),pol0,adv0⟩).2)) (oneW c rs rh wd id ⟨0,(tick,val),pol0,adv0⟩).1)
     rw [show oneW c rs rh wd id ⟨0,(tick,val),pol0,adv0⟩=(wd,6) from h1];refine (flIng_full 1 tick val handle ⟨id,hm⟩ p h hc he hf).mono ?_;rintro e w' ⟨rfl,hb⟩;exact h.same (Nat.le_succ _) hb
   | false =>
     have h1:=(ho.2 hf).1
     show Calls Tryz.prog 79 #[.pointer (some ⟨M,0,none⟩),callV ⟨1,id,tick,val,handle,p⟩] w (FWSays P w M c rs rh (n+1) d.L (repV (repF (oneW c rs rh wd id ⟨0,(tick,val),pol0,adv0⟩).2)) (oneW c rs rh wd id ⟨0,(tick,val),pol0,adv0⟩).1)
     rw [show (oneW c rs rh wd id ⟨0,(tick,val),pol0,adv0⟩).2=0 from h1];exact flIng_ok 1 tick val handle ⟨id,hm⟩ p h hP hc hid ⟨ht,hv⟩ he hf
 · rw [if_pos he]
   refine (flIng_bad 1 tick val handle ⟨id,hm⟩ p M w he).mono ?_;rintro e w' ⟨rfl,hb⟩;exact h.same (Nat.le_succ _) hb
theorem flM2 (id:ByteArray) (tick val handle:Int) (p:Pol) (h:FW P w M c rs rh n wd d) (hP:∀b,w.heap.size≤b→P b) (hc:CfgOk c rs rh) (hn:n≤100000) (hx:(⟨2,id,tick,val,handle,p⟩:CallD).ok) :
 Calls Tryz.prog 80 #[.pointer (some ⟨M,0,none⟩),.int .i64 tick] w (FWSays P w M c rs rh (n+1) d.L (repV (doW c rs rh wd ⟨2,id,tick,val,handle,p⟩).2) (doW c rs rh wd ⟨2,id,tick,val,handle,p⟩).1):=by
 unfold doW;rw [chk_2];have h1:=flTrim_any tick h hP hc
 by_cases ht:tick<0
 · rw [if_pos ht] at h1 ⊢
   rw [if_pos ht] at h1;exact h1
 · rw [if_neg ht] at h1 ⊢
   rw [if_neg ht] at h1;exact h1
theorem flM3 (id:ByteArray) (tick val handle:Int) (p:Pol) (h:FW P w M c rs rh n wd d) (hP:∀b,w.heap.size≤b→P b) (hc:CfgOk c rs rh) (hn:n≤100000) (hx:(⟨3,id,tick,val,handle,p⟩:CallD).ok) :
 Calls Tryz.prog 81 #[.pointer (some ⟨M,0,none⟩)] w (FWSays P w M c rs rh (n+1) d.L (repV (doW c rs rh wd ⟨3,id,tick,val,handle,p⟩).2) (doW c rs rh wd ⟨3,id,tick,val,handle,p⟩).1):=by
 unfold doW;rw [chk_348 (.inl rfl)];exact flSnap_any h hP hc hn
theorem flM4 (id:ByteArray) (tick val handle:Int) (p:Pol) (h:FW P w M c rs rh n wd d) (hP:∀b,w.heap.size≤b→P b) (hc:CfgOk c rs rh) (hn:n≤100000) (hx:(⟨4,id,tick,val,handle,p⟩:CallD).ok) :
 Calls Tryz.prog 82 #[.pointer (some ⟨M,0,none⟩),.int .i64 handle] w (FWSays P w M c rs rh (n+1) d.L (repV (doW c rs rh wd ⟨4,id,tick,val,handle,p⟩).2) (doW c rs rh wd ⟨4,id,tick,val,handle,p⟩).1):=by
 unfold doW;rw [chk_348 (.inr (.inl rfl))];exact flFree_any handle h hP hc hn
theorem flM5 (id:ByteArray) (tick val handle:Int) (p:Pol) (h:FW P w M c rs rh n wd d) (hP:∀b,w.heap.size≤b→P b) (hc:CfgOk c rs rh) (hn:n≤100000) (hx:(⟨5,id,tick,val,handle,p⟩:CallD).ok) (hid:idS id=true) :
 Calls Tryz.prog 83 #[.pointer (some ⟨M,0,none⟩),callV ⟨5,id,tick,val,handle,p⟩] w (FWSays P w M c rs rh (n+1) d.L (repV (doW c rs rh wd ⟨5,id,tick,val,handle,p⟩).2) (doW c rs rh wd ⟨5,id,tick,val,handle,p⟩).1):=by
 obtain ⟨hk,hm,ht,hv,hh,hp⟩:=hx;unfold doW;rw [chk_57 (.inl rfl) id tick val handle p hid];refine (flLook_any 5 tick val handle ⟨id,hm⟩ p h hn hc hid ⟨ht,hv⟩).mono ?_;rintro e w' ⟨rfl,hb⟩;exact h.same (Nat.le_succ _) hb
theorem flM6 (id:ByteArray) (tick val handle:Int) (p:Pol) (h:FW P w M c rs rh n wd d) (hP:∀b,w.heap.size≤b→P b) (hc:CfgOk c rs rh) (hn:n≤100000) (hx:(⟨6,id,tick,val,handle,p⟩:CallD).ok) (hid:idS id=true) :
 Calls Tryz.prog 84 #[.pointer (some ⟨M,0,none⟩),callV ⟨6,id,tick,val,handle,p⟩] w (FWSays P w M c rs rh (n+1) d.L (repV (doW c rs rh wd ⟨6,id,tick,val,handle,p⟩).2) (doW c rs rh wd ⟨6,id,tick,val,handle,p⟩).1):=by
 obtain ⟨hk,hm,ht,hv,hh,hp⟩:=hx;unfold doW;rw [chk_6 id tick val handle p hid]
 cases he:polB p with
 | true =>
   rw [if_neg (by simp)];have ho:=(h.at_.tells.one (rs:=rs) (rh:=rh) hc.st ⟨id,hm⟩ hid ⟨2,(0,0),p,adv0⟩ (show (2:Int)≠3 by decide) (by unfold do17;rw [if_neg (show ¬(2:Int)=0 by decide),if_neg (show ¬(2:Int)=1 by decide),if_pos rfl,if_pos he]))
   show Calls Tryz.prog 84 #[.pointer (some ⟨M,0,none⟩),callV ⟨6,id,tick,val,handle,p⟩] w (FWSays P w M c rs rh (n+1) d.L (repV (repF (oneW c rs rh wd id ⟨2,(0,0),p,adv0⟩).2)) (oneW c rs rh wd id ⟨2,(0,0),p,adv0⟩).1)
   cases hf:fullF c d.es ⟨id,hm⟩ with
   | true =>
     rw [show oneW c rs rh wd id ⟨2,(0,0),p,adv0⟩=(wd,6) from ho.1 hf];refine (flSet_full 6 tick val handle ⟨id,hm⟩ p h hc he hf).mono ?_;rintro e w' ⟨rfl,hb⟩;exact h.same (Nat.le_succ _) hb
   | false =>
     rw [show (oneW c rs rh wd id ⟨2,(0,0),p,adv0⟩).2=0 from (ho.2 hf).1];exact flSet_ok 6 tick val handle ⟨id,hm⟩ p h hP hc hid hp he hf
 | false =>
   rw [if_pos (by simp)];refine (flSet_bad 6 tick val handle ⟨id,hm⟩ p M w he).mono ?_;rintro e w' ⟨rfl,hb⟩;exact h.same (Nat.le_succ _) hb
theorem flM7 (id:ByteArray) (tick val handle:Int) (p:Pol) (h:FW P w M c rs rh n wd d) (hP:∀b,w.heap.size≤b→P b) (hc:CfgOk c rs rh) (hn:n≤100000) (hx:(⟨7,id,tick,val,handle,p⟩:CallD).ok) (hid:idS id=true) :
 Calls Tryz.prog 85 #[.pointer (some ⟨M,0,none⟩),.string id] w (FWSays P w M c rs rh (n+1) d.L (repV (doW c rs rh wd ⟨7,id,tick,val,handle,p⟩).2) (doW c rs rh wd ⟨7,id,tick,val,handle,p⟩).1):=by
 obtain ⟨hk,hm,ht,hv,hh,hp⟩:=hx;unfold doW;rw [chk_57 (.inr rfl) id tick val handle p hid];have h1:=flRead_any ⟨id,hm⟩ w h.at_ (fun q hq=>(h.small hc q hq).2);rw [readF_law h.at_.tells ⟨id,hm⟩ hid] at h1;refine h1.mono ?_;rintro e w' ⟨rfl,hb⟩;exact h.same (Nat.le_succ _) hb
end
theorem flDo_kind (Mv:Option Addr) (kind:Int) (id:ByteArray) (tick val handle:Int) (p:Pol) (w:World) (hk:kind<1∨8<kind) :
 Calls Tryz.prog 41 #[.pointer Mv,callV ⟨kind,id,tick,val,handle,p⟩] w (jP w (repV (repF 14))):=by
 obtain ⟨p0,p1,p2,p3,p4,p5⟩:=p;unfold callV;dsimp only
 rcases hk with h|h
 all_goals
   have z9:¬(kind<1∧8<kind):=by omega
   go_enter Tryz.func41,Tryz.ntmps41
   go_upto_region 1 with fail
   refine name_world ?_;intro W1 hW1;obtain ⟨HB1,HX0,HX1⟩:=boxesF w _ _ W1 hW1;clear hW1 z9;obtain ⟨b1,b2,b3⟩:=box_cells jR HX0.out;obtain ⟨y1,y2,y3⟩:=box_cells jR HX1.out;go_wp2_with fail
   refine post_named ?_;intro W9 hW9;have hW9':W9=stor W1 (w.heap.size+1) 0 (repC (repF 14)):=hW9;obtain ⟨t1,t2,t3,t4⟩:=stor_at HX1.out (repC (repF 14)) rfl W9 hW9';obtain ⟨a9,a8,a7⟩:=box_cells jR t1;clear hW9 hW9';exact bodyPost_ret (v:=repV (repF 14)) (by simp [results,Tryz.results41,go_sem,a9,repV,repC,repF,st0,adv0]) rfl ⟨rfl,HB1.out.trans (t4 _ (Nat.le_succ _))⟩
theorem flDo_id1 (Mv:Option Addr) (id:ByteArray) (tick val handle:Int) (p:Pol) (w:World) (hm:id.size≤maxLen) (hid:idS id=false) :
 Calls Tryz.prog 41 #[.pointer Mv,callV ⟨1,id,tick,val,handle,p⟩] w (jP w (repV (repF 2))):=by
 have CK:=jH (fun W=>show Calls Tryz.prog 78 #[.string id] W (jP W (.int .i64 2)) from by
  have h1:=check_any id W hm;rw [show chkV id=2 by unfold chkV;rw [if_neg (by rw [hid];simp)]] at h1;exact h1)
 obtain ⟨p0,p1,p2,p3,p4,p5⟩:=p;unfold callV;dsimp only;clear hm hid
 go_enter Tryz.func41,Tryz.ntmps41
 go_wp2_with (first
  | (go_at_call 78
     refine calls_named ?_;intro W1 hW1;obtain ⟨HB1,HX0,HX1⟩:=boxesF w _ _ W1 hW1;clear hW1;refine (CK.out W1).mono ?_;rintro e w2 ⟨rfl,hb2⟩;obtain ⟨HB2,HX02,HX12⟩:=keepHF hb2 HB1 HX0 HX1;clear hb2;obtain ⟨b1,b2,b3⟩:=box_cells jR HX02.out;obtain ⟨y1,y2,y3⟩:=box_cells jR HX12.out))
 refine post_named ?_;intro W9 hW9;have hW9':W9=stor w2 (w.heap.size+1) 0 (repC (repF 2)):=hW9;obtain ⟨t1,t2,t3,t4⟩:=stor_at HX12.out (repC (repF 2)) rfl W9 hW9';obtain ⟨a9,a8,a7⟩:=box_cells jR t1;clear hW9 hW9';exact bodyPost_ret (v:=repV (repF 2)) (by simp [results,Tryz.results41,go_sem,a9,repV,repC,repF,st0,adv0]) rfl ⟨rfl,HB2.out.trans (t4 _ (Nat.le_succ _))⟩
theorem flDo_id5 (Mv:Option Addr) (id:ByteArray) (tick val handle:Int) (p:Pol) (w:World) (hm:id.size≤maxLen) (hid:idS id=false) :
 Calls Tryz.prog 41 #[.pointer Mv,callV ⟨5,id,tick,val,handle,p⟩] w (jP w (repV (repF 2))):=by
 have CK:=jH (fun W=>show Calls Tryz.prog 78 #[.string id] W (jP W (.int .i64 2)) from by
  have h1:=check_any id W hm;rw [show chkV id=2 by unfold chkV;rw [if_neg (by rw [hid];simp)]] at h1;exact h1)
 obtain ⟨p0,p1,p2,p3,p4,p5⟩:=p;unfold callV;dsimp only;clear hm hid
 go_enter Tryz.func41,Tryz.ntmps41
 go_wp2_with (first
  | (go_at_call 78
     refine calls_named ?_;intro W1 hW1;obtain ⟨HB1,HX0,HX1⟩:=boxesF w _ _ W1 hW1;clear hW1;refine (CK.out W1).mono ?_;rintro e w2 ⟨rfl,hb2⟩;obtain ⟨HB2,HX02,HX12⟩:=keepHF hb2 HB1 HX0 HX1;clear hb2;obtain ⟨b1,b2,b3⟩:=box_cells jR HX02.out;obtain ⟨y1,y2,y3⟩:=box_cells jR HX12.out))
 refine post_named ?_;intro W9 hW9;have hW9':W9=stor w2 (w.heap.size+1) 0 (repC (repF 2)):=hW9;obtain ⟨t1,t2,t3,t4⟩:=stor_at HX12.out (repC (repF 2)) rfl W9 hW9';obtain ⟨a9,a8,a7⟩:=box_cells jR t1;clear hW9 hW9';exact bodyPost_ret (v:=repV (repF 2)) (by simp [results,Tryz.results41,go_sem,a9,repV,repC,repF,st0,adv0]) rfl ⟨rfl,HB2.out.trans (t4 _ (Nat.le_succ _))⟩
theorem flDo_id6 (Mv:Option Addr) (id:ByteArray) (tick val handle:Int) (p:Pol) (w:World) (hm:id.size≤maxLen) (hid:idS id=false) :
 Calls Tryz.prog 41 #[.pointer Mv,callV ⟨6,id,tick,val,handle,p⟩] w (jP w (repV (repF 2))):=by
 have CK:=jH (fun W=>show Calls Tryz.prog 78 #[.string id] W (jP W (.int .i64 2)) from by
  have h1:=check_any id W hm;rw [show chkV id=2 by unfold chkV;rw [if_neg (by rw [hid];simp)]] at h1;exact h1)
 obtain ⟨p0,p1,p2,p3,p4,p5⟩:=p;unfold callV;dsimp only;clear hm hid
 go_enter Tryz.func41,Tryz.ntmps41
 go_wp2_with (first
  | (go_at_call 78
     refine calls_named ?_;intro W1 hW1;obtain ⟨HB1,HX0,HX1⟩:=boxesF w _ _ W1 hW1;clear hW1;refine (CK.out W1).mono ?_;rintro e w2 ⟨rfl,hb2⟩;obtain ⟨HB2,HX02,HX12⟩:=keepHF hb2 HB1 HX0 HX1;clear hb2;obtain ⟨b1,b2,b3⟩:=box_cells jR HX02.out;obtain ⟨y1,y2,y3⟩:=box_cells jR HX12.out))
 refine post_named ?_;intro W9 hW9;have hW9':W9=stor w2 (w.heap.size+1) 0 (repC (repF 2)):=hW9;obtain ⟨t1,t2,t3,t4⟩:=stor_at HX12.out (repC (repF 2)) rfl W9 hW9';obtain ⟨a9,a8,a7⟩:=box_cells jR t1;clear hW9 hW9';exact bodyPost_ret (v:=repV (repF 2)) (by simp [results,Tryz.results41,go_sem,a9,repV,repC,repF,st0,adv0]) rfl ⟨rfl,HB2.out.trans (t4 _ (Nat.le_succ _))⟩
theorem flDo_id7 (Mv:Option Addr) (id:ByteArray) (tick val handle:Int) (p:Pol) (w:World) (hm:id.size≤maxLen) (hid:idS id=false) :
 Calls Tryz.prog 41 #[.pointer Mv,callV ⟨7,id,tick,val,handle,p⟩] w (jP w (repV (repF 2))):=by
 have CK:=jH (fun W=>show Calls Tryz.prog 78 #[.string id] W (jP W (.int .i64 2)) from by
  have h1:=check_any id W hm;rw [show chkV id=2 by unfold chkV;rw [if_neg (by rw [hid];simp)]] at h1;exact h1)
 obtain ⟨p0,p1,p2,p3,p4,p5⟩:=p;unfold callV;dsimp only;clear hm hid
 go_enter Tryz.func41,Tryz.ntmps41
 go_wp2_with (first
  | (go_at_call 78
     refine calls_named ?_;intro W1 hW1;obtain ⟨HB1,HX0,HX1⟩:=boxesF w _ _ W1 hW1;clear hW1;refine (CK.out W1).mono ?_;rintro e w2 ⟨rfl,hb2⟩;obtain ⟨HB2,HX02,HX12⟩:=keepHF hb2 HB1 HX0 HX1;clear hb2;obtain ⟨b1,b2,b3⟩:=box_cells jR HX02.out;obtain ⟨y1,y2,y3⟩:=box_cells jR HX12.out))
 refine post_named ?_;intro W9 hW9;have hW9':W9=stor w2 (w.heap.size+1) 0 (repC (repF 2)):=hW9;obtain ⟨t1,t2,t3,t4⟩:=stor_at HX12.out (repC (repF 2)) rfl W9 hW9';obtain ⟨a9,a8,a7⟩:=box_cells jR t1;clear hW9 hW9';exact bodyPost_ret (v:=repV (repF 2)) (by simp [results,Tryz.results41,go_sem,a9,repV,repC,repF,st0,adv0]) rfl ⟨rfl,HB2.out.trans (t4 _ (Nat.le_succ _))⟩
theorem flDo_1 {P:Nat→Prop} {w:World} {M:Nat} {c:Cfg} {rs rh n:Nat} {wd:Wd} {d:FlatD} (id:ByteArray) (tick val handle:Int) (p:Pol) (h:FW P w M c rs rh n wd d) (hP:∀b,w.heap.size≤b→P b) (hc:CfgOk c rs rh) (hn:n≤100000) (hx:(⟨1,id,tick,val,handle,p⟩:CallD).ok) (hid:idS id=true) :
 Calls Tryz.prog 41 #[.pointer (some ⟨M,0,none⟩),callV ⟨1,id,tick,val,handle,p⟩] w (FWSays P w M c rs rh (n+1) d.L (repV (doW c rs rh wd ⟨1,id,tick,val,handle,p⟩).2) (doW c rs rh wd ⟨1,id,tick,val,handle,p⟩).1):=by
 have hm:id.size≤maxLen:=hx.2.1;obtain ⟨ce,hce⟩:∃ce:Int,ce=chkV id:=⟨_,rfl⟩;have CK:=jH (fun W=>show Calls Tryz.prog 78 #[.string id] W (jP W (.int .i64 ce)) from by rw [hce];exact check_any id W hm);have hce0:ce=0:=by rw [hce];unfold chkV;rw [if_pos hid]
 subst hce0;clear hce;have CM:=jH (fun W (hW:jB w W)=>flMade_any W (h.at_.below hW));have CF:=jH (fun W (hW:jB w W) (hl:w.heap.size+1<W.heap.size)=>flM1 id tick val handle p (h.avoidX (X:=w.heap.size+1) (Nat.le_succ _) hW) (fun b hb=>⟨hP b (by have:=hW.size;omega),by omega⟩) hc hn hx hid);have HLT:=jH (And.intro h.at_.lt h.at_.map.lt);have HOFF:=jH h.at_.off;unfold FWSays at CF ⊢;generalize (doW c rs rh wd ⟨1,id,tick,val,handle,p⟩).1=wd9 at CF ⊢
 generalize (doW c rs rh wd ⟨1,id,tick,val,handle,p⟩).2=r9 at CF ⊢;obtain ⟨p0,p1,p2,p3,p4,p5⟩:=p
 (try unfold callV at CF)
 unfold callV
 (try dsimp only at CF)
 dsimp only;unfold repV repC at CF;clear h hP hc hn hx hm hid
 go_enter Tryz.func41,Tryz.ntmps41
 go_wp2_with (first
  | (go_at_call 78
     refine calls_named ?_;intro W1 hW1;obtain ⟨HB1,HX0,HX1⟩:=boxesF w _ _ W1 hW1;clear hW1;refine (CK.out W1).mono ?_;rintro e w2 ⟨rfl,hb2⟩;obtain ⟨HB2,HX02,HX12⟩:=keepHF hb2 HB1 HX0 HX1;clear hb2;obtain ⟨b1,b2,b3⟩:=box_cells jR HX02.out;obtain ⟨y1,y2,y3⟩:=box_cells jR HX12.out)
  | (go_at_call 48
     refine (CM.out w2 HB2.out).mono ?_;rintro e w3 ⟨rfl,rfl⟩)
  | (go_at_call 79
     refine (CF.out w3 HB2.out (jL HX12.out)).mono ?_;rintro e w4 ⟨d9,rfl,hf9,hL9,hu9⟩;have HF9:=jH hf9;have HL9:=jH hL9;have HU9:=jH hu9;have HX14:=jH ((hu9.block (w.heap.size+1) (jL HX12.out) (by have h1:=HLT.out.1;have h2:=HLT.out.2;simp only [List.mem_cons,List.not_mem_nil,or_false];omega)).trans HX12.out);have HU:=jH (Upd.trans (Upd.of_below HB2.out [M,d.L]) hu9);clear hf9 hL9 hu9 b1 b2 b3 y1 y2 y3
     obtain ⟨y1,y2,y3⟩:=box_cells jR HX14.out))
 refine post_named ?_;intro W9 hW9;have hW9':W9=stor w4 (w.heap.size+1) 0 (repC r9):=hW9;obtain ⟨t1,t2,t3,t4⟩:=stor_at HX14.out (repC r9) rfl W9 hW9';obtain ⟨a9,a8,a7⟩:=box_cells jR t1;clear hW9 hW9';have hfin:=HF9.out.fin (fun b hb=>by rw [HL9.out];exact HOFF.out b hb) (by rw [HL9.out];exact HU.out) (Nat.le_succ _) HLT.out.1 (by rw [HL9.out];exact HLT.out.2) t2 t3 t4;rw [HL9.out] at hfin;exact bodyPost_ret (v:=repV r9) (by simp [results,Tryz.results41,go_sem,a9,repV,repC]) rfl ⟨d9,rfl,hfin.1,HL9.out,hfin.2⟩
theorem flDo_2 {P:Nat→Prop} {w:World} {M:Nat} {c:Cfg} {rs rh n:Nat} {wd:Wd} {d:FlatD} (id:ByteArray) (tick val handle:Int) (p:Pol) (h:FW P w M c rs rh n wd d) (hP:∀b,w.heap.size≤b→P b) (hc:CfgOk c rs rh) (hn:n≤100000) (hx:(⟨2,id,tick,val,handle,p⟩:CallD).ok) :
 Calls Tryz.prog 41 #[.pointer (some ⟨M,0,none⟩),callV ⟨2,id,tick,val,handle,p⟩] w (FWSays P w M c rs rh (n+1) d.L (repV (doW c rs rh wd ⟨2,id,tick,val,handle,p⟩).2) (doW c rs rh wd ⟨2,id,tick,val,handle,p⟩).1):=by
 have hm:id.size≤maxLen:=hx.2.1;obtain ⟨ce,hce⟩:∃ce:Int,ce=chkV id:=⟨_,rfl⟩;have CK:=jH (fun W=>show Calls Tryz.prog 78 #[.string id] W (jP W (.int .i64 ce)) from by rw [hce];exact check_any id W hm);clear hce;have CM:=jH (fun W (hW:jB w W)=>flMade_any W (h.at_.below hW));have CF:=jH (fun W (hW:jB w W) (hl:w.heap.size+1<W.heap.size)=>flM2 id tick val handle p (h.avoidX (X:=w.heap.size+1) (Nat.le_succ _) hW) (fun b hb=>⟨hP b (by have:=hW.size;omega),by omega⟩) hc hn hx)
 have HLT:=jH (And.intro h.at_.lt h.at_.map.lt);have HOFF:=jH h.at_.off;unfold FWSays at CF ⊢;generalize (doW c rs rh wd ⟨2,id,tick,val,handle,p⟩).1=wd9 at CF ⊢;generalize (doW c rs rh wd ⟨2,id,tick,val,handle,p⟩).2=r9 at CF ⊢;obtain ⟨p0,p1,p2,p3,p4,p5⟩:=p
 (try unfold callV at CF)
 unfold callV
 (try dsimp only at CF)
 dsimp only;unfold repV repC at CF;clear h hP hc hn hx hm
 go_enter Tryz.func41,Tryz.ntmps41
 go_wp2_with (first
  | (go_at_call 78
     refine calls_named ?_;intro W1 hW1;obtain ⟨HB1,HX0,HX1⟩:=boxesF w _ _ W1 hW1;clear hW1;refine (CK.out W1).mono ?_;rintro e w2 ⟨rfl,hb2⟩;obtain ⟨HB2,HX02,HX12⟩:=keepHF hb2 HB1 HX0 HX1;clear hb2;obtain ⟨b1,b2,b3⟩:=box_cells jR HX02.out;obtain ⟨y1,y2,y3⟩:=box_cells jR HX12.out)
  | (go_at_call 48
     refine (CM.out w2 HB2.out).mono ?_;rintro e w3 ⟨rfl,rfl⟩)
  | (go_at_call 80
     refine (CF.out w3 HB2.out (jL HX12.out)).mono ?_;rintro e w4 ⟨d9,rfl,hf9,hL9,hu9⟩;have HF9:=jH hf9;have HL9:=jH hL9;have HU9:=jH hu9;have HX14:=jH ((hu9.block (w.heap.size+1) (jL HX12.out) (by have h1:=HLT.out.1;have h2:=HLT.out.2;simp only [List.mem_cons,List.not_mem_nil,or_false];omega)).trans HX12.out);have HU:=jH (Upd.trans (Upd.of_below HB2.out [M,d.L]) hu9);clear hf9 hL9 hu9 b1 b2 b3 y1 y2 y3
     obtain ⟨y1,y2,y3⟩:=box_cells jR HX14.out))
 refine post_named ?_;intro W9 hW9;have hW9':W9=stor w4 (w.heap.size+1) 0 (repC r9):=hW9;obtain ⟨t1,t2,t3,t4⟩:=stor_at HX14.out (repC r9) rfl W9 hW9';obtain ⟨a9,a8,a7⟩:=box_cells jR t1;clear hW9 hW9';have hfin:=HF9.out.fin (fun b hb=>by rw [HL9.out];exact HOFF.out b hb) (by rw [HL9.out];exact HU.out) (Nat.le_succ _) HLT.out.1 (by rw [HL9.out];exact HLT.out.2) t2 t3 t4;rw [HL9.out] at hfin;exact bodyPost_ret (v:=repV r9) (by simp [results,Tryz.results41,go_sem,a9,repV,repC]) rfl ⟨d9,rfl,hfin.1,HL9.out,hfin.2⟩
theorem flDo_3 {P:Nat→Prop} {w:World} {M:Nat} {c:Cfg} {rs rh n:Nat} {wd:Wd} {d:FlatD} (id:ByteArray) (tick val handle:Int) (p:Pol) (h:FW P w M c rs rh n wd d) (hP:∀b,w.heap.size≤b→P b) (hc:CfgOk c rs rh) (hn:n≤100000) (hx:(⟨3,id,tick,val,handle,p⟩:CallD).ok) :
 Calls Tryz.prog 41 #[.pointer (some ⟨M,0,none⟩),callV ⟨3,id,tick,val,handle,p⟩] w (FWSays P w M c rs rh (n+1) d.L (repV (doW c rs rh wd ⟨3,id,tick,val,handle,p⟩).2) (doW c rs rh wd ⟨3,id,tick,val,handle,p⟩).1):=by
 have hm:id.size≤maxLen:=hx.2.1;obtain ⟨ce,hce⟩:∃ce:Int,ce=chkV id:=⟨_,rfl⟩;have CK:=jH (fun W=>show Calls Tryz.prog 78 #[.string id] W (jP W (.int .i64 ce)) from by rw [hce];exact check_any id W hm);clear hce;have CM:=jH (fun W (hW:jB w W)=>flMade_any W (h.at_.below hW));have CF:=jH (fun W (hW:jB w W) (hl:w.heap.size+1<W.heap.size)=>flM3 id tick val handle p (h.avoidX (X:=w.heap.size+1) (Nat.le_succ _) hW) (fun b hb=>⟨hP b (by have:=hW.size;omega),by omega⟩) hc hn hx)
 have HLT:=jH (And.intro h.at_.lt h.at_.map.lt);have HOFF:=jH h.at_.off;unfold FWSays at CF ⊢;generalize (doW c rs rh wd ⟨3,id,tick,val,handle,p⟩).1=wd9 at CF ⊢;generalize (doW c rs rh wd ⟨3,id,tick,val,handle,p⟩).2=r9 at CF ⊢;obtain ⟨p0,p1,p2,p3,p4,p5⟩:=p
 (try unfold callV at CF)
 unfold callV
 (try dsimp only at CF)
 dsimp only;unfold repV repC at CF;clear h hP hc hn hx hm
 go_enter Tryz.func41,Tryz.ntmps41
 go_wp2_with (first
  | (go_at_call 78
     refine calls_named ?_;intro W1 hW1;obtain ⟨HB1,HX0,HX1⟩:=boxesF w _ _ W1 hW1;clear hW1;refine (CK.out W1).mono ?_;rintro e w2 ⟨rfl,hb2⟩;obtain ⟨HB2,HX02,HX12⟩:=keepHF hb2 HB1 HX0 HX1;clear hb2;obtain ⟨b1,b2,b3⟩:=box_cells jR HX02.out;obtain ⟨y1,y2,y3⟩:=box_cells jR HX12.out)
  | (go_at_call 48
     refine (CM.out w2 HB2.out).mono ?_;rintro e w3 ⟨rfl,rfl⟩)
  | (go_at_call 81
     refine (CF.out w3 HB2.out (jL HX12.out)).mono ?_;rintro e w4 ⟨d9,rfl,hf9,hL9,hu9⟩;have HF9:=jH hf9;have HL9:=jH hL9;have HU9:=jH hu9;have HX14:=jH ((hu9.block (w.heap.size+1) (jL HX12.out) (by have h1:=HLT.out.1;have h2:=HLT.out.2;simp only [List.mem_cons,List.not_mem_nil,or_false];omega)).trans HX12.out);have HU:=jH (Upd.trans (Upd.of_below HB2.out [M,d.L]) hu9);clear hf9 hL9 hu9 b1 b2 b3 y1 y2 y3
     obtain ⟨y1,y2,y3⟩:=box_cells jR HX14.out))
 refine post_named ?_;intro W9 hW9;have hW9':W9=stor w4 (w.heap.size+1) 0 (repC r9):=hW9;obtain ⟨t1,t2,t3,t4⟩:=stor_at HX14.out (repC r9) rfl W9 hW9';obtain ⟨a9,a8,a7⟩:=box_cells jR t1;clear hW9 hW9';have hfin:=HF9.out.fin (fun b hb=>by rw [HL9.out];exact HOFF.out b hb) (by rw [HL9.out];exact HU.out) (Nat.le_succ _) HLT.out.1 (by rw [HL9.out];exact HLT.out.2) t2 t3 t4;rw [HL9.out] at hfin;exact bodyPost_ret (v:=repV r9) (by simp [results,Tryz.results41,go_sem,a9,repV,repC]) rfl ⟨d9,rfl,hfin.1,HL9.out,hfin.2⟩
theorem flDo_4 {P:Nat→Prop} {w:World} {M:Nat} {c:Cfg} {rs rh n:Nat} {wd:Wd} {d:FlatD} (id:ByteArray) (tick val handle:Int) (p:Pol) (h:FW P w M c rs rh n wd d) (hP:∀b,w.heap.size≤b→P b) (hc:CfgOk c rs rh) (hn:n≤100000) (hx:(⟨4,id,tick,val,handle,p⟩:CallD).ok) :
 Calls Tryz.prog 41 #[.pointer (some ⟨M,0,none⟩),callV ⟨4,id,tick,val,handle,p⟩] w (FWSays P w M c rs rh (n+1) d.L (repV (doW c rs rh wd ⟨4,id,tick,val,handle,p⟩).2) (doW c rs rh wd ⟨4,id,tick,val,handle,p⟩).1):=by
 have hm:id.size≤maxLen:=hx.2.1;obtain ⟨ce,hce⟩:∃ce:Int,ce=chkV id:=⟨_,rfl⟩;have CK:=jH (fun W=>show Calls Tryz.prog 78 #[.string id] W (jP W (.int .i64 ce)) from by rw [hce];exact check_any id W hm);clear hce;have CM:=jH (fun W (hW:jB w W)=>flMade_any W (h.at_.below hW));have CF:=jH (fun W (hW:jB w W) (hl:w.heap.size+1<W.heap.size)=>flM4 id tick val handle p (h.avoidX (X:=w.heap.size+1) (Nat.le_succ _) hW) (fun b hb=>⟨hP b (by have:=hW.size;omega),by omega⟩) hc hn hx)
 have HLT:=jH (And.intro h.at_.lt h.at_.map.lt);have HOFF:=jH h.at_.off;unfold FWSays at CF ⊢;generalize (doW c rs rh wd ⟨4,id,tick,val,handle,p⟩).1=wd9 at CF ⊢;generalize (doW c rs rh wd ⟨4,id,tick,val,handle,p⟩).2=r9 at CF ⊢;obtain ⟨p0,p1,p2,p3,p4,p5⟩:=p
 (try unfold callV at CF)
 unfold callV
 (try dsimp only at CF)
 dsimp only;unfold repV repC at CF;clear h hP hc hn hx hm
 go_enter Tryz.func41,Tryz.ntmps41
 go_wp2_with (first
  | (go_at_call 78
     refine calls_named ?_;intro W1 hW1;obtain ⟨HB1,HX0,HX1⟩:=boxesF w _ _ W1 hW1;clear hW1;refine (CK.out W1).mono ?_;rintro e w2 ⟨rfl,hb2⟩;obtain ⟨HB2,HX02,HX12⟩:=keepHF hb2 HB1 HX0 HX1;clear hb2;obtain ⟨b1,b2,b3⟩:=box_cells jR HX02.out;obtain ⟨y1,y2,y3⟩:=box_cells jR HX12.out)
  | (go_at_call 48
     refine (CM.out w2 HB2.out).mono ?_;rintro e w3 ⟨rfl,rfl⟩)
  | (go_at_call 82
     refine (CF.out w3 HB2.out (jL HX12.out)).mono ?_;rintro e w4 ⟨d9,rfl,hf9,hL9,hu9⟩;have HF9:=jH hf9;have HL9:=jH hL9;have HU9:=jH hu9;have HX14:=jH ((hu9.block (w.heap.size+1) (jL HX12.out) (by have h1:=HLT.out.1;have h2:=HLT.out.2;simp only [List.mem_cons,List.not_mem_nil,or_false];omega)).trans HX12.out);have HU:=jH (Upd.trans (Upd.of_below HB2.out [M,d.L]) hu9);clear hf9 hL9 hu9 b1 b2 b3 y1 y2 y3
     obtain ⟨y1,y2,y3⟩:=box_cells jR HX14.out))
 refine post_named ?_;intro W9 hW9;have hW9':W9=stor w4 (w.heap.size+1) 0 (repC r9):=hW9;obtain ⟨t1,t2,t3,t4⟩:=stor_at HX14.out (repC r9) rfl W9 hW9';obtain ⟨a9,a8,a7⟩:=box_cells jR t1;clear hW9 hW9';have hfin:=HF9.out.fin (fun b hb=>by rw [HL9.out];exact HOFF.out b hb) (by rw [HL9.out];exact HU.out) (Nat.le_succ _) HLT.out.1 (by rw [HL9.out];exact HLT.out.2) t2 t3 t4;rw [HL9.out] at hfin;exact bodyPost_ret (v:=repV r9) (by simp [results,Tryz.results41,go_sem,a9,repV,repC]) rfl ⟨d9,rfl,hfin.1,HL9.out,hfin.2⟩
theorem flDo_5 {P:Nat→Prop} {w:World} {M:Nat} {c:Cfg} {rs rh n:Nat} {wd:Wd} {d:FlatD} (id:ByteArray) (tick val handle:Int) (p:Pol) (h:FW P w M c rs rh n wd d) (hP:∀b,w.heap.size≤b→P b) (hc:CfgOk c rs rh) (hn:n≤100000) (hx:(⟨5,id,tick,val,handle,p⟩:CallD).ok) (hid:idS id=true) :
 Calls Tryz.prog 41 #[.pointer (some ⟨M,0,none⟩),callV ⟨5,id,tick,val,handle,p⟩] w (FWSays P w M c rs rh (n+1) d.L (repV (doW c rs rh wd ⟨5,id,tick,val,handle,p⟩).2) (doW c rs rh wd ⟨5,id,tick,val,handle,p⟩).1):=by
 have hm:id.size≤maxLen:=hx.2.1;obtain ⟨ce,hce⟩:∃ce:Int,ce=chkV id:=⟨_,rfl⟩;have CK:=jH (fun W=>show Calls Tryz.prog 78 #[.string id] W (jP W (.int .i64 ce)) from by rw [hce];exact check_any id W hm);have hce0:ce=0:=by rw [hce];unfold chkV;rw [if_pos hid]
 subst hce0;clear hce;have CM:=jH (fun W (hW:jB w W)=>flMade_any W (h.at_.below hW));have CF:=jH (fun W (hW:jB w W) (hl:w.heap.size+1<W.heap.size)=>flM5 id tick val handle p (h.avoidX (X:=w.heap.size+1) (Nat.le_succ _) hW) (fun b hb=>⟨hP b (by have:=hW.size;omega),by omega⟩) hc hn hx hid);have HLT:=jH (And.intro h.at_.lt h.at_.map.lt);have HOFF:=jH h.at_.off;unfold FWSays at CF ⊢;generalize (doW c rs rh wd ⟨5,id,tick,val,handle,p⟩).1=wd9 at CF ⊢
 generalize (doW c rs rh wd ⟨5,id,tick,val,handle,p⟩).2=r9 at CF ⊢;obtain ⟨p0,p1,p2,p3,p4,p5⟩:=p
 (try unfold callV at CF)
 unfold callV
 (try dsimp only at CF)
 dsimp only;unfold repV repC at CF;clear h hP hc hn hx hm hid
 go_enter Tryz.func41,Tryz.ntmps41
 go_wp2_with (first
  | (go_at_call 78
     refine calls_named ?_;intro W1 hW1;obtain ⟨HB1,HX0,HX1⟩:=boxesF w _ _ W1 hW1;clear hW1;refine (CK.out W1).mono ?_;rintro e w2 ⟨rfl,hb2⟩;obtain ⟨HB2,HX02,HX12⟩:=keepHF hb2 HB1 HX0 HX1;clear hb2;obtain ⟨b1,b2,b3⟩:=box_cells jR HX02.out;obtain ⟨y1,y2,y3⟩:=box_cells jR HX12.out)
  | (go_at_call 48
     refine (CM.out w2 HB2.out).mono ?_;rintro e w3 ⟨rfl,rfl⟩)
  | (go_at_call 83
     refine (CF.out w3 HB2.out (jL HX12.out)).mono ?_;rintro e w4 ⟨d9,rfl,hf9,hL9,hu9⟩;have HF9:=jH hf9;have HL9:=jH hL9;have HU9:=jH hu9;have HX14:=jH ((hu9.block (w.heap.size+1) (jL HX12.out) (by have h1:=HLT.out.1;have h2:=HLT.out.2;simp only [List.mem_cons,List.not_mem_nil,or_false];omega)).trans HX12.out);have HU:=jH (Upd.trans (Upd.of_below HB2.out [M,d.L]) hu9);clear hf9 hL9 hu9 b1 b2 b3 y1 y2 y3
     obtain ⟨y1,y2,y3⟩:=box_cells jR HX14.out))
 refine post_named ?_;intro W9 hW9;have hW9':W9=stor w4 (w.heap.size+1) 0 (repC r9):=hW9;obtain ⟨t1,t2,t3,t4⟩:=stor_at HX14.out (repC r9) rfl W9 hW9';obtain ⟨a9,a8,a7⟩:=box_cells jR t1;clear hW9 hW9';have hfin:=HF9.out.fin (fun b hb=>by rw [HL9.out];exact HOFF.out b hb) (by rw [HL9.out];exact HU.out) (Nat.le_succ _) HLT.out.1 (by rw [HL9.out];exact HLT.out.2) t2 t3 t4;rw [HL9.out] at hfin;exact bodyPost_ret (v:=repV r9) (by simp [results,Tryz.results41,go_sem,a9,repV,repC]) rfl ⟨d9,rfl,hfin.1,HL9.out,hfin.2⟩
theorem flDo_6 {P:Nat→Prop} {w:World} {M:Nat} {c:Cfg} {rs rh n:Nat} {wd:Wd} {d:FlatD} (id:ByteArray) (tick val handle:Int) (p:Pol) (h:FW P w M c rs rh n wd d) (hP:∀b,w.heap.size≤b→P b) (hc:CfgOk c rs rh) (hn:n≤100000) (hx:(⟨6,id,tick,val,handle,p⟩:CallD).ok) (hid:idS id=true) :
 Calls Tryz.prog 41 #[.pointer (some ⟨M,0,none⟩),callV ⟨6,id,tick,val,handle,p⟩] w (FWSays P w M c rs rh (n+1) d.L (repV (doW c rs rh wd ⟨6,id,tick,val,handle,p⟩).2) (doW c rs rh wd ⟨6,id,tick,val,handle,p⟩).1):=by
 have hm:id.size≤maxLen:=hx.2.1;obtain ⟨ce,hce⟩:∃ce:Int,ce=chkV id:=⟨_,rfl⟩;have CK:=jH (fun W=>show Calls Tryz.prog 78 #[.string id] W (jP W (.int .i64 ce)) from by rw [hce];exact check_any id W hm);have hce0:ce=0:=by rw [hce];unfold chkV;rw [if_pos hid]
 subst hce0;clear hce;have CM:=jH (fun W (hW:jB w W)=>flMade_any W (h.at_.below hW));have CF:=jH (fun W (hW:jB w W) (hl:w.heap.size+1<W.heap.size)=>flM6 id tick val handle p (h.avoidX (X:=w.heap.size+1) (Nat.le_succ _) hW) (fun b hb=>⟨hP b (by have:=hW.size;omega),by omega⟩) hc hn hx hid);have HLT:=jH (And.intro h.at_.lt h.at_.map.lt);have HOFF:=jH h.at_.off;unfold FWSays at CF ⊢;generalize (doW c rs rh wd ⟨6,id,tick,val,handle,p⟩).1=wd9 at CF ⊢
 generalize (doW c rs rh wd ⟨6,id,tick,val,handle,p⟩).2=r9 at CF ⊢;obtain ⟨p0,p1,p2,p3,p4,p5⟩:=p
 (try unfold callV at CF)
 unfold callV
 (try dsimp only at CF)
 dsimp only;unfold repV repC at CF;clear h hP hc hn hx hm hid
 go_enter Tryz.func41,Tryz.ntmps41
 go_wp2_with (first
  | (go_at_call 78
     refine calls_named ?_;intro W1 hW1;obtain ⟨HB1,HX0,HX1⟩:=boxesF w _ _ W1 hW1;clear hW1;refine (CK.out W1).mono ?_;rintro e w2 ⟨rfl,hb2⟩;obtain ⟨HB2,HX02,HX12⟩:=keepHF hb2 HB1 HX0 HX1;clear hb2;obtain ⟨b1,b2,b3⟩:=box_cells jR HX02.out;obtain ⟨y1,y2,y3⟩:=box_cells jR HX12.out)
  | (go_at_call 48
     refine (CM.out w2 HB2.out).mono ?_;rintro e w3 ⟨rfl,rfl⟩)
  | (go_at_call 84
     refine (CF.out w3 HB2.out (jL HX12.out)).mono ?_;rintro e w4 ⟨d9,rfl,hf9,hL9,hu9⟩;have HF9:=jH hf9;have HL9:=jH hL9;have HU9:=jH hu9;have HX14:=jH ((hu9.block (w.heap.size+1) (jL HX12.out) (by have h1:=HLT.out.1;have h2:=HLT.out.2;simp only [List.mem_cons,List.not_mem_nil,or_false];omega)).trans HX12.out);have HU:=jH (Upd.trans (Upd.of_below HB2.out [M,d.L]) hu9);clear hf9 hL9 hu9 b1 b2 b3 y1 y2 y3
     obtain ⟨y1,y2,y3⟩:=box_cells jR HX14.out))
 refine post_named ?_;intro W9 hW9;have hW9':W9=stor w4 (w.heap.size+1) 0 (repC r9):=hW9;obtain ⟨t1,t2,t3,t4⟩:=stor_at HX14.out (repC r9) rfl W9 hW9';obtain ⟨a9,a8,a7⟩:=box_cells jR t1;clear hW9 hW9';have hfin:=HF9.out.fin (fun b hb=>by rw [HL9.out];exact HOFF.out b hb) (by rw [HL9.out];exact HU.out) (Nat.le_succ _) HLT.out.1 (by rw [HL9.out];exact HLT.out.2) t2 t3 t4;rw [HL9.out] at hfin;exact bodyPost_ret (v:=repV r9) (by simp [results,Tryz.results41,go_sem,a9,repV,repC]) rfl ⟨d9,rfl,hfin.1,HL9.out,hfin.2⟩
theorem flDo_7 {P:Nat→Prop} {w:World} {M:Nat} {c:Cfg} {rs rh n:Nat} {wd:Wd} {d:FlatD} (id:ByteArray) (tick val handle:Int) (p:Pol) (h:FW P w M c rs rh n wd d) (hP:∀b,w.heap.size≤b→P b) (hc:CfgOk c rs rh) (hn:n≤100000) (hx:(⟨7,id,tick,val,handle,p⟩:CallD).ok) (hid:idS id=true) :
 Calls Tryz.prog 41 #[.pointer (some ⟨M,0,none⟩),callV ⟨7,id,tick,val,handle,p⟩] w (FWSays P w M c rs rh (n+1) d.L (repV (doW c rs rh wd ⟨7,id,tick,val,handle,p⟩).2) (doW c rs rh wd ⟨7,id,tick,val,handle,p⟩).1):=by
 have hm:id.size≤maxLen:=hx.2.1;obtain ⟨ce,hce⟩:∃ce:Int,ce=chkV id:=⟨_,rfl⟩;have CK:=jH (fun W=>show Calls Tryz.prog 78 #[.string id] W (jP W (.int .i64 ce)) from by rw [hce];exact check_any id W hm);have hce0:ce=0:=by rw [hce];unfold chkV;rw [if_pos hid]
 subst hce0;clear hce;have CM:=jH (fun W (hW:jB w W)=>flMade_any W (h.at_.below hW));have CF:=jH (fun W (hW:jB w W) (hl:w.heap.size+1<W.heap.size)=>flM7 id tick val handle p (h.avoidX (X:=w.heap.size+1) (Nat.le_succ _) hW) (fun b hb=>⟨hP b (by have:=hW.size;omega),by omega⟩) hc hn hx hid);have HLT:=jH (And.intro h.at_.lt h.at_.map.lt);have HOFF:=jH h.at_.off;unfold FWSays at CF ⊢;generalize (doW c rs rh wd ⟨7,id,tick,val,handle,p⟩).1=wd9 at CF ⊢
 generalize (doW c rs rh wd ⟨7,id,tick,val,handle,p⟩).2=r9 at CF ⊢;obtain ⟨p0,p1,p2,p3,p4,p5⟩:=p
 (try unfold callV at CF)
 unfold callV
 (try dsimp only at CF)
 dsimp only;unfold repV repC at CF;clear h hP hc hn hx hm hid
 go_enter Tryz.func41,Tryz.ntmps41
 go_wp2_with (first
  | (go_at_call 78
     refine calls_named ?_;intro W1 hW1;obtain ⟨HB1,HX0,HX1⟩:=boxesF w _ _ W1 hW1;clear hW1;refine (CK.out W1).mono ?_;rintro e w2 ⟨rfl,hb2⟩;obtain ⟨HB2,HX02,HX12⟩:=keepHF hb2 HB1 HX0 HX1;clear hb2;obtain ⟨b1,b2,b3⟩:=box_cells jR HX02.out;obtain ⟨y1,y2,y3⟩:=box_cells jR HX12.out)
  | (go_at_call 48
     refine (CM.out w2 HB2.out).mono ?_;rintro e w3 ⟨rfl,rfl⟩)
  | (go_at_call 85
     refine (CF.out w3 HB2.out (jL HX12.out)).mono ?_;rintro e w4 ⟨d9,rfl,hf9,hL9,hu9⟩;have HF9:=jH hf9;have HL9:=jH hL9;have HU9:=jH hu9;have HX14:=jH ((hu9.block (w.heap.size+1) (jL HX12.out) (by have h1:=HLT.out.1;have h2:=HLT.out.2;simp only [List.mem_cons,List.not_mem_nil,or_false];omega)).trans HX12.out);have HU:=jH (Upd.trans (Upd.of_below HB2.out [M,d.L]) hu9);clear hf9 hL9 hu9 b1 b2 b3 y1 y2 y3
     obtain ⟨y1,y2,y3⟩:=box_cells jR HX14.out))
 refine post_named ?_;intro W9 hW9;have hW9':W9=stor w4 (w.heap.size+1) 0 (repC r9):=hW9;obtain ⟨t1,t2,t3,t4⟩:=stor_at HX14.out (repC r9) rfl W9 hW9';obtain ⟨a9,a8,a7⟩:=box_cells jR t1;clear hW9 hW9';have hfin:=HF9.out.fin (fun b hb=>by rw [HL9.out];exact HOFF.out b hb) (by rw [HL9.out];exact HU.out) (Nat.le_succ _) HLT.out.1 (by rw [HL9.out];exact HLT.out.2) t2 t3 t4;rw [HL9.out] at hfin;exact bodyPost_ret (v:=repV r9) (by simp [results,Tryz.results41,go_sem,a9,repV,repC]) rfl ⟨d9,rfl,hfin.1,HL9.out,hfin.2⟩
theorem FlatAt.shut {P:Nat→Prop} {w w8:World} {M:Nat} {c:Cfg} {rs rh n m:Nat} {wd:Wd} {d:FlatD} (h:FlatAt P w M c rs rh n wd d) (hs:w.heap.size≤w8.heap.size) (hk:∀b,b≠M→b<w.heap.size→w8.heap[b]?=w.heap[b]?)
    (hcell:w8.heap[M]?=some (.cells #[.int .i64 c.st,.int .i64 c.sa,.int .i64 c.lo,.int .i64 c.hi,.map (some d.L),.slice d.A d.cuts.length d.cp,.int .i64 wd.ep,.bool true] 97 (0,0))) :
    FlatAt P w8 M c rs rh m { wd with over:=true } d:=by
  have hkP:∀b,P b→b<w.heap.size→w8.heap[b]?=w.heap[b]?∧P b:=fun b hP hlt=>⟨hk b (h.off b hP).1 hlt,hP⟩
  refine ⟨⟨hcell,h.map.block (hk d.L (fun e=>h.ne e.symm) h.map.lt),h.ne,h.off,fun p hp=>(h.rows p hp).keepG hs hkP,h.len,h.row.keepG hs hkP,fun i x q hx hq=>⟨(h.cut i x q hx hq).1,fun hf=>?_⟩⟩,h.tells.same rfl⟩;obtain ⟨h1,l2,h2,h3,h4,h5,h6⟩:=(h.cut i x q hx hq).2 hf;exact ⟨h1,l2,h2,h3,h4.block (hkP l2 h3 h4.lt).1,fun p hp=>(h5 p hp).keepG hs hkP,h6⟩
theorem flDo_8 {P:Nat→Prop} {w:World} {M:Nat} {c:Cfg} {rs rh n:Nat} {wd:Wd} {d:FlatD} (id:ByteArray) (tick val handle:Int) (p:Pol) (h:FW P w M c rs rh n wd d) (hP:∀b,w.heap.size≤b→P b) (hc:CfgOk c rs rh) (hn:n≤100000) (hx:(⟨8,id,tick,val,handle,p⟩:CallD).ok) :
 Calls Tryz.prog 41 #[.pointer (some ⟨M,0,none⟩),callV ⟨8,id,tick,val,handle,p⟩] w (FWSays P w M c rs rh (n+1) d.L (repV (doW c rs rh wd ⟨8,id,tick,val,handle,p⟩).2) (doW c rs rh wd ⟨8,id,tick,val,handle,p⟩).1):=by
 have hm:id.size≤maxLen:=hx.2.1;obtain ⟨ce,hce⟩:∃ce:Int,ce=chkV id:=⟨_,rfl⟩;have CK:=jH (fun W=>show Calls Tryz.prog 78 #[.string id] W (jP W (.int .i64 ce)) from by rw [hce];exact check_any id W hm);have CM:=jH (fun W (hW:jB w W)=>flMade_any W (h.at_.below hW));have hd8:(doW c rs rh wd ⟨8,id,tick,val,handle,p⟩)=if wd.over=true then (wd,repF 9) else ({ wd with over:=true },repF 0):=by
  unfold doW;rw [chk_348 (.inr (.inr rfl))];rfl
 rw [hd8];have HC:=jH h.at_.cell;have HLT:=jH (And.intro h.at_.lt h.at_.map.lt);obtain ⟨p0,p1,p2,p3,p4,p5⟩:=p
 by_cases hov:wd.over=true
 · rw [if_pos hov]
   have HH:=jH h;rw [hov] at HC;unfold callV;dsimp only;unfold FWSays;clear h hP hc hn hx hm hce hd8 hov
   go_enter Tryz.func41,Tryz.ntmps41
   go_wp2_with (first
   | (go_at_call 78
      refine calls_named ?_;intro W1 hW1;obtain ⟨HB1,HX0,HX1⟩:=boxesF w _ _ W1 hW1;clear hW1;refine (CK.out W1).mono ?_;rintro e w2 ⟨rfl,hb2⟩;obtain ⟨HB2,HX02,HX12⟩:=keepHF hb2 HB1 HX0 HX1;clear hb2;obtain ⟨b1,b2,b3⟩:=box_cells jR HX02.out;obtain ⟨y1,y2,y3⟩:=box_cells jR HX12.out)
   | (go_at_call 48
      refine (CM.out w2 HB2.out).mono ?_;rintro e w3 ⟨rfl,rfl⟩;obtain ⟨m1,m2,m3⟩:=box_cells HB2.out HC.out))
   refine post_named ?_;intro W9 hW9;have hW9':W9=stor w3 (w.heap.size+1) 0 (repC (repF 9)):=hW9;obtain ⟨t1,t2,t3,t4⟩:=stor_at HX12.out (repC (repF 9)) rfl W9 hW9';obtain ⟨a9,a8,a7⟩:=box_cells jR t1;clear hW9 hW9';exact bodyPost_ret (v:=repV (repF 9)) (by simp [results,Tryz.results41,go_sem,a9,repV,repC,repF,st0,adv0]) rfl (HH.out.same (Nat.le_succ _) (HB2.out.trans (t4 _ (Nat.le_succ _))))
 · have hof:wd.over=false:=by simpa using hov
   rw [if_neg hov];rw [hof] at HC;have hav:=h.avoidX (X:=w.heap.size+1) (Nat.le_succ _) jR
   have HFIN:=jH (show ∀(W8 W9:World),w.heap.size≤W8.heap.size→(∀b,b≠M→b<w.heap.size→W8.heap[b]?=w.heap[b]?) →
       W8.heap[M]?=some (.cells #[.int .i64 c.st,.int .i64 c.sa,.int .i64 c.lo,.int .i64 c.hi,.map (some d.L),.slice d.A d.cuts.length d.cp,.int .i64 wd.ep,.bool true] 97 (0,0))→W8.os=w.os→W8.tape=w.tape→W8.output=w.output →
       (∀k,k≠w.heap.size+1→W9.heap[k]?=W8.heap[k]?)→W9.heap.size=W8.heap.size→(∀n,n≤w.heap.size+1→Below n W8 W9) →
       FWSays P w M c rs rh (n+1) d.L (repV (repF 0)) { wd with over:=true } (.returned (repV (repF 0))) W9 from fun W8 W9 hs hk hcell ho1 ho2 ho3 h4 h5 h6=>by
     have h1:=hav.at_.shut (m:=n+1) hs hk hcell;have hwd:WdOk c rs rh (n+1) { wd with over:=true }:=by
      have h9:=doW_ok h.ok (okSt_bd _ hc.st).2 (by have hcb:=hc.cfg;unfold cfgB at hcb;simp only [Bool.and_eq_true,decide_eq_true_eq] at hcb;omega) hc.room.h1 hx;rw [hd8,if_neg hov] at h9;exact h9
     have h2:Upd w W8 [M,d.L] [M,d.L]:=⟨ho1,ho2,ho3,hs,fun k hlt hn=>hk k (fun e=>hn (by rw [e];simp)) hlt,fun k hk=>.inl hk⟩;have h3:=FW.fin (d:=d) ⟨h1,hwd⟩ h.at_.off h2 (Nat.le_succ _) h.at_.lt h.at_.map.lt h4 h5 h6;exact ⟨_,rfl,h3.1,rfl,h3.2⟩)
   unfold callV;dsimp only;clear h hP hc hn hx hm hce hd8 hov hof hav
   go_enter Tryz.func41,Tryz.ntmps41
   go_upto_region 27 with (first
   | (go_at_call 78
      refine calls_named ?_;intro W1 hW1;obtain ⟨HB1,HX0,HX1⟩:=boxesF w _ _ W1 hW1;clear hW1;refine (CK.out W1).mono ?_;rintro e w2 ⟨rfl,hb2⟩;obtain ⟨HB2,HX02,HX12⟩:=keepHF hb2 HB1 HX0 HX1;clear hb2;obtain ⟨b1,b2,b3⟩:=box_cells jR HX02.out;obtain ⟨y1,y2,y3⟩:=box_cells jR HX12.out)
   | (go_at_call 48
      refine (CM.out w2 HB2.out).mono ?_;rintro e w3 ⟨rfl,rfl⟩;obtain ⟨m1,m2,m3⟩:=box_cells HB2.out HC.out))
   refine name_world ?_;intro W4 hW4;have hXM:w.heap.size+1≠M:=by have:=HLT.out.1;omega
   have HM4:=jH (show W4.heap[M]?=some (.cells #[.int .i64 c.st,.int .i64 c.sa,.int .i64 c.lo,.int .i64 c.hi,.map (some d.L),.slice d.A d.cuts.length d.cp,.int .i64 wd.ep,.bool true] 97 (0,0)) by rw [hW4];exact setCell_block ((HB2.out.block M HLT.out.1).trans HC.out));have HX4:=jH ((show W4.heap[w.heap.size+1]?=w3.heap[w.heap.size+1]? by rw [hW4];exact heap_set_ne rfl hXM).trans HX12.out);have HK4:=jH (show ∀b,b≠M→b<w.heap.size→W4.heap[b]?=w.heap[b]? from fun b hb hlt=>by rw [hW4];exact (heap_set_ne rfl hb).trans (HB2.out.block b hlt))
   have HZ4:=jH (show w.heap.size≤W4.heap.size∧W4.os=w.os∧W4.tape=w.tape∧W4.output=w.output by rw [hW4];exact ⟨by have:=HB2.out.size;simpa [World.setCell] using this,HB2.out.os,HB2.out.tape,HB2.out.output⟩);clear hW4 b1 b2 b3 y1 y2 y3 m1 m2 m3 hXM;obtain ⟨y1,y2,y3⟩:=box_cells jR HX4.out;go_wp2_with fail
   refine post_named ?_;intro W9 hW9;have hW9':W9=stor W4 (w.heap.size+1) 0 (repC (repF 0)):=hW9;obtain ⟨t1,t2,t3,t4⟩:=stor_at HX4.out (repC (repF 0)) rfl W9 hW9';obtain ⟨a9,a8,a7⟩:=box_cells jR t1;clear hW9 hW9';exact bodyPost_ret (v:=repV (repF 0)) (by simp [results,Tryz.results41,go_sem,a9,repV,repC,repF,st0,adv0]) rfl (HFIN.out W4 W9 HZ4.out.1 HK4.out HM4.out HZ4.out.2.1 HZ4.out.2.2.1 HZ4.out.2.2.2 t2 t3 t4)
theorem flDo_any {P:Nat→Prop} {w:World} {M:Nat} {c:Cfg} {rs rh n:Nat} {wd:Wd} {d:FlatD} (x:CallD) (h:FW P w M c rs rh n wd d) (hP:∀b,w.heap.size≤b→P b) (hc:CfgOk c rs rh) (hn:n≤100000) (hx:x.ok) :
 Calls Tryz.prog 41 #[.pointer (some ⟨M,0,none⟩),callV x] w (FWSays P w M c rs rh (n+1) d.L (repV (doW c rs rh wd x).2) (doW c rs rh wd x).1):=by
 obtain ⟨kind,id,tick,val,handle,p⟩:=x;have hbad:∀e:Int,e≠0→chkC ⟨kind,id,tick,val,handle,p⟩=e→doW c rs rh wd ⟨kind,id,tick,val,handle,p⟩=(wd,repF e):=fun e he hck=>by
  unfold doW;rw [hck,if_pos he]
 by_cases hk:kind<1∨8<kind
 · rw [hbad 14 (by decide) (by unfold chkC;rw [if_pos hk])]
   refine (flDo_kind (some ⟨M,0,none⟩) kind id tick val handle p w hk).mono ?_;rintro e w' ⟨rfl,hb⟩;exact h.same (Nat.le_succ _) hb
 have hid2:∀K:Int,(K=1∨K=5∨K=6∨K=7)→kind=K→idS id=false→doW c rs rh wd ⟨kind,id,tick,val,handle,p⟩=(wd,repF 2):=fun K hK hkk hid=>hbad 2 (by decide) (by rw [hkk];exact chk_named hK id tick val handle p hid)
 have hcase:kind=1∨kind=2∨kind=3∨kind=4∨kind=5∨kind=6∨kind=7∨kind=8:=by omega
 cases hid:idS id with
 | true =>
   rcases hcase with rfl|rfl|rfl|rfl|rfl|rfl|rfl|rfl
   · exact flDo_1 id tick val handle p h hP hc hn hx hid
   · exact flDo_2 id tick val handle p h hP hc hn hx
   · exact flDo_3 id tick val handle p h hP hc hn hx
   · exact flDo_4 id tick val handle p h hP hc hn hx
   · exact flDo_5 id tick val handle p h hP hc hn hx hid
   · exact flDo_6 id tick val handle p h hP hc hn hx hid
   · exact flDo_7 id tick val handle p h hP hc hn hx hid
   · exact flDo_8 id tick val handle p h hP hc hn hx
 | false =>
   rcases hcase with rfl|rfl|rfl|rfl|rfl|rfl|rfl|rfl
   · rw [hid2 1 (by simp) rfl hid]
     refine (flDo_id1 (some ⟨M,0,none⟩) id tick val handle p w hx.2.1 hid).mono ?_;rintro e w' ⟨rfl,hb⟩;exact h.same (Nat.le_succ _) hb
   · exact flDo_2 id tick val handle p h hP hc hn hx
   · exact flDo_3 id tick val handle p h hP hc hn hx
   · exact flDo_4 id tick val handle p h hP hc hn hx
   · rw [hid2 5 (by simp) rfl hid]
     refine (flDo_id5 (some ⟨M,0,none⟩) id tick val handle p w hx.2.1 hid).mono ?_;rintro e w' ⟨rfl,hb⟩;exact h.same (Nat.le_succ _) hb
   · rw [hid2 6 (by simp) rfl hid]
     refine (flDo_id6 (some ⟨M,0,none⟩) id tick val handle p w hx.2.1 hid).mono ?_;rintro e w' ⟨rfl,hb⟩;exact h.same (Nat.le_succ _) hb
   · rw [hid2 7 (by simp) rfl hid]
     refine (flDo_id7 (some ⟨M,0,none⟩) id tick val handle p w hx.2.1 hid).mono ?_;rintro e w' ⟨rfl,hb⟩;exact h.same (Nat.le_succ _) hb
   · exact flDo_8 id tick val handle p h hP hc hn hx
end
end Go.Proofs.YtkcdhaallnhhmaaGreat
