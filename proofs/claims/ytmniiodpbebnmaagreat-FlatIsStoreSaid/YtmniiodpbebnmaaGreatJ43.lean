/- Part 43 of the proof. -/
import Derived.Test.YtmniiodpbebnmaaGreatJ42
namespace Go.Proofs.YtmniiodpbebnmaaGreat
set_option linter.unusedSimpArgs false
set_option linter.unusedVariables false
set_option linter.unusedSectionVars false
set_option maxRecDepth 100000
set_option maxHeartbeats 16000000
section
open Go.RowKit Go.Lib
section
section
variable {P:Nat→Prop} {w:World} {M:Nat} {c:Cfg} {rs rh n:Nat} {wd:Wd} {d:b0J}
theorem f1Z {K:Int} (hK:K=1∨K=5∨K=6∨K=7) (id:ByteArray) (tick val handle:Int) (p:Pol) (hid:idS id=false):f0V ⟨K,id,tick,val,handle,p⟩=2:=by
 unfold f0V;rw [if_neg (by show ¬(K<1∨8<K);omega),if_pos ⟨hK,hid⟩]
theorem chk_1 (id:ByteArray) (tick val handle:Int) (p:Pol) (hid:idS id=true):f0V ⟨1,id,tick,val,handle,p⟩=g0C tick val:=by
 unfold f0V;simp [hid]
theorem chk_2 (id:ByteArray) (tick val handle:Int) (p:Pol):f0V ⟨2,id,tick,val,handle,p⟩=if tick<0 then 3 else 0:=by
 unfold f0V;simp
theorem chk_6 (id:ByteArray) (tick val handle:Int) (p:Pol) (hid:idS id=true):f0V ⟨6,id,tick,val,handle,p⟩=if g0Z p=true then 0 else 7:=by
 unfold f0V;simp [hid]
 cases g0Z p <;> rfl
theorem n1M {K:Int} (hK:K=5∨K=7) (id:ByteArray) (tick val handle:Int) (p:Pol) (hid:idS id=true):f0V ⟨K,id,tick,val,handle,p⟩=0:=by
 unfold f0V
 rcases hK with rfl|rfl <;> simp [hid]
theorem w0A {K:Int} (hK:K=3∨K=4∨K=8) (id:ByteArray) (tick val handle:Int) (p:Pol):f0V ⟨K,id,tick,val,handle,p⟩=0:=by
 unfold f0V
 rcases hK with rfl|rfl|rfl <;> simp
theorem flM1 (id:ByteArray) (tick val handle:Int) (p:Pol) (h:FW P w M c rs rh n wd d) (hP:∀b,w.heap.size≤b→P b) (hc:b0S c rs rh) (hn:n≤100000) (hx:(⟨1,id,tick,val,handle,p⟩:b0Z).ok) (hid:idS id=true) :
 Calls Tryz.prog 58 #[.pointer (some ⟨M,0,none⟩),a0S ⟨1,id,tick,val,handle,p⟩] w (b0H P w M c rs rh (n+1) d.L (a0X (doW c rs rh wd ⟨1,id,tick,val,handle,p⟩).2) (doW c rs rh wd ⟨1,id,tick,val,handle,p⟩).1):=by
 obtain ⟨hk,hm,ht,hv,hh,hp⟩:=hx;unfold doW;rw [chk_1 id tick val handle p hid]
 by_cases he:g0C tick val=0
 · rw [if_neg (by rw [he];simp),if_pos rfl]
   have ho:=(h.at_.tells.one (rs:=rs) (rh:=rh) hc.st ⟨id,hm⟩ hid ⟨0,(tick,val),g0P,b0O⟩ (show (0:Int)≠3 by decide) (by unfold l0S;rw [if_pos rfl,if_pos he]))
   cases hf:m0R c d.es ⟨id,hm⟩ with
   | true =>
     have h1:=ho.1 hf
     show Calls Tryz.prog 58 #[.pointer (some ⟨M,0,none⟩),a0S ⟨1,id,tick,val,handle,p⟩] w (b0H P w M c rs rh (n+1) d.L (a0X (a0R (h0E c rs rh wd id ⟨0,(tick,val),g0P,b0O⟩).2)) (h0E c rs rh wd id ⟨0,(tick,val),g0P,b0O⟩).1)
     rw [show h0E c rs rh wd id ⟨0,(tick,val),g0P,b0O⟩=(wd,6) from h1];refine (c1E 1 tick val handle ⟨id,hm⟩ p h hc he hf).mono ?_;rintro e w' ⟨rfl,hb⟩;exact h.same (Nat.le_succ _) hb
   | false =>
     have h1:=(ho.2 hf).1
     show Calls Tryz.prog 58 #[.pointer (some ⟨M,0,none⟩),a0S ⟨1,id,tick,val,handle,p⟩] w (b0H P w M c rs rh (n+1) d.L (a0X (a0R (h0E c rs rh wd id ⟨0,(tick,val),g0P,b0O⟩).2)) (h0E c rs rh wd id ⟨0,(tick,val),g0P,b0O⟩).1)
     rw [show (h0E c rs rh wd id ⟨0,(tick,val),g0P,b0O⟩).2=0 from h1];exact k1T 1 tick val handle ⟨id,hm⟩ p h hP hc hid ⟨ht,hv⟩ he hf
 · rw [if_pos he]
   refine (e1A 1 tick val handle ⟨id,hm⟩ p M w he).mono ?_;rintro e w' ⟨rfl,hb⟩;exact h.same (Nat.le_succ _) hb
theorem flM2 (id:ByteArray) (tick val handle:Int) (p:Pol) (h:FW P w M c rs rh n wd d) (hP:∀b,w.heap.size≤b→P b) (hc:b0S c rs rh) (hn:n≤100000) (hx:(⟨2,id,tick,val,handle,p⟩:b0Z).ok) :
 Calls Tryz.prog 59 #[.pointer (some ⟨M,0,none⟩),.int .i64 tick] w (b0H P w M c rs rh (n+1) d.L (a0X (doW c rs rh wd ⟨2,id,tick,val,handle,p⟩).2) (doW c rs rh wd ⟨2,id,tick,val,handle,p⟩).1):=by
 unfold doW;rw [chk_2];have h1:=a1L tick h hP hc
 by_cases ht:tick<0
 · rw [if_pos ht] at h1 ⊢
   rw [if_pos ht] at h1;exact h1
 · rw [if_neg ht] at h1 ⊢
   rw [if_neg ht] at h1;exact h1
theorem flM3 (id:ByteArray) (tick val handle:Int) (p:Pol) (h:FW P w M c rs rh n wd d) (hP:∀b,w.heap.size≤b→P b) (hc:b0S c rs rh) (hn:n≤100000) (hx:(⟨3,id,tick,val,handle,p⟩:b0Z).ok) :
 Calls Tryz.prog 60 #[.pointer (some ⟨M,0,none⟩)] w (b0H P w M c rs rh (n+1) d.L (a0X (doW c rs rh wd ⟨3,id,tick,val,handle,p⟩).2) (doW c rs rh wd ⟨3,id,tick,val,handle,p⟩).1):=by
 unfold doW;rw [w0A (.inl rfl)];exact c1X h hP hc hn
theorem flM4 (id:ByteArray) (tick val handle:Int) (p:Pol) (h:FW P w M c rs rh n wd d) (hP:∀b,w.heap.size≤b→P b) (hc:b0S c rs rh) (hn:n≤100000) (hx:(⟨4,id,tick,val,handle,p⟩:b0Z).ok) :
 Calls Tryz.prog 61 #[.pointer (some ⟨M,0,none⟩),.int .i64 handle] w (b0H P w M c rs rh (n+1) d.L (a0X (doW c rs rh wd ⟨4,id,tick,val,handle,p⟩).2) (doW c rs rh wd ⟨4,id,tick,val,handle,p⟩).1):=by
 unfold doW;rw [w0A (.inr (.inl rfl))];exact b1N handle h hP hc hn
theorem flM5 (id:ByteArray) (tick val handle:Int) (p:Pol) (h:FW P w M c rs rh n wd d) (hP:∀b,w.heap.size≤b→P b) (hc:b0S c rs rh) (hn:n≤100000) (hx:(⟨5,id,tick,val,handle,p⟩:b0Z).ok) (hid:idS id=true) :
 Calls Tryz.prog 62 #[.pointer (some ⟨M,0,none⟩),a0S ⟨5,id,tick,val,handle,p⟩] w (b0H P w M c rs rh (n+1) d.L (a0X (doW c rs rh wd ⟨5,id,tick,val,handle,p⟩).2) (doW c rs rh wd ⟨5,id,tick,val,handle,p⟩).1):=by
 obtain ⟨hk,hm,ht,hv,hh,hp⟩:=hx;unfold doW;rw [n1M (.inl rfl) id tick val handle p hid];refine (c1Q 5 tick val handle ⟨id,hm⟩ p h hn hc hid ⟨ht,hv⟩).mono ?_;rintro e w' ⟨rfl,hb⟩;exact h.same (Nat.le_succ _) hb
theorem flM6 (id:ByteArray) (tick val handle:Int) (p:Pol) (h:FW P w M c rs rh n wd d) (hP:∀b,w.heap.size≤b→P b) (hc:b0S c rs rh) (hn:n≤100000) (hx:(⟨6,id,tick,val,handle,p⟩:b0Z).ok) (hid:idS id=true) :
 Calls Tryz.prog 63 #[.pointer (some ⟨M,0,none⟩),a0S ⟨6,id,tick,val,handle,p⟩] w (b0H P w M c rs rh (n+1) d.L (a0X (doW c rs rh wd ⟨6,id,tick,val,handle,p⟩).2) (doW c rs rh wd ⟨6,id,tick,val,handle,p⟩).1):=by
 obtain ⟨hk,hm,ht,hv,hh,hp⟩:=hx;unfold doW;rw [chk_6 id tick val handle p hid]
 cases he:g0Z p with
 | true =>
   rw [if_neg (by simp)];have ho:=(h.at_.tells.one (rs:=rs) (rh:=rh) hc.st ⟨id,hm⟩ hid ⟨2,(0,0),p,b0O⟩ (show (2:Int)≠3 by decide) (by unfold l0S;rw [if_neg (show ¬(2:Int)=0 by decide),if_neg (show ¬(2:Int)=1 by decide),if_pos rfl,if_pos he]))
   show Calls Tryz.prog 63 #[.pointer (some ⟨M,0,none⟩),a0S ⟨6,id,tick,val,handle,p⟩] w (b0H P w M c rs rh (n+1) d.L (a0X (a0R (h0E c rs rh wd id ⟨2,(0,0),p,b0O⟩).2)) (h0E c rs rh wd id ⟨2,(0,0),p,b0O⟩).1)
   cases hf:m0R c d.es ⟨id,hm⟩ with
   | true =>
     rw [show h0E c rs rh wd id ⟨2,(0,0),p,b0O⟩=(wd,6) from ho.1 hf];refine (b1G 6 tick val handle ⟨id,hm⟩ p h hc he hf).mono ?_;rintro e w' ⟨rfl,hb⟩;exact h.same (Nat.le_succ _) hb
   | false =>
     rw [show (h0E c rs rh wd id ⟨2,(0,0),p,b0O⟩).2=0 from (ho.2 hf).1];exact l1T 6 tick val handle ⟨id,hm⟩ p h hP hc hid hp he hf
 | false =>
   rw [if_pos (by simp)];refine (g1J 6 tick val handle ⟨id,hm⟩ p M w he).mono ?_;rintro e w' ⟨rfl,hb⟩;exact h.same (Nat.le_succ _) hb
theorem flM7 (id:ByteArray) (tick val handle:Int) (p:Pol) (h:FW P w M c rs rh n wd d) (hP:∀b,w.heap.size≤b→P b) (hc:b0S c rs rh) (hn:n≤100000) (hx:(⟨7,id,tick,val,handle,p⟩:b0Z).ok) (hid:idS id=true) :
 Calls Tryz.prog 64 #[.pointer (some ⟨M,0,none⟩),.string id] w (b0H P w M c rs rh (n+1) d.L (a0X (doW c rs rh wd ⟨7,id,tick,val,handle,p⟩).2) (doW c rs rh wd ⟨7,id,tick,val,handle,p⟩).1):=by
 obtain ⟨hk,hm,ht,hv,hh,hp⟩:=hx;unfold doW;rw [n1M (.inr rfl) id tick val handle p hid];have h1:=b1Z ⟨id,hm⟩ w h.at_ (fun q hq=>(h.small hc q hq).2);rw [g1Y h.at_.tells ⟨id,hm⟩ hid] at h1;refine h1.mono ?_;rintro e w' ⟨rfl,hb⟩;exact h.same (Nat.le_succ _) hb
end
theorem h1T (Mv:Option Addr) (kind:Int) (id:ByteArray) (tick val handle:Int) (p:Pol) (w:World) (hk:kind<1∨8<kind) :
 Calls Tryz.prog 17 #[.pointer Mv,a0S ⟨kind,id,tick,val,handle,p⟩] w (jP w (a0X (a0R 14))):=by
 obtain ⟨p0,p1,p2,p3,p4,p5⟩:=p;unfold a0S;dsimp only
 rcases hk with h|h
 all_goals
   have z9:¬(kind<1∧8<kind):=by omega
   go_enter Tryz.func17,Tryz.ntmps17
   go_upto_region 1 with fail
   refine a0J ?_;intro W1 hW1;obtain ⟨HB1,HX0,HX1⟩:=c0X w _ _ W1 hW1;clear hW1 z9;obtain ⟨b1,b2,b3⟩:=a0A jR HX0.out;obtain ⟨y1,y2,y3⟩:=a0A jR HX1.out;go_wp2_with fail
   refine a0H ?_;intro W9 hW9;have hW9':W9=c0T W1 (w.heap.size+1) 0 (b0E (a0R 14)):=hW9;obtain ⟨t1,t2,t3,t4⟩:=a0M HX1.out (b0E (a0R 14)) rfl W9 hW9';obtain ⟨a9,a8,a7⟩:=a0A jR t1;clear hW9 hW9';exact bodyPost_ret (v:=a0X (a0R 14)) (by simp [results,Tryz.results17,go_sem,a9,a0X,b0E,a0R,st0,b0O]) rfl ⟨rfl,HB1.out.trans (t4 _ (Nat.le_succ _))⟩
theorem m1P (Mv:Option Addr) (id:ByteArray) (tick val handle:Int) (p:Pol) (w:World) (hm:id.size≤maxLen) (hid:idS id=false) :
 Calls Tryz.prog 17 #[.pointer Mv,a0S ⟨1,id,tick,val,handle,p⟩] w (jP w (a0X (a0R 2))):=by
 have CK:=jH (fun W=>show Calls Tryz.prog 56 #[.string id] W (jP W (.int .i64 2)) from by
  have h1:=b0M id W hm;rw [show f0B id=2 by unfold f0B;rw [if_neg (by rw [hid];simp)]] at h1;exact h1)
 obtain ⟨p0,p1,p2,p3,p4,p5⟩:=p;unfold a0S;dsimp only;clear hm hid
 go_enter Tryz.func17,Tryz.ntmps17
 go_wp2_with (first
  | (go_at_call 56
     refine a0B ?_;intro W1 hW1;obtain ⟨HB1,HX0,HX1⟩:=c0X w _ _ W1 hW1;clear hW1;refine (CK.out W1).mono ?_;rintro e w2 ⟨rfl,hb2⟩;obtain ⟨HB2,HX02,HX12⟩:=c0O hb2 HB1 HX0 HX1;clear hb2;obtain ⟨b1,b2,b3⟩:=a0A jR HX02.out;obtain ⟨y1,y2,y3⟩:=a0A jR HX12.out))
 refine a0H ?_;intro W9 hW9;have hW9':W9=c0T w2 (w.heap.size+1) 0 (b0E (a0R 2)):=hW9;obtain ⟨t1,t2,t3,t4⟩:=a0M HX12.out (b0E (a0R 2)) rfl W9 hW9';obtain ⟨a9,a8,a7⟩:=a0A jR t1;clear hW9 hW9';exact bodyPost_ret (v:=a0X (a0R 2)) (by simp [results,Tryz.results17,go_sem,a9,a0X,b0E,a0R,st0,b0O]) rfl ⟨rfl,HB2.out.trans (t4 _ (Nat.le_succ _))⟩
theorem k1A (Mv:Option Addr) (id:ByteArray) (tick val handle:Int) (p:Pol) (w:World) (hm:id.size≤maxLen) (hid:idS id=false) :
 Calls Tryz.prog 17 #[.pointer Mv,a0S ⟨5,id,tick,val,handle,p⟩] w (jP w (a0X (a0R 2))):=by
 have CK:=jH (fun W=>show Calls Tryz.prog 56 #[.string id] W (jP W (.int .i64 2)) from by
  have h1:=b0M id W hm;rw [show f0B id=2 by unfold f0B;rw [if_neg (by rw [hid];simp)]] at h1;exact h1)
 obtain ⟨p0,p1,p2,p3,p4,p5⟩:=p;unfold a0S;dsimp only;clear hm hid
 go_enter Tryz.func17,Tryz.ntmps17
 go_wp2_with (first
  | (go_at_call 56
     refine a0B ?_;intro W1 hW1;obtain ⟨HB1,HX0,HX1⟩:=c0X w _ _ W1 hW1;clear hW1;refine (CK.out W1).mono ?_;rintro e w2 ⟨rfl,hb2⟩;obtain ⟨HB2,HX02,HX12⟩:=c0O hb2 HB1 HX0 HX1;clear hb2;obtain ⟨b1,b2,b3⟩:=a0A jR HX02.out;obtain ⟨y1,y2,y3⟩:=a0A jR HX12.out))
 refine a0H ?_;intro W9 hW9;have hW9':W9=c0T w2 (w.heap.size+1) 0 (b0E (a0R 2)):=hW9;obtain ⟨t1,t2,t3,t4⟩:=a0M HX12.out (b0E (a0R 2)) rfl W9 hW9';obtain ⟨a9,a8,a7⟩:=a0A jR t1;clear hW9 hW9';exact bodyPost_ret (v:=a0X (a0R 2)) (by simp [results,Tryz.results17,go_sem,a9,a0X,b0E,a0R,st0,b0O]) rfl ⟨rfl,HB2.out.trans (t4 _ (Nat.le_succ _))⟩
theorem j1E (Mv:Option Addr) (id:ByteArray) (tick val handle:Int) (p:Pol) (w:World) (hm:id.size≤maxLen) (hid:idS id=false) :
 Calls Tryz.prog 17 #[.pointer Mv,a0S ⟨6,id,tick,val,handle,p⟩] w (jP w (a0X (a0R 2))):=by
 have CK:=jH (fun W=>show Calls Tryz.prog 56 #[.string id] W (jP W (.int .i64 2)) from by
  have h1:=b0M id W hm;rw [show f0B id=2 by unfold f0B;rw [if_neg (by rw [hid];simp)]] at h1;exact h1)
 obtain ⟨p0,p1,p2,p3,p4,p5⟩:=p;unfold a0S;dsimp only;clear hm hid
 go_enter Tryz.func17,Tryz.ntmps17
 go_wp2_with (first
  | (go_at_call 56
     refine a0B ?_;intro W1 hW1;obtain ⟨HB1,HX0,HX1⟩:=c0X w _ _ W1 hW1;clear hW1;refine (CK.out W1).mono ?_;rintro e w2 ⟨rfl,hb2⟩;obtain ⟨HB2,HX02,HX12⟩:=c0O hb2 HB1 HX0 HX1;clear hb2;obtain ⟨b1,b2,b3⟩:=a0A jR HX02.out;obtain ⟨y1,y2,y3⟩:=a0A jR HX12.out))
 refine a0H ?_;intro W9 hW9;have hW9':W9=c0T w2 (w.heap.size+1) 0 (b0E (a0R 2)):=hW9;obtain ⟨t1,t2,t3,t4⟩:=a0M HX12.out (b0E (a0R 2)) rfl W9 hW9';obtain ⟨a9,a8,a7⟩:=a0A jR t1;clear hW9 hW9';exact bodyPost_ret (v:=a0X (a0R 2)) (by simp [results,Tryz.results17,go_sem,a9,a0X,b0E,a0R,st0,b0O]) rfl ⟨rfl,HB2.out.trans (t4 _ (Nat.le_succ _))⟩
theorem l1X (Mv:Option Addr) (id:ByteArray) (tick val handle:Int) (p:Pol) (w:World) (hm:id.size≤maxLen) (hid:idS id=false) :
 Calls Tryz.prog 17 #[.pointer Mv,a0S ⟨7,id,tick,val,handle,p⟩] w (jP w (a0X (a0R 2))):=by
 have CK:=jH (fun W=>show Calls Tryz.prog 56 #[.string id] W (jP W (.int .i64 2)) from by
  have h1:=b0M id W hm;rw [show f0B id=2 by unfold f0B;rw [if_neg (by rw [hid];simp)]] at h1;exact h1)
 obtain ⟨p0,p1,p2,p3,p4,p5⟩:=p;unfold a0S;dsimp only;clear hm hid
 go_enter Tryz.func17,Tryz.ntmps17
 go_wp2_with (first
  | (go_at_call 56
     refine a0B ?_;intro W1 hW1;obtain ⟨HB1,HX0,HX1⟩:=c0X w _ _ W1 hW1;clear hW1;refine (CK.out W1).mono ?_;rintro e w2 ⟨rfl,hb2⟩;obtain ⟨HB2,HX02,HX12⟩:=c0O hb2 HB1 HX0 HX1;clear hb2;obtain ⟨b1,b2,b3⟩:=a0A jR HX02.out;obtain ⟨y1,y2,y3⟩:=a0A jR HX12.out))
 refine a0H ?_;intro W9 hW9;have hW9':W9=c0T w2 (w.heap.size+1) 0 (b0E (a0R 2)):=hW9;obtain ⟨t1,t2,t3,t4⟩:=a0M HX12.out (b0E (a0R 2)) rfl W9 hW9';obtain ⟨a9,a8,a7⟩:=a0A jR t1;clear hW9 hW9';exact bodyPost_ret (v:=a0X (a0R 2)) (by simp [results,Tryz.results17,go_sem,a9,a0X,b0E,a0R,st0,b0O]) rfl ⟨rfl,HB2.out.trans (t4 _ (Nat.le_succ _))⟩
theorem flDo_1 {P:Nat→Prop} {w:World} {M:Nat} {c:Cfg} {rs rh n:Nat} {wd:Wd} {d:b0J} (id:ByteArray) (tick val handle:Int) (p:Pol) (h:FW P w M c rs rh n wd d) (hP:∀b,w.heap.size≤b→P b) (hc:b0S c rs rh) (hn:n≤100000) (hx:(⟨1,id,tick,val,handle,p⟩:b0Z).ok) (hid:idS id=true) :
 Calls Tryz.prog 17 #[.pointer (some ⟨M,0,none⟩),a0S ⟨1,id,tick,val,handle,p⟩] w (b0H P w M c rs rh (n+1) d.L (a0X (doW c rs rh wd ⟨1,id,tick,val,handle,p⟩).2) (doW c rs rh wd ⟨1,id,tick,val,handle,p⟩).1):=by
 have hm:id.size≤maxLen:=hx.2.1;obtain ⟨ce,hce⟩:∃ce:Int,ce=f0B id:=⟨_,rfl⟩;have CK:=jH (fun W=>show Calls Tryz.prog 56 #[.string id] W (jP W (.int .i64 ce)) from by rw [hce];exact b0M id W hm);have hce0:ce=0:=by rw [hce];unfold f0B;rw [if_pos hid]
 subst hce0;clear hce;have CM:=jH (fun W (hW:jB w W)=>d0H W (h.at_.below hW));have CF:=jH (fun W (hW:jB w W) (hl:w.heap.size+1<W.heap.size)=>flM1 id tick val handle p (h.avoidX (X:=w.heap.size+1) (Nat.le_succ _) hW) (fun b hb=>⟨hP b (by have:=hW.size;omega),by omega⟩) hc hn hx hid);have HLT:=jH (And.intro h.at_.lt h.at_.map.lt);have HOFF:=jH h.at_.off;unfold b0H at CF ⊢;generalize (doW c rs rh wd ⟨1,id,tick,val,handle,p⟩).1=wd9 at CF ⊢
 generalize (doW c rs rh wd ⟨1,id,tick,val,handle,p⟩).2=r9 at CF ⊢;obtain ⟨p0,p1,p2,p3,p4,p5⟩:=p
 (try unfold a0S at CF)
 unfold a0S
 (try dsimp only at CF)
 dsimp only;unfold a0X b0E at CF;clear h hP hc hn hx hm hid
 go_enter Tryz.func17,Tryz.ntmps17
 go_wp2_with (first
  | (go_at_call 56
     refine a0B ?_;intro W1 hW1;obtain ⟨HB1,HX0,HX1⟩:=c0X w _ _ W1 hW1;clear hW1;refine (CK.out W1).mono ?_;rintro e w2 ⟨rfl,hb2⟩;obtain ⟨HB2,HX02,HX12⟩:=c0O hb2 HB1 HX0 HX1;clear hb2;obtain ⟨b1,b2,b3⟩:=a0A jR HX02.out;obtain ⟨y1,y2,y3⟩:=a0A jR HX12.out)
  | (go_at_call 57
     refine (CM.out w2 HB2.out).mono ?_;rintro e w3 ⟨rfl,rfl⟩)
  | (go_at_call 58
     refine (CF.out w3 HB2.out (jL HX12.out)).mono ?_;rintro e w4 ⟨d9,rfl,hf9,hL9,hu9⟩;have HF9:=jH hf9;have HL9:=jH hL9;have HU9:=jH hu9;have HX14:=jH ((hu9.block (w.heap.size+1) (jL HX12.out) (by have h1:=HLT.out.1;have h2:=HLT.out.2;simp only [List.mem_cons,List.not_mem_nil,or_false];omega)).trans HX12.out);have HU:=jH (Upd.trans (Upd.of_below HB2.out [M,d.L]) hu9);clear hf9 hL9 hu9 b1 b2 b3 y1 y2 y3
     obtain ⟨y1,y2,y3⟩:=a0A jR HX14.out))
 refine a0H ?_;intro W9 hW9;have hW9':W9=c0T w4 (w.heap.size+1) 0 (b0E r9):=hW9;obtain ⟨t1,t2,t3,t4⟩:=a0M HX14.out (b0E r9) rfl W9 hW9';obtain ⟨a9,a8,a7⟩:=a0A jR t1;clear hW9 hW9';have hfin:=HF9.out.fin (fun b hb=>by rw [HL9.out];exact HOFF.out b hb) (by rw [HL9.out];exact HU.out) (Nat.le_succ _) HLT.out.1 (by rw [HL9.out];exact HLT.out.2) t2 t3 t4;rw [HL9.out] at hfin;exact bodyPost_ret (v:=a0X r9) (by simp [results,Tryz.results17,go_sem,a9,a0X,b0E]) rfl ⟨d9,rfl,hfin.1,HL9.out,hfin.2⟩
theorem n1S {P:Nat→Prop} {w:World} {M:Nat} {c:Cfg} {rs rh n:Nat} {wd:Wd} {d:b0J} (id:ByteArray) (tick val handle:Int) (p:Pol) (h:FW P w M c rs rh n wd d) (hP:∀b,w.heap.size≤b→P b) (hc:b0S c rs rh) (hn:n≤100000) (hx:(⟨2,id,tick,val,handle,p⟩:b0Z).ok) :
 Calls Tryz.prog 17 #[.pointer (some ⟨M,0,none⟩),a0S ⟨2,id,tick,val,handle,p⟩] w (b0H P w M c rs rh (n+1) d.L (a0X (doW c rs rh wd ⟨2,id,tick,val,handle,p⟩).2) (doW c rs rh wd ⟨2,id,tick,val,handle,p⟩).1):=by
 have hm:id.size≤maxLen:=hx.2.1;obtain ⟨ce,hce⟩:∃ce:Int,ce=f0B id:=⟨_,rfl⟩;have CK:=jH (fun W=>show Calls Tryz.prog 56 #[.string id] W (jP W (.int .i64 ce)) from by rw [hce];exact b0M id W hm);clear hce;have CM:=jH (fun W (hW:jB w W)=>d0H W (h.at_.below hW));have CF:=jH (fun W (hW:jB w W) (hl:w.heap.size+1<W.heap.size)=>flM2 id tick val handle p (h.avoidX (X:=w.heap.size+1) (Nat.le_succ _) hW) (fun b hb=>⟨hP b (by have:=hW.size;omega),by omega⟩) hc hn hx)
 have HLT:=jH (And.intro h.at_.lt h.at_.map.lt);have HOFF:=jH h.at_.off;unfold b0H at CF ⊢;generalize (doW c rs rh wd ⟨2,id,tick,val,handle,p⟩).1=wd9 at CF ⊢;generalize (doW c rs rh wd ⟨2,id,tick,val,handle,p⟩).2=r9 at CF ⊢;obtain ⟨p0,p1,p2,p3,p4,p5⟩:=p
 (try unfold a0S at CF)
 unfold a0S
 (try dsimp only at CF)
 dsimp only;unfold a0X b0E at CF;clear h hP hc hn hx hm
 go_enter Tryz.func17,Tryz.ntmps17
 go_wp2_with (first
  | (go_at_call 56
     refine a0B ?_;intro W1 hW1;obtain ⟨HB1,HX0,HX1⟩:=c0X w _ _ W1 hW1;clear hW1;refine (CK.out W1).mono ?_;rintro e w2 ⟨rfl,hb2⟩;obtain ⟨HB2,HX02,HX12⟩:=c0O hb2 HB1 HX0 HX1;clear hb2;obtain ⟨b1,b2,b3⟩:=a0A jR HX02.out;obtain ⟨y1,y2,y3⟩:=a0A jR HX12.out)
  | (go_at_call 57
     refine (CM.out w2 HB2.out).mono ?_;rintro e w3 ⟨rfl,rfl⟩)
  | (go_at_call 59
     refine (CF.out w3 HB2.out (jL HX12.out)).mono ?_;rintro e w4 ⟨d9,rfl,hf9,hL9,hu9⟩;have HF9:=jH hf9;have HL9:=jH hL9;have HU9:=jH hu9;have HX14:=jH ((hu9.block (w.heap.size+1) (jL HX12.out) (by have h1:=HLT.out.1;have h2:=HLT.out.2;simp only [List.mem_cons,List.not_mem_nil,or_false];omega)).trans HX12.out);have HU:=jH (Upd.trans (Upd.of_below HB2.out [M,d.L]) hu9);clear hf9 hL9 hu9 b1 b2 b3 y1 y2 y3
     obtain ⟨y1,y2,y3⟩:=a0A jR HX14.out))
 refine a0H ?_;intro W9 hW9;have hW9':W9=c0T w4 (w.heap.size+1) 0 (b0E r9):=hW9;obtain ⟨t1,t2,t3,t4⟩:=a0M HX14.out (b0E r9) rfl W9 hW9';obtain ⟨a9,a8,a7⟩:=a0A jR t1;clear hW9 hW9';have hfin:=HF9.out.fin (fun b hb=>by rw [HL9.out];exact HOFF.out b hb) (by rw [HL9.out];exact HU.out) (Nat.le_succ _) HLT.out.1 (by rw [HL9.out];exact HLT.out.2) t2 t3 t4;rw [HL9.out] at hfin;exact bodyPost_ret (v:=a0X r9) (by simp [results,Tryz.results17,go_sem,a9,a0X,b0E]) rfl ⟨d9,rfl,hfin.1,HL9.out,hfin.2⟩
theorem n1Q {P:Nat→Prop} {w:World} {M:Nat} {c:Cfg} {rs rh n:Nat} {wd:Wd} {d:b0J} (id:ByteArray) (tick val handle:Int) (p:Pol) (h:FW P w M c rs rh n wd d) (hP:∀b,w.heap.size≤b→P b) (hc:b0S c rs rh) (hn:n≤100000) (hx:(⟨3,id,tick,val,handle,p⟩:b0Z).ok) :
 Calls Tryz.prog 17 #[.pointer (some ⟨M,0,none⟩),a0S ⟨3,id,tick,val,handle,p⟩] w (b0H P w M c rs rh (n+1) d.L (a0X (doW c rs rh wd ⟨3,id,tick,val,handle,p⟩).2) (doW c rs rh wd ⟨3,id,tick,val,handle,p⟩).1):=by
 have hm:id.size≤maxLen:=hx.2.1;obtain ⟨ce,hce⟩:∃ce:Int,ce=f0B id:=⟨_,rfl⟩;have CK:=jH (fun W=>show Calls Tryz.prog 56 #[.string id] W (jP W (.int .i64 ce)) from by rw [hce];exact b0M id W hm);clear hce;have CM:=jH (fun W (hW:jB w W)=>d0H W (h.at_.below hW));have CF:=jH (fun W (hW:jB w W) (hl:w.heap.size+1<W.heap.size)=>flM3 id tick val handle p (h.avoidX (X:=w.heap.size+1) (Nat.le_succ _) hW) (fun b hb=>⟨hP b (by have:=hW.size;omega),by omega⟩) hc hn hx)
 have HLT:=jH (And.intro h.at_.lt h.at_.map.lt);have HOFF:=jH h.at_.off;unfold b0H at CF ⊢;generalize (doW c rs rh wd ⟨3,id,tick,val,handle,p⟩).1=wd9 at CF ⊢;generalize (doW c rs rh wd ⟨3,id,tick,val,handle,p⟩).2=r9 at CF ⊢;obtain ⟨p0,p1,p2,p3,p4,p5⟩:=p
 (try unfold a0S at CF)
 unfold a0S
 (try dsimp only at CF)
 dsimp only;unfold a0X b0E at CF;clear h hP hc hn hx hm
 go_enter Tryz.func17,Tryz.ntmps17
 go_wp2_with (first
  | (go_at_call 56
     refine a0B ?_;intro W1 hW1;obtain ⟨HB1,HX0,HX1⟩:=c0X w _ _ W1 hW1;clear hW1;refine (CK.out W1).mono ?_;rintro e w2 ⟨rfl,hb2⟩;obtain ⟨HB2,HX02,HX12⟩:=c0O hb2 HB1 HX0 HX1;clear hb2;obtain ⟨b1,b2,b3⟩:=a0A jR HX02.out;obtain ⟨y1,y2,y3⟩:=a0A jR HX12.out)
  | (go_at_call 57
     refine (CM.out w2 HB2.out).mono ?_;rintro e w3 ⟨rfl,rfl⟩)
  | (go_at_call 60
     refine (CF.out w3 HB2.out (jL HX12.out)).mono ?_;rintro e w4 ⟨d9,rfl,hf9,hL9,hu9⟩;have HF9:=jH hf9;have HL9:=jH hL9;have HU9:=jH hu9;have HX14:=jH ((hu9.block (w.heap.size+1) (jL HX12.out) (by have h1:=HLT.out.1;have h2:=HLT.out.2;simp only [List.mem_cons,List.not_mem_nil,or_false];omega)).trans HX12.out);have HU:=jH (Upd.trans (Upd.of_below HB2.out [M,d.L]) hu9);clear hf9 hL9 hu9 b1 b2 b3 y1 y2 y3
     obtain ⟨y1,y2,y3⟩:=a0A jR HX14.out))
 refine a0H ?_;intro W9 hW9;have hW9':W9=c0T w4 (w.heap.size+1) 0 (b0E r9):=hW9;obtain ⟨t1,t2,t3,t4⟩:=a0M HX14.out (b0E r9) rfl W9 hW9';obtain ⟨a9,a8,a7⟩:=a0A jR t1;clear hW9 hW9';have hfin:=HF9.out.fin (fun b hb=>by rw [HL9.out];exact HOFF.out b hb) (by rw [HL9.out];exact HU.out) (Nat.le_succ _) HLT.out.1 (by rw [HL9.out];exact HLT.out.2) t2 t3 t4;rw [HL9.out] at hfin;exact bodyPost_ret (v:=a0X r9) (by simp [results,Tryz.results17,go_sem,a9,a0X,b0E]) rfl ⟨d9,rfl,hfin.1,HL9.out,hfin.2⟩
theorem n1R {P:Nat→Prop} {w:World} {M:Nat} {c:Cfg} {rs rh n:Nat} {wd:Wd} {d:b0J} (id:ByteArray) (tick val handle:Int) (p:Pol) (h:FW P w M c rs rh n wd d) (hP:∀b,w.heap.size≤b→P b) (hc:b0S c rs rh) (hn:n≤100000) (hx:(⟨4,id,tick,val,handle,p⟩:b0Z).ok) :
 Calls Tryz.prog 17 #[.pointer (some ⟨M,0,none⟩),a0S ⟨4,id,tick,val,handle,p⟩] w (b0H P w M c rs rh (n+1) d.L (a0X (doW c rs rh wd ⟨4,id,tick,val,handle,p⟩).2) (doW c rs rh wd ⟨4,id,tick,val,handle,p⟩).1):=by
 have hm:id.size≤maxLen:=hx.2.1;obtain ⟨ce,hce⟩:∃ce:Int,ce=f0B id:=⟨_,rfl⟩;have CK:=jH (fun W=>show Calls Tryz.prog 56 #[.string id] W (jP W (.int .i64 ce)) from by rw [hce];exact b0M id W hm);clear hce;have CM:=jH (fun W (hW:jB w W)=>d0H W (h.at_.below hW));have CF:=jH (fun W (hW:jB w W) (hl:w.heap.size+1<W.heap.size)=>flM4 id tick val handle p (h.avoidX (X:=w.heap.size+1) (Nat.le_succ _) hW) (fun b hb=>⟨hP b (by have:=hW.size;omega),by omega⟩) hc hn hx)
 have HLT:=jH (And.intro h.at_.lt h.at_.map.lt);have HOFF:=jH h.at_.off;unfold b0H at CF ⊢;generalize (doW c rs rh wd ⟨4,id,tick,val,handle,p⟩).1=wd9 at CF ⊢;generalize (doW c rs rh wd ⟨4,id,tick,val,handle,p⟩).2=r9 at CF ⊢;obtain ⟨p0,p1,p2,p3,p4,p5⟩:=p
 (try unfold a0S at CF)
 unfold a0S
 (try dsimp only at CF)
 dsimp only;unfold a0X b0E at CF;clear h hP hc hn hx hm
 go_enter Tryz.func17,Tryz.ntmps17
 go_wp2_with (first
  | (go_at_call 56
     refine a0B ?_;intro W1 hW1;obtain ⟨HB1,HX0,HX1⟩:=c0X w _ _ W1 hW1;clear hW1;refine (CK.out W1).mono ?_;rintro e w2 ⟨rfl,hb2⟩;obtain ⟨HB2,HX02,HX12⟩:=c0O hb2 HB1 HX0 HX1;clear hb2;obtain ⟨b1,b2,b3⟩:=a0A jR HX02.out;obtain ⟨y1,y2,y3⟩:=a0A jR HX12.out)
  | (go_at_call 57
     refine (CM.out w2 HB2.out).mono ?_;rintro e w3 ⟨rfl,rfl⟩)
  | (go_at_call 61
     refine (CF.out w3 HB2.out (jL HX12.out)).mono ?_;rintro e w4 ⟨d9,rfl,hf9,hL9,hu9⟩;have HF9:=jH hf9;have HL9:=jH hL9;have HU9:=jH hu9;have HX14:=jH ((hu9.block (w.heap.size+1) (jL HX12.out) (by have h1:=HLT.out.1;have h2:=HLT.out.2;simp only [List.mem_cons,List.not_mem_nil,or_false];omega)).trans HX12.out);have HU:=jH (Upd.trans (Upd.of_below HB2.out [M,d.L]) hu9);clear hf9 hL9 hu9 b1 b2 b3 y1 y2 y3
     obtain ⟨y1,y2,y3⟩:=a0A jR HX14.out))
 refine a0H ?_;intro W9 hW9;have hW9':W9=c0T w4 (w.heap.size+1) 0 (b0E r9):=hW9;obtain ⟨t1,t2,t3,t4⟩:=a0M HX14.out (b0E r9) rfl W9 hW9';obtain ⟨a9,a8,a7⟩:=a0A jR t1;clear hW9 hW9';have hfin:=HF9.out.fin (fun b hb=>by rw [HL9.out];exact HOFF.out b hb) (by rw [HL9.out];exact HU.out) (Nat.le_succ _) HLT.out.1 (by rw [HL9.out];exact HLT.out.2) t2 t3 t4;rw [HL9.out] at hfin;exact bodyPost_ret (v:=a0X r9) (by simp [results,Tryz.results17,go_sem,a9,a0X,b0E]) rfl ⟨d9,rfl,hfin.1,HL9.out,hfin.2⟩
theorem flDo_5 {P:Nat→Prop} {w:World} {M:Nat} {c:Cfg} {rs rh n:Nat} {wd:Wd} {d:b0J} (id:ByteArray) (tick val handle:Int) (p:Pol) (h:FW P w M c rs rh n wd d) (hP:∀b,w.heap.size≤b→P b) (hc:b0S c rs rh) (hn:n≤100000) (hx:(⟨5,id,tick,val,handle,p⟩:b0Z).ok) (hid:idS id=true) :
 Calls Tryz.prog 17 #[.pointer (some ⟨M,0,none⟩),a0S ⟨5,id,tick,val,handle,p⟩] w (b0H P w M c rs rh (n+1) d.L (a0X (doW c rs rh wd ⟨5,id,tick,val,handle,p⟩).2) (doW c rs rh wd ⟨5,id,tick,val,handle,p⟩).1):=by
 have hm:id.size≤maxLen:=hx.2.1;obtain ⟨ce,hce⟩:∃ce:Int,ce=f0B id:=⟨_,rfl⟩;have CK:=jH (fun W=>show Calls Tryz.prog 56 #[.string id] W (jP W (.int .i64 ce)) from by rw [hce];exact b0M id W hm);have hce0:ce=0:=by rw [hce];unfold f0B;rw [if_pos hid]
 subst hce0;clear hce;have CM:=jH (fun W (hW:jB w W)=>d0H W (h.at_.below hW));have CF:=jH (fun W (hW:jB w W) (hl:w.heap.size+1<W.heap.size)=>flM5 id tick val handle p (h.avoidX (X:=w.heap.size+1) (Nat.le_succ _) hW) (fun b hb=>⟨hP b (by have:=hW.size;omega),by omega⟩) hc hn hx hid);have HLT:=jH (And.intro h.at_.lt h.at_.map.lt);have HOFF:=jH h.at_.off;unfold b0H at CF ⊢;generalize (doW c rs rh wd ⟨5,id,tick,val,handle,p⟩).1=wd9 at CF ⊢
 generalize (doW c rs rh wd ⟨5,id,tick,val,handle,p⟩).2=r9 at CF ⊢;obtain ⟨p0,p1,p2,p3,p4,p5⟩:=p
 (try unfold a0S at CF)
 unfold a0S
 (try dsimp only at CF)
 dsimp only;unfold a0X b0E at CF;clear h hP hc hn hx hm hid
 go_enter Tryz.func17,Tryz.ntmps17
 go_wp2_with (first
  | (go_at_call 56
     refine a0B ?_;intro W1 hW1;obtain ⟨HB1,HX0,HX1⟩:=c0X w _ _ W1 hW1;clear hW1;refine (CK.out W1).mono ?_;rintro e w2 ⟨rfl,hb2⟩;obtain ⟨HB2,HX02,HX12⟩:=c0O hb2 HB1 HX0 HX1;clear hb2;obtain ⟨b1,b2,b3⟩:=a0A jR HX02.out;obtain ⟨y1,y2,y3⟩:=a0A jR HX12.out)
  | (go_at_call 57
     refine (CM.out w2 HB2.out).mono ?_;rintro e w3 ⟨rfl,rfl⟩)
  | (go_at_call 62
     refine (CF.out w3 HB2.out (jL HX12.out)).mono ?_;rintro e w4 ⟨d9,rfl,hf9,hL9,hu9⟩;have HF9:=jH hf9;have HL9:=jH hL9;have HU9:=jH hu9;have HX14:=jH ((hu9.block (w.heap.size+1) (jL HX12.out) (by have h1:=HLT.out.1;have h2:=HLT.out.2;simp only [List.mem_cons,List.not_mem_nil,or_false];omega)).trans HX12.out);have HU:=jH (Upd.trans (Upd.of_below HB2.out [M,d.L]) hu9);clear hf9 hL9 hu9 b1 b2 b3 y1 y2 y3
     obtain ⟨y1,y2,y3⟩:=a0A jR HX14.out))
 refine a0H ?_;intro W9 hW9;have hW9':W9=c0T w4 (w.heap.size+1) 0 (b0E r9):=hW9;obtain ⟨t1,t2,t3,t4⟩:=a0M HX14.out (b0E r9) rfl W9 hW9';obtain ⟨a9,a8,a7⟩:=a0A jR t1;clear hW9 hW9';have hfin:=HF9.out.fin (fun b hb=>by rw [HL9.out];exact HOFF.out b hb) (by rw [HL9.out];exact HU.out) (Nat.le_succ _) HLT.out.1 (by rw [HL9.out];exact HLT.out.2) t2 t3 t4;rw [HL9.out] at hfin;exact bodyPost_ret (v:=a0X r9) (by simp [results,Tryz.results17,go_sem,a9,a0X,b0E]) rfl ⟨d9,rfl,hfin.1,HL9.out,hfin.2⟩
theorem flDo_6 {P:Nat→Prop} {w:World} {M:Nat} {c:Cfg} {rs rh n:Nat} {wd:Wd} {d:b0J} (id:ByteArray) (tick val handle:Int) (p:Pol) (h:FW P w M c rs rh n wd d) (hP:∀b,w.heap.size≤b→P b) (hc:b0S c rs rh) (hn:n≤100000) (hx:(⟨6,id,tick,val,handle,p⟩:b0Z).ok) (hid:idS id=true) :
 Calls Tryz.prog 17 #[.pointer (some ⟨M,0,none⟩),a0S ⟨6,id,tick,val,handle,p⟩] w (b0H P w M c rs rh (n+1) d.L (a0X (doW c rs rh wd ⟨6,id,tick,val,handle,p⟩).2) (doW c rs rh wd ⟨6,id,tick,val,handle,p⟩).1):=by
 have hm:id.size≤maxLen:=hx.2.1;obtain ⟨ce,hce⟩:∃ce:Int,ce=f0B id:=⟨_,rfl⟩;have CK:=jH (fun W=>show Calls Tryz.prog 56 #[.string id] W (jP W (.int .i64 ce)) from by rw [hce];exact b0M id W hm);have hce0:ce=0:=by rw [hce];unfold f0B;rw [if_pos hid]
 subst hce0;clear hce;have CM:=jH (fun W (hW:jB w W)=>d0H W (h.at_.below hW));have CF:=jH (fun W (hW:jB w W) (hl:w.heap.size+1<W.heap.size)=>flM6 id tick val handle p (h.avoidX (X:=w.heap.size+1) (Nat.le_succ _) hW) (fun b hb=>⟨hP b (by have:=hW.size;omega),by omega⟩) hc hn hx hid);have HLT:=jH (And.intro h.at_.lt h.at_.map.lt);have HOFF:=jH h.at_.off;unfold b0H at CF ⊢;generalize (doW c rs rh wd ⟨6,id,tick,val,handle,p⟩).1=wd9 at CF ⊢
 generalize (doW c rs rh wd ⟨6,id,tick,val,handle,p⟩).2=r9 at CF ⊢;obtain ⟨p0,p1,p2,p3,p4,p5⟩:=p
 (try unfold a0S at CF)
 unfold a0S
 (try dsimp only at CF)
 dsimp only;unfold a0X b0E at CF;clear h hP hc hn hx hm hid
 go_enter Tryz.func17,Tryz.ntmps17
 go_wp2_with (first
  | (go_at_call 56
     refine a0B ?_;intro W1 hW1;obtain ⟨HB1,HX0,HX1⟩:=c0X w _ _ W1 hW1;clear hW1;refine (CK.out W1).mono ?_;rintro e w2 ⟨rfl,hb2⟩;obtain ⟨HB2,HX02,HX12⟩:=c0O hb2 HB1 HX0 HX1;clear hb2;obtain ⟨b1,b2,b3⟩:=a0A jR HX02.out;obtain ⟨y1,y2,y3⟩:=a0A jR HX12.out)
  | (go_at_call 57
     refine (CM.out w2 HB2.out).mono ?_;rintro e w3 ⟨rfl,rfl⟩)
  | (go_at_call 63
     refine (CF.out w3 HB2.out (jL HX12.out)).mono ?_;rintro e w4 ⟨d9,rfl,hf9,hL9,hu9⟩;have HF9:=jH hf9;have HL9:=jH hL9;have HU9:=jH hu9;have HX14:=jH ((hu9.block (w.heap.size+1) (jL HX12.out) (by have h1:=HLT.out.1;have h2:=HLT.out.2;simp only [List.mem_cons,List.not_mem_nil,or_false];omega)).trans HX12.out);have HU:=jH (Upd.trans (Upd.of_below HB2.out [M,d.L]) hu9);clear hf9 hL9 hu9 b1 b2 b3 y1 y2 y3
     obtain ⟨y1,y2,y3⟩:=a0A jR HX14.out))
 refine a0H ?_;intro W9 hW9;have hW9':W9=c0T w4 (w.heap.size+1) 0 (b0E r9):=hW9;obtain ⟨t1,t2,t3,t4⟩:=a0M HX14.out (b0E r9) rfl W9 hW9';obtain ⟨a9,a8,a7⟩:=a0A jR t1;clear hW9 hW9';have hfin:=HF9.out.fin (fun b hb=>by rw [HL9.out];exact HOFF.out b hb) (by rw [HL9.out];exact HU.out) (Nat.le_succ _) HLT.out.1 (by rw [HL9.out];exact HLT.out.2) t2 t3 t4;rw [HL9.out] at hfin;exact bodyPost_ret (v:=a0X r9) (by simp [results,Tryz.results17,go_sem,a9,a0X,b0E]) rfl ⟨d9,rfl,hfin.1,HL9.out,hfin.2⟩
theorem flDo_7 {P:Nat→Prop} {w:World} {M:Nat} {c:Cfg} {rs rh n:Nat} {wd:Wd} {d:b0J} (id:ByteArray) (tick val handle:Int) (p:Pol) (h:FW P w M c rs rh n wd d) (hP:∀b,w.heap.size≤b→P b) (hc:b0S c rs rh) (hn:n≤100000) (hx:(⟨7,id,tick,val,handle,p⟩:b0Z).ok) (hid:idS id=true) :
 Calls Tryz.prog 17 #[.pointer (some ⟨M,0,none⟩),a0S ⟨7,id,tick,val,handle,p⟩] w (b0H P w M c rs rh (n+1) d.L (a0X (doW c rs rh wd ⟨7,id,tick,val,handle,p⟩).2) (doW c rs rh wd ⟨7,id,tick,val,handle,p⟩).1):=by
 have hm:id.size≤maxLen:=hx.2.1;obtain ⟨ce,hce⟩:∃ce:Int,ce=f0B id:=⟨_,rfl⟩;have CK:=jH (fun W=>show Calls Tryz.prog 56 #[.string id] W (jP W (.int .i64 ce)) from by rw [hce];exact b0M id W hm);have hce0:ce=0:=by rw [hce];unfold f0B;rw [if_pos hid]
 subst hce0;clear hce;have CM:=jH (fun W (hW:jB w W)=>d0H W (h.at_.below hW));have CF:=jH (fun W (hW:jB w W) (hl:w.heap.size+1<W.heap.size)=>flM7 id tick val handle p (h.avoidX (X:=w.heap.size+1) (Nat.le_succ _) hW) (fun b hb=>⟨hP b (by have:=hW.size;omega),by omega⟩) hc hn hx hid);have HLT:=jH (And.intro h.at_.lt h.at_.map.lt);have HOFF:=jH h.at_.off;unfold b0H at CF ⊢;generalize (doW c rs rh wd ⟨7,id,tick,val,handle,p⟩).1=wd9 at CF ⊢
 generalize (doW c rs rh wd ⟨7,id,tick,val,handle,p⟩).2=r9 at CF ⊢;obtain ⟨p0,p1,p2,p3,p4,p5⟩:=p
 (try unfold a0S at CF)
 unfold a0S
 (try dsimp only at CF)
 dsimp only;unfold a0X b0E at CF;clear h hP hc hn hx hm hid
 go_enter Tryz.func17,Tryz.ntmps17
 go_wp2_with (first
  | (go_at_call 56
     refine a0B ?_;intro W1 hW1;obtain ⟨HB1,HX0,HX1⟩:=c0X w _ _ W1 hW1;clear hW1;refine (CK.out W1).mono ?_;rintro e w2 ⟨rfl,hb2⟩;obtain ⟨HB2,HX02,HX12⟩:=c0O hb2 HB1 HX0 HX1;clear hb2;obtain ⟨b1,b2,b3⟩:=a0A jR HX02.out;obtain ⟨y1,y2,y3⟩:=a0A jR HX12.out)
  | (go_at_call 57
     refine (CM.out w2 HB2.out).mono ?_;rintro e w3 ⟨rfl,rfl⟩)
  | (go_at_call 64
     refine (CF.out w3 HB2.out (jL HX12.out)).mono ?_;rintro e w4 ⟨d9,rfl,hf9,hL9,hu9⟩;have HF9:=jH hf9;have HL9:=jH hL9;have HU9:=jH hu9;have HX14:=jH ((hu9.block (w.heap.size+1) (jL HX12.out) (by have h1:=HLT.out.1;have h2:=HLT.out.2;simp only [List.mem_cons,List.not_mem_nil,or_false];omega)).trans HX12.out);have HU:=jH (Upd.trans (Upd.of_below HB2.out [M,d.L]) hu9);clear hf9 hL9 hu9 b1 b2 b3 y1 y2 y3
     obtain ⟨y1,y2,y3⟩:=a0A jR HX14.out))
 refine a0H ?_;intro W9 hW9;have hW9':W9=c0T w4 (w.heap.size+1) 0 (b0E r9):=hW9;obtain ⟨t1,t2,t3,t4⟩:=a0M HX14.out (b0E r9) rfl W9 hW9';obtain ⟨a9,a8,a7⟩:=a0A jR t1;clear hW9 hW9';have hfin:=HF9.out.fin (fun b hb=>by rw [HL9.out];exact HOFF.out b hb) (by rw [HL9.out];exact HU.out) (Nat.le_succ _) HLT.out.1 (by rw [HL9.out];exact HLT.out.2) t2 t3 t4;rw [HL9.out] at hfin;exact bodyPost_ret (v:=a0X r9) (by simp [results,Tryz.results17,go_sem,a9,a0X,b0E]) rfl ⟨d9,rfl,hfin.1,HL9.out,hfin.2⟩
theorem c0L.shut {P:Nat→Prop} {w w8:World} {M:Nat} {c:Cfg} {rs rh n m:Nat} {wd:Wd} {d:b0J} (h:c0L P w M c rs rh n wd d) (hs:w.heap.size≤w8.heap.size) (hk:∀b,b≠M→b<w.heap.size→w8.heap[b]?=w.heap[b]?)
    (hcell:w8.heap[M]?=some (.cells #[.int .i64 c.st,.int .i64 c.sa,.int .i64 c.lo,.int .i64 c.hi,.map (some d.L),.slice d.A d.cuts.length d.cp,.int .i64 wd.ep,.bool true] 103 (0,0))) :
    c0L P w8 M c rs rh m { wd with over:=true } d:=by
  have hkP:∀b,P b→b<w.heap.size→w8.heap[b]?=w.heap[b]?∧P b:=fun b hP hlt=>⟨hk b (h.off b hP).1 hlt,hP⟩
  refine ⟨⟨hcell,h.map.block (hk d.L (fun e=>h.ne e.symm) h.map.lt),h.ne,h.off,fun p hp=>(h.rows p hp).keepG hs hkP,h.len,h.row.keepG hs hkP,fun i x q hx hq=>⟨(h.cut i x q hx hq).1,fun hf=>?_⟩⟩,h.tells.same rfl⟩;obtain ⟨h1,l2,h2,h3,h4,h5,h6⟩:=(h.cut i x q hx hq).2 hf;exact ⟨h1,l2,h2,h3,h4.block (hkP l2 h3 h4.lt).1,fun p hp=>(h5 p hp).keepG hs hkP,h6⟩
theorem n1D {P:Nat→Prop} {w:World} {M:Nat} {c:Cfg} {rs rh n:Nat} {wd:Wd} {d:b0J} (id:ByteArray) (tick val handle:Int) (p:Pol) (h:FW P w M c rs rh n wd d) (hP:∀b,w.heap.size≤b→P b) (hc:b0S c rs rh) (hn:n≤100000) (hx:(⟨8,id,tick,val,handle,p⟩:b0Z).ok) :
 Calls Tryz.prog 17 #[.pointer (some ⟨M,0,none⟩),a0S ⟨8,id,tick,val,handle,p⟩] w (b0H P w M c rs rh (n+1) d.L (a0X (doW c rs rh wd ⟨8,id,tick,val,handle,p⟩).2) (doW c rs rh wd ⟨8,id,tick,val,handle,p⟩).1):=by
 have hm:id.size≤maxLen:=hx.2.1;obtain ⟨ce,hce⟩:∃ce:Int,ce=f0B id:=⟨_,rfl⟩;have CK:=jH (fun W=>show Calls Tryz.prog 56 #[.string id] W (jP W (.int .i64 ce)) from by rw [hce];exact b0M id W hm);have CM:=jH (fun W (hW:jB w W)=>d0H W (h.at_.below hW));have hd8:(doW c rs rh wd ⟨8,id,tick,val,handle,p⟩)=if wd.over=true then (wd,a0R 9) else ({ wd with over:=true },a0R 0):=by
  unfold doW;rw [w0A (.inr (.inr rfl))];rfl
 rw [hd8];have HC:=jH h.at_.cell;have HLT:=jH (And.intro h.at_.lt h.at_.map.lt);obtain ⟨p0,p1,p2,p3,p4,p5⟩:=p
 by_cases hov:wd.over=true
 · rw [if_pos hov]
   have HH:=jH h;rw [hov] at HC;unfold a0S;dsimp only;unfold b0H;clear h hP hc hn hx hm hce hd8 hov
   go_enter Tryz.func17,Tryz.ntmps17
   go_wp2_with (first
   | (go_at_call 56
      refine a0B ?_;intro W1 hW1;obtain ⟨HB1,HX0,HX1⟩:=c0X w _ _ W1 hW1;clear hW1;refine (CK.out W1).mono ?_;rintro e w2 ⟨rfl,hb2⟩;obtain ⟨HB2,HX02,HX12⟩:=c0O hb2 HB1 HX0 HX1;clear hb2;obtain ⟨b1,b2,b3⟩:=a0A jR HX02.out;obtain ⟨y1,y2,y3⟩:=a0A jR HX12.out)
   | (go_at_call 57
      refine (CM.out w2 HB2.out).mono ?_;rintro e w3 ⟨rfl,rfl⟩;obtain ⟨m1,m2,m3⟩:=a0A HB2.out HC.out))
   refine a0H ?_;intro W9 hW9;have hW9':W9=c0T w3 (w.heap.size+1) 0 (b0E (a0R 9)):=hW9;obtain ⟨t1,t2,t3,t4⟩:=a0M HX12.out (b0E (a0R 9)) rfl W9 hW9';obtain ⟨a9,a8,a7⟩:=a0A jR t1;clear hW9 hW9';exact bodyPost_ret (v:=a0X (a0R 9)) (by simp [results,Tryz.results17,go_sem,a9,a0X,b0E,a0R,st0,b0O]) rfl (HH.out.same (Nat.le_succ _) (HB2.out.trans (t4 _ (Nat.le_succ _))))
 · have hof:wd.over=false:=by simpa using hov
   rw [if_neg hov];rw [hof] at HC;have hav:=h.avoidX (X:=w.heap.size+1) (Nat.le_succ _) jR
   have HFIN:=jH (show ∀(W8 W9:World),w.heap.size≤W8.heap.size→(∀b,b≠M→b<w.heap.size→W8.heap[b]?=w.heap[b]?) →
       W8.heap[M]?=some (.cells #[.int .i64 c.st,.int .i64 c.sa,.int .i64 c.lo,.int .i64 c.hi,.map (some d.L),.slice d.A d.cuts.length d.cp,.int .i64 wd.ep,.bool true] 103 (0,0))→W8.os=w.os→W8.tape=w.tape→W8.output=w.output →
       (∀k,k≠w.heap.size+1→W9.heap[k]?=W8.heap[k]?)→W9.heap.size=W8.heap.size→(∀n,n≤w.heap.size+1→Below n W8 W9) →
       b0H P w M c rs rh (n+1) d.L (a0X (a0R 0)) { wd with over:=true } (.returned (a0X (a0R 0))) W9 from fun W8 W9 hs hk hcell ho1 ho2 ho3 h4 h5 h6=>by
     have h1:=hav.at_.shut (m:=n+1) hs hk hcell;have hwd:h0C c rs rh (n+1) { wd with over:=true }:=by
      have h9:=o1A h.ok (d0L _ hc.st).2 (by have hcb:=hc.cfg;unfold h0A at hcb;simp only [Bool.and_eq_true,decide_eq_true_eq] at hcb;omega) hc.room.h1 hx;rw [hd8,if_neg hov] at h9;exact h9
     have h2:Upd w W8 [M,d.L] [M,d.L]:=⟨ho1,ho2,ho3,hs,fun k hlt hn=>hk k (fun e=>hn (by rw [e];simp)) hlt,fun k hk=>.inl hk⟩;have h3:=FW.fin (d:=d) ⟨h1,hwd⟩ h.at_.off h2 (Nat.le_succ _) h.at_.lt h.at_.map.lt h4 h5 h6;exact ⟨_,rfl,h3.1,rfl,h3.2⟩)
   unfold a0S;dsimp only;clear h hP hc hn hx hm hce hd8 hov hof hav
   go_enter Tryz.func17,Tryz.ntmps17
   go_upto_region 27 with (first
   | (go_at_call 56
      refine a0B ?_;intro W1 hW1;obtain ⟨HB1,HX0,HX1⟩:=c0X w _ _ W1 hW1;clear hW1;refine (CK.out W1).mono ?_;rintro e w2 ⟨rfl,hb2⟩;obtain ⟨HB2,HX02,HX12⟩:=c0O hb2 HB1 HX0 HX1;clear hb2;obtain ⟨b1,b2,b3⟩:=a0A jR HX02.out;obtain ⟨y1,y2,y3⟩:=a0A jR HX12.out)
   | (go_at_call 57
      refine (CM.out w2 HB2.out).mono ?_;rintro e w3 ⟨rfl,rfl⟩;obtain ⟨m1,m2,m3⟩:=a0A HB2.out HC.out))
   refine a0J ?_;intro W4 hW4;have hXM:w.heap.size+1≠M:=by have:=HLT.out.1;omega
   have HM4:=jH (show W4.heap[M]?=some (.cells #[.int .i64 c.st,.int .i64 c.sa,.int .i64 c.lo,.int .i64 c.hi,.map (some d.L),.slice d.A d.cuts.length d.cp,.int .i64 wd.ep,.bool true] 103 (0,0)) by rw [hW4];exact a0E ((HB2.out.block M HLT.out.1).trans HC.out));have HX4:=jH ((show W4.heap[w.heap.size+1]?=w3.heap[w.heap.size+1]? by rw [hW4];exact a0K rfl hXM).trans HX12.out);have HK4:=jH (show ∀b,b≠M→b<w.heap.size→W4.heap[b]?=w.heap[b]? from fun b hb hlt=>by rw [hW4];exact (a0K rfl hb).trans (HB2.out.block b hlt))
   have HZ4:=jH (show w.heap.size≤W4.heap.size∧W4.os=w.os∧W4.tape=w.tape∧W4.output=w.output by rw [hW4];exact ⟨by have:=HB2.out.size;simpa [World.setCell] using this,HB2.out.os,HB2.out.tape,HB2.out.output⟩);clear hW4 b1 b2 b3 y1 y2 y3 m1 m2 m3 hXM;obtain ⟨y1,y2,y3⟩:=a0A jR HX4.out;go_wp2_with fail
   refine a0H ?_;intro W9 hW9;have hW9':W9=c0T W4 (w.heap.size+1) 0 (b0E (a0R 0)):=hW9;obtain ⟨t1,t2,t3,t4⟩:=a0M HX4.out (b0E (a0R 0)) rfl W9 hW9';obtain ⟨a9,a8,a7⟩:=a0A jR t1;clear hW9 hW9';exact bodyPost_ret (v:=a0X (a0R 0)) (by simp [results,Tryz.results17,go_sem,a9,a0X,b0E,a0R,st0,b0O]) rfl (HFIN.out W4 W9 HZ4.out.1 HK4.out HM4.out HZ4.out.2.1 HZ4.out.2.2.1 HZ4.out.2.2.2 t2 t3 t4)
theorem j0Q {P:Nat→Prop} {w:World} {M:Nat} {c:Cfg} {rs rh n:Nat} {wd:Wd} {d:b0J} (x:b0Z) (h:FW P w M c rs rh n wd d) (hP:∀b,w.heap.size≤b→P b) (hc:b0S c rs rh) (hn:n≤100000) (hx:x.ok) :
 Calls Tryz.prog 17 #[.pointer (some ⟨M,0,none⟩),a0S x] w (b0H P w M c rs rh (n+1) d.L (a0X (doW c rs rh wd x).2) (doW c rs rh wd x).1):=by
 obtain ⟨kind,id,tick,val,handle,p⟩:=x;have hbad:∀e:Int,e≠0→f0V ⟨kind,id,tick,val,handle,p⟩=e→doW c rs rh wd ⟨kind,id,tick,val,handle,p⟩=(wd,a0R e):=fun e he hck=>by
  unfold doW;rw [hck,if_pos he]
 by_cases hk:kind<1∨8<kind
 · rw [hbad 14 (by decide) (by unfold f0V;rw [if_pos hk])]
   refine (h1T (some ⟨M,0,none⟩) kind id tick val handle p w hk).mono ?_;rintro e w' ⟨rfl,hb⟩;exact h.same (Nat.le_succ _) hb
 have hid2:∀K:Int,(K=1∨K=5∨K=6∨K=7)→kind=K→idS id=false→doW c rs rh wd ⟨kind,id,tick,val,handle,p⟩=(wd,a0R 2):=fun K hK hkk hid=>hbad 2 (by decide) (by rw [hkk];exact f1Z hK id tick val handle p hid)
 have hcase:kind=1∨kind=2∨kind=3∨kind=4∨kind=5∨kind=6∨kind=7∨kind=8:=by omega
 cases hid:idS id with
 | true =>
   rcases hcase with rfl|rfl|rfl|rfl|rfl|rfl|rfl|rfl
   · exact flDo_1 id tick val handle p h hP hc hn hx hid
   · exact n1S id tick val handle p h hP hc hn hx
   · exact n1Q id tick val handle p h hP hc hn hx
   · exact n1R id tick val handle p h hP hc hn hx
   · exact flDo_5 id tick val handle p h hP hc hn hx hid
   · exact flDo_6 id tick val handle p h hP hc hn hx hid
   · exact flDo_7 id tick val handle p h hP hc hn hx hid
   · exact n1D id tick val handle p h hP hc hn hx
 | false =>
   rcases hcase with rfl|rfl|rfl|rfl|rfl|rfl|rfl|rfl
   · rw [hid2 1 (by simp) rfl hid]
     refine (m1P (some ⟨M,0,none⟩) id tick val handle p w hx.2.1 hid).mono ?_;rintro e w' ⟨rfl,hb⟩;exact h.same (Nat.le_succ _) hb
   · exact n1S id tick val handle p h hP hc hn hx
   · exact n1Q id tick val handle p h hP hc hn hx
   · exact n1R id tick val handle p h hP hc hn hx
   · rw [hid2 5 (by simp) rfl hid]
     refine (k1A (some ⟨M,0,none⟩) id tick val handle p w hx.2.1 hid).mono ?_;rintro e w' ⟨rfl,hb⟩;exact h.same (Nat.le_succ _) hb
   · rw [hid2 6 (by simp) rfl hid]
     refine (j1E (some ⟨M,0,none⟩) id tick val handle p w hx.2.1 hid).mono ?_;rintro e w' ⟨rfl,hb⟩;exact h.same (Nat.le_succ _) hb
   · rw [hid2 7 (by simp) rfl hid]
     refine (l1X (some ⟨M,0,none⟩) id tick val handle p w hx.2.1 hid).mono ?_;rintro e w' ⟨rfl,hb⟩;exact h.same (Nat.le_succ _) hb
   · exact n1D id tick val handle p h hP hc hn hx
end
end
end Go.Proofs.YtmniiodpbebnmaaGreat
