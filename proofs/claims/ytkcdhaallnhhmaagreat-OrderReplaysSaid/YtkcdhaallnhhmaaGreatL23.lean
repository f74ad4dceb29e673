/- Part 23 of the proof: TrFol. -/
import Derived.Test.YtkcdhaallnhhmaaGreatL16
namespace Go.Proofs.YtkcdhaallnhhmaaGreat
set_option linter.unusedSimpArgs false
set_option linter.unusedVariables false
set_option linter.unusedSectionVars false
set_option maxRecDepth 100000
set_option maxHeartbeats 16000000
section
open Go.RowKit Go.Lib
def trkC (t:Trk):List Value:=[.int .i64 t.nth,.int .i64 t.last,.int .u64 (t.hi:Nat),.int .u64 (t.lo:Nat)]
def FolSays (w:World) (X:Nat) (b:Bool) (t:Trk) (r:Ending) (w':World):Prop :=
 r=.returned (.bool b)∧w'.heap[X]?=some (.cells (trkC t).toArray 187 (0,0))∧Upd w w' [X] [X]
theorem trk_puts:∀(vs:List (Nat × Value)) (w:World) (X:Nat) (cs:Array Value) (Q:TypeId),w.heap[X]?=some (.cells cs Q (0,0)) →
    (vs.foldl (fun u p=>u.setCell ⟨X,p.1,none⟩ p.2) w).heap[X]?=some (.cells (vs.foldl (fun c p=>c.setIfInBounds p.1 p.2) cs) Q (0,0))∧(∀k,k≠X→(vs.foldl (fun u p=>u.setCell ⟨X,p.1,none⟩ p.2) w).heap[k]?=w.heap[k]?)∧(vs.foldl (fun u p=>u.setCell ⟨X,p.1,none⟩ p.2) w).heap.size=w.heap.size∧Below X w (vs.foldl (fun u p=>u.setCell ⟨X,p.1,none⟩ p.2) w)
  | [],w,X,cs,Q,h=>⟨h,fun _ _=>rfl,rfl,jR⟩
  | p::vs,w,X,cs,Q,h=>by
    obtain ⟨a1,a2,a3,a4⟩:=trk_puts vs (w.setCell ⟨X,p.1,none⟩ p.2) X _ Q (stor_one (i:=p.1) (v:=p.2) h);exact ⟨a1,fun k hk=>(a2 k hk).trans (stor_other hk),a3.trans (by simp [World.setCell]),((Below.refl X w).setCell (p:=⟨X,p.1,none⟩) (Nat.le_refl X) p.2).trans a4⟩
theorem fol_end {w W:World} {X n:Nat} {cs:Array Value} {o:Obj} (vs:List (Nat × Value)) (b:Bool) (t:Trk) (h:w.heap[X]?=some (.cells cs 187 (0,0))) (hw:W=((vs.foldl (fun u p=>u.setCell ⟨X,p.1,none⟩ p.2) w).alloc o).drewN n) (hc:vs.foldl (fun c p=>c.setIfInBounds p.1 p.2) cs=(trkC t).toArray) (r:Ending) (hr:r=.returned (.bool b)):FolSays w X b t r W:=by
 obtain ⟨a1,a2,a3,a4⟩:=trk_puts vs w X cs _ h;have hX:=(jL h);have hb:Below (vs.foldl (fun u p=>u.setCell ⟨X,p.1,none⟩ p.2) w).heap.size (vs.foldl (fun u p=>u.setCell ⟨X,p.1,none⟩ p.2) w) W:=by rw [hw];exact below_drewN (balloc jR _) _
 refine ⟨hr,(hb.block X (by rw [a3];exact hX)).trans (a1.trans (by rw [hc])),?_⟩;exact Upd.trans ⟨a4.os,a4.tape,a4.output,Nat.le_of_eq a3.symm,fun k hk hn=>a2 k (fun e=>hn (by rw [e];exact List.mem_singleton.2 rfl)),fun r hr=>.inl hr⟩ (Upd.of_below hb _)
theorem eqKy (a b c d:Nat) (U:World):(binOp .eql 130 (.agg #[.int .u64 (a:Nat),.int .u64 (b:Nat)]) (.agg #[.int .u64 (c:Nat),.int .u64 (d:Nat)])).run Tryz.prog U=.ok (.bool (decide (a=c∧b=d))) U:=by
 go_simp
 by_cases h1:a=c
 · by_cases h2:b=d
   · simp [h1,h2]
   · have h3:¬(b:Int)=(d:Int):=by omega
     simp [h1,h2,h3]
 · have h3:¬(a:Int)=(c:Int):=by omega
   simp [h1,h3]
theorem trkB_eq (t:Trk) (e:EvtD):trkB t e=(mayK e.kind t.last && (decide (e.nth=(trkN t e).nth) && decide (e.hi=(trkN t e).hi∧e.lo=(trkN t e).lo))):=by
 unfold trkB;rw [Bool.decide_and]
section
variable {w:World} {X:Nat} {t:Trk}
theorem fol_2 (hX:w.heap[X]?=some (.cells (trkC t).toArray 187 (0,0))) (hn:0≤t.nth∧t.nth≤1000) (e:EvtD) (hk:e.kind=2) :
 Calls Tryz.prog 111 #[.pointer (some ⟨X,0,none⟩),evV e] w (FolSays w X (trkB t e) (trkN t e)):=by
 rw [trkB_eq];have hlt:=(jL hX);have hne:¬X=w.heap.size:=by omega
 have hne2:¬w.heap.size=X:=fun h=>hne h.symm
 have HX:=jH hX;obtain ⟨x1,x2,x3⟩:=box_cells jR hX;obtain ⟨tn,tl,th,tlo⟩:=t;obtain ⟨kind,task,nth,⟨ck,cid,ct,cv,ch,⟨mn,mx,tg,tol,win,hold⟩⟩,err,epoch,handle,cnt,sum,least,most,mean,atick,aload,awant,arepl,awhy,hi,lo,ntick,nload,nwant,nrepl,nwhy⟩:=e;unfold evV;unfold trkC at x1 HX;unfold trkN nthK;dsimp only at x1 HX hn hk ⊢;subst hk;rw [if_neg (show ¬((2:Int)=1∧tl=3) by omega),if_neg (show ¬(2:Int)=4 by omega),if_neg (show ¬(2:Int)=4 by omega)]
 by_cases h1:tl=1
 · subst h1
   have hm:mayK 2 1=true:=decide_eq_true (by omega);rw [hm];clear hm;have EQ:=eqKy hi lo th tlo;generalize decide (hi=th∧lo=tlo)=kb at EQ ⊢
   by_cases hb:nth=tn
   · have zb:(nth == tn)=true:=by simpa using hb
     rw [decide_eq_true hb,Bool.true_and,Bool.true_and];clear hb;clear hX hlt
     go_enter Tryz.func111,Tryz.ntmps111
     go_wp2_with fail
     go_quiet (fail)
     go_wp2_with fail
     go_ret
     exact fol_end [(1,.int .i64 2)] _ _ HX.out (by rfl) (by rfl) _ (by rfl)
   · have zb:(nth == tn)=false:=by simpa using hb
     rw [decide_eq_false hb,Bool.false_and,Bool.and_false];clear hb;clear hX hlt
     go_enter Tryz.func111,Tryz.ntmps111
     go_wp2_with fail
     go_quiet (fail)
     go_wp2_with fail
     go_ret
     exact fol_end [(1,.int .i64 2)] _ _ HX.out (by rfl) (by rfl) _ (by rfl)
 · have z1:(tl == 1)=false:=by simpa using h1
   have hm:mayK 2 tl=false:=decide_eq_false (by omega);clear h1;rw [hm,Bool.false_and];clear hm;clear hX hlt
   go_enter Tryz.func111,Tryz.ntmps111
   go_wp2_with fail
   go_quiet (fail)
   go_wp2_with fail
   go_ret
   exact fol_end [(1,.int .i64 2)] _ _ HX.out (by rfl) (by rfl) _ (by rfl)
theorem fol_3 (hX:w.heap[X]?=some (.cells (trkC t).toArray 187 (0,0))) (hn:0≤t.nth∧t.nth≤1000) (e:EvtD) (hk:e.kind=3) :
 Calls Tryz.prog 111 #[.pointer (some ⟨X,0,none⟩),evV e] w (FolSays w X (trkB t e) (trkN t e)):=by
 rw [trkB_eq];have hlt:=(jL hX);have hne:¬X=w.heap.size:=by omega
 have hne2:¬w.heap.size=X:=fun h=>hne h.symm
 have HX:=jH hX;obtain ⟨x1,x2,x3⟩:=box_cells jR hX;obtain ⟨tn,tl,th,tlo⟩:=t;obtain ⟨kind,task,nth,⟨ck,cid,ct,cv,ch,⟨mn,mx,tg,tol,win,hold⟩⟩,err,epoch,handle,cnt,sum,least,most,mean,atick,aload,awant,arepl,awhy,hi,lo,ntick,nload,nwant,nrepl,nwhy⟩:=e;unfold evV;unfold trkC at x1 HX;unfold trkN nthK;dsimp only at x1 HX hn hk ⊢;subst hk;rw [if_neg (show ¬((3:Int)=1∧tl=3) by omega),if_neg (show ¬(3:Int)=4 by omega),if_neg (show ¬(3:Int)=4 by omega)]
 by_cases h1:tl=2
 · subst h1
   have hm:mayK 3 2=true:=decide_eq_true (by omega);rw [hm];clear hm;have EQ:=eqKy hi lo th tlo;generalize decide (hi=th∧lo=tlo)=kb at EQ ⊢
   by_cases hb:nth=tn
   · have zb:(nth == tn)=true:=by simpa using hb
     rw [decide_eq_true hb,Bool.true_and,Bool.true_and];clear hb;clear hX hlt
     go_enter Tryz.func111,Tryz.ntmps111
     go_wp2_with fail
     go_quiet (fail)
     go_wp2_with fail
     go_ret
     exact fol_end [(1,.int .i64 3)] _ _ HX.out (by rfl) (by rfl) _ (by rfl)
   · have zb:(nth == tn)=false:=by simpa using hb
     rw [decide_eq_false hb,Bool.false_and,Bool.and_false];clear hb;clear hX hlt
     go_enter Tryz.func111,Tryz.ntmps111
     go_wp2_with fail
     go_quiet (fail)
     go_wp2_with fail
     go_ret
     exact fol_end [(1,.int .i64 3)] _ _ HX.out (by rfl) (by rfl) _ (by rfl)
 · have z1:(tl == 2)=false:=by simpa using h1
   have hm:mayK 3 tl=false:=decide_eq_false (by omega);clear h1;rw [hm,Bool.false_and];clear hm;clear hX hlt
   go_enter Tryz.func111,Tryz.ntmps111
   go_wp2_with fail
   go_quiet (fail)
   go_wp2_with fail
   go_ret
   exact fol_end [(1,.int .i64 3)] _ _ HX.out (by rfl) (by rfl) _ (by rfl)
theorem fol_5 (hX:w.heap[X]?=some (.cells (trkC t).toArray 187 (0,0))) (hn:0≤t.nth∧t.nth≤1000) (e:EvtD) (hk:e.kind=5) :
 Calls Tryz.prog 111 #[.pointer (some ⟨X,0,none⟩),evV e] w (FolSays w X (trkB t e) (trkN t e)):=by
 rw [trkB_eq];have hlt:=(jL hX);have hne:¬X=w.heap.size:=by omega
 have hne2:¬w.heap.size=X:=fun h=>hne h.symm
 have HX:=jH hX;obtain ⟨x1,x2,x3⟩:=box_cells jR hX;obtain ⟨tn,tl,th,tlo⟩:=t;obtain ⟨kind,task,nth,⟨ck,cid,ct,cv,ch,⟨mn,mx,tg,tol,win,hold⟩⟩,err,epoch,handle,cnt,sum,least,most,mean,atick,aload,awant,arepl,awhy,hi,lo,ntick,nload,nwant,nrepl,nwhy⟩:=e;unfold evV;unfold trkC at x1 HX;unfold trkN nthK;dsimp only at x1 HX hn hk ⊢;subst hk;rw [if_neg (show ¬((5:Int)=1∧tl=3) by omega),if_neg (show ¬(5:Int)=4 by omega),if_neg (show ¬(5:Int)=4 by omega)]
 by_cases h1:tl=4
 · subst h1
   have hm:mayK 5 4=true:=decide_eq_true (by omega);rw [hm];clear hm;have EQ:=eqKy hi lo th tlo;generalize decide (hi=th∧lo=tlo)=kb at EQ ⊢
   by_cases hb:nth=tn
   · have zb:(nth == tn)=true:=by simpa using hb
     rw [decide_eq_true hb,Bool.true_and,Bool.true_and];clear hb;clear hX hlt
     go_enter Tryz.func111,Tryz.ntmps111
     go_wp2_with fail
     go_quiet (fail)
     go_wp2_with fail
     go_ret
     exact fol_end [(1,.int .i64 5)] _ _ HX.out (by rfl) (by rfl) _ (by rfl)
   · have zb:(nth == tn)=false:=by simpa using hb
     rw [decide_eq_false hb,Bool.false_and,Bool.and_false];clear hb;clear hX hlt
     go_enter Tryz.func111,Tryz.ntmps111
     go_wp2_with fail
     go_quiet (fail)
     go_wp2_with fail
     go_ret
     exact fol_end [(1,.int .i64 5)] _ _ HX.out (by rfl) (by rfl) _ (by rfl)
 · have z1:(tl == 4)=false:=by simpa using h1
   have hm:mayK 5 tl=false:=decide_eq_false (by omega);clear h1;rw [hm,Bool.false_and];clear hm;clear hX hlt
   go_enter Tryz.func111,Tryz.ntmps111
   go_wp2_with fail
   go_quiet (fail)
   go_wp2_with fail
   go_ret
   exact fol_end [(1,.int .i64 5)] _ _ HX.out (by rfl) (by rfl) _ (by rfl)
theorem fol_6 (hX:w.heap[X]?=some (.cells (trkC t).toArray 187 (0,0))) (hn:0≤t.nth∧t.nth≤1000) (e:EvtD) (hk:e.kind=6) :
 Calls Tryz.prog 111 #[.pointer (some ⟨X,0,none⟩),evV e] w (FolSays w X (trkB t e) (trkN t e)):=by
 rw [trkB_eq];have hlt:=(jL hX);have hne:¬X=w.heap.size:=by omega
 have hne2:¬w.heap.size=X:=fun h=>hne h.symm
 have HX:=jH hX;obtain ⟨x1,x2,x3⟩:=box_cells jR hX;obtain ⟨tn,tl,th,tlo⟩:=t;obtain ⟨kind,task,nth,⟨ck,cid,ct,cv,ch,⟨mn,mx,tg,tol,win,hold⟩⟩,err,epoch,handle,cnt,sum,least,most,mean,atick,aload,awant,arepl,awhy,hi,lo,ntick,nload,nwant,nrepl,nwhy⟩:=e;unfold evV;unfold trkC at x1 HX;unfold trkN nthK;dsimp only at x1 HX hn hk ⊢;subst hk;rw [if_neg (show ¬((6:Int)=1∧tl=3) by omega),if_neg (show ¬(6:Int)=4 by omega),if_neg (show ¬(6:Int)=4 by omega)]
 by_cases h1:tl=5
 · subst h1
   have hm:mayK 6 5=true:=decide_eq_true (by omega);rw [hm];clear hm;have EQ:=eqKy hi lo th tlo;generalize decide (hi=th∧lo=tlo)=kb at EQ ⊢
   by_cases hb:nth=tn
   · have zb:(nth == tn)=true:=by simpa using hb
     rw [decide_eq_true hb,Bool.true_and,Bool.true_and];clear hb;clear hX hlt
     go_enter Tryz.func111,Tryz.ntmps111
     go_wp2_with fail
     go_quiet (fail)
     go_wp2_with fail
     go_ret
     exact fol_end [(1,.int .i64 6)] _ _ HX.out (by rfl) (by rfl) _ (by rfl)
   · have zb:(nth == tn)=false:=by simpa using hb
     rw [decide_eq_false hb,Bool.false_and,Bool.and_false];clear hb;clear hX hlt
     go_enter Tryz.func111,Tryz.ntmps111
     go_wp2_with fail
     go_quiet (fail)
     go_wp2_with fail
     go_ret
     exact fol_end [(1,.int .i64 6)] _ _ HX.out (by rfl) (by rfl) _ (by rfl)
 · have z1:(tl == 5)=false:=by simpa using h1
   have hm:mayK 6 tl=false:=decide_eq_false (by omega);clear h1;rw [hm,Bool.false_and];clear hm;clear hX hlt
   go_enter Tryz.func111,Tryz.ntmps111
   go_wp2_with fail
   go_quiet (fail)
   go_wp2_with fail
   go_ret
   exact fol_end [(1,.int .i64 6)] _ _ HX.out (by rfl) (by rfl) _ (by rfl)
theorem fol_7 (hX:w.heap[X]?=some (.cells (trkC t).toArray 187 (0,0))) (hn:0≤t.nth∧t.nth≤1000) (e:EvtD) (hk:e.kind=7) :
 Calls Tryz.prog 111 #[.pointer (some ⟨X,0,none⟩),evV e] w (FolSays w X (trkB t e) (trkN t e)):=by
 rw [trkB_eq];have hlt:=(jL hX);have hne:¬X=w.heap.size:=by omega
 have hne2:¬w.heap.size=X:=fun h=>hne h.symm
 have HX:=jH hX;obtain ⟨x1,x2,x3⟩:=box_cells jR hX;obtain ⟨tn,tl,th,tlo⟩:=t;obtain ⟨kind,task,nth,⟨ck,cid,ct,cv,ch,⟨mn,mx,tg,tol,win,hold⟩⟩,err,epoch,handle,cnt,sum,least,most,mean,atick,aload,awant,arepl,awhy,hi,lo,ntick,nload,nwant,nrepl,nwhy⟩:=e;unfold evV;unfold trkC at x1 HX;unfold trkN nthK;dsimp only at x1 HX hn hk ⊢;subst hk;rw [if_neg (show ¬((7:Int)=1∧tl=3) by omega),if_neg (show ¬(7:Int)=4 by omega),if_neg (show ¬(7:Int)=4 by omega)]
 by_cases h1:tl=5
 · subst h1
   have hm:mayK 7 5=true:=decide_eq_true (by omega);rw [hm];clear hm;have EQ:=eqKy hi lo th tlo;generalize decide (hi=th∧lo=tlo)=kb at EQ ⊢
   by_cases hb:nth=tn
   · have zb:(nth == tn)=true:=by simpa using hb
     rw [decide_eq_true hb,Bool.true_and,Bool.true_and];clear hb;clear hX hlt
     go_enter Tryz.func111,Tryz.ntmps111
     go_wp2_with fail
     go_quiet (fail)
     go_wp2_with fail
     go_ret
     exact fol_end [(1,.int .i64 7)] _ _ HX.out (by rfl) (by rfl) _ (by rfl)
   · have zb:(nth == tn)=false:=by simpa using hb
     rw [decide_eq_false hb,Bool.false_and,Bool.and_false];clear hb;clear hX hlt
     go_enter Tryz.func111,Tryz.ntmps111
     go_wp2_with fail
     go_quiet (fail)
     go_wp2_with fail
     go_ret
     exact fol_end [(1,.int .i64 7)] _ _ HX.out (by rfl) (by rfl) _ (by rfl)
 · have z1:(tl == 5)=false:=by simpa using h1
   by_cases h2:tl=6
   · subst h2
     have hm:mayK 7 6=true:=decide_eq_true (by omega);rw [hm];clear hm;have EQ:=eqKy hi lo th tlo;generalize decide (hi=th∧lo=tlo)=kb at EQ ⊢
     by_cases hb:nth=tn
     · have zb:(nth == tn)=true:=by simpa using hb
       rw [decide_eq_true hb,Bool.true_and,Bool.true_and];clear hb;clear hX hlt
       go_enter Tryz.func111,Tryz.ntmps111
       go_wp2_with fail
       go_quiet (fail)
       go_wp2_with fail
       go_ret
       exact fol_end [(1,.int .i64 7)] _ _ HX.out (by rfl) (by rfl) _ (by rfl)
     · have zb:(nth == tn)=false:=by simpa using hb
       rw [decide_eq_false hb,Bool.false_and,Bool.and_false];clear hb;clear hX hlt
       go_enter Tryz.func111,Tryz.ntmps111
       go_wp2_with fail
       go_quiet (fail)
       go_wp2_with fail
       go_ret
       exact fol_end [(1,.int .i64 7)] _ _ HX.out (by rfl) (by rfl) _ (by rfl)
   · have z2:(tl == 6)=false:=by simpa using h2
     have hm:mayK 7 tl=false:=decide_eq_false (by omega);clear h1 h2;rw [hm,Bool.false_and];clear hm;clear hX hlt
     go_enter Tryz.func111,Tryz.ntmps111
     go_wp2_with fail
     go_quiet (fail)
     go_wp2_with fail
     go_ret
     exact fol_end [(1,.int .i64 7)] _ _ HX.out (by rfl) (by rfl) _ (by rfl)
theorem fol_4 (hX:w.heap[X]?=some (.cells (trkC t).toArray 187 (0,0))) (hn:0≤t.nth∧t.nth≤1000) (e:EvtD) (hk:e.kind=4) :
 Calls Tryz.prog 111 #[.pointer (some ⟨X,0,none⟩),evV e] w (FolSays w X (trkB t e) (trkN t e)):=by
 rw [trkB_eq];have hlt:=(jL hX);have hne:¬X=w.heap.size:=by omega
 have hne2:¬w.heap.size=X:=fun h=>hne h.symm
 have HX:=jH hX;obtain ⟨x1,x2,x3⟩:=box_cells jR hX;obtain ⟨tn,tl,th,tlo⟩:=t;obtain ⟨kind,task,nth,⟨ck,cid,ct,cv,ch,⟨mn,mx,tg,tol,win,hold⟩⟩,err,epoch,handle,cnt,sum,least,most,mean,atick,aload,awant,arepl,awhy,hi,lo,ntick,nload,nwant,nrepl,nwhy⟩:=e;unfold evV;unfold trkC at x1 HX;unfold trkN nthK;dsimp only at x1 HX hn hk ⊢;subst hk;rw [if_neg (show ¬((4:Int)=1∧tl=3) by omega),if_pos rfl,if_pos rfl]
 by_cases h1:tl=0
 · subst h1
   have hm:mayK 4 0=true:=decide_eq_true (by omega);rw [hm];clear hm;have EQ:=eqKy hi lo hi lo;generalize decide (hi=hi∧lo=lo)=kb at EQ ⊢
   by_cases hb:nth=tn
   · have zb:(nth == tn)=true:=by simpa using hb
     rw [decide_eq_true hb,Bool.true_and,Bool.true_and];clear hb;clear hX hlt
     go_enter Tryz.func111,Tryz.ntmps111
     go_wp2_with fail
     go_quiet (fail)
     go_wp2_with fail
     go_ret
     exact fol_end [(2,.int .u64 (hi:Nat)),(3,.int .u64 (lo:Nat)),(1,.int .i64 4)] _ _ HX.out (by rfl) (by rfl) _ (by rfl)
   · have zb:(nth == tn)=false:=by simpa using hb
     rw [decide_eq_false hb,Bool.false_and,Bool.and_false];clear hb;clear hX hlt
     go_enter Tryz.func111,Tryz.ntmps111
     go_wp2_with fail
     go_quiet (fail)
     go_wp2_with fail
     go_ret
     exact fol_end [(2,.int .u64 (hi:Nat)),(3,.int .u64 (lo:Nat)),(1,.int .i64 4)] _ _ HX.out (by rfl) (by rfl) _ (by rfl)
 · have z1:(tl == 0)=false:=by simpa using h1
   by_cases h2:tl=7
   · subst h2
     have hm:mayK 4 7=true:=decide_eq_true (by omega);rw [hm];clear hm;have EQ:=eqKy hi lo hi lo;generalize decide (hi=hi∧lo=lo)=kb at EQ ⊢
     by_cases hb:nth=tn
     · have zb:(nth == tn)=true:=by simpa using hb
       rw [decide_eq_true hb,Bool.true_and,Bool.true_and];clear hb;clear hX hlt
       go_enter Tryz.func111,Tryz.ntmps111
       go_wp2_with fail
       go_quiet (fail)
       go_wp2_with fail
       go_ret
       exact fol_end [(2,.int .u64 (hi:Nat)),(3,.int .u64 (lo:Nat)),(1,.int .i64 4)] _ _ HX.out (by rfl) (by rfl) _ (by rfl)
     · have zb:(nth == tn)=false:=by simpa using hb
       rw [decide_eq_false hb,Bool.false_and,Bool.and_false];clear hb;clear hX hlt
       go_enter Tryz.func111,Tryz.ntmps111
       go_wp2_with fail
       go_quiet (fail)
       go_wp2_with fail
       go_ret
       exact fol_end [(2,.int .u64 (hi:Nat)),(3,.int .u64 (lo:Nat)),(1,.int .i64 4)] _ _ HX.out (by rfl) (by rfl) _ (by rfl)
   · have z2:(tl == 7)=false:=by simpa using h2
     have hm:mayK 4 tl=false:=decide_eq_false (by omega);clear h1 h2;rw [hm,Bool.false_and];clear hm;clear hX hlt
     go_enter Tryz.func111,Tryz.ntmps111
     go_wp2_with fail
     go_quiet (fail)
     go_wp2_with fail
     go_ret
     exact fol_end [(2,.int .u64 (hi:Nat)),(3,.int .u64 (lo:Nat)),(1,.int .i64 4)] _ _ HX.out (by rfl) (by rfl) _ (by rfl)
theorem fol_1 (hX:w.heap[X]?=some (.cells (trkC t).toArray 187 (0,0))) (hn:0≤t.nth∧t.nth≤1000) (e:EvtD) (hk:e.kind=1) :
 Calls Tryz.prog 111 #[.pointer (some ⟨X,0,none⟩),evV e] w (FolSays w X (trkB t e) (trkN t e)):=by
 rw [trkB_eq];have hlt:=(jL hX);have hne:¬X=w.heap.size:=by omega
 have hne2:¬w.heap.size=X:=fun h=>hne h.symm
 have HX:=jH hX;obtain ⟨x1,x2,x3⟩:=box_cells jR hX;obtain ⟨tn,tl,th,tlo⟩:=t;obtain ⟨kind,task,nth,⟨ck,cid,ct,cv,ch,⟨mn,mx,tg,tol,win,hold⟩⟩,err,epoch,handle,cnt,sum,least,most,mean,atick,aload,awant,arepl,awhy,hi,lo,ntick,nload,nwant,nrepl,nwhy⟩:=e;unfold evV;unfold trkC at x1 HX;unfold trkN nthK;dsimp only at x1 HX hn hk ⊢;subst hk;have hw:wrap64 (tn+1)=tn+1:=by unfold wrap64;omega
 by_cases h1:tl=0
 · subst h1
   rw [if_neg (show ¬((1:Int)=1∧(0:Int)=3) by omega),if_neg (show ¬(1:Int)=4 by omega),if_neg (show ¬(1:Int)=4 by omega)];have hm:mayK 1 0=true:=decide_eq_true (by omega);rw [hm];clear hm;have EQ:=eqKy hi lo th tlo;generalize decide (hi=th∧lo=tlo)=kb at EQ ⊢
   by_cases hb:nth=tn
   · have zb:(nth == tn)=true:=by simpa using hb
     rw [decide_eq_true hb,Bool.true_and,Bool.true_and];clear hb;clear hX hlt
     go_enter Tryz.func111,Tryz.ntmps111
     go_wp2_with fail
     go_quiet (fail)
     go_wp2_with fail
     go_ret
     exact fol_end [(1,.int .i64 1)] _ _ HX.out (by rfl) (by rfl) _ (by rfl)
   · have zb:(nth == tn)=false:=by simpa using hb
     rw [decide_eq_false hb,Bool.false_and,Bool.and_false];clear hb;clear hX hlt
     go_enter Tryz.func111,Tryz.ntmps111
     go_wp2_with fail
     go_quiet (fail)
     go_wp2_with fail
     go_ret
     exact fol_end [(1,.int .i64 1)] _ _ HX.out (by rfl) (by rfl) _ (by rfl)
 · have z1:(tl == 0)=false:=by simpa using h1
   by_cases h2:tl=3
   · subst h2
     rw [if_pos ⟨rfl,rfl⟩,if_neg (show ¬(1:Int)=4 by omega),if_neg (show ¬(1:Int)=4 by omega)];have hm:mayK 1 3=true:=decide_eq_true (by omega);rw [hm];clear hm;have EQ:=eqKy hi lo th tlo;generalize decide (hi=th∧lo=tlo)=kb at EQ ⊢
     by_cases hb:nth=tn+1
     · have zb:(nth == tn+1)=true:=by simpa using hb
       rw [decide_eq_true hb,Bool.true_and,Bool.true_and];clear hb;clear hX hlt
       go_enter Tryz.func111,Tryz.ntmps111
       go_wp2_with fail
       go_quiet (fail)
       go_wp2_with fail
       go_ret
       exact fol_end [(0,.int .i64 (tn+1)),(1,.int .i64 1)] _ _ HX.out (by rfl) (by rfl) _ (by rfl)
     · have zb:(nth == tn+1)=false:=by simpa using hb
       rw [decide_eq_false hb,Bool.false_and,Bool.and_false];clear hb;clear hX hlt
       go_enter Tryz.func111,Tryz.ntmps111
       go_wp2_with fail
       go_quiet (fail)
       go_wp2_with fail
       go_ret
       exact fol_end [(0,.int .i64 (tn+1)),(1,.int .i64 1)] _ _ HX.out (by rfl) (by rfl) _ (by rfl)
   · have z2:(tl == 3)=false:=by simpa using h2
     rw [if_neg (show ¬((1:Int)=1∧tl=3) by omega),if_neg (show ¬(1:Int)=4 by omega),if_neg (show ¬(1:Int)=4 by omega)];have hm:mayK 1 tl=false:=decide_eq_false (by omega);clear h1 h2;rw [hm,Bool.false_and];clear hm;clear hX hlt
     go_enter Tryz.func111,Tryz.ntmps111
     go_wp2_with fail
     go_quiet (fail)
     go_wp2_with fail
     go_ret
     exact fol_end [(1,.int .i64 1)] _ _ HX.out (by rfl) (by rfl) _ (by rfl)
theorem fol_no (hX:w.heap[X]?=some (.cells (trkC t).toArray 187 (0,0))) (hn:0≤t.nth∧t.nth≤1000) (e:EvtD) (hk:¬(1≤e.kind∧e.kind≤7)) :
 Calls Tryz.prog 111 #[.pointer (some ⟨X,0,none⟩),evV e] w (FolSays w X (trkB t e) (trkN t e)):=by
 rw [trkB_eq];have hlt:=(jL hX);have hne:¬X=w.heap.size:=by omega
 have hne2:¬w.heap.size=X:=fun h=>hne h.symm
 have HX:=jH hX;obtain ⟨x1,x2,x3⟩:=box_cells jR hX;obtain ⟨tn,tl,th,tlo⟩:=t;obtain ⟨kind,task,nth,⟨ck,cid,ct,cv,ch,⟨mn,mx,tg,tol,win,hold⟩⟩,err,epoch,handle,cnt,sum,least,most,mean,atick,aload,awant,arepl,awhy,hi,lo,ntick,nload,nwant,nrepl,nwhy⟩:=e;unfold evV;unfold trkC at x1 HX;unfold trkN nthK;dsimp only at x1 HX hn hk ⊢;have z1:(kind == 1)=false:=by
  have h9:kind≠1:=by omega
  simpa using h9
 have z2:(kind == 2)=false:=by
  have h9:kind≠2:=by omega
  simpa using h9
 have z3:(kind == 3)=false:=by
  have h9:kind≠3:=by omega
  simpa using h9
 have z4:(kind == 4)=false:=by
  have h9:kind≠4:=by omega
  simpa using h9
 have z5:(kind == 5)=false:=by
  have h9:kind≠5:=by omega
  simpa using h9
 have z6:(kind == 6)=false:=by
  have h9:kind≠6:=by omega
  simpa using h9
 have z7:(kind == 7)=false:=by
  have h9:kind≠7:=by omega
  simpa using h9
 rw [if_neg (show ¬(kind=1∧tl=3) by omega),if_neg (show ¬kind=4 by omega),if_neg (show ¬kind=4 by omega)];have hm:mayK kind tl=false:=decide_eq_false (by omega);clear hk;rw [hm,Bool.false_and];clear hm;clear hX hlt
 go_enter Tryz.func111,Tryz.ntmps111
 go_wp2_with fail
 go_quiet (fail)
 go_wp2_with fail
 go_ret
 exact fol_end [(1,.int .i64 kind)] _ _ HX.out (by rfl) (by rfl) _ (by rfl)
theorem follows_any (hX:w.heap[X]?=some (.cells (trkC t).toArray 187 (0,0))) (hn:0≤t.nth∧t.nth≤1000) (e:EvtD) :
 Calls Tryz.prog 111 #[.pointer (some ⟨X,0,none⟩),evV e] w (FolSays w X (trkB t e) (trkN t e)):=by
 by_cases h:1≤e.kind∧e.kind≤7
 · rcases (show e.kind=1∨e.kind=2∨e.kind=3∨e.kind=4∨e.kind=5∨e.kind=6∨e.kind=7 by omega) with h|h|h|h|h|h|h
   · exact fol_1 hX hn e h
   · exact fol_2 hX hn e h
   · exact fol_3 hX hn e h
   · exact fol_4 hX hn e h
   · exact fol_5 hX hn e h
   · exact fol_6 hX hn e h
   · exact fol_7 hX hn e h
 · exact fol_no hX hn e h
end
end
end Go.Proofs.YtkcdhaallnhhmaaGreat
