/- Part 26 of the proof. -/
import Derived.Test.YtmniiodpbebnmaaGreatJ25
namespace Go.Proofs.YtmniiodpbebnmaaGreat
set_option linter.unusedSimpArgs false
set_option linter.unusedVariables false
set_option linter.unusedSectionVars false
set_option maxRecDepth 100000
set_option maxHeartbeats 16000000
section
open Go.RowKit Go.Lib Go.Sort
open Go.ChangeMaps (setBlock)
section
section
variable {B:Nat→Prop} {S:Nat} {c:Cfg} {rs rh n:Nat} {wd:Wd} {d:d0M}
theorem b1A {id:ByteArray} {i:Nat} {R:List Itm} (hri:c0Z (c0C id).1 (c0C id).2 c.st=(i:Int)) (hR:wd.st[i]?=some R) (a:c0W):u0V c rs rh wd id a=({ wd with st:=wd.st.set i (l0X c rs rh R (c0C id) a).1 },(l0X c rs rh R (c0C id) a).2):=by
 have e:atW c id=i:=by unfold atW;omega
 unfold u0V;rw [e,List.getD_eq_getElem?_getD,hR];rfl
theorem e0O {w w':World} {fp fp':List Nat} {X:Nat} (hu:Upd w w' fp fp') (hX:X∉fp) {o:Obj} (h:w.heap[X]?=some o):w'.heap[X]?=some o:=(hu.block X (jL h) hX).trans h
theorem j0W (w:World) (a b:Obj):∀W,W=(w.alloc a).alloc b→Hid (jB w W)∧Hid (W.heap[w.heap.size]?=some a)∧Hid (W.heap[w.heap.size+1]?=some b):=fun W hW=>by
 rw [hW];exact ⟨jH (a0C (a0C jR _) _),jH (c0J _ _ _),jH (b0R _ _ _)⟩
theorem d0A {w W w2:World} {a b:Nat} {o1 o2:Obj} (hb:jB W w2) (h:Hid (jB w W)) (h1:Hid (W.heap[a]?=some o1)) (h2:Hid (W.heap[b]?=some o2)):Hid (jB w w2)∧Hid (w2.heap[a]?=some o1)∧Hid (w2.heap[b]?=some o2) :=
 ⟨jH (a0D h.out hb),jH (jK hb h1.out),jH (jK hb h2.out)⟩
theorem f0N (w:World) (h:a0J B w S c rs rh n wd d) (hB:∀b,w.heap.size≤b→B b) (hc:e0T c rs rh) (hi:g0B c rs rh n wd) (kind:Int) (id:ByteArray) (tick val handle:Int) (pl:Pol) (hx:(⟨kind,id,tick,val,handle,pl⟩:c0D).ok) (h0:e0Y ⟨kind,id,tick,val,handle,pl⟩=0) :
 ∃ (i:Nat) (s:St) (R:List Itm) (pe:Int),c0Z (c0C id).1 (c0C id).2 c.st=(i:Int)∧d.sts[i]?=some s∧wd.st[i]?=some R∧f0U w c rs rh n s R∧e0X c.st=true∧(1≤c.st∧c.st≤64)∧(d.sts.length:Int)=c.st ∧
   Hid (∀W,Calls Tryz.prog 42 #[b0A ⟨kind,id,tick,val,handle,pl⟩] W (jP W (.int .i64 0))) ∧
   Hid (∀W,jB w W→a0J (fun b=>B b∧b≠w.heap.size+1) W S c rs rh n wd d) ∧
   (∀W,jB w W→w.heap.size+1<W.heap.size→∀b,W.heap.size≤b→B b∧b≠w.heap.size+1) ∧
   Hid (w.heap.size+1∉d.fp S) ∧
   Hid (∀W,jB w W→Calls Tryz.prog 80 #[.pointer (some ⟨S,0,none⟩)] W fun e w'=>e=.returned (.bool true)∧w'=W) ∧
   Hid (∀W,Calls Tryz.prog 81 #[.string id] W (jP W (.tuple #[.agg #[.int .u64 (c0C id).1,.int .u64 (c0C id).2],.int .i64 pe]))) ∧
   Hid (∀W,jB w W→Calls Tryz.prog 30 #[.pointer (some ⟨S,0,none⟩),.agg #[.int .u64 (c0C id).1,.int .u64 (c0C id).2]] W (jP W (.int .i64 (i:Nat)))) ∧
   Hid (∀W,jB w W→Calls Tryz.prog 32 #[.pointer (some ⟨S,0,none⟩),.int .i64 (i:Nat)] W fun e w'=>e=.returned (.pointer (some ⟨s.T,0,none⟩))∧w'=W):=by
 have hst:e0X c.st=true:=by have:=hc.cfg;unfold i0L at this;simp only [Bool.and_eq_true] at this;exact this.1
 have hbd:=c0B _ hst;have hl:(d.sts.length:Int)=c.st:=by rw [h.len];exact hi.len
 have hid:id.size≤maxLen:=hx.2.1;obtain ⟨i,s,R,hri,hs,hR,hsk⟩:=h.home hl hst (c0C id);obtain ⟨pe,hpe⟩:∃pe:Int,k0Q id=.tuple #[.agg #[.int .u64 (c0C id).1,.int .u64 (c0C id).2],.int .i64 pe]:=by
  unfold k0Q c0C
  cases idS id with
  | true=>exact ⟨0,rfl⟩
  | false=>exact ⟨2,rfl⟩
 exact ⟨i,s,R,pe,hri,hs,hR,hsk,hst,hbd,hl,jH (fun W=>h0 ▸ f0M ⟨kind,id,tick,val,handle,pl⟩ W hx),jH (fun W hW=>h.avoidX (X:=w.heap.size+1) (Nat.le_succ _) hW),
   fun W hW h1 b hb=>⟨hB b (Nat.le_trans hW.size hb),by omega⟩,jH (fun hq=>by have:=(h.fpLt _ hq).1;omega),jH (fun W hW=>c0R W (h.below hW) (by omega)),jH (fun W=>hpe ▸ n0W id W hid),
   jH (fun W hW=>hri ▸ f0D W (h.below hW) (by omega) hl (by omega) (c0C id) (c0S id)),jH (fun W hW=>d0V W (h.below hW) i s hs (by omega))⟩
theorem u1F (w:World) (h:a0J B w S c rs rh n wd d) (hB:∀b,w.heap.size≤b→B b) (hc:e0T c rs rh) (hi:g0B c rs rh n wd) (hh:c0F c wd) (ht:(g0C wd).length≤40) (hn:n≤100) (x:c0D) (hx:x.ok) (h0:e0Y x=0) (hk:x.kind=1) :
 Calls Tryz.prog 28 #[.pointer (some ⟨S,0,none⟩),b0A x] w (d0Z B w S c rs rh (n+1) (d.fp S) (d0S (doW c rs rh wd x).2) (doW c rs rh wd x).1):=by
 obtain ⟨kind,id,tick,val,handle,⟨p0,p1,p2,p3,p4,p5⟩⟩:=x;dsimp only at hk;subst hk;obtain ⟨i,s,R,pe,hri,hs,hR,hsk,hst,hbd,hl,CK,HST,hB1,HNF,CM,CP,CH,CS⟩:=f0N w h hB hc hi 1 id tick val handle ⟨p0,p1,p2,p3,p4,p5⟩ hx h0;have HB1N:=jH hB1;have hroom:=hc.room;have hkok:=c0S id;obtain ⟨r,hr⟩:∃r,r=doW c rs rh wd ⟨1,id,tick,val,handle,⟨p0,p1,p2,p3,p4,p5⟩⟩:=⟨_,rfl⟩;rw [←hr];have hrr:r=({ wd with st:=wd.st.set i (l0X c rs rh R (c0C id) ⟨0,(tick,val),k0L,c0U⟩).1 },c0N (l0X c rs rh R (c0C id) ⟨0,(tick,val),k0L,c0U⟩).2):=by
  rw [hr];unfold doW;rw [if_neg (by rw [h0];simp)];simp only [show ¬(6:Int)=1 by decide,show ¬(6:Int)=2 by decide,show ¬(6:Int)=3 by decide,show ¬(6:Int)=4 by decide,show ¬(6:Int)=5 by decide,if_true,if_false,b1A hri hR]
 have herr:=(o0C hsk.tells c rs rh s.ver ⟨c0C id,hkok⟩ ⟨0,(tick,val),k0L,c0U⟩ (show ¬(0:Int)<0 by decide) (show (0:Int)≠1 by decide) (show ¬3<(0:Int) by decide)).2;have CI:=jH (fun W (hW:jB w W)=>f1Y s.T s.M c s.ver s.es rs rh ⟨c0C id,hkok⟩ ⟨0,(tick,val),k0L,c0U⟩ W ((hsk.at_.below hW)) (hsk.sok hc hn) rfl);have CA:=jH (fun W (hW:jB w W) (h1:w.heap.size+1<W.heap.size) W' es' hat hab hu ho=>(h.avoidX (X:=w.heap.size+1) (Nat.le_succ _) hW).act (w':=W') (hB1 W hW h1) hc hn hs hR ⟨c0C id,hkok⟩ ⟨0,(tick,val),k0L,c0U⟩ (show ¬(0:Int)<0 by decide) (show (0:Int)≠1 by decide) (show ¬3<(0:Int) by decide) (es':=es') hat hab hu ho)
 rw [herr] at CI;dsimp only at herr CI CA;generalize (l0X c rs rh R (c0C id) ⟨0,(tick,val),k0L,c0U⟩).2=er at CI hrr;generalize (l0X c rs rh R (c0C id) ⟨0,(tick,val),k0L,c0U⟩).1=R' at CA hrr;have HRR:=jH hrr;generalize c0C id=k at *;clear h hc hi hh ht hx h0 hri hs hR hsk hr hB hB1 hst hl hroom hbd hrr herr;unfold b0A
 go_enter Tryz.func28,Tryz.ntmps28
 go_wp2_with (first
  | (go_at_call 42
     refine a0B ?_;intro W1 hW1;obtain ⟨HB1,HX0,HX1⟩:=j0W w _ _ W1 hW1;clear hW1;refine (CK.out W1).mono ?_;rintro e w2 ⟨rfl,hb2⟩;obtain ⟨HB2,HX02,HX12⟩:=d0A hb2 HB1 HX0 HX1;clear hb2)
  | (go_at_call 80
     refine (CM.out _ HB2.out).mono ?_;rintro e w3 ⟨rfl,rfl⟩;obtain ⟨b1,b2,b3⟩:=a0A jR HX02.out)
  | (go_at_call 81
     refine (CP.out _).mono ?_;rintro e w4 ⟨rfl,hb4⟩;obtain ⟨HB4,HX04,HX14⟩:=d0A hb4 HB2 HX02 HX12;clear hb4 b1 b2 b3)
  | (go_at_call 30
     refine a0B ?_;intro W5 hW5;have hb5:jB w4 W5:=by rw [hW5];exact a0C jR _
     have HK5:=jH (show W5.heap[w4.heap.size]?=some (.cells #[.int .u64 k.1,.int .u64 k.2] 74 (0,0)) by rw [hW5];exact heap_alloc_new _ _);obtain ⟨HB5,HX05,HX15⟩:=d0A hb5 HB4 HX04 HX14;clear hW5 hb5;refine (CH.out W5 HB5.out).mono ?_;rintro e w6 ⟨rfl,hb6⟩;obtain ⟨HB6,HX06,HX16⟩:=d0A hb6 HB5 HX05 HX15;have HK6:=jH (jK hb6 HK5.out);clear hb6)
  | (go_at_call 32
     refine (CS.out _ HB6.out).mono ?_;rintro e w7 ⟨rfl,rfl⟩;obtain ⟨b1,b2,b3⟩:=a0A jR HX06.out;obtain ⟨k1,k2,k3⟩:=a0A jR HK6.out;clear CS)
  | (go_at_call 82
     have hlt7:=(jL HX16.out);refine (CI.out _ HB6.out).mono ?_;rintro e w8 ⟨es',rfl,hat,hab,hu,ho⟩;obtain ⟨d',hd',hu',_⟩:=CA.out _ HB6.out hlt7 w8 es' hat hab hu ho;have HD:=jH hd';have HU:=jH ((Upd.of_below HB6.out (d.fp S)).trans hu');have HX8:=jH (e0O hu' HNF.out HX16.out);obtain ⟨y1,y2,y3⟩:=a0A jR HX8.out
     (try unfold zR at y1)
     clear hat hab hu ho hd' hu' b1 b2 b3 k1 k2 k3 hlt7))
 refine a0H ?_;intro W9 hW9;have hW9':W9=b0J w8 (w.heap.size+1) 0 (e0I (c0N er)):=hW9;obtain ⟨t1,t2,t3,t4⟩:=a0P HX8.out (e0I (c0N er)) rfl W9 hW9';obtain ⟨a9,a8,a7⟩:=a0A jR t1;clear hW9 hW9';exact bodyPost_ret (v:=d0S (c0N er)) (by simp [results,Tryz.results28,go_sem,a9,d0S,e0I,c0N,st0,c0U]) rfl (by rw [HRR.out];exact e0H (Nat.le_succ _) HD.out HU.out t2 t3 t4)
theorem t1C (w:World) (h:a0J B w S c rs rh n wd d) (hB:∀b,w.heap.size≤b→B b) (hc:e0T c rs rh) (hi:g0B c rs rh n wd) (hh:c0F c wd) (ht:(g0C wd).length≤40) (hn:n≤100) (x:c0D) (hx:x.ok) (h0:e0Y x=0) (hk:x.kind=6) :
 Calls Tryz.prog 28 #[.pointer (some ⟨S,0,none⟩),b0A x] w (d0Z B w S c rs rh (n+1) (d.fp S) (d0S (doW c rs rh wd x).2) (doW c rs rh wd x).1):=by
 obtain ⟨kind,id,tick,val,handle,⟨p0,p1,p2,p3,p4,p5⟩⟩:=x;dsimp only at hk;subst hk;obtain ⟨i,s,R,pe,hri,hs,hR,hsk,hst,hbd,hl,CK,HST,hB1,HNF,CM,CP,CH,CS⟩:=f0N w h hB hc hi 6 id tick val handle ⟨p0,p1,p2,p3,p4,p5⟩ hx h0;have HB1N:=jH hB1;have hroom:=hc.room;have hkok:=c0S id;obtain ⟨r,hr⟩:∃r,r=doW c rs rh wd ⟨6,id,tick,val,handle,⟨p0,p1,p2,p3,p4,p5⟩⟩:=⟨_,rfl⟩;rw [←hr];have hrr:r=({ wd with st:=wd.st.set i (l0X c rs rh R (c0C id) ⟨2,(0,0),⟨p0,p1,p2,p3,p4,p5⟩,c0U⟩).1 },c0N (l0X c rs rh R (c0C id) ⟨2,(0,0),⟨p0,p1,p2,p3,p4,p5⟩,c0U⟩).2):=by
  rw [hr];unfold doW;rw [if_neg (by rw [h0];simp)];simp only [show ¬(6:Int)=1 by decide,show ¬(6:Int)=2 by decide,show ¬(6:Int)=3 by decide,show ¬(6:Int)=4 by decide,show ¬(6:Int)=5 by decide,if_true,if_false,b1A hri hR]
 have herr:=(o0C hsk.tells c rs rh s.ver ⟨c0C id,hkok⟩ ⟨2,(0,0),⟨p0,p1,p2,p3,p4,p5⟩,c0U⟩ (show ¬(2:Int)<0 by decide) (show (2:Int)≠1 by decide) (show ¬3<(2:Int) by decide)).2;have CI:=jH (fun W (hW:jB w W)=>s1M s.T s.M c s.ver s.es rs rh ⟨c0C id,hkok⟩ ⟨2,(0,0),⟨p0,p1,p2,p3,p4,p5⟩,c0U⟩ W ((hsk.at_.below hW)) (hsk.sok hc hn) rfl);have CA:=jH (fun W (hW:jB w W) (h1:w.heap.size+1<W.heap.size) W' es' hat hab hu ho=>(h.avoidX (X:=w.heap.size+1) (Nat.le_succ _) hW).act (w':=W') (hB1 W hW h1) hc hn hs hR ⟨c0C id,hkok⟩ ⟨2,(0,0),⟨p0,p1,p2,p3,p4,p5⟩,c0U⟩ (show ¬(2:Int)<0 by decide) (show (2:Int)≠1 by decide) (show ¬3<(2:Int) by decide) (es':=es') hat hab hu ho)
 rw [herr] at CI;unfold b0W at CI;dsimp only at herr CI CA;generalize (l0X c rs rh R (c0C id) ⟨2,(0,0),⟨p0,p1,p2,p3,p4,p5⟩,c0U⟩).2=er at CI hrr;generalize (l0X c rs rh R (c0C id) ⟨2,(0,0),⟨p0,p1,p2,p3,p4,p5⟩,c0U⟩).1=R' at CA hrr;have HRR:=jH hrr;generalize c0C id=k at *;clear h hc hi hh ht hx h0 hri hs hR hsk hr hB hB1 hst hl hroom hbd hrr herr;unfold b0A
 go_enter Tryz.func28,Tryz.ntmps28
 go_wp2_with (first
  | (go_at_call 42
     refine a0B ?_;intro W1 hW1;obtain ⟨HB1,HX0,HX1⟩:=j0W w _ _ W1 hW1;clear hW1;refine (CK.out W1).mono ?_;rintro e w2 ⟨rfl,hb2⟩;obtain ⟨HB2,HX02,HX12⟩:=d0A hb2 HB1 HX0 HX1;clear hb2)
  | (go_at_call 80
     refine (CM.out _ HB2.out).mono ?_;rintro e w3 ⟨rfl,rfl⟩;obtain ⟨b1,b2,b3⟩:=a0A jR HX02.out)
  | (go_at_call 81
     refine (CP.out _).mono ?_;rintro e w4 ⟨rfl,hb4⟩;obtain ⟨HB4,HX04,HX14⟩:=d0A hb4 HB2 HX02 HX12;clear hb4 b1 b2 b3)
  | (go_at_call 30
     refine a0B ?_;intro W5 hW5;have hb5:jB w4 W5:=by rw [hW5];exact a0C jR _
     have HK5:=jH (show W5.heap[w4.heap.size]?=some (.cells #[.int .u64 k.1,.int .u64 k.2] 74 (0,0)) by rw [hW5];exact heap_alloc_new _ _);obtain ⟨HB5,HX05,HX15⟩:=d0A hb5 HB4 HX04 HX14;clear hW5 hb5;refine (CH.out W5 HB5.out).mono ?_;rintro e w6 ⟨rfl,hb6⟩;obtain ⟨HB6,HX06,HX16⟩:=d0A hb6 HB5 HX05 HX15;have HK6:=jH (jK hb6 HK5.out);clear hb6)
  | (go_at_call 32
     refine (CS.out _ HB6.out).mono ?_;rintro e w7 ⟨rfl,rfl⟩;obtain ⟨b1,b2,b3⟩:=a0A jR HX06.out;obtain ⟨k1,k2,k3⟩:=a0A jR HK6.out;clear CS)
  | (go_at_call 86
     have hlt7:=(jL HX16.out);refine (CI.out _ HB6.out).mono ?_;rintro e w8 ⟨es',rfl,hat,hab,hu,ho⟩;obtain ⟨d',hd',hu',_⟩:=CA.out _ HB6.out hlt7 w8 es' hat hab hu ho;have HD:=jH hd';have HU:=jH ((Upd.of_below HB6.out (d.fp S)).trans hu');have HX8:=jH (e0O hu' HNF.out HX16.out);obtain ⟨y1,y2,y3⟩:=a0A jR HX8.out
     (try unfold zR at y1)
     clear hat hab hu ho hd' hu' b1 b2 b3 k1 k2 k3 hlt7))
 refine a0H ?_;intro W9 hW9;have hW9':W9=b0J w8 (w.heap.size+1) 0 (e0I (c0N er)):=hW9;obtain ⟨t1,t2,t3,t4⟩:=a0P HX8.out (e0I (c0N er)) rfl W9 hW9';obtain ⟨a9,a8,a7⟩:=a0A jR t1;clear hW9 hW9';exact bodyPost_ret (v:=d0S (c0N er)) (by simp [results,Tryz.results28,go_sem,a9,d0S,e0I,c0N,st0,c0U]) rfl (by rw [HRR.out];exact e0H (Nat.le_succ _) HD.out HU.out t2 t3 t4)
theorem t1K (w:World) (h:a0J B w S c rs rh n wd d) (hB:∀b,w.heap.size≤b→B b) (hc:e0T c rs rh) (hi:g0B c rs rh n wd) (hh:c0F c wd) (ht:(g0C wd).length≤40) (hn:n≤100) (x:c0D) (hx:x.ok) (h0:e0Y x=0) (hk:x.kind=3) :
 Calls Tryz.prog 28 #[.pointer (some ⟨S,0,none⟩),b0A x] w (d0Z B w S c rs rh (n+1) (d.fp S) (d0S (doW c rs rh wd x).2) (doW c rs rh wd x).1):=by
 obtain ⟨kind,id,tick,val,handle,⟨p0,p1,p2,p3,p4,p5⟩⟩:=x;dsimp only at hk;subst hk;obtain ⟨i,s,R,pe,hri,hs,hR,hsk,hst,hbd,hl,CK,HST,hB1,HNF,CM,CP,CH,CS⟩:=f0N w h hB hc hi 3 id tick val handle ⟨p0,p1,p2,p3,p4,p5⟩ hx h0;have HB1N:=jH hB1;have hroom:=hc.room;have hkok:=c0S id;obtain ⟨r,hr⟩:∃r,r=doW c rs rh wd ⟨3,id,tick,val,handle,⟨p0,p1,p2,p3,p4,p5⟩⟩:=⟨_,rfl⟩;rw [←hr];have hrr:r=j0B wd:=by
  rw [hr];unfold doW;rw [if_neg (by rw [h0];simp)];simp only [show ¬(3:Int)=1 by decide,show ¬(3:Int)=2 by decide,if_true,if_false]
 have CI:=jH (fun W (hW:jB w W) (h1:w.heap.size+1<W.heap.size)=>y0H W (h.avoidX (X:=w.heap.size+1) (Nat.le_succ _) hW) (hB1 W hW h1) (by omega) (by omega) hh ht (by omega) (by have:=hi.cuts;omega) ⟨hi.ep.1,by have:=hi.ep.2;omega⟩);rw [←hrr] at CI;obtain ⟨wd',⟨e0,e1,e2,⟨s0,s1,s2,s3,s4⟩,⟨a0,a1,a2,a3,a4⟩⟩⟩:=r;have HRR:=jH (show ((wd',⟨e0,e1,e2,⟨s0,s1,s2,s3,s4⟩,⟨a0,a1,a2,a3,a4⟩⟩):Wd × i1C)=(wd',⟨e0,e1,e2,⟨s0,s1,s2,s3,s4⟩,⟨a0,a1,a2,a3,a4⟩⟩) from rfl)
 unfold d0S e0I at CI;dsimp only at CI;generalize c0C id=k at *;clear h hc hi hh ht hx h0 hri hs hR hsk hr hB hB1 hst hl hroom hbd hrr;unfold b0A
 go_enter Tryz.func28,Tryz.ntmps28
 go_wp2_with (first
  | (go_at_call 42
     refine a0B ?_;intro W1 hW1;obtain ⟨HB1,HX0,HX1⟩:=j0W w _ _ W1 hW1;clear hW1;refine (CK.out W1).mono ?_;rintro e w2 ⟨rfl,hb2⟩;obtain ⟨HB2,HX02,HX12⟩:=d0A hb2 HB1 HX0 HX1;clear hb2)
  | (go_at_call 80
     refine (CM.out _ HB2.out).mono ?_;rintro e w3 ⟨rfl,rfl⟩;obtain ⟨b1,b2,b3⟩:=a0A jR HX02.out)
  | (go_at_call 81
     refine (CP.out _).mono ?_;rintro e w4 ⟨rfl,hb4⟩;obtain ⟨HB4,HX04,HX14⟩:=d0A hb4 HB2 HX02 HX12;clear hb4 b1 b2 b3)
  | (go_at_call 30
     refine a0B ?_;intro W5 hW5;have hb5:jB w4 W5:=by rw [hW5];exact a0C jR _
     have HK5:=jH (show W5.heap[w4.heap.size]?=some (.cells #[.int .u64 k.1,.int .u64 k.2] 74 (0,0)) by rw [hW5];exact heap_alloc_new _ _);obtain ⟨HB5,HX05,HX15⟩:=d0A hb5 HB4 HX04 HX14;clear hW5 hb5;refine (CH.out W5 HB5.out).mono ?_;rintro e w6 ⟨rfl,hb6⟩;obtain ⟨HB6,HX06,HX16⟩:=d0A hb6 HB5 HX05 HX15;have HK6:=jH (jK hb6 HK5.out);clear hb6)
  | (go_at_call 32
     refine (CS.out _ HB6.out).mono ?_;rintro e w7 ⟨rfl,rfl⟩;obtain ⟨b1,b2,b3⟩:=a0A jR HX06.out;obtain ⟨k1,k2,k3⟩:=a0A jR HK6.out;clear CS)
  | (go_at_call 84
     have hlt7:=(jL HX16.out);refine (CI.out _ HB6.out hlt7).mono ?_;rintro e w8 ⟨fp',rfl,⟨d',hd',rfl⟩,hu'⟩;have HD:=jH (hd'.mono (Nat.le_succ n));have HU:=jH ((Upd.of_below HB6.out (d.fp S)).trans hu');have HX8:=jH (e0O hu' HNF.out HX16.out);obtain ⟨y1,y2,y3⟩:=a0A jR HX8.out
     (try unfold zR at y1)
     clear hd' hu' b1 b2 b3 k1 k2 k3 hlt7))
 refine a0H ?_;intro W9 hW9;have hW9':W9=b0J w8 (w.heap.size+1) 0 (e0I ⟨e0,e1,e2,⟨s0,s1,s2,s3,s4⟩,⟨a0,a1,a2,a3,a4⟩⟩):=hW9;obtain ⟨t1,t2,t3,t4⟩:=a0P HX8.out (e0I ⟨e0,e1,e2,⟨s0,s1,s2,s3,s4⟩,⟨a0,a1,a2,a3,a4⟩⟩) rfl W9 hW9';obtain ⟨a9,a8,a7⟩:=a0A jR t1;clear hW9 hW9';exact bodyPost_ret (v:=d0S ⟨e0,e1,e2,⟨s0,s1,s2,s3,s4⟩,⟨a0,a1,a2,a3,a4⟩⟩) (by simp [results,Tryz.results28,go_sem,a9,d0S,e0I,c0N,st0,c0U]) rfl (by exact e0H (Nat.le_succ _) HD.out HU.out t2 t3 t4)
theorem s1I (w:World) (h:a0J B w S c rs rh n wd d) (hB:∀b,w.heap.size≤b→B b) (hc:e0T c rs rh) (hi:g0B c rs rh n wd) (hh:c0F c wd) (ht:(g0C wd).length≤40) (hn:n≤100) (x:c0D) (hx:x.ok) (h0:e0Y x=0) (hk:x.kind=5) :
 Calls Tryz.prog 28 #[.pointer (some ⟨S,0,none⟩),b0A x] w (d0Z B w S c rs rh (n+1) (d.fp S) (d0S (doW c rs rh wd x).2) (doW c rs rh wd x).1):=by
 obtain ⟨kind,id,tick,val,handle,⟨p0,p1,p2,p3,p4,p5⟩⟩:=x;dsimp only at hk;subst hk;obtain ⟨i,s,R,pe,hri,hs,hR,hsk,hst,hbd,hl,CK,HST,hB1,HNF,CM,CP,CH,CS⟩:=f0N w h hB hc hi 5 id tick val handle ⟨p0,p1,p2,p3,p4,p5⟩ hx h0;have HB1N:=jH hB1;have hroom:=hc.room;have hkok:=c0S id;obtain ⟨r,hr⟩:∃r,r=doW c rs rh wd ⟨5,id,tick,val,handle,⟨p0,p1,p2,p3,p4,p5⟩⟩:=⟨_,rfl⟩;rw [←hr];have hrr:r=(wd,f1P wd ⟨5,id,tick,val,handle,⟨p0,p1,p2,p3,p4,p5⟩⟩):=by
  rw [hr];unfold doW;rw [if_neg (by rw [h0];simp)];simp only [show ¬(5:Int)=1 by decide,show ¬(5:Int)=2 by decide,show ¬(5:Int)=3 by decide,show ¬(5:Int)=4 by decide,if_true,if_false]
 have CI:=jH (fun W (hW:jB w W)=>b1D W (h.below hW) (by omega) (by have:=hi.cuts;omega) (fun q hq=>(hi.cep q hq).1) (fun q hq p hp=>((hi.cit q hq).2 p hp).smp) hroom.r2 handle (c0C id) tick val hx.2.2.1 hx.2.2.2.1);obtain ⟨rp,hrp⟩:∃rp,rp=m1M wd handle (c0C id) tick val:=⟨_,rfl⟩;rw [←hrp] at CI;have hrr2:r=(wd,rp):=by rw [hrr,hrp];rfl
 obtain ⟨e0,e1,e2,⟨s0,s1,s2,s3,s4⟩,⟨a0,a1,a2,a3,a4⟩⟩:=rp;have HRR:=jH hrr2;have HSTN:=jH (fun W (hW:jB w W)=>(h.avoidX (X:=w.heap.size+1) (Nat.le_succ _) hW).mono (Nat.le_succ n));unfold d0S e0I at CI;dsimp only at CI;generalize c0C id=k at *;clear h hc hi hh ht hx h0 hri hs hR hsk hr hB hB1 hst hl hroom hbd hrr hrr2 hrp;unfold b0A
 go_enter Tryz.func28,Tryz.ntmps28
 go_wp2_with (first
  | (go_at_call 42
     refine a0B ?_;intro W1 hW1;obtain ⟨HB1,HX0,HX1⟩:=j0W w _ _ W1 hW1;clear hW1;refine (CK.out W1).mono ?_;rintro e w2 ⟨rfl,hb2⟩;obtain ⟨HB2,HX02,HX12⟩:=d0A hb2 HB1 HX0 HX1;clear hb2)
  | (go_at_call 80
     refine (CM.out _ HB2.out).mono ?_;rintro e w3 ⟨rfl,rfl⟩;obtain ⟨b1,b2,b3⟩:=a0A jR HX02.out)
  | (go_at_call 81
     refine (CP.out _).mono ?_;rintro e w4 ⟨rfl,hb4⟩;obtain ⟨HB4,HX04,HX14⟩:=d0A hb4 HB2 HX02 HX12;clear hb4 b1 b2 b3)
  | (go_at_call 30
     refine a0B ?_;intro W5 hW5;have hb5:jB w4 W5:=by rw [hW5];exact a0C jR _
     have HK5:=jH (show W5.heap[w4.heap.size]?=some (.cells #[.int .u64 k.1,.int .u64 k.2] 74 (0,0)) by rw [hW5];exact heap_alloc_new _ _);obtain ⟨HB5,HX05,HX15⟩:=d0A hb5 HB4 HX04 HX14;clear hW5 hb5;refine (CH.out W5 HB5.out).mono ?_;rintro e w6 ⟨rfl,hb6⟩;obtain ⟨HB6,HX06,HX16⟩:=d0A hb6 HB5 HX05 HX15;have HK6:=jH (jK hb6 HK5.out);clear hb6)
  | (go_at_call 32
     refine (CS.out _ HB6.out).mono ?_;rintro e w7 ⟨rfl,rfl⟩;obtain ⟨b1,b2,b3⟩:=a0A jR HX06.out;obtain ⟨k1,k2,k3⟩:=a0A jR HK6.out;clear CS)
  | (go_at_call 85
     refine (CI.out _ HB6.out).mono ?_;rintro e w8 ⟨rfl,hb8⟩;have HD:=jH (HSTN.out _ (a0D HB6.out hb8));have HU:=jH (Upd.of_below (a0D HB6.out hb8) (d.fp S));have HX8:=jH (jK hb8 HX16.out);obtain ⟨y1,y2,y3⟩:=a0A jR HX8.out
     (try unfold zR at y1)
     clear hb8 b1 b2 b3 k1 k2 k3))
 refine a0H ?_;intro W9 hW9;have hW9':W9=b0J w8 (w.heap.size+1) 0 (e0I ⟨e0,e1,e2,⟨s0,s1,s2,s3,s4⟩,⟨a0,a1,a2,a3,a4⟩⟩):=hW9;obtain ⟨t1,t2,t3,t4⟩:=a0P HX8.out (e0I ⟨e0,e1,e2,⟨s0,s1,s2,s3,s4⟩,⟨a0,a1,a2,a3,a4⟩⟩) rfl W9 hW9';obtain ⟨a9,a8,a7⟩:=a0A jR t1;clear hW9 hW9';exact bodyPost_ret (v:=d0S ⟨e0,e1,e2,⟨s0,s1,s2,s3,s4⟩,⟨a0,a1,a2,a3,a4⟩⟩) (by simp [results,Tryz.results28,go_sem,a9,d0S,e0I,c0N,st0,c0U]) rfl (by rw [HRR.out];exact e0H (Nat.le_succ _) HD.out HU.out t2 t3 t4)
theorem u1E (w:World) (h:a0J B w S c rs rh n wd d) (hB:∀b,w.heap.size≤b→B b) (hc:e0T c rs rh) (hi:g0B c rs rh n wd) (hh:c0F c wd) (ht:(g0C wd).length≤40) (hn:n≤100) (x:c0D) (hx:x.ok) (h0:e0Y x=0) (hk:x.kind=7) :
 Calls Tryz.prog 28 #[.pointer (some ⟨S,0,none⟩),b0A x] w (d0Z B w S c rs rh (n+1) (d.fp S) (d0S (doW c rs rh wd x).2) (doW c rs rh wd x).1):=by
 obtain ⟨kind,id,tick,val,handle,⟨p0,p1,p2,p3,p4,p5⟩⟩:=x;dsimp only at hk;subst hk;obtain ⟨i,s,R,pe,hri,hs,hR,hsk,hst,hbd,hl,CK,HST,hB1,HNF,CM,CP,CH,CS⟩:=f0N w h hB hc hi 7 id tick val handle ⟨p0,p1,p2,p3,p4,p5⟩ hx h0;have HB1N:=jH hB1;have hroom:=hc.room;have hkok:=c0S id;obtain ⟨r,hr⟩:∃r,r=doW c rs rh wd ⟨7,id,tick,val,handle,⟨p0,p1,p2,p3,p4,p5⟩⟩:=⟨_,rfl⟩;rw [←hr];have hrr:r=(wd,g1T wd id):=by
  rw [hr];unfold doW;rw [if_neg (by rw [h0];simp)];simp only [show ¬(7:Int)=1 by decide,show ¬(7:Int)=2 by decide,show ¬(7:Int)=3 by decide,show ¬(7:Int)=4 by decide,show ¬(7:Int)=5 by decide,show ¬(7:Int)=6 by decide,if_true,if_false]
 have CI:=jH (fun W (hW:jB w W)=>y0E W (h.below hW) hl hst hh hroom.h2 (c0C id) hkok);obtain ⟨rp,hrp⟩:∃rp,rp=l1U wd (c0C id):=⟨_,rfl⟩;rw [←hrp] at CI;have hrr2:r=(wd,rp):=by rw [hrr,hrp];rfl
 obtain ⟨e0,e1,e2,⟨s0,s1,s2,s3,s4⟩,⟨a0,a1,a2,a3,a4⟩⟩:=rp;have HRR:=jH hrr2;have HSTN:=jH (fun W (hW:jB w W)=>(h.avoidX (X:=w.heap.size+1) (Nat.le_succ _) hW).mono (Nat.le_succ n));unfold d0S e0I at CI;dsimp only at CI;generalize c0C id=k at *;clear h hc hi hh ht hx h0 hri hs hR hsk hr hB hB1 hst hl hroom hbd hrr hrr2 hrp;unfold b0A
 go_enter Tryz.func28,Tryz.ntmps28
 go_wp2_with (first
  | (go_at_call 42
     refine a0B ?_;intro W1 hW1;obtain ⟨HB1,HX0,HX1⟩:=j0W w _ _ W1 hW1;clear hW1;refine (CK.out W1).mono ?_;rintro e w2 ⟨rfl,hb2⟩;obtain ⟨HB2,HX02,HX12⟩:=d0A hb2 HB1 HX0 HX1;clear hb2)
  | (go_at_call 80
     refine (CM.out _ HB2.out).mono ?_;rintro e w3 ⟨rfl,rfl⟩;obtain ⟨b1,b2,b3⟩:=a0A jR HX02.out)
  | (go_at_call 81
     refine (CP.out _).mono ?_;rintro e w4 ⟨rfl,hb4⟩;obtain ⟨HB4,HX04,HX14⟩:=d0A hb4 HB2 HX02 HX12;clear hb4 b1 b2 b3)
  | (go_at_call 30
     refine a0B ?_;intro W5 hW5;have hb5:jB w4 W5:=by rw [hW5];exact a0C jR _
     have HK5:=jH (show W5.heap[w4.heap.size]?=some (.cells #[.int .u64 k.1,.int .u64 k.2] 74 (0,0)) by rw [hW5];exact heap_alloc_new _ _);obtain ⟨HB5,HX05,HX15⟩:=d0A hb5 HB4 HX04 HX14;clear hW5 hb5;refine (CH.out W5 HB5.out).mono ?_;rintro e w6 ⟨rfl,hb6⟩;obtain ⟨HB6,HX06,HX16⟩:=d0A hb6 HB5 HX05 HX15;have HK6:=jH (jK hb6 HK5.out);clear hb6)
  | (go_at_call 32
     refine (CS.out _ HB6.out).mono ?_;rintro e w7 ⟨rfl,rfl⟩;obtain ⟨b1,b2,b3⟩:=a0A jR HX06.out;obtain ⟨k1,k2,k3⟩:=a0A jR HK6.out;clear CS)
  | (go_at_call 87
     refine (CI.out _ HB6.out).mono ?_;rintro e w8 ⟨rfl,hb8⟩;have HD:=jH (HSTN.out _ (a0D HB6.out hb8));have HU:=jH (Upd.of_below (a0D HB6.out hb8) (d.fp S));have HX8:=jH (jK hb8 HX16.out);obtain ⟨y1,y2,y3⟩:=a0A jR HX8.out
     (try unfold zR at y1)
     clear hb8 b1 b2 b3 k1 k2 k3))
 refine a0H ?_;intro W9 hW9;have hW9':W9=b0J w8 (w.heap.size+1) 0 (e0I ⟨e0,e1,e2,⟨s0,s1,s2,s3,s4⟩,⟨a0,a1,a2,a3,a4⟩⟩):=hW9;obtain ⟨t1,t2,t3,t4⟩:=a0P HX8.out (e0I ⟨e0,e1,e2,⟨s0,s1,s2,s3,s4⟩,⟨a0,a1,a2,a3,a4⟩⟩) rfl W9 hW9';obtain ⟨a9,a8,a7⟩:=a0A jR t1;clear hW9 hW9';exact bodyPost_ret (v:=d0S ⟨e0,e1,e2,⟨s0,s1,s2,s3,s4⟩,⟨a0,a1,a2,a3,a4⟩⟩) (by simp [results,Tryz.results28,go_sem,a9,d0S,e0I,c0N,st0,c0U]) rfl (by rw [HRR.out];exact e0H (Nat.le_succ _) HD.out HU.out t2 t3 t4)
theorem p1C (w:World) (h:a0J B w S c rs rh n wd d) (hB:∀b,w.heap.size≤b→B b) (hc:e0T c rs rh) (hi:g0B c rs rh n wd) (hh:c0F c wd) (ht:(g0C wd).length≤40) (hn:n≤100) (x:c0D) (hx:x.ok) (h0:e0Y x=0) (hk:x.kind=4) (hf:b0V (e0J wd) x.handle≠0) :
 Calls Tryz.prog 28 #[.pointer (some ⟨S,0,none⟩),b0A x] w (d0Z B w S c rs rh (n+1) (d.fp S) (d0S (doW c rs rh wd x).2) (doW c rs rh wd x).1):=by
 obtain ⟨kind,id,tick,val,handle,⟨p0,p1,p2,p3,p4,p5⟩⟩:=x;dsimp only at hk hf;subst hk;obtain ⟨i,s,R,pe,hri,hs,hR,hsk,hst,hbd,hl,CK,HST,hB1,HNF,CM,CP,CH,CS⟩:=f0N w h hB hc hi 4 id tick val handle ⟨p0,p1,p2,p3,p4,p5⟩ hx h0;have HB1N:=jH hB1;have hroom:=hc.room;have hkok:=c0S id;obtain ⟨r,hr⟩:∃r,r=doW c rs rh wd ⟨4,id,tick,val,handle,⟨p0,p1,p2,p3,p4,p5⟩⟩:=⟨_,rfl⟩;rw [←hr];have hrr:r=l0Z wd handle:=by
  rw [hr];unfold doW;rw [if_neg (by rw [h0];simp)];simp only [show ¬(4:Int)=1 by decide,show ¬(4:Int)=2 by decide,show ¬(4:Int)=3 by decide,if_true,if_false]
 have CI:=jH (fun W (hW:jB w W)=>z0H W (h.below hW) (by omega) (by have:=hi.cuts;omega) (fun q hq=>(hi.cep q hq).1) handle hf);have HSTN:=jH (fun W (hW:jB w W)=>(h.avoidX (X:=w.heap.size+1) (Nat.le_succ _) hW).mono (Nat.le_succ n));have hrr2:r=(wd,c0N (b0V (e0J wd) handle)):=by rw [hrr];unfold l0Z;rw [if_pos hf]
 generalize b0V (e0J wd) handle=er at *;have HRR:=jH hrr2;generalize c0C id=k at *;clear h hc hi hh ht hx h0 hri hs hR hsk hr hB hB1 hst hl hroom hbd hrr hrr2 hf;unfold b0A
 go_enter Tryz.func28,Tryz.ntmps28
 go_wp2_with (first
  | (go_at_call 42
     refine a0B ?_;intro W1 hW1;obtain ⟨HB1,HX0,HX1⟩:=j0W w _ _ W1 hW1;clear hW1;refine (CK.out W1).mono ?_;rintro e w2 ⟨rfl,hb2⟩;obtain ⟨HB2,HX02,HX12⟩:=d0A hb2 HB1 HX0 HX1;clear hb2)
  | (go_at_call 80
     refine (CM.out _ HB2.out).mono ?_;rintro e w3 ⟨rfl,rfl⟩;obtain ⟨b1,b2,b3⟩:=a0A jR HX02.out)
  | (go_at_call 81
     refine (CP.out _).mono ?_;rintro e w4 ⟨rfl,hb4⟩;obtain ⟨HB4,HX04,HX14⟩:=d0A hb4 HB2 HX02 HX12;clear hb4 b1 b2 b3)
  | (go_at_call 30
     refine a0B ?_;intro W5 hW5;have hb5:jB w4 W5:=by rw [hW5];exact a0C jR _
     have HK5:=jH (show W5.heap[w4.heap.size]?=some (.cells #[.int .u64 k.1,.int .u64 k.2] 74 (0,0)) by rw [hW5];exact heap_alloc_new _ _);obtain ⟨HB5,HX05,HX15⟩:=d0A hb5 HB4 HX04 HX14;clear hW5 hb5;refine (CH.out W5 HB5.out).mono ?_;rintro e w6 ⟨rfl,hb6⟩;obtain ⟨HB6,HX06,HX16⟩:=d0A hb6 HB5 HX05 HX15;have HK6:=jH (jK hb6 HK5.out);clear hb6)
  | (go_at_call 32
     refine (CS.out _ HB6.out).mono ?_;rintro e w7 ⟨rfl,rfl⟩;obtain ⟨b1,b2,b3⟩:=a0A jR HX06.out;obtain ⟨k1,k2,k3⟩:=a0A jR HK6.out;clear CS)
  | (go_at_call 36
     refine (CI.out _ HB6.out).mono ?_;rintro e w8 ⟨rfl,rfl⟩;have HD:=jH (HSTN.out _ HB6.out);have HU:=jH (Upd.of_below HB6.out (d.fp S));have HX8:=jH HX16.out;obtain ⟨y1,y2,y3⟩:=a0A jR HX8.out
     (try unfold zR at y1)
     clear b1 b2 b3 k1 k2 k3))
 refine a0H ?_;intro W9 hW9;have hW9':W9=b0J w8 (w.heap.size+1) 0 (e0I (c0N er)):=hW9;obtain ⟨t1,t2,t3,t4⟩:=a0P HX8.out (e0I (c0N er)) rfl W9 hW9';obtain ⟨a9,a8,a7⟩:=a0A jR t1;clear hW9 hW9';exact bodyPost_ret (v:=d0S (c0N er)) (by simp [results,Tryz.results28,go_sem,a9,d0S,e0I,c0N,st0,c0U]) rfl (by rw [HRR.out];exact e0H (Nat.le_succ _) HD.out HU.out t2 t3 t4)
theorem s1H (w:World) (h:a0J B w S c rs rh n wd d) (hB:∀b,w.heap.size≤b→B b) (hc:e0T c rs rh) (hi:g0B c rs rh n wd) (hh:c0F c wd) (ht:(g0C wd).length≤40) (hn:n≤100) (x:c0D) (hx:x.ok) (h0:e0Y x=0) (hk:x.kind=4) (hf:b0V (e0J wd) x.handle=0) :
 Calls Tryz.prog 28 #[.pointer (some ⟨S,0,none⟩),b0A x] w (d0Z B w S c rs rh (n+1) (d.fp S) (d0S (doW c rs rh wd x).2) (doW c rs rh wd x).1):=by
 obtain ⟨kind,id,tick,val,handle,⟨p0,p1,p2,p3,p4,p5⟩⟩:=x;dsimp only at hk hf;subst hk;obtain ⟨i,s,R,pe,hri,hs,hR,hsk,hst,hbd,hl,CK,HST,hB1,HNF,CM,CP,CH,CS⟩:=f0N w h hB hc hi 4 id tick val handle ⟨p0,p1,p2,p3,p4,p5⟩ hx h0;have HB1N:=jH hB1;have hroom:=hc.room;have hkok:=c0S id;obtain ⟨r,hr⟩:∃r,r=doW c rs rh wd ⟨4,id,tick,val,handle,⟨p0,p1,p2,p3,p4,p5⟩⟩:=⟨_,rfl⟩;rw [←hr];have hrr:r=l0Z wd handle:=by
  rw [hr];unfold doW;rw [if_neg (by rw [h0];simp)];simp only [show ¬(4:Int)=1 by decide,show ¬(4:Int)=2 by decide,show ¬(4:Int)=3 by decide,if_true,if_false]
 obtain ⟨j,hj,rfl⟩:∃j:Nat,j<wd.cuts.length∧handle=((j+1:Nat):Int):=by
  have htl:(e0J wd).length=wd.cuts.length:=by simp [e0J]
  have h1:¬(handle<1∨((e0J wd).length:Nat)<handle):=fun h9=>by rw [l0G h9] at hf;cases hf
  exact ⟨handle.toNat - 1,by omega,by omega⟩
 have hcl:wd.cuts.length≤900000:=by have:=hi.cuts;omega
 have CI:=jH (fun W (hW:jB w W)=>e1A W (h.avoidX (X:=w.heap.size+1) (Nat.le_succ _) hW) (by omega) hcl (fun q hq=>(hi.cep q hq).1) j hj hf);have CF:=jH (fun W (hW:jB w W) o ho=>((h.avoidX (X:=w.heap.size+1) (Nat.le_succ _) hW).mono (Nat.le_succ n)).free (o:=o) hcl (fun q hq=>(hi.cep q hq).1) j hj hf ho);have hrr2:r=({ wd with cuts:=wd.cuts.set j ⟨0,[],true⟩ },c0N 0):=by
  rw [hrr];unfold l0Z;rw [if_neg (by rw [hf];simp),show ((j+1:Nat):Int).toNat - 1=j by omega]
 generalize ((j+1:Nat):Int)=handle at *;have HRR:=jH hrr2;generalize c0C id=k at *;clear h hc hi hh ht hx h0 hri hs hR hsk hr hB hB1 hst hl hroom hbd hrr hrr2 hf hj hcl;unfold b0A
 go_enter Tryz.func28,Tryz.ntmps28
 go_wp2_with (first
  | (go_at_call 42
     refine a0B ?_;intro W1 hW1;obtain ⟨HB1,HX0,HX1⟩:=j0W w _ _ W1 hW1;clear hW1;refine (CK.out W1).mono ?_;rintro e w2 ⟨rfl,hb2⟩;obtain ⟨HB2,HX02,HX12⟩:=d0A hb2 HB1 HX0 HX1;clear hb2)
  | (go_at_call 80
     refine (CM.out _ HB2.out).mono ?_;rintro e w3 ⟨rfl,rfl⟩;obtain ⟨b1,b2,b3⟩:=a0A jR HX02.out)
  | (go_at_call 81
     refine (CP.out _).mono ?_;rintro e w4 ⟨rfl,hb4⟩;obtain ⟨HB4,HX04,HX14⟩:=d0A hb4 HB2 HX02 HX12;clear hb4 b1 b2 b3)
  | (go_at_call 30
     refine a0B ?_;intro W5 hW5;have hb5:jB w4 W5:=by rw [hW5];exact a0C jR _
     have HK5:=jH (show W5.heap[w4.heap.size]?=some (.cells #[.int .u64 k.1,.int .u64 k.2] 74 (0,0)) by rw [hW5];exact heap_alloc_new _ _);obtain ⟨HB5,HX05,HX15⟩:=d0A hb5 HB4 HX04 HX14;clear hW5 hb5;refine (CH.out W5 HB5.out).mono ?_;rintro e w6 ⟨rfl,hb6⟩;obtain ⟨HB6,HX06,HX16⟩:=d0A hb6 HB5 HX05 HX15;have HK6:=jH (jK hb6 HK5.out);clear hb6)
  | (go_at_call 32
     refine (CS.out _ HB6.out).mono ?_;rintro e w7 ⟨rfl,rfl⟩;obtain ⟨b1,b2,b3⟩:=a0A jR HX06.out;obtain ⟨k1,k2,k3⟩:=a0A jR HK6.out;clear CS)
  | (go_at_call 36
     refine (CI.out _ HB6.out).mono ?_;rintro e w8 ⟨rfl,o,hw8,ho⟩;rw [hw8] at ho;have hfr:=CF.out _ HB6.out o ho;rw [←hw8] at hfr;have HD:=jH hfr.1;have HU:=jH ((Upd.of_below HB6.out (d.fp S)).trans hfr.2);have HX8:=jH (e0O hfr.2 HNF.out HX16.out);obtain ⟨y1,y2,y3⟩:=a0A jR HX8.out
     (try unfold zR at y1)
     clear hfr ho hw8 b1 b2 b3 k1 k2 k3))
 refine a0H ?_;intro W9 hW9;have hW9':W9=b0J w8 (w.heap.size+1) 0 (e0I (c0N 0)):=hW9;obtain ⟨t1,t2,t3,t4⟩:=a0P HX8.out (e0I (c0N 0)) rfl W9 hW9';obtain ⟨a9,a8,a7⟩:=a0A jR t1;clear hW9 hW9';exact bodyPost_ret (v:=d0S (c0N 0)) (by simp [results,Tryz.results28,go_sem,a9,d0S,e0I,c0N,st0,c0U]) rfl (by rw [HRR.out];exact e0H (Nat.le_succ _) HD.out HU.out t2 t3 t4)
theorem q1X (w:World) (h:a0J B w S c rs rh n wd d) (hB:∀b,w.heap.size≤b→B b) (hc:e0T c rs rh) (hi:g0B c rs rh n wd) (hh:c0F c wd) (ht:(g0C wd).length≤40) (hn:n≤100) (x:c0D) (hx:x.ok) (h0:e0Y x=0) (hk:x.kind=8) (hf:wd.over=true) :
 Calls Tryz.prog 28 #[.pointer (some ⟨S,0,none⟩),b0A x] w (d0Z B w S c rs rh (n+1) (d.fp S) (d0S (doW c rs rh wd x).2) (doW c rs rh wd x).1):=by
 obtain ⟨kind,id,tick,val,handle,⟨p0,p1,p2,p3,p4,p5⟩⟩:=x;dsimp only at hk;subst hk;obtain ⟨i,s,R,pe,hri,hs,hR,hsk,hst,hbd,hl,CK,HST,hB1,HNF,CM,CP,CH,CS⟩:=f0N w h hB hc hi 8 id tick val handle ⟨p0,p1,p2,p3,p4,p5⟩ hx h0;have HB1N:=jH hB1;have hroom:=hc.room;have hkok:=c0S id;obtain ⟨r,hr⟩:∃r,r=doW c rs rh wd ⟨8,id,tick,val,handle,⟨p0,p1,p2,p3,p4,p5⟩⟩:=⟨_,rfl⟩;rw [←hr];have hrr:r=(wd,c0N 9):=by
  rw [hr];unfold doW;rw [if_neg (by rw [h0];simp)];simp only [show ¬(8:Int)=1 by decide,show ¬(8:Int)=2 by decide,show ¬(8:Int)=3 by decide,show ¬(8:Int)=4 by decide,show ¬(8:Int)=5 by decide,show ¬(8:Int)=6 by decide,show ¬(8:Int)=7 by decide,if_true,if_false,hf]
 have CI:=jH (fun W (hW:jB w W)=>v0Z W (h.below hW) (by omega) hf);have HSTN:=jH (fun W (hW:jB w W)=>(h.avoidX (X:=w.heap.size+1) (Nat.le_succ _) hW).mono (Nat.le_succ n));have HRR:=jH hrr;generalize c0C id=k at *;clear h hc hi hh ht hx h0 hri hs hR hsk hr hB hB1 hst hl hroom hbd hrr hf;unfold b0A
 go_enter Tryz.func28,Tryz.ntmps28
 go_wp2_with (first
  | (go_at_call 42
     refine a0B ?_;intro W1 hW1;obtain ⟨HB1,HX0,HX1⟩:=j0W w _ _ W1 hW1;clear hW1;refine (CK.out W1).mono ?_;rintro e w2 ⟨rfl,hb2⟩;obtain ⟨HB2,HX02,HX12⟩:=d0A hb2 HB1 HX0 HX1;clear hb2)
  | (go_at_call 80
     refine (CM.out _ HB2.out).mono ?_;rintro e w3 ⟨rfl,rfl⟩;obtain ⟨b1,b2,b3⟩:=a0A jR HX02.out)
  | (go_at_call 81
     refine (CP.out _).mono ?_;rintro e w4 ⟨rfl,hb4⟩;obtain ⟨HB4,HX04,HX14⟩:=d0A hb4 HB2 HX02 HX12;clear hb4 b1 b2 b3)
  | (go_at_call 30
     refine a0B ?_;intro W5 hW5;have hb5:jB w4 W5:=by rw [hW5];exact a0C jR _
     have HK5:=jH (show W5.heap[w4.heap.size]?=some (.cells #[.int .u64 k.1,.int .u64 k.2] 74 (0,0)) by rw [hW5];exact heap_alloc_new _ _);obtain ⟨HB5,HX05,HX15⟩:=d0A hb5 HB4 HX04 HX14;clear hW5 hb5;refine (CH.out W5 HB5.out).mono ?_;rintro e w6 ⟨rfl,hb6⟩;obtain ⟨HB6,HX06,HX16⟩:=d0A hb6 HB5 HX05 HX15;have HK6:=jH (jK hb6 HK5.out);clear hb6)
  | (go_at_call 32
     refine (CS.out _ HB6.out).mono ?_;rintro e w7 ⟨rfl,rfl⟩;obtain ⟨b1,b2,b3⟩:=a0A jR HX06.out;obtain ⟨k1,k2,k3⟩:=a0A jR HK6.out;clear CS)
  | (go_at_call 37
     refine (CI.out _ HB6.out).mono ?_;rintro e w8 ⟨rfl,rfl⟩;have HD:=jH (HSTN.out _ HB6.out);have HU:=jH (Upd.of_below HB6.out (d.fp S));have HX8:=jH HX16.out;obtain ⟨y1,y2,y3⟩:=a0A jR HX8.out
     (try unfold zR at y1)
     clear b1 b2 b3 k1 k2 k3))
 refine a0H ?_;intro W9 hW9;have hW9':W9=b0J w8 (w.heap.size+1) 0 (e0I (c0N 9)):=hW9;obtain ⟨t1,t2,t3,t4⟩:=a0P HX8.out (e0I (c0N 9)) rfl W9 hW9';obtain ⟨a9,a8,a7⟩:=a0A jR t1;clear hW9 hW9';exact bodyPost_ret (v:=d0S (c0N 9)) (by simp [results,Tryz.results28,go_sem,a9,d0S,e0I,c0N,st0,c0U]) rfl (by rw [HRR.out];exact e0H (Nat.le_succ _) HD.out HU.out t2 t3 t4)
theorem s1E (w:World) (h:a0J B w S c rs rh n wd d) (hB:∀b,w.heap.size≤b→B b) (hc:e0T c rs rh) (hi:g0B c rs rh n wd) (hh:c0F c wd) (ht:(g0C wd).length≤40) (hn:n≤100) (x:c0D) (hx:x.ok) (h0:e0Y x=0) (hk:x.kind=8) (hf:wd.over=false) :
 Calls Tryz.prog 28 #[.pointer (some ⟨S,0,none⟩),b0A x] w (d0Z B w S c rs rh (n+1) (d.fp S) (d0S (doW c rs rh wd x).2) (doW c rs rh wd x).1):=by
 obtain ⟨kind,id,tick,val,handle,⟨p0,p1,p2,p3,p4,p5⟩⟩:=x;dsimp only at hk;subst hk;obtain ⟨i,s,R,pe,hri,hs,hR,hsk,hst,hbd,hl,CK,HST,hB1,HNF,CM,CP,CH,CS⟩:=f0N w h hB hc hi 8 id tick val handle ⟨p0,p1,p2,p3,p4,p5⟩ hx h0;have HB1N:=jH hB1;have hroom:=hc.room;have hkok:=c0S id;obtain ⟨r,hr⟩:∃r,r=doW c rs rh wd ⟨8,id,tick,val,handle,⟨p0,p1,p2,p3,p4,p5⟩⟩:=⟨_,rfl⟩;rw [←hr];have hrr:r=({ wd with over:=true },c0N 0):=by
  rw [hr];unfold doW;rw [if_neg (by rw [h0];simp)];simp only [show ¬(8:Int)=1 by decide,show ¬(8:Int)=2 by decide,show ¬(8:Int)=3 by decide,show ¬(8:Int)=4 by decide,show ¬(8:Int)=5 by decide,show ¬(8:Int)=6 by decide,show ¬(8:Int)=7 by decide,if_true,if_false,hf,Bool.false_eq_true]
 have CI:=jH (fun W (hW:jB w W)=>g1B W ((h.avoidX (X:=w.heap.size+1) (Nat.le_succ _) hW).mono (Nat.le_succ n)) (by omega) hf);have HRR:=jH hrr;generalize c0C id=k at *;clear h hc hi hh ht hx h0 hri hs hR hsk hr hB hB1 hst hl hroom hbd hrr hf;unfold b0A
 go_enter Tryz.func28,Tryz.ntmps28
 go_wp2_with (first
  | (go_at_call 42
     refine a0B ?_;intro W1 hW1;obtain ⟨HB1,HX0,HX1⟩:=j0W w _ _ W1 hW1;clear hW1;refine (CK.out W1).mono ?_;rintro e w2 ⟨rfl,hb2⟩;obtain ⟨HB2,HX02,HX12⟩:=d0A hb2 HB1 HX0 HX1;clear hb2)
  | (go_at_call 80
     refine (CM.out _ HB2.out).mono ?_;rintro e w3 ⟨rfl,rfl⟩;obtain ⟨b1,b2,b3⟩:=a0A jR HX02.out)
  | (go_at_call 81
     refine (CP.out _).mono ?_;rintro e w4 ⟨rfl,hb4⟩;obtain ⟨HB4,HX04,HX14⟩:=d0A hb4 HB2 HX02 HX12;clear hb4 b1 b2 b3)
  | (go_at_call 30
     refine a0B ?_;intro W5 hW5;have hb5:jB w4 W5:=by rw [hW5];exact a0C jR _
     have HK5:=jH (show W5.heap[w4.heap.size]?=some (.cells #[.int .u64 k.1,.int .u64 k.2] 74 (0,0)) by rw [hW5];exact heap_alloc_new _ _);obtain ⟨HB5,HX05,HX15⟩:=d0A hb5 HB4 HX04 HX14;clear hW5 hb5;refine (CH.out W5 HB5.out).mono ?_;rintro e w6 ⟨rfl,hb6⟩;obtain ⟨HB6,HX06,HX16⟩:=d0A hb6 HB5 HX05 HX15;have HK6:=jH (jK hb6 HK5.out);clear hb6)
  | (go_at_call 32
     refine (CS.out _ HB6.out).mono ?_;rintro e w7 ⟨rfl,rfl⟩;obtain ⟨b1,b2,b3⟩:=a0A jR HX06.out;obtain ⟨k1,k2,k3⟩:=a0A jR HK6.out;clear CS)
  | (go_at_call 37
     refine (CI.out _ HB6.out).mono ?_;rintro e w8 ⟨rfl,hd',hu'⟩;have HD:=jH hd';have HU:=jH ((Upd.of_below HB6.out (d.fp S)).trans hu');have HX8:=jH (e0O hu' HNF.out HX16.out);obtain ⟨y1,y2,y3⟩:=a0A jR HX8.out
     (try unfold zR at y1)
     clear hd' hu' b1 b2 b3 k1 k2 k3))
 refine a0H ?_;intro W9 hW9;have hW9':W9=b0J w8 (w.heap.size+1) 0 (e0I (c0N 0)):=hW9;obtain ⟨t1,t2,t3,t4⟩:=a0P HX8.out (e0I (c0N 0)) rfl W9 hW9';obtain ⟨a9,a8,a7⟩:=a0A jR t1;clear hW9 hW9';exact bodyPost_ret (v:=d0S (c0N 0)) (by simp [results,Tryz.results28,go_sem,a9,d0S,e0I,c0N,st0,c0U]) rfl (by rw [HRR.out];exact e0H (Nat.le_succ _) HD.out HU.out t2 t3 t4)
end
end
end
end Go.Proofs.YtmniiodpbebnmaaGreat
