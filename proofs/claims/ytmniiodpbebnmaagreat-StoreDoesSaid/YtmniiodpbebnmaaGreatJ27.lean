/- Part 27 of the proof. -/
import Derived.Test.YtmniiodpbebnmaaGreatJ26
namespace Go.Proofs.YtmniiodpbebnmaaGreat
set_option linter.unusedSimpArgs false
set_option linter.unusedVariables false
set_option linter.unusedSectionVars false
set_option maxRecDepth 100000
set_option maxHeartbeats 16000000
section
open Go.RowKit Go.Lib Go.Sort
open Go.ChangeMaps (setBlock)
section
section
variable {B:Nat→Prop} {S:Nat} {c:Cfg} {rs rh n:Nat} {wd:Wd} {d:d0M}
theorem s1Y (w:World) (h:a0J B w S c rs rh n wd d) (hB:∀b,w.heap.size≤b→B b) (hc:e0T c rs rh) (hi:g0B c rs rh n wd) (hh:c0F c wd) (ht:(g0C wd).length≤40) (hn:n≤100) (x:c0D) (hx:x.ok) (h0:e0Y x=0) (hk:x.kind=2) :
 Calls Tryz.prog 28 #[.pointer (some ⟨S,0,none⟩),b0A x] w (d0Z B w S c rs rh (n+1) (d.fp S) (d0S (doW c rs rh wd x).2) (doW c rs rh wd x).1):=by
 obtain ⟨kind,id,tick,val,handle,⟨p0,p1,p2,p3,p4,p5⟩⟩:=x;dsimp only at hk;subst hk;obtain ⟨i,s,R,pe,hri,hs,hR,hsk,hst,hbd,hl,CK,HST,hB1,HNF,CM,CP,CH,CS⟩:=f0N w h hB hc hi 2 id tick val handle ⟨p0,p1,p2,p3,p4,p5⟩ hx h0;have HB1N:=jH hB1;have hroom:=hc.room;have hkok:=c0S id;obtain ⟨r,hr⟩:∃r,r=doW c rs rh wd ⟨2,id,tick,val,handle,⟨p0,p1,p2,p3,p4,p5⟩⟩:=⟨_,rfl⟩;rw [←hr];have hrr:r=(q0I wd tick,c0N 0):=by
  rw [hr];unfold doW;rw [if_neg (by rw [h0];simp)];simp only [show ¬(2:Int)=1 by decide,if_true,if_false]
 have CT:=jH (fun W (t:St) (Rt:List Itm) (ht':f0U W c rs rh n t Rt)=>j1I t.T t.M c t.ver t.es rs rh tick W ht'.at_ hroom.r2 hroom.h2 (by have:=ht'.grown.len;rw [l0A] at this;omega) (by have:=ht'.ver_;omega) (fun p hp=>by have:=ht'.grown.vers p hp;omega) (i1W ht'.at_ hroom.r2));have HSL:=jH (show d.sts.length=wd.st.length from h.len);have HN:=jH hn;have HBB:=jH (show ∀b,w.heap.size≤b→b≠w.heap.size+1→B b∧b≠w.heap.size+1 from fun b hb h1=>⟨hB b hb,h1⟩)
 have hl64:d.sts.length≤64:=by omega
 have HRR:=jH hrr;generalize c0C id=k at *;clear h hc hi hh ht hx h0 hri hs hR hsk hr hB hB1 hst hl hroom hbd hrr;unfold b0A
 go_enter Tryz.func28,Tryz.ntmps28
 go_wp2_with (first
  | (go_at_call 42
     refine a0B ?_;intro W1 hW1;obtain ⟨HB1,HX0,HX1⟩:=j0W w _ _ W1 hW1;clear hW1;refine (CK.out W1).mono ?_;rintro e w2 ⟨rfl,hb2⟩;obtain ⟨HB2,HX02,HX12⟩:=d0A hb2 HB1 HX0 HX1;clear hb2)
  | (go_at_call 80
     refine (CM.out _ HB2.out).mono ?_;rintro e w3 ⟨rfl,rfl⟩;obtain ⟨b1,b2,b3⟩:=a0A jR HX02.out)
  | (go_at_call 81
     refine (CP.out _).mono ?_;rintro e w4 ⟨rfl,hb4⟩;obtain ⟨HB4,HX04,HX14⟩:=d0A hb4 HB2 HX02 HX12;clear hb4 b1 b2 b3)
  | (go_at_call 30
     refine a0B ?_;intro W5 hW5;have hb5:jB w4 W5:=by rw [hW5];exact a0C jR _
     have HK5:=jH (show W5.heap[w4.heap.size]?=some (.cells #[.int .u64 k.1,.int .u64 k.2] 74 (0,0)) by rw [hW5];exact heap_alloc_new _ _);obtain ⟨HB5,HX05,HX15⟩:=d0A hb5 HB4 HX04 HX14;clear hW5 hb5;refine (CH.out W5 HB5.out).mono ?_;rintro e w6 ⟨rfl,hb6⟩;obtain ⟨HB6,HX06,HX16⟩:=d0A hb6 HB5 HX05 HX15;have HK6:=jH (jK hb6 HK5.out);clear hb6)
  | (go_at_call 32
     refine (CS.out _ HB6.out).mono ?_;rintro e w7 ⟨rfl,rfl⟩;obtain ⟨b1,b2,b3⟩:=a0A jR HX06.out;obtain ⟨k1,k2,k3⟩:=a0A jR HK6.out;obtain ⟨q1,q2,q3⟩:=a0A jR (HST.out _ HB6.out).cell))
 clear CS CH;have HT0:=jH (o0M.start (HST.out _ HB6.out) tick);have HZ0:=jH (show w.heap.size∉d.fp S from fun hq=>by have:=((HST.out _ jR).fpLt _ hq).1;omega);have HLT:=jH (show w.heap.size+1<w7.heap.size from (jL HX16.out));clear q1 q2 q3 b1 b2 b3 k1 k2 k3
 go_loopg [51] d.sts.length (fun g s51 wr=>∃(j:Nat) (dk:d0M),j≤d.sts.length∧d.sts.length - j≤g∧s51=.int .i64 j∧o0M (fun b=>B b∧b≠w.heap.size+1) w7 wr S c rs rh n wd d dk tick j)
 case atStart=>exact ⟨0,d,Nat.zero_le _,Nat.le_refl _,rfl,HT0.out⟩
 case round =>
  obtain ⟨j,dk,hj,hg,rfl,hat⟩:=hrel;rename World=>wr
  have HA:=jH hat;have hle:=hat.eA;clear hat
  by_cases hlt:j<d.sts.length
  · have hkl:j<dk.sts.length:=by omega
    have hs:=List.getElem?_eq_getElem hkl;have z1:(j:Int)<(d.sts.length:Int):=by omega
    have z2:(0:Int)≤(j:Int):=by omega
    obtain ⟨bb,o,hA,hbw,hcc⟩:=HA.out.at_.row.1.at_ hkl;injection hA with hA
    injection hA with e1 e2
    subst e1 e2;have c1:wr.cell? ⟨d.A,j,none⟩=some (.pointer (some ⟨(dk.sts[j]).T,0,none⟩)):=by
     have:=hcc 0 _ rfl;rw [hle.1] at this
     simpa using this
    have HS:=jH hs;clear hcc hbw hs;generalize dk.sts[j]=t at c1 HS;have hjw:j<wd.st.length:=by have:=HSL.out;omega
    have htk:=HA.out.rest j t _ (Nat.le_refl j) HS.out (List.getElem?_eq_getElem hjw);have CI:=jH (CT.out wr t _ htk);obtain ⟨b1,b2,b3⟩:=a0A jR (e0O HA.out.up HZ0.out HX06.out);clear htk
    go_wp2_with (first
     | (go_at_call 83
        refine CI.out.mono ?_;rintro e w8 ⟨es',rfl,h1,h2,h3,h4⟩;obtain ⟨dk',h5⟩:=HA.out.step (fun b hb=>HBB.out b (Nat.le_trans HB6.out.size hb) (by have:=HLT.out;omega)) HN.out HS.out h1 h2 h3 h4;have HA5:=jH h5;clear h1 h2 h3 h4 h5))
    go_roundg (d.sts.length - (j+1))
    case measure=>omega
    case rel=>exact ⟨j+1,dk',hlt,Nat.le_refl _,by go_num,HA5.out⟩
  · obtain rfl:j=d.sts.length:=by omega
    have z1:¬(d.sts.length:Int)<(d.sts.length:Int):=by omega
    have HX8:=jH (e0O HA.out.up HNF.out HX16.out);obtain ⟨y1,y2,y3⟩:=a0A jR HX8.out
    (try unfold zR at y1)
    have hfin:=HA.out.at_;rw [HSL.out,g1Y] at hfin;have HD:=jH hfin;have HU:=jH ((Upd.of_below HB6.out (d.fp S)).trans HA.out.up);clear hfin;go_wp2
    refine a0H ?_;intro W9 hW9;have hW9':W9=b0J wr (w.heap.size+1) 0 (e0I (c0N 0)):=hW9;obtain ⟨t1,t2,t3,t4⟩:=a0P HX8.out (e0I (c0N 0)) rfl W9 hW9';obtain ⟨a9,a8,a7⟩:=a0A jR t1;clear hW9 hW9';exact bodyPost_ret (v:=d0S (c0N 0)) (by simp [results,Tryz.results28,go_sem,a9,d0S,e0I,c0N,st0,c0U]) rfl (by rw [HRR.out];exact e0H (Nat.le_succ _) HD.out HU.out t2 t3 t4)
theorem j1T (w:World) (h:a0J B w S c rs rh n wd d) (x:c0D) (hx:x.ok) (h0:e0Y x≠0) :
 Calls Tryz.prog 28 #[.pointer (some ⟨S,0,none⟩),b0A x] w (d0Z B w S c rs rh (n+1) (d.fp S) (d0S (doW c rs rh wd x).2) (doW c rs rh wd x).1):=by
 obtain ⟨r,hr⟩:∃r,r=doW c rs rh wd x:=⟨_,rfl⟩;rw [←hr];have hrr:r=(wd,c0N (e0Y x)):=by rw [hr];unfold doW;rw [if_pos h0]
 have CK:=jH (fun W=>f0M x W hx);have HST:=jH (fun W (hW:jB w W)=>(h.avoidX (X:=w.heap.size+1) (Nat.le_succ _) hW).mono (Nat.le_succ n));generalize e0Y x=er at *;have z:¬er=0:=h0;have HRR:=jH hrr;obtain ⟨kind,id,tick,val,handle,⟨p0,p1,p2,p3,p4,p5⟩⟩:=x;clear h hr hrr h0 hx;unfold b0A at CK ⊢;dsimp only at CK ⊢
 go_enter Tryz.func28,Tryz.ntmps28
 go_wp2_with (first
  | (go_at_call 42
     refine a0B ?_;intro W1 hW1;have HB1:=jH (show jB w W1 by rw [hW1];exact a0C (a0C jR _) _);have HX1:=jH (show W1.heap[w.heap.size+1]?=some (.cells zR.toArray 46 (0,0)) by rw [hW1];exact b0R _ _ _);clear hW1;refine (CK.out W1).mono ?_;rintro e w8 ⟨rfl,hb2⟩;have HB2:=jH (a0D HB1.out hb2);have HX8:=jH (jK hb2 HX1.out);obtain ⟨y1,y2,y3⟩:=a0A jR HX8.out
     (try unfold zR at y1)
     clear hb2))
 refine a0H ?_;intro W9 hW9;have hW9':W9=b0J w8 (w.heap.size+1) 0 (e0I (c0N er)):=hW9;obtain ⟨t1,t2,t3,t4⟩:=a0P HX8.out (e0I (c0N er)) rfl W9 hW9';obtain ⟨a9,a8,a7⟩:=a0A jR t1;clear hW9 hW9';exact bodyPost_ret (v:=d0S (c0N er)) (by simp [results,Tryz.results28,go_sem,a9,d0S,e0I,c0N,st0,c0U]) rfl (by rw [HRR.out];exact e0H (Nat.le_succ _) (HST.out _ HB2.out) (Upd.of_below HB2.out _) t2 t3 t4)
theorem k1I (w:World) (h:a0J B w S c rs rh n wd d) (hB:∀b,w.heap.size≤b→B b) (hc:e0T c rs rh) (hi:g0B c rs rh n wd) (hh:c0F c wd) (ht:(g0C wd).length≤40) (hn:n≤100) (x:c0D) (hx:x.ok) :
 Calls Tryz.prog 28 #[.pointer (some ⟨S,0,none⟩),b0A x] w (d0Z B w S c rs rh (n+1) (d.fp S) (d0S (doW c rs rh wd x).2) (doW c rs rh wd x).1):=by
 by_cases h0:e0Y x=0
 · rcases k0U x with hk|hk|hk|hk|hk|hk|hk|hk|hk
   · exact u1F w h hB hc hi hh ht hn x hx h0 hk
   · exact s1Y w h hB hc hi hh ht hn x hx h0 hk
   · exact t1K w h hB hc hi hh ht hn x hx h0 hk
   · by_cases hf:b0V (e0J wd) x.handle=0
     · exact s1H w h hB hc hi hh ht hn x hx h0 hk hf
     · exact p1C w h hB hc hi hh ht hn x hx h0 hk hf
   · exact s1I w h hB hc hi hh ht hn x hx h0 hk
   · exact t1C w h hB hc hi hh ht hn x hx h0 hk
   · exact u1E w h hB hc hi hh ht hn x hx h0 hk
   · cases hf:wd.over with
     | true=>exact q1X w h hB hc hi hh ht hn x hx h0 hk hf
     | false=>exact s1E w h hB hc hi hh ht hn x hx h0 hk hf
   · exfalso
     unfold e0Y at h0;rw [if_pos hk] at h0
     cases h0
 · exact j1T w h x hx h0
end
end
end
section
open Go.RowKit Go.Lib
theorem g1U (v:Value) (id:ByteArray) (w:World) (hm:id.size≤maxLen) (hid:idS id=false) :
 Calls Tryz.prog 44 #[v,.string id] w (jP w (.tuple #[.agg (c0V c0U).toArray,.int .i64 2])):=by
 have CP:=jH (fun W=>show Calls Tryz.prog 81 #[.string id] W (jP W (.tuple #[.agg #[.int .u64 0,.int .u64 0],.int .i64 2])) from d1I id W hm hid);clear hid
 go_enter Tryz.func44,Tryz.ntmps44
 go_wp2_with (first
  | (go_at_call 81
     refine a0B ?_;intro W1 hW1;have hb1:jB w W1:=by rw [hW1];exact a0C jR _
     have hx1:W1.heap[w.heap.size]?=some (.cells #[.int .i64 0,.int .i64 0,.int .i64 0,.int .i64 0,.int .i64 0] 44 (0,0)):=by rw [hW1];exact heap_alloc_new _ _
     clear hW1;refine (CP.out W1).mono ?_;rintro e w2 ⟨rfl,hb2⟩;have HX2:=jH (jK hb2 hx1);have HB2:=jH (a0D hb1 hb2);obtain ⟨b1,b2,b3⟩:=a0A jR HX2.out;clear hb1 hb2 hx1))
 refine a0H ?_;intro W9 hW9;have hW9':W9=(b0J w2 w.heap.size 0 [.int .i64 0,.int .i64 0,.int .i64 0,.int .i64 0,.int .i64 0]).alloc (.cells #[.int .u64 0,.int .u64 0] 74 (0,0)):=hW9;obtain ⟨S,hS⟩:∃S,S=b0J w2 w.heap.size 0 [.int .i64 0,.int .i64 0,.int .i64 0,.int .i64 0,.int .i64 0]:=⟨_,rfl⟩;rw [←hS] at hW9';obtain ⟨s1,s2,s3,s4⟩:=a0P HX2.out [.int .i64 0,.int .i64 0,.int .i64 0,.int .i64 0,.int .i64 0] rfl S hS
 have hd9:jB S W9:=by rw [hW9'];exact a0C jR _
 obtain ⟨a9,a8,a7⟩:=a0A hd9 s1;have hb9:=a0D (HB2.out.trans (s4 _ (Nat.le_refl _))) hd9;clear hW9 hW9';exact bodyPost_ret (v:=.tuple #[.agg #[.int .i64 0,.int .i64 0,.int .i64 0,.int .i64 0,.int .i64 0],.int .i64 2]) (by simp [results,Tryz.results44,go_sem,a9]) rfl ⟨rfl,hb9⟩
theorem q0Q (w:World) :
 Calls Tryz.prog 106 #[.pointer none] w (jP w (.tuple #[.agg #[.int .i64 0,.int .i64 0,.int .i64 0,.int .i64 0,.int .i64 0,.int .i64 0],.bool false])):=by
 go_enter Tryz.func106,Tryz.ntmps106
 go_wp2_with (first
  | (go_at_call 174
     go_enter Tryz.func174,Tryz.ntmps174))
 exact bodyPost_ret (v:=.tuple #[.agg #[.int .i64 0,.int .i64 0,.int .i64 0,.int .i64 0,.int .i64 0,.int .i64 0],.bool false]) (by simp [results,Tryz.results106,go_sem]) rfl ⟨rfl,a0C jR _⟩
theorem z0R {B:Nat→Prop} {S:Nat} {c:Cfg} {rs rh n:Nat} {wd:Wd} {d:d0M} (w:World) (h:a0J B w S c rs rh n wd d) (hl:(d.sts.length:Int)=c.st) (hst:e0X c.st=true) (hh:c0F c wd) (id:ByteArray) (hm:id.size≤maxLen) (hid:idS id=true) (hf9:m0H wd id=none) :
 Calls Tryz.prog 44 #[.pointer (some ⟨S,0,none⟩),.string id] w (jP w (.tuple #[.agg (c0V c0U).toArray,.int .i64 5])):=by
 have hk:=c0S id;have CP:=jH (fun W=>show Calls Tryz.prog 81 #[.string id] W (jP W (.tuple #[.agg #[.int .u64 (c0C id).1,.int .u64 (c0C id).2],.int .i64 0])) from by
  have h9:=n0W id W hm;have hp:k0Q id=.tuple #[.agg #[.int .u64 (c0C id).1,.int .u64 (c0C id).2],.int .i64 0]:=by unfold k0Q c0C;rw [hid];rfl
  rw [←hp];exact h9)
 unfold m0H at hf9;generalize c0C id=k at *;obtain ⟨i,s,R,hri,hs,hR,hsk⟩:=h.home hl hst k;have hbd:=c0B _ hst;have hld:=i0W hh hR hri;have CH:=jH (fun W (hW:jB w W)=>show Calls Tryz.prog 30 #[.pointer (some ⟨S,0,none⟩),.agg #[.int .u64 k.1,.int .u64 k.2]] W (jP W (.int .i64 (i:Nat))) from hri ▸ f0D W (h.below hW) (by omega) hl (by omega) k hk);have CS:=jH (fun W (hW:jB w W)=>d0V W (h.below hW) i s hs (by omega))
 have CG:=jH (fun W (hW:jB w W)=>h0Z s.T s.M c s.ver s.es rs rh ⟨k,hk⟩ W (hsk.at_.below hW));have hfd:=hsk.load ⟨k,hk⟩;rw [←hld] at hfd
 cases hf:a0V s.es ⟨k,hk⟩ with
 | some b =>
   rw [hf] at hfd;obtain ⟨y,hy,_⟩:=hfd;rw [hf9] at hy
   cases hy
 | none =>
   rw [hf] at hfd CG;have CG2:=jH (show ∀W,jB w W→Calls Tryz.prog 105 #[.pointer (some ⟨s.T,0,none⟩),.agg #[.int .u64 k.1,.int .u64 k.2]] W (jP W (.pointer none)) from CG.out);clear h hs hR hsk hfd hf CG hld hri hf9 hid
   go_enter Tryz.func44,Tryz.ntmps44
   go_wp2_with (first
   | (go_at_call 81
      refine a0B ?_;intro W1 hW1;have hb1:jB w W1:=by rw [hW1];exact a0C jR _
      have hx1:W1.heap[w.heap.size]?=some (.cells #[.int .i64 0,.int .i64 0,.int .i64 0,.int .i64 0,.int .i64 0] 44 (0,0)):=by rw [hW1];exact heap_alloc_new _ _
      clear hW1;refine (CP.out W1).mono ?_;rintro e w2 ⟨rfl,hb2⟩;have HX2:=jH (jK hb2 hx1);have HB2:=jH (a0D hb1 hb2);clear hb1 hb2 hx1)
   | (go_at_call 30
      refine a0B ?_;intro W3 hW3;have hb3:jB w2 W3:=by rw [hW3];exact a0C jR _
      have hk3:W3.heap[w2.heap.size]?=some (.cells #[.int .u64 k.1,.int .u64 k.2] 74 (0,0)):=by rw [hW3];exact heap_alloc_new _ _
      clear hW3;refine (CH.out W3 (a0D HB2.out hb3)).mono ?_;rintro e w4 ⟨rfl,hb4⟩;have HK4:=jH (jK hb4 hk3);have HB24:=jH (a0D hb3 hb4);have HB4:=jH (a0D HB2.out (a0D hb3 hb4));obtain ⟨a1,a2,a3⟩:=a0A jR HK4.out;clear hb3 hb4 hk3)
   | (go_at_call 32
      refine (CS.out _ HB4.out).mono ?_;rintro e w5 ⟨rfl,rfl⟩)
   | (go_at_call 105
      refine (CG2.out _ HB4.out).mono ?_;rintro e w6 ⟨rfl,hb6⟩;have HB6:=jH (a0D HB24.out hb6);clear hb6)
   | (go_at_call 106
      refine (q0Q w6).mono ?_;rintro e w7 ⟨rfl,hb7⟩;have HB7:=jH (a0D HB6.out hb7);have HX7:=jH (jK (a0D HB6.out hb7) HX2.out);obtain ⟨b1,b2,b3⟩:=a0A jR HX7.out;clear hb7))
   refine a0H ?_;intro W9 hW9;have hW9':W9=(b0J w7 w.heap.size 0 [.int .i64 0,.int .i64 0,.int .i64 0,.int .i64 0,.int .i64 0]).alloc (.cells #[.int .i64 0,.int .i64 0,.int .i64 0,.int .i64 0,.int .i64 0,.int .i64 0] 35 (0,0)):=hW9;obtain ⟨U,hU⟩:∃U,U=b0J w7 w.heap.size 0 [.int .i64 0,.int .i64 0,.int .i64 0,.int .i64 0,.int .i64 0]:=⟨_,rfl⟩;rw [←hU] at hW9';obtain ⟨s1,s2,s3,s4⟩:=a0P HX7.out [.int .i64 0,.int .i64 0,.int .i64 0,.int .i64 0,.int .i64 0] rfl U hU
   have hd9:jB U W9:=by rw [hW9'];exact a0C jR _
   obtain ⟨a9,a8,a7⟩:=a0A hd9 s1;have hb9:=a0D ((a0D HB2.out HB7.out).trans (s4 _ (Nat.le_refl _))) hd9;clear hW9 hW9';exact bodyPost_ret (v:=.tuple #[.agg #[.int .i64 0,.int .i64 0,.int .i64 0,.int .i64 0,.int .i64 0],.int .i64 5]) (by simp [results,Tryz.results44,go_sem,a9]) rfl ⟨rfl,hb9⟩
theorem q0H {B:Nat→Prop} {S:Nat} {c:Cfg} {rs rh n:Nat} {wd:Wd} {d:d0M} (w:World) (h:a0J B w S c rs rh n wd d) (hl:(d.sts.length:Int)=c.st) (hst:e0X c.st=true) (hh:c0F c wd) (id:ByteArray) (hm:id.size≤maxLen) (hid:idS id=true) {y:Nd} (hf9:m0H wd id=some y) (hru:y.ruled=false) :
 Calls Tryz.prog 44 #[.pointer (some ⟨S,0,none⟩),.string id] w (jP w (.tuple #[.agg (c0V c0U).toArray,.int .i64 5])):=by
 have hk:=c0S id;have CP:=jH (fun W=>show Calls Tryz.prog 81 #[.string id] W (jP W (.tuple #[.agg #[.int .u64 (c0C id).1,.int .u64 (c0C id).2],.int .i64 0])) from by
  have h9:=n0W id W hm;have hp:k0Q id=.tuple #[.agg #[.int .u64 (c0C id).1,.int .u64 (c0C id).2],.int .i64 0]:=by unfold k0Q c0C;rw [hid];rfl
  rw [←hp];exact h9)
 unfold m0H at hf9;generalize c0C id=k at *;obtain ⟨i,s,R,hri,hs,hR,hsk⟩:=h.home hl hst k;have hbd:=c0B _ hst;have hld:=i0W hh hR hri;have CH:=jH (fun W (hW:jB w W)=>show Calls Tryz.prog 30 #[.pointer (some ⟨S,0,none⟩),.agg #[.int .u64 k.1,.int .u64 k.2]] W (jP W (.int .i64 (i:Nat))) from hri ▸ f0D W (h.below hW) (by omega) hl (by omega) k hk);have CS:=jH (fun W (hW:jB w W)=>d0V W (h.below hW) i s hs (by omega))
 have CG:=jH (fun W (hW:jB w W)=>h0Z s.T s.M c s.ver s.es rs rh ⟨k,hk⟩ W (hsk.at_.below hW));have hfd:=hsk.load ⟨k,hk⟩;rw [←hld] at hfd
 cases hf:a0V s.es ⟨k,hk⟩ with
 | none =>
   rw [hf] at hfd;have hfd2:b0O (g0C wd) k=none:=hfd;rw [hf9] at hfd2
   cases hfd2
 | some b =>
   rw [hf] at hfd CG;obtain ⟨y2,hy,hsm⟩:=hfd;rw [hf9] at hy;obtain rfl:=Option.some.inj hy;have hru2:b.2.1.ruled=false:=hsm.2.2.2.trans hru;have hnd:=hsk.at_.node _ (b0U hf);have CQ:=jH (fun W (hW:jB w W)=>h0G b.1 b.2.1 rs rh b.2.2 W (hnd.kept (fun r hr=>(hW.block r (hnd.lt r hr)))));rw [hru2] at CQ;have CG2:=jH (show ∀W,jB w W→Calls Tryz.prog 105 #[.pointer (some ⟨s.T,0,none⟩),.agg #[.int .u64 k.1,.int .u64 k.2]] W (jP W (.pointer (some ⟨b.1,0,none⟩))) from CG.out)
   generalize b.2.1.pol=po at CQ;generalize b.1=N at CQ CG2;clear h hs hR hsk hf CG hld hri hf9 hid hru hsm hru2 hnd hy
   go_enter Tryz.func44,Tryz.ntmps44
   go_wp2_with (first
   | (go_at_call 81
      refine a0B ?_;intro W1 hW1;have hb1:jB w W1:=by rw [hW1];exact a0C jR _
      have hx1:W1.heap[w.heap.size]?=some (.cells #[.int .i64 0,.int .i64 0,.int .i64 0,.int .i64 0,.int .i64 0] 44 (0,0)):=by rw [hW1];exact heap_alloc_new _ _
      clear hW1;refine (CP.out W1).mono ?_;rintro e w2 ⟨rfl,hb2⟩;have HX2:=jH (jK hb2 hx1);have HB2:=jH (a0D hb1 hb2);clear hb1 hb2 hx1)
   | (go_at_call 30
      refine a0B ?_;intro W3 hW3;have hb3:jB w2 W3:=by rw [hW3];exact a0C jR _
      have hk3:W3.heap[w2.heap.size]?=some (.cells #[.int .u64 k.1,.int .u64 k.2] 74 (0,0)):=by rw [hW3];exact heap_alloc_new _ _
      clear hW3;refine (CH.out W3 (a0D HB2.out hb3)).mono ?_;rintro e w4 ⟨rfl,hb4⟩;have HK4:=jH (jK hb4 hk3);have HB24:=jH (a0D hb3 hb4);have HB4:=jH (a0D HB2.out (a0D hb3 hb4));obtain ⟨a1,a2,a3⟩:=a0A jR HK4.out;clear hb3 hb4 hk3)
   | (go_at_call 32
      refine (CS.out _ HB4.out).mono ?_;rintro e w5 ⟨rfl,rfl⟩)
   | (go_at_call 105
      refine (CG2.out _ HB4.out).mono ?_;rintro e w6 ⟨rfl,hb6⟩;have HB6:=jH (a0D HB24.out hb6);clear hb6)
   | (go_at_call 106
      refine (CQ.out w6 (a0D HB2.out HB6.out)).mono ?_;rintro e w7 ⟨rfl,hb7⟩;have HB7:=jH (a0D HB6.out hb7);have HX7:=jH (jK (a0D HB6.out hb7) HX2.out);obtain ⟨b1,b2,b3⟩:=a0A jR HX7.out;clear hb7))
   refine a0H ?_;intro W9 hW9;have hW9':W9=(b0J w7 w.heap.size 0 [.int .i64 0,.int .i64 0,.int .i64 0,.int .i64 0,.int .i64 0]).alloc (.cells #[.int .i64 po.mn,.int .i64 po.mx,.int .i64 po.tg,.int .i64 po.tol,.int .i64 po.win,.int .i64 po.hold] 35 (0,0)):=hW9;obtain ⟨U,hU⟩:∃U,U=b0J w7 w.heap.size 0 [.int .i64 0,.int .i64 0,.int .i64 0,.int .i64 0,.int .i64 0]:=⟨_,rfl⟩;rw [←hU] at hW9';obtain ⟨s1,s2,s3,s4⟩:=a0P HX7.out [.int .i64 0,.int .i64 0,.int .i64 0,.int .i64 0,.int .i64 0] rfl U hU
   have hd9:jB U W9:=by rw [hW9'];exact a0C jR _
   obtain ⟨a9,a8,a7⟩:=a0A hd9 s1;have hb9:=a0D ((a0D HB2.out HB7.out).trans (s4 _ (Nat.le_refl _))) hd9;clear hW9 hW9';exact bodyPost_ret (v:=.tuple #[.agg #[.int .i64 0,.int .i64 0,.int .i64 0,.int .i64 0,.int .i64 0],.int .i64 5]) (by simp [results,Tryz.results44,go_sem,a9]) rfl ⟨rfl,hb9⟩
theorem x0C (n lo hi:Int) (w:World) :
 Calls Tryz.prog 203 #[.int .i64 n,.int .i64 lo,.int .i64 hi] w fun e w'=>e=.returned (.int .i64 (o0I n lo hi))∧w=w':=by
 go_enter Tryz.func203,Tryz.ntmps203
 go_wp2
 all_goals
   go_ret
   refine ⟨c0G ?_,rfl⟩;unfold o0I
   repeat' split
   all_goals omega
theorem u0M (n lo hi:Int) (w:World) :
 Calls Tryz.prog 225 #[.int .i64 n,.int .i64 lo,.int .i64 hi] w fun e w'=>e=.returned (.int .i64 (o0I n lo hi))∧w=w':=by
 go_enter Tryz.func225,Tryz.ntmps225
 go_wp2
 all_goals
   go_ret
   refine ⟨c0G ?_,rfl⟩;unfold o0I
   repeat' split
   all_goals omega
theorem o1P {a b:Int} (hb:1≤b) (ha:0<a):0≤(a - 1).tdiv b∧(a - 1).tdiv b≤a - 1:=by
 rw [j0M (by omega)];exact ⟨Int.ediv_nonneg (by omega) (by omega),Int.ediv_le_self _ (by omega)⟩
theorem b1N (a b:Int) (w:World) (ha:I64 a) (hb:I64 b) :
 Calls Tryz.prog 277 #[.int .i64 a,.int .i64 b] w fun e w'=>e=.returned (.int .i64 (i0H a b))∧w'=w:=by
 by_cases h1:b<1
 · have HC:=jH (show i0H a b=0 by unfold i0H;rw [if_pos h1])
   clear ha hb
   go_enter Tryz.func277,Tryz.ntmps277
   go_wp2
   go_ret
   exact ⟨by rw [HC.out];rfl,rfl⟩
 · have q0:(b == 0)=false:=by simp;omega
   have q1:¬b=0:=by omega
   by_cases h2:a≤0
   · have HC:=jH (show i0H a b=a.tdiv b by unfold i0H;rw [if_neg h1,if_pos h2])
     have HI:=jH (show I64 (a.tdiv b) by rw [←HC.out];exact b1R (b:=b) ha);clear ha hb
     go_enter Tryz.func277,Tryz.ntmps277
     go_wp2
     go_ret
     refine ⟨c0G ?_,rfl⟩;rw [HC.out];have h7:=HI.out;generalize a.tdiv b=q at h7
     (try unfold wrap64)
     unfold I64 at h7;omega
   · have HC:=jH (show i0H a b=(a - 1).tdiv b+1 by unfold i0H;rw [if_neg h1,if_neg h2])
     have HI:=jH (o1P (a:=a) (b:=b) (by omega) (by omega));have hw:IntKind.i64.wrap (a - 1)=a - 1:=by rw [IntKind.wrap_i64];unfold I64 at ha;omega
     have hw2:wrap64 (a - 1)=a - 1:=by unfold wrap64;unfold I64 at ha;omega
     have HA:=jH ha;clear ha hb
     go_enter Tryz.func277,Tryz.ntmps277
     go_wp2
     go_ret
     refine ⟨c0G ?_,rfl⟩;rw [HC.out];have h7:=HI.out;have h8:=HA.out
     (try simp only [hw,hw2])
     generalize (a - 1).tdiv b=q at h7
     (try unfold wrap64)
     unfold I64 at h8;omega
theorem l0V (n:Int) (w:World) :
 Calls Tryz.prog 275 #[.int .i64 n] w fun e w'=>e=.returned (.int .i64 (max n 0))∧w'=w:=by
 go_enter Tryz.func275,Tryz.ntmps275
 go_wp2
 all_goals
   go_ret
   refine ⟨c0G ?_,rfl⟩;omega
theorem v0F (p:Pol) (n:Int) (w:World) (hp:d0G p=false) :
 Calls Tryz.prog 144 #[b0W p,.int .i64 n] w (jP w (.int .i64 0)):=by
 have HC:=jH (b0E p);have HE:=jH ((show j0N p=7 by unfold j0N;rw [hp];rfl));clear hp;unfold b0W;unfold b0W at HC
 go_enter Tryz.func144,Tryz.ntmps144
 go_wp2_with (go_at_call 103;refine (HC.out _).mono ?_;rw [HE.out];rintro e w2 ⟨rfl,hb2⟩;have HB:=jH hb2;clear hb2)
 go_ret
 exact ⟨rfl,a0D (a0C jR _) HB.out⟩
theorem a1N (p:Pol) (n:Int) (w:World) (hp:d0G p=true) :
 Calls Tryz.prog 144 #[b0W p,.int .i64 n] w (jP w (.int .i64 (o0I n p.mn p.mx))):=by
 have HC:=jH (b0E p);have HE:=jH ((show j0N p=0 by unfold j0N;rw [hp];rfl));clear hp;unfold b0W;unfold b0W at HC
 go_enter Tryz.func144,Tryz.ntmps144
 go_wp2_with (first
  | (go_at_call 103
     refine a0B ?_;intro W1 hW1;have hb1:jB w W1:=by rw [hW1];exact a0C jR _
     have hx1:W1.heap[w.heap.size]?=some (.cells #[.int .i64 p.mn,.int .i64 p.mx,.int .i64 p.tg,.int .i64 p.tol,.int .i64 p.win,.int .i64 p.hold] 35 (0,0)):=by rw [hW1];exact heap_alloc_new _ _
     clear hW1;refine (HC.out W1).mono ?_;rw [HE.out];rintro e w2 ⟨rfl,hb2⟩;have HB2:=jH (a0D hb1 hb2);have hx2:=(hb2.block w.heap.size (jL hx1)).trans hx1;obtain ⟨b1,b2,b3⟩:=a0A jR hx2;clear hb1 hb2 hx1 hx2)
  | (go_at_call 203
     refine (x0C n p.mn p.mx _).mono ?_;rintro e w5 ⟨rfl,rfl⟩))
 go_ret
 exact ⟨rfl,by repeat (first|exact HB2.out|refine a0F ?_ _|refine Below.drew ?_)⟩
theorem q0C (p:Pol) (n:Int) (w:World) (hp:d0G p=false) :
 Calls Tryz.prog 181 #[b0W p,.int .i64 n] w (jP w (.int .i64 0)):=by
 have HC:=jH (c0K p);have HE:=jH ((show d0G p=false from hp));clear hp;unfold b0W;unfold b0W at HC
 go_enter Tryz.func181,Tryz.ntmps181
 go_wp2_with (go_at_call 92;refine (HC.out _).mono ?_;rw [HE.out];rintro e w2 ⟨rfl,hb2⟩;have HB:=jH hb2;clear hb2)
 go_ret
 exact ⟨rfl,a0D (a0C jR _) HB.out⟩
theorem s0I (p:Pol) (n:Int) (w:World) (hp:d0G p=true) :
 Calls Tryz.prog 181 #[b0W p,.int .i64 n] w (jP w (.int .i64 (o0I n p.mn p.mx))):=by
 have HC:=jH (c0K p);have HE:=jH ((show d0G p=true from hp));clear hp;unfold b0W;unfold b0W at HC
 go_enter Tryz.func181,Tryz.ntmps181
 go_wp2_with (first
  | (go_at_call 92
     refine a0B ?_;intro W1 hW1;have hb1:jB w W1:=by rw [hW1];exact a0C jR _
     have hx1:W1.heap[w.heap.size]?=some (.cells #[.int .i64 p.mn,.int .i64 p.mx,.int .i64 p.tg,.int .i64 p.tol,.int .i64 p.win,.int .i64 p.hold] 35 (0,0)):=by rw [hW1];exact heap_alloc_new _ _
     clear hW1;refine (HC.out W1).mono ?_;rw [HE.out];rintro e w2 ⟨rfl,hb2⟩;have HB2:=jH (a0D hb1 hb2);have hx2:=(hb2.block w.heap.size (jL hx1)).trans hx1;obtain ⟨b1,b2,b3⟩:=a0A jR hx2;clear hb1 hb2 hx1 hx2)
  | (go_at_call 225
     refine (u0M n p.mn p.mx _).mono ?_;rintro e w5 ⟨rfl,rfl⟩))
 go_ret
 exact ⟨rfl,by repeat (first|exact HB2.out|refine a0F ?_ _|refine Below.drew ?_)⟩
theorem b1P (p:Pol) (n:Int) (w:World) (hp:d0G p=false) :
 Calls Tryz.prog 140 #[b0W p,.int .i64 n] w (jP w (.int .i64 0)):=by
 have HC:=jH (b0E p);have HE:=jH ((show j0N p=7 by unfold j0N;rw [hp];rfl));clear hp;unfold b0W;unfold b0W at HC
 go_enter Tryz.func140,Tryz.ntmps140
 go_wp2_with (go_at_call 103;refine (HC.out _).mono ?_;rw [HE.out];rintro e w2 ⟨rfl,hb2⟩;have HB:=jH hb2;clear hb2)
 go_ret
 exact ⟨rfl,a0D (a0C jR _) HB.out⟩
theorem f1G (p:Pol) (n:Int) (w:World) (hp:d0G p=true) (hn:I64 n) (hq:I64 p.tg) :
 Calls Tryz.prog 140 #[b0W p,.int .i64 n] w (jP w (.int .i64 (i0H (max n 0) p.tg))):=by
 have HC:=jH (b0E p);have HE:=jH ((show j0N p=0 by unfold j0N;rw [hp];rfl));have hm:I64 (max n 0):=by unfold I64 at *;omega
 have C1:=jH (fun W=>z0B (max n 0) p.tg W hm hq);clear hn hq hm;clear hp;unfold b0W;unfold b0W at HC
 go_enter Tryz.func140,Tryz.ntmps140
 go_wp2_with (first
  | (go_at_call 103
     refine a0B ?_;intro W1 hW1;have hb1:jB w W1:=by rw [hW1];exact a0C jR _
     have hx1:W1.heap[w.heap.size]?=some (.cells #[.int .i64 p.mn,.int .i64 p.mx,.int .i64 p.tg,.int .i64 p.tol,.int .i64 p.win,.int .i64 p.hold] 35 (0,0)):=by rw [hW1];exact heap_alloc_new _ _
     clear hW1;refine (HC.out W1).mono ?_;rw [HE.out];rintro e w2 ⟨rfl,hb2⟩;have HB2:=jH (a0D hb1 hb2);have hx2:=(hb2.block w.heap.size (jL hx1)).trans hx1;obtain ⟨b1,b2,b3⟩:=a0A jR hx2;clear hb1 hb2 hx1 hx2)
  | (go_at_call 199
     refine (C1.out _).mono ?_;rintro e w5 ⟨rfl,rfl⟩))
 go_ret
 exact ⟨rfl,by repeat (first|exact HB2.out|refine a0F ?_ _|refine Below.drew ?_)⟩
theorem t0H (p:Pol) (n:Int) (w:World) (hp:d0G p=false) :
 Calls Tryz.prog 224 #[b0W p,.int .i64 n] w (jP w (.int .i64 0)):=by
 have HC:=jH (c0K p);have HE:=jH ((show d0G p=false from hp));clear hp;unfold b0W;unfold b0W at HC
 go_enter Tryz.func224,Tryz.ntmps224
 go_wp2_with (go_at_call 92;refine (HC.out _).mono ?_;rw [HE.out];rintro e w2 ⟨rfl,hb2⟩;have HB:=jH hb2;clear hb2)
 go_ret
 exact ⟨rfl,a0D (a0C jR _) HB.out⟩
theorem v0O (p:Pol) (n:Int) (w:World) (hp:d0G p=true) (hn:I64 n) (hq:I64 p.tg) :
 Calls Tryz.prog 224 #[b0W p,.int .i64 n] w (jP w (.int .i64 (i0H (max n 0) p.tg))):=by
 have HC:=jH (c0K p);have HE:=jH ((show d0G p=true from hp));have hm:I64 (max n 0):=by unfold I64 at *;omega
 have C1:=jH (fun W=>b1N (max n 0) p.tg W hm hq);clear hn hq hm;have C0:=jH (l0V n);clear hp;unfold b0W;unfold b0W at HC
 go_enter Tryz.func224,Tryz.ntmps224
 go_wp2_with (first
  | (go_at_call 92
     refine a0B ?_;intro W1 hW1;have hb1:jB w W1:=by rw [hW1];exact a0C jR _
     have hx1:W1.heap[w.heap.size]?=some (.cells #[.int .i64 p.mn,.int .i64 p.mx,.int .i64 p.tg,.int .i64 p.tol,.int .i64 p.win,.int .i64 p.hold] 35 (0,0)):=by rw [hW1];exact heap_alloc_new _ _
     clear hW1;refine (HC.out W1).mono ?_;rw [HE.out];rintro e w2 ⟨rfl,hb2⟩;have HB2:=jH (a0D hb1 hb2);have hx2:=(hb2.block w.heap.size (jL hx1)).trans hx1;obtain ⟨b1,b2,b3⟩:=a0A jR hx2;clear hb1 hb2 hx1 hx2))
 go_quiet ((first
  | (go_at_call 275;with_reducible exact Calls.quiet_of_same (C0.out _))
  | (go_at_call 277;with_reducible exact Calls.quiet_of_same (C1.out _))))
 go_wp2
 go_ret
 exact ⟨rfl,by repeat (first|exact HB2.out|refine a0F ?_ _|refine Below.drew ?_)⟩
theorem n0H (p:Pol) (n:Int) (w:World) :
 Calls Tryz.prog 144 #[b0W p,.int .i64 n] w (jP w (.int .i64 (f0W p n))):=by
 unfold f0W
 cases hp:d0G p
 · exact v0F p n w hp
 · exact a1N p n w hp
theorem j0U (p:Pol) (n:Int) (w:World) :
 Calls Tryz.prog 181 #[b0W p,.int .i64 n] w (jP w (.int .i64 (f0W p n))):=by
 unfold f0W
 cases hp:d0G p
 · exact q0C p n w hp
 · exact s0I p n w hp
theorem p0G (p:Pol) (n:Int) (w:World) (hn:I64 n) (hq:I64 p.tg) :
 Calls Tryz.prog 140 #[b0W p,.int .i64 n] w (jP w (.int .i64 (o0Z p n))):=by
 unfold o0Z
 cases hp:d0G p
 · exact b1P p n w hp
 · exact f1G p n w hp hn hq
theorem s0G (p:Pol) (n:Int) (w:World) (hn:I64 n) (hq:I64 p.tg) :
 Calls Tryz.prog 224 #[b0W p,.int .i64 n] w (jP w (.int .i64 (o0Z p n))):=by
 unfold o0Z
 cases hp:d0G p
 · exact t0H p n w hp
 · exact v0O p n w hp hn hq
theorem o0A (a:Nat):(a &&& 4294967295)=a % 4294967296:=Nat.and_two_pow_sub_one_eq_mod a 32
theorem t1R {m l:Nat} (hl:l<4294967296):(m * 4294967296 ||| l)=m * 4294967296+l:=by
 have:=Nat.two_pow_add_eq_or_of_lt (i:=32) (by simpa using hl) m;rw [show (2:Nat) ^ 32=4294967296 from rfl] at this;rw [Nat.mul_comm m,this]
theorem o0B {x y:Nat} (hx:x<4294967296) (hy:y<4294967296):x * y≤18446744065119617025 :=
 Nat.le_trans (Nat.mul_le_mul (Nat.le_of_lt_succ (m:=x) (n:=4294967295) (by omega)) (Nat.le_of_lt_succ (m:=y) (n:=4294967295) (by omega))) (by decide)
theorem g1H {a b a0 a1 b0 b1 p q r s:Nat} (ha:a=4294967296 * a1+a0) (hb:b=4294967296 * b1+b0) (hp:p=a1 * b1) (hq:q=a1 * b0) (hr:r=a0 * b1) (hs:s=a0 * b0) :
 a * b=18446744073709551616 * p+4294967296 * q+4294967296 * r+s:=by
 subst ha hb hp hq hr hs;rw [Nat.add_mul,Nat.mul_add,Nat.mul_add,Nat.mul_mul_mul_comm,Nat.mul_assoc 4294967296 a1 b0,Nat.mul_left_comm a0 4294967296 b1];omega
theorem k0J (a b:Nat) (ha:a<18446744073709551616) (hb:b<18446744073709551616) (w:World) :
 Calls Tryz.prog 200 #[.int .u64 a,.int .u64 b] w (jP w (l0Y (a * b))):=by
 obtain ⟨a0,ha0⟩:∃a0,a0=a % 4294967296:=⟨_,rfl⟩;obtain ⟨a1,ha1⟩:∃a1,a1=a / 4294967296:=⟨_,rfl⟩;obtain ⟨b0,hb0⟩:∃b0,b0=b % 4294967296:=⟨_,rfl⟩;obtain ⟨b1,hb1⟩:∃b1,b1=b / 4294967296:=⟨_,rfl⟩;obtain ⟨p,hp⟩:∃p,p=a1 * b1:=⟨_,rfl⟩;obtain ⟨q,hq⟩:∃q,q=a1 * b0:=⟨_,rfl⟩;obtain ⟨r,hr⟩:∃r,r=a0 * b1:=⟨_,rfl⟩;obtain ⟨s,hs⟩:∃s,s=a0 * b0:=⟨_,rfl⟩;have lp:p≤18446744065119617025:=hp ▸ o0B (by omega) (by omega)
 have lq:q≤18446744065119617025:=hq ▸ o0B (by omega) (by omega);have lr:r≤18446744065119617025:=hr ▸ o0B (by omega) (by omega);have ls:s≤18446744065119617025:=hs ▸ o0B (by omega) (by omega);have hm:=g1H (a:=a) (b:=b) (a0:=a0) (a1:=a1) (b0:=b0) (b1:=b1) (by omega) (by omega) hp hq hr hs;obtain ⟨s1,hs1⟩:∃s1,s1=s / 4294967296:=⟨_,rfl⟩;obtain ⟨s0,hs0⟩:∃s0,s0=s % 4294967296:=⟨_,rfl⟩
 obtain ⟨m1,hm1⟩:∃m1,m1=q+s1:=⟨_,rfl⟩;obtain ⟨o,ho⟩:∃o,o=m1 / 4294967296:=⟨_,rfl⟩;obtain ⟨m0,hm0⟩:∃m0,m0=m1 % 4294967296:=⟨_,rfl⟩;obtain ⟨m2,hm2⟩:∃m2,m2=m0+r:=⟨_,rfl⟩;obtain ⟨t,ht⟩:∃t,t=m2 / 4294967296:=⟨_,rfl⟩;obtain ⟨u,hu⟩:∃u,u=m2 * 4294967296 % 18446744073709551616:=⟨_,rfl⟩;obtain ⟨po,hpo⟩:∃po,po=p+o:=⟨_,rfl⟩;obtain ⟨hi,hhi⟩:∃hi,hi=po+t:=⟨_,rfl⟩;obtain ⟨lo,hlo⟩:∃lo,lo=u+s0:=⟨_,rfl⟩;have HE:=jH (show hi=a * b / 18446744073709551616∧lo=a * b % 18446744073709551616 by omega)
 have pa:p<18446744073709551616:=by omega
 have hpo2:po<18446744073709551616:=by omega
 have hhi2:hi<18446744073709551616:=by omega
 have g1:bits .and .u64 (a:Int) 4294967295=(a0:Int):=by rw [ha0,←o0A];exact u64_and_nat a 4294967295 ha (by omega)
 have g2:(a:Int) / 4294967296=(a1:Int):=by omega
 have g3:bits .and .u64 (b:Int) 4294967295=(b0:Int):=by rw [hb0,←o0A];exact u64_and_nat b 4294967295 hb (by omega)
 have g4:(b:Int) / 4294967296=(b1:Int):=by omega
 have g5:IntKind.u64.wrap ((a0:Int) * (b0:Int))=(s:Int):=by rw [←Int.natCast_mul,←hs];exact c0E s (by omega)
 have g6:IntKind.u64.wrap ((a1:Int) * (b0:Int))=(q:Int):=by rw [←Int.natCast_mul,←hq];exact c0E q (by omega)
 have g7:(s:Int) / 4294967296=(s1:Int):=by omega
 have g8:IntKind.u64.wrap ((q:Int)+(s1:Int))=(m1:Int):=by rw [←Int.natCast_add,←hm1];exact c0E m1 (by omega)
 have g9:(m1:Int) / 4294967296=(o:Int):=by omega
 have g10:bits .and .u64 (m1:Int) 4294967295=(m0:Int):=by rw [hm0,←o0A];exact u64_and_nat m1 4294967295 (by omega) (by omega)
 have g11:IntKind.u64.wrap ((a0:Int) * (b1:Int))=(r:Int):=by rw [←Int.natCast_mul,←hr];exact c0E r (by omega)
 have g12:IntKind.u64.wrap ((m0:Int)+(r:Int))=(m2:Int):=by rw [←Int.natCast_add,←hm2];exact c0E m2 (by omega)
 have g13:IntKind.u64.wrap ((a1:Int) * (b1:Int))=(p:Int):=by rw [←Int.natCast_mul,←hp];exact c0E p pa
 have g14:IntKind.u64.wrap ((p:Int)+(o:Int))=(po:Int):=by rw [←Int.natCast_add,←hpo];exact c0E po hpo2
 have g15:(m2:Int) / 4294967296=(t:Int):=by omega
 have g16:IntKind.u64.wrap ((po:Int)+(t:Int))=(hi:Int):=by rw [←Int.natCast_add,←hhi];exact c0E hi hhi2
 have g17:IntKind.u64.wrap ((m2:Int) * 4294967296)=(u:Int):=by rw [IntKind.wrap_u64];omega
 have g18:bits .and .u64 (s:Int) 4294967295=(s0:Int):=by rw [hs0,←o0A];exact u64_and_nat s 4294967295 (by omega) (by omega)
 have g19:bits .or .u64 (u:Int) (s0:Int)=(lo:Int):=by
  rw [u64_or_nat _ _ (by omega) (by omega)];have:u=(m2 % 4294967296) * 4294967296:=by omega
  rw [this,t1R (by omega),hlo,this]
 clear ha0 ha1 hb0 hb1 hp hq hr hs lp lq lr ls hm hs1 hs0 hm1 ho hm0 hm2 ht hu hpo hhi hlo pa hpo2 hhi2 ha hb;unfold l0Y;rw [←HE.out.1,←HE.out.2];clear HE
 go_enter Tryz.func200,Tryz.ntmps200
 go_wp2
 refine bodyPost_ret (v:=.agg #[.int .u64 hi,.int .u64 lo]) (by simp [results,Tryz.results200,go_sem]) rfl ⟨rfl,a0C jR _⟩
theorem m1F (m n:Nat) (hm:m<340282366920938463463374607431768211456) (hn:n<340282366920938463463374607431768211456) :
 s0F m n=if m / 18446744073709551616=n / 18446744073709551616∧m % 18446744073709551616=n % 18446744073709551616 then 0
   else if m / 18446744073709551616<n / 18446744073709551616∨m / 18446744073709551616=n / 18446744073709551616∧m % 18446744073709551616<n % 18446744073709551616 then -1 else 1:=by
 unfold s0F
 repeat' split
 all_goals omega
theorem z0C (m n:Nat) (hm:m<340282366920938463463374607431768211456) (hn:n<340282366920938463463374607431768211456) (w:World) :
 Calls Tryz.prog 243 #[l0Y m,l0Y n] w (jP w (.int .i64 (s0F m n))):=by
 rw [m1F m n hm hn];unfold l0Y;generalize m / 18446744073709551616=a;generalize m % 18446744073709551616=b;generalize n / 18446744073709551616=c;generalize n % 18446744073709551616=d;clear hm hn
 by_cases h1:a=c
 · subst h1
   by_cases h2:b=d
   · subst h2
     rw [if_pos ⟨rfl,rfl⟩]
     go_enter Tryz.func243,Tryz.ntmps243
     go_wp2
     go_ret
     exact ⟨rfl,by repeat (first|exact jR|refine a0C ?_ _|refine a0F ?_ _|refine Below.drew ?_)⟩
   · have q1:((b:Int) == (d:Int))=false:=by simp;omega
     have q2:decide (b=d)=false:=by simp;omega
     by_cases h3:b<d
     · rw [if_neg (by omega),if_pos (by omega)]
       have q3:(b:Int)<(d:Int):=by omega
       go_enter Tryz.func243,Tryz.ntmps243
       go_wp2
       all_goals
         go_ret
         exact ⟨rfl,by repeat (first|exact jR|refine a0C ?_ _|refine a0F ?_ _|refine Below.drew ?_)⟩
     · rw [if_neg (by omega),if_neg (by omega)]
       have q3:¬(b:Int)<(d:Int):=by omega
       have q4:decide (b<d)=false:=by simp;omega
       go_enter Tryz.func243,Tryz.ntmps243
       go_wp2
       all_goals
         go_ret
         exact ⟨rfl,by repeat (first|exact jR|refine a0C ?_ _|refine a0F ?_ _|refine Below.drew ?_)⟩
 · have q1:((a:Int) == (c:Int))=false:=by simp;omega
   have q2:decide (a=c)=false:=by simp;omega
   by_cases h3:a<c
   · rw [if_neg (by omega),if_pos (by omega)]
     have q3:(a:Int)<(c:Int):=by omega
     go_enter Tryz.func243,Tryz.ntmps243
     go_wp2
     all_goals
       go_ret
       exact ⟨rfl,by repeat (first|exact jR|refine a0C ?_ _|refine a0F ?_ _|refine Below.drew ?_)⟩
   · rw [if_neg (by omega),if_neg (by omega)]
     have q3:¬(a:Int)<(c:Int):=by omega
     have q4:decide (a<c)=false:=by simp;omega
     go_enter Tryz.func243,Tryz.ntmps243
     go_wp2
     all_goals
       go_ret
       exact ⟨rfl,by repeat (first|exact jR|refine a0C ?_ _|refine a0F ?_ _|refine Below.drew ?_)⟩
end
end Go.Proofs.YtmniiodpbebnmaaGreat
