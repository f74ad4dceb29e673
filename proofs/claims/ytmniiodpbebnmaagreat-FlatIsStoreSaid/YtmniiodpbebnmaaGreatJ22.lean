/- Part 22 of the proof. -/
import Derived.Test.YtmniiodpbebnmaaGreatJ21
import Derived.Shelf.SlSortCmp.PdqK
namespace Go.Proofs.YtmniiodpbebnmaaGreat
set_option linter.unusedSimpArgs false
set_option linter.unusedVariables false
set_option linter.unusedSectionVars false
set_option maxRecDepth 100000
set_option maxHeartbeats 16000000
section
open Go.Shelf
def m1H:Go.Shelf.Ren:=⟨fun|20=>296|n=>n,fun|24=>246|22=>164|3=>3|25=>291|4=>4|0=>0|n=>n,fun|n=>n⟩
theorem insE:Go.Proofs.SlLaysF0.n20 Tryz.prog m1H:={
  mixed:=by kernel_rfl
  f20:=⟨Tryz.f296.name,by decide,Tryz.func296.trans (congrArg some (by kernel_rfl))⟩
  t0:=Tryz.underlying0
  a0:=Tryz.isAgg0
  z0:=Tryz.sizeOf0
  v0:=Tryz.zeroValue0
  t3:=Tryz.underlying3
  a3:=Tryz.isAgg3
  z3:=Tryz.sizeOf3
  v3:=Tryz.zeroValue3
  t4:=Tryz.underlying4
  a4:=Tryz.isAgg4
  z4:=Tryz.sizeOf4
  v4:=Tryz.zeroValue4
  t22:=Tryz.underlying164
  a22:=Tryz.isAgg164
  z22:=Tryz.sizeOf164
  v22:=Tryz.zeroValue164
  t25:=Tryz.underlying291
  a25:=Tryz.isAgg291
  z25:=Tryz.sizeOf291
  v25:=Tryz.zeroValue291 }
end
section
open Go.RowKit Go.Lib Go.Sort Go.Shelf
theorem k1W (w0:World) (g cap a b:Nat) (d0 d:Array Pl) (w:World) (hS:a0O w0 g d0 d w) (hab:a≤b) (hb:b≤d.size) (hsz:d.size≤1000000) (hr:Rise a b d) :
 Calls Tryz.prog 296 #[.slice (some ⟨g,0,none⟩) d.size cap,.int .i64 a,.int .i64 b,.func (.func 217) #[] #[]] w fun e w' =>
  e=.returned (.tuple #[])∧∃d',d'.size=d.size∧PermIn a b d d'∧Up (RZ ltE) a b d'∧a0O w0 g d0 d' w':=by
 have eg:∀args w,(callFunc 217 args).run Tryz.prog w=.ok (.enter 217 args) w:=enters_of Tryz.func217 (by kernel_rfl) rfl;have hcmp:CmpLays Tryz.prog 217 #[] plC 3 cfP g 0 d0.size w0:=fun m os dk _ x y=>j0S x.1 y.1 _
 refine (AnyQ.insertionSortCmpFunc_w insE 3 Tryz.isAgg246 Tryz.sizeOf246 plC cfP 217 #[] g 0 cap a b d0 d w0 w eg hcmp ⟨v0M,o1U,hS.h0,hS.hg⟩ hS.hs.symm hS.sw swoP hab hb (by omega)).mono ?_;rintro e w' ⟨rfl,hsw⟩;rw [h1B] at hsw;obtain ⟨hp,hu⟩:=d1Y j1B hab hb hr;exact ⟨rfl,_,hp.1,hp,hu,⟨hS.hg,hS.h0,hp.1.trans hS.hs,hsw⟩⟩
theorem k0S {x:Int} (h0:0≤x) (h1:x≤1000000000):wrap64 x=x:=by unfold wrap64;omega
def Al (s a:Nat):Prop:=∃k,a=k * s
theorem Al.zero (s:Nat):Al s 0:=⟨0,by simp⟩
theorem Al.next {s a:Nat} (h:Al s a):Al s (a+s):=by
 obtain ⟨k,rfl⟩:=h;exact ⟨k+1,by rw [Nat.add_mul,Nat.one_mul]⟩
theorem Al.half {s a:Nat} (h:Al (2 * s) a):Al s a:=by
 obtain ⟨k,rfl⟩:=h;exact ⟨k * 2,by rw [Nat.mul_assoc]⟩
theorem Al.step {s a b:Nat} (h:Al s a) (k:Al s b) (hab:a<b):a+s≤b:=by
 obtain ⟨x,rfl⟩:=h;obtain ⟨y,rfl⟩:=k;have hs:x<y:=Nat.lt_of_mul_lt_mul_right hab;have:=Nat.mul_le_mul_right s hs
 rwa [Nat.succ_mul] at this
def i1A (s n:Nat) (d:Array Pl) (a:Nat):Prop:=∀i,a≤i→i<a+s→i<n→a≤(d[i]!).2∧(d[i]!).2<a+s
def i1Y (s n:Nat) (d:Array Pl) (a:Nat):Prop:=i1A s n d a∧Up (RZ ltE) a (min (a+s) n) d
theorem i1Y.out {s n x y:Nat} {d d':Array Pl} {a:Nat} (h:i1Y s n d a) (hp:PermIn x y d d') (ho:min (a+s) n≤x∨y≤a):i1Y s n d' a :=
 ⟨fun i p q r=>by rw [i0K hp (show i<x∨y≤i by omega)];exact h.1 i p q r,h.2.out hp ho⟩
theorem i1A.perm {s n y:Nat} {d d':Array Pl} {a:Nat} (h:i1A s n d a) (hp:PermIn a y d d') (hy:y=min (a+s) n) (hd:d.size=n):i1A s n d' a:=by
 have h1:=permIn_all d d' a y (fun x=>a≤x.2∧x.2<a+s) (by omega) hp (fun i p q=>h i p (by omega) (by omega));exact fun i p q r=>h1 i p (by omega)
def Blk (s n:Nat) (d:Array Pl):Prop:=∀a,Al s a→a<n→i1Y s n d a
theorem i1A.two {s n:Nat} {d:Array Pl} {a:Nat} (h1:i1A s n d a) (h2:i1A s n d (a+s)):i1A (2 * s) n d a:=fun i p q r=>by
 rcases Nat.lt_or_ge i (a+s) with h|h
 · have:=h1 i p h r;omega
 · have:=h2 i h (by omega) r;omega
structure Mid (s n a:Nat) (d:Array Pl):Prop where
 al:Al (2 * s) a
 lo:∀x,Al (2 * s) x→x<a→i1Y (2 * s) n d x
 hi:∀x,Al s x→a≤x→x<n→i1Y s n d x
theorem Mid.start {s n:Nat} {d:Array Pl} (h:Blk s n d):Mid s n 0 d:=⟨Al.zero _,fun _ _ hx=>absurd hx (Nat.not_lt_zero _),fun x hx _ hn=>h x hx hn⟩
theorem Mid.own {s n a:Nat} {d:Array Pl} (h:Mid s n a d) (han:a<n) (hs:0<s):i1A (2 * s) n d a:=by
 refine i1A.two (h.hi a h.al.half (Nat.le_refl _) han).1 ?_
 rcases Nat.lt_or_ge (a+s) n with h1|h1
 · exact (h.hi (a+s) h.al.half.next (by omega) h1).1
 · exact fun i p q r=>by omega
theorem Mid.crs {s n a b:Nat} {d:Array Pl} (h:Mid s n a d) (h1:a+s<n) (hb:b≤n) (hb2:b≤a+2 * s):Crs (ltP ltE) (RZ ltE) a (a+s) b d :=
 crs_of fun i j p q r t=>by
  have h3:=(h.hi a h.al.half (Nat.le_refl _) (by omega)).1 i p q (by omega);have h4:=(h.hi (a+s) h.al.half.next (by omega) h1).1 j r (by omega) (by omega);omega
theorem Mid.put {s n a y:Nat} {d d':Array Pl} (h:Mid s n a d) (hd:d.size=n) (hs:0<s) (han:a<n) (hy:y=min (a+2 * s) n) (hp:PermIn a y d d') (hu:Up (RZ ltE) a y d'):(∀x,Al (2 * s) x→x<a+2 * s→i1Y (2 * s) n d' x)∧∀x,Al s x→a+2 * s≤x→x<n→i1Y s n d' x:=by
 refine ⟨fun x hx hlt=>?_,fun x hx hle hn=>(h.hi x hx (by omega) hn).out hp (Or.inr (by omega))⟩
 rcases Nat.lt_or_ge x a with h1|h1
 · have:=hx.step h.al h1
   exact (h.lo x hx h1).out hp (Or.inl (by omega))
 · obtain rfl:x=a:=by
    rcases Nat.lt_or_ge a x with h2|h2
    · have:=h.al.step hx h2;omega
    · omega
   exact ⟨(h.own han hs).perm hp hy hd,hy ▸ hu⟩
theorem Mid.step {s n a:Nat} {d d':Array Pl} (h:Mid s n a d) (hd:d.size=n) (hs:0<s) (ha:a+2 * s≤n) (hp:PermIn a (a+2 * s) d d') (hu:Up (RZ ltE) a (a+2 * s) d'):Mid s n (a+2 * s) d':=by
 obtain ⟨h1,h2⟩:=h.put hd hs (by omega) (by omega) hp hu;exact ⟨h.al.next,h1,h2⟩
theorem Mid.last {s n a:Nat} {d d':Array Pl} (h:Mid s n a d) (hd:d.size=n) (hs:0<s) (ha:¬a+2 * s≤n) (h1:a+s<n) (hp:PermIn a n d d') (hu:Up (RZ ltE) a n d'):Blk (2 * s) n d':=by
 obtain ⟨h2,_⟩:=h.put hd hs (by omega) (by omega) hp hu;exact fun x hx hn=>h2 x hx (by omega)
theorem Mid.done {s n a:Nat} {d:Array Pl} (h:Mid s n a d) (hs:0<s) (ha:¬a+s<n):Blk (2 * s) n d:=fun x hx hn=>by
 rcases Nat.lt_or_ge x a with h1|h1
 · exact h.lo x hx h1
 · obtain rfl:x=a:=by
    rcases Nat.lt_or_ge a x with h2|h2
    · have:=h.al.step hx h2;omega
    · omega
   refine ⟨h.own hn hs,?_⟩;have h3:=(h.hi x h.al.half (Nat.le_refl _) hn).2
   rwa [show min (x+s) n=min (x+2 * s) n by omega] at h3
structure k0V (n a:Nat) (d:Array Pl):Prop where
 al:Al 20 a
 lo:∀x,Al 20 x→x<a→i1Y 20 n d x
 hi:∀i,a≤i→i<n→(d[i]!).2=i
theorem k0V.start {n:Nat} {d:Array Pl} (h:∀i,i<n→(d[i]!).2=i):k0V n 0 d:=⟨Al.zero _,fun _ _ hx=>absurd hx (Nat.not_lt_zero _),fun i _ hi=>h i hi⟩
theorem k0V.rise {n a b:Nat} {d:Array Pl} (h:k0V n a d) (hb:b≤n):Rise a b d:=fun i j p q r=>by
 rw [h.hi i p (by omega),h.hi j (by omega) (by omega)];exact q
theorem k0V.put {n a y:Nat} {d d':Array Pl} (h:k0V n a d) (hd:d.size=n) (hy:y=min (a+20) n) (hp:PermIn a y d d') (hu:Up (RZ ltE) a y d'):(∀x,Al 20 x→x<a+20→i1Y 20 n d' x)∧∀i,a+20≤i→i<n→(d'[i]!).2=i:=by
 refine ⟨fun x hx hlt=>?_,fun i hi hn=>by rw [i0K hp (Or.inr (by omega))];exact h.hi i (by omega) hn⟩
 rcases Nat.lt_or_ge x a with h1|h1
 · have:=hx.step h.al h1
   exact (h.lo x hx h1).out hp (Or.inl (by omega))
 · obtain rfl:x=a:=by
    rcases Nat.lt_or_ge a x with h2|h2
    · have:=h.al.step hx h2;omega
    · omega
   exact ⟨i1A.perm (fun i p q r=>by rw [h.hi i p r];exact ⟨p,q⟩) hp hy hd,hy ▸ hu⟩
theorem k0V.step {n a:Nat} {d d':Array Pl} (h:k0V n a d) (hd:d.size=n) (ha:a+20≤n) (hp:PermIn a (a+20) d d') (hu:Up (RZ ltE) a (a+20) d'):k0V n (a+20) d':=by
 obtain ⟨h1,h2⟩:=h.put hd (by omega) hp hu;exact ⟨h.al.next,h1,h2⟩
theorem k0V.last {n a:Nat} {d d':Array Pl} (h:k0V n a d) (hd:d.size=n) (ha:¬a+20≤n) (hp:PermIn a n d d') (hu:Up (RZ ltE) a n d'):Blk 20 n d':=by
 rcases Nat.lt_or_ge n a with h0|h0
 · intro x hx hn
   rcases Nat.lt_or_ge x a with h1|h1
   · have:=hx.step h.al h1
     refine (h.lo x hx h1).out hp (Or.inl ?_);omega
   · omega
 · obtain ⟨h2,_⟩:=h.put hd (by omega) hp hu
   exact fun x hx hn=>h2 x hx (by omega)
theorem a1O (w0:World) (g cap n:Nat) (d0:Array Pl) (w:World) (hS:a0O w0 g d0 d0 w) (hd:d0.size=n) (hn:n≤100000) (hz:∀i,i<n→(d0[i]!).2=i) :
 Calls Tryz.prog 260 #[.slice (some ⟨g,0,none⟩) n cap,.int .i64 n,.func (.func 217) #[] #[]] w fun e w'=>e=.returned (.tuple #[])∧∃d',d'.size=n∧PermIn 0 n d0 d'∧Up (RZ ltE) 0 n d'∧a0O w0 g d0 d' w':=by
 have CI:=jH (fun (a b:Nat) (dk:Array Pl) (W:World) (h:a0O w0 g d0 dk W) (h1:a≤b) (h2:b≤n) (h3:Rise a b dk)=>by
  have:=k1W w0 g cap a b d0 dk W h h1 (by rw [h.hs,hd];exact h2) (by rw [h.hs,hd];omega) h3
  rwa [show dk.size=n from h.hs.trans hd] at this)
 have CM:=jH (m0K w0 g cap d0 n (by omega));have HZ:=jH (k0V.start hz);have HST:=jH hS;have HD:=jH hd;have HN:=jH hn;clear hz hS hd hn
 go_enter Tryz.func260,Tryz.ntmps260
 go_wp2_with fail
 go_loopg [7,8] n (fun g' s7 s8 wr=>∃(a:Nat) (d:Array Pl),a≤n∧n - a≤g'∧s7=.int .i64 a∧s8=.int .i64 ((a+20:Nat):Int)∧k0V n a d∧d.size=n∧PermIn 0 n d0 d∧a0O w0 g d0 d wr)
 case atStart=>exact ⟨0,d0,Nat.zero_le _,Nat.le_refl _,rfl,rfl,HZ.out,HD.out,permIn_refl d0 _ _,HST.out⟩
 case round =>
  obtain ⟨a,d,ha,hg,rfl,rfl,hia,hds,hpm,hin⟩:=hrel;rename World=>wr
  have HIA:=jH hia;have HDS:=jH hds;have HPM:=jH hpm;have HIN:=jH hin;have hnn:=HN.out;clear hia hds hpm hin
  by_cases hlt:a+20≤n
  · have z1:((a+20:Nat):Int)≤(n:Int):=by omega
    go_wp2_with (first
     | (go_at_call 296
        refine (CI.out a (a+20) d wr HIN.out (by omega) hlt (HIA.out.rise hlt)).mono ?_;rintro e w1 ⟨rfl,d1,hs,hp,hu,hin⟩;have HS1:=jH hs;have HP1:=jH hp;have HU1:=jH hu;have HI1:=jH hin;clear hs hp hu hin))
    go_roundg (n - (a+20))
    case measure=>omega
    case rel =>
     refine ⟨a+20,d1,hlt,Nat.le_refl _,rfl,by go_num,HIA.out.step HDS.out hlt HP1.out HU1.out,HS1.out,?_,HI1.out⟩;exact permIn_trans _ _ _ _ _ HPM.out (permIn_mono d d1 a (a+20) 0 n (by omega) hlt (by have:=HDS.out;omega) HP1.out)
  · have z1:¬((a+20:Nat):Int)≤(n:Int):=by omega
    go_wp2_with (first
     | (go_at_call 296
        refine (CI.out a n d wr HIN.out ha (Nat.le_refl _) (HIA.out.rise (Nat.le_refl _))).mono ?_;rintro e w1 ⟨rfl,d1,hs,hp,hu,hin⟩;have HS1:=jH hs;have HB1:=jH (HIA.out.last HDS.out hlt hp hu);have HP1:=jH (permIn_trans _ _ _ _ _ HPM.out (permIn_mono d d1 a n 0 n (by omega) (Nat.le_refl _) (by have:=HDS.out;omega) hp));have HI1:=jH hin;clear hs hp hu hin))
    go_loopg [6] n (fun g' s6 wr=>∃(s:Nat) (d:Array Pl),0<s∧s≤1000000∧n - s≤g'∧s6=.int .i64 s∧Blk s n d∧d.size=n∧PermIn 0 n d0 d∧a0O w0 g d0 d wr)
    case atStart=>exact ⟨20,d1,by decide,by decide,by omega,rfl,HB1.out,HS1.out,HP1.out,HI1.out⟩
    case round =>
     obtain ⟨s,d2,hs0,hsm,hg2,rfl,hbl,hds,hpm,hin⟩:=hrel;rename World=>wq
     have HBL:=jH hbl;have HDS2:=jH hds;have HPM2:=jH hpm;have HIN2:=jH hin;clear hbl hds hpm hin
     by_cases hsn:s<n
     · have z2:(s:Int)<(n:Int):=by omega
       obtain ⟨t,ht⟩:∃t,t=2 * s:=⟨_,rfl⟩;have HT:=jH ht;have hts:t≤2000000:=by omega
       have HY:=jH (show wrap64 (2 * (s:Int))=(t:Int)∧wrap64 ((s:Int) * 2)=(t:Int)∧2 * (s:Int)=(t:Int)∧(s:Int) * 2=(t:Int) by
        have e1:2 * (s:Int)=(t:Int):=by omega
        have e2:(s:Int) * 2=(t:Int):=by omega
        have e3:wrap64 (t:Int)=(t:Int):=k0S (by omega) (by omega);rw [e1,e2];exact ⟨e3,e3,rfl,rfl⟩)
       clear ht;obtain ⟨y1,y2,yA,yB⟩:=HY.out
       go_upto_region 9 with fail
       clear y1 y2 yA yB
       go_loopg [7,8] n (fun g' s7 s8 wr=>∃(a b:Nat) (d:Array Pl),b=a+t∧a≤n∧n - a≤g'∧s7=.int .i64 a∧s8=.int .i64 b∧Mid s n a d∧d.size=n∧PermIn 0 n d0 d∧a0O w0 g d0 d wr)
       case atStart=>exact ⟨0,t,d2,by omega,Nat.zero_le _,Nat.le_refl _,rfl,rfl,Mid.start HBL.out,HDS2.out,HPM2.out,HIN2.out⟩
       case round =>
        obtain ⟨a,b,d3,hbt,ha,hg3,rfl,rfl,hmd,hds,hpm,hin⟩:=hrel;rename World=>wv
        have HMD:=jH hmd;have HDS3:=jH hds;have HPM3:=jH hpm;have HIN3:=jH hin;obtain ⟨m,hm9⟩:∃m,m=a+s:=⟨_,rfl⟩;obtain ⟨b2,hb2⟩:∃b2,b2=b+t:=⟨_,rfl⟩;have hsn2:s≤100000:=by omega
        have HYC:=jH (show wrap64 ((a:Int)+(s:Int))=(m:Int)∧wrap64 ((b:Int)+(t:Int))=(b2:Int)∧(a:Int)+(s:Int)=(m:Int)∧(b:Int)+(t:Int)=(b2:Int) by
         have e1:(a:Int)+(s:Int)=(m:Int):=by omega
         have e2:(b:Int)+(t:Int)=(b2:Int):=by omega
         have e3:wrap64 (m:Int)=(m:Int):=k0S (by omega) (by omega);have e4:wrap64 (b2:Int)=(b2:Int):=k0S (by omega) (by omega);rw [e1,e2];exact ⟨e3,e4,rfl,rfl⟩)
        have HM9:=jH hm9;have HBT:=jH hbt;have HB2:=jH hb2;clear hmd hds hpm hin hm9 hbt hb2
        by_cases hlt2:b≤n
        · have z3:(b:Int)≤(n:Int):=by omega
          have e1:=HM9.out;have e2:=HBT.out;have e3:=HT.out;have CX:=jH (CM.out 1000000 a m b d3 wv (by omega) HIN3.out HDS3.out (by omega) (by omega) hlt2 (by have:=(HMD.out.hi a HMD.out.al.half (Nat.le_refl _) (by omega)).2;rwa [show min (a+s) n=m by omega] at this) (by have:=(HMD.out.hi (a+s) HMD.out.al.half.next (by omega) (by omega)).2;rwa [show min (a+s+s) n=b by omega,←e1] at this) (by have:=HMD.out.crs (b:=b) (by omega) hlt2 (by omega);rwa [←e1] at this))
          clear e1 e2 e3;obtain ⟨y1,y2,yA,yB⟩:=HY.out;obtain ⟨y5,y7,yC,yD⟩:=HYC.out;clear y1 y2 y5 y7
          go_wp2_with (first
           | (go_at_call 297
              refine CX.out.mono ?_;rintro e w4 ⟨rfl,d4,hs,hp,hu,hin⟩;have HS4:=jH hs;have HP4:=jH hp;have HU4:=jH hu;have HI4:=jH hin;clear hs hp hu hin))
          clear yA yB yC yD
          go_roundg (n - b)
          case measure=>have:=HBT.out;have:=HT.out;omega
          case rel =>
           have e2:b=a+2 * s:=by rw [HBT.out,HT.out]
           refine ⟨b,b2,d4,HB2.out,hlt2,Nat.le_refl _,rfl,rfl,?_,HS4.out,?_,HI4.out⟩
           · rw [e2]
             exact HMD.out.step HDS3.out hs0 (by omega) (e2 ▸ HP4.out) (e2 ▸ HU4.out)
           · exact permIn_trans _ _ _ _ _ HPM3.out (permIn_mono d3 d4 a b 0 n (by omega) hlt2 (by have:=HDS3.out;omega) HP4.out)
        · have z3:¬(b:Int)≤(n:Int):=by omega
          have HNB:=jH (show ¬a+2 * s≤n by have:=HBT.out;have:=HT.out;omega)
          by_cases hm:m<n
          · have z4:(m:Int)<(n:Int):=by omega
            have e1:=HM9.out;have e4:=HNB.out;have CX:=jH (CM.out 1000000 a m n d3 wv (by omega) HIN3.out HDS3.out (by omega) hm (Nat.le_refl _) (by have:=(HMD.out.hi a HMD.out.al.half (Nat.le_refl _) (by omega)).2;rwa [show min (a+s) n=m by omega] at this) (by have:=(HMD.out.hi (a+s) HMD.out.al.half.next (by omega) (by omega)).2;rwa [show min (a+s+s) n=n by omega,←e1] at this) (by have:=HMD.out.crs (b:=n) (by omega) (Nat.le_refl _) (by omega);rwa [←e1] at this))
            have HE1:=jH (show a+s<n by omega);clear e1 e4;obtain ⟨y1,y2,yA,yB⟩:=HY.out;obtain ⟨y5,y7,yC,yD⟩:=HYC.out;clear y1 y2 y5 y7
            go_wp2_with (first
             | (go_at_call 297
                refine CX.out.mono ?_;rintro e w4 ⟨rfl,d4,hs,hp,hu,hin⟩;have HS4:=jH hs;have HB4:=jH (HMD.out.last HDS3.out hs0 HNB.out HE1.out hp hu);have HP4:=jH (permIn_trans _ _ _ _ _ HPM3.out (permIn_mono d3 d4 a n 0 n (Nat.zero_le _) (Nat.le_refl _) (Nat.le_of_eq HDS3.out.symm) hp));have HI4:=jH hin;clear hs hp hu hin))
            clear yA yB yC yD
            go_roundg (n - t)
            case measure=>have:=HT.out;omega
            case rel =>
             have e3:=HT.out;exact ⟨t,d4,by omega,by omega,Nat.le_refl _,rfl,by rw [e3];exact HB4.out,HS4.out,HP4.out,HI4.out⟩
          · have z4:¬(m:Int)<(n:Int):=by omega
            obtain ⟨y1,y2,yA,yB⟩:=HY.out;obtain ⟨y5,y7,yC,yD⟩:=HYC.out;clear y1 y2 y5 y7;go_wp2_with fail
            clear yA yB yC yD
            go_roundg (n - t)
            case measure=>have:=HT.out;omega
            case rel =>
             have e3:=HT.out;exact ⟨t,d3,by omega,by omega,Nat.le_refl _,rfl,by rw [e3];exact HMD.out.done hs0 (by have:=HM9.out;omega),HDS3.out,HPM3.out,HIN3.out⟩
     · have z2:¬(s:Int)<(n:Int):=by omega
       have HUF:=jH (show Up (RZ ltE) 0 n d2 by
        rcases Nat.eq_zero_or_pos n with h0|h0
        · exact fun i j p q r=>absurd r (by omega)
        · have:=(HBL.out 0 (Al.zero s) h0).2
          rwa [show min (0+s) n=n by omega] at this)
       go_wp2_with fail
       go_end0
       exact ⟨rfl,d2,HDS2.out,HPM2.out,HUF.out,HIN2.out⟩
def d0Q (l:List En):List En:=l.mergeSort (leS ltE)
theorem g0L (l:List En):(d0Q l).length=l.length:=by simp [d0Q]
theorem z0K (d:Array Pl):flatK plC 3 d=flatK enC 3 (d.map (·.1)):=by
 unfold flatK;rw [Array.size_map]
 apply Array.ext
 · simp
 · intro i h1 h2
   simp only [Array.getElem_map,Array.getElem_range]
   have hi:i / 3<d.size:=by simp at h1;omega
   have:(d.map (·.1))[i / 3]! = (d[i / 3]!).1:=by
    rw [getElem!_pos (d.map (·.1)) (i / 3) (by simpa using hi),getElem!_pos d (i / 3) hi,Array.getElem_map]
   rw [this];rfl
theorem p1Y (l:List En):(u0D l).map (·.1)=l.toArray:=by
 unfold u0D;rw [List.map_toArray];simp
theorem i1H {w:World} {g:Nat} {l:List En} (h:HoldsK enC 3 w g 0 l.toArray):HoldsK plC 3 w g 0 (u0D l):=by
 unfold HoldsK at *;rw [z0K,p1Y];exact h
theorem u0S (w:World):Calls Tryz.prog 260 #[.slice none 0 0,.int .i64 0,.func (.func 217) #[] #[]] w fun e w'=>e=.returned (.tuple #[])∧w=w':=by
 have CI:=jH (fun W=>AnyF.insertionSortCmpFunc_none insE none 0 (.func (.func 217) #[] #[]) W)
 go_enter Tryz.func260,Tryz.ntmps260
 go_wp2_with fail
 refine wp_loop_rounds 1 ?_;rw [rounds_succ]
 go_wp2_with (first
  | (go_at_call 296
     refine (CI.out _).mono ?_;rintro e w1 ⟨rfl,rfl⟩))
 refine wp_loop_rounds 1 ?_;rw [rounds_succ];go_wp2_with fail
 go_end0
 exact ⟨rfl,rfl⟩
theorem d1N {base:Nat} (v:Value) (l:List En) (w:World) (h:b0Q enC 246 3 base w v l) (hl:l.length≤100000) :
 Calls Tryz.prog 216 #[v,.func (.func 217) #[] #[]] w fun e w' =>
  e=.returned (.tuple #[])∧w'.ownsRow base 246 3 v l.length (a0F enC (d0Q l))∧w.grownBy w' v.ownBlock:=by
 rcases Go.Joins.ownsRow_forms h with ⟨rfl,h0⟩|⟨g,cap,rfl⟩
 · obtain rfl:l=[]:=List.eq_nil_of_length_eq_zero h0
   have CN:=jH (u0S w);have H:=jH h;clear h
   go_enter Tryz.func216,Tryz.ntmps216
   go_wp2_with (first
    | (go_at_call 260
       refine CN.out.mono ?_;rintro e w1 ⟨rfl,rfl⟩))
   go_end0
   exact ⟨rfl,by rw [show d0Q []=[] from List.eq_nil_of_length_eq_zero (g0L [])];exact H.out,⟨rfl,rfl,rfl,Nat.le_refl _,fun _ _ _=>rfl⟩⟩
 · have hH:=i1H (p0E (f:=enC) (n:=3) eEn.len (by decide) h)
   have hg:=(b0Q.lt h (r:=g) rfl).2;have hin:a0O w g (u0D l) (u0D l) w:=⟨hg,hH,rfl,SWK.start hH⟩;have CS:=jH (a1O w g cap l.length (u0D l) w hin (n0O l) hl (fun i hi=>by rw [p1A l i hi]));have H:=jH h;clear h hH hg hin
   go_enter Tryz.func216,Tryz.ntmps216
   go_wp2_with (first
    | (go_at_call 260
       refine CS.out.mono ?_;rintro e w1 ⟨rfl,d1,hs,hp,hu,hin⟩;have HX:=jH (show PermIn 0 l.length (u0D l) d1∧Up (RZ ltE) 0 l.length d1∧a0O w g (u0D l) d1 w1 from ⟨hp,hu,hin⟩);clear hs hp hu hin))
   go_end0
   obtain ⟨hp,hu,hin⟩:=HX.out;have hl2:d1.toList.map (·.1)=d0Q l:=z0Y j1B l d1 hp hu;obtain ⟨m,os,rfl⟩:=hin.sw;have e1:sortWorldK plC 3 w g 0 m d1 os=grow (putRowK enC 3 (Sort.ahead w m) g 0 (d0Q l).toArray) os:=by
    unfold sortWorldK putRowK;rw [z0K,←hl2]
    congr 3
    rw [←List.map_toArray]
   rw [e1];have k:=n0R (f:=enC) (n:=3) (m:=d0Q l) (k:=m) eEn.len (by decide) H.out (g0L l) os;rw [g0L] at k;exact ⟨rfl,k.1,k.2⟩
def n1F (w:World) (l:List En) (e:Ending) (w':World):Prop:=∃A c,e=.returned (.slice A l.length c)∧b0Q enC 246 3 w.heap.size w' (.slice A l.length c) l∧jB w w'
theorem b1A (v:Value) (l:List En) (w:World) (hv:a0Q 3 enC w v l) (hl:l.length≤1000000) :
 Calls Tryz.prog 215 #[v] w (n1F w l):=by
 obtain ⟨A,c,rfl⟩:=hv.form
 cases A with
 | none =>
   have h0:l.length=0:=by
    obtain ⟨A1,c1,e1,_,hr⟩:=hv;injection e1 with e1 _ _
    rcases Nat.eq_zero_or_pos l.length with h|h
    · exact h
    · obtain ⟨_,_,hA,_⟩:=hr h;rw [hA] at e1;cases e1
   obtain rfl:l=[]:=List.eq_nil_of_length_eq_zero h0;have hq:∀W,(binOp .eql 164 (.slice none 0 c) (.slice none 0 0)).run Tryz.prog W=.ok (.bool true) W:=fun W=>Lib.run_eql_slice_nil W _ _ none 0 c 0 0 eEn.ht
   clear hv h0
   go_enter Tryz.func215,Tryz.ntmps215
   go_wp2
   go_ret
   exact ⟨none,0,rfl,b0Q.nil _ _,jR⟩
 | some ad =>
   have HV:=jH hv;have hq:∀W,(binOp .eql 164 (.slice (some ad) l.length c) (.slice none 0 0)).run Tryz.prog W=.ok (.bool false) W:=fun W=>Lib.run_eql_slice_nil W _ _ (some ad) l.length c 0 0 eEn.ht
   clear hv
   go_enter Tryz.func215,Tryz.ntmps215
   go_wp2_with (at_builtin;refine b0Y eEn (by rfl) (s:=.tmp 5) (x:=.tmp 6) (by rfl) w.heap.size [] l _ _ (by rfl) (by rfl) (b0Q.lit0 _ w _ _ rfl (Nat.le_refl _)) (HV.out.below (a0C jR _)) (by simp;omega) (by simp) ?_;intro out A2 c2 w2 hout hown hg _;have HOUT:=jH hout;have HO:=jH hown;have HG:=jH hg;clear hout hown hg)
   go_ret
   have e1:out=l:=by rw [HOUT.out];rfl
   subst e1;exact ⟨A2,c2,rfl,HO.out,(a0C jR _).trans (c0C HG.out (by simp) (fun r hr=>by have hr':some w.heap.size=some r:=hr;injection hr';omega))⟩
theorem g1F (v:Value) (l:List En) (w:World) (hv:a0Q 3 enC w v l) (hl:l.length≤100000) :
 Calls Tryz.prog 163 #[v] w (n1F w (d0Q l)):=by
 have CC:=jH (b1A v l w hv (by omega));have CS:=jH (fun (v:Value) (W:World) (h:b0Q enC 246 3 w.heap.size W v l)=>d1N v l W h hl);clear hv
 go_enter Tryz.func163,Tryz.ntmps163
 go_wp2_with (first
  | (go_at_call 215
     refine CC.out.mono ?_;rintro e w1 ⟨A,c,rfl,hown,hb⟩;have HO:=jH hown;have HB:=jH hb;clear hown hb)
  | (go_at_call 216
     refine (CS.out _ w1 HO.out).mono ?_;rintro e w2 ⟨rfl,hown,hg⟩;have HO2:=jH hown;have HG:=jH hg;clear hown hg))
 go_ret
 have ho:=HO2.out;refine ⟨A,c,by rw [g0L];rfl,?_,HB.out.trans (c0C HG.out HB.out.size (fun r hr=>(HO.out.lt hr).1))⟩;unfold b0Q;rw [g0L];exact ho
end
section
open Go.RowKit Go.Lib Go.Sort

end
end Go.Proofs.YtmniiodpbebnmaaGreat
