/- Part 25 of the proof. -/
import Derived.Test.YtmniiodpbebnmaaGreatJ24
namespace Go.Proofs.YtmniiodpbebnmaaGreat
set_option linter.unusedSimpArgs false
set_option linter.unusedVariables false
set_option linter.unusedSectionVars false
set_option maxRecDepth 100000
set_option maxHeartbeats 16000000
section
open Go.RowKit Go.Lib
theorem t0P (x y c:Nat) (hc:c≤1) (w:World) :
 (callFunc 287 #[.int .u64 x,.int .u64 y,.int .u64 c]).run Tryz.prog w =
   .ok (.value (.tuple #[.int .u64 (((x+y+c) % 18446744073709551616:Nat):Int),.int .u64 (((x+y+c) / 18446744073709551616:Nat):Int)])) w:=by
 rw [run_callFunc_extern Tryz.func287 (by kernel_rfl) (by kernel_rfl) (by kernel_rfl) (e:=add64Entry) (by kernel_rfl),run_add64 x y c (by omega) (by omega) (by omega) (by omega)];simp only [Result.andThen]
 congr 5 <;> omega
theorem q0H (a b c d:Nat) (ha:a<18446744073709551616) (hc:c<18446744073709551616) (hb:b<18446744073709551616) (hd:d<18446744073709551616) (lo k hi:Nat) (e1:lo=(b+d) % 18446744073709551616) (e2:k=(b+d) / 18446744073709551616) (e3:hi=a+c+k) (h:hi<18446744073709551616) (w:World) :
 Calls Tryz.prog 242 #[.agg #[.int .u64 a,.int .u64 b],.agg #[.int .u64 c,.int .u64 d]] w (jP w (.tuple #[.agg #[.int .u64 hi,.int .u64 lo],.bool true])):=by
 have r1:∀W,(callFunc 287 #[.int .u64 b,.int .u64 d,.int .u64 0]).run Tryz.prog W=.ok (.value (.tuple #[.int .u64 lo,.int .u64 k])) W:=fun W=>by
  have:=t0P b d 0 (by omega) W;rw [Nat.add_zero,←e1,←e2] at this;exact this
 have hk:k≤1:=by omega
 have r2:∀W,(callFunc 287 #[.int .u64 a,.int .u64 c,.int .u64 k]).run Tryz.prog W=.ok (.value (.tuple #[.int .u64 hi,.int .u64 0])) W:=fun W=>by
  have:=t0P a c k hk W;rw [←e3,Nat.mod_eq_of_lt h,Nat.div_eq_of_lt h] at this;exact this
 clear e1 e2 e3 h hk ha hb hc hd
 go_enter Tryz.func242,Tryz.ntmps242
 go_wp2
 refine bodyPost_ret (v:=.tuple #[.agg #[.int .u64 hi,.int .u64 lo],.bool true]) (by simp [results,Tryz.results242,go_sem]) rfl ⟨rfl,a0C (a0C (a0C jR _) _) _⟩
theorem i0Y (m n:Nat) (h:m+n<340282366920938463463374607431768211456) (w:World) :
 Calls Tryz.prog 242 #[k0J m,k0J n] w (jP w (.tuple #[k0J (m+n),.bool true])):=by
 unfold k0J;have e:(m+n) / 18446744073709551616=m / 18446744073709551616+n / 18446744073709551616+(m % 18446744073709551616+n % 18446744073709551616) / 18446744073709551616:=by omega
 have e2:(m+n) % 18446744073709551616=(m % 18446744073709551616+n % 18446744073709551616) % 18446744073709551616:=by omega
 exact q0H _ _ _ _ (by omega) (by omega) (by omega) (by omega) _ _ _ e2 rfl e (by omega) w
theorem j0Z (n:Nat) (h:n≤9223372036854775807) (w:World) :
 Calls Tryz.prog 285 #[k0J n] w (jP w (.int .i64 n)):=by
 have e1:n / 18446744073709551616=0:=by omega
 have e2:n % 18446744073709551616=n:=by omega
 unfold k0J;rw [e1,e2];have q1:¬(9223372036854775807:Int)<(n:Int):=by omega
 have q2:decide ((9223372036854775807:Int)<(n:Int))=false:=by simp;omega
 have q3:IntKind.i64.wrap (n:Int)=(n:Int):=by rw [IntKind.wrap_i64];omega
 clear e1 e2 h
 go_enter Tryz.func285,Tryz.ntmps285
 go_wp2
 all_goals
   go_ret
   exact ⟨rfl,a0C jR _⟩
theorem n1C (w:World) (a b c:Obj):(((w.alloc a).alloc b).alloc c).heap[w.heap.size]?=some a:=(Below.heap_alloc _ _ _ (by simp;omega)).trans (d0V w a b)
theorem box3_1 (w:World) (a b c:Obj):(((w.alloc a).alloc b).alloc c).heap[w.heap.size+1]?=some b:=(Below.heap_alloc _ _ _ (by simp)).trans (c0G w a b)
theorem box3_2 (w:World) (a b c:Obj):(((w.alloc a).alloc b).alloc c).heap[w.heap.size+1+1]?=some c:=by
 have h:=heap_alloc_new ((w.alloc a).alloc b) c
 simpa using h
theorem a0K {w:World} {r k i:Nat} {v:Value} {x:Option Obj} (h:w.heap[k]?=x) (hk:k≠r):(w.setCell ⟨r,i,none⟩ v).heap[k]?=x:=(Below.heap_setCell _ _ _ _ hk).trans h
def l0C (w wr:World) (x1 x0 q1 q0:Nat):Prop :=
 jB w wr∧wr.heap[w.heap.size]?=some (.cells #[.int .u64 x1,.int .u64 x0] 272 (0,0))∧wr.heap[w.heap.size+1]?=some (.cells #[.int .u64 0,.int .u64 0] 272 (0,0))∧wr.heap[w.heap.size+1+1]?=some (.cells #[.int .u64 q1,.int .u64 q0] 272 (0,0))
theorem l0C.setx {w wr:World} {x1 x0 q1 q0:Nat} (h:l0C w wr x1 x0 q1 q0) (y1 y0:Nat):l0C w ((wr.setCell ⟨w.heap.size,0,none⟩ (.int .u64 y1)).setCell ⟨w.heap.size,1,none⟩ (.int .u64 y0)) y1 y0 q1 q0:=by
 obtain ⟨a,b,c,d⟩:=h;exact ⟨(a.setCell (Nat.le_refl _) _).setCell (Nat.le_refl _) _,a0E (a0E b),a0K (a0K c (by omega)) (by omega),a0K (a0K d (by omega)) (by omega)⟩
theorem l0C.setq1 {w wr:World} {x1 x0 q1 q0:Nat} (h:l0C w wr x1 x0 q1 q0) (y:Nat):l0C w (wr.setCell ⟨w.heap.size+1+1,0,none⟩ (.int .u64 y)) x1 x0 y q0:=by
 obtain ⟨a,b,c,d⟩:=h;exact ⟨a.setCell (by simp;omega) _,a0K b (by omega),a0K c (by omega),a0E d⟩
theorem l0C.setq0 {w wr:World} {x1 x0 q1 q0:Nat} (h:l0C w wr x1 x0 q1 q0) (y:Nat):l0C w (wr.setCell ⟨w.heap.size+1+1,1,none⟩ (.int .u64 y)) x1 x0 q1 y:=by
 obtain ⟨a,b,c,d⟩:=h;exact ⟨a.setCell (by simp;omega) _,a0K b (by omega),a0K c (by omega),a0E d⟩
theorem l0C.drew {w wr:World} {x1 x0 q1 q0:Nat} (h:l0C w wr x1 x0 q1 q0):l0C w wr.drew x1 x0 q1 q0:=by
 obtain ⟨a,b,c,d⟩:=h;exact ⟨a.drew,b,c,d⟩
theorem z0M {k:Nat} (h:k<64):IntKind.u64.wrap ((2:Int) ^ k)=((2 ^ k:Nat):Int)∧2 ^ k<18446744073709551616:=by
 have hp:2 ^ k<2 ^ 64:=Nat.pow_lt_pow_right (by decide) h;have e:(2:Int) ^ k=((2 ^ k:Nat):Int):=by simp
 rw [e];generalize 2 ^ k=m at hp;exact ⟨c0R m (by omega),by omega⟩
theorem x0M (r:Nat):IntKind.u64.wrap ((r:Int) * 2)=((2 * r % 18446744073709551616:Nat):Int):=by rw [IntKind.wrap_u64];omega
theorem n1Y {a b:Nat} (ha:a % 2=0) (hb:b≤1):(a ||| b)=a+b:=by
 have:b=0∨b=1:=by omega
 rcases this with rfl|rfl
 · simp
 · obtain ⟨k,rfl⟩:∃k,a=2 ^ 1 * k:=⟨a / 2,by omega⟩
   exact (Nat.two_pow_add_eq_or_of_lt (by decide) k).symm
theorem v0Z (n d:Nat) (hn:n<340282366920938463463374607431768211456) (hd:0<d) (hd2:d<18446744073709551616) (w:World) :
 Calls Tryz.prog 283 #[k0J n,.int .u64 d] w (jP w (.tuple #[k0J (n / d),.int .u64 (n % d:Nat),.bool true])):=by
 unfold k0J;obtain ⟨a,ha⟩:∃a,a=n / 18446744073709551616:=⟨_,rfl⟩;obtain ⟨b,hb⟩:∃b,b=n % 18446744073709551616:=⟨_,rfl⟩;rw [←ha,←hb];have HA:=jH ha;have HB:=jH hb;have HN:=jH hn;have HD:=jH hd;have HD2:=jH hd2;have q0:¬(d:Int)=0:=by omega
 have q1:((d:Int) == 0)=false:=by simp;omega
 clear ha hb hn hd hd2
 go_enter Tryz.func283,Tryz.ntmps283
 go_wp2
 go_loopg [8,14] 128 (fun g s8 s14 wr=>∃(i:Nat) (x1 x0 q1 q0 r:Nat),i≤128∧128 - i≤g∧s14=.int .i64 i∧s8=.int .u64 r∧Hid (r=rD n d i)∧Hid (x1=xD n i / 18446744073709551616∧x0=xD n i % 18446744073709551616)∧Hid (q1=qD n d i / 18446744073709551616∧q0=qD n d i % 18446744073709551616)∧l0C w wr x1 x0 q1 q0)
 case atStart =>
  obtain ⟨z1,z2,z3⟩:=p1J (n:=n) (d:=d) HN.out;refine ⟨0,a,b,0,0,0,by omega,Nat.le_refl _,rfl,rfl,jH z2.symm,jH ⟨by rw [z3];exact HA.out,by rw [z3];exact HB.out⟩,jH ⟨by rw [z1],by rw [z1]⟩,a0C (a0C (a0C jR _) _) _,n1C _ _ _ _,box3_1 _ _ _ _,box3_2 _ _ _ _⟩
 case round =>
  obtain ⟨i,x1,x0,p1,p0,r,hi,hg,rfl,rfl,HRr,HX,HQ,hd⟩:=hrel;rename World=>wr
  have HDA:=jH hd;obtain ⟨hbw,hx,hz,hq⟩:=hd;obtain ⟨c1,c2,c3⟩:=a0A jR hx;obtain ⟨c4,c5,c6⟩:=a0A jR hq;obtain ⟨c7,c8,c9⟩:=a0A jR hz;have HBW:=jH hbw;have HXB:=jH hx;have HZB:=jH hz;have HQB:=jH hq;clear hbw hx hz hq
  by_cases hlt:i<128
  · have q2:(i:Int)<128:=by omega
    have hr:=HRr.out;have hxx:=HX.out;have hxl:=xD_lt n i;have hrl:=rD_lt (n:=n) (i:=i) HD.out;have hbit:=xD_bit (n:=n) hlt;obtain ⟨w1,w2,w3⟩:=h1A (xD n i) hxl;have hxs:=p1M n i;have hbl:=bD_le n i;have hd2:=HD2.out;obtain ⟨R2,hR2⟩:∃R2,R2=2 * r % 18446744073709551616:=⟨_,rfl⟩;obtain ⟨t1,ht1⟩:∃t1,t1=x1 / 9223372036854775808:=⟨_,rfl⟩;obtain ⟨r2,hr2⟩:∃r2,r2=R2+t1:=⟨_,rfl⟩;obtain ⟨X2,hX2⟩:∃X2,X2=2 * x1 % 18446744073709551616:=⟨_,rfl⟩
    obtain ⟨t0,ht0⟩:∃t0,t0=x0 / 9223372036854775808:=⟨_,rfl⟩;obtain ⟨y1,hy1⟩:∃y1,y1=X2+t0:=⟨_,rfl⟩;obtain ⟨y0,hy0⟩:∃y0,y0=2 * x0 % 18446744073709551616:=⟨_,rfl⟩;obtain ⟨o,ho⟩:∃o,o=r / 9223372036854775808:=⟨_,rfl⟩;have hx1l:x1<18446744073709551616:=by omega
    have hx0l:x0<18446744073709551616:=by omega
    have ht1b:t1=bD n i:=by rw [←hbit,←w3,ht1,hxx.1]
    have g1:IntKind.u64.wrap ((r:Int) * 2)=(R2:Int):=by rw [hR2];exact x0M r
    have g2:(x1:Int) / 9223372036854775808=(t1:Int):=by omega
    have g3:bits .or .u64 (R2:Int) (t1:Int)=(r2:Int):=by rw [u64_or_nat _ _ (by omega) (by omega),n1Y (by omega) (by omega),hr2]
    have g4:IntKind.u64.wrap ((x1:Int) * 2)=(X2:Int):=by rw [hX2];exact x0M x1
    have g5:(x0:Int) / 9223372036854775808=(t0:Int):=by omega
    have g6:bits .or .u64 (X2:Int) (t0:Int)=(y1:Int):=by rw [u64_or_nat _ _ (by omega) (by omega),n1Y (by omega) (by omega),hy1]
    have g7:IntKind.u64.wrap ((x0:Int) * 2)=(y0:Int):=by rw [hy0];exact x0M x0
    have g8:(r:Int) / 9223372036854775808=(o:Int):=by omega
    have hR:2 * rD n d i+bD n i=if o=0 then r2 else 18446744073709551616+r2:=by
     rw [←ht1b,←hr]
     split <;> omega
    have HY:=jH (show y1=xD n (i+1) / 18446744073709551616∧y0=xD n (i+1) % 18446744073709551616 by
     rw [hxs,w1,w2,←hxx.1,←hxx.2];exact ⟨by rw [hy1,hX2,ht0],hy0⟩)
    by_cases hlow:2 * rD n d i+bD n i<d
    · obtain ⟨e1,e2⟩:=p1G hlt HD.out hlow
      have ho0:o=0:=by
       by_cases h:o=0
       · exact h
       · rw [if_neg h] at hR;omega
      rw [if_pos ho0] at hR;subst ho0;have HE:=jH (show r2=rD n d (i+1) by rw [e1,hR]);have HE2:=jH e2;have q3:(r2:Int)<(d:Int):=by omega
      have q4:decide ((r2:Int)<(d:Int))=true:=by simp;omega
      clear hr hxx hxl hrl hbit w1 w2 w3 hxs hbl hd2 hR2 ht1 hr2 hX2 ht0 hy1 hy0 ho hx1l hx0l ht1b hR hlow e1 e2;go_wp2
      go_roundg (128 - (i+1))
      case measure=>omega
      case rel=>exact ⟨i+1,y1,y0,p1,p0,r2,hlt,Nat.le_refl _,by go_num,rfl,HE,HY,jH ⟨by rw [HE2.out];exact HQ.out.1,by rw [HE2.out];exact HQ.out.2⟩,HDA.out.setx y1 y0⟩
    · obtain ⟨e1,e2⟩:=j1F hlt HD.out (Nat.le_of_not_lt hlow)
      obtain ⟨r3,hr3⟩:∃r3,r3=2 * rD n d i+bD n i - d:=⟨_,rfl⟩;have g9:IntKind.u64.wrap ((r2:Int) - (d:Int))=(r3:Int):=by
       rw [IntKind.wrap_u64,hr3,hR];rw [hR] at hlow
       split at hlow
       · rw [if_pos (by assumption)];omega
       · rw [if_neg (by assumption)];omega
      have hog:(o=0∧decide (r2<d)=false)∨((o:Int) == 0)=false:=by
       by_cases h:o=0
       · left
         rw [if_pos h] at hR;exact ⟨h,by simp;omega⟩
       · right
         simp;omega
      have HE:=jH (show r3=rD n d (i+1) by rw [e1,hr3]);have HE2:=jH e2;clear hr hxx hxl hrl hbit w1 w2 w3 hxs hbl hd2 hR2 ht1 hr2 hX2 ht0 hy1 hy0 ho hx1l hx0l ht1b hR hlow e1 e2 hr3
      by_cases h64:i<64
      · have q5:(i:Int)<64:=by omega
        have q6:wrap64 (63 - (i:Int))=((63 - i:Nat):Int):=by unfold wrap64;omega
        obtain ⟨g10,hpw⟩:=z0M (k:=63 - i) (by omega);obtain ⟨P2,hP2⟩:∃P2,P2=2 ^ (63 - i):=⟨_,rfl⟩;rw [←hP2] at g10 hpw;obtain ⟨pp,hpp⟩:∃pp,pp=(p1 ||| P2):=⟨_,rfl⟩;have g11:bits .or .u64 (p1:Int) (P2:Int)=(pp:Int):=by rw [u64_or_nat _ _ (by rw [HQ.out.1];have:=qD_lt (d:=d) HN.out hi;omega) hpw,hpp]
        have HPP:=jH hpp;have HPW:=jH hP2;clear hpp hP2 hpw
        rcases hog with ⟨rfl,hog⟩|hog
        · go_wp2
          all_goals
            refine a0J ?_;intro W hW;have hD:=HDA.out.setx y1 y0;rw [←hW] at hD;have HDW:=jH hD;obtain ⟨d1,d2,d3⟩:=a0A jR hD.2.2.2;clear hW hD
            go_region
            all_goals
              go_wp2
              go_roundg (128 - (i+1))
              case measure=>omega
              case rel=>exact ⟨i+1,y1,y0,pp,p0,r3,hlt,Nat.le_refl _,by go_num,rfl,HE,HY,jH ⟨by rw [HE2.out,(q_hi (d:=d) h64 HN.out).1,HPP.out,HQ.out.1,HPW.out],by rw [HE2.out,(q_hi (d:=d) h64 HN.out).2];exact HQ.out.2⟩,(HDW.out.setq1 pp).drew⟩
        · go_wp2
          all_goals
            refine a0J ?_;intro W hW;have hD:=HDA.out.setx y1 y0;rw [←hW] at hD;have HDW:=jH hD;obtain ⟨d1,d2,d3⟩:=a0A jR hD.2.2.2;clear hW hD
            go_region
            all_goals
              go_wp2
              go_roundg (128 - (i+1))
              case measure=>omega
              case rel=>exact ⟨i+1,y1,y0,pp,p0,r3,hlt,Nat.le_refl _,by go_num,rfl,HE,HY,jH ⟨by rw [HE2.out,(q_hi (d:=d) h64 HN.out).1,HPP.out,HQ.out.1,HPW.out],by rw [HE2.out,(q_hi (d:=d) h64 HN.out).2];exact HQ.out.2⟩,(HDW.out.setq1 pp).drew⟩
      · have q5:¬(i:Int)<64:=by omega
        have q6:wrap64 (127 - (i:Int))=((127 - i:Nat):Int):=by unfold wrap64;omega
        obtain ⟨g10,hpw⟩:=z0M (k:=127 - i) (by omega);obtain ⟨P2,hP2⟩:∃P2,P2=2 ^ (127 - i):=⟨_,rfl⟩;rw [←hP2] at g10 hpw;obtain ⟨pp,hpp⟩:∃pp,pp=(p0 ||| P2):=⟨_,rfl⟩;have g11:bits .or .u64 (p0:Int) (P2:Int)=(pp:Int):=by rw [u64_or_nat _ _ (by rw [HQ.out.2];omega) hpw,hpp]
        have HPP:=jH hpp;have HPW:=jH hP2;clear hpp hP2 hpw
        rcases hog with ⟨rfl,hog⟩|hog
        · go_wp2
          all_goals
            refine a0J ?_;intro W hW;have hD:=HDA.out.setx y1 y0;rw [←hW] at hD;have HDW:=jH hD;obtain ⟨d1,d2,d3⟩:=a0A jR hD.2.2.2;clear hW hD
            go_region
            all_goals
              go_wp2
              go_roundg (128 - (i+1))
              case measure=>omega
              case rel=>exact ⟨i+1,y1,y0,p1,pp,r3,hlt,Nat.le_refl _,by go_num,rfl,HE,HY,jH ⟨by rw [HE2.out,(q_lo (d:=d) (Nat.le_of_not_lt h64) hlt).1];exact HQ.out.1,by rw [HE2.out,(q_lo (d:=d) (Nat.le_of_not_lt h64) hlt).2,HPP.out,HQ.out.2,HPW.out]⟩,(HDW.out.setq0 pp).drew⟩
        · go_wp2
          all_goals
            refine a0J ?_;intro W hW;have hD:=HDA.out.setx y1 y0;rw [←hW] at hD;have HDW:=jH hD;obtain ⟨d1,d2,d3⟩:=a0A jR hD.2.2.2;clear hW hD
            go_region
            all_goals
              go_wp2
              go_roundg (128 - (i+1))
              case measure=>omega
              case rel=>exact ⟨i+1,y1,y0,p1,pp,r3,hlt,Nat.le_refl _,by go_num,rfl,HE,HY,jH ⟨by rw [HE2.out,(q_lo (d:=d) (Nat.le_of_not_lt h64) hlt).1];exact HQ.out.1,by rw [HE2.out,(q_lo (d:=d) (Nat.le_of_not_lt h64) hlt).2,HPP.out,HQ.out.2,HPW.out]⟩,(HDW.out.setq0 pp).drew⟩
  · obtain rfl:i=128:=by omega
    obtain ⟨e1,e2⟩:=qD_end n d;have hq1:=HQ.out;rw [e1] at hq1;have hr1:=HRr.out;rw [e2] at hr1;have HF:=jH (And.intro hq1 hr1);clear hq1 hr1 e1 e2;go_wp2
    have hz2:=a0E (i:=1) (v:=.int .u64 p0) (a0E (i:=0) (v:=.int .u64 p1) HZB.out);obtain ⟨b1,b2,b3⟩:=a0A jR hz2;refine bodyPost_ret (v:=.tuple #[.agg #[.int .u64 p1,.int .u64 p0],.int .u64 r,.bool true]) (by simp [results,Tryz.results283,go_sem,b1]) rfl ⟨?_,(HBW.out.setCell (by simp) _).setCell (by simp) _⟩;rw [HF.out.1.1,HF.out.1.2,HF.out.2]
theorem eNm:g0Y 196 2 1 8 (.int .i64 0) nmC :=
 ⟨by kernel_rfl,by kernel_rfl,rfl,by decide,by decide,fun _=>rfl,fun x u hu=>by
  simp only [nmC,List.mem_cons,List.not_mem_nil,or_false] at hu
  rcases hu with rfl
  rfl⟩
theorem p0I (a b:Int) (w:World) (ha:I64 a) (hb:I64 b) :
 Calls Tryz.prog 241 #[.int .i64 a,.int .i64 b] w fun e w'=>e=.returned (.int .i64 (e0K (a - b)))∧w=w':=by
 by_cases h:b = -9223372036854775808
 · subst h
   obtain ⟨s,hs⟩:∃s,s=e0K (a+9223372036854775807):=⟨_,rfl⟩;obtain ⟨t,ht⟩:∃t:Int,t=if decide (a<0)=true then 1 else 0:=⟨_,rfl⟩;have HE:=jH (show e0K (s+t)=e0K (a - -9223372036854775808) by rw [hs,ht];exact o1M ha _ rfl);have HT:=jH ht;have HS:=jH (show I64 s by rw [hs];exact n0N _);have HS2:=jH hs;have HA:=jH ha;have HTI:=jH (show I64 t by rw [ht];unfold I64;split <;> omega);clear hs ht ha hb
   go_enter Tryz.func241,Tryz.ntmps241
   go_wp2_with (first
    | (go_at_call 286
       refine (b1C _ _).mono ?_;rw [←HT.out];rintro e w1 ⟨rfl,rfl⟩;have HB:=jH True.intro)
    | (go_at_call 240
       have h9:=HB;refine (g0I s t _ HS.out HTI.out).mono ?_;rw [HE.out];rintro e w1 ⟨rfl,rfl⟩;clear h9)
    | (go_at_call 240
       refine (g0I a 9223372036854775807 _ HA.out (by unfold I64;omega)).mono ?_;rw [←HS2.out];rintro e w1 ⟨rfl,rfl⟩))
   go_ret
   exact ⟨rfl,rfl⟩
 · have HE:=jH (show e0K (a+IntKind.i64.wrap (-b))=e0K (a - b) from k1L ha hb h)
   have hn:I64 (-b):=by unfold I64 at *;omega
   have q1:wrap64 (-b) = -b:=by unfold I64 at hn;unfold wrap64;omega
   have q2:IntKind.i64.wrap (-b) = -b:=by unfold I64 at hn;rw [IntKind.wrap_i64];omega
   rw [q2] at HE;have HA:=jH ha;have HN:=jH hn;have q3:(b == -9223372036854775808)=false:=by simpa using h
   clear ha hb hn
   go_enter Tryz.func241,Tryz.ntmps241
   go_wp2_with (first
    | (go_at_call 240
       refine (g0I a (-b) _ HA.out HN.out).mono ?_;rw [HE.out];rintro e w1 ⟨rfl,rfl⟩))
   go_ret
   exact ⟨rfl,rfl⟩
theorem w0T (a b:Int) (w:World) (ha:I64 a) (hb:I64 b) :
 Calls Tryz.prog 198 #[.int .i64 a,.int .i64 b] w fun e w'=>e=.returned (.int .i64 (n0V a b))∧w=w':=by
 have C1:=jH (p0I a b w ha hb);have C2:=jH (g0I (e0K (a - b)) 1 w (n0N _) (by unfold I64;omega));unfold n0V;generalize e0K (a - b)=s at C1 C2 ⊢;generalize e0K (s+1)=t at C2 ⊢;clear ha hb
 go_enter Tryz.func198,Tryz.ntmps198
 go_wp2_with (first
  | (go_at_call 241
     refine C1.out.mono ?_;rintro e w1 ⟨rfl,rfl⟩)
  | (go_at_call 240
     refine C2.out.mono ?_;rintro e w1 ⟨rfl,rfl⟩))
 go_ret
 exact ⟨rfl,rfl⟩
theorem a1T (v:Value) (l:List Int) (w:World) (hv:a0Q 1 nmC w v l) (hl:l.length≤1000000) (hi:∀n∈l,I64 n) :
 Calls Tryz.prog 236 #[v] w fun e w'=>e=.returned (.int .i64 (x0V l 0))∧w=w':=by
 obtain ⟨A,c,rfl⟩:=hv.form;have HV:=jH hv;have HI:=jH hi;have hl9:l.length≤9223372036854775807:=by omega
 clear hv hi
 go_enter Tryz.func236,Tryz.ntmps236
 go_wp2
 go_loopg [3,8] l.length (fun g s3 s8 wr=>∃k:Nat,k≤l.length∧l.length - k≤g∧s8=.int .i64 k∧s3=.int .i64 (x0V (l.take k) 0)∧w=wr)
 case atStart=>exact ⟨0,Nat.zero_le _,Nat.le_refl _,rfl,by simp [x0V],rfl⟩
 case round =>
  obtain ⟨k,hk,hg,rfl,rfl,rfl⟩:=hrel
  by_cases hlt:k<l.length
  · obtain ⟨b1,o1,rfl,hb1,hc⟩:=HV.out.at_ hlt
    have z1:(0:Int)≤(k:Int):=by omega
    have z2:(k:Int)<(l.length:Int):=by omega
    have HS:=jH (show x0V (l.take (k+1)) 0=e0K (x0V (l.take k) 0+l[k]) by rw [List.take_succ_eq_append_getElem hlt,s0Z]);have d0:=hc 0 _ rfl;rw [Nat.add_zero,Nat.mul_one] at d0;have HN:=jH (g0I (x0V (l.take k) 0) l[k] w (x0W _ _ e1Z) (HI.out _ (List.getElem_mem hlt)));rw [←HS.out] at HN;generalize x0V (l.take k) 0=s at HN ⊢;generalize l[k]=x at HN d0;clear hc HS
    go_wp2_with (first
     | (go_at_call 240
        refine HN.out.mono ?_;rintro e w1 ⟨rfl,rfl⟩))
    go_roundg (l.length - (k+1))
    case measure=>omega
    case rel=>exact ⟨k+1,hlt,Nat.le_refl _,by go_num,rfl,rfl⟩
  · obtain rfl:k=l.length:=by omega
    rw [List.take_length];go_wp2
    go_ret
    exact ⟨rfl,rfl⟩
theorem c1I (v:Value) (l:List Smp) (a b:Int) (w:World) (hv:a0Q 2 c0B w v l) (hl:l.length≤1000000) :
 Calls Tryz.prog 197 #[v,.int .i64 a,.int .i64 b] w fun e w'=>∃A c,e=.returned (.slice A (q0Q l a b).length c)∧b0Q c0B 111 2 w.heap.size w' (.slice A (q0Q l a b).length c) (q0Q l a b)∧jB w w':=by
 obtain ⟨A,c,rfl⟩:=hv.form;have HV:=jH hv;have HL:=jH hl;have hl9:l.length≤9223372036854775807:=by omega
 clear hv hl
 go_enter Tryz.func197,Tryz.ntmps197
 go_wp2
 go_loopg [7,12] l.length (fun g s7 s12 wr=>∃k:Nat,k≤l.length∧l.length - k≤g∧s12=.int .i64 k∧b0Q c0B 111 2 w.heap.size wr s7 (q0Q (l.take k) a b)∧jB w wr)
 case atStart=>exact ⟨0,Nat.zero_le _,Nat.le_refl _,rfl,by simp [q0Q];exact b0Q.nil _ _,jR⟩
 case round =>
  obtain ⟨k,hk,hg,rfl,hown,hb⟩:=hrel;rename World=>wr
  obtain ⟨pre,hpre⟩:∃pre,pre=q0Q (l.take k) a b:=⟨_,rfl⟩;rw [←hpre] at hown;obtain ⟨A5,c5,rfl⟩:=hown.form;have HPL:=jH (show pre.length≤k by rw [hpre];exact Nat.le_trans (g1P _ _ _) (by simp;omega));have HPRE:=jH hpre;have HO:=jH hown;have HB:=jH hb;clear hpre hown hb
  by_cases hlt:k<l.length
  · obtain ⟨b1,o1,rfl,hb1,hc⟩:=(HV.out.below HB.out).at_ hlt
    have z1:(0:Int)≤(k:Int):=by omega
    have z2:(k:Int)<(l.length:Int):=by omega
    have HTK:=jH (show q0Q (l.take (k+1)) a b=pre++if a≤l[k].1∧l[k].1≤b then [l[k]] else [] by rw [List.take_succ_eq_append_getElem hlt,i1W,HPRE.out]);generalize l[k]=x at hc HTK;have d0:=hc 0 _ rfl;have d1:=hc 1 _ rfl;rw [Nat.add_zero] at d0;have HK:=jH hlt;clear hc
    by_cases h1:a≤x.1
    · by_cases h2:x.1≤b
      · as_aux_lemma =>
        go_wp2_with (first
         | (at_builtin
            refine b0Y d0C (by rfl) (by rfl) w.heap.size pre [x] (.slice A5 pre.length c5) _ (by rfl) (by rfl) ((HO.out.below (a0C (a0C jR _) _))) (a0Q.lit _ x _ _ (wr.heap.size+1) (by simp) rfl) (by have:=HPL.out;have:=HL.out;have:=HK.out;simp;omega) (by have:=HB.out.size;simp;omega) ?_;intro out2 A9 c9 w13 hout2 hown2 hg2 _;have HO13:=jH hout2;have HW13:=jH hown2;have HB13:=jH (show jB w w13 from (a0C (a0C HB.out _) _).trans (f0J hg2 HO.out (by have:=HB.out.size;simp;omega)))
            clear hout2 hown2 hg2))
        go_roundg (l.length - (k+1))
        case measure=>omega
        case rel=>exact ⟨k+1,HK.out,Nat.le_refl _,by go_num,by rw [HTK.out,if_pos ⟨h1,h2⟩,←HO13.out];exact HW13.out,HB13.out⟩
      · as_aux_lemma =>
        go_wp2_with fail
        go_roundg (l.length - (k+1))
        case measure=>omega
        case rel=>exact ⟨k+1,HK.out,Nat.le_refl _,by go_num,by rw [HTK.out,if_neg (by omega),List.append_nil];exact HO.out.below (a0C jR _),a0C HB.out _⟩
    · as_aux_lemma =>
      go_wp2_with fail
      go_roundg (l.length - (k+1))
      case measure=>omega
      case rel=>exact ⟨k+1,HK.out,Nat.le_refl _,by go_num,by rw [HTK.out,if_neg (by omega),List.append_nil];exact HO.out.below (a0C jR _),a0C HB.out _⟩
  · obtain rfl:k=l.length:=by omega
    have hp:=HPRE.out;rw [List.take_length] at hp;have HP:=jH hp;clear hp;go_wp2_with fail
    go_ret
    exact ⟨A5,c5,by rw [HP.out];rfl,by rw [←HP.out];exact HO.out,HB.out⟩
theorem v0K (v:Value) (l:List Smp) (w:World) (hv:a0Q 2 c0B w v l) (hl:l.length≤1000000) :
 Calls Tryz.prog 235 #[v] w fun e w'=>∃A c,e=.returned (.slice A (f0L l).length c)∧b0Q nmC 2 1 w.heap.size w' (.slice A (f0L l).length c) (f0L l)∧jB w w':=by
 obtain ⟨A,c,rfl⟩:=hv.form;have HV:=jH hv;have HL:=jH hl;have hl9:l.length≤9223372036854775807:=by omega
 clear hv hl
 go_enter Tryz.func235,Tryz.ntmps235
 go_wp2
 go_loopg [3,8] l.length (fun g s7 s12 wr=>∃k:Nat,k≤l.length∧l.length - k≤g∧s12=.int .i64 k∧b0Q nmC 2 1 w.heap.size wr s7 (f0L (l.take k))∧jB w wr)
 case atStart=>exact ⟨0,Nat.zero_le _,Nat.le_refl _,rfl,by simp [f0L];exact b0Q.nil _ _,jR⟩
 case round =>
  obtain ⟨k,hk,hg,rfl,hown,hb⟩:=hrel;rename World=>wr
  obtain ⟨pre,hpre⟩:∃pre,pre=f0L (l.take k):=⟨_,rfl⟩;rw [←hpre] at hown;obtain ⟨A5,c5,rfl⟩:=hown.form;have HPL:=jH (show pre.length≤k by rw [hpre,y0Q];simp;omega);have HPRE:=jH hpre;have HO:=jH hown;have HB:=jH hb;clear hpre hown hb
  by_cases hlt:k<l.length
  · obtain ⟨b1,o1,rfl,hb1,hc⟩:=(HV.out.below HB.out).at_ hlt
    have z1:(0:Int)≤(k:Int):=by omega
    have z2:(k:Int)<(l.length:Int):=by omega
    have HTK:=jH (show f0L (l.take (k+1))=pre++[max l[k].2 0] by rw [List.take_succ_eq_append_getElem hlt,b1I,HPRE.out]);generalize l[k]=x at hc HTK;have d0:=hc 0 _ rfl;have d1:=hc 1 _ rfl;rw [Nat.add_zero] at d0;have HK:=jH hlt;clear hc
    go_wp2_with (first
     | (at_builtin
        refine b0Y eNm (by rfl) (by rfl) w.heap.size pre [max x.2 0] (.slice A5 pre.length c5) _ (by rfl) (by rfl) ((HO.out.below (a0C (a0C jR _) _))) (a0Q.lit _ (max x.2 0) _ _ (wr.heap.size+1) (by simp) (by simp [nmC])) (by have:=HPL.out;have:=HL.out;have:=HK.out;simp;omega) (by have:=HB.out.size;simp;omega) ?_;intro out2 A9 c9 w13 hout2 hown2 hg2 _;have HO13:=jH hout2;have HW13:=jH hown2
        have HB13:=jH (show jB w w13 from (a0C (a0C HB.out _) _).trans (f0J hg2 HO.out (by have:=HB.out.size;simp;omega)));clear hout2 hown2 hg2))
    go_roundg (l.length - (k+1))
    case measure=>omega
    case rel=>exact ⟨k+1,HK.out,Nat.le_refl _,by go_num,by rw [HTK.out,←HO13.out];exact HW13.out,HB13.out⟩
  · obtain rfl:k=l.length:=by omega
    have hp:=HPRE.out;rw [List.take_length] at hp;have HP:=jH hp;clear hp;go_wp2_with fail
    go_ret
    exact ⟨A5,c5,by rw [HP.out];rfl,by rw [←HP.out];exact HO.out,HB.out⟩
theorem h1H (v:Value) (l:List Int) (w:World) (hv:a0Q 1 nmC w v l) (hl:l.length≤1000000) (hne:l≠[]) :
 Calls Tryz.prog 237 #[v] w fun e w'=>e=.returned (.int .i64 (d1H l))∧w=w':=by
 obtain ⟨A,c,rfl⟩:=hv.form;have HV:=jH hv;have hl9:l.length≤9223372036854775807:=by omega
 have hp:0<l.length:=List.length_pos_iff.2 hne;have z0:¬(l.length:Int)<1:=by omega
 have z3:(0:Int)<(l.length:Int):=by omega
 obtain ⟨b1,o1,rfl,hb1,hc⟩:=HV.out.at_ hp;have d0:=hc 0 _ rfl;simp only [Nat.zero_mul,Nat.add_zero] at d0
 have HP:=jH hp;have HFST:=jH (show d1H (l.take 1)=l[0] by
  rw [List.take_one]
  cases l with
  | nil=>exact absurd rfl hne
  | cons a l=>rfl)
 generalize l[0]=x0 at d0 HFST;clear hv hc hne hp
 go_enter Tryz.func237,Tryz.ntmps237
 go_wp2
 go_loopg [3,4] l.length (fun g s3 s8 wr=>∃k:Nat,1≤k∧k≤l.length∧l.length - k≤g∧s8=.int .i64 k∧s3=.int .i64 (d1H (l.take k))∧w=wr)
 case atStart=>exact ⟨1,Nat.le_refl _,HP.out,by omega,rfl,by rw [HFST.out],rfl⟩
 case round =>
  obtain ⟨k,hk1,hk,hg,rfl,rfl,rfl⟩:=hrel
  by_cases hlt:k<l.length
  · obtain ⟨b2,o2,he,hb2,hc⟩:=HV.out.at_ hlt
    injection he with he
    injection he with e1 e2
    subst e1 e2;have z1:(0:Int)≤(k:Int):=by omega
    have z2:(k:Int)<(l.length:Int):=by omega
    have HS:=jH (show d1H (l.take (k+1))=min (d1H (l.take k)) l[k] by rw [List.take_succ_eq_append_getElem hlt,i1V (by intro q;have:=congrArg List.length q;rw [List.length_take,List.length_nil] at this;omega)]);have d2:=hc 0 _ rfl;rw [Nat.add_zero,Nat.mul_one] at d2;generalize d1H (l.take k)=s at HS ⊢;generalize l[k]=x at HS d2;clear hc d0;go_wp2
    go_roundg (l.length - (k+1))
    case measure=>omega
    case rel=>exact ⟨k+1,by omega,hlt,Nat.le_refl _,by go_num,by rw [HS.out],rfl⟩
  · obtain rfl:k=l.length:=by omega
    rw [List.take_length];go_wp2
    go_ret
    exact ⟨rfl,rfl⟩
theorem g1Z (v:Value) (l:List Int) (w:World) (hv:a0Q 1 nmC w v l) (hl:l.length≤1000000) (hne:l≠[]) :
 Calls Tryz.prog 238 #[v] w fun e w'=>e=.returned (.int .i64 (d1I l))∧w=w':=by
 obtain ⟨A,c,rfl⟩:=hv.form;have HV:=jH hv;have hl9:l.length≤9223372036854775807:=by omega
 have hp:0<l.length:=List.length_pos_iff.2 hne;have z0:¬(l.length:Int)<1:=by omega
 have z3:(0:Int)<(l.length:Int):=by omega
 obtain ⟨b1,o1,rfl,hb1,hc⟩:=HV.out.at_ hp;have d0:=hc 0 _ rfl;simp only [Nat.zero_mul,Nat.add_zero] at d0
 have HP:=jH hp;have HFST:=jH (show d1I (l.take 1)=l[0] by
  rw [List.take_one]
  cases l with
  | nil=>exact absurd rfl hne
  | cons a l=>rfl)
 generalize l[0]=x0 at d0 HFST;clear hv hc hne hp
 go_enter Tryz.func238,Tryz.ntmps238
 go_wp2
 go_loopg [3,4] l.length (fun g s3 s8 wr=>∃k:Nat,1≤k∧k≤l.length∧l.length - k≤g∧s8=.int .i64 k∧s3=.int .i64 (d1I (l.take k))∧w=wr)
 case atStart=>exact ⟨1,Nat.le_refl _,HP.out,by omega,rfl,by rw [HFST.out],rfl⟩
 case round =>
  obtain ⟨k,hk1,hk,hg,rfl,rfl,rfl⟩:=hrel
  by_cases hlt:k<l.length
  · obtain ⟨b2,o2,he,hb2,hc⟩:=HV.out.at_ hlt
    injection he with he
    injection he with e1 e2
    subst e1 e2;have z1:(0:Int)≤(k:Int):=by omega
    have z2:(k:Int)<(l.length:Int):=by omega
    have HS:=jH (show d1I (l.take (k+1))=max (d1I (l.take k)) l[k] by rw [List.take_succ_eq_append_getElem hlt,d1M (by intro q;have:=congrArg List.length q;rw [List.length_take,List.length_nil] at this;omega)]);have d2:=hc 0 _ rfl;rw [Nat.add_zero,Nat.mul_one] at d2;generalize d1I (l.take k)=s at HS ⊢;generalize l[k]=x at HS d2;clear hc d0;go_wp2
    go_roundg (l.length - (k+1))
    case measure=>omega
    case rel=>exact ⟨k+1,by omega,hlt,Nat.le_refl _,by go_num,by rw [HS.out],rfl⟩
  · obtain rfl:k=l.length:=by omega
    rw [List.take_length];go_wp2
    go_ret
    exact ⟨rfl,rfl⟩
end
end Go.Proofs.YtmniiodpbebnmaaGreat
