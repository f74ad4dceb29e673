/- Part 15 of the proof: Wide. -/
import Derived.Test.YtkcdhaallnhhmaaGreatQ05
namespace Go.Proofs.YtkcdhaallnhhmaaGreat
set_option linter.unusedSimpArgs false
set_option linter.unusedVariables false
set_option linter.unusedSectionVars false
set_option maxRecDepth 100000
set_option maxHeartbeats 16000000
section
open Go.RowKit Go.Lib
theorem add64_run (x y c:Nat) (hc:c≤1) (w:World) :
 (callFunc 236 #[.int .u64 x,.int .u64 y,.int .u64 c]).run Tryz.prog w =
   .ok (.value (.tuple #[.int .u64 (((x+y+c) % 18446744073709551616:Nat):Int),.int .u64 (((x+y+c) / 18446744073709551616:Nat):Int)])) w:=by
 rw [run_callFunc_extern Tryz.func236 (by kernel_rfl) (by kernel_rfl) (by kernel_rfl) (e:=add64Entry) (by kernel_rfl),run_add64 x y c (by omega) (by omega) (by omega) (by omega)];simp only [Result.andThen]
 congr 5 <;> omega
theorem wideAdd_words (a b c d:Nat) (ha:a<18446744073709551616) (hc:c<18446744073709551616) (hb:b<18446744073709551616) (hd:d<18446744073709551616) (lo k hi:Nat) (e1:lo=(b+d) % 18446744073709551616) (e2:k=(b+d) / 18446744073709551616) (e3:hi=a+c+k) (h:hi<18446744073709551616) (w:World) :
 Calls Tryz.prog 226 #[.agg #[.int .u64 a,.int .u64 b],.agg #[.int .u64 c,.int .u64 d]] w (jP w (.tuple #[.agg #[.int .u64 hi,.int .u64 lo],.bool true])):=by
 have r1:∀W,(callFunc 236 #[.int .u64 b,.int .u64 d,.int .u64 0]).run Tryz.prog W=.ok (.value (.tuple #[.int .u64 lo,.int .u64 k])) W:=fun W=>by
  have:=add64_run b d 0 (by omega) W;rw [Nat.add_zero,←e1,←e2] at this;exact this
 have hk:k≤1:=by omega
 have r2:∀W,(callFunc 236 #[.int .u64 a,.int .u64 c,.int .u64 k]).run Tryz.prog W=.ok (.value (.tuple #[.int .u64 hi,.int .u64 0])) W:=fun W=>by
  have:=add64_run a c k hk W;rw [←e3,Nat.mod_eq_of_lt h,Nat.div_eq_of_lt h] at this;exact this
 clear e1 e2 e3 h hk ha hb hc hd
 go_enter Tryz.func226,Tryz.ntmps226
 go_wp2
 refine bodyPost_ret (v:=.tuple #[.agg #[.int .u64 hi,.int .u64 lo],.bool true]) (by simp [results,Tryz.results226,go_sem]) rfl ⟨rfl,balloc (balloc (balloc jR _) _) _⟩
theorem wideAdd_any (m n:Nat) (h:m+n<340282366920938463463374607431768211456) (w:World) :
 Calls Tryz.prog 226 #[twoV m,twoV n] w (jP w (.tuple #[twoV (m+n),.bool true])):=by
 unfold twoV;have e:(m+n) / 18446744073709551616=m / 18446744073709551616+n / 18446744073709551616+(m % 18446744073709551616+n % 18446744073709551616) / 18446744073709551616:=by omega
 have e2:(m+n) % 18446744073709551616=(m % 18446744073709551616+n % 18446744073709551616) % 18446744073709551616:=by omega
 exact wideAdd_words _ _ _ _ (by omega) (by omega) (by omega) (by omega) _ _ _ e2 rfl e (by omega) w
theorem wideSmall_any (n:Nat) (h:n≤9223372036854775807) (w:World) :
 Calls Tryz.prog 227 #[twoV n] w (jP w (.int .i64 n)):=by
 have e1:n / 18446744073709551616=0:=by omega
 have e2:n % 18446744073709551616=n:=by omega
 unfold twoV;rw [e1,e2];have q1:¬(9223372036854775807:Int)<(n:Int):=by omega
 have q2:decide ((9223372036854775807:Int)<(n:Int))=false:=by simp;omega
 have q3:IntKind.i64.wrap (n:Int)=(n:Int):=by rw [IntKind.wrap_i64];omega
 clear e1 e2 h
 go_enter Tryz.func227,Tryz.ntmps227
 go_wp2
 all_goals
   go_ret
   exact ⟨rfl,balloc jR _⟩
theorem box3_0 (w:World) (a b c:Obj):(((w.alloc a).alloc b).alloc c).heap[w.heap.size]?=some a:=(Below.heap_alloc _ _ _ (by simp;omega)).trans (box_old w a b)
theorem box3_1 (w:World) (a b c:Obj):(((w.alloc a).alloc b).alloc c).heap[w.heap.size+1]?=some b:=(Below.heap_alloc _ _ _ (by simp)).trans (box_new w a b)
theorem box3_2 (w:World) (a b c:Obj):(((w.alloc a).alloc b).alloc c).heap[w.heap.size+1+1]?=some c:=by
 have h:=heap_alloc_new ((w.alloc a).alloc b) c
 simpa using h
theorem heap_set_ne {w:World} {r k i:Nat} {v:Value} {x:Option Obj} (h:w.heap[k]?=x) (hk:k≠r):(w.setCell ⟨r,i,none⟩ v).heap[k]?=x:=(Below.heap_setCell _ _ _ _ hk).trans h
def DivAt (w wr:World) (x1 x0 q1 q0:Nat):Prop :=
 jB w wr∧wr.heap[w.heap.size]?=some (.cells #[.int .u64 x1,.int .u64 x0] 297 (0,0))∧wr.heap[w.heap.size+1]?=some (.cells #[.int .u64 0,.int .u64 0] 297 (0,0))∧wr.heap[w.heap.size+1+1]?=some (.cells #[.int .u64 q1,.int .u64 q0] 297 (0,0))
theorem DivAt.setx {w wr:World} {x1 x0 q1 q0:Nat} (h:DivAt w wr x1 x0 q1 q0) (y1 y0:Nat):DivAt w ((wr.setCell ⟨w.heap.size,0,none⟩ (.int .u64 y1)).setCell ⟨w.heap.size,1,none⟩ (.int .u64 y0)) y1 y0 q1 q0:=by
 obtain ⟨a,b,c,d⟩:=h;exact ⟨(a.setCell (Nat.le_refl _) _).setCell (Nat.le_refl _) _,setCell_block (setCell_block b),heap_set_ne (heap_set_ne c (by omega)) (by omega),heap_set_ne (heap_set_ne d (by omega)) (by omega)⟩
theorem DivAt.setq1 {w wr:World} {x1 x0 q1 q0:Nat} (h:DivAt w wr x1 x0 q1 q0) (y:Nat):DivAt w (wr.setCell ⟨w.heap.size+1+1,0,none⟩ (.int .u64 y)) x1 x0 y q0:=by
 obtain ⟨a,b,c,d⟩:=h;exact ⟨a.setCell (by simp;omega) _,heap_set_ne b (by omega),heap_set_ne c (by omega),setCell_block d⟩
theorem DivAt.setq0 {w wr:World} {x1 x0 q1 q0:Nat} (h:DivAt w wr x1 x0 q1 q0) (y:Nat):DivAt w (wr.setCell ⟨w.heap.size+1+1,1,none⟩ (.int .u64 y)) x1 x0 q1 y:=by
 obtain ⟨a,b,c,d⟩:=h;exact ⟨a.setCell (by simp;omega) _,heap_set_ne b (by omega),heap_set_ne c (by omega),setCell_block d⟩
theorem DivAt.drew {w wr:World} {x1 x0 q1 q0:Nat} (h:DivAt w wr x1 x0 q1 q0):DivAt w wr.drew x1 x0 q1 q0:=by
 obtain ⟨a,b,c,d⟩:=h;exact ⟨a.drew,b,c,d⟩
theorem pow_word {k:Nat} (h:k<64):IntKind.u64.wrap ((2:Int) ^ k)=((2 ^ k:Nat):Int)∧2 ^ k<18446744073709551616:=by
 have hp:2 ^ k<2 ^ 64:=Nat.pow_lt_pow_right (by decide) h;have e:(2:Int) ^ k=((2 ^ k:Nat):Int):=by simp
 rw [e];generalize 2 ^ k=m at hp;exact ⟨u64_wrap m (by omega),by omega⟩
theorem shl_one (r:Nat):IntKind.u64.wrap ((r:Int) * 2)=((2 * r % 18446744073709551616:Nat):Int):=by rw [IntKind.wrap_u64];omega
theorem or_bit {a b:Nat} (ha:a % 2=0) (hb:b≤1):(a ||| b)=a+b:=by
 have:b=0∨b=1:=by omega
 rcases this with rfl|rfl
 · simp
 · obtain ⟨k,rfl⟩:∃k,a=2 ^ 1 * k:=⟨a / 2,by omega⟩
   exact (Nat.two_pow_add_eq_or_of_lt (by decide) k).symm
theorem wideDiv_any (n d:Nat) (hn:n<340282366920938463463374607431768211456) (hd:0<d) (hd2:d<18446744073709551616) (w:World) :
 Calls Tryz.prog 224 #[twoV n,.int .u64 d] w (jP w (.tuple #[twoV (n / d),.int .u64 (n % d:Nat),.bool true])):=by
 unfold twoV;obtain ⟨a,ha⟩:∃a,a=n / 18446744073709551616:=⟨_,rfl⟩;obtain ⟨b,hb⟩:∃b,b=n % 18446744073709551616:=⟨_,rfl⟩;rw [←ha,←hb];have HA:=jH ha;have HB:=jH hb;have HN:=jH hn;have HD:=jH hd;have HD2:=jH hd2;have q0:¬(d:Int)=0:=by omega
 have q1:((d:Int) == 0)=false:=by simp;omega
 clear ha hb hn hd hd2
 go_enter Tryz.func224,Tryz.ntmps224
 go_wp2
 go_loopg [8,14] 128 (fun g s8 s14 wr=>∃(i:Nat) (x1 x0 q1 q0 r:Nat),i≤128∧128 - i≤g∧s14=.int .i64 i∧s8=.int .u64 r∧Hid (r=rD n d i)∧Hid (x1=xD n i / 18446744073709551616∧x0=xD n i % 18446744073709551616)∧Hid (q1=qD n d i / 18446744073709551616∧q0=qD n d i % 18446744073709551616)∧DivAt w wr x1 x0 q1 q0)
 case atStart =>
  obtain ⟨z1,z2,z3⟩:=qD_zero (n:=n) (d:=d) HN.out;refine ⟨0,a,b,0,0,0,by omega,Nat.le_refl _,rfl,rfl,jH z2.symm,jH ⟨by rw [z3];exact HA.out,by rw [z3];exact HB.out⟩,jH ⟨by rw [z1],by rw [z1]⟩,balloc (balloc (balloc jR _) _) _,box3_0 _ _ _ _,box3_1 _ _ _ _,box3_2 _ _ _ _⟩
 case round =>
  obtain ⟨i,x1,x0,p1,p0,r,hi,hg,rfl,rfl,HRr,HX,HQ,hd⟩:=hrel;rename World=>wr
  have HDA:=jH hd;obtain ⟨hbw,hx,hz,hq⟩:=hd;obtain ⟨c1,c2,c3⟩:=box_cells jR hx;obtain ⟨c4,c5,c6⟩:=box_cells jR hq;obtain ⟨c7,c8,c9⟩:=box_cells jR hz;have HBW:=jH hbw;have HXB:=jH hx;have HZB:=jH hz;have HQB:=jH hq;clear hbw hx hz hq
  by_cases hlt:i<128
  · have q2:(i:Int)<128:=by omega
    have hr:=HRr.out;have hxx:=HX.out;have hxl:=xD_lt n i;have hrl:=rD_lt (n:=n) (i:=i) HD.out;have hbit:=xD_bit (n:=n) hlt;obtain ⟨w1,w2,w3⟩:=dbl_words (xD n i) hxl;have hxs:=xD_succ n i;have hbl:=bD_le n i;have hd2:=HD2.out;obtain ⟨R2,hR2⟩:∃R2,R2=2 * r % 18446744073709551616:=⟨_,rfl⟩;obtain ⟨t1,ht1⟩:∃t1,t1=x1 / 9223372036854775808:=⟨_,rfl⟩;obtain ⟨r2,hr2⟩:∃r2,r2=R2+t1:=⟨_,rfl⟩;obtain ⟨X2,hX2⟩:∃X2,X2=2 * x1 % 18446744073709551616:=⟨_,rfl⟩
    obtain ⟨t0,ht0⟩:∃t0,t0=x0 / 9223372036854775808:=⟨_,rfl⟩;obtain ⟨y1,hy1⟩:∃y1,y1=X2+t0:=⟨_,rfl⟩;obtain ⟨y0,hy0⟩:∃y0,y0=2 * x0 % 18446744073709551616:=⟨_,rfl⟩;obtain ⟨o,ho⟩:∃o,o=r / 9223372036854775808:=⟨_,rfl⟩;have hx1l:x1<18446744073709551616:=by omega
    have hx0l:x0<18446744073709551616:=by omega
    have ht1b:t1=bD n i:=by rw [←hbit,←w3,ht1,hxx.1]
    have g1:IntKind.u64.wrap ((r:Int) * 2)=(R2:Int):=by rw [hR2];exact shl_one r
    have g2:(x1:Int) / 9223372036854775808=(t1:Int):=by omega
    have g3:bits .or .u64 (R2:Int) (t1:Int)=(r2:Int):=by rw [u64_or_nat _ _ (by omega) (by omega),or_bit (by omega) (by omega),hr2]
    have g4:IntKind.u64.wrap ((x1:Int) * 2)=(X2:Int):=by rw [hX2];exact shl_one x1
    have g5:(x0:Int) / 9223372036854775808=(t0:Int):=by omega
    have g6:bits .or .u64 (X2:Int) (t0:Int)=(y1:Int):=by rw [u64_or_nat _ _ (by omega) (by omega),or_bit (by omega) (by omega),hy1]
    have g7:IntKind.u64.wrap ((x0:Int) * 2)=(y0:Int):=by rw [hy0];exact shl_one x0
    have g8:(r:Int) / 9223372036854775808=(o:Int):=by omega
    have hR:2 * rD n d i+bD n i=if o=0 then r2 else 18446744073709551616+r2:=by
     rw [←ht1b,←hr]
     split <;> omega
    have HY:=jH (show y1=xD n (i+1) / 18446744073709551616∧y0=xD n (i+1) % 18446744073709551616 by
     rw [hxs,w1,w2,←hxx.1,←hxx.2];exact ⟨by rw [hy1,hX2,ht0],hy0⟩)
    by_cases hlow:2 * rD n d i+bD n i<d
    · obtain ⟨e1,e2⟩:=div_low hlt HD.out hlow
      have ho0:o=0:=by
       by_cases h:o=0
       · exact h
       · rw [if_neg h] at hR;omega
      rw [if_pos ho0] at hR;subst ho0;have HE:=jH (show r2=rD n d (i+1) by rw [e1,hR]);have HE2:=jH e2;have q3:(r2:Int)<(d:Int):=by omega
      have q4:decide ((r2:Int)<(d:Int))=true:=by simp;omega
      clear hr hxx hxl hrl hbit w1 w2 w3 hxs hbl hd2 hR2 ht1 hr2 hX2 ht0 hy1 hy0 ho hx1l hx0l ht1b hR hlow e1 e2;go_wp2
      go_roundg (128 - (i+1))
      case measure=>omega
      case rel=>exact ⟨i+1,y1,y0,p1,p0,r2,hlt,Nat.le_refl _,by go_num,rfl,HE,HY,jH ⟨by rw [HE2.out];exact HQ.out.1,by rw [HE2.out];exact HQ.out.2⟩,HDA.out.setx y1 y0⟩
    · obtain ⟨e1,e2⟩:=div_high hlt HD.out (Nat.le_of_not_lt hlow)
      obtain ⟨r3,hr3⟩:∃r3,r3=2 * rD n d i+bD n i - d:=⟨_,rfl⟩;have g9:IntKind.u64.wrap ((r2:Int) - (d:Int))=(r3:Int):=by
       rw [IntKind.wrap_u64,hr3,hR];rw [hR] at hlow
       split at hlow
       · rw [if_pos (by assumption)];omega
       · rw [if_neg (by assumption)];omega
      have hog:(o=0∧decide (r2<d)=false)∨((o:Int) == 0)=false:=by
       by_cases h:o=0
       · left
         rw [if_pos h] at hR;exact ⟨h,by simp;omega⟩
       · right
         simp;omega
      have HE:=jH (show r3=rD n d (i+1) by rw [e1,hr3]);have HE2:=jH e2;clear hr hxx hxl hrl hbit w1 w2 w3 hxs hbl hd2 hR2 ht1 hr2 hX2 ht0 hy1 hy0 ho hx1l hx0l ht1b hR hlow e1 e2 hr3
      by_cases h64:i<64
      · have q5:(i:Int)<64:=by omega
        have q6:wrap64 (63 - (i:Int))=((63 - i:Nat):Int):=by unfold wrap64;omega
        obtain ⟨g10,hpw⟩:=pow_word (k:=63 - i) (by omega);obtain ⟨P2,hP2⟩:∃P2,P2=2 ^ (63 - i):=⟨_,rfl⟩;rw [←hP2] at g10 hpw;obtain ⟨pp,hpp⟩:∃pp,pp=(p1 ||| P2):=⟨_,rfl⟩;have g11:bits .or .u64 (p1:Int) (P2:Int)=(pp:Int):=by rw [u64_or_nat _ _ (by rw [HQ.out.1];have:=qD_lt (d:=d) HN.out hi;omega) hpw,hpp]
        have HPP:=jH hpp;have HPW:=jH hP2;clear hpp hP2 hpw
        rcases hog with ⟨rfl,hog⟩|hog
        · go_wp2
          all_goals
            refine name_world ?_;intro W hW;have hD:=HDA.out.setx y1 y0;rw [←hW] at hD;have HDW:=jH hD;obtain ⟨d1,d2,d3⟩:=box_cells jR hD.2.2.2;clear hW hD
            go_region
            all_goals
              go_wp2
              go_roundg (128 - (i+1))
              case measure=>omega
              case rel=>exact ⟨i+1,y1,y0,pp,p0,r3,hlt,Nat.le_refl _,by go_num,rfl,HE,HY,jH ⟨by rw [HE2.out,(q_hi (d:=d) h64 HN.out).1,HPP.out,HQ.out.1,HPW.out],by rw [HE2.out,(q_hi (d:=d) h64 HN.out).2];exact HQ.out.2⟩,(HDW.out.setq1 pp).drew⟩
        · go_wp2
          all_goals
            refine name_world ?_;intro W hW;have hD:=HDA.out.setx y1 y0;rw [←hW] at hD;have HDW:=jH hD;obtain ⟨d1,d2,d3⟩:=box_cells jR hD.2.2.2;clear hW hD
            go_region
            all_goals
              go_wp2
              go_roundg (128 - (i+1))
              case measure=>omega
              case rel=>exact ⟨i+1,y1,y0,pp,p0,r3,hlt,Nat.le_refl _,by go_num,rfl,HE,HY,jH ⟨by rw [HE2.out,(q_hi (d:=d) h64 HN.out).1,HPP.out,HQ.out.1,HPW.out],by rw [HE2.out,(q_hi (d:=d) h64 HN.out).2];exact HQ.out.2⟩,(HDW.out.setq1 pp).drew⟩
      · have q5:¬(i:Int)<64:=by omega
        have q6:wrap64 (127 - (i:Int))=((127 - i:Nat):Int):=by unfold wrap64;omega
        obtain ⟨g10,hpw⟩:=pow_word (k:=127 - i) (by omega);obtain ⟨P2,hP2⟩:∃P2,P2=2 ^ (127 - i):=⟨_,rfl⟩;rw [←hP2] at g10 hpw;obtain ⟨pp,hpp⟩:∃pp,pp=(p0 ||| P2):=⟨_,rfl⟩;have g11:bits .or .u64 (p0:Int) (P2:Int)=(pp:Int):=by rw [u64_or_nat _ _ (by rw [HQ.out.2];omega) hpw,hpp]
        have HPP:=jH hpp;have HPW:=jH hP2;clear hpp hP2 hpw
        rcases hog with ⟨rfl,hog⟩|hog
        · go_wp2
          all_goals
            refine name_world ?_;intro W hW;have hD:=HDA.out.setx y1 y0;rw [←hW] at hD;have HDW:=jH hD;obtain ⟨d1,d2,d3⟩:=box_cells jR hD.2.2.2;clear hW hD
            go_region
            all_goals
              go_wp2
              go_roundg (128 - (i+1))
              case measure=>omega
              case rel=>exact ⟨i+1,y1,y0,p1,pp,r3,hlt,Nat.le_refl _,by go_num,rfl,HE,HY,jH ⟨by rw [HE2.out,(q_lo (d:=d) (Nat.le_of_not_lt h64) hlt).1];exact HQ.out.1,by rw [HE2.out,(q_lo (d:=d) (Nat.le_of_not_lt h64) hlt).2,HPP.out,HQ.out.2,HPW.out]⟩,(HDW.out.setq0 pp).drew⟩
        · go_wp2
          all_goals
            refine name_world ?_;intro W hW;have hD:=HDA.out.setx y1 y0;rw [←hW] at hD;have HDW:=jH hD;obtain ⟨d1,d2,d3⟩:=box_cells jR hD.2.2.2;clear hW hD
            go_region
            all_goals
              go_wp2
              go_roundg (128 - (i+1))
              case measure=>omega
              case rel=>exact ⟨i+1,y1,y0,p1,pp,r3,hlt,Nat.le_refl _,by go_num,rfl,HE,HY,jH ⟨by rw [HE2.out,(q_lo (d:=d) (Nat.le_of_not_lt h64) hlt).1];exact HQ.out.1,by rw [HE2.out,(q_lo (d:=d) (Nat.le_of_not_lt h64) hlt).2,HPP.out,HQ.out.2,HPW.out]⟩,(HDW.out.setq0 pp).drew⟩
  · obtain rfl:i=128:=by omega
    obtain ⟨e1,e2⟩:=qD_end n d;have hq1:=HQ.out;rw [e1] at hq1;have hr1:=HRr.out;rw [e2] at hr1;have HF:=jH (And.intro hq1 hr1);clear hq1 hr1 e1 e2;go_wp2
    have hz2:=setCell_block (i:=1) (v:=.int .u64 p0) (setCell_block (i:=0) (v:=.int .u64 p1) HZB.out);obtain ⟨b1,b2,b3⟩:=box_cells jR hz2;refine bodyPost_ret (v:=.tuple #[.agg #[.int .u64 p1,.int .u64 p0],.int .u64 r,.bool true]) (by simp [results,Tryz.results224,go_sem,b1]) rfl ⟨?_,(HBW.out.setCell (by simp) _).setCell (by simp) _⟩;rw [HF.out.1.1,HF.out.1.2,HF.out.2]
end
end Go.Proofs.YtkcdhaallnhhmaaGreat
