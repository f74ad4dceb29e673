/- Part 12 of the proof: WideM, NumW. -/
import Derived.Laws.ResultCell
import Derived.Laws.Rows
import Derived.Test.YtpmfcpdelkchaaaGreatL07
namespace Go.Proofs.YtpmfcpdelkchaaaGreat
set_option linter.unusedSimpArgs false
set_option linter.unusedVariables false
set_option linter.unusedSectionVars false
set_option maxRecDepth 100000
set_option maxHeartbeats 16000000
section
open Go.RowKit Go.Lib
theorem and_half (a:Nat):(a &&& 4294967295)=a % 4294967296:=Nat.and_two_pow_sub_one_eq_mod a 32
theorem or_half {m l:Nat} (hl:l<4294967296):(m * 4294967296 ||| l)=m * 4294967296+l:=by
 have:=Nat.two_pow_add_eq_or_of_lt (i:=32) (by simpa using hl) m;rw [show (2:Nat) ^ 32=4294967296 from rfl] at this;rw [Nat.mul_comm m,this]
theorem half_mul {x y:Nat} (hx:x<4294967296) (hy:y<4294967296):x * y≤18446744065119617025 :=
 Nat.le_trans (Nat.mul_le_mul (Nat.le_of_lt_succ (m:=x) (n:=4294967295) (by omega)) (Nat.le_of_lt_succ (m:=y) (n:=4294967295) (by omega))) (by decide)
theorem mul_halves {a b a0 a1 b0 b1 p q r s:Nat} (ha:a=4294967296 * a1+a0) (hb:b=4294967296 * b1+b0) (hp:p=a1 * b1) (hq:q=a1 * b0) (hr:r=a0 * b1) (hs:s=a0 * b0) :
 a * b=18446744073709551616 * p+4294967296 * q+4294967296 * r+s:=by
 subst ha hb hp hq hr hs;rw [Nat.add_mul,Nat.mul_add,Nat.mul_add,Nat.mul_mul_mul_comm,Nat.mul_assoc 4294967296 a1 b0,Nat.mul_left_comm a0 4294967296 b1];omega
theorem wideMul_any (a b:Nat) (ha:a<18446744073709551616) (hb:b<18446744073709551616) (w:World) :
 Calls Tryz.prog 240 #[.int .u64 a,.int .u64 b] w (jP w (twoV (a * b))):=by
 obtain ⟨a0,ha0⟩:∃a0,a0=a % 4294967296:=⟨_,rfl⟩;obtain ⟨a1,ha1⟩:∃a1,a1=a / 4294967296:=⟨_,rfl⟩;obtain ⟨b0,hb0⟩:∃b0,b0=b % 4294967296:=⟨_,rfl⟩;obtain ⟨b1,hb1⟩:∃b1,b1=b / 4294967296:=⟨_,rfl⟩;obtain ⟨p,hp⟩:∃p,p=a1 * b1:=⟨_,rfl⟩;obtain ⟨q,hq⟩:∃q,q=a1 * b0:=⟨_,rfl⟩;obtain ⟨r,hr⟩:∃r,r=a0 * b1:=⟨_,rfl⟩;obtain ⟨s,hs⟩:∃s,s=a0 * b0:=⟨_,rfl⟩;have lp:p≤18446744065119617025:=hp ▸ half_mul (by omega) (by omega)
 have lq:q≤18446744065119617025:=hq ▸ half_mul (by omega) (by omega);have lr:r≤18446744065119617025:=hr ▸ half_mul (by omega) (by omega);have ls:s≤18446744065119617025:=hs ▸ half_mul (by omega) (by omega);have hm:=mul_halves (a:=a) (b:=b) (a0:=a0) (a1:=a1) (b0:=b0) (b1:=b1) (by omega) (by omega) hp hq hr hs;obtain ⟨s1,hs1⟩:∃s1,s1=s / 4294967296:=⟨_,rfl⟩;obtain ⟨s0,hs0⟩:∃s0,s0=s % 4294967296:=⟨_,rfl⟩
 obtain ⟨m1,hm1⟩:∃m1,m1=q+s1:=⟨_,rfl⟩;obtain ⟨o,ho⟩:∃o,o=m1 / 4294967296:=⟨_,rfl⟩;obtain ⟨m0,hm0⟩:∃m0,m0=m1 % 4294967296:=⟨_,rfl⟩;obtain ⟨m2,hm2⟩:∃m2,m2=m0+r:=⟨_,rfl⟩;obtain ⟨t,ht⟩:∃t,t=m2 / 4294967296:=⟨_,rfl⟩;obtain ⟨u,hu⟩:∃u,u=m2 * 4294967296 % 18446744073709551616:=⟨_,rfl⟩;obtain ⟨po,hpo⟩:∃po,po=p+o:=⟨_,rfl⟩;obtain ⟨hi,hhi⟩:∃hi,hi=po+t:=⟨_,rfl⟩;obtain ⟨lo,hlo⟩:∃lo,lo=u+s0:=⟨_,rfl⟩;have HE:=jH (show hi=a * b / 18446744073709551616∧lo=a * b % 18446744073709551616 by omega)
 have pa:p<18446744073709551616:=by omega
 have hpo2:po<18446744073709551616:=by omega
 have hhi2:hi<18446744073709551616:=by omega
 have g1:bits .and .u64 (a:Int) 4294967295=(a0:Int):=by rw [ha0,←and_half];exact u64_and_nat a 4294967295 ha (by omega)
 have g2:(a:Int) / 4294967296=(a1:Int):=by omega
 have g3:bits .and .u64 (b:Int) 4294967295=(b0:Int):=by rw [hb0,←and_half];exact u64_and_nat b 4294967295 hb (by omega)
 have g4:(b:Int) / 4294967296=(b1:Int):=by omega
 have g5:IntKind.u64.wrap ((a0:Int) * (b0:Int))=(s:Int):=by rw [←Int.natCast_mul,←hs];exact u64_wrap s (by omega)
 have g6:IntKind.u64.wrap ((a1:Int) * (b0:Int))=(q:Int):=by rw [←Int.natCast_mul,←hq];exact u64_wrap q (by omega)
 have g7:(s:Int) / 4294967296=(s1:Int):=by omega
 have g8:IntKind.u64.wrap ((q:Int)+(s1:Int))=(m1:Int):=by rw [←Int.natCast_add,←hm1];exact u64_wrap m1 (by omega)
 have g9:(m1:Int) / 4294967296=(o:Int):=by omega
 have g10:bits .and .u64 (m1:Int) 4294967295=(m0:Int):=by rw [hm0,←and_half];exact u64_and_nat m1 4294967295 (by omega) (by omega)
 have g11:IntKind.u64.wrap ((a0:Int) * (b1:Int))=(r:Int):=by rw [←Int.natCast_mul,←hr];exact u64_wrap r (by omega)
 have g12:IntKind.u64.wrap ((m0:Int)+(r:Int))=(m2:Int):=by rw [←Int.natCast_add,←hm2];exact u64_wrap m2 (by omega)
 have g13:IntKind.u64.wrap ((a1:Int) * (b1:Int))=(p:Int):=by rw [←Int.natCast_mul,←hp];exact u64_wrap p pa
 have g14:IntKind.u64.wrap ((p:Int)+(o:Int))=(po:Int):=by rw [←Int.natCast_add,←hpo];exact u64_wrap po hpo2
 have g15:(m2:Int) / 4294967296=(t:Int):=by omega
 have g16:IntKind.u64.wrap ((po:Int)+(t:Int))=(hi:Int):=by rw [←Int.natCast_add,←hhi];exact u64_wrap hi hhi2
 have g17:IntKind.u64.wrap ((m2:Int) * 4294967296)=(u:Int):=by rw [IntKind.wrap_u64];omega
 have g18:bits .and .u64 (s:Int) 4294967295=(s0:Int):=by rw [hs0,←and_half];exact u64_and_nat s 4294967295 (by omega) (by omega)
 have g19:bits .or .u64 (u:Int) (s0:Int)=(lo:Int):=by
  rw [u64_or_nat _ _ (by omega) (by omega)];have:u=(m2 % 4294967296) * 4294967296:=by omega
  rw [this,or_half (by omega),hlo,this]
 clear ha0 ha1 hb0 hb1 hp hq hr hs lp lq lr ls hm hs1 hs0 hm1 ho hm0 hm2 ht hu hpo hhi hlo pa hpo2 hhi2 ha hb;unfold twoV;rw [←HE.out.1,←HE.out.2];clear HE
 go_enter Tryz.func240,Tryz.ntmps240
 go_wp2
 refine bodyPost_ret (v:=.agg #[.int .u64 hi,.int .u64 lo]) (by simp [results,Tryz.results240,go_sem]) rfl ⟨rfl,balloc jR _⟩
theorem cmp_words (m n:Nat) (hm:m<340282366920938463463374607431768211456) (hn:n<340282366920938463463374607431768211456) :
 cmpN m n=if m / 18446744073709551616=n / 18446744073709551616∧m % 18446744073709551616=n % 18446744073709551616 then 0
   else if m / 18446744073709551616<n / 18446744073709551616∨m / 18446744073709551616=n / 18446744073709551616∧m % 18446744073709551616<n % 18446744073709551616 then -1 else 1:=by
 unfold cmpN
 repeat' split
 all_goals omega
theorem wideCmp_any (m n:Nat) (hm:m<340282366920938463463374607431768211456) (hn:n<340282366920938463463374607431768211456) (w:World) :
 Calls Tryz.prog 272 #[twoV m,twoV n] w (jP w (.int .i64 (cmpN m n))):=by
 rw [cmp_words m n hm hn];unfold twoV;generalize m / 18446744073709551616=a;generalize m % 18446744073709551616=b;generalize n / 18446744073709551616=c;generalize n % 18446744073709551616=d;clear hm hn
 by_cases h1:a=c
 · subst h1
   by_cases h2:b=d
   · subst h2
     rw [if_pos ⟨rfl,rfl⟩]
     go_enter Tryz.func272,Tryz.ntmps272
     go_wp2
     go_ret
     exact ⟨rfl,by repeat (first|exact jR|refine balloc ?_ _|refine below_drewN ?_ _|refine Below.drew ?_)⟩
   · have q1:((b:Int) == (d:Int))=false:=by simp;omega
     have q2:decide (b=d)=false:=by simp;omega
     by_cases h3:b<d
     · rw [if_neg (by omega),if_pos (by omega)]
       have q3:(b:Int)<(d:Int):=by omega
       go_enter Tryz.func272,Tryz.ntmps272
       go_wp2
       all_goals
         go_ret
         exact ⟨rfl,by repeat (first|exact jR|refine balloc ?_ _|refine below_drewN ?_ _|refine Below.drew ?_)⟩
     · rw [if_neg (by omega),if_neg (by omega)]
       have q3:¬(b:Int)<(d:Int):=by omega
       have q4:decide (b<d)=false:=by simp;omega
       go_enter Tryz.func272,Tryz.ntmps272
       go_wp2
       all_goals
         go_ret
         exact ⟨rfl,by repeat (first|exact jR|refine balloc ?_ _|refine below_drewN ?_ _|refine Below.drew ?_)⟩
 · have q1:((a:Int) == (c:Int))=false:=by simp;omega
   have q2:decide (a=c)=false:=by simp;omega
   by_cases h3:a<c
   · rw [if_neg (by omega),if_pos (by omega)]
     have q3:(a:Int)<(c:Int):=by omega
     go_enter Tryz.func272,Tryz.ntmps272
     go_wp2
     all_goals
       go_ret
       exact ⟨rfl,by repeat (first|exact jR|refine balloc ?_ _|refine below_drewN ?_ _|refine Below.drew ?_)⟩
   · rw [if_neg (by omega),if_neg (by omega)]
     have q3:¬(a:Int)<(c:Int):=by omega
     have q4:decide (a<c)=false:=by simp;omega
     go_enter Tryz.func272,Tryz.ntmps272
     go_wp2
     all_goals
       go_ret
       exact ⟨rfl,by repeat (first|exact jR|refine balloc ?_ _|refine below_drewN ?_ _|refine Below.drew ?_)⟩
end
section
open Go.RowKit Go.Lib
theorem testBit_dbl (n i:Nat):(2 * n).testBit (i+1)=n.testBit i:=by
 rw [Nat.testBit_succ]
 congr 1
 omega
theorem testBit_dbl0 (n:Nat):(2 * n).testBit 0=false:=by
 rw [Nat.testBit_zero];simp
theorem results_row_tmp {fn:Func} {p u:Tmp} {ty:TypeId} (h:fn.results=#[.cell p ty,.tmp u]) {tmps:Array Value} {w:World} {g:Nat} {v:Value} (hp:tmps.getD p undef=.pointer (some ⟨g,0,none⟩)) (hl:(loadVar ty ⟨g,0,none⟩).run Tryz.prog w=.ok v w) :
 (results fn tmps).run Tryz.prog w=.ok (.tuple #[v,tmps.getD u undef]) w:=by
 rw [results_cell_tmp h,hp];simp [asAddr,hl,Result.andThen]
theorem numV_ext {f:Nat→Bool} {n:Nat} (h:∀j,j<128→f j=n.testBit j):Value.agg (bitsL f).toArray=numV n:=by
 unfold numV;rw [bitsL_ext h]
theorem box4_3 (w:World) (a b c d:Obj):((((w.alloc a).alloc b).alloc c).alloc d).heap[w.heap.size+1+1+1]?=some d:=by
 have h:=heap_alloc_new (((w.alloc a).alloc b).alloc c) d
 simpa using h
theorem num2_any (n:Nat) (w:World) :
 Calls Tryz.prog 288 #[numV n] w (jP w (numV (2 * n))):=by
 unfold numV
 go_enter Tryz.func288,Tryz.ntmps288
 go_wp2_with fail
 rw [zero_bits]
 go_loopg [4] 127 (fun g s4 wr=>∃(i:Nat) (f:Nat→Bool),i<128∧127 - i≤g∧s4=.int .i64 (i+1:Nat)∧Hid (∀j,j<128→f j=(decide (j≤i) && (2 * n).testBit j))∧jB w wr∧BitB wr w.heap.size n.testBit∧BitB wr (w.heap.size+1) (fun _=>false)∧BitB wr (w.heap.size+1+1) f)
 case atStart=>exact ⟨0,fun _=>false,by omega,Nat.le_refl _,rfl,jH (fun j hj=>by
                  cases j with
                  | zero=>simp [testBit_dbl0]
                  | succ j=>simp),balloc (balloc (balloc jR _) _) _,box3_0 _ _ _ _,box3_1 _ _ _ _,box3_2 _ _ _ _⟩
 case round =>
  obtain ⟨i,f,hi,hg,rfl,HF,hb,hx,hz,hq⟩:=hrel;rename World=>wr
  have HB:=jH hb;have HX:=jH hx;have HZ:=jH hz;have HQ:=jH hq;clear hb hz
  by_cases hlt:i+1<128
  · obtain ⟨c1,c2⟩:=hx.cell (i:=i) (by omega)
    obtain ⟨c3,c4⟩:=hq.cell hlt;have HL:=jH hlt;clear hx hq;have z1:((i+1:Nat):Int)<128:=by omega
    have z2:wrap64 (((i+1:Nat):Int) - 1)=(i:Int):=by unfold wrap64;omega
    have z3:(i:Int)<128:=by omega
    have z4:(0:Int)≤(i:Int):=by omega
    have z5:(0:Int)≤((i+1:Nat):Int):=by omega
    go_wp2_with fail
    go_roundg (127 - (i+1))
    case measure=>omega
    case rel=>exact ⟨i+1,updB f (i+1) (n.testBit i),HL.out,Nat.le_refl _,by go_num,jH (fun j hj=>by
                 unfold updB
                 by_cases e:j=i+1
                 · subst e;simp [testBit_dbl]
                 · rw [if_neg e,HF.out j hj]
                   congr 1
                   rw [decide_eq_decide];omega),HB.out.setCell (by simp;omega) _,HX.out.ne (by omega),HZ.out.ne (by omega),HQ.out.set HL.out _⟩
  · obtain rfl:i=127:=by omega
    clear hx hq
    go_wp2_with (first
     | (refine wpList_load_list rfl 326 (.tmp 3) rfl (w.heap.size+1+1) 0 (bitsL f) HQ.out.range (by rfl) _ Tryz.underlying326 (by rfl) (num_size f) ?_)
     | (refine wpList_store_mid rfl 326 (.tmp 2) (.tmp 17) rfl (w.heap.size+1) 0 (bitsL f).toArray (by rfl) (by rfl) (HZ.out.there f) (num_sizeA f) (bits_one f) ?_))
    obtain ⟨hs1,_,hs3⟩:=HZ.out.store f;refine bodyPost_ret (v:=.agg (bitsL f).toArray) (results_cell_row Tryz.results288 _ _ _ _ _ _ _ (by rfl) hs1 Tryz.underlying326 rfl (num_sizeA f)) rfl ⟨?_,HB.out.trans (hs3 _ (by omega))⟩;rw [numV_ext (fun j hj=>by rw [HF.out j hj,decide_eq_true (by omega),Bool.true_and])];rfl
def ofF (hi lo i j:Nat):Bool:=if j<64 then decide (j<i) && lo.testBit j else decide (j<64+i) && hi.testBit (j - 64)
theorem of_end {hi lo:Nat} (hl:lo<18446744073709551616) {j:Nat} (hj:j<128):ofF hi lo 64 j=(hi * 18446744073709551616+lo).testBit j:=by
 unfold ofF;have e:(18446744073709551616:Nat)=2 ^ 64:=by decide
 rw [e] at hl ⊢;rw [Nat.mul_comm,Nat.testBit_two_pow_mul_add _ hl]
 by_cases h:j<64
 · rw [if_pos h,if_pos h,decide_eq_true h,Bool.true_and]
 · rw [if_neg h,if_neg h,decide_eq_true (by omega),Bool.true_and]
theorem shr_bit (x i:Nat) (hx:x<18446744073709551616) (hi:i<64):((((x:Int) / 2 ^ i).tmod 2 == 1)=x.testBit i):=by
 rw [Nat.testBit_eq_decide_div_mod_eq];have e:((x:Int) / 2 ^ i).tmod 2=((x / 2 ^ i % 2:Nat):Int):=by
  have e1:(x:Int) / 2 ^ i=((x / 2 ^ i:Nat):Int):=by rw [Int.natCast_ediv,Int.natCast_pow];rfl
  rw [e1];rfl
 rw [e];generalize x / 2 ^ i % 2=m;rw [Bool.eq_iff_iff];simp
 omega
theorem numOf_any (hi lo:Nat) (hh:hi<18446744073709551616) (hl:lo<18446744073709551616) (w:World) :
 Calls Tryz.prog 287 #[.int .u64 hi,.int .u64 lo] w (jP w (numV (hi * 18446744073709551616+lo))):=by
 have HH:=jH hh;have HLo:=jH hl;clear hh hl
 go_enter Tryz.func287,Tryz.ntmps287
 go_wp2_with fail
 rw [zero_bits]
 go_loopg [6] 64 (fun g s6 wr=>∃(i:Nat) (f:Nat→Bool),i≤64∧64 - i≤g∧s6=.int .i64 i∧Hid (∀j,j<128→f j=ofF hi lo i j)∧jB w wr∧BitB wr w.heap.size (fun _=>false)∧BitB wr (w.heap.size+1) f)
 case atStart=>exact ⟨0,fun _=>false,by omega,Nat.le_refl _,rfl,jH (fun j hj=>by unfold ofF;split <;> simp;omega),balloc (balloc jR _) _,box_old _ _ _,box_new _ _ _⟩
 case round =>
  obtain ⟨i,f,hi2,hg,rfl,HF,hb,hz,hq⟩:=hrel;rename World=>wr
  have HB:=jH hb;have HZ:=jH hz;have HQ:=jH hq;clear hb hz
  by_cases hlt:i<64
  · obtain ⟨c3,c4⟩:=hq.cell (i:=i) (by omega)
    obtain ⟨c5,c6⟩:=hq.cell (i:=64+i) (by omega);have HL:=jH hlt;clear hq;have z1:(i:Int)<64:=by omega
    have z2:wrap64 (64+(i:Int))=((64+i:Nat):Int):=by unfold wrap64;omega
    have z3:((64+i:Nat):Int)<128:=by omega
    have z4:(0:Int)≤(i:Int):=by omega
    have z5:(0:Int)≤((64+i:Nat):Int):=by omega
    have z6:(i:Int)<128:=by omega
    have z7:IntKind.u64.wrap (i:Int)=(i:Int):=u64_wrap i (by omega);have g1:=shr_bit lo i HLo.out hlt;have g2:=shr_bit hi i HH.out hlt;go_wp2_with fail
    go_roundg (64 - (i+1))
    case measure=>omega
    case rel=>exact ⟨i+1,updB (updB f i (lo.testBit i)) (64+i) (hi.testBit i),HL.out,Nat.le_refl _,by go_num,jH (fun j hj=>by
                 have hL:=HL.out;unfold updB
                 by_cases e:j=64+i
                 · subst e
                   rw [if_pos rfl];unfold ofF;rw [if_neg (by omega),decide_eq_true (by omega),Bool.true_and]
                   congr 1
                   omega
                 · rw [if_neg e]
                   by_cases e2:j=i
                   · subst e2
                     rw [if_pos rfl];unfold ofF;rw [if_pos hL,decide_eq_true (by omega),Bool.true_and]
                   · rw [if_neg e2,HF.out j hj]
                     unfold ofF
                     split
                     · congr 1
                       rw [decide_eq_decide];omega
                     · congr 1
                       rw [decide_eq_decide];omega),(HB.out.setCell (by simp) _).setCell (by simp) _,(HZ.out.ne (by omega)).ne (by omega),(HQ.out.set (by have:=HL.out;omega) _).set (by have:=HL.out;omega) _⟩
  · obtain rfl:i=64:=by omega
    clear hq
    go_wp2_with (first
     | (refine wpList_load_list rfl 326 (.tmp 5) rfl (w.heap.size+1) 0 (bitsL f) HQ.out.range (by rfl) _ Tryz.underlying326 (by rfl) (num_size f) ?_)
     | (refine wpList_store_mid rfl 326 (.tmp 4) (.tmp 30) rfl (w.heap.size) 0 (bitsL f).toArray (by rfl) (by rfl) (HZ.out.there f) (num_sizeA f) (bits_one f) ?_))
    obtain ⟨hs1,_,hs3⟩:=HZ.out.store f;refine bodyPost_ret (v:=.agg (bitsL f).toArray) (results_cell_row Tryz.results287 _ _ _ _ _ _ _ (by rfl) hs1 Tryz.underlying326 rfl (num_sizeA f)) rfl ⟨?_,HB.out.trans (hs3 _ (Nat.le_refl _))⟩;rw [numV_ext (fun j hj=>(HF.out j hj).trans (of_end HLo.out hj))]
theorem numAdd_any (a b:Nat) (ha:a<340282366920938463463374607431768211456) (hb2:b<340282366920938463463374607431768211456) (hs:a+b<340282366920938463463374607431768211456) (w:World) :
 Calls Tryz.prog 268 #[numV a,numV b] w (jP w (.tuple #[numV (a+b),.bool true])):=by
 unfold numV;have HC0:=jH (show carN a b 128=0 by rw [carN_end a b 128 (by rw [←pow128];exact ha) (by rw [←pow128];exact hb2),←pow128];exact Nat.div_eq_of_lt hs);clear ha hb2 hs
 go_enter Tryz.func268,Tryz.ntmps268
 go_wp2_with fail
 rw [zero_bits]
 go_loopg [7,8] 128 (fun g s7 s8 wr=>∃(i:Nat) (f:Nat→Bool),i≤128∧128 - i≤g∧s8=.int .i64 i∧s7=.int .i64 (carN a b i:Nat)∧Hid (∀j,j<128→f j=(decide (j<i) && (a+b).testBit j))∧jB w wr∧BitB wr w.heap.size a.testBit∧BitB wr (w.heap.size+1) b.testBit∧BitB wr (w.heap.size+1+1) (fun _=>false)∧BitB wr (w.heap.size+1+1+1) f)
 case atStart=>exact ⟨0,fun _=>false,by omega,Nat.le_refl _,rfl,by rw [carN_zero];rfl,jH (fun j hj=>by simp),balloc (balloc (balloc (balloc jR _) _) _) _,BitB.below (box3_0 _ _ _ _) (balloc jR _),BitB.below (box3_1 _ _ _ _) (balloc jR _),BitB.below (box3_2 _ _ _ _) (balloc jR _),box4_3 _ _ _ _ _⟩
 case round =>
  obtain ⟨i,f,hi2,hg,rfl,rfl,HF,hb,hx,hy,hz,hq⟩:=hrel;rename World=>wr
  have HB:=jH hb;have HX:=jH hx;have HY:=jH hy;have HZ:=jH hz;have HQ:=jH hq;clear hb hz
  by_cases hlt:i<128
  · obtain ⟨c1,c2⟩:=hx.cell hlt
    obtain ⟨c3,c4⟩:=hy.cell hlt;obtain ⟨c5,c6⟩:=hq.cell hlt;have HL:=jH hlt;clear hx hy hq;have z1:(i:Int)<128:=by omega
    have z4:(0:Int)≤(i:Int):=by omega
    have hcs:=carN_succ a b i;have hsb:=sum_bit a b i;have hcl:=carN_le a b i;obtain ⟨cc,hcc⟩:∃cc,cc=carN a b i:=⟨_,rfl⟩;obtain ⟨cn,hcn⟩:∃cn,cn=carN a b (i+1):=⟨_,rfl⟩;obtain ⟨sb,hsb2⟩:∃sb,sb=(a+b).testBit i:=⟨_,rfl⟩;rw [←hcc] at hcs hsb hcl ⊢;rw [←hcn] at hcs;rw [←hsb2] at hsb;have HCN:=jH hcn;have HSB:=jH hsb2;clear hcc hcn hsb2;have REL:Hid (∀(q:Bool),q=sb→(∀j,j<128→updB f i q j=(decide (j<i+1) && (a+b).testBit j))):=jH (fun q hq j hj=>by
     unfold updB
     by_cases e:j=i
     · subst e;rw [if_pos rfl,hq,HSB.out];simp
     · rw [if_neg e,HF.out j hj]
       congr 1
       rw [decide_eq_decide];omega)
    cases hA:a.testBit i <;> cases hB:b.testBit i
    all_goals
      rw [hA] at c1 hcs hsb;rw [hB] at c3 hcs hsb;simp only [Bool.toNat_false,Bool.toNat_true,Nat.add_zero] at hcs hsb
      have HN:=jH (And.intro hcs hsb);have HCL:=jH hcl;clear hcs hsb hcl hA hB
      as_aux_lemma =>
      go_wp2_with fail
      go_roundg (128 - (i+1))
      case measure=>omega
      case rel=>exact ⟨i+1,updB f i _,HL.out,Nat.le_refl _,by go_num,by
                   rw [←HCN.out,HN.out.1];obtain rfl|rfl:cc=0∨cc=1:=by have:=HCL.out;omega
                   all_goals exact congrArg (Value.int .i64) (by decide +kernel),jH (REL.out _ (by
                   rw [HN.out.2];obtain rfl|rfl:cc=0∨cc=1:=by have:=HCL.out;omega
                   all_goals decide +kernel)),HB.out.setCell (by simp;omega) _,HX.out.ne (by omega),HY.out.ne (by omega),HZ.out.ne (by omega),HQ.out.set HL.out _⟩
  · obtain rfl:i=128:=by omega
    rw [HC0.out];clear hx hy hq
    go_wp2_with (first
     | (refine wpList_load_list rfl 326 (.tmp 6) rfl (w.heap.size+1+1+1) 0 (bitsL f) HQ.out.range (by rfl) _ Tryz.underlying326 (by rfl) (num_size f) ?_)
     | (refine wpList_store_mid rfl 326 (.tmp 4) (.tmp 38) rfl (w.heap.size+1+1) 0 (bitsL f).toArray (by rfl) (by rfl) (HZ.out.there f) (num_sizeA f) (bits_one f) ?_))
    obtain ⟨hs1,_,hs3⟩:=HZ.out.store f;have hld:=hs1.load;refine bodyPost_ret (v:=.tuple #[.agg (bitsL f).toArray,.bool true]) (results_row_tmp Tryz.results268 (by rfl) hld) rfl ⟨?_,HB.out.trans (hs3 _ (by omega))⟩;rw [numV_ext (fun j hj=>(HF.out j hj).trans (by rw [decide_eq_true hj,Bool.true_and]))];rfl
theorem numCmp_any (a b:Nat) (ha:a<340282366920938463463374607431768211456) (hb2:b<340282366920938463463374607431768211456) (w:World) :
 Calls Tryz.prog 265 #[numV a,numV b] w (jP w (.int .i64 (cmpN a b))):=by
 unfold numV;have HAB:=jH (show a / 2 ^ 128=b / 2 ^ 128 by rw [←pow128,Nat.div_eq_of_lt ha,Nat.div_eq_of_lt hb2]);clear ha hb2
 go_enter Tryz.func265,Tryz.ntmps265
 go_wp2_with fail
 go_loopg [5] 128 (fun g s5 wr=>∃(i:Nat),i≤128∧i≤g∧s5=.int .i64 ((i:Int) - 1)∧Hid (a / 2 ^ i=b / 2 ^ i)∧jB w wr∧BitB wr w.heap.size a.testBit∧BitB wr (w.heap.size+1) b.testBit)
 case atStart=>exact ⟨128,Nat.le_refl _,Nat.le_refl _,rfl,HAB,balloc (balloc jR _) _,box_old _ _ _,box_new _ _ _⟩
 case round =>
  obtain ⟨i,hi2,hg,rfl,HE,hb,hx,hy⟩:=hrel;rename World=>wr
  have HB:=jH hb;have HX:=jH hx;have HY:=jH hy;clear hb
  cases i with
  | zero =>
    have HC:=jH (show cmpN a b=0 by
     have:=HE.out;simp at this
     simp [cmpN,this])
    clear hx hy;go_wp2_with fail
    go_ret
    exact ⟨by rw [HC.out];rfl,HB.out⟩
  | succ i =>
    obtain ⟨c1,c2⟩:=hx.cell (i:=i) (by omega);obtain ⟨c3,c4⟩:=hy.cell (i:=i) (by omega);have z0:(((i+1:Nat):Int) - 1)=(i:Int):=by omega
    rw [z0];have z1:(i:Int)<128:=by omega
    have z4:(0:Int)≤(i:Int):=by omega
    have HI:=jH hi2;clear hx hy z0
    by_cases hd:a.testBit i=b.testBit i
    · have HN:=jH (cmpN_next HE.out hd)
      rw [←hd] at c3;generalize a.testBit i=q at c1 c3;clear hd
      as_aux_lemma =>
      cases q
      all_goals
        go_upto_region 4 with fail
        go_region
        all_goals
          go_wp2_with fail
          go_roundg i
          case measure=>omega
          case rel=>exact ⟨i,by have:=HI.out;omega,Nat.le_refl _,by go_num,HN,HB.out.drew,HX.out,HY.out⟩
    · have HC:=jH (cmpN_bit HE.out hd)
      cases hA:a.testBit i <;> cases hB:b.testBit i
      · rw [hA,hB] at hd;exact absurd rfl hd
      · rw [hA] at c1
        rw [hB] at c3;rw [hA] at HC;clear hd hA hB
        as_aux_lemma =>
        go_upto_region 4 with fail
        go_region
        all_goals
          go_wp2_with fail
          go_ret
          exact ⟨by rw [HC.out];rfl,HB.out.drew⟩
      · rw [hA] at c1
        rw [hB] at c3;rw [hA] at HC;clear hd hA hB
        as_aux_lemma =>
        go_upto_region 4 with fail
        go_region
        all_goals
          go_wp2_with fail
          go_ret
          exact ⟨by rw [HC.out];rfl,HB.out.drew⟩
      · rw [hA,hB] at hd;exact absurd rfl hd
end
end Go.Proofs.YtpmfcpdelkchaaaGreat
