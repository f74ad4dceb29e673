/- Part 30 of the proof: NumW, NumX. -/
import Derived.Laws.ResultCell
import Derived.Laws.Rows
import Derived.Test.YtkcdhaallnhhmaaGreatQ16
namespace Go.Proofs.YtkcdhaallnhhmaaGreat
set_option linter.unusedSimpArgs false
set_option linter.unusedVariables false
set_option linter.unusedSectionVars false
set_option maxRecDepth 100000
set_option maxHeartbeats 16000000
section
open Go.RowKit Go.Lib
theorem testBit_dbl (n i:Nat):(2 * n).testBit (i+1)=n.testBit i:=by
 rw [Nat.testBit_succ]
 congr 1
 omega
theorem testBit_dbl0 (n:Nat):(2 * n).testBit 0=false:=by
 rw [Nat.testBit_zero];simp
theorem results_row_tmp {fn:Func} {p u:Tmp} {ty:TypeId} (h:fn.results=#[.cell p ty,.tmp u]) {tmps:Array Value} {w:World} {g:Nat} {v:Value} (hp:tmps.getD p undef=.pointer (some ⟨g,0,none⟩)) (hl:(loadVar ty ⟨g,0,none⟩).run Tryz.prog w=.ok v w) :
 (results fn tmps).run Tryz.prog w=.ok (.tuple #[v,tmps.getD u undef]) w:=by
 rw [results_cell_tmp h,hp];simp [asAddr,hl,Result.andThen]
theorem numV_ext {f:Nat→Bool} {n:Nat} (h:∀j,j<128→f j=n.testBit j):Value.agg (bitsL f).toArray=numV n:=by
 unfold numV;rw [bitsL_ext h]
theorem box4_3 (w:World) (a b c d:Obj):((((w.alloc a).alloc b).alloc c).alloc d).heap[w.heap.size+1+1+1]?=some d:=by
 have h:=heap_alloc_new (((w.alloc a).alloc b).alloc c) d
 simpa using h
theorem num2_any (n:Nat) (w:World) :
 Calls Tryz.prog 230 #[numV n] w (jP w (numV (2 * n))):=by
 unfold numV
 go_enter Tryz.func230,Tryz.ntmps230
 go_wp2_with fail
 rw [zero_bits]
 go_loopg [4] 127 (fun g s4 wr=>∃(i:Nat) (f:Nat→Bool),i<128∧127 - i≤g∧s4=.int .i64 (i+1:Nat)∧Hid (∀j,j<128→f j=(decide (j≤i) && (2 * n).testBit j))∧jB w wr∧BitB wr w.heap.size n.testBit∧BitB wr (w.heap.size+1) (fun _=>false)∧BitB wr (w.heap.size+1+1) f)
 case atStart=>exact ⟨0,fun _=>false,by omega,Nat.le_refl _,rfl,jH (fun j hj=>by
                  cases j with
                  | zero=>simp [testBit_dbl0]
                  | succ j=>simp),balloc (balloc (balloc jR _) _) _,box3_0 _ _ _ _,box3_1 _ _ _ _,box3_2 _ _ _ _⟩
 case round =>
  obtain ⟨i,f,hi,hg,rfl,HF,hb,hx,hz,hq⟩:=hrel;rename World=>wr
  have HB:=jH hb;have HX:=jH hx;have HZ:=jH hz;have HQ:=jH hq;clear hb hz
  by_cases hlt:i+1<128
  · obtain ⟨c1,c2⟩:=hx.cell (i:=i) (by omega)
    obtain ⟨c3,c4⟩:=hq.cell hlt;have HL:=jH hlt;clear hx hq;have z1:((i+1:Nat):Int)<128:=by omega
    have z2:wrap64 (((i+1:Nat):Int) - 1)=(i:Int):=by unfold wrap64;omega
    have z3:(i:Int)<128:=by omega
    have z4:(0:Int)≤(i:Int):=by omega
    have z5:(0:Int)≤((i+1:Nat):Int):=by omega
    go_wp2_with fail
    go_roundg (127 - (i+1))
    case measure=>omega
    case rel=>exact ⟨i+1,updB f (i+1) (n.testBit i),HL.out,Nat.le_refl _,by go_num,jH (fun j hj=>by
                 unfold updB
                 by_cases e:j=i+1
                 · subst e;simp [testBit_dbl]
                 · rw [if_neg e,HF.out j hj]
                   congr 1
                   rw [decide_eq_decide];omega),HB.out.setCell (by simp;omega) _,HX.out.ne (by omega),HZ.out.ne (by omega),HQ.out.set HL.out _⟩
  · obtain rfl:i=127:=by omega
    clear hx hq
    go_wp2_with (first
     | (refine wpList_load_list rfl 280 (.tmp 3) rfl (w.heap.size+1+1) 0 (bitsL f) HQ.out.range (by rfl) _ Tryz.underlying280 (by rfl) (num_size f) ?_)
     | (refine wpList_store_mid rfl 280 (.tmp 2) (.tmp 17) rfl (w.heap.size+1) 0 (bitsL f).toArray (by rfl) (by rfl) (HZ.out.there f) (num_sizeA f) (bits_one f) ?_))
    obtain ⟨hs1,_,hs3⟩:=HZ.out.store f;refine bodyPost_ret (v:=.agg (bitsL f).toArray) (results_cell_row Tryz.results230 _ _ _ _ _ _ _ (by rfl) hs1 Tryz.underlying280 rfl (num_sizeA f)) rfl ⟨?_,HB.out.trans (hs3 _ (by omega))⟩;rw [numV_ext (fun j hj=>by rw [HF.out j hj,decide_eq_true (by omega),Bool.true_and])];rfl
def ofF (hi lo i j:Nat):Bool:=if j<64 then decide (j<i) && lo.testBit j else decide (j<64+i) && hi.testBit (j - 64)
theorem of_end {hi lo:Nat} (hl:lo<18446744073709551616) {j:Nat} (hj:j<128):ofF hi lo 64 j=(hi * 18446744073709551616+lo).testBit j:=by
 unfold ofF;have e:(18446744073709551616:Nat)=2 ^ 64:=by decide
 rw [e] at hl ⊢;rw [Nat.mul_comm,Nat.testBit_two_pow_mul_add _ hl]
 by_cases h:j<64
 · rw [if_pos h,if_pos h,decide_eq_true h,Bool.true_and]
 · rw [if_neg h,if_neg h,decide_eq_true (by omega),Bool.true_and]
theorem shr_bit (x i:Nat) (hx:x<18446744073709551616) (hi:i<64):((((x:Int) / 2 ^ i).tmod 2 == 1)=x.testBit i):=by
 rw [Nat.testBit_eq_decide_div_mod_eq];have e:((x:Int) / 2 ^ i).tmod 2=((x / 2 ^ i % 2:Nat):Int):=by
  have e1:(x:Int) / 2 ^ i=((x / 2 ^ i:Nat):Int):=by rw [Int.natCast_ediv,Int.natCast_pow];rfl
  rw [e1];rfl
 rw [e];generalize x / 2 ^ i % 2=m;rw [Bool.eq_iff_iff];simp
 omega
theorem numOf_any (hi lo:Nat) (hh:hi<18446744073709551616) (hl:lo<18446744073709551616) (w:World) :
 Calls Tryz.prog 229 #[.int .u64 hi,.int .u64 lo] w (jP w (numV (hi * 18446744073709551616+lo))):=by
 have HH:=jH hh;have HLo:=jH hl;clear hh hl
 go_enter Tryz.func229,Tryz.ntmps229
 go_wp2_with fail
 rw [zero_bits]
 go_loopg [6] 64 (fun g s6 wr=>∃(i:Nat) (f:Nat→Bool),i≤64∧64 - i≤g∧s6=.int .i64 i∧Hid (∀j,j<128→f j=ofF hi lo i j)∧jB w wr∧BitB wr w.heap.size (fun _=>false)∧BitB wr (w.heap.size+1) f)
 case atStart=>exact ⟨0,fun _=>false,by omega,Nat.le_refl _,rfl,jH (fun j hj=>by unfold ofF;split <;> simp;omega),balloc (balloc jR _) _,box_old _ _ _,box_new _ _ _⟩
 case round =>
  obtain ⟨i,f,hi2,hg,rfl,HF,hb,hz,hq⟩:=hrel;rename World=>wr
  have HB:=jH hb;have HZ:=jH hz;have HQ:=jH hq;clear hb hz
  by_cases hlt:i<64
  · obtain ⟨c3,c4⟩:=hq.cell (i:=i) (by omega)
    obtain ⟨c5,c6⟩:=hq.cell (i:=64+i) (by omega);have HL:=jH hlt;clear hq;have z1:(i:Int)<64:=by omega
    have z2:wrap64 (64+(i:Int))=((64+i:Nat):Int):=by unfold wrap64;omega
    have z3:((64+i:Nat):Int)<128:=by omega
    have z4:(0:Int)≤(i:Int):=by omega
    have z5:(0:Int)≤((64+i:Nat):Int):=by omega
    have z6:(i:Int)<128:=by omega
    have z7:IntKind.u64.wrap (i:Int)=(i:Int):=u64_wrap i (by omega);have g1:=shr_bit lo i HLo.out hlt;have g2:=shr_bit hi i HH.out hlt;go_wp2_with fail
    go_roundg (64 - (i+1))
    case measure=>omega
    case rel=>exact ⟨i+1,updB (updB f i (lo.testBit i)) (64+i) (hi.testBit i),HL.out,Nat.le_refl _,by go_num,jH (fun j hj=>by
                 have hL:=HL.out;unfold updB
                 by_cases e:j=64+i
                 · subst e
                   rw [if_pos rfl];unfold ofF;rw [if_neg (by omega),decide_eq_true (by omega),Bool.true_and]
                   congr 1
                   omega
                 · rw [if_neg e]
                   by_cases e2:j=i
                   · subst e2
                     rw [if_pos rfl];unfold ofF;rw [if_pos hL,decide_eq_true (by omega),Bool.true_and]
                   · rw [if_neg e2,HF.out j hj]
                     unfold ofF
                     split
                     · congr 1
                       rw [decide_eq_decide];omega
                     · congr 1
                       rw [decide_eq_decide];omega),(HB.out.setCell (by simp) _).setCell (by simp) _,(HZ.out.ne (by omega)).ne (by omega),(HQ.out.set (by have:=HL.out;omega) _).set (by have:=HL.out;omega) _⟩
  · obtain rfl:i=64:=by omega
    clear hq
    go_wp2_with (first
     | (refine wpList_load_list rfl 280 (.tmp 5) rfl (w.heap.size+1) 0 (bitsL f) HQ.out.range (by rfl) _ Tryz.underlying280 (by rfl) (num_size f) ?_)
     | (refine wpList_store_mid rfl 280 (.tmp 4) (.tmp 30) rfl (w.heap.size) 0 (bitsL f).toArray (by rfl) (by rfl) (HZ.out.there f) (num_sizeA f) (bits_one f) ?_))
    obtain ⟨hs1,_,hs3⟩:=HZ.out.store f;refine bodyPost_ret (v:=.agg (bitsL f).toArray) (results_cell_row Tryz.results229 _ _ _ _ _ _ _ (by rfl) hs1 Tryz.underlying280 rfl (num_sizeA f)) rfl ⟨?_,HB.out.trans (hs3 _ (Nat.le_refl _))⟩;rw [numV_ext (fun j hj=>(HF.out j hj).trans (of_end HLo.out hj))]
theorem numAdd_any (a b:Nat) (ha:a<340282366920938463463374607431768211456) (hb2:b<340282366920938463463374607431768211456) (hs:a+b<340282366920938463463374607431768211456) (w:World) :
 Calls Tryz.prog 208 #[numV a,numV b] w (jP w (.tuple #[numV (a+b),.bool true])):=by
 unfold numV;have HC0:=jH (show carN a b 128=0 by rw [carN_end a b 128 (by rw [←pow128];exact ha) (by rw [←pow128];exact hb2),←pow128];exact Nat.div_eq_of_lt hs);clear ha hb2 hs
 go_enter Tryz.func208,Tryz.ntmps208
 go_wp2_with fail
 rw [zero_bits]
 go_loopg [7,8] 128 (fun g s7 s8 wr=>∃(i:Nat) (f:Nat→Bool),i≤128∧128 - i≤g∧s8=.int .i64 i∧s7=.int .i64 (carN a b i:Nat)∧Hid (∀j,j<128→f j=(decide (j<i) && (a+b).testBit j))∧jB w wr∧BitB wr w.heap.size a.testBit∧BitB wr (w.heap.size+1) b.testBit∧BitB wr (w.heap.size+1+1) (fun _=>false)∧BitB wr (w.heap.size+1+1+1) f)
 case atStart=>exact ⟨0,fun _=>false,by omega,Nat.le_refl _,rfl,by rw [carN_zero];rfl,jH (fun j hj=>by simp),balloc (balloc (balloc (balloc jR _) _) _) _,BitB.below (box3_0 _ _ _ _) (balloc jR _),BitB.below (box3_1 _ _ _ _) (balloc jR _),BitB.below (box3_2 _ _ _ _) (balloc jR _),box4_3 _ _ _ _ _⟩
 case round =>
  obtain ⟨i,f,hi2,hg,rfl,rfl,HF,hb,hx,hy,hz,hq⟩:=hrel;rename World=>wr
  have HB:=jH hb;have HX:=jH hx;have HY:=jH hy;have HZ:=jH hz;have HQ:=jH hq;clear hb hz
  by_cases hlt:i<128
  · obtain ⟨c1,c2⟩:=hx.cell hlt
    obtain ⟨c3,c4⟩:=hy.cell hlt;obtain ⟨c5,c6⟩:=hq.cell hlt;have HL:=jH hlt;clear hx hy hq;have z1:(i:Int)<128:=by omega
    have z4:(0:Int)≤(i:Int):=by omega
    have hcs:=carN_succ a b i;have hsb:=sum_bit a b i;have hcl:=carN_le a b i;obtain ⟨cc,hcc⟩:∃cc,cc=carN a b i:=⟨_,rfl⟩;obtain ⟨cn,hcn⟩:∃cn,cn=carN a b (i+1):=⟨_,rfl⟩;obtain ⟨sb,hsb2⟩:∃sb,sb=(a+b).testBit i:=⟨_,rfl⟩;rw [←hcc] at hcs hsb hcl ⊢;rw [←hcn] at hcs;rw [←hsb2] at hsb;have HCN:=jH hcn;have HSB:=jH hsb2;clear hcc hcn hsb2;have REL:Hid (∀(q:Bool),q=sb→(∀j,j<128→updB f i q j=(decide (j<i+1) && (a+b).testBit j))):=jH (fun q hq j hj=>by
     unfold updB
     by_cases e:j=i
     · subst e;rw [if_pos rfl,hq,HSB.out];simp
     · rw [if_neg e,HF.out j hj]
       congr 1
       rw [decide_eq_decide];omega)
    cases hA:a.testBit i <;> cases hB:b.testBit i
    all_goals
      rw [hA] at c1 hcs hsb;rw [hB] at c3 hcs hsb;simp only [Bool.toNat_false,Bool.toNat_true,Nat.add_zero] at hcs hsb
      have HN:=jH (And.intro hcs hsb);have HCL:=jH hcl;clear hcs hsb hcl hA hB
      as_aux_lemma =>
      go_wp2_with fail
      go_roundg (128 - (i+1))
      case measure=>omega
      case rel=>exact ⟨i+1,updB f i _,HL.out,Nat.le_refl _,by go_num,by
                   rw [←HCN.out,HN.out.1];obtain rfl|rfl:cc=0∨cc=1:=by have:=HCL.out;omega
                   all_goals exact congrArg (Value.int .i64) (by decide +kernel),jH (REL.out _ (by
                   rw [HN.out.2];obtain rfl|rfl:cc=0∨cc=1:=by have:=HCL.out;omega
                   all_goals decide +kernel)),HB.out.setCell (by simp;omega) _,HX.out.ne (by omega),HY.out.ne (by omega),HZ.out.ne (by omega),HQ.out.set HL.out _⟩
  · obtain rfl:i=128:=by omega
    rw [HC0.out];clear hx hy hq
    go_wp2_with (first
     | (refine wpList_load_list rfl 280 (.tmp 6) rfl (w.heap.size+1+1+1) 0 (bitsL f) HQ.out.range (by rfl) _ Tryz.underlying280 (by rfl) (num_size f) ?_)
     | (refine wpList_store_mid rfl 280 (.tmp 4) (.tmp 38) rfl (w.heap.size+1+1) 0 (bitsL f).toArray (by rfl) (by rfl) (HZ.out.there f) (num_sizeA f) (bits_one f) ?_))
    obtain ⟨hs1,_,hs3⟩:=HZ.out.store f;have hld:=hs1.load;refine bodyPost_ret (v:=.tuple #[.agg (bitsL f).toArray,.bool true]) (results_row_tmp Tryz.results208 (by rfl) hld) rfl ⟨?_,HB.out.trans (hs3 _ (by omega))⟩;rw [numV_ext (fun j hj=>(HF.out j hj).trans (by rw [decide_eq_true hj,Bool.true_and]))];rfl
theorem numCmp_any (a b:Nat) (ha:a<340282366920938463463374607431768211456) (hb2:b<340282366920938463463374607431768211456) (w:World) :
 Calls Tryz.prog 205 #[numV a,numV b] w (jP w (.int .i64 (cmpN a b))):=by
 unfold numV;have HAB:=jH (show a / 2 ^ 128=b / 2 ^ 128 by rw [←pow128,Nat.div_eq_of_lt ha,Nat.div_eq_of_lt hb2]);clear ha hb2
 go_enter Tryz.func205,Tryz.ntmps205
 go_wp2_with fail
 go_loopg [5] 128 (fun g s5 wr=>∃(i:Nat),i≤128∧i≤g∧s5=.int .i64 ((i:Int) - 1)∧Hid (a / 2 ^ i=b / 2 ^ i)∧jB w wr∧BitB wr w.heap.size a.testBit∧BitB wr (w.heap.size+1) b.testBit)
 case atStart=>exact ⟨128,Nat.le_refl _,Nat.le_refl _,rfl,HAB,balloc (balloc jR _) _,box_old _ _ _,box_new _ _ _⟩
 case round =>
  obtain ⟨i,hi2,hg,rfl,HE,hb,hx,hy⟩:=hrel;rename World=>wr
  have HB:=jH hb;have HX:=jH hx;have HY:=jH hy;clear hb
  cases i with
  | zero =>
    have HC:=jH (show cmpN a b=0 by
     have:=HE.out;simp at this
     simp [cmpN,this])
    clear hx hy;go_wp2_with fail
    go_ret
    exact ⟨by rw [HC.out];rfl,HB.out⟩
  | succ i =>
    obtain ⟨c1,c2⟩:=hx.cell (i:=i) (by omega);obtain ⟨c3,c4⟩:=hy.cell (i:=i) (by omega);have z0:(((i+1:Nat):Int) - 1)=(i:Int):=by omega
    rw [z0];have z1:(i:Int)<128:=by omega
    have z4:(0:Int)≤(i:Int):=by omega
    have HI:=jH hi2;clear hx hy z0
    by_cases hd:a.testBit i=b.testBit i
    · have HN:=jH (cmpN_next HE.out hd)
      rw [←hd] at c3;generalize a.testBit i=q at c1 c3;clear hd
      as_aux_lemma =>
      cases q
      all_goals
        go_upto_region 4 with fail
        go_region
        all_goals
          go_wp2_with fail
          go_roundg i
          case measure=>omega
          case rel=>exact ⟨i,by have:=HI.out;omega,Nat.le_refl _,by go_num,HN,HB.out.drew,HX.out,HY.out⟩
    · have HC:=jH (cmpN_bit HE.out hd)
      cases hA:a.testBit i <;> cases hB:b.testBit i
      · rw [hA,hB] at hd;exact absurd rfl hd
      · rw [hA] at c1
        rw [hB] at c3;rw [hA] at HC;clear hd hA hB
        as_aux_lemma =>
        go_upto_region 4 with fail
        go_region
        all_goals
          go_wp2_with fail
          go_ret
          exact ⟨by rw [HC.out];rfl,HB.out.drew⟩
      · rw [hA] at c1
        rw [hB] at c3;rw [hA] at HC;clear hd hA hB
        as_aux_lemma =>
        go_upto_region 4 with fail
        go_region
        all_goals
          go_wp2_with fail
          go_ret
          exact ⟨by rw [HC.out];rfl,HB.out.drew⟩
      · rw [hA,hB] at hd;exact absurd rfl hd
end
section
open Go.RowKit Go.Lib
theorem list_named {P:Program} {ops:Array Oper} {Q:Exit→Act→World→Prop} {rest:List Oper} {a:Act} {w:World} (h:∀W,W=w→wpList P ops Q rest a W):wpList P ops Q rest a w:=h w rfl
theorem step_wanted {P:Program} {ops:Array Oper} {o:Oper} {a:Act} {w:World} {K:Act→World→Prop} {Q:Exit→Act→World→Prop} {X:Prop} (hg:o.guard=none) (h:Oper.wp P o a w K Q):if Region.wanted o (yielded ops a.tmps)=true then Oper.wp P o a w K Q else X:=by
 have hw:Region.wanted o (yielded ops a.tmps)=true:=by simp [Region.wanted,hg]
 rw [if_pos hw];exact h
theorem mod_pow_succ (b i:Nat):b % 2 ^ (i+1)=b % 2 ^ i+2 ^ i * (b.testBit i).toNat:=by
 rw [Nat.pow_succ,Nat.mod_mul,←bit_nat]
theorem numV_lt (n:Nat):bitsL (0:Nat).testBit=bitsL fun _=>false:=bitsL_ext (fun j _=>by simp)
theorem zero_store (w:World) (B:Nat) (hB:w.heap.size=B):(storeCells ⟨B,0,none⟩ Tryz.zeroCells280.toList).run Tryz.prog (w.alloc (.cells Tryz.zeroCells280 280))=.ok () (w.alloc (.cells Tryz.zeroCells280 280)):=by
 subst hB;exact run_storeCells_new w 280 _ _ (by kernel_rfl) rfl (by rw [zero_bits];exact bits_one _)
theorem bits_store (w:World) (B:Nat) (hB:w.heap.size=B) (f:Nat→Bool):(storeCells ⟨B,0,none⟩ (bitsL f)).run Tryz.prog (w.alloc (.cells Tryz.zeroCells280 280))=.ok () (w.alloc (.cells (bitsL f).toArray 280)):=by
 subst hB;have:=run_storeCells_new (P:=Tryz.prog) w 280 Tryz.zeroCells280 (bitsL f).toArray (num_sizeA f) (by rw [zero_bits];simp [bitsL_len]) (bits_one f)
 simpa using this
theorem numMul_any (a b:Nat) (ha:a<18446744073709551616) (hb2:b<18446744073709551616) (w:World) :
 Calls Tryz.prog 204 #[.int .u64 a,.int .u64 b] w (jP w (numV (a * b))):=by
 have CO:=jH (fun W=>show Calls Tryz.prog 229 #[.int .u64 0,.int .u64 a] W (jP W (.agg (bitsL a.testBit).toArray)) from by
  have:=numOf_any 0 a (by omega) ha W;rw [Nat.zero_mul,Nat.zero_add] at this;exact this)
 have CA:=jH (fun (x y:Nat) (h:x+y<340282366920938463463374607431768211456) W=>numAdd_any x y (by omega) (by omega) h W);have HA:=jH ha;have HB2:=jH hb2;have hst:=zero_store (w.alloc (.cells Tryz.zeroCells280 280)) (w.heap.size+1) (by simp);have hst2:=fun W=>bits_store W W.heap.size rfl a.testBit
 clear ha hb2
 go_enter Tryz.func204,Tryz.ntmps204
 go_wp2_with (first
  | (go_at_call 229
     refine calls_named ?_;intro W1 hW1;rw [zero_bits] at hW1;have hb1:jB w W1:=by rw [hW1];exact balloc (balloc jR _) _
     have hx1:BitB W1 w.heap.size (fun _=>false):=by rw [hW1];exact box_old _ _ _
     have hx2:BitB W1 (w.heap.size+1) (fun _=>false):=by rw [hW1];exact box_new _ _ _
     have hsz:W1.heap.size=w.heap.size+2:=by rw [hW1];simp
     clear hW1;refine (CO.out W1).mono ?_;rintro e w2 ⟨rfl,hb2⟩;have HX1:=jH (hx1.below hb2);have HX2:=jH (hx2.below hb2);have HB2w:=jH (bthen hb1 hb2);have HSZ:=jH (show w.heap.size+2≤w2.heap.size by have:=hb2.size;omega);clear hb1 hx1 hx2 hb2 hsz))
 go_loopg [7] 64 (fun g s7 wr=>∃(i o x:Nat),i≤64∧64 - i≤g∧s7=.int .i64 i∧Hid (o=a * (b % 2 ^ i)∧x=a * 2 ^ i)∧jB w wr∧BitB wr w.heap.size (fun _=>false)∧BitB wr (w.heap.size+1) o.testBit∧BitB wr w2.heap.size x.testBit)
 case atStart=>exact ⟨0,0,a,by omega,Nat.le_refl _,rfl,jH (by simp [Nat.mod_one]),balloc HB2w.out _,HX1.out.below (balloc jR _),by
                  have:=HX2.out.below (balloc jR (.cells (bitsL a.testBit).toArray 280));unfold BitB at this ⊢;rw [numV_lt 0];exact this,bit_new w2 a.testBit⟩
 case round =>
  obtain ⟨i,o,x,hi2,hg,rfl,HE,hb,hz,ho,hx⟩:=hrel;rename World=>wr
  have HB:=jH hb;have HZ:=jH hz;have HO:=jH ho;have HX:=jH hx;clear hb hz ho hx
  by_cases hlt:i<64
  · have HL:=jH hlt
    have z1:(i:Int)<64:=by omega
    have z4:(0:Int)≤(i:Int):=by omega
    have z7:IntKind.u64.wrap (i:Int)=(i:Int):=u64_wrap i (by omega);have g1:=shr_bit b i HB2.out hlt;have hbx:=Nat.mod_lt b (Nat.two_pow_pos (i+1));have hbl:b % 2 ^ (i+1)≤b:=Nat.mod_le _ _;have hms:=mod_pow_succ b i;have hab:a * b<340282366920938463463374607431768211456:=by
     have h1:=HA.out;have h2:=HB2.out;have h3:a * b≤18446744073709551615 * 18446744073709551615:=Nat.mul_le_mul (by omega) (by omega);omega
    have hox:a * (b % 2 ^ (i+1))≤a * b:=Nat.mul_le_mul_left a hbl;have HXS:=jH (show 2 * x=a * 2 ^ (i+1) by rw [HE.out.2,Nat.pow_succ,Nat.mul_comm (2 ^ i) 2,Nat.mul_left_comm]);have CD:=jH (fun W=>show Calls Tryz.prog 230 #[.agg (bitsL x.testBit).toArray] W (jP W (.agg (bitsL (2 * x).testBit).toArray)) from num2_any x W)
    cases hq:b.testBit i with
    | true =>
      rw [hq] at g1 hms;have hsum:o+x=a * (b % 2 ^ (i+1)):=by
       rw [HE.out.1,HE.out.2,hms,Nat.mul_add];simp
      have HSUM:=jH hsum;have CAx:=jH (fun W=>show Calls Tryz.prog 208 #[.agg (bitsL o.testBit).toArray,.agg (bitsL x.testBit).toArray] W (jP W (.tuple #[.agg (bitsL (o+x).testBit).toArray,.bool true])) from CA.out o x (by omega) W);clear hbx hbl hms hab hox hq hsum CA hlt
      as_aux_lemma =>
      go_wp2_with (first
       | (refine wpList_load_list rfl 280 (.tmp 5) rfl (w.heap.size+1) 0 (bitsL o.testBit) HO.out.range (by rfl) _ Tryz.underlying280 (by rfl) (num_size o.testBit) ?_)
       | (go_at_call 208
          refine (CAx.out wr).mono ?_;rintro e w4 ⟨rfl,hb4⟩;have HB4:=jH (bthen HB.out hb4);have HZ4:=jH (HZ.out.below hb4);have HO4:=jH (HO.out.below hb4);have HX4:=jH (HX.out.below hb4);clear hb4)
       | (refine wpList_store_mid rfl 280 (.tmp 5) (.tmp 25) rfl (w.heap.size+1) 0 (bitsL (o+x).testBit).toArray (by rfl) (by rfl) (HO4.out.there _) (num_sizeA _) (bits_one _) ?_
          refine list_named ?_;intro W5 hW5;obtain ⟨s1,s2,s3⟩:=HO4.out.store (o+x).testBit;have hW5':W5=w4.setCells (w.heap.size+1) 0 (bitsL (o+x).testBit):=hW5;rw [←hW5'] at s1 s2 s3;have HO5:=jH s1;have HZ5:=jH (show BitB W5 w.heap.size (fun _=>false) from (s2 _ (by omega)).trans HZ4.out);have HX5:=jH (show BitB W5 w2.heap.size x.testBit from (s2 _ (by have:=HSZ.out;omega)).trans HX4.out);have HB5:=jH (HB4.out.trans (s3 _ (by omega)))
          clear hW5 hW5' s1 s2 s3)
       | (refine wpList_load_list rfl 280 (.tmp 6) rfl (w2.heap.size) 0 (bitsL x.testBit) HX5.out.range (by rfl) _ Tryz.underlying280 (by rfl) (num_size x.testBit) ?_)
       | (refine wpList_load_list rfl 280 (.tmp 6) rfl (w2.heap.size) 0 (bitsL x.testBit) HX.out.range (by rfl) _ Tryz.underlying280 (by rfl) (num_size x.testBit) ?_)
       | (go_at_call 230
          refine (CD.out W5).mono ?_;rintro e w6 ⟨rfl,hb6⟩;have HB6:=jH (bthen HB5.out hb6);have HZ6:=jH (HZ5.out.below hb6);have HO6:=jH (HO5.out.below hb6);have HX6:=jH (HX5.out.below hb6);clear hb6)
       | (refine wpList_store_mid rfl 280 (.tmp 6) (.tmp 28) rfl (w2.heap.size) 0 (bitsL (2 * x).testBit).toArray (by rfl) (by rfl) (HX6.out.there _) (num_sizeA _) (bits_one _) ?_
          refine list_named ?_;intro W7 hW7;obtain ⟨s1,s2,s3⟩:=HX6.out.store (2 * x).testBit;have hW7':W7=w6.setCells (w2.heap.size) 0 (bitsL (2 * x).testBit):=hW7;rw [←hW7'] at s1 s2 s3;have HX7:=jH s1;have HZ7:=jH (show BitB W7 w.heap.size (fun _=>false) from (s2 _ (by have:=HSZ.out;omega)).trans HZ6.out);have HO7:=jH (show BitB W7 (w.heap.size+1) (o+x).testBit from (s2 _ (by have:=HSZ.out;omega)).trans HO6.out)
          have HB7:=jH (HB6.out.trans (s3 _ (by have:=HSZ.out;omega)));clear hW7 hW7' s1 s2 s3))
      go_roundg (64 - (i+1))
      case measure=>omega
      case rel=>exact ⟨i+1,o+x,2 * x,HL.out,Nat.le_refl _,by go_num,jH ⟨HSUM.out,HXS.out⟩,HB7.out,HZ7.out,HO7.out,HX7.out⟩
    | false =>
      rw [hq] at g1 hms;have HSUM:=jH (show o=a * (b % 2 ^ (i+1)) by rw [HE.out.1,hms];simp);clear hbx hbl hms hab hox hq CA hlt
      as_aux_lemma =>
      go_wp2_with (first
       | (refine wpList_load_list rfl 280 (.tmp 6) rfl (w2.heap.size) 0 (bitsL x.testBit) HX.out.range (by rfl) _ Tryz.underlying280 (by rfl) (num_size x.testBit) ?_)
       | (go_at_call 230
          refine (CD.out wr).mono ?_;rintro e w6 ⟨rfl,hb6⟩;have HB6:=jH (bthen HB.out hb6);have HZ6:=jH (HZ.out.below hb6);have HO6:=jH (HO.out.below hb6);have HX6:=jH (HX.out.below hb6);clear hb6)
       | (refine wpList_store_mid rfl 280 (.tmp 6) (.tmp 28) rfl (w2.heap.size) 0 (bitsL (2 * x).testBit).toArray (by rfl) (by rfl) (HX6.out.there _) (num_sizeA _) (bits_one _) ?_
          refine list_named ?_;intro W7 hW7;obtain ⟨s1,s2,s3⟩:=HX6.out.store (2 * x).testBit;have hW7':W7=w6.setCells (w2.heap.size) 0 (bitsL (2 * x).testBit):=hW7;rw [←hW7'] at s1 s2 s3;have HX7:=jH s1;have HZ7:=jH (show BitB W7 w.heap.size (fun _=>false) from (s2 _ (by have:=HSZ.out;omega)).trans HZ6.out);have HO7:=jH (show BitB W7 (w.heap.size+1) o.testBit from (s2 _ (by have:=HSZ.out;omega)).trans HO6.out)
          have HB7:=jH (HB6.out.trans (s3 _ (by have:=HSZ.out;omega)));clear hW7 hW7' s1 s2 s3))
      go_roundg (64 - (i+1))
      case measure=>omega
      case rel=>exact ⟨i+1,o,2 * x,HL.out,Nat.le_refl _,by go_num,jH ⟨HSUM.out,HXS.out⟩,HB7.out,HZ7.out,HO7.out,HX7.out⟩
  · obtain rfl:i=64:=by omega
    have HEO:=jH (show o=a * b by rw [HE.out.1];congr 1;exact Nat.mod_eq_of_lt HB2.out)
    go_wp2_with (first
     | (refine wpList_load_list rfl 280 (.tmp 5) rfl (w.heap.size+1) 0 (bitsL o.testBit) HO.out.range (by rfl) _ Tryz.underlying280 (by rfl) (num_size o.testBit) ?_)
     | (refine wpList_store_mid rfl 280 (.tmp 4) (.tmp 29) rfl (w.heap.size) 0 (bitsL o.testBit).toArray (by rfl) (by rfl) (HZ.out.there o.testBit) (num_sizeA o.testBit) (bits_one o.testBit) ?_))
    obtain ⟨hs1,_,hs3⟩:=HZ.out.store o.testBit;refine bodyPost_ret (v:=.agg (bitsL o.testBit).toArray) (results_cell_row Tryz.results204 _ _ _ _ _ _ _ (by rfl) hs1 Tryz.underlying280 rfl (num_sizeA _)) rfl ⟨?_,HB.out.trans (hs3 _ (Nat.le_refl _))⟩;rw [HEO.out];rfl
theorem numTotal_any (v:Value) (l:List Int) (w:World) (hv:RowIn 1 nmC w v l) (hl:l.length≤1000000) (hi:∀n∈l,0≤n∧n≤9223372036854775807) :
 Calls Tryz.prog 206 #[v] w (jP w (numV (totN l))):=by
 obtain ⟨A,c,rfl⟩:=hv.form;have HV:=jH hv;have HI:=jH hi;have HL:=jH hl;have hl9:l.length≤9223372036854775807:=by omega
 have hst:=zero_store (w.alloc (.cells Tryz.zeroCells280 280)) (w.heap.size+1) (by simp);clear hv hi hl
 go_enter Tryz.func206,Tryz.ntmps206
 go_wp2_with fail
 clear hst;rw [zero_bits]
 go_loopg [4] l.length (fun g s4 wr=>∃(k:Nat) (f:Nat→Bool),k≤l.length∧l.length - k≤g∧s4=.int .i64 k∧Hid (bitsL f=bitsL (totN (l.take k)).testBit)∧jB w wr∧BitB wr w.heap.size (fun _=>false)∧BitB wr (w.heap.size+1) f)
 case atStart=>exact ⟨0,fun _=>false,Nat.zero_le _,Nat.le_refl _,rfl,jH (by rw [List.take_zero];exact (numV_lt 0).symm),balloc (balloc jR _) _,box_old _ _ _,box_new _ _ _⟩
 case round =>
  obtain ⟨k,f,hk,hg,rfl,HF,hb,hz,hq⟩:=hrel;rename World=>wr
  have HB:=jH hb;have HZ:=jH hz;have HQ:=jH hq;clear hb hz hq
  by_cases hlt:k<l.length
  · obtain ⟨b1,o1,rfl,hb1,hc⟩:=(HV.out.below HB.out).at_ hlt
    have z1:(0:Int)≤(k:Int):=by omega
    have z2:(k:Int)<(l.length:Int):=by omega
    have HTK:=jH (show totN (l.take (k+1))=totN (l.take k)+l[k].toNat by rw [List.take_succ_eq_append_getElem hlt,totN_snoc]);have hx:=HI.out _ (List.getElem_mem hlt);have HTL:=jH (show totN (l.take k)≤1000000 * 9223372036854775807 from Nat.le_trans (totN_le (fun n hn=>(HI.out n (List.mem_of_mem_take hn)).2)) (Nat.mul_le_mul_right _ (by rw [List.length_take];have:=HL.out;omega)));generalize l[k]=x at hc HTK hx
    have d0:=hc 0 _ rfl;rw [Nat.add_zero,Nat.mul_one] at d0;have HK:=jH hlt;clear hc
    by_cases h0:0<x
    · obtain ⟨y,rfl⟩:∃y:Nat,x=y:=⟨x.toNat,by omega⟩
      have hy:y≤9223372036854775807:=by omega
      have q1:IntKind.u64.wrap (y:Int)=(y:Int):=u64_wrap y (by omega);have h0':(0:Int)<(y:Int):=h0;obtain ⟨t,ht⟩:∃t,t=totN (l.take k):=⟨_,rfl⟩;rw [←ht] at HTL HTK HF;have CO:=jH (fun W=>show Calls Tryz.prog 229 #[.int .u64 0,.int .u64 y] W (jP W (.agg (bitsL y.testBit).toArray)) from by
       have:=numOf_any 0 y (by omega) (by omega) W;rw [Nat.zero_mul,Nat.zero_add] at this;exact this)
      have CA:=jH (fun W=>show Calls Tryz.prog 208 #[.agg (bitsL f).toArray,.agg (bitsL y.testBit).toArray] W (jP W (.tuple #[.agg (bitsL (t+y).testBit).toArray,.bool true])) from by
       rw [HF.out];exact numAdd_any t y (by have:=HTL.out;omega) (by omega) (by have:=HTL.out;omega) W)
      have HT2:=jH (show t+y=totN (l.take (k+1)) by rw [HTK.out];simp);clear ht hy hx h0;have r0:∀U,jB wr U→U.cell? ⟨b1,o1+k,none⟩=some (.int .i64 y):=fun U hU=>(hU.cell (p:=⟨b1,o1+k,none⟩) hb1).trans d0
      have HBr:=jH (Below.refl wr.heap.size wr)
      as_aux_lemma =>
      go_upto_region 6 with fail
      refine wp_region_E (S:=(fun U:World=>jB wr U)) 11 (by kernel_rfl) ?hS9 (fun hHeld=>?_)
      case hS9=>first|with_reducible exact HBr.out|exact HBr.out.drew|with_reducible exact HB5.out|with_reducible exact HB6.out
      refine wpAnyE_take (i:=0) (v:=.agg ((bitsL f)).toArray) rfl (by kernel_rfl) (by kernel_rfl) (by kernel_rfl) (by kernel_rfl) (fun _ _ _ h=>h) (yieldsIf_load_mid (by rfl) 280 (.tmp 3) (by rfl) (w.heap.size+1) (0) (by rfl) ((bitsL f)) _ (fun U hU=>(HQ.out.below hU).range) Tryz.underlying280 (by rfl) (num_size _)) (by assumption) ?_
      try simp only [Act.put,jA]
      refine wpAnyE_take (i:=1) (v:=?v10) rfl (by kernel_rfl) (by kernel_rfl) (by kernel_rfl) (by kernel_rfl) (fun _ _ _ h=>h) (Or.inl ⟨by rfl,?hy10⟩) (by assumption) ?_
      case hy10 =>
       intro w' hSw
       (try dsimp only at hSw)
       go_simp
       try (with_reducible rfl)
      try simp only [Act.put,jA]
      refine wpAnyE_take (i:=2) (v:=?v11) rfl (by kernel_rfl) (by kernel_rfl) (by kernel_rfl) (by kernel_rfl) (fun _ _ _ h=>h) (Or.inl ⟨by rfl,?hy11⟩) (by assumption) ?_
      case hy11 =>
       intro w' hSw
       (try dsimp only at hSw)
       go_simp
       try (with_reducible rfl)
      try simp only [Act.put,jA]
      refine wpAnyE_take (i:=3) (v:=?v12) rfl (by kernel_rfl) (by kernel_rfl) (by kernel_rfl) (by kernel_rfl) (fun _ _ _ h=>h) (Or.inl ⟨by rfl,?hy12⟩) (by assumption) ?_
      case hy12 =>
       intro w' hSw
       (try dsimp only at hSw)
       go_simp
       try (with_reducible rfl)
      try simp only [Act.put,jA]
      refine wpAnyE_take (i:=4) (v:=?v13) rfl (by kernel_rfl) (by kernel_rfl) (by kernel_rfl) (by kernel_rfl) (fun _ _ _ h=>h) (Or.inl ⟨by rfl,?hy13⟩) (by assumption) ?_
      case hy13 =>
       intro w' hSw
       (try dsimp only at hSw)
       have q9:=r0 w' hSw;go_simp
       try (with_reducible rfl)
      try simp only [Act.put,jA]
      refine wpAnyE_take (i:=5) (v:=?v14) rfl (by kernel_rfl) (by kernel_rfl) (by kernel_rfl) (by kernel_rfl) (fun _ _ _ h=>h) (Or.inl ⟨by rfl,?hy14⟩) (by assumption) ?_
      case hy14 =>
       intro w' hSw
       (try dsimp only at hSw)
       go_simp
       try (with_reducible rfl)
      try simp only [Act.put,jA]
      refine wpAnyE_one (i:=6) (by kernel_rfl) rfl (fun K hK=>?_);go_simp
      go_at_call 229
      refine calls_named ?_;intro W5 hW5;have hb5:jB wr W5:=by rw [hW5];first|exact jR|exact jR.drew
      clear hW5;refine (CO.out W5).mono ?_;rintro e w5 ⟨rfl,hb6⟩;have HB5:=jH (bthen hb5 hb6);clear hb5 hb6
      try go_simp
      refine hK.out _ _ ?hS15 (fun hHeld2=>?_)
      case hS15 =>
       intro _
       first|with_reducible exact HBr.out|exact HBr.out.drew|with_reducible exact HB5.out|with_reducible exact HB6.out
      clear hK K hHeld;have hHeld:=hHeld2 (by kernel_rfl);clear hHeld2
      try simp only [Act.put,jA]
      refine wpAnyE_one (i:=7) (by kernel_rfl) rfl (fun K hK=>?_);go_simp
      go_at_call 208
      refine (CA.out w5).mono ?_;rintro e w6 ⟨rfl,hb6⟩;have HB6:=jH (bthen HB5.out hb6);clear hb6
      try go_simp
      refine hK.out _ _ ?hS16 (fun hHeld2=>?_)
      case hS16 =>
       intro _
       first|with_reducible exact HBr.out|exact HBr.out.drew|with_reducible exact HB5.out|with_reducible exact HB6.out
      clear hK K hHeld;have hHeld:=hHeld2 (by kernel_rfl);clear hHeld2
      try simp only [Act.put,jA]
      refine wpAnyE_take (i:=8) (v:=?v17) rfl (by kernel_rfl) (by kernel_rfl) (by kernel_rfl) (by kernel_rfl) (fun _ _ _ h=>h) (Or.inl ⟨by rfl,?hy17⟩) (by assumption) ?_
      case hy17 =>
       intro w' hSw
       (try dsimp only at hSw)
       go_simp
       try (with_reducible rfl)
      try simp only [Act.put,jA]
      refine wpAnyE_take (i:=9) (v:=?v18) rfl (by kernel_rfl) (by kernel_rfl) (by kernel_rfl) (by kernel_rfl) (fun _ _ _ h=>h) (Or.inl ⟨by rfl,?hy18⟩) (by assumption) ?_
      case hy18 =>
       intro w' hSw
       (try dsimp only at hSw)
       go_simp
       try (with_reducible rfl)
      try simp only [Act.put,jA]
      refine wpAnyE_takeP (i:=10) (v:=?v19) rfl (by kernel_rfl) (by kernel_rfl) (by kernel_rfl) (by kernel_rfl) (fun _ _ _ h=>h) (Or.inl ⟨by rfl,?hy19⟩) (by assumption) ?_
      case hy19 =>
       intro w' hSw;clear hSw;go_simp
       try (with_reducible rfl)
      try simp only [Act.put,jA]
      refine wpAnyE_one (i:=11) (by kernel_rfl) rfl (fun K hK=>?_);refine step_wanted (by rfl) ?_;refine wp_store_mid 280 (.tmp 3) (.tmp 26) rfl (w.heap.size+1) 0 (bitsL (t+y).testBit).toArray (by rfl) (by rfl) ((HQ.out.below HB6.out).there _) (num_sizeA _) (bits_one _) ?_;refine hK.out _ _ ?hS20 (fun hHeld2=>?_)
      case hS20=>exact fun h=>nomatch (show (true:Bool)=false from h)
      clear hK K hHeld hHeld2
      try simp only [Act.put,jA]
      refine wpAnyE_done (by kernel_rfl) ?_ _;obtain ⟨s1,s2,s3⟩:=(HQ.out.below HB6.out).store (t+y).testBit;obtain ⟨W9,hW9⟩:∃W9,W9=w6.setCells (w.heap.size+1) 0 (bitsL (t+y).testBit):=⟨_,rfl⟩;rw [←hW9] at s1 s2 s3;go_wp2_with fail
      go_roundg (l.length - (k+1))
      case measure=>omega
      case rel=>exact ⟨k+1,(t+y).testBit,HK.out,Nat.le_refl _,by go_num,jH (by rw [HT2.out]),by rw [←hW9];exact (bthen HB.out HB6.out).trans (s3 _ (by omega)),by rw [←hW9];exact (s2 _ (by omega)).trans (HZ.out.below HB6.out),by rw [←hW9];exact s1⟩
    · obtain rfl:x=0:=by omega
      have e3:totN (l.take (k+1))=totN (l.take k):=by rw [HTK.out];simp
      have HF2:=jH (show bitsL f=bitsL (totN (l.take (k+1))).testBit by rw [e3];exact HF.out);clear e3 hx h0
      as_aux_lemma =>
      go_wp2_with fail
      go_roundg (l.length - (k+1))
      case measure=>omega
      case rel=>exact ⟨k+1,f,HK.out,Nat.le_refl _,by go_num,HF2,HB.out,HZ.out,HQ.out⟩
  · obtain rfl:k=l.length:=by omega
    rw [List.take_length] at HF
    go_wp2_with (first
     | (refine wpList_load_list rfl 280 (.tmp 3) rfl (w.heap.size+1) 0 (bitsL f) HQ.out.range (by rfl) _ Tryz.underlying280 (by rfl) (num_size f) ?_)
     | (refine wpList_store_mid rfl 280 (.tmp 2) (.tmp 28) rfl (w.heap.size) 0 (bitsL f).toArray (by rfl) (by rfl) (HZ.out.there f) (num_sizeA f) (bits_one f) ?_))
    obtain ⟨hs1,_,hs3⟩:=HZ.out.store f;refine bodyPost_ret (v:=.agg (bitsL f).toArray) (results_cell_row Tryz.results206 _ _ _ _ _ _ _ (by rfl) hs1 Tryz.underlying280 rfl (num_sizeA _)) rfl ⟨?_,HB.out.trans (hs3 _ (Nat.le_refl _))⟩;rw [HF.out];rfl
end
end Go.Proofs.YtkcdhaallnhhmaaGreat
