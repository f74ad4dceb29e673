/- Part 22 of the proof: IdPack, NumW. -/
import Derived.Laws.ResultCell
import Derived.Laws.Rows
import Derived.Test.YtkcdhaallnhhmaaGreatL20
namespace Go.Proofs.YtkcdhaallnhhmaaGreat
set_option linter.unusedSimpArgs false
set_option linter.unusedVariables false
set_option linter.unusedSectionVars false
set_option maxRecDepth 100000
set_option maxHeartbeats 16000000
section
open Go.RowKit Go.Lib
def packErr:Value:=.tuple #[.agg #[.int .u64 0,.int .u64 0],.int .i64 2]
def packV (s:ByteArray):Value:=if idS s=true then .tuple #[.agg #[.int .u64 (hiN s.data.toList),.int .u64 (loN s.data.toList)],.int .i64 0] else packErr
theorem pack_bad (s:ByteArray) (w:World) (hm:s.size≤maxLen) (hb:idS s=false) :
 Calls Tryz.prog 108 #[.string s] w fun e w'=>e=.returned packErr∧jB w w':=by
 have hc:chkV s=2:=by simp [chkV,hb]
 have Hc:=jH hc;clear hc hb
 go_enter Tryz.func108,Tryz.ntmps108
 go_wp2_with (go_at_call 78;refine (check_any _ _ hm).mono ?_;rw [Hc.out];rintro e w1 ⟨rfl,hb1⟩;obtain ⟨hc1,hf1⟩:=bcell hb1;have hz1:=hb1.size;simp at hz1)
 exact bodyPost_ret (v:=packErr) (by simp [packErr,results,Tryz.results108,go_sem,hc1,hf1]) rfl ⟨rfl,(((jR.alloc (Nat.le_refl _) _).trans (hb1.mono (by simp))).setCell (by simp) _).setCell (by simp) _⟩
theorem word_step (l:List UInt8) (a m pos:Nat) (hm:m<10) (hpos:pos % 10=m) (c:UInt8) (q:Nat) (hq:a+m=q) (hcq:dig l q=codeB c) :
 bits BinOp.or IntKind.u64 (partW l a m:Nat) (IntKind.u64.wrap (codeI (c.toNat:Int) * 2 ^ (6 * (9 - (pos:Int) % 10)).toNat))=(partW l a (m+1):Nat):=by
 have hc:dig l (a+m)=codeB c:=by rw [hq];exact hcq
 have h1:=partW_lt l a m (by omega);have h2:=partW_succ l a m hm;have h3:=partW_lt l a (m+1) (by omega);have e:(6 * (9 - (pos:Int) % 10)).toNat=6 * (9 - m):=by omega
 have hle:dig l (a+m) <<< (6 * (9 - m))≤partW l a (m+1):=by rw [←h2];exact Nat.right_le_or
 rw [Nat.shiftLeft_eq,hc] at h2 hle;rw [e,codeI_cast];have e2:((codeB c:Nat):Int) * 2 ^ (6 * (9 - m))=((codeB c * 2 ^ (6 * (9 - m)):Nat):Int):=by
  rw [Int.natCast_mul,Int.natCast_pow];rfl
 rw [e2,u64_wrap _ (by omega),u64_or_nat _ _ (by omega) (by omega),h2]
theorem pack_good (s:ByteArray) (w:World) (hm:s.size≤maxLen) (hb:idS s=true) :
 Calls Tryz.prog 108 #[.string s] w (jP w (packV s)):=by
 have hc:chkV s=0:=by simp [chkV,hb]
 have Hc:=jH hc;obtain ⟨hl1,hl2,hok⟩:=idS_okTo s hb;have hv:packV s=.tuple #[.agg #[.int .u64 (hiN s.data.toList),.int .u64 (loN s.data.toList)],.int .i64 0]:=by simp [packV,hb]
 have Hv:=jH hv;clear hc hb hv
 go_enter Tryz.func108,Tryz.ntmps108
 go_wp2_with (go_at_call 78;refine (check_any _ _ hm).mono ?_;rw [Hc.out];rintro e w1 ⟨rfl,hb1⟩;obtain ⟨hc1,hf1⟩:=bcell hb1;have hz1:=hb1.size;simp at hz1)
 go_loopw [6,7,8] (fun _ _ _ w'=>∃pos n:Nat,pos≤s.size∧w'=((w1.alloc (.cells #[.int .u64 (partW s.data.toList 0 (min pos 10):Nat),.int .u64 (partW s.data.toList 10 (pos - 10):Nat)] 130)).alloc (.stringIter s pos)).drewN n) (fun _ _ _ w'=>s.size - w'.iterPos (w1.heap.size+1))
 case atStart=>exact ⟨0,0,Nat.zero_le _,by simp [partW_zero];rfl⟩
 case round =>
  obtain ⟨pos,n,hp0,rfl⟩:=hrel
  by_cases hp:pos<s.size
  · have hbt:=hok pos hp hp
    have ha:=okB_ascii _ hbt;have hnx:∀ty,(Instr.next (.pointer (some ⟨w1.heap.size+1,0,none⟩)) true ty).run Tryz.prog (((w1.alloc (.cells #[.int .u64 (partW s.data.toList 0 (min pos 10):Nat),.int .u64 (partW s.data.toList 10 (pos - 10):Nat)] 130)).alloc (.stringIter s pos)).drewN n)=_:=fun ty=>next_ascii_n (w1.alloc _) s pos n _ ty (by simp) hp ha
    have hbd:=codeI_bd (s[pos]).toNat;have hdg:dig s.data.toList pos=codeB s[pos]:=by rw [dig_at _ _ (by simpa using hp)];rfl
    by_cases h10:pos<10
    · have hst:=word_step s.data.toList 0 pos pos h10 (by omega) s[pos] pos (by omega) hdg
      have Hst:=jH hst;clear hbt hst hdg;go_wp2
      go_region_with (go_at_call 112;refine (code_any _ _ (by omega) (by omega)).mono ?_;rintro e w' ⟨rfl,rfl⟩)
      all_goals
        go_roundw
        case rel =>
         (repeat apply Exists.intro)
         refine ⟨⟨pos+1,n+1,by omega,?_⟩,rfl⟩;rw [Nat.min_eq_left (Nat.le_of_lt h10),Hst.out,Nat.min_eq_left (show pos+1≤10 by omega),show pos - 10=pos+1 - 10 by omega]
        case measure=>rw [iterPos_n _ _ _ _ _ (by simp),iterPos_n _ _ _ _ _ (by simp)];omega
    · have hst:=word_step s.data.toList 10 (pos - 10) pos (by omega) (by omega) s[pos] pos (by omega) hdg
      have Hst:=jH hst;clear hbt hst hdg;go_wp2
      go_region_with (go_at_call 112;refine (code_any _ _ (by omega) (by omega)).mono ?_;rintro e w' ⟨rfl,rfl⟩)
      all_goals
        go_roundw
        case rel =>
         (repeat apply Exists.intro)
         refine ⟨⟨pos+1,n+1,by omega,?_⟩,rfl⟩;rw [Hst.out,show min pos 10=min (pos+1) 10 by omega,show pos - 10+1=pos+1 - 10 by omega]
        case measure=>rw [iterPos_n _ _ _ _ _ (by simp),iterPos_n _ _ _ _ _ (by simp)];omega
  · have hnx:∀ty,(Instr.next (.pointer (some ⟨w1.heap.size+1,0,none⟩)) true ty).run Tryz.prog (((w1.alloc (.cells #[.int .u64 (partW s.data.toList 0 (min pos 10):Nat),.int .u64 (partW s.data.toList 10 (pos - 10):Nat)] 130)).alloc (.stringIter s pos)).drewN n)=_:=fun ty=>next_end_n (w1.alloc _) s pos n _ ty (by simp) hp
    have hv1:partW s.data.toList 0 (min pos 10)=hiN s.data.toList:=by
     rcases Nat.lt_or_ge pos 10 with h|h
     · exact partW_all _ _ _ (by omega) (by simp;omega)
     · rw [Nat.min_eq_right h,partW_ten];rfl
    have hv2:partW s.data.toList 10 (pos - 10)=loN s.data.toList:=partW_all _ _ _ (by omega) (by simp;omega);rw [←hv1,←hv2] at Hv;clear hv1 hv2;have q1:w.heap.size<w1.heap.size:=by omega
    have q2:w.heap.size<w1.heap.size+1:=by omega
    have q3:w.heap.size≠w1.heap.size:=by omega
    have q4:w.heap.size≠w1.heap.size+1:=by omega
    have q5:w1.cell? ⟨w.heap.size,0,none⟩=some (.int .u64 0):=by rw [hc1 _ _ (by simp)];simp [go_sem]
    have q6:w1.cell? ⟨w.heap.size,1,none⟩=some (.int .u64 0):=by rw [hc1 _ _ (by simp)];simp [go_sem]
    have q7:w1.frozen? ⟨w.heap.size,0,none⟩=false:=by rw [hf1 _ _ (by simp)];simp [go_sem]
    have q8:w1.frozen? ⟨w.heap.size,1,none⟩=false:=by rw [hf1 _ _ (by simp)];simp [go_sem]
    go_wp2
    exact bodyPost_ret (v:=packV s) (by rw [Hv.out];simp [results,Tryz.results108,go_sem,q1,q5,q6,q7,q8]) rfl
      ⟨rfl,below_drewN (((((jR.alloc (Nat.le_refl _) _).trans (hb1.mono (by simp))).setCell (by simp) _).setCell (by simp) _).alloc (by simp [World.setCell];omega) _ |>.alloc (by simp [World.setCell];omega) _) n⟩
theorem pack_any (s:ByteArray) (w:World) (hm:s.size≤maxLen) :
 Calls Tryz.prog 108 #[.string s] w (jP w (packV s)):=by
 cases hb:idS s with
 | true=>exact pack_good s w hm hb
 | false =>
   have:packV s=packErr:=by simp [packV,hb]
   rw [this];exact pack_bad s w hm hb
end
section
open Go.RowKit Go.Lib
theorem testBit_dbl (n i:Nat):(2 * n).testBit (i+1)=n.testBit i:=by
 rw [Nat.testBit_succ]
 congr 1
 omega
theorem testBit_dbl0 (n:Nat):(2 * n).testBit 0=false:=by
 rw [Nat.testBit_zero];simp
theorem results_row_tmp {fn:Func} {p u:Tmp} {ty:TypeId} (h:fn.results=#[.cell p ty,.tmp u]) {tmps:Array Value} {w:World} {g:Nat} {v:Value} (hp:tmps.getD p undef=.pointer (some ⟨g,0,none⟩)) (hl:(loadVar ty ⟨g,0,none⟩).run Tryz.prog w=.ok v w) :
 (results fn tmps).run Tryz.prog w=.ok (.tuple #[v,tmps.getD u undef]) w:=by
 rw [results_cell_tmp h,hp];simp [asAddr,hl,Result.andThen]
theorem numV_ext {f:Nat→Bool} {n:Nat} (h:∀j,j<128→f j=n.testBit j):Value.agg (bitsL f).toArray=numV n:=by
 unfold numV;rw [bitsL_ext h]
theorem box4_3 (w:World) (a b c d:Obj):((((w.alloc a).alloc b).alloc c).alloc d).heap[w.heap.size+1+1+1]?=some d:=by
 have h:=heap_alloc_new (((w.alloc a).alloc b).alloc c) d
 simpa using h
theorem num2_any (n:Nat) (w:World) :
 Calls Tryz.prog 230 #[numV n] w (jP w (numV (2 * n))):=by
 unfold numV
 go_enter Tryz.func230,Tryz.ntmps230
 go_wp2_with fail
 rw [zero_bits]
 go_loopg [4] 127 (fun g s4 wr=>∃(i:Nat) (f:Nat→Bool),i<128∧127 - i≤g∧s4=.int .i64 (i+1:Nat)∧Hid (∀j,j<128→f j=(decide (j≤i) && (2 * n).testBit j))∧jB w wr∧BitB wr w.heap.size n.testBit∧BitB wr (w.heap.size+1) (fun _=>false)∧BitB wr (w.heap.size+1+1) f)
 case atStart=>exact ⟨0,fun _=>false,by omega,Nat.le_refl _,rfl,jH (fun j hj=>by
                  cases j with
                  | zero=>simp [testBit_dbl0]
                  | succ j=>simp),balloc (balloc (balloc jR _) _) _,box3_0 _ _ _ _,box3_1 _ _ _ _,box3_2 _ _ _ _⟩
 case round =>
  obtain ⟨i,f,hi,hg,rfl,HF,hb,hx,hz,hq⟩:=hrel;rename World=>wr
  have HB:=jH hb;have HX:=jH hx;have HZ:=jH hz;have HQ:=jH hq;clear hb hz
  by_cases hlt:i+1<128
  · obtain ⟨c1,c2⟩:=hx.cell (i:=i) (by omega)
    obtain ⟨c3,c4⟩:=hq.cell hlt;have HL:=jH hlt;clear hx hq;have z1:((i+1:Nat):Int)<128:=by omega
    have z2:wrap64 (((i+1:Nat):Int) - 1)=(i:Int):=by unfold wrap64;omega
    have z3:(i:Int)<128:=by omega
    have z4:(0:Int)≤(i:Int):=by omega
    have z5:(0:Int)≤((i+1:Nat):Int):=by omega
    go_wp2_with fail
    go_roundg (127 - (i+1))
    case measure=>omega
    case rel=>exact ⟨i+1,updB f (i+1) (n.testBit i),HL.out,Nat.le_refl _,by go_num,jH (fun j hj=>by
                 unfold updB
                 by_cases e:j=i+1
                 · subst e;simp [testBit_dbl]
                 · rw [if_neg e,HF.out j hj]
                   congr 1
                   rw [decide_eq_decide];omega),HB.out.setCell (by simp;omega) _,HX.out.ne (by omega),HZ.out.ne (by omega),HQ.out.set HL.out _⟩
  · obtain rfl:i=127:=by omega
    clear hx hq
    go_wp2_with (first
     | (refine wpList_load_list rfl 280 (.tmp 3) rfl (w.heap.size+1+1) 0 (bitsL f) HQ.out.range (by rfl) _ Tryz.underlying280 (by rfl) (num_size f) ?_)
     | (refine wpList_store_mid rfl 280 (.tmp 2) (.tmp 17) rfl (w.heap.size+1) 0 (bitsL f).toArray (by rfl) (by rfl) (HZ.out.there f) (num_sizeA f) (bits_one f) ?_))
    obtain ⟨hs1,_,hs3⟩:=HZ.out.store f;refine bodyPost_ret (v:=.agg (bitsL f).toArray) (results_cell_row Tryz.results230 _ _ _ _ _ _ _ (by rfl) hs1 Tryz.underlying280 rfl (num_sizeA f)) rfl ⟨?_,HB.out.trans (hs3 _ (by omega))⟩;rw [numV_ext (fun j hj=>by rw [HF.out j hj,decide_eq_true (by omega),Bool.true_and])];rfl
def ofF (hi lo i j:Nat):Bool:=if j<64 then decide (j<i) && lo.testBit j else decide (j<64+i) && hi.testBit (j - 64)
theorem of_end {hi lo:Nat} (hl:lo<18446744073709551616) {j:Nat} (hj:j<128):ofF hi lo 64 j=(hi * 18446744073709551616+lo).testBit j:=by
 unfold ofF;have e:(18446744073709551616:Nat)=2 ^ 64:=by decide
 rw [e] at hl ⊢;rw [Nat.mul_comm,Nat.testBit_two_pow_mul_add _ hl]
 by_cases h:j<64
 · rw [if_pos h,if_pos h,decide_eq_true h,Bool.true_and]
 · rw [if_neg h,if_neg h,decide_eq_true (by omega),Bool.true_and]
theorem shr_bit (x i:Nat) (hx:x<18446744073709551616) (hi:i<64):((((x:Int) / 2 ^ i).tmod 2 == 1)=x.testBit i):=by
 rw [Nat.testBit_eq_decide_div_mod_eq];have e:((x:Int) / 2 ^ i).tmod 2=((x / 2 ^ i % 2:Nat):Int):=by
  have e1:(x:Int) / 2 ^ i=((x / 2 ^ i:Nat):Int):=by rw [Int.natCast_ediv,Int.natCast_pow];rfl
  rw [e1];rfl
 rw [e];generalize x / 2 ^ i % 2=m;rw [Bool.eq_iff_iff];simp
 omega
theorem numOf_any (hi lo:Nat) (hh:hi<18446744073709551616) (hl:lo<18446744073709551616) (w:World) :
 Calls Tryz.prog 229 #[.int .u64 hi,.int .u64 lo] w (jP w (numV (hi * 18446744073709551616+lo))):=by
 have HH:=jH hh;have HLo:=jH hl;clear hh hl
 go_enter Tryz.func229,Tryz.ntmps229
 go_wp2_with fail
 rw [zero_bits]
 go_loopg [6] 64 (fun g s6 wr=>∃(i:Nat) (f:Nat→Bool),i≤64∧64 - i≤g∧s6=.int .i64 i∧Hid (∀j,j<128→f j=ofF hi lo i j)∧jB w wr∧BitB wr w.heap.size (fun _=>false)∧BitB wr (w.heap.size+1) f)
 case atStart=>exact ⟨0,fun _=>false,by omega,Nat.le_refl _,rfl,jH (fun j hj=>by unfold ofF;split <;> simp;omega),balloc (balloc jR _) _,box_old _ _ _,box_new _ _ _⟩
 case round =>
  obtain ⟨i,f,hi2,hg,rfl,HF,hb,hz,hq⟩:=hrel;rename World=>wr
  have HB:=jH hb;have HZ:=jH hz;have HQ:=jH hq;clear hb hz
  by_cases hlt:i<64
  · obtain ⟨c3,c4⟩:=hq.cell (i:=i) (by omega)
    obtain ⟨c5,c6⟩:=hq.cell (i:=64+i) (by omega);have HL:=jH hlt;clear hq;have z1:(i:Int)<64:=by omega
    have z2:wrap64 (64+(i:Int))=((64+i:Nat):Int):=by unfold wrap64;omega
    have z3:((64+i:Nat):Int)<128:=by omega
    have z4:(0:Int)≤(i:Int):=by omega
    have z5:(0:Int)≤((64+i:Nat):Int):=by omega
    have z6:(i:Int)<128:=by omega
    have z7:IntKind.u64.wrap (i:Int)=(i:Int):=u64_wrap i (by omega);have g1:=shr_bit lo i HLo.out hlt;have g2:=shr_bit hi i HH.out hlt;go_wp2_with fail
    go_roundg (64 - (i+1))
    case measure=>omega
    case rel=>exact ⟨i+1,updB (updB f i (lo.testBit i)) (64+i) (hi.testBit i),HL.out,Nat.le_refl _,by go_num,jH (fun j hj=>by
                 have hL:=HL.out;unfold updB
                 by_cases e:j=64+i
                 · subst e
                   rw [if_pos rfl];unfold ofF;rw [if_neg (by omega),decide_eq_true (by omega),Bool.true_and]
                   congr 1
                   omega
                 · rw [if_neg e]
                   by_cases e2:j=i
                   · subst e2
                     rw [if_pos rfl];unfold ofF;rw [if_pos hL,decide_eq_true (by omega),Bool.true_and]
                   · rw [if_neg e2,HF.out j hj]
                     unfold ofF
                     split
                     · congr 1
                       rw [decide_eq_decide];omega
                     · congr 1
                       rw [decide_eq_decide];omega),(HB.out.setCell (by simp) _).setCell (by simp) _,(HZ.out.ne (by omega)).ne (by omega),(HQ.out.set (by have:=HL.out;omega) _).set (by have:=HL.out;omega) _⟩
  · obtain rfl:i=64:=by omega
    clear hq
    go_wp2_with (first
     | (refine wpList_load_list rfl 280 (.tmp 5) rfl (w.heap.size+1) 0 (bitsL f) HQ.out.range (by rfl) _ Tryz.underlying280 (by rfl) (num_size f) ?_)
     | (refine wpList_store_mid rfl 280 (.tmp 4) (.tmp 30) rfl (w.heap.size) 0 (bitsL f).toArray (by rfl) (by rfl) (HZ.out.there f) (num_sizeA f) (bits_one f) ?_))
    obtain ⟨hs1,_,hs3⟩:=HZ.out.store f;refine bodyPost_ret (v:=.agg (bitsL f).toArray) (results_cell_row Tryz.results229 _ _ _ _ _ _ _ (by rfl) hs1 Tryz.underlying280 rfl (num_sizeA f)) rfl ⟨?_,HB.out.trans (hs3 _ (Nat.le_refl _))⟩;rw [numV_ext (fun j hj=>(HF.out j hj).trans (of_end HLo.out hj))]
theorem numAdd_any (a b:Nat) (ha:a<340282366920938463463374607431768211456) (hb2:b<340282366920938463463374607431768211456) (hs:a+b<340282366920938463463374607431768211456) (w:World) :
 Calls Tryz.prog 208 #[numV a,numV b] w (jP w (.tuple #[numV (a+b),.bool true])):=by
 unfold numV;have HC0:=jH (show carN a b 128=0 by rw [carN_end a b 128 (by rw [←pow128];exact ha) (by rw [←pow128];exact hb2),←pow128];exact Nat.div_eq_of_lt hs);clear ha hb2 hs
 go_enter Tryz.func208,Tryz.ntmps208
 go_wp2_with fail
 rw [zero_bits]
 go_loopg [7,8] 128 (fun g s7 s8 wr=>∃(i:Nat) (f:Nat→Bool),i≤128∧128 - i≤g∧s8=.int .i64 i∧s7=.int .i64 (carN a b i:Nat)∧Hid (∀j,j<128→f j=(decide (j<i) && (a+b).testBit j))∧jB w wr∧BitB wr w.heap.size a.testBit∧BitB wr (w.heap.size+1) b.testBit∧BitB wr (w.heap.size+1+1) (fun _=>false)∧BitB wr (w.heap.size+1+1+1) f)
 case atStart=>exact ⟨0,fun _=>false,by omega,Nat.le_refl _,rfl,by rw [carN_zero];rfl,jH (fun j hj=>by simp),balloc (balloc (balloc (balloc jR _) _) _) _,BitB.below (box3_0 _ _ _ _) (balloc jR _),BitB.below (box3_1 _ _ _ _) (balloc jR _),BitB.below (box3_2 _ _ _ _) (balloc jR _),box4_3 _ _ _ _ _⟩
 case round =>
  obtain ⟨i,f,hi2,hg,rfl,rfl,HF,hb,hx,hy,hz,hq⟩:=hrel;rename World=>wr
  have HB:=jH hb;have HX:=jH hx;have HY:=jH hy;have HZ:=jH hz;have HQ:=jH hq;clear hb hz
  by_cases hlt:i<128
  · obtain ⟨c1,c2⟩:=hx.cell hlt
    obtain ⟨c3,c4⟩:=hy.cell hlt;obtain ⟨c5,c6⟩:=hq.cell hlt;have HL:=jH hlt;clear hx hy hq;have z1:(i:Int)<128:=by omega
    have z4:(0:Int)≤(i:Int):=by omega
    have hcs:=carN_succ a b i;have hsb:=sum_bit a b i;have hcl:=carN_le a b i;obtain ⟨cc,hcc⟩:∃cc,cc=carN a b i:=⟨_,rfl⟩;obtain ⟨cn,hcn⟩:∃cn,cn=carN a b (i+1):=⟨_,rfl⟩;obtain ⟨sb,hsb2⟩:∃sb,sb=(a+b).testBit i:=⟨_,rfl⟩;rw [←hcc] at hcs hsb hcl ⊢;rw [←hcn] at hcs;rw [←hsb2] at hsb;have HCN:=jH hcn;have HSB:=jH hsb2;clear hcc hcn hsb2;have REL:Hid (∀(q:Bool),q=sb→(∀j,j<128→updB f i q j=(decide (j<i+1) && (a+b).testBit j))):=jH (fun q hq j hj=>by
     unfold updB
     by_cases e:j=i
     · subst e;rw [if_pos rfl,hq,HSB.out];simp
     · rw [if_neg e,HF.out j hj]
       congr 1
       rw [decide_eq_decide];omega)
    cases hA:a.testBit i <;> cases hB:b.testBit i
    all_goals
      rw [hA] at c1 hcs hsb;rw [hB] at c3 hcs hsb;simp only [Bool.toNat_false,Bool.toNat_true,Nat.add_zero] at hcs hsb
      have HN:=jH (And.intro hcs hsb);have HCL:=jH hcl;clear hcs hsb hcl hA hB
      as_aux_lemma =>
      go_wp2_with fail
      go_roundg (128 - (i+1))
      case measure=>omega
      case rel=>exact ⟨i+1,updB f i _,HL.out,Nat.le_refl _,by go_num,by
                   rw [←HCN.out,HN.out.1];obtain rfl|rfl:cc=0∨cc=1:=by have:=HCL.out;omega
                   all_goals exact congrArg (Value.int .i64) (by decide +kernel),jH (REL.out _ (by
                   rw [HN.out.2];obtain rfl|rfl:cc=0∨cc=1:=by have:=HCL.out;omega
                   all_goals decide +kernel)),HB.out.setCell (by simp;omega) _,HX.out.ne (by omega),HY.out.ne (by omega),HZ.out.ne (by omega),HQ.out.set HL.out _⟩
  · obtain rfl:i=128:=by omega
    rw [HC0.out];clear hx hy hq
    go_wp2_with (first
     | (refine wpList_load_list rfl 280 (.tmp 6) rfl (w.heap.size+1+1+1) 0 (bitsL f) HQ.out.range (by rfl) _ Tryz.underlying280 (by rfl) (num_size f) ?_)
     | (refine wpList_store_mid rfl 280 (.tmp 4) (.tmp 38) rfl (w.heap.size+1+1) 0 (bitsL f).toArray (by rfl) (by rfl) (HZ.out.there f) (num_sizeA f) (bits_one f) ?_))
    obtain ⟨hs1,_,hs3⟩:=HZ.out.store f;have hld:=hs1.load;refine bodyPost_ret (v:=.tuple #[.agg (bitsL f).toArray,.bool true]) (results_row_tmp Tryz.results208 (by rfl) hld) rfl ⟨?_,HB.out.trans (hs3 _ (by omega))⟩;rw [numV_ext (fun j hj=>(HF.out j hj).trans (by rw [decide_eq_true hj,Bool.true_and]))];rfl
theorem numCmp_any (a b:Nat) (ha:a<340282366920938463463374607431768211456) (hb2:b<340282366920938463463374607431768211456) (w:World) :
 Calls Tryz.prog 205 #[numV a,numV b] w (jP w (.int .i64 (cmpN a b))):=by
 unfold numV;have HAB:=jH (show a / 2 ^ 128=b / 2 ^ 128 by rw [←pow128,Nat.div_eq_of_lt ha,Nat.div_eq_of_lt hb2]);clear ha hb2
 go_enter Tryz.func205,Tryz.ntmps205
 go_wp2_with fail
 go_loopg [5] 128 (fun g s5 wr=>∃(i:Nat),i≤128∧i≤g∧s5=.int .i64 ((i:Int) - 1)∧Hid (a / 2 ^ i=b / 2 ^ i)∧jB w wr∧BitB wr w.heap.size a.testBit∧BitB wr (w.heap.size+1) b.testBit)
 case atStart=>exact ⟨128,Nat.le_refl _,Nat.le_refl _,rfl,HAB,balloc (balloc jR _) _,box_old _ _ _,box_new _ _ _⟩
 case round =>
  obtain ⟨i,hi2,hg,rfl,HE,hb,hx,hy⟩:=hrel;rename World=>wr
  have HB:=jH hb;have HX:=jH hx;have HY:=jH hy;clear hb
  cases i with
  | zero =>
    have HC:=jH (show cmpN a b=0 by
     have:=HE.out;simp at this
     simp [cmpN,this])
    clear hx hy;go_wp2_with fail
    go_ret
    exact ⟨by rw [HC.out];rfl,HB.out⟩
  | succ i =>
    obtain ⟨c1,c2⟩:=hx.cell (i:=i) (by omega);obtain ⟨c3,c4⟩:=hy.cell (i:=i) (by omega);have z0:(((i+1:Nat):Int) - 1)=(i:Int):=by omega
    rw [z0];have z1:(i:Int)<128:=by omega
    have z4:(0:Int)≤(i:Int):=by omega
    have HI:=jH hi2;clear hx hy z0
    by_cases hd:a.testBit i=b.testBit i
    · have HN:=jH (cmpN_next HE.out hd)
      rw [←hd] at c3;generalize a.testBit i=q at c1 c3;clear hd
      as_aux_lemma =>
      cases q
      all_goals
        go_upto_region 4 with fail
        go_region
        all_goals
          go_wp2_with fail
          go_roundg i
          case measure=>omega
          case rel=>exact ⟨i,by have:=HI.out;omega,Nat.le_refl _,by go_num,HN,HB.out.drew,HX.out,HY.out⟩
    · have HC:=jH (cmpN_bit HE.out hd)
      cases hA:a.testBit i <;> cases hB:b.testBit i
      · rw [hA,hB] at hd;exact absurd rfl hd
      · rw [hA] at c1
        rw [hB] at c3;rw [hA] at HC;clear hd hA hB
        as_aux_lemma =>
        go_upto_region 4 with fail
        go_region
        all_goals
          go_wp2_with fail
          go_ret
          exact ⟨by rw [HC.out];rfl,HB.out.drew⟩
      · rw [hA] at c1
        rw [hB] at c3;rw [hA] at HC;clear hd hA hB
        as_aux_lemma =>
        go_upto_region 4 with fail
        go_region
        all_goals
          go_wp2_with fail
          go_ret
          exact ⟨by rw [HC.out];rfl,HB.out.drew⟩
      · rw [hA,hB] at hd;exact absurd rfl hd
end
end Go.Proofs.YtkcdhaallnhhmaaGreat
