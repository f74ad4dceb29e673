/- Part 25 of the proof: NumX, Near13. -/
import Derived.Test.YtpmfcpdelkchaaaGreatL19
namespace Go.Proofs.YtpmfcpdelkchaaaGreat
set_option linter.unusedSimpArgs false
set_option linter.unusedVariables false
set_option linter.unusedSectionVars false
set_option maxRecDepth 100000
set_option maxHeartbeats 16000000
section
open Go.RowKit Go.Lib
theorem list_named {P:Program} {ops:Array Oper} {Q:Exit→Act→World→Prop} {rest:List Oper} {a:Act} {w:World} (h:∀W,W=w→wpList P ops Q rest a W):wpList P ops Q rest a w:=h w rfl
theorem step_wanted {P:Program} {ops:Array Oper} {o:Oper} {a:Act} {w:World} {K:Act→World→Prop} {Q:Exit→Act→World→Prop} {X:Prop} (hg:o.guard=none) (h:Oper.wp P o a w K Q):if Region.wanted o (yielded ops a.tmps)=true then Oper.wp P o a w K Q else X:=by
 have hw:Region.wanted o (yielded ops a.tmps)=true:=by simp [Region.wanted,hg]
 rw [if_pos hw];exact h
theorem mod_pow_succ (b i:Nat):b % 2 ^ (i+1)=b % 2 ^ i+2 ^ i * (b.testBit i).toNat:=by
 rw [Nat.pow_succ,Nat.mod_mul,←bit_nat]
theorem numV_lt (n:Nat):bitsL (0:Nat).testBit=bitsL fun _=>false:=bitsL_ext (fun j _=>by simp)
theorem zero_store (w:World) (B:Nat) (hB:w.heap.size=B):(storeCells ⟨B,0,none⟩ Tryz.zeroCells326.toList).run Tryz.prog (w.alloc (.cells Tryz.zeroCells326 326))=.ok () (w.alloc (.cells Tryz.zeroCells326 326)):=by
 subst hB;exact run_storeCells_new w 326 _ _ (by kernel_rfl) rfl (by rw [zero_bits];exact bits_one _)
theorem bits_store (w:World) (B:Nat) (hB:w.heap.size=B) (f:Nat→Bool):(storeCells ⟨B,0,none⟩ (bitsL f)).run Tryz.prog (w.alloc (.cells Tryz.zeroCells326 326))=.ok () (w.alloc (.cells (bitsL f).toArray 326)):=by
 subst hB;have:=run_storeCells_new (P:=Tryz.prog) w 326 Tryz.zeroCells326 (bitsL f).toArray (num_sizeA f) (by rw [zero_bits];simp [bitsL_len]) (bits_one f)
 simpa using this
theorem numMul_any (a b:Nat) (ha:a<18446744073709551616) (hb2:b<18446744073709551616) (w:World) :
 Calls Tryz.prog 264 #[.int .u64 a,.int .u64 b] w (jP w (numV (a * b))):=by
 have CO:=jH (fun W=>show Calls Tryz.prog 287 #[.int .u64 0,.int .u64 a] W (jP W (.agg (bitsL a.testBit).toArray)) from by
  have:=numOf_any 0 a (by omega) ha W;rw [Nat.zero_mul,Nat.zero_add] at this;exact this)
 have CA:=jH (fun (x y:Nat) (h:x+y<340282366920938463463374607431768211456) W=>numAdd_any x y (by omega) (by omega) h W);have HA:=jH ha;have HB2:=jH hb2;have hst:=zero_store (w.alloc (.cells Tryz.zeroCells326 326)) (w.heap.size+1) (by simp);have hst2:=fun W=>bits_store W W.heap.size rfl a.testBit
 clear ha hb2
 go_enter Tryz.func264,Tryz.ntmps264
 go_wp2_with (first
  | (go_at_call 287
     refine calls_named ?_;intro W1 hW1;rw [zero_bits] at hW1;have hb1:jB w W1:=by rw [hW1];exact balloc (balloc jR _) _
     have hx1:BitB W1 w.heap.size (fun _=>false):=by rw [hW1];exact box_old _ _ _
     have hx2:BitB W1 (w.heap.size+1) (fun _=>false):=by rw [hW1];exact box_new _ _ _
     have hsz:W1.heap.size=w.heap.size+2:=by rw [hW1];simp
     clear hW1;refine (CO.out W1).mono ?_;rintro e w2 ⟨rfl,hb2⟩;have HX1:=jH (hx1.below hb2);have HX2:=jH (hx2.below hb2);have HB2w:=jH (bthen hb1 hb2);have HSZ:=jH (show w.heap.size+2≤w2.heap.size by have:=hb2.size;omega);clear hb1 hx1 hx2 hb2 hsz))
 go_loopg [7] 64 (fun g s7 wr=>∃(i o x:Nat),i≤64∧64 - i≤g∧s7=.int .i64 i∧Hid (o=a * (b % 2 ^ i)∧x=a * 2 ^ i)∧jB w wr∧BitB wr w.heap.size (fun _=>false)∧BitB wr (w.heap.size+1) o.testBit∧BitB wr w2.heap.size x.testBit)
 case atStart=>exact ⟨0,0,a,by omega,Nat.le_refl _,rfl,jH (by simp [Nat.mod_one]),balloc HB2w.out _,HX1.out.below (balloc jR _),by
                  have:=HX2.out.below (balloc jR (.cells (bitsL a.testBit).toArray 326));unfold BitB at this ⊢;rw [numV_lt 0];exact this,bit_new w2 a.testBit⟩
 case round =>
  obtain ⟨i,o,x,hi2,hg,rfl,HE,hb,hz,ho,hx⟩:=hrel;rename World=>wr
  have HB:=jH hb;have HZ:=jH hz;have HO:=jH ho;have HX:=jH hx;clear hb hz ho hx
  by_cases hlt:i<64
  · have HL:=jH hlt
    have z1:(i:Int)<64:=by omega
    have z4:(0:Int)≤(i:Int):=by omega
    have z7:IntKind.u64.wrap (i:Int)=(i:Int):=u64_wrap i (by omega);have g1:=shr_bit b i HB2.out hlt;have hbx:=Nat.mod_lt b (Nat.two_pow_pos (i+1));have hbl:b % 2 ^ (i+1)≤b:=Nat.mod_le _ _;have hms:=mod_pow_succ b i;have hab:a * b<340282366920938463463374607431768211456:=by
     have h1:=HA.out;have h2:=HB2.out;have h3:a * b≤18446744073709551615 * 18446744073709551615:=Nat.mul_le_mul (by omega) (by omega);omega
    have hox:a * (b % 2 ^ (i+1))≤a * b:=Nat.mul_le_mul_left a hbl;have HXS:=jH (show 2 * x=a * 2 ^ (i+1) by rw [HE.out.2,Nat.pow_succ,Nat.mul_comm (2 ^ i) 2,Nat.mul_left_comm]);have CD:=jH (fun W=>show Calls Tryz.prog 288 #[.agg (bitsL x.testBit).toArray] W (jP W (.agg (bitsL (2 * x).testBit).toArray)) from num2_any x W)
    cases hq:b.testBit i with
    | true =>
      rw [hq] at g1 hms;have hsum:o+x=a * (b % 2 ^ (i+1)):=by
       rw [HE.out.1,HE.out.2,hms,Nat.mul_add];simp
      have HSUM:=jH hsum;have CAx:=jH (fun W=>show Calls Tryz.prog 268 #[.agg (bitsL o.testBit).toArray,.agg (bitsL x.testBit).toArray] W (jP W (.tuple #[.agg (bitsL (o+x).testBit).toArray,.bool true])) from CA.out o x (by omega) W);clear hbx hbl hms hab hox hq hsum CA hlt
      as_aux_lemma =>
      go_wp2_with (first
       | (refine wpList_load_list rfl 326 (.tmp 5) rfl (w.heap.size+1) 0 (bitsL o.testBit) HO.out.range (by rfl) _ Tryz.underlying326 (by rfl) (num_size o.testBit) ?_)
       | (go_at_call 268
          refine (CAx.out wr).mono ?_;rintro e w4 ⟨rfl,hb4⟩;have HB4:=jH (bthen HB.out hb4);have HZ4:=jH (HZ.out.below hb4);have HO4:=jH (HO.out.below hb4);have HX4:=jH (HX.out.below hb4);clear hb4)
       | (refine wpList_store_mid rfl 326 (.tmp 5) (.tmp 25) rfl (w.heap.size+1) 0 (bitsL (o+x).testBit).toArray (by rfl) (by rfl) (HO4.out.there _) (num_sizeA _) (bits_one _) ?_
          refine list_named ?_;intro W5 hW5;obtain ⟨s1,s2,s3⟩:=HO4.out.store (o+x).testBit;have hW5':W5=w4.setCells (w.heap.size+1) 0 (bitsL (o+x).testBit):=hW5;rw [←hW5'] at s1 s2 s3;have HO5:=jH s1;have HZ5:=jH (show BitB W5 w.heap.size (fun _=>false) from (s2 _ (by omega)).trans HZ4.out);have HX5:=jH (show BitB W5 w2.heap.size x.testBit from (s2 _ (by have:=HSZ.out;omega)).trans HX4.out);have HB5:=jH (HB4.out.trans (s3 _ (by omega)))
          clear hW5 hW5' s1 s2 s3)
       | (refine wpList_load_list rfl 326 (.tmp 6) rfl (w2.heap.size) 0 (bitsL x.testBit) HX5.out.range (by rfl) _ Tryz.underlying326 (by rfl) (num_size x.testBit) ?_)
       | (refine wpList_load_list rfl 326 (.tmp 6) rfl (w2.heap.size) 0 (bitsL x.testBit) HX.out.range (by rfl) _ Tryz.underlying326 (by rfl) (num_size x.testBit) ?_)
       | (go_at_call 288
          refine (CD.out W5).mono ?_;rintro e w6 ⟨rfl,hb6⟩;have HB6:=jH (bthen HB5.out hb6);have HZ6:=jH (HZ5.out.below hb6);have HO6:=jH (HO5.out.below hb6);have HX6:=jH (HX5.out.below hb6);clear hb6)
       | (refine wpList_store_mid rfl 326 (.tmp 6) (.tmp 28) rfl (w2.heap.size) 0 (bitsL (2 * x).testBit).toArray (by rfl) (by rfl) (HX6.out.there _) (num_sizeA _) (bits_one _) ?_
          refine list_named ?_;intro W7 hW7;obtain ⟨s1,s2,s3⟩:=HX6.out.store (2 * x).testBit;have hW7':W7=w6.setCells (w2.heap.size) 0 (bitsL (2 * x).testBit):=hW7;rw [←hW7'] at s1 s2 s3;have HX7:=jH s1;have HZ7:=jH (show BitB W7 w.heap.size (fun _=>false) from (s2 _ (by have:=HSZ.out;omega)).trans HZ6.out);have HO7:=jH (show BitB W7 (w.heap.size+1) (o+x).testBit from (s2 _ (by have:=HSZ.out;omega)).trans HO6.out)
          have HB7:=jH (HB6.out.trans (s3 _ (by have:=HSZ.out;omega)));clear hW7 hW7' s1 s2 s3))
      go_roundg (64 - (i+1))
      case measure=>omega
      case rel=>exact ⟨i+1,o+x,2 * x,HL.out,Nat.le_refl _,by go_num,jH ⟨HSUM.out,HXS.out⟩,HB7.out,HZ7.out,HO7.out,HX7.out⟩
    | false =>
      rw [hq] at g1 hms;have HSUM:=jH (show o=a * (b % 2 ^ (i+1)) by rw [HE.out.1,hms];simp);clear hbx hbl hms hab hox hq CA hlt
      as_aux_lemma =>
      go_wp2_with (first
       | (refine wpList_load_list rfl 326 (.tmp 6) rfl (w2.heap.size) 0 (bitsL x.testBit) HX.out.range (by rfl) _ Tryz.underlying326 (by rfl) (num_size x.testBit) ?_)
       | (go_at_call 288
          refine (CD.out wr).mono ?_;rintro e w6 ⟨rfl,hb6⟩;have HB6:=jH (bthen HB.out hb6);have HZ6:=jH (HZ.out.below hb6);have HO6:=jH (HO.out.below hb6);have HX6:=jH (HX.out.below hb6);clear hb6)
       | (refine wpList_store_mid rfl 326 (.tmp 6) (.tmp 28) rfl (w2.heap.size) 0 (bitsL (2 * x).testBit).toArray (by rfl) (by rfl) (HX6.out.there _) (num_sizeA _) (bits_one _) ?_
          refine list_named ?_;intro W7 hW7;obtain ⟨s1,s2,s3⟩:=HX6.out.store (2 * x).testBit;have hW7':W7=w6.setCells (w2.heap.size) 0 (bitsL (2 * x).testBit):=hW7;rw [←hW7'] at s1 s2 s3;have HX7:=jH s1;have HZ7:=jH (show BitB W7 w.heap.size (fun _=>false) from (s2 _ (by have:=HSZ.out;omega)).trans HZ6.out);have HO7:=jH (show BitB W7 (w.heap.size+1) o.testBit from (s2 _ (by have:=HSZ.out;omega)).trans HO6.out)
          have HB7:=jH (HB6.out.trans (s3 _ (by have:=HSZ.out;omega)));clear hW7 hW7' s1 s2 s3))
      go_roundg (64 - (i+1))
      case measure=>omega
      case rel=>exact ⟨i+1,o,2 * x,HL.out,Nat.le_refl _,by go_num,jH ⟨HSUM.out,HXS.out⟩,HB7.out,HZ7.out,HO7.out,HX7.out⟩
  · obtain rfl:i=64:=by omega
    have HEO:=jH (show o=a * b by rw [HE.out.1];congr 1;exact Nat.mod_eq_of_lt HB2.out)
    go_wp2_with (first
     | (refine wpList_load_list rfl 326 (.tmp 5) rfl (w.heap.size+1) 0 (bitsL o.testBit) HO.out.range (by rfl) _ Tryz.underlying326 (by rfl) (num_size o.testBit) ?_)
     | (refine wpList_store_mid rfl 326 (.tmp 4) (.tmp 29) rfl (w.heap.size) 0 (bitsL o.testBit).toArray (by rfl) (by rfl) (HZ.out.there o.testBit) (num_sizeA o.testBit) (bits_one o.testBit) ?_))
    obtain ⟨hs1,_,hs3⟩:=HZ.out.store o.testBit;refine bodyPost_ret (v:=.agg (bitsL o.testBit).toArray) (results_cell_row Tryz.results264 _ _ _ _ _ _ _ (by rfl) hs1 Tryz.underlying326 rfl (num_sizeA _)) rfl ⟨?_,HB.out.trans (hs3 _ (Nat.le_refl _))⟩;rw [HEO.out];rfl
theorem numTotal_any (v:Value) (l:List Int) (w:World) (hv:RowIn 1 nmC w v l) (hl:l.length≤1000000) (hi:∀n∈l,0≤n∧n≤9223372036854775807) :
 Calls Tryz.prog 266 #[v] w (jP w (numV (totN l))):=by
 obtain ⟨A,c,rfl⟩:=hv.form;have HV:=jH hv;have HI:=jH hi;have HL:=jH hl;have hl9:l.length≤9223372036854775807:=by omega
 have hst:=zero_store (w.alloc (.cells Tryz.zeroCells326 326)) (w.heap.size+1) (by simp);clear hv hi hl
 go_enter Tryz.func266,Tryz.ntmps266
 go_wp2_with fail
 clear hst;rw [zero_bits]
 go_loopg [4] l.length (fun g s4 wr=>∃(k:Nat) (f:Nat→Bool),k≤l.length∧l.length - k≤g∧s4=.int .i64 k∧Hid (bitsL f=bitsL (totN (l.take k)).testBit)∧jB w wr∧BitB wr w.heap.size (fun _=>false)∧BitB wr (w.heap.size+1) f)
 case atStart=>exact ⟨0,fun _=>false,Nat.zero_le _,Nat.le_refl _,rfl,jH (by rw [List.take_zero];exact (numV_lt 0).symm),balloc (balloc jR _) _,box_old _ _ _,box_new _ _ _⟩
 case round =>
  obtain ⟨k,f,hk,hg,rfl,HF,hb,hz,hq⟩:=hrel;rename World=>wr
  have HB:=jH hb;have HZ:=jH hz;have HQ:=jH hq;clear hb hz hq
  by_cases hlt:k<l.length
  · obtain ⟨b1,o1,rfl,hb1,hc⟩:=(HV.out.below HB.out).at_ hlt
    have z1:(0:Int)≤(k:Int):=by omega
    have z2:(k:Int)<(l.length:Int):=by omega
    have HTK:=jH (show totN (l.take (k+1))=totN (l.take k)+l[k].toNat by rw [List.take_succ_eq_append_getElem hlt,totN_snoc]);have hx:=HI.out _ (List.getElem_mem hlt);have HTL:=jH (show totN (l.take k)≤1000000 * 9223372036854775807 from Nat.le_trans (totN_le (fun n hn=>(HI.out n (List.mem_of_mem_take hn)).2)) (Nat.mul_le_mul_right _ (by rw [List.length_take];have:=HL.out;omega)));generalize l[k]=x at hc HTK hx
    have d0:=hc 0 _ rfl;rw [Nat.add_zero,Nat.mul_one] at d0;have HK:=jH hlt;clear hc
    by_cases h0:0<x
    · obtain ⟨y,rfl⟩:∃y:Nat,x=y:=⟨x.toNat,by omega⟩
      have hy:y≤9223372036854775807:=by omega
      have q1:IntKind.u64.wrap (y:Int)=(y:Int):=u64_wrap y (by omega);have h0':(0:Int)<(y:Int):=h0;obtain ⟨t,ht⟩:∃t,t=totN (l.take k):=⟨_,rfl⟩;rw [←ht] at HTL HTK HF;have CO:=jH (fun W=>show Calls Tryz.prog 287 #[.int .u64 0,.int .u64 y] W (jP W (.agg (bitsL y.testBit).toArray)) from by
       have:=numOf_any 0 y (by omega) (by omega) W;rw [Nat.zero_mul,Nat.zero_add] at this;exact this)
      have CA:=jH (fun W=>show Calls Tryz.prog 268 #[.agg (bitsL f).toArray,.agg (bitsL y.testBit).toArray] W (jP W (.tuple #[.agg (bitsL (t+y).testBit).toArray,.bool true])) from by
       rw [HF.out];exact numAdd_any t y (by have:=HTL.out;omega) (by omega) (by have:=HTL.out;omega) W)
      have HT2:=jH (show t+y=totN (l.take (k+1)) by rw [HTK.out];simp);clear ht hy hx h0;have r0:∀U,jB wr U→U.cell? ⟨b1,o1+k,none⟩=some (.int .i64 y):=fun U hU=>(hU.cell (p:=⟨b1,o1+k,none⟩) hb1).trans d0
      have HBr:=jH (Below.refl wr.heap.size wr)
      as_aux_lemma =>
      go_upto_region 6 with fail
      refine wp_region_E (S:=(fun U:World=>jB wr U)) 11 (by kernel_rfl) ?hS9 (fun hHeld=>?_)
      case hS9=>first|with_reducible exact HBr.out|exact HBr.out.drew|with_reducible exact HB5.out|with_reducible exact HB6.out
      refine wpAnyE_take (i:=0) (v:=.agg ((bitsL f)).toArray) rfl (by kernel_rfl) (by kernel_rfl) (by kernel_rfl) (by kernel_rfl) (fun _ _ _ h=>h) (yieldsIf_load_mid (by rfl) 326 (.tmp 3) (by rfl) (w.heap.size+1) (0) (by rfl) ((bitsL f)) _ (fun U hU=>(HQ.out.below hU).range) Tryz.underlying326 (by rfl) (num_size _)) (by assumption) ?_
      try simp only [Act.put,jA]
      refine wpAnyE_take (i:=1) (v:=?v10) rfl (by kernel_rfl) (by kernel_rfl) (by kernel_rfl) (by kernel_rfl) (fun _ _ _ h=>h) (Or.inl ⟨by rfl,?hy10⟩) (by assumption) ?_
      case hy10 =>
       intro w' hSw
       (try dsimp only at hSw)
       go_simp
       try (with_reducible rfl)
      try simp only [Act.put,jA]
      refine wpAnyE_take (i:=2) (v:=?v11) rfl (by kernel_rfl) (by kernel_rfl) (by kernel_rfl) (by kernel_rfl) (fun _ _ _ h=>h) (Or.inl ⟨by rfl,?hy11⟩) (by assumption) ?_
      case hy11 =>
       intro w' hSw
       (try dsimp only at hSw)
       go_simp
       try (with_reducible rfl)
      try simp only [Act.put,jA]
      refine wpAnyE_take (i:=3) (v:=?v12) rfl (by kernel_rfl) (by kernel_rfl) (by kernel_rfl) (by kernel_rfl) (fun _ _ _ h=>h) (Or.inl ⟨by rfl,?hy12⟩) (by assumption) ?_
      case hy12 =>
       intro w' hSw
       (try dsimp only at hSw)
       go_simp
       try (with_reducible rfl)
      try simp only [Act.put,jA]
      refine wpAnyE_take (i:=4) (v:=?v13) rfl (by kernel_rfl) (by kernel_rfl) (by kernel_rfl) (by kernel_rfl) (fun _ _ _ h=>h) (Or.inl ⟨by rfl,?hy13⟩) (by assumption) ?_
      case hy13 =>
       intro w' hSw
       (try dsimp only at hSw)
       have q9:=r0 w' hSw;go_simp
       try (with_reducible rfl)
      try simp only [Act.put,jA]
      refine wpAnyE_take (i:=5) (v:=?v14) rfl (by kernel_rfl) (by kernel_rfl) (by kernel_rfl) (by kernel_rfl) (fun _ _ _ h=>h) (Or.inl ⟨by rfl,?hy14⟩) (by assumption) ?_
      case hy14 =>
       intro w' hSw
       (try dsimp only at hSw)
       go_simp
       try (with_reducible rfl)
      try simp only [Act.put,jA]
      refine wpAnyE_one (i:=6) (by kernel_rfl) rfl (fun K hK=>?_);go_simp
      go_at_call 287
      refine calls_named ?_;intro W5 hW5;have hb5:jB wr W5:=by rw [hW5];first|exact jR|exact jR.drew
      clear hW5;refine (CO.out W5).mono ?_;rintro e w5 ⟨rfl,hb6⟩;have HB5:=jH (bthen hb5 hb6);clear hb5 hb6
      try go_simp
      refine hK.out _ _ ?hS15 (fun hHeld2=>?_)
      case hS15 =>
       intro _
       first|with_reducible exact HBr.out|exact HBr.out.drew|with_reducible exact HB5.out|with_reducible exact HB6.out
      clear hK K hHeld;have hHeld:=hHeld2 (by kernel_rfl);clear hHeld2
      try simp only [Act.put,jA]
      refine wpAnyE_one (i:=7) (by kernel_rfl) rfl (fun K hK=>?_);go_simp
      go_at_call 268
      refine (CA.out w5).mono ?_;rintro e w6 ⟨rfl,hb6⟩;have HB6:=jH (bthen HB5.out hb6);clear hb6
      try go_simp
      refine hK.out _ _ ?hS16 (fun hHeld2=>?_)
      case hS16 =>
       intro _
       first|with_reducible exact HBr.out|exact HBr.out.drew|with_reducible exact HB5.out|with_reducible exact HB6.out
      clear hK K hHeld;have hHeld:=hHeld2 (by kernel_rfl);clear hHeld2
      try simp only [Act.put,jA]
      refine wpAnyE_take (i:=8) (v:=?v17) rfl (by kernel_rfl) (by kernel_rfl) (by kernel_rfl) (by kernel_rfl) (fun _ _ _ h=>h) (Or.inl ⟨by rfl,?hy17⟩) (by assumption) ?_
      case hy17 =>
       intro w' hSw
       (try dsimp only at hSw)
       go_simp
       try (with_reducible rfl)
      try simp only [Act.put,jA]
      refine wpAnyE_take (i:=9) (v:=?v18) rfl (by kernel_rfl) (by kernel_rfl) (by kernel_rfl) (by kernel_rfl) (fun _ _ _ h=>h) (Or.inl ⟨by rfl,?hy18⟩) (by assumption) ?_
      case hy18 =>
       intro w' hSw
       (try dsimp only at hSw)
       go_simp
       try (with_reducible rfl)
      try simp only [Act.put,jA]
      refine wpAnyE_takeP (i:=10) (v:=?v19) rfl (by kernel_rfl) (by kernel_rfl) (by kernel_rfl) (by kernel_rfl) (fun _ _ _ h=>h) (Or.inl ⟨by rfl,?hy19⟩) (by assumption) ?_
      case hy19 =>
       intro w' hSw;clear hSw;go_simp
       try (with_reducible rfl)
      try simp only [Act.put,jA]
      refine wpAnyE_one (i:=11) (by kernel_rfl) rfl (fun K hK=>?_);refine step_wanted (by rfl) ?_;refine wp_store_mid 326 (.tmp 3) (.tmp 26) rfl (w.heap.size+1) 0 (bitsL (t+y).testBit).toArray (by rfl) (by rfl) ((HQ.out.below HB6.out).there _) (num_sizeA _) (bits_one _) ?_;refine hK.out _ _ ?hS20 (fun hHeld2=>?_)
      case hS20=>exact fun h=>nomatch (show (true:Bool)=false from h)
      clear hK K hHeld hHeld2
      try simp only [Act.put,jA]
      refine wpAnyE_done (by kernel_rfl) ?_ _;obtain ⟨s1,s2,s3⟩:=(HQ.out.below HB6.out).store (t+y).testBit;obtain ⟨W9,hW9⟩:∃W9,W9=w6.setCells (w.heap.size+1) 0 (bitsL (t+y).testBit):=⟨_,rfl⟩;rw [←hW9] at s1 s2 s3;go_wp2_with fail
      go_roundg (l.length - (k+1))
      case measure=>omega
      case rel=>exact ⟨k+1,(t+y).testBit,HK.out,Nat.le_refl _,by go_num,jH (by rw [HT2.out]),by rw [←hW9];exact (bthen HB.out HB6.out).trans (s3 _ (by omega)),by rw [←hW9];exact (s2 _ (by omega)).trans (HZ.out.below HB6.out),by rw [←hW9];exact s1⟩
    · obtain rfl:x=0:=by omega
      have e3:totN (l.take (k+1))=totN (l.take k):=by rw [HTK.out];simp
      have HF2:=jH (show bitsL f=bitsL (totN (l.take (k+1))).testBit by rw [e3];exact HF.out);clear e3 hx h0
      as_aux_lemma =>
      go_wp2_with fail
      go_roundg (l.length - (k+1))
      case measure=>omega
      case rel=>exact ⟨k+1,f,HK.out,Nat.le_refl _,by go_num,HF2,HB.out,HZ.out,HQ.out⟩
  · obtain rfl:k=l.length:=by omega
    rw [List.take_length] at HF
    go_wp2_with (first
     | (refine wpList_load_list rfl 326 (.tmp 3) rfl (w.heap.size+1) 0 (bitsL f) HQ.out.range (by rfl) _ Tryz.underlying326 (by rfl) (num_size f) ?_)
     | (refine wpList_store_mid rfl 326 (.tmp 2) (.tmp 28) rfl (w.heap.size) 0 (bitsL f).toArray (by rfl) (by rfl) (HZ.out.there f) (num_sizeA f) (bits_one f) ?_))
    obtain ⟨hs1,_,hs3⟩:=HZ.out.store f;refine bodyPost_ret (v:=.agg (bitsL f).toArray) (results_cell_row Tryz.results266 _ _ _ _ _ _ _ (by rfl) hs1 Tryz.underlying326 rfl (num_sizeA _)) rfl ⟨?_,HB.out.trans (hs3 _ (Nat.le_refl _))⟩;rw [HF.out];rfl
end
section
open Go.RowKit Go.Lib
theorem ref13Near_out (p:Pol) (load now:Int) (w:World) (h:polB p=false∨now<1∨1073741824<now) :
 Calls Tryz.prog 228 #[polV p,.int .i64 load,.int .i64 now] w (jP w (.bool false)):=by
 have HC:=jH (r12right_any p)
 rcases Bool.eq_false_or_eq_true (polB p) with hp|hp
 · have HE:=jH hp
   have h:now<1∨1073741824<now:=by
    rcases h with h|h
    · rw [hp] at h;cases h
    · exact h
   clear hp;unfold polV;unfold polV at HC
   rcases h with h|h
   · go_enter Tryz.func228,Tryz.ntmps228
     go_wp2_with (go_at_call 144;refine (HC.out _).mono ?_;rw [HE.out];rintro e w2 ⟨rfl,hb2⟩;have HB:=jH hb2;clear hb2)
     go_ret
     exact ⟨rfl,bthen (balloc jR _) HB.out⟩
   · have h1:¬now<1:=by omega
     have h2:decide (now<1)=false:=by simp;omega
     go_enter Tryz.func228,Tryz.ntmps228
     go_wp2_with (go_at_call 144;refine (HC.out _).mono ?_;rw [HE.out];rintro e w2 ⟨rfl,hb2⟩;have HB:=jH hb2;clear hb2)
     go_ret
     exact ⟨rfl,bthen (balloc jR _) HB.out⟩
 · have HE:=jH hp
   clear hp h;unfold polV;unfold polV at HC
   go_enter Tryz.func228,Tryz.ntmps228
   go_wp2_with (go_at_call 144;refine (HC.out _).mono ?_;rw [HE.out];rintro e w2 ⟨rfl,hb2⟩;have HB:=jH hb2;clear hb2)
   go_ret
   exact ⟨rfl,bthen (balloc jR _) HB.out⟩
theorem wpList_load_guard {P:Program} {ops:Array Oper} {rest:List Oper} {op:Oper} {a:Act} {w:World} {Q:Exit→Act→World→Prop} (hw:Region.wanted op (yielded ops a.tmps)=true) (ty:TypeId) (x:Operand) (ho:op.op=.load ty x)
    (b o:Nat) (hx:a.eval x=.pointer (some ⟨b,o,none⟩)) (cs:List Value) (d:TypeDesc) (hc:w.rangeAt b o cs)
    (hu:P.underlying ty=some d) (hd:d.isRow=true) (hi:(P.info? ty).map (·.size)=some cs.length)
    (h:wpList P ops Q rest (a.put op.dst (.agg cs.toArray)) w):wpList P ops Q (op::rest) a w :=
  wpList_step fun _ hK=>by rw [if_pos hw];exact wp_load_mid ty x ho b o hx cs d hc hu hd hi (hK _ _ h)
def polA (p:Pol):Array Value:=#[.int .i64 p.mn,.int .i64 p.mx,.int .i64 p.tg,.int .i64 p.tol,.int .i64 p.win,.int .i64 p.hold]
structure NearAt (w wr:World) (p:Pol) (B7 B8 m1 one s k:Nat):Prop where
 b:jB w wr
 pol:wr.heap[w.heap.size]?=some (.cells (polA p) 46 (0,0))
 h:BitB wr B7 m1.testBit
 o:BitB wr B8 one.testBit
 s:BitB wr (B8+1) s.testBit
 k:BitB wr (B8+1+1) k.testBit
theorem NearAt.below {w wr w':World} {p:Pol} {B7 B8 m1 one s k:Nat} (h:NearAt w wr p B7 B8 m1 one s k) (hb:jB wr w'):NearAt w w' p B7 B8 m1 one s k :=
 ⟨bthen h.b hb,(hb.block _ (Array.getElem?_eq_some_iff.1 h.pol).1).trans h.pol,h.h.below hb,h.o.below hb,h.s.below hb,h.k.below hb⟩
theorem NearAt.setS {w wr:World} {p:Pol} {B7 B8 m1 one s k:Nat} (h:NearAt w wr p B7 B8 m1 one s k) (h1:w.heap.size<B7) (h2:B7<B8) (s':Nat):NearAt w (wr.setCells (B8+1) 0 (bitsL s'.testBit)) p B7 B8 m1 one s' k:=by
 obtain ⟨s1,s2,s3⟩:=h.s.store s'.testBit;exact ⟨h.b.trans (s3 _ (by omega)),(s2 _ (by omega)).trans h.pol,(s2 _ (by omega)).trans h.h,(s2 _ (by omega)).trans h.o,s1,(s2 _ (by omega)).trans h.k⟩
theorem NearAt.setK {w wr:World} {p:Pol} {B7 B8 m1 one s k:Nat} (h:NearAt w wr p B7 B8 m1 one s k) (h1:w.heap.size<B7) (h2:B7<B8) (k':Nat):NearAt w (wr.setCells (B8+1+1) 0 (bitsL k'.testBit)) p B7 B8 m1 one s k':=by
 obtain ⟨s1,s2,s3⟩:=h.k.store k'.testBit;exact ⟨h.b.trans (s3 _ (by omega)),(s2 _ (by omega)).trans h.pol,(s2 _ (by omega)).trans h.h,(s2 _ (by omega)).trans h.o,(s2 _ (by omega)).trans h.s,s1⟩
theorem ref13Near_in (p:Pol) (load now:Int) (w:World) (hp:polB p=true) (h1:1≤now) (h2:now≤1073741824) (hn:I64 load) (hq:I64 p.tg) :
 Calls Tryz.prog 228 #[polV p,.int .i64 load,.int .i64 now] w (jP w (.bool (nearI p load now))):=by
 have hpb:=hp;unfold polB at hpb;simp only [decide_eq_true_eq] at hpb
 unfold I64 at hn hq;obtain ⟨L,hL⟩:∃L,L=load.toNat:=⟨_,rfl⟩;obtain ⟨N,hN⟩:∃N,N=now.toNat:=⟨_,rfl⟩;obtain ⟨T,hT⟩:∃T,T=p.tg.toNat:=⟨_,rfl⟩;obtain ⟨O,hO⟩:∃O,O=p.tol.toNat:=⟨_,rfl⟩;have hL2:L≤9223372036854775807:=by omega
 have hT2:T≤9223372036854775807:=by omega
 have hO2:O≤999:=by omega
 obtain ⟨m1,hm1⟩:∃m,m=L * 1000:=⟨_,rfl⟩;obtain ⟨one,hone⟩:∃m,m=N * T:=⟨_,rfl⟩;have l2:one≤1073741824 * 9223372036854775807:=hone ▸ Nat.mul_le_mul (by omega) hT2;obtain ⟨up,hup⟩:∃m,m=1000 * one+O * one:=⟨_,rfl⟩;obtain ⟨dn,hdn⟩:∃m,m=m1+O * one:=⟨_,rfl⟩;have l3:∀i,i≤1000→i * one≤1000 * (1073741824 * 9223372036854775807):=fun i hi=>Nat.mul_le_mul hi l2
 have HLB:=jH (show ∀x i,i≤1000→x=i * one→x+one<340282366920938463463374607431768211456 from fun x i hi hx=>by have h9:=l3 i hi;rw [←hx] at h9;clear hpb hn hq;omega);have HF:nearI p load now=(decide (m1≤up) && decide (1000 * one≤dn)):=by
  unfold nearI;rw [hp,Bool.true_and,decide_eq_true (And.intro h1 h2),Bool.true_and,←hL,←hN,←hT,←hO,←hone,←hm1,hup,hdn,Nat.mul_comm one 1000,Nat.mul_comm one O]
 rw [HF];obtain ⟨R,hR⟩:∃R,R=(decide (m1≤up) && decide (1000 * one≤dn)):=⟨_,rfl⟩;rw [←hR];have HRR:=jH hR;have HC:=jH (r12right_any p);have HE:=jH hp;have C0:=jH (ref13Load_any load);have C1:=jH (fun W=>show Calls Tryz.prog 264 #[.int .u64 (L:Nat),.int .u64 1000] W (jP W (.agg (bitsL m1.testBit).toArray)) from hm1 ▸ numMul_any L 1000 (by omega) (by decide) W);have C2:=jH (fun W=>show Calls Tryz.prog 264 #[.int .u64 (N:Nat),.int .u64 (T:Nat)] W (jP W (.agg (bitsL one.testBit).toArray)) from hone ▸ numMul_any N T (by omega) (by omega) W)
 have CA:=jH (fun (x y:Nat) (h:x+y<340282366920938463463374607431768211456) W=>show Calls Tryz.prog 268 #[.agg (bitsL x.testBit).toArray,.agg (bitsL y.testBit).toArray] W (jP W (.tuple #[.agg (bitsL (x+y).testBit).toArray,.bool true])) from numAdd_any x y (by omega) (by omega) h W);have CC:=jH (fun (x y:Nat) (hx:x<340282366920938463463374607431768211456) (hy:y<340282366920938463463374607431768211456) W=>show Calls Tryz.prog 265 #[.agg (bitsL x.testBit).toArray,.agg (bitsL y.testBit).toArray] W (jP W (.int .i64 (cmpN x y))) from numCmp_any x y hx hy W)
 have g1:IntKind.u64.wrap (max load 0)=(L:Int):=by rw [IntKind.wrap_u64];omega
 have g2:IntKind.u64.wrap now=(N:Int):=by rw [IntKind.wrap_u64];omega
 have g4:IntKind.u64.wrap p.tg=(T:Int):=by rw [IntKind.wrap_u64];omega
 have GO:=jH (show p.tol=(O:Int) by omega);have q1:¬now<1:=by omega
 have q2:¬1073741824<now:=by omega
 have q3:decide (now<1)=false:=by simp;omega
 have q4:decide (1073741824<now)=false:=by simp;omega
 have HL3:=jH l3;have HUP:=jH hup;have HDN:=jH hdn;have HM1:=jH (show m1≤9223372036854775807000 by omega);have HO2:=jH hO2;have hst:=fun W=>bits_store W W.heap.size rfl m1.testBit
 have hst2:=fun W=>bits_store W W.heap.size rfl one.testBit
 have HL2:=jH l2;clear hR hL hN hT hO hL2 hT2 hO2 hm1 hone l2 l3 hup hdn HF hpb hn hq h1 h2 hp;unfold polV;unfold polV at HC
 go_enter Tryz.func228,Tryz.ntmps228
 go_wp2_with (first
  | (go_at_call 144
     refine calls_named ?_;intro W1 hW1;have hb1:jB w W1:=by rw [hW1];exact balloc jR _
     have hx1:W1.heap[w.heap.size]?=some (.cells #[.int .i64 p.mn,.int .i64 p.mx,.int .i64 p.tg,.int .i64 p.tol,.int .i64 p.win,.int .i64 p.hold] 46 (0,0)):=by rw [hW1];exact heap_alloc_new _ _
     clear hW1;refine (HC.out W1).mono ?_;rw [HE.out];rintro e w2 ⟨rfl,hb2⟩;have HB2:=jH (bthen hb1 hb2);have HZ2:=jH (show w.heap.size<w2.heap.size by have:=(jL hx1);have:=hb2.size;omega);obtain ⟨hx2,R0⟩:=box_rule hx1 hb2;have HX2:=jH hx2;clear hb1 hb2 hx1 hx2)
  | (go_at_call 267
     refine (C0.out _).mono ?_;rintro e w3 ⟨rfl,rfl⟩)
  | (go_at_call 264
     with_reducible refine (C1.out _).mono ?_
     rintro e w3 ⟨rfl,hb3⟩)
  | (go_at_call 264
     with_reducible refine (C2.out _).mono ?_
     rintro e w4 ⟨rfl,hb4⟩;have HB3:=jH hb3;have HB4:=jH hb4;have hst9:=zero_store (w4.alloc (.cells (bitsL one.testBit).toArray 326)) (w4.heap.size+1) (by simp);have hst10:=zero_store ((w4.alloc (.cells (bitsL one.testBit).toArray 326)).alloc (.cells Tryz.zeroCells326 326)) (w4.heap.size+1+1) (by simp);clear hb3 hb4))
 rw [zero_bits];have hz3:=HB3.out.size;have hz4:=HB4.out.size;rw [World.size_alloc] at hz4;have HZ:=jH (show w.heap.size<w3.heap.size∧w3.heap.size<w4.heap.size by have:=HZ2.out;omega);clear hz3 hz4 hst hst2 hst9 hst10 g1 g2 g4
 go_loopg [11] 1000 (fun g s11 wr=>∃(i s k:Nat),i≤1000∧1000 - i≤g∧s11=.int .i64 i∧Hid (s=i * one∧k=(min i O) * one)∧NearAt w wr p w3.heap.size w4.heap.size m1 one s k)
 case atStart =>
  refine ⟨0,0,0,by omega,Nat.le_refl _,rfl,jH ⟨by simp,by simp⟩,?_⟩;have hb:=balloc (balloc (balloc (Below.refl w4.heap.size w4) (.cells (bitsL one.testBit).toArray 326)) (.cells (bitsL fun _=>false).toArray 326)) (.cells (bitsL fun _=>false).toArray 326);have hx7:BitB w4 w3.heap.size m1.testBit:=(bit_new w3 m1.testBit).below HB4.out;have hx0:=(HB4.out.block w.heap.size (by simp;have:=HZ.out;omega)).trans (((balloc HB3.out _).block w.heap.size HZ2.out).trans HX2.out)
  refine ⟨bthen HB2.out (bthen (bthen (balloc HB3.out _) HB4.out) hb),(hb.block _ (by have:=HZ.out;omega)).trans hx0,hx7.below hb,box3_0 _ _ _ _,?_,?_⟩
  · have:=box3_1 w4 (.cells (bitsL one.testBit).toArray 326) (.cells (bitsL fun _=>false).toArray 326) (.cells (bitsL fun _=>false).toArray 326)
    unfold BitB;rw [numV_lt 0];exact this
  · have:=box3_2 w4 (.cells (bitsL one.testBit).toArray 326) (.cells (bitsL fun _=>false).toArray 326) (.cells (bitsL fun _=>false).toArray 326)
    unfold BitB;rw [numV_lt 0];exact this
 case round =>
  obtain ⟨i,s,k,hi,hg,rfl,HSK,hat⟩:=hrel;rename World=>wr
  have HAT:=jH hat;clear hat;clear R0
  by_cases hlt:i<1000
  · have z1:(i:Int)<1000:=by omega
    obtain ⟨i1,hi1⟩:∃i1:Nat,i1=i+1:=⟨_,rfl⟩;obtain ⟨s',hs'⟩:∃s':Nat,s'=s+one:=⟨_,rfl⟩;have CS:=jH (fun W=>show Calls Tryz.prog 268 #[.agg (bitsL s.testBit).toArray,.agg (bitsL one.testBit).toArray] W (jP W (.tuple #[.agg (bitsL s'.testBit).toArray,.bool true])) from hs' ▸ CA.out s one (HLB.out s i (Nat.le_of_lt hlt) HSK.out.1) W);have HS1:=jH (show s'=i1 * one from by have h9:=HSK.out.1;subst hs' hi1;rw [Nat.add_mul,Nat.one_mul,←h9])
    have HI1:=jH (show i1≤1000∧1000 - i1<1000 - i∧i1=i+1 from by subst hi1;exact ⟨hlt,Nat.sub_lt_sub_left hlt (Nat.lt_succ_self i),rfl⟩);have z2:wrap64 ((i:Int)+1)=(i1:Int):=by unfold wrap64;omega
    by_cases hlo:i<O
    · have z3:(i:Int)<p.tol:=by rw [GO.out];exact Int.ofNat_lt.2 hlo
      obtain ⟨k',hk'⟩:∃k':Nat,k'=k+one:=⟨_,rfl⟩;have CK:=jH (fun W=>show Calls Tryz.prog 268 #[.agg (bitsL k.testBit).toArray,.agg (bitsL one.testBit).toArray] W (jP W (.tuple #[.agg (bitsL k'.testBit).toArray,.bool true])) from hk' ▸ CA.out k one (HLB.out k (min i O) (Nat.le_trans (Nat.min_le_left _ _) (Nat.le_of_lt hlt)) HSK.out.2) W);have HK1:=jH (show k'=(min i1 O) * one from by have h9:=HSK.out.2;rw [Nat.min_eq_left (Nat.le_of_lt hlo)] at h9;subst hk' hi1;rw [Nat.min_eq_left (show i+1≤O from hlo),Nat.add_mul,Nat.one_mul,←h9])
      clear hk' hs' hi1 hlo hlt
      as_aux_lemma =>
      go_wp2_with (first
       | (refine wpList_load_list rfl 326 (.tmp 9) rfl (w4.heap.size+1) 0 (bitsL s.testBit) HAT.out.s.range (by rfl) _ Tryz.underlying326 (by rfl) (num_size _) ?_)
       | (refine wpList_load_list rfl 326 (.tmp 8) rfl (w4.heap.size) 0 (bitsL one.testBit) HAT.out.o.range (by rfl) _ Tryz.underlying326 (by rfl) (num_size _) ?_)
       | (go_at_call 268
          with_reducible refine (CS.out wr).mono ?_
          rintro e w5 ⟨rfl,hb5⟩;have HAT5:=jH (HAT.out.below hb5);clear hb5)
       | (refine wpList_store_mid rfl 326 (.tmp 9) (.tmp 47) rfl (w4.heap.size+1) 0 (bitsL s'.testBit).toArray (by rfl) (by rfl) (HAT5.out.s.there _) (num_sizeA _) (bits_one _) ?_
          refine list_named ?_;intro W6 hW6;have hW6':W6=w5.setCells (w4.heap.size+1) 0 (bitsL s'.testBit):=hW6;have hat6:=HAT5.out.setS HZ.out.1 HZ.out.2 s';rw [←hW6'] at hat6;obtain ⟨c1,c2,c3⟩:=box_cells jR hat6.pol;unfold polA at c1;have HAT6:=jH hat6;clear hW6 hW6' hat6 c2 c3)
       | (refine wpList_load_list rfl 326 (.tmp 10) rfl (w4.heap.size+1+1) 0 (bitsL k.testBit) HAT6.out.k.range (by rfl) _ Tryz.underlying326 (by rfl) (num_size _) ?_)
       | (refine wpList_load_list rfl 326 (.tmp 8) rfl (w4.heap.size) 0 (bitsL one.testBit) HAT6.out.o.range (by rfl) _ Tryz.underlying326 (by rfl) (num_size _) ?_)
       | (go_at_call 268
          with_reducible refine (CK.out W6).mono ?_
          rintro e w7 ⟨rfl,hb7⟩;have HAT7:=jH (HAT6.out.below hb7);clear hb7 c1)
       | (refine wpList_store_mid rfl 326 (.tmp 10) (.tmp 57) rfl (w4.heap.size+1+1) 0 (bitsL k'.testBit).toArray (by rfl) (by rfl) (HAT7.out.k.there _) (num_sizeA _) (bits_one _) ?_
          refine list_named ?_;intro W8 hW8;have hW8':W8=w7.setCells (w4.heap.size+1+1) 0 (bitsL k'.testBit):=hW8;have hat8:=HAT7.out.setK HZ.out.1 HZ.out.2 k';rw [←hW8'] at hat8;have HAT8:=jH hat8;clear hW8 hW8' hat8))
      go_roundg (1000 - i1)
      case measure=>exact Nat.lt_of_lt_of_le HI1.out.2.1 hg
      case rel=>exact ⟨i1,s',k',HI1.out.1,Nat.le_refl _,by first|rfl|(rw [HI1.out.2.2];clear z2;go_num),jH ⟨HS1.out,HK1.out⟩,HAT8.out⟩
    · have z3:¬(i:Int)<p.tol:=by rw [GO.out];exact fun h=>hlo (Int.ofNat_lt.1 h)
      have HK1:=jH (show k=(min i1 O) * one from by have h9:=HSK.out.2;rw [Nat.min_eq_right (Nat.le_of_not_lt hlo)] at h9;subst hi1;rw [Nat.min_eq_right (show O≤i+1 from Nat.le_succ_of_le (Nat.le_of_not_lt hlo)),←h9]);clear hs' hi1 hlo hlt
      as_aux_lemma =>
      go_wp2_with (first
       | (refine wpList_load_list rfl 326 (.tmp 9) rfl (w4.heap.size+1) 0 (bitsL s.testBit) HAT.out.s.range (by rfl) _ Tryz.underlying326 (by rfl) (num_size _) ?_)
       | (refine wpList_load_list rfl 326 (.tmp 8) rfl (w4.heap.size) 0 (bitsL one.testBit) HAT.out.o.range (by rfl) _ Tryz.underlying326 (by rfl) (num_size _) ?_)
       | (go_at_call 268
          with_reducible refine (CS.out wr).mono ?_
          rintro e w5 ⟨rfl,hb5⟩;have HAT5:=jH (HAT.out.below hb5);clear hb5)
       | (refine wpList_store_mid rfl 326 (.tmp 9) (.tmp 47) rfl (w4.heap.size+1) 0 (bitsL s'.testBit).toArray (by rfl) (by rfl) (HAT5.out.s.there _) (num_sizeA _) (bits_one _) ?_
          refine list_named ?_;intro W6 hW6;have hW6':W6=w5.setCells (w4.heap.size+1) 0 (bitsL s'.testBit):=hW6;have hat6:=HAT5.out.setS HZ.out.1 HZ.out.2 s';rw [←hW6'] at hat6;obtain ⟨c1,c2,c3⟩:=box_cells jR hat6.pol;unfold polA at c1;have HAT6:=jH hat6;clear hW6 hW6' hat6 c2 c3))
      go_roundg (1000 - i1)
      case measure=>exact Nat.lt_of_lt_of_le HI1.out.2.1 hg
      case rel=>exact ⟨i1,s',k,HI1.out.1,Nat.le_refl _,by first|rfl|(rw [HI1.out.2.2];clear z2;go_num),jH ⟨HS1.out,HK1.out⟩,HAT6.out⟩
  · obtain rfl:i=1000:=by omega
    have hs:=HSK.out.1;have hk:=HSK.out.2;rw [Nat.min_eq_right (by have:=HO2.out;omega)] at hk;have hol:=HL3.out O (by have:=HO2.out;omega);have htl:=HL3.out 1000 (Nat.le_refl _);have hml:=HM1.out;have hu:=HUP.out;have hd:=HDN.out;have z1:¬((1000:Nat):Int)<1000:=by omega
    have CU:=jH (fun W=>show Calls Tryz.prog 268 #[.agg (bitsL s.testBit).toArray,.agg (bitsL k.testBit).toArray] W (jP W (.tuple #[.agg (bitsL up.testBit).toArray,.bool true])) from by rw [hu,←hs,←hk];exact CA.out s k (by omega) W);have CD:=jH (fun W=>show Calls Tryz.prog 268 #[.agg (bitsL m1.testBit).toArray,.agg (bitsL k.testBit).toArray] W (jP W (.tuple #[.agg (bitsL dn.testBit).toArray,.bool true])) from by rw [hd,←hk];exact CA.out m1 k (by omega) W)
    have CX:=jH (fun W=>CC.out m1 up (by omega) (by omega) W);have CY:=jH (fun W=>CC.out s dn (by omega) (by omega) W);have HX:=jH (cmpN_le m1 up);have HY:=jH (cmpN_le s dn);obtain ⟨bx,hbx⟩:∃b,b=decide (m1≤up):=⟨_,rfl⟩;obtain ⟨by1,hby⟩:∃b,b=decide (s≤dn):=⟨_,rfl⟩;have HFIN:=jH (show R=(bx && by1) by rw [HRR.out,hbx,hby,hs]);rw [←hbx] at HX;rw [←hby] at HY;clear hbx hby;generalize cmpN m1 up=cx at CX HX
    generalize cmpN s dn=cy at CY HY;have hstU:=fun W=>bits_store W W.heap.size rfl up.testBit
    have hstD:=fun W=>bits_store W W.heap.size rfl dn.testBit
    clear hs hk hol htl hml hu hd
    cases bx
    · have HRF:=jH (show R=false from HFIN.out)
      have x1:¬cx≤0:=by have:=HX.out;simpa using this
      have x2:decide (cx≤0)=false:=by simp;omega
      go_wp2_with (first
       | (refine wpList_load_list rfl 326 (.tmp 9) rfl (w4.heap.size+1) 0 (bitsL s.testBit) HAT.out.s.range (by rfl) _ Tryz.underlying326 (by rfl) (num_size _) ?_)
       | (refine wpList_load_list rfl 326 (.tmp 10) rfl (w4.heap.size+1+1) 0 (bitsL k.testBit) HAT.out.k.range (by rfl) _ Tryz.underlying326 (by rfl) (num_size _) ?_)
       | (go_at_call 268
          with_reducible refine (CU.out wr).mono ?_
          rintro e w5 ⟨rfl,hb5⟩;have HU5:=jH (bit_new w5 up.testBit);have HAT5:=jH (HAT.out.below (balloc hb5 (.cells (bitsL up.testBit).toArray 326)));clear hb5)
       | (refine wpList_load_list rfl 326 (.tmp 7) rfl (w3.heap.size) 0 (bitsL m1.testBit) HAT5.out.h.range (by rfl) _ Tryz.underlying326 (by rfl) (num_size _) ?_)
       | (refine wpList_load_list rfl 326 (.tmp 10) rfl (w4.heap.size+1+1) 0 (bitsL k.testBit) HAT5.out.k.range (by rfl) _ Tryz.underlying326 (by rfl) (num_size _) ?_)
       | (go_at_call 268
          with_reducible refine (CD.out _).mono ?_
          rintro e w6 ⟨rfl,hb6⟩;have HU6:=jH ((HU5.out.below hb6).below (balloc jR (.cells (bitsL dn.testBit).toArray 326)));have HD6:=jH (bit_new w6 dn.testBit);have HAT6:=jH (HAT5.out.below (balloc hb6 (.cells (bitsL dn.testBit).toArray 326)));clear hb6)
       | (refine wpList_load_list rfl 326 (.tmp 7) rfl (w3.heap.size) 0 (bitsL m1.testBit) HAT6.out.h.range (by rfl) _ Tryz.underlying326 (by rfl) (num_size _) ?_)
       | (refine wpList_load_list rfl 326 (.tmp 12) rfl (w5.heap.size) 0 (bitsL up.testBit) HU6.out.range (by rfl) _ Tryz.underlying326 (by rfl) (num_size _) ?_)
       | (go_at_call 265
          with_reducible refine (CX.out _).mono ?_
          rintro e w7 ⟨rfl,hb7⟩;have HD7:=jH (HD6.out.below hb7);have HAT7:=jH (HAT6.out.below hb7);have HBX:=jH HAT7.out.b;clear hb7))
      go_ret
      exact ⟨by rw [HRF.out];rfl,HBX.out⟩
    · have HRF:=jH (show R=decide (cy≤0) from HFIN.out.trans HY.out.symm)
      have x1:cx≤0:=by have:=HX.out;simpa using this
      have x2:decide (cx≤0)=true:=by simp;omega
      go_wp2_with (first
       | (refine wpList_load_list rfl 326 (.tmp 9) rfl (w4.heap.size+1) 0 (bitsL s.testBit) HAT.out.s.range (by rfl) _ Tryz.underlying326 (by rfl) (num_size _) ?_)
       | (refine wpList_load_list rfl 326 (.tmp 10) rfl (w4.heap.size+1+1) 0 (bitsL k.testBit) HAT.out.k.range (by rfl) _ Tryz.underlying326 (by rfl) (num_size _) ?_)
       | (go_at_call 268
          with_reducible refine (CU.out wr).mono ?_
          rintro e w5 ⟨rfl,hb5⟩;have HU5:=jH (bit_new w5 up.testBit);have HAT5:=jH (HAT.out.below (balloc hb5 (.cells (bitsL up.testBit).toArray 326)));clear hb5)
       | (refine wpList_load_list rfl 326 (.tmp 7) rfl (w3.heap.size) 0 (bitsL m1.testBit) HAT5.out.h.range (by rfl) _ Tryz.underlying326 (by rfl) (num_size _) ?_)
       | (refine wpList_load_list rfl 326 (.tmp 10) rfl (w4.heap.size+1+1) 0 (bitsL k.testBit) HAT5.out.k.range (by rfl) _ Tryz.underlying326 (by rfl) (num_size _) ?_)
       | (go_at_call 268
          with_reducible refine (CD.out _).mono ?_
          rintro e w6 ⟨rfl,hb6⟩;have HU6:=jH ((HU5.out.below hb6).below (balloc jR (.cells (bitsL dn.testBit).toArray 326)));have HD6:=jH (bit_new w6 dn.testBit);have HAT6:=jH (HAT5.out.below (balloc hb6 (.cells (bitsL dn.testBit).toArray 326)));clear hb6)
       | (refine wpList_load_list rfl 326 (.tmp 7) rfl (w3.heap.size) 0 (bitsL m1.testBit) HAT6.out.h.range (by rfl) _ Tryz.underlying326 (by rfl) (num_size _) ?_)
       | (refine wpList_load_list rfl 326 (.tmp 12) rfl (w5.heap.size) 0 (bitsL up.testBit) HU6.out.range (by rfl) _ Tryz.underlying326 (by rfl) (num_size _) ?_)
       | (go_at_call 265
          with_reducible refine (CX.out _).mono ?_
          rintro e w7 ⟨rfl,hb7⟩;have HD7:=jH (HD6.out.below hb7);have HAT7:=jH (HAT6.out.below hb7);have HBX:=jH HAT7.out.b;clear hb7)
       | (refine wpList_load_guard (by rfl) 326 (.tmp 9) rfl (w4.heap.size+1) 0 (by rfl) (bitsL s.testBit) _ HAT7.out.s.range Tryz.underlying326 (by rfl) (num_size _) ?_)
       | (refine wpList_load_guard (by rfl) 326 (.tmp 14) rfl (w6.heap.size) 0 (by rfl) (bitsL dn.testBit) _ HD7.out.range Tryz.underlying326 (by rfl) (num_size _) ?_)
       | (go_at_call 265
          with_reducible refine (CY.out w7).mono ?_
          rintro e w8 ⟨rfl,hb8⟩;have HBY:=jH (bthen HBX.out hb8);clear hb8))
      go_ret
      exact ⟨by rw [HRF.out];rfl,HBY.out⟩
end
end Go.Proofs.YtpmfcpdelkchaaaGreat
