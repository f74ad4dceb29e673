/- Part 31 of the proof: Near13, Mean16. -/
import Derived.Test.YtkcdhaallnhhmaaGreatQ23
import Derived.Test.YtkcdhaallnhhmaaGreatQ30
namespace Go.Proofs.YtkcdhaallnhhmaaGreat
set_option linter.unusedSimpArgs false
set_option linter.unusedVariables false
set_option linter.unusedSectionVars false
set_option maxRecDepth 100000
set_option maxHeartbeats 16000000
section
open Go.RowKit Go.Lib
theorem ref13Near_out (p:Pol) (load now:Int) (w:World) (h:polB p=false∨now<1∨1073741824<now) :
 Calls Tryz.prog 174 #[polV p,.int .i64 load,.int .i64 now] w (jP w (.bool false)):=by
 have HC:=jH (r12right_any p)
 rcases Bool.eq_false_or_eq_true (polB p) with hp|hp
 · have HE:=jH hp
   have h:now<1∨1073741824<now:=by
    rcases h with h|h
    · rw [hp] at h;cases h
    · exact h
   clear hp;unfold polV;unfold polV at HC
   rcases h with h|h
   · go_enter Tryz.func174,Tryz.ntmps174
     go_wp2_with (go_at_call 125;refine (HC.out _).mono ?_;rw [HE.out];rintro e w2 ⟨rfl,hb2⟩;have HB:=jH hb2;clear hb2)
     go_ret
     exact ⟨rfl,bthen (balloc jR _) HB.out⟩
   · have h1:¬now<1:=by omega
     have h2:decide (now<1)=false:=by simp;omega
     go_enter Tryz.func174,Tryz.ntmps174
     go_wp2_with (go_at_call 125;refine (HC.out _).mono ?_;rw [HE.out];rintro e w2 ⟨rfl,hb2⟩;have HB:=jH hb2;clear hb2)
     go_ret
     exact ⟨rfl,bthen (balloc jR _) HB.out⟩
 · have HE:=jH hp
   clear hp h;unfold polV;unfold polV at HC
   go_enter Tryz.func174,Tryz.ntmps174
   go_wp2_with (go_at_call 125;refine (HC.out _).mono ?_;rw [HE.out];rintro e w2 ⟨rfl,hb2⟩;have HB:=jH hb2;clear hb2)
   go_ret
   exact ⟨rfl,bthen (balloc jR _) HB.out⟩
theorem wpList_load_guard {P:Program} {ops:Array Oper} {rest:List Oper} {op:Oper} {a:Act} {w:World} {Q:Exit→Act→World→Prop} (hw:Region.wanted op (yielded ops a.tmps)=true) (ty:TypeId) (x:Operand) (ho:op.op=.load ty x)
    (b o:Nat) (hx:a.eval x=.pointer (some ⟨b,o,none⟩)) (cs:List Value) (d:TypeDesc) (hc:w.rangeAt b o cs)
    (hu:P.underlying ty=some d) (hd:d.isRow=true) (hi:(P.info? ty).map (·.size)=some cs.length)
    (h:wpList P ops Q rest (a.put op.dst (.agg cs.toArray)) w):wpList P ops Q (op::rest) a w :=
  wpList_step fun _ hK=>by rw [if_pos hw];exact wp_load_mid ty x ho b o hx cs d hc hu hd hi (hK _ _ h)
def polA (p:Pol):Array Value:=#[.int .i64 p.mn,.int .i64 p.mx,.int .i64 p.tg,.int .i64 p.tol,.int .i64 p.win,.int .i64 p.hold]
structure NearAt (w wr:World) (p:Pol) (B7 B8 m1 one s k:Nat):Prop where
 b:jB w wr
 pol:wr.heap[w.heap.size]?=some (.cells (polA p) 46 (0,0))
 h:BitB wr B7 m1.testBit
 o:BitB wr B8 one.testBit
 s:BitB wr (B8+1) s.testBit
 k:BitB wr (B8+1+1) k.testBit
theorem NearAt.below {w wr w':World} {p:Pol} {B7 B8 m1 one s k:Nat} (h:NearAt w wr p B7 B8 m1 one s k) (hb:jB wr w'):NearAt w w' p B7 B8 m1 one s k :=
 ⟨bthen h.b hb,(hb.block _ (Array.getElem?_eq_some_iff.1 h.pol).1).trans h.pol,h.h.below hb,h.o.below hb,h.s.below hb,h.k.below hb⟩
theorem NearAt.setS {w wr:World} {p:Pol} {B7 B8 m1 one s k:Nat} (h:NearAt w wr p B7 B8 m1 one s k) (h1:w.heap.size<B7) (h2:B7<B8) (s':Nat):NearAt w (wr.setCells (B8+1) 0 (bitsL s'.testBit)) p B7 B8 m1 one s' k:=by
 obtain ⟨s1,s2,s3⟩:=h.s.store s'.testBit;exact ⟨h.b.trans (s3 _ (by omega)),(s2 _ (by omega)).trans h.pol,(s2 _ (by omega)).trans h.h,(s2 _ (by omega)).trans h.o,s1,(s2 _ (by omega)).trans h.k⟩
theorem NearAt.setK {w wr:World} {p:Pol} {B7 B8 m1 one s k:Nat} (h:NearAt w wr p B7 B8 m1 one s k) (h1:w.heap.size<B7) (h2:B7<B8) (k':Nat):NearAt w (wr.setCells (B8+1+1) 0 (bitsL k'.testBit)) p B7 B8 m1 one s k':=by
 obtain ⟨s1,s2,s3⟩:=h.k.store k'.testBit;exact ⟨h.b.trans (s3 _ (by omega)),(s2 _ (by omega)).trans h.pol,(s2 _ (by omega)).trans h.h,(s2 _ (by omega)).trans h.o,(s2 _ (by omega)).trans h.s,s1⟩
theorem ref13Near_in (p:Pol) (load now:Int) (w:World) (hp:polB p=true) (h1:1≤now) (h2:now≤1073741824) (hn:I64 load) (hq:I64 p.tg) :
 Calls Tryz.prog 174 #[polV p,.int .i64 load,.int .i64 now] w (jP w (.bool (nearI p load now))):=by
 have hpb:=hp;unfold polB at hpb;simp only [decide_eq_true_eq] at hpb
 unfold I64 at hn hq;obtain ⟨L,hL⟩:∃L,L=load.toNat:=⟨_,rfl⟩;obtain ⟨N,hN⟩:∃N,N=now.toNat:=⟨_,rfl⟩;obtain ⟨T,hT⟩:∃T,T=p.tg.toNat:=⟨_,rfl⟩;obtain ⟨O,hO⟩:∃O,O=p.tol.toNat:=⟨_,rfl⟩;have hL2:L≤9223372036854775807:=by omega
 have hT2:T≤9223372036854775807:=by omega
 have hO2:O≤999:=by omega
 obtain ⟨m1,hm1⟩:∃m,m=L * 1000:=⟨_,rfl⟩;obtain ⟨one,hone⟩:∃m,m=N * T:=⟨_,rfl⟩;have l2:one≤1073741824 * 9223372036854775807:=hone ▸ Nat.mul_le_mul (by omega) hT2;obtain ⟨up,hup⟩:∃m,m=1000 * one+O * one:=⟨_,rfl⟩;obtain ⟨dn,hdn⟩:∃m,m=m1+O * one:=⟨_,rfl⟩;have l3:∀i,i≤1000→i * one≤1000 * (1073741824 * 9223372036854775807):=fun i hi=>Nat.mul_le_mul hi l2
 have HLB:=jH (show ∀x i,i≤1000→x=i * one→x+one<340282366920938463463374607431768211456 from fun x i hi hx=>by have h9:=l3 i hi;rw [←hx] at h9;clear hpb hn hq;omega);have HF:nearI p load now=(decide (m1≤up) && decide (1000 * one≤dn)):=by
  unfold nearI;rw [hp,Bool.true_and,decide_eq_true (And.intro h1 h2),Bool.true_and,←hL,←hN,←hT,←hO,←hone,←hm1,hup,hdn,Nat.mul_comm one 1000,Nat.mul_comm one O]
 rw [HF];obtain ⟨R,hR⟩:∃R,R=(decide (m1≤up) && decide (1000 * one≤dn)):=⟨_,rfl⟩;rw [←hR];have HRR:=jH hR;have HC:=jH (r12right_any p);have HE:=jH hp;have C0:=jH (ref13Load_any load);have C1:=jH (fun W=>show Calls Tryz.prog 204 #[.int .u64 (L:Nat),.int .u64 1000] W (jP W (.agg (bitsL m1.testBit).toArray)) from hm1 ▸ numMul_any L 1000 (by omega) (by decide) W);have C2:=jH (fun W=>show Calls Tryz.prog 204 #[.int .u64 (N:Nat),.int .u64 (T:Nat)] W (jP W (.agg (bitsL one.testBit).toArray)) from hone ▸ numMul_any N T (by omega) (by omega) W)
 have CA:=jH (fun (x y:Nat) (h:x+y<340282366920938463463374607431768211456) W=>show Calls Tryz.prog 208 #[.agg (bitsL x.testBit).toArray,.agg (bitsL y.testBit).toArray] W (jP W (.tuple #[.agg (bitsL (x+y).testBit).toArray,.bool true])) from numAdd_any x y (by omega) (by omega) h W);have CC:=jH (fun (x y:Nat) (hx:x<340282366920938463463374607431768211456) (hy:y<340282366920938463463374607431768211456) W=>show Calls Tryz.prog 205 #[.agg (bitsL x.testBit).toArray,.agg (bitsL y.testBit).toArray] W (jP W (.int .i64 (cmpN x y))) from numCmp_any x y hx hy W)
 have g1:IntKind.u64.wrap (max load 0)=(L:Int):=by rw [IntKind.wrap_u64];omega
 have g2:IntKind.u64.wrap now=(N:Int):=by rw [IntKind.wrap_u64];omega
 have g4:IntKind.u64.wrap p.tg=(T:Int):=by rw [IntKind.wrap_u64];omega
 have GO:=jH (show p.tol=(O:Int) by omega);have q1:¬now<1:=by omega
 have q2:¬1073741824<now:=by omega
 have q3:decide (now<1)=false:=by simp;omega
 have q4:decide (1073741824<now)=false:=by simp;omega
 have HL3:=jH l3;have HUP:=jH hup;have HDN:=jH hdn;have HM1:=jH (show m1≤9223372036854775807000 by omega);have HO2:=jH hO2;have hst:=fun W=>bits_store W W.heap.size rfl m1.testBit
 have hst2:=fun W=>bits_store W W.heap.size rfl one.testBit
 have HL2:=jH l2;clear hR hL hN hT hO hL2 hT2 hO2 hm1 hone l2 l3 hup hdn HF hpb hn hq h1 h2 hp;unfold polV;unfold polV at HC
 go_enter Tryz.func174,Tryz.ntmps174
 go_wp2_with (first
  | (go_at_call 125
     refine calls_named ?_;intro W1 hW1;have hb1:jB w W1:=by rw [hW1];exact balloc jR _
     have hx1:W1.heap[w.heap.size]?=some (.cells #[.int .i64 p.mn,.int .i64 p.mx,.int .i64 p.tg,.int .i64 p.tol,.int .i64 p.win,.int .i64 p.hold] 46 (0,0)):=by rw [hW1];exact heap_alloc_new _ _
     clear hW1;refine (HC.out W1).mono ?_;rw [HE.out];rintro e w2 ⟨rfl,hb2⟩;have HB2:=jH (bthen hb1 hb2);have HZ2:=jH (show w.heap.size<w2.heap.size by have:=(jL hx1);have:=hb2.size;omega);obtain ⟨hx2,R0⟩:=box_rule hx1 hb2;have HX2:=jH hx2;clear hb1 hb2 hx1 hx2)
  | (go_at_call 207
     refine (C0.out _).mono ?_;rintro e w3 ⟨rfl,rfl⟩)
  | (go_at_call 204
     with_reducible refine (C1.out _).mono ?_
     rintro e w3 ⟨rfl,hb3⟩)
  | (go_at_call 204
     with_reducible refine (C2.out _).mono ?_
     rintro e w4 ⟨rfl,hb4⟩;have HB3:=jH hb3;have HB4:=jH hb4;have hst9:=zero_store (w4.alloc (.cells (bitsL one.testBit).toArray 280)) (w4.heap.size+1) (by simp);have hst10:=zero_store ((w4.alloc (.cells (bitsL one.testBit).toArray 280)).alloc (.cells Tryz.zeroCells280 280)) (w4.heap.size+1+1) (by simp);clear hb3 hb4))
 rw [zero_bits];have hz3:=HB3.out.size;have hz4:=HB4.out.size;rw [World.size_alloc] at hz4;have HZ:=jH (show w.heap.size<w3.heap.size∧w3.heap.size<w4.heap.size by have:=HZ2.out;omega);clear hz3 hz4 hst hst2 hst9 hst10 g1 g2 g4
 go_loopg [11] 1000 (fun g s11 wr=>∃(i s k:Nat),i≤1000∧1000 - i≤g∧s11=.int .i64 i∧Hid (s=i * one∧k=(min i O) * one)∧NearAt w wr p w3.heap.size w4.heap.size m1 one s k)
 case atStart =>
  refine ⟨0,0,0,by omega,Nat.le_refl _,rfl,jH ⟨by simp,by simp⟩,?_⟩;have hb:=balloc (balloc (balloc (Below.refl w4.heap.size w4) (.cells (bitsL one.testBit).toArray 280)) (.cells (bitsL fun _=>false).toArray 280)) (.cells (bitsL fun _=>false).toArray 280);have hx7:BitB w4 w3.heap.size m1.testBit:=(bit_new w3 m1.testBit).below HB4.out;have hx0:=(HB4.out.block w.heap.size (by simp;have:=HZ.out;omega)).trans (((balloc HB3.out _).block w.heap.size HZ2.out).trans HX2.out)
  refine ⟨bthen HB2.out (bthen (bthen (balloc HB3.out _) HB4.out) hb),(hb.block _ (by have:=HZ.out;omega)).trans hx0,hx7.below hb,box3_0 _ _ _ _,?_,?_⟩
  · have:=box3_1 w4 (.cells (bitsL one.testBit).toArray 280) (.cells (bitsL fun _=>false).toArray 280) (.cells (bitsL fun _=>false).toArray 280)
    unfold BitB;rw [numV_lt 0];exact this
  · have:=box3_2 w4 (.cells (bitsL one.testBit).toArray 280) (.cells (bitsL fun _=>false).toArray 280) (.cells (bitsL fun _=>false).toArray 280)
    unfold BitB;rw [numV_lt 0];exact this
 case round =>
  obtain ⟨i,s,k,hi,hg,rfl,HSK,hat⟩:=hrel;rename World=>wr
  have HAT:=jH hat;clear hat;clear R0
  by_cases hlt:i<1000
  · have z1:(i:Int)<1000:=by omega
    obtain ⟨i1,hi1⟩:∃i1:Nat,i1=i+1:=⟨_,rfl⟩;obtain ⟨s',hs'⟩:∃s':Nat,s'=s+one:=⟨_,rfl⟩;have CS:=jH (fun W=>show Calls Tryz.prog 208 #[.agg (bitsL s.testBit).toArray,.agg (bitsL one.testBit).toArray] W (jP W (.tuple #[.agg (bitsL s'.testBit).toArray,.bool true])) from hs' ▸ CA.out s one (HLB.out s i (Nat.le_of_lt hlt) HSK.out.1) W);have HS1:=jH (show s'=i1 * one from by have h9:=HSK.out.1;subst hs' hi1;rw [Nat.add_mul,Nat.one_mul,←h9])
    have HI1:=jH (show i1≤1000∧1000 - i1<1000 - i∧i1=i+1 from by subst hi1;exact ⟨hlt,Nat.sub_lt_sub_left hlt (Nat.lt_succ_self i),rfl⟩);have z2:wrap64 ((i:Int)+1)=(i1:Int):=by unfold wrap64;omega
    by_cases hlo:i<O
    · have z3:(i:Int)<p.tol:=by rw [GO.out];exact Int.ofNat_lt.2 hlo
      obtain ⟨k',hk'⟩:∃k':Nat,k'=k+one:=⟨_,rfl⟩;have CK:=jH (fun W=>show Calls Tryz.prog 208 #[.agg (bitsL k.testBit).toArray,.agg (bitsL one.testBit).toArray] W (jP W (.tuple #[.agg (bitsL k'.testBit).toArray,.bool true])) from hk' ▸ CA.out k one (HLB.out k (min i O) (Nat.le_trans (Nat.min_le_left _ _) (Nat.le_of_lt hlt)) HSK.out.2) W);have HK1:=jH (show k'=(min i1 O) * one from by have h9:=HSK.out.2;rw [Nat.min_eq_left (Nat.le_of_lt hlo)] at h9;subst hk' hi1;rw [Nat.min_eq_left (show i+1≤O from hlo),Nat.add_mul,Nat.one_mul,←h9])
      clear hk' hs' hi1 hlo hlt
      as_aux_lemma =>
      go_wp2_with (first
       | (refine wpList_load_list rfl 280 (.tmp 9) rfl (w4.heap.size+1) 0 (bitsL s.testBit) HAT.out.s.range (by rfl) _ Tryz.underlying280 (by rfl) (num_size _) ?_)
       | (refine wpList_load_list rfl 280 (.tmp 8) rfl (w4.heap.size) 0 (bitsL one.testBit) HAT.out.o.range (by rfl) _ Tryz.underlying280 (by rfl) (num_size _) ?_)
       | (go_at_call 208
          with_reducible refine (CS.out wr).mono ?_
          rintro e w5 ⟨rfl,hb5⟩;have HAT5:=jH (HAT.out.below hb5);clear hb5)
       | (refine wpList_store_mid rfl 280 (.tmp 9) (.tmp 47) rfl (w4.heap.size+1) 0 (bitsL s'.testBit).toArray (by rfl) (by rfl) (HAT5.out.s.there _) (num_sizeA _) (bits_one _) ?_
          refine list_named ?_;intro W6 hW6;have hW6':W6=w5.setCells (w4.heap.size+1) 0 (bitsL s'.testBit):=hW6;have hat6:=HAT5.out.setS HZ.out.1 HZ.out.2 s';rw [←hW6'] at hat6;obtain ⟨c1,c2,c3⟩:=box_cells jR hat6.pol;unfold polA at c1;have HAT6:=jH hat6;clear hW6 hW6' hat6 c2 c3)
       | (refine wpList_load_list rfl 280 (.tmp 10) rfl (w4.heap.size+1+1) 0 (bitsL k.testBit) HAT6.out.k.range (by rfl) _ Tryz.underlying280 (by rfl) (num_size _) ?_)
       | (refine wpList_load_list rfl 280 (.tmp 8) rfl (w4.heap.size) 0 (bitsL one.testBit) HAT6.out.o.range (by rfl) _ Tryz.underlying280 (by rfl) (num_size _) ?_)
       | (go_at_call 208
          with_reducible refine (CK.out W6).mono ?_
          rintro e w7 ⟨rfl,hb7⟩;have HAT7:=jH (HAT6.out.below hb7);clear hb7 c1)
       | (refine wpList_store_mid rfl 280 (.tmp 10) (.tmp 57) rfl (w4.heap.size+1+1) 0 (bitsL k'.testBit).toArray (by rfl) (by rfl) (HAT7.out.k.there _) (num_sizeA _) (bits_one _) ?_
          refine list_named ?_;intro W8 hW8;have hW8':W8=w7.setCells (w4.heap.size+1+1) 0 (bitsL k'.testBit):=hW8;have hat8:=HAT7.out.setK HZ.out.1 HZ.out.2 k';rw [←hW8'] at hat8;have HAT8:=jH hat8;clear hW8 hW8' hat8))
      go_roundg (1000 - i1)
      case measure=>exact Nat.lt_of_lt_of_le HI1.out.2.1 hg
      case rel=>exact ⟨i1,s',k',HI1.out.1,Nat.le_refl _,by first|rfl|(rw [HI1.out.2.2];clear z2;go_num),jH ⟨HS1.out,HK1.out⟩,HAT8.out⟩
    · have z3:¬(i:Int)<p.tol:=by rw [GO.out];exact fun h=>hlo (Int.ofNat_lt.1 h)
      have HK1:=jH (show k=(min i1 O) * one from by have h9:=HSK.out.2;rw [Nat.min_eq_right (Nat.le_of_not_lt hlo)] at h9;subst hi1;rw [Nat.min_eq_right (show O≤i+1 from Nat.le_succ_of_le (Nat.le_of_not_lt hlo)),←h9]);clear hs' hi1 hlo hlt
      as_aux_lemma =>
      go_wp2_with (first
       | (refine wpList_load_list rfl 280 (.tmp 9) rfl (w4.heap.size+1) 0 (bitsL s.testBit) HAT.out.s.range (by rfl) _ Tryz.underlying280 (by rfl) (num_size _) ?_)
       | (refine wpList_load_list rfl 280 (.tmp 8) rfl (w4.heap.size) 0 (bitsL one.testBit) HAT.out.o.range (by rfl) _ Tryz.underlying280 (by rfl) (num_size _) ?_)
       | (go_at_call 208
          with_reducible refine (CS.out wr).mono ?_
          rintro e w5 ⟨rfl,hb5⟩;have HAT5:=jH (HAT.out.below hb5);clear hb5)
       | (refine wpList_store_mid rfl 280 (.tmp 9) (.tmp 47) rfl (w4.heap.size+1) 0 (bitsL s'.testBit).toArray (by rfl) (by rfl) (HAT5.out.s.there _) (num_sizeA _) (bits_one _) ?_
          refine list_named ?_;intro W6 hW6;have hW6':W6=w5.setCells (w4.heap.size+1) 0 (bitsL s'.testBit):=hW6;have hat6:=HAT5.out.setS HZ.out.1 HZ.out.2 s';rw [←hW6'] at hat6;obtain ⟨c1,c2,c3⟩:=box_cells jR hat6.pol;unfold polA at c1;have HAT6:=jH hat6;clear hW6 hW6' hat6 c2 c3))
      go_roundg (1000 - i1)
      case measure=>exact Nat.lt_of_lt_of_le HI1.out.2.1 hg
      case rel=>exact ⟨i1,s',k,HI1.out.1,Nat.le_refl _,by first|rfl|(rw [HI1.out.2.2];clear z2;go_num),jH ⟨HS1.out,HK1.out⟩,HAT6.out⟩
  · obtain rfl:i=1000:=by omega
    have hs:=HSK.out.1;have hk:=HSK.out.2;rw [Nat.min_eq_right (by have:=HO2.out;omega)] at hk;have hol:=HL3.out O (by have:=HO2.out;omega);have htl:=HL3.out 1000 (Nat.le_refl _);have hml:=HM1.out;have hu:=HUP.out;have hd:=HDN.out;have z1:¬((1000:Nat):Int)<1000:=by omega
    have CU:=jH (fun W=>show Calls Tryz.prog 208 #[.agg (bitsL s.testBit).toArray,.agg (bitsL k.testBit).toArray] W (jP W (.tuple #[.agg (bitsL up.testBit).toArray,.bool true])) from by rw [hu,←hs,←hk];exact CA.out s k (by omega) W);have CD:=jH (fun W=>show Calls Tryz.prog 208 #[.agg (bitsL m1.testBit).toArray,.agg (bitsL k.testBit).toArray] W (jP W (.tuple #[.agg (bitsL dn.testBit).toArray,.bool true])) from by rw [hd,←hk];exact CA.out m1 k (by omega) W)
    have CX:=jH (fun W=>CC.out m1 up (by omega) (by omega) W);have CY:=jH (fun W=>CC.out s dn (by omega) (by omega) W);have HX:=jH (cmpN_le m1 up);have HY:=jH (cmpN_le s dn);obtain ⟨bx,hbx⟩:∃b,b=decide (m1≤up):=⟨_,rfl⟩;obtain ⟨by1,hby⟩:∃b,b=decide (s≤dn):=⟨_,rfl⟩;have HFIN:=jH (show R=(bx && by1) by rw [HRR.out,hbx,hby,hs]);rw [←hbx] at HX;rw [←hby] at HY;clear hbx hby;generalize cmpN m1 up=cx at CX HX
    generalize cmpN s dn=cy at CY HY;have hstU:=fun W=>bits_store W W.heap.size rfl up.testBit
    have hstD:=fun W=>bits_store W W.heap.size rfl dn.testBit
    clear hs hk hol htl hml hu hd
    cases bx
    · have HRF:=jH (show R=false from HFIN.out)
      have x1:¬cx≤0:=by have:=HX.out;simpa using this
      have x2:decide (cx≤0)=false:=by simp;omega
      go_wp2_with (first
       | (refine wpList_load_list rfl 280 (.tmp 9) rfl (w4.heap.size+1) 0 (bitsL s.testBit) HAT.out.s.range (by rfl) _ Tryz.underlying280 (by rfl) (num_size _) ?_)
       | (refine wpList_load_list rfl 280 (.tmp 10) rfl (w4.heap.size+1+1) 0 (bitsL k.testBit) HAT.out.k.range (by rfl) _ Tryz.underlying280 (by rfl) (num_size _) ?_)
       | (go_at_call 208
          with_reducible refine (CU.out wr).mono ?_
          rintro e w5 ⟨rfl,hb5⟩;have HU5:=jH (bit_new w5 up.testBit);have HAT5:=jH (HAT.out.below (balloc hb5 (.cells (bitsL up.testBit).toArray 280)));clear hb5)
       | (refine wpList_load_list rfl 280 (.tmp 7) rfl (w3.heap.size) 0 (bitsL m1.testBit) HAT5.out.h.range (by rfl) _ Tryz.underlying280 (by rfl) (num_size _) ?_)
       | (refine wpList_load_list rfl 280 (.tmp 10) rfl (w4.heap.size+1+1) 0 (bitsL k.testBit) HAT5.out.k.range (by rfl) _ Tryz.underlying280 (by rfl) (num_size _) ?_)
       | (go_at_call 208
          with_reducible refine (CD.out _).mono ?_
          rintro e w6 ⟨rfl,hb6⟩;have HU6:=jH ((HU5.out.below hb6).below (balloc jR (.cells (bitsL dn.testBit).toArray 280)));have HD6:=jH (bit_new w6 dn.testBit);have HAT6:=jH (HAT5.out.below (balloc hb6 (.cells (bitsL dn.testBit).toArray 280)));clear hb6)
       | (refine wpList_load_list rfl 280 (.tmp 7) rfl (w3.heap.size) 0 (bitsL m1.testBit) HAT6.out.h.range (by rfl) _ Tryz.underlying280 (by rfl) (num_size _) ?_)
       | (refine wpList_load_list rfl 280 (.tmp 12) rfl (w5.heap.size) 0 (bitsL up.testBit) HU6.out.range (by rfl) _ Tryz.underlying280 (by rfl) (num_size _) ?_)
       | (go_at_call 205
          with_reducible refine (CX.out _).mono ?_
          rintro e w7 ⟨rfl,hb7⟩;have HD7:=jH (HD6.out.below hb7);have HAT7:=jH (HAT6.out.below hb7);have HBX:=jH HAT7.out.b;clear hb7))
      go_ret
      exact ⟨by rw [HRF.out];rfl,HBX.out⟩
    · have HRF:=jH (show R=decide (cy≤0) from HFIN.out.trans HY.out.symm)
      have x1:cx≤0:=by have:=HX.out;simpa using this
      have x2:decide (cx≤0)=true:=by simp;omega
      go_wp2_with (first
       | (refine wpList_load_list rfl 280 (.tmp 9) rfl (w4.heap.size+1) 0 (bitsL s.testBit) HAT.out.s.range (by rfl) _ Tryz.underlying280 (by rfl) (num_size _) ?_)
       | (refine wpList_load_list rfl 280 (.tmp 10) rfl (w4.heap.size+1+1) 0 (bitsL k.testBit) HAT.out.k.range (by rfl) _ Tryz.underlying280 (by rfl) (num_size _) ?_)
       | (go_at_call 208
          with_reducible refine (CU.out wr).mono ?_
          rintro e w5 ⟨rfl,hb5⟩;have HU5:=jH (bit_new w5 up.testBit);have HAT5:=jH (HAT.out.below (balloc hb5 (.cells (bitsL up.testBit).toArray 280)));clear hb5)
       | (refine wpList_load_list rfl 280 (.tmp 7) rfl (w3.heap.size) 0 (bitsL m1.testBit) HAT5.out.h.range (by rfl) _ Tryz.underlying280 (by rfl) (num_size _) ?_)
       | (refine wpList_load_list rfl 280 (.tmp 10) rfl (w4.heap.size+1+1) 0 (bitsL k.testBit) HAT5.out.k.range (by rfl) _ Tryz.underlying280 (by rfl) (num_size _) ?_)
       | (go_at_call 208
          with_reducible refine (CD.out _).mono ?_
          rintro e w6 ⟨rfl,hb6⟩;have HU6:=jH ((HU5.out.below hb6).below (balloc jR (.cells (bitsL dn.testBit).toArray 280)));have HD6:=jH (bit_new w6 dn.testBit);have HAT6:=jH (HAT5.out.below (balloc hb6 (.cells (bitsL dn.testBit).toArray 280)));clear hb6)
       | (refine wpList_load_list rfl 280 (.tmp 7) rfl (w3.heap.size) 0 (bitsL m1.testBit) HAT6.out.h.range (by rfl) _ Tryz.underlying280 (by rfl) (num_size _) ?_)
       | (refine wpList_load_list rfl 280 (.tmp 12) rfl (w5.heap.size) 0 (bitsL up.testBit) HU6.out.range (by rfl) _ Tryz.underlying280 (by rfl) (num_size _) ?_)
       | (go_at_call 205
          with_reducible refine (CX.out _).mono ?_
          rintro e w7 ⟨rfl,hb7⟩;have HD7:=jH (HD6.out.below hb7);have HAT7:=jH (HAT6.out.below hb7);have HBX:=jH HAT7.out.b;clear hb7)
       | (refine wpList_load_guard (by rfl) 280 (.tmp 9) rfl (w4.heap.size+1) 0 (by rfl) (bitsL s.testBit) _ HAT7.out.s.range Tryz.underlying280 (by rfl) (num_size _) ?_)
       | (refine wpList_load_guard (by rfl) 280 (.tmp 14) rfl (w6.heap.size) 0 (by rfl) (bitsL dn.testBit) _ HD7.out.range Tryz.underlying280 (by rfl) (num_size _) ?_)
       | (go_at_call 205
          with_reducible refine (CY.out w7).mono ?_
          rintro e w8 ⟨rfl,hb8⟩;have HBY:=jH (bthen HBX.out hb8);clear hb8))
      go_ret
      exact ⟨by rw [HRF.out];rfl,HBY.out⟩
end
section
open Go.RowKit Go.Lib
def AtM (l:List Int):Prop:=∀(v:Value) (m:Nat) (W:World),RowIn 1 nmC W v l→m≤9223372036854775807 →
  Calls Tryz.prog 171 #[v,.int .i64 (m:Nat)] W (jP W (.bool (decide (meanN l≤m))))
theorem halve_law {lo hi d h m m1:Nat} (hd:d=hi - lo) (hh:h=d / 2) (hm:m=lo+h) (hm1:m1=m+1) (hlt:lo<hi) (h3:hi≤9223372036854775807) :
 wrap64 ((hi:Int) - (lo:Int))=(d:Int)∧wrap64 ((d:Int).tdiv 2)=(h:Int)∧(d:Int).tdiv 2=(h:Int)∧wrap64 (h:Int)=(h:Int)∧wrap64 ((lo:Int)+(h:Int))=(m:Int)∧wrap64 ((m:Int)+1)=(m1:Int):=by
 have e:(d:Int).tdiv 2=(h:Int):=by rw [tdiv_pos (by omega)];omega
 rw [e];refine ⟨?_,?_,rfl,?_,?_,?_⟩
 all_goals
   clear e;unfold wrap64;omega
theorem cmpN_ge (a b:Nat):decide (0≤cmpN a b)=decide (b≤a):=by
 unfold cmpN
 by_cases h:a=b
 · rw [if_pos h];subst h;simp
 · rw [if_neg h]
   by_cases k:a<b
   · rw [if_pos k];simp;omega
   · rw [if_neg k];simp;omega
theorem atLeast_any (n:List Int) (hi:∀x∈n,0≤x∧x≤9223372036854775807) (hl:n.length≤1000000):AtM n:=by
 intro v m w hv hm;obtain ⟨A,c,rfl⟩:=hv.form
 by_cases h0:n=[]
 · subst h0
   have HR:=jH (show decide (meanN []≤m)=true by unfold meanN;simp);rw [HR.out];clear hi hl hv hm HR
   go_enter Tryz.func171,Tryz.ntmps171
   go_wp2
   go_ret
   exact ⟨rfl,jR⟩
 · have hp:0<n.length:=List.length_pos_iff.2 h0
   have z1:¬(n.length:Int)=0:=by omega
   have z2:¬n.length=0:=by omega
   have g1:IntKind.u64.wrap (m:Int)=(m:Int):=u64_wrap m (by omega);have g2:IntKind.u64.wrap (n.length:Int)=(n.length:Int):=u64_wrap _ (by omega);obtain ⟨a,ha⟩:∃a,a=m * n.length:=⟨_,rfl⟩;obtain ⟨t,ht⟩:∃t,t=totN n:=⟨_,rfl⟩;have la:a≤9223372036854775807 * 1000000:=ha ▸ Nat.mul_le_mul hm hl;have lt:t≤1000000 * 9223372036854775807:=ht ▸ Nat.le_trans (totN_le (fun x hx=>(hi x hx).2)) (Nat.mul_le_mul_right _ hl)
   have C1:=jH (fun W=>show Calls Tryz.prog 204 #[.int .u64 (m:Nat),.int .u64 (n.length:Nat)] W (jP W (.agg (bitsL a.testBit).toArray)) from ha ▸ numMul_any m n.length (by omega) (by omega) W);have CT:=jH (fun (W:World) (hW:jB w W)=>show Calls Tryz.prog 206 #[.slice A n.length c] W (jP W (.agg (bitsL t.testBit).toArray)) from ht ▸ numTotal_any _ n W (hv.below hW) hl hi);have CC:=jH (fun W=>show Calls Tryz.prog 205 #[.agg (bitsL a.testBit).toArray,.agg (bitsL t.testBit).toArray] W (jP W (.int .i64 (cmpN a t))) from numCmp_any a t (by omega) (by omega) W)
   have HR:=jH (show decide (0≤cmpN a t)=decide (meanN n≤m) by rw [cmpN_ge,ha,ht];exact decide_eq_decide.2 (meanN_least h0 m));rw [←HR.out];generalize cmpN a t=r at CC ⊢;have hst:=fun W=>bits_store W W.heap.size rfl a.testBit
   clear HR ha ht la lt hp h0 hi hl hv hm
   go_enter Tryz.func171,Tryz.ntmps171
   go_wp2_with (go_at_call 204;refine (C1.out _).mono ?_;rintro e w2 ⟨rfl,hb2⟩;have HB2':=jH hb2;clear hb2)
   refine name_world ?_;intro w4 hW4;have HX4:=jH (show BitB w4 w2.heap.size a.testBit by rw [hW4];exact bit_new w2 a.testBit);have HB2:=jH (show jB w w4 by rw [hW4];exact balloc HB2'.out _);clear hW4 hst;have HB4r:=jH (Below.refl w4.heap.size w4);refine wp_region_held_drew (S:=(fun U:World=>jB w4 U)) (by kernel_rfl) ?hS1 (fun hHeld=>?_)
   case hS1=>first|with_reducible exact HB4r.out|exact HB4r.out.drew|with_reducible exact HB5.out|with_reducible exact HB6.out
   refine wpAnyH_take (i:=0) (v:=.agg (bitsL a.testBit).toArray) rfl (by kernel_rfl) (by kernel_rfl) (by kernel_rfl) (fun _ _ _ h=>h) (yieldsIf_load_mid (by rfl) 280 (.tmp 5) (by rfl) w2.heap.size (0) (by rfl) (bitsL a.testBit) _ (fun U hU=>(HX4.out.below hU).range) Tryz.underlying280 (by rfl) (num_size _)) (by assumption) ?_
   try simp only [Act.put,jA]
   refine wpAnyH_take (i:=1) (v:=?v2) rfl (by kernel_rfl) (by kernel_rfl) (by kernel_rfl) (fun _ _ _ h=>h) (Or.inl ⟨by rfl,?hy2⟩) (by assumption) ?_
   case hy2 =>
    intro w' hSw
    (try dsimp only at hSw)
    go_simp
    try (with_reducible rfl)
   try simp only [Act.put,jA]
   refine wpAnyH_ready (rs:=[2]) (by kernel_rfl) (by simp) ?_;refine AllReadyH.cons rfl (fun K hK=>?_) AllReadyH.nil;go_simp
   go_at_call 206
   refine calls_named ?_;intro W5 hW5;have hb5:jB w4 W5:=by rw [hW5];first|exact jR|exact jR.drew
   clear hW5;refine (CT.out W5 (bthen HB2.out hb5)).mono ?_;rintro e w5 ⟨rfl,hb6⟩;have HB5:=jH (bthen hb5 hb6);clear hb5 hb6
   try go_simp
   refine hK.out _ _ ?hS3 (fun hHeld2=>?_)
   case hS3=>first|with_reducible exact HB4r.out|exact HB4r.out.drew|with_reducible exact HB5.out|with_reducible exact HB6.out
   clear hK K hHeld;have hHeld:=hHeld2;clear hHeld2
   try simp only [Act.put,jA]
   refine wpAnyH_ready (rs:=[3]) (by kernel_rfl) (by simp) ?_;refine AllReadyH.cons rfl (fun K hK=>?_) AllReadyH.nil;go_simp
   go_at_call 205
   refine (CC.out w5).mono ?_;rintro e w6 ⟨rfl,hb6⟩;have HB6:=jH (bthen HB5.out hb6);clear hb6
   try go_simp
   refine hK.out _ _ ?hS4 (fun hHeld2=>?_)
   case hS4=>first|with_reducible exact HB4r.out|exact HB4r.out.drew|with_reducible exact HB5.out|with_reducible exact HB6.out
   clear hK K hHeld;have hHeld:=hHeld2;clear hHeld2
   try simp only [Act.put,jA]
   refine wpAnyH_take (i:=4) (v:=?v5) rfl (by kernel_rfl) (by kernel_rfl) (by kernel_rfl) (fun _ _ _ h=>h) (Or.inl ⟨by rfl,?hy5⟩) (by assumption) ?_
   case hy5 =>
    intro w' hSw
    (try dsimp only at hSw)
    go_simp
    try (with_reducible rfl)
   try simp only [Act.put,jA]
   refine wpAnyH_take (i:=5) (v:=?v6) rfl (by kernel_rfl) (by kernel_rfl) (by kernel_rfl) (fun _ _ _ h=>h) (Or.inl ⟨by rfl,?hy6⟩) (by assumption) ?_
   case hy6 =>
    intro w' hSw
    (try dsimp only at hSw)
    go_simp
    try (with_reducible rfl)
   try simp only [Act.put,jA]
   refine wpAnyH_done (by kernel_rfl) ?_ _;go_wp2
   go_ret
   exact ⟨rfl,bthen HB2.out HB6.out⟩
theorem refMean16_of (v:Value) (l:List Smp) (w:World) (HA:AtM (valsW l)) (hv:RowIn 2 smpC w v l) (hl:l.length≤1000000) (hi:smpI l) :
 Calls Tryz.prog 127 #[v] w (jP w (.int .i64 (meanN (valsW l):Nat))):=by
 have CV:=jH (refVals_any v l w hv hl);have hM:meanN (valsW l)≤9223372036854775807:=meanN_le (fun n hn=>(vals_i64 hi n hn).2);have CA:=jH HA;clear HA hv hi hl;generalize valsW l=n at *;obtain ⟨M,hMe⟩:∃M,M=meanN n:=⟨_,rfl⟩;have CA2:=jH (fun (v:Value) (m:Nat) (W:World) (h:RowIn 1 nmC W v n) (hm:m≤9223372036854775807)=>hMe ▸ CA.out v m W h hm);rw [←hMe] at hM ⊢;clear CA hMe;have HM:=jH hM;clear hM
 go_enter Tryz.func127,Tryz.ntmps127
 go_wp2_with (go_at_call 170;refine CV.out.mono ?_;rintro e w2 ⟨A,c,rfl,hown,hb2⟩;have HB:=jH hb2;have HO:=jH hown;clear hb2 hown)
 clear CV
 go_loopg [4,5] 9223372036854775807 (fun g s4 s5 wr=>∃lo hi:Nat,s4=.int .i64 (lo:Nat)∧s5=.int .i64 (hi:Nat)∧Hid (lo≤M∧M≤hi∧hi≤9223372036854775807∧hi - lo≤g)∧jB w2 wr)
 case atStart=>exact ⟨0,9223372036854775807,rfl,rfl,jH ⟨Nat.zero_le _,HM.out,Nat.le_refl _,by omega⟩,jR⟩
 case round =>
  obtain ⟨lo,hi,rfl,rfl,HH,hb⟩:=hrel;rename World=>wr
  have HBB:=jH hb;have HRW:=jH ((HO.out.row eNm).below hb);clear hb
  by_cases hlt:lo<hi
  · obtain ⟨h1,h2,h3,h4⟩:=HH.out
    obtain ⟨d,hd⟩:∃d:Nat,d=hi - lo:=⟨_,rfl⟩;obtain ⟨h,hh⟩:∃h:Nat,h=d / 2:=⟨_,rfl⟩;obtain ⟨m,hm⟩:∃m,m=lo+h:=⟨_,rfl⟩;obtain ⟨m1,hm1⟩:∃m1:Nat,m1=m+1:=⟨_,rfl⟩;have z1:(lo:Int)<(hi:Int):=by omega
    have CM:=jH (CA2.out _ m wr HRW.out (by omega))
    by_cases q:M≤m
    · rw [decide_eq_true q] at CM
      have HG:=jH (show lo≤M∧M≤m∧m≤9223372036854775807∧m - lo≤m - lo by omega);have HD:=jH (show m - lo<hi - lo∧hi - m1<hi - lo by omega);obtain ⟨x1,x2,x2b,x2c,x3,x5⟩:=halve_law hd hh hm hm1 hlt h3;clear hm hd hh hm1 hlt h1 h2 h3 h4 q
      as_aux_lemma =>
       go_wp2_with (go_at_call 171;refine CM.out.mono ?_;rintro e w5 ⟨rfl,hb5⟩;have HB5:=jH (bthen HBB.out hb5);clear hb5)
       go_roundg (m - lo)
       case measure=>have h8:=HD.out;have h9:=HH.out;omega
       case rel=>exact ⟨lo,m,rfl,rfl,HG,HB5.out⟩
    · rw [decide_eq_false q] at CM
      have HG:=jH (show m1≤M∧M≤hi∧hi≤9223372036854775807∧hi - m1≤hi - m1 by omega);have HD:=jH (show m - lo<hi - lo∧hi - m1<hi - lo by omega);obtain ⟨x1,x2,x2b,x2c,x3,x5⟩:=halve_law hd hh hm hm1 hlt h3;clear hm hd hh hm1 hlt h1 h2 h3 h4 q
      as_aux_lemma =>
       go_wp2_with (go_at_call 171;refine CM.out.mono ?_;rintro e w5 ⟨rfl,hb5⟩;have HB5:=jH (bthen HBB.out hb5);clear hb5)
       go_roundg (hi - m1)
       case measure=>have h8:=HD.out;have h9:=HH.out;omega
       case rel=>exact ⟨m1,hi,by first|rfl|rw [x5],rfl,HG,HB5.out⟩
  · have HE:=jH (show M=lo by have:=HH.out;omega)
    have z1:¬(lo:Int)<(hi:Int):=by omega
    go_wp2_with fail
    go_ret
    exact ⟨by rw [HE.out];rfl,bthen HB.out HBB.out⟩
theorem refMean16_any (v:Value) (l:List Smp) (w:World) (hv:RowIn 2 smpC w v l) (hl:l.length≤1000000) (hi:smpI l) :
 Calls Tryz.prog 127 #[v] w (jP w (.int .i64 (meanN (valsW l):Nat))) :=
 refMean16_of v l w (atLeast_any _ (vals_i64 hi) (by rw [vals_len];exact hl)) hv hl hi
end
end Go.Proofs.YtkcdhaallnhhmaaGreat
