/- Part 35 of the proof: IdUnpack, Win5, FlO. -/
import Derived.Test.YtkcdhaallnhhmaaGreatL29
import Derived.Test.YtkcdhaallnhhmaaGreatL31
namespace Go.Proofs.YtkcdhaallnhhmaaGreat
set_option linter.unusedSimpArgs false
set_option linter.unusedVariables false
set_option linter.unusedSectionVars false
set_option maxRecDepth 100000
set_option maxHeartbeats 16000000
section
open Go.RowKit Go.Lib
theorem u64_and63 (x:Nat) (h:x<18446744073709551616):bits BinOp.and IntKind.u64 (x:Int) 63=((x % 64:Nat):Int):=by
 have:=u64_and_nat x 63 h (by decide);rw [show (63:Int)=((63:Nat):Int) from rfl,this,show (63:Nat)=2 ^ 6 - 1 from rfl,Nat.and_two_pow_sub_one_eq_mod]
theorem at_word (x i:Nat) (h:x<18446744073709551616):bits BinOp.and IntKind.u64 ((x:Int) / 2 ^ (6 * (9 - i % 10))) 63=((x / 64 ^ (9 - i % 10) % 64:Nat):Int):=by
 have e:(x:Int) / 2 ^ (6 * (9 - i % 10))=((x / 64 ^ (9 - i % 10):Nat):Int):=by
  have e2:(2:Int) ^ (6 * (9 - i % 10))=((64 ^ (9 - i % 10):Nat):Int):=by
   rw [show (64:Nat)=2 ^ 6 from rfl,←Nat.pow_mul,Int.natCast_pow];rfl
  rw [e2,Int.natCast_ediv]
 rw [e,u64_and63 _ (Nat.lt_of_le_of_lt (Nat.div_le_self _ _) h)]
theorem at_any (hi lo i:Nat) (w:World) (h1:hi<18446744073709551616) (h2:lo<18446744073709551616) (h3:i<20) :
 Calls Tryz.prog 159 #[keyV hi lo,.int .i64 i] w (jP w (.int .u64 (atN hi lo i:Nat))):=by
 unfold keyV
 by_cases h:i<10
 · go_enter Tryz.func159,Tryz.ntmps159
   go_wp2
   go_ret
   refine ⟨ret_int ?_,jR.alloc (Nat.le_refl _) _⟩;exact (at_word hi i h1).trans (by rw [atN,if_pos h])
 · go_enter Tryz.func159,Tryz.ntmps159
   go_wp2
   go_ret
   refine ⟨ret_int ?_,jR.alloc (Nat.le_refl _) _⟩;exact (at_word lo i h2).trans (by rw [atN,if_neg h])
theorem letter_any (n:Nat) (w:World) (h1:0<n) (h2:n<40) :
 Calls Tryz.prog 160 #[.int .u64 n] w fun e w'=>e=.returned (.int .u8 ((letterN n).toNat:Nat))∧w=w':=by
 by_cases h:n=1
 · subst h
   go_enter Tryz.func160,Tryz.ntmps160
   go_wp2
   go_ret
   exact ⟨rfl,rfl⟩
 · by_cases h3:n=2
   · subst h3
     go_enter Tryz.func160,Tryz.ntmps160
     go_wp2
     go_ret
     exact ⟨rfl,rfl⟩
   · by_cases h4:n=13
     · subst h4
       go_enter Tryz.func160,Tryz.ntmps160
       go_wp2
       go_ret
       exact ⟨rfl,rfl⟩
     · by_cases h5:n<13
       · go_enter Tryz.func160,Tryz.ntmps160
         go_wp2
         go_ret
         refine ⟨ret_int ?_,rfl⟩;rw [letterN,if_neg h,if_neg h3,if_pos h5,UInt8.toNat_ofNat'];omega
       · go_enter Tryz.func160,Tryz.ntmps160
         go_wp2
         go_ret
         refine ⟨ret_int ?_,rfl⟩;rw [letterN,if_neg h,if_neg h3,if_neg h5,if_neg h4,UInt8.toNat_ofNat'];omega
theorem byte_info:(Tryz.prog.info? 5).map (fun i=>(i.zero,i.size,i.bytes))=some (some (.int .u8 0),1,1):=by kernel_rfl
def UnpackSays (hi lo:Nat) (e:Ending):Prop :=
 (∃s:ByteArray,IsKey hi lo s.data.toList∧e=.returned (.tuple #[.string s,.bool true])) ∨
 ((∀l,¬IsKey hi lo l)∧e=.returned (.tuple #[.string { data:=#[] },.bool false]))
def UnpRel (W:World) (hi lo:Nat) (b:Value) (k:Nat) (l:List UInt8) (w':World):Prop :=
 k≤20∧l.length≤k∧(∀x∈l,okB x=true)∧(∀j,j<k→atN hi lo j=dig l j)∧w'.ownsRow W.heap.size 5 1 b l.length (bytesV l)∧jB W w'
theorem no_big {hi lo k:Nat} (hk:k<20) (h:39<atN hi lo k):∀l,¬IsKey hi lo l:=by
 intro l hl;have:=hl.digs k hk;have:=dig_le l k;omega
theorem no_gap {hi lo k:Nat} {l:List UInt8} (hk:k<20) (hl:l.length<k) (hdg:∀j,j<k→atN hi lo j=dig l j) (h:0<atN hi lo k):∀m,¬IsKey hi lo m:=by
 intro m hm;have h1:=hm.digs l.length (by omega);rw [hdg _ hl,dig_out l _ (Nat.le_refl _)] at h1;have hmok:=((idL_iff m).1 hm.1).2.2;have hml:m.length≤l.length:=by
  rcases Nat.lt_or_ge l.length m.length with h2|h2
  · rw [dig_at m _ h2] at h1
    have:=hmok _ (List.getElem_mem h2);simp [okB,←h1] at this
  · exact h2
 have:=hm.digs k hk;rw [dig_out m k (by omega)] at this;omega
theorem unp_succ_zero {hi lo k:Nat} {l:List UInt8} (hl:l.length≤k) (hdg:∀j,j<k→atN hi lo j=dig l j) (h:atN hi lo k=0):∀j,j<k+1→atN hi lo j=dig l j:=by
 intro j hj
 rcases Nat.lt_or_ge j k with h1|h1
 · exact hdg j h1
 · obtain rfl:j=k:=by omega
   rw [h,dig_out l _ hl]
theorem unp_succ_some {hi lo k:Nat} {l:List UInt8} (hl:l.length=k) (hdg:∀j,j<k→atN hi lo j=dig l j) (h:0<atN hi lo k) (h2:atN hi lo k<40) :
 ∀j,j<k+1→atN hi lo j=dig (l++[letterN (atN hi lo k)]) j:=by
 intro j hj
 rcases Nat.lt_or_ge j k with h1|h1
 · rw [hdg j h1]
   simp [dig,List.getElem?_append_left (show j<l.length by omega)]
 · obtain rfl:j=k:=by omega
   rw [dig,List.getElem?_append_right (by omega)];simp [hl,(letter_all _ h2 h).1]
theorem unpack_any (hi lo:Nat) (w:World) (h1:hi<18446744073709551616) (h2:lo<18446744073709551616) :
 Calls Tryz.prog 107 #[keyV hi lo] w fun e w'=>UnpackSays hi lo e∧jB w w':=by
 obtain ⟨i0,hi0,hz0,hz1,hz2⟩:=info_parts byte_info;unfold keyV
 go_enter Tryz.func107,Tryz.ntmps107
 go_wp2
 go_loopw [4,5,6,9] (fun b _ _ i w'=>∃(k:Nat) (l:List UInt8),i=.int .i64 k∧UnpRel (w.alloc (.cells #[.int .u64 (hi:Nat),.int .u64 (lo:Nat)] 130)) hi lo b k l w') (fun _ _ _ i _=>20 - (intOf i).toNat)
 case atStart=>exact ⟨0,[],rfl,by omega,by simp,by simp,fun j hj=>absurd hj (by omega),World.ownsRow_nil _ _ _ _,jR⟩
 case round =>
  obtain ⟨k,l,rfl,hk,hl,hok,hdg,hown,hb⟩:=hrel;obtain ⟨A,c,rfl⟩:=own_form hown;obtain ⟨hcb,hfb⟩:=bcell hb;have c0:wr.cell? ⟨w.heap.size,0,none⟩=some (.int .u64 (hi:Nat)):=by rw [hcb _ _ (by simp)];simp [go_sem]
  have c1:wr.cell? ⟨w.heap.size,1,none⟩=some (.int .u64 (lo:Nat)):=by rw [hcb _ _ (by simp)];simp [go_sem]
  have hz:=hb.size;simp at hz
  clear hcb hfb;have fin0:∀w',jB wr w'→jB w w':=fun w' h=>(jR.alloc (Nat.le_refl _) _).trans ((hb.trans (h.mono (by simp;omega))).mono (by simp))
  have Hfin0:=jH fin0;clear fin0
  by_cases hk20:k<20
  · have Hok:=jH hok
    have Hdg:=jH hdg;have Hb:=jH hb;clear hok hdg hb
    by_cases hn1:39<atN hi lo k
    · clear hown
      go_wp2_with (go_at_call 159;refine (at_any hi lo k _ h1 h2 hk20).mono ?_;rintro e w2 ⟨rfl,hb2⟩)
      go_ret2
      exact ⟨.inr ⟨no_big hk20 hn1,rfl⟩,Hfin0.out _ hb2⟩
    · by_cases hn0:0<atN hi lo k
      · by_cases hlk:l.length<k
        · clear hown
          go_wp2_with (go_at_call 159;refine (at_any hi lo k _ h1 h2 hk20).mono ?_;rintro e w2 ⟨rfl,hb2⟩)
          go_ret2
          exact ⟨.inr ⟨no_gap hk20 hlk Hdg.out hn0,rfl⟩,Hfin0.out _ hb2⟩
        · have hlk':l.length=k:=by omega
          have hdg':=unp_succ_some hlk' Hdg.out hn0 (by omega);have hok':∀x∈l++[letterN (atN hi lo k)],okB x=true:=by
           intro x hx
           rcases List.mem_append.1 hx with hx|hx
           · exact Hok.out x hx
           · rw [List.mem_singleton.1 hx];exact (letter_all _ (by omega) hn0).2
          have Hdg':=jH hdg';have Hok':=jH hok';have Hlk:=jH hlk';clear hdg' hok' hlk'
          go_wp2_with (first
           | (go_at_call 159;refine (at_any hi lo k _ h1 h2 hk20).mono ?_;rintro e w2 ⟨rfl,hb2⟩;have hown2:=own_below hown hb2;clear hown;have hsz2:=hb2.size)
           | (go_at_call 160;refine (letter_any _ _ hn0 (by omega)).mono ?_;rintro e w3 ⟨rfl,rfl⟩)
           | (at_builtin
              refine wpList_append_own _ rfl _ _ 243 rfl _ 5 i0 (.int .u8 0) 1 1 Tryz.underlying243 hi0 hz0 hz1 hz2 rfl (by decide) (.slice A l.length c) l.length (bytesV l) rfl (hown2.alloc _) ⟨w2.heap.size,0,none⟩ 1 1 [.int .u8 ((letterN (atN hi lo k)).toNat:Nat)] rfl rfl (cell_one_new _ _ _) (one_int _ _) (by simp only [maxLen];omega) (by omega) (by simp;omega) ?_;intro v' w4 hown4 hgrow _))
          have hlt:=hown2.lt
          go_roundw
          case rel =>
           rw [bytesV_snoc] at hown4;refine ⟨k+1,l++[letterN (atN hi lo k)],by go_num,by omega,by simp;omega,Hok'.out,Hdg'.out,by simpa using hown4,?_⟩;exact ((Hb.out.trans (hb2.mono (by simp;omega))).alloc (by simp;omega) _).grown hgrow (by simp;omega) (fun q hq=>(hlt q hq).1)
          case measure=>simp [intOf];omega
      · have hn00:atN hi lo k=0:=by omega
        have hdg':=unp_succ_zero hl Hdg.out hn00;have Hdg':=jH hdg';clear hdg' hn00
        go_wp2_with (go_at_call 159;refine (at_any hi lo k _ h1 h2 hk20).mono ?_;rintro e w2 ⟨rfl,hb2⟩)
        go_roundw
        case rel =>
         exact ⟨k+1,l,by go_num,by omega,by omega,Hok.out,Hdg'.out,own_below hown hb2,Hb.out.trans (hb2.mono (by simp;omega))⟩
        case measure=>simp [intOf];omega
  · obtain rfl:k=20:=by omega
    clear hk hk20;have hconv:=run_convert_own (P:=Tryz.prog) Tryz.underlying243 Tryz.underlying5 Tryz.underlying9 hown;have hsz:(⟨l.toArray⟩:ByteArray).size≤maxLen:=by simp [ByteArray.size,maxLen];omega
    have Hown:=jH hown;clear hown
    cases hid:idS ⟨l.toArray⟩ with
    | false =>
      have hno:∀m,¬IsKey hi lo m:=by
       intro m hm;have hid':idL l=false:=by rw [←hid];simp [idS]
       have hmm:=(idL_iff m).1 hm.1;obtain rfl:l=m:=list_of_digs l m hok hmm.2.2 20 (by omega) hmm.2.1 (fun j hj=>by rw [←hdg j hj,hm.digs j hj]);rw [hm.1] at hid'
       cases hid'
      have hpv:packV ⟨l.toArray⟩=packErr:=by simp [packV,hid]
      have Hpv:=jH hpv;clear hid hpv hok hdg
      go_wp2_with (go_at_call 108;refine (pack_any _ _ hsz).mono ?_;rw [Hpv.out];unfold packErr;rintro e w2 ⟨rfl,hb2⟩;have hsz2:=hb2.size)
      go_ret2
      exact ⟨.inr ⟨hno,rfl⟩,(((jR.alloc (Nat.le_refl _) _).trans (hb.mono (by simp))).trans (hb2.mono (by omega))).alloc (by omega) _⟩
    | true =>
      have hidl:idL l=true:=by rw [←hid];simp [idS]
      have hpv:packV ⟨l.toArray⟩=.tuple #[.agg #[.int .u64 (hiN l:Nat),.int .u64 (loN l:Nat)],.int .i64 0]:=by simp [packV,hid]
      have Hpv:=jH hpv;clear hid hpv;have hn1:=hiN_lt l;have hn2:=loN_lt l
      by_cases hyes:hiN l=hi∧loN l=lo
      · obtain ⟨rfl,rfl⟩:=hyes
        have hyes:IsKey (hiN l) (loN l) l:=⟨hidl,rfl,rfl⟩;clear hok hdg hidl
        go_wp2_with (go_at_call 108;refine (pack_any _ _ hsz).mono ?_;rw [Hpv.out];rintro e w2 ⟨rfl,hb2⟩;have hsz2:=hb2.size;have d0:=(hb2.cell (p:=⟨w.heap.size,0,none⟩) (by show w.heap.size<_;omega)).trans c0;have d1:=(hb2.cell (p:=⟨w.heap.size,1,none⟩) (by show w.heap.size<_;omega)).trans c1;have hlt2:w.heap.size<w2.heap.size:=by omega
                     have hconv2:=fun o=>run_convert_own (P:=Tryz.prog) Tryz.underlying243 Tryz.underlying5 Tryz.underlying9 ((own_below Hown.out hb2).alloc o))
        go_ret2
        exact ⟨.inl ⟨⟨l.toArray⟩,by simpa using hyes,rfl⟩,(((jR.alloc (Nat.le_refl _) _).trans (hb.mono (by simp))).trans (hb2.mono (by omega))).alloc (by omega) _⟩
      · have hno:∀m,¬IsKey hi lo m:=by
         intro m hm;have hmm:=(idL_iff m).1 hm.1;obtain rfl:l=m:=list_of_digs l m hok hmm.2.2 20 (by omega) hmm.2.1 (fun j hj=>by rw [←hdg j hj,hm.digs j hj]);exact hyes hm.2
        by_cases hq:hiN l=hi
        · have hq2:((loN l:Int) == (lo:Int))=false:=by simp;omega
          subst hq;clear hok hdg hidl hyes
          go_wp2_with (go_at_call 108;refine (pack_any _ _ hsz).mono ?_;rw [Hpv.out];rintro e w2 ⟨rfl,hb2⟩;have hsz2:=hb2.size;have d0:=(hb2.cell (p:=⟨w.heap.size,0,none⟩) (by show w.heap.size<_;omega)).trans c0;have d1:=(hb2.cell (p:=⟨w.heap.size,1,none⟩) (by show w.heap.size<_;omega)).trans c1;have hlt2:w.heap.size<w2.heap.size:=by omega)
          go_ret2
          exact ⟨.inr ⟨hno,rfl⟩,(((jR.alloc (Nat.le_refl _) _).trans (hb.mono (by simp))).trans (hb2.mono (by omega))).alloc (by omega) _⟩
        · have hq2:((hiN l:Int) == (hi:Int))=false:=by simp;omega
          clear hok hdg hidl hyes hq
          go_wp2_with (go_at_call 108;refine (pack_any _ _ hsz).mono ?_;rw [Hpv.out];rintro e w2 ⟨rfl,hb2⟩;have hsz2:=hb2.size;have d0:=(hb2.cell (p:=⟨w.heap.size,0,none⟩) (by show w.heap.size<_;omega)).trans c0;have d1:=(hb2.cell (p:=⟨w.heap.size,1,none⟩) (by show w.heap.size<_;omega)).trans c1;have hlt2:w.heap.size<w2.heap.size:=by omega)
          go_ret2
          exact ⟨.inr ⟨hno,rfl⟩,(((jR.alloc (Nat.le_refl _) _).trans (hb.mono (by simp))).trans (hb2.mono (by omega))).alloc (by omega) _⟩
theorem unpack_yes (hi lo:Nat) (s:ByteArray) (w:World) (h1:hi<18446744073709551616) (h2:lo<18446744073709551616) (h:IsKey hi lo s.data.toList) :
 Calls Tryz.prog 107 #[keyV hi lo] w (jP w (.tuple #[.string s,.bool true])) :=
 (unpack_any hi lo w h1 h2).mono fun e w' ⟨he,hb⟩=>by
   refine ⟨?_,hb⟩
   rcases he with ⟨s',h',he⟩|⟨h',_⟩
   · have:=h.one h'
     have e2:s'=s:=by
      cases s;cases s'
      simp at this
      rw [this]
     rw [he,e2]
   · exact absurd h (h' _)
theorem unpack_no (hi lo:Nat) (w:World) (h1:hi<18446744073709551616) (h2:lo<18446744073709551616) (h:∀l,¬IsKey hi lo l) :
 Calls Tryz.prog 107 #[keyV hi lo] w (jP w (.tuple #[.string { data:=#[] },.bool false])) :=
 (unpack_any hi lo w h1 h2).mono fun e w' ⟨he,hb⟩=>by
   refine ⟨?_,hb⟩
   rcases he with ⟨s',h',he⟩|⟨_,he⟩
   · exact absurd h' (h _)
   · exact he
end
section
open Go.RowKit Go.Lib
theorem winOf_any (v:Value) (l:List Smp) (w:World) (hv:RowIn 2 smpC w v l) (hl:l.length≤1000000) (hi:smpI l) :
 Calls Tryz.prog 167 #[v] w (jP w (stV (statN (valsW l)))):=by
 have CV:=jH (fun W (hW:jB w W)=>winVals_any v l W (hv.below hW) hl);have hvi:=vals_i64 hi;have hvl:(valsW l).length≤1000000:=by rw [vals_len];exact hl
 have HLL:=jH hvl;have HVI:=jH hvi;have hl9:(valsW l).length≤9223372036854775807:=by omega
 clear hv hi hl hvi hvl;generalize valsW l=n at *
 by_cases hne:n=[]
 · subst hne
   have HST:=jH (show statN []=st0 from rfl);have q2:(((([]:List Int).length:Nat):Int) == 0)=true:=rfl;clear hl9
   go_enter Tryz.func167,Tryz.ntmps167
   go_wp2_with (first
    | (go_at_call 197
       refine calls_named ?_;intro W1 hW1;have hb1:jB w W1:=by rw [hW1];exact balloc jR _
       have hx1:W1.heap[w.heap.size]?=some (.cells #[.int .i64 0,.int .i64 0,.int .i64 0,.int .i64 0,.int .i64 0] 72 (0,0)):=by rw [hW1];exact heap_alloc_new _ _
       clear hW1;refine (CV.out W1 hb1).mono ?_;rintro e w2 ⟨A,c,rfl,ho,hb2⟩;have HX2:=jH (box_below (w:=w) hx1 hb2);obtain ⟨e1,e2,e3⟩:=box_cells jR HX2.out;have HB2:=jH (bthen hb1 hb2);clear hb1 hx1 ho hb2))
   have hz2:=setCell_block (i:=4) (v:=.int .i64 0) (setCell_block (i:=3) (v:=.int .i64 0) (setCell_block (i:=2) (v:=.int .i64 0) (setCell_block (i:=1) (v:=.int .i64 0) (setCell_block (i:=0) (v:=.int .i64 0) HX2.out))));obtain ⟨f1,f2,f3⟩:=box_cells jR hz2;refine bodyPost_ret (v:=.agg #[.int .i64 0,.int .i64 0,.int .i64 0,.int .i64 0,.int .i64 0]) (by simp [results,Tryz.results167,go_sem,f1]) rfl ⟨by rw [HST.out];rfl,((((HB2.out.setCell (Nat.le_refl _) _).setCell (Nat.le_refl _) _).setCell (Nat.le_refl _) _).setCell (Nat.le_refl _) _).setCell (Nat.le_refl _) _⟩
 · have hp:0<n.length:=List.length_pos_iff.2 hne
   have HST:=jH (show statN n=⟨n.length,sumE n 0,minL n,maxL n,meanN n⟩ by unfold statN;rw [if_neg hne]);have q0:¬(n.length:Int)=0:=by omega
   have q1:((n.length:Int) == 0)=false:=by simpa using hne
   have CS:=jH (fun v W (h:RowIn 1 nmC W v n)=>satSum_any v n W h HLL.out (fun m hm=>by have:=HVI.out m hm;unfold I64;omega));have CMi:=jH (fun v W (h:RowIn 1 nmC W v n)=>slMin_any v n W h HLL.out hne);have CMa:=jH (fun v W (h:RowIn 1 nmC W v n)=>slMax_any v n W h HLL.out hne);have CMe:=jH (fun v W (h:RowIn 1 nmC W v n)=>wideMean_any v n W h HLL.out HVI.out);generalize sumE n 0=s1 at CS HST;generalize minL n=s2 at CMi HST
   generalize maxL n=s3 at CMa HST;generalize meanN n=s4 at CMe HST;clear hne hp
   go_enter Tryz.func167,Tryz.ntmps167
   go_wp2_with (first
    | (go_at_call 197
       refine calls_named ?_;intro W1 hW1;have hb1:jB w W1:=by rw [hW1];exact balloc jR _
       have hx1:W1.heap[w.heap.size]?=some (.cells #[.int .i64 0,.int .i64 0,.int .i64 0,.int .i64 0,.int .i64 0] 72 (0,0)):=by rw [hW1];exact heap_alloc_new _ _
       clear hW1;refine (CV.out W1 hb1).mono ?_;rintro e w2 ⟨A,c,rfl,ho,hb2⟩;have HX2:=jH (box_below (w:=w) hx1 hb2);obtain ⟨e1,e2,e3⟩:=box_cells jR HX2.out;have HB2:=jH (bthen hb1 hb2);have HR2:=jH (ho.row eNm);clear hb1 hx1 ho hb2)
    | (go_at_call 198
       refine (CS.out _ w2 HR2.out).mono ?_;rintro e w3 ⟨rfl,rfl⟩)
    | (go_at_call 199
       refine (CMi.out _ w2 HR2.out).mono ?_;rintro e w3 ⟨rfl,rfl⟩)
    | (go_at_call 200
       refine (CMa.out _ w2 HR2.out).mono ?_;rintro e w3 ⟨rfl,rfl⟩)
    | (go_at_call 201
       refine (CMe.out _ w2 HR2.out).mono ?_;rintro e w3 ⟨rfl,hb3⟩;have HX3:=jH (box_below (w:=w) HX2.out hb3);obtain ⟨g1,g2,g3⟩:=box_cells jR HX3.out;have HB3:=jH (bthen HB2.out hb3);clear hb3))
   have hz2:=setCell_block (i:=4) (v:=.int .i64 s4) (setCell_block (i:=3) (v:=.int .i64 s3) (setCell_block (i:=2) (v:=.int .i64 s2) (setCell_block (i:=1) (v:=.int .i64 s1) (setCell_block (i:=0) (v:=.int .i64 n.length) HX3.out))));obtain ⟨f1,f2,f3⟩:=box_cells jR hz2;refine bodyPost_ret (v:=.agg #[.int .i64 n.length,.int .i64 s1,.int .i64 s2,.int .i64 s3,.int .i64 s4]) (by simp [results,Tryz.results167,go_sem,f1]) rfl ⟨by rw [HST.out];rfl,((((HB3.out.setCell (Nat.le_refl _) _).setCell (Nat.le_refl _) _).setCell (Nat.le_refl _) _).setCell (Nat.le_refl _) _).setCell (Nat.le_refl _) _⟩
theorem winAt_any (v:Value) (l:List Smp) (til wd:Int) (w:World) (hv:RowIn 2 smpC w v l) (hl:l.length≤1000000) (hi:smpI l) (ht:I64 til) (hw:I64 wd) :
 Calls Tryz.prog 123 #[v,.int .i64 til,.int .i64 wd] w (jP w (stV (statW l til wd))):=by
 have CF:=jH (fun W=>winFrom_any til wd W ht hw);have CC:=jH (fun W (hW:jB w W)=>winCut_any v l (fromW til wd) til W (hv.below hW) hl);have COf:=jH (fun v W (h:RowIn 2 smpC W v (winC l (fromW til wd) til))=>winOf_any v _ W h (Nat.le_trans (cut_len _ _ _) hl) (hi.cut _ _));unfold statW;generalize winC l (fromW til wd) til=m at CC COf ⊢;generalize fromW til wd=f at CF CC;generalize statN (valsW m)=s at COf ⊢
 obtain ⟨s0,s1,s2,s3,s4⟩:=s;unfold stV at COf ⊢;simp only at COf ⊢
 clear hv hl hi ht hw
 go_enter Tryz.func123,Tryz.ntmps123
 go_wp2_with (first
  | (go_at_call 169
     refine calls_named ?_;intro W1 hW1;have HB1:=jH (show jB w W1 by rw [hW1];exact balloc jR _);have HX1:=jH (show W1.heap[w.heap.size]?=some (.cells #[.int .i64 0,.int .i64 0,.int .i64 0,.int .i64 0,.int .i64 0] 72 (0,0)) by rw [hW1];exact heap_alloc_new _ _);clear hW1;refine (CF.out W1).mono ?_;rintro e w2 ⟨rfl,rfl⟩)
  | (go_at_call 168
     refine (CC.out W1 HB1.out).mono ?_;rintro e w2 ⟨A,c,rfl,ho,hb2⟩;have HX2:=jH (box_below (w:=w) HX1.out hb2);have HB2:=jH (bthen HB1.out hb2);have HR2:=jH (ho.row eSmp);clear ho hb2)
  | (go_at_call 167
     refine (COf.out _ w2 HR2.out).mono ?_;rintro e w3 ⟨rfl,hb3⟩;have HX3:=jH (box_below (w:=w) HX2.out hb3);obtain ⟨g1,g2,g3⟩:=box_cells jR HX3.out;have HB3:=jH (bthen HB2.out hb3);clear hb3))
 have hz2:=setCell_block (i:=4) (v:=.int .i64 s4) (setCell_block (i:=3) (v:=.int .i64 s3) (setCell_block (i:=2) (v:=.int .i64 s2) (setCell_block (i:=1) (v:=.int .i64 s1) (setCell_block (i:=0) (v:=.int .i64 s0) HX3.out))));obtain ⟨f1,f2,f3⟩:=box_cells jR hz2;exact bodyPost_ret (v:=.agg #[.int .i64 s0,.int .i64 s1,.int .i64 s2,.int .i64 s3,.int .i64 s4]) (by simp [results,Tryz.results123,go_sem,f1]) rfl ⟨rfl,((((HB3.out.setCell (Nat.le_refl _) _).setCell (Nat.le_refl _) _).setCell (Nat.le_refl _) _).setCell (Nat.le_refl _) _).setCell (Nat.le_refl _) _⟩
end
section
open Go.RowKit Go.Lib
section
variable {P:Program} {ops:Array Oper} {Q:Exit→Act→World→Prop} {md:Region.Mode} {S:World→Prop} {k:Nat}
end
def liveF (l:List FCut):Nat:=l.countP fun x=>!x.fr
theorem liveF_law {P:Nat→Prop} {w:World} {M:Nat} {c:Cfg} {wd:Wd} {d:FlatD} (h:FlMem P w M c wd d) (hep:∀q∈wd.cuts,0≤q.ep):liveF d.cuts=liveT (tabW wd):=by
 have e:d.cuts.map (·.fr)=wd.cuts.map (·.freed):=by
  apply List.ext_getElem?
  intro i;rw [List.getElem?_map,List.getElem?_map]
  by_cases hi:i<d.cuts.length
  · have hj:i<wd.cuts.length:=by rw [←h.len];exact hi
    rw [List.getElem?_eq_getElem hi,List.getElem?_eq_getElem hj];exact congrArg some (h.cut i _ _ (List.getElem?_eq_getElem hi) (List.getElem?_eq_getElem hj)).1
  · rw [List.getElem?_eq_none (by omega),List.getElem?_eq_none (by have:=h.len;omega)]
    rfl
 have e1:liveF d.cuts=(d.cuts.map (·.fr)).countP fun b=>!b:=by unfold liveF;rw [List.countP_map];rfl
 rw [e1,e];unfold liveT tabW;rw [List.countP_map,List.countP_map];refine List.countP_congr (fun q hq=>?_);have:=hep q hq;simp only [Function.comp]
 by_cases hfq:q.freed=true
 · simp [hfq]
 · simp [hfq];omega
theorem liveF_take (l:List FCut) (k:Nat) (h:k<l.length):liveF (l.take (k+1))=liveF (l.take k)+(if l[k].fr=true then 0 else 1):=by
 unfold liveF;rw [List.take_succ_eq_append_getElem h,List.countP_append,List.countP_singleton]
 cases l[k].fr <;> rfl
theorem flLive_any {P:Nat→Prop} {M:Nat} {c:Cfg} {wd:Wd} {d:FlatD} (w:World) (h:FlMem P w M c wd d) (hl:d.cuts.length≤900000) :
 Calls Tryz.prog 120 #[.pointer (some ⟨M,0,none⟩)] w (jP w (.int .i64 (liveF d.cuts:Nat))):=by
 have HV:=jH h.row.1;obtain ⟨a1,a2,a3⟩:=box_cells jR h.cell;obtain ⟨l,hll⟩:∃l,l=d.cuts:=⟨_,rfl⟩;rw [←hll] at HV a1 hl ⊢;obtain ⟨A,hA⟩:∃A,A=d.A:=⟨_,rfl⟩;obtain ⟨cp,hcp⟩:∃A,A=d.cp:=⟨_,rfl⟩;rw [←hA,←hcp] at HV a1;clear h hll hA hcp
 go_enter Tryz.func120,Tryz.ntmps120
 go_wp2_with fail
 clear a1 a2 a3
 go_loopg [3,5,11] l.length (fun g s3 _ s11 wr=>∃(k m:Nat),k≤l.length∧l.length - k≤g∧s11=.int .i64 k∧s3=.int .i64 (m:Nat)∧Hid (m=liveF (l.take k))∧jB w wr)
 case atStart=>exact ⟨0,0,Nat.zero_le _,Nat.le_refl _,rfl,rfl,jH rfl,jR⟩
 case round =>
  obtain ⟨k,m,hk,hg,rfl,rfl,HM,hbr⟩:=hrel;have HBR:=jH hbr;clear hbr
  by_cases hlt:k<l.length
  · obtain ⟨b,o,rfl,hb,hc⟩:=HV.out.at_ hlt
    have c0:wr.cell? ⟨b,o+k * 3,none⟩=some (.int .i64 l[k].ep):=(HBR.out.cell (p:=⟨b,_,none⟩) hb).trans (hc 0 _ rfl);have c1:wr.cell? ⟨b,o+k * 3+1,none⟩=some (.map l[k].m):=(HBR.out.cell (p:=⟨b,_,none⟩) hb).trans (hc 1 _ rfl);have c2:wr.cell? ⟨b,o+k * 3+2,none⟩=some (.bool l[k].fr):=(HBR.out.cell (p:=⟨b,_,none⟩) hb).trans (hc 2 _ rfl);have HT:=jH (liveF_take l k hlt);have hmb:m≤900000:=by
     have h1:=HM.out;have h2:liveF (l.take k)≤(l.take k).length:=List.countP_le_length;rw [List.length_take] at h2;omega
    have hw:wrap64 ((m:Int)+1)=((m+1:Nat):Int):=by unfold wrap64;omega
    have HW:=jH hw;clear hc hb hw hmb;generalize l[k]=x at c0 c1 c2 HT;obtain ⟨xe,xm,xes,xf⟩:=x;dsimp only at c0 c1 c2 HT
    cases xf
    · go_wp2_with fail
      go_roundg (l.length - (k+1))
      case measure=>omega
      case rel=>exact ⟨k+1,m+1,hlt,Nat.le_refl _,by go_num,by rw [HW.out],jH (by rw [HT.out,←HM.out];rfl),balloc HBR.out _⟩
    · go_wp2_with fail
      go_roundg (l.length - (k+1))
      case measure=>omega
      case rel=>exact ⟨k+1,m,hlt,Nat.le_refl _,by go_num,rfl,jH (by rw [HT.out,←HM.out];rfl),balloc HBR.out _⟩
  · obtain rfl:k=l.length:=by omega
    have hm:=HM.out;rw [List.take_length] at hm;have HM2:=jH hm;clear hm;go_wp2_with fail
    go_ret
    exact ⟨by rw [HM2.out];rfl,HBR.out⟩
theorem flClip_any (A:Option Addr) (n c:Nat) (w:World) (hc:n≤c) :
 Calls Tryz.prog 121 #[.slice A n c] w fun e w'=>e=.returned (.slice A n n)∧w'=w:=by
 go_enter Tryz.func121,Tryz.ntmps121
 go_wp2_with fail
 go_ret
 exact ⟨rfl,rfl⟩
end
end Go.Proofs.YtkcdhaallnhhmaaGreat
