/- Part 29 of the proof: IdUnpack, FlI, FlN, JEvents. -/
import Derived.Test.YtpmfcpdelkchaaaGreatL24
namespace Go.Proofs.YtpmfcpdelkchaaaGreat
set_option linter.unusedSimpArgs false
set_option linter.unusedVariables false
set_option linter.unusedSectionVars false
set_option maxRecDepth 100000
set_option maxHeartbeats 16000000
section
open Go.RowKit Go.Lib
theorem u64_and63 (x:Nat) (h:x<18446744073709551616):bits BinOp.and IntKind.u64 (x:Int) 63=((x % 64:Nat):Int):=by
 have:=u64_and_nat x 63 h (by decide);rw [show (63:Int)=((63:Nat):Int) from rfl,this,show (63:Nat)=2 ^ 6 - 1 from rfl,Nat.and_two_pow_sub_one_eq_mod]
theorem at_word (x i:Nat) (h:x<18446744073709551616):bits BinOp.and IntKind.u64 ((x:Int) / 2 ^ (6 * (9 - i % 10))) 63=((x / 64 ^ (9 - i % 10) % 64:Nat):Int):=by
 have e:(x:Int) / 2 ^ (6 * (9 - i % 10))=((x / 64 ^ (9 - i % 10):Nat):Int):=by
  have e2:(2:Int) ^ (6 * (9 - i % 10))=((64 ^ (9 - i % 10):Nat):Int):=by
   rw [show (64:Nat)=2 ^ 6 from rfl,←Nat.pow_mul,Int.natCast_pow];rfl
  rw [e2,Int.natCast_ediv]
 rw [e,u64_and63 _ (Nat.lt_of_le_of_lt (Nat.div_le_self _ _) h)]
theorem at_any (hi lo i:Nat) (w:World) (h1:hi<18446744073709551616) (h2:lo<18446744073709551616) (h3:i<20) :
 Calls Tryz.prog 191 #[keyV hi lo,.int .i64 i] w (jP w (.int .u64 (atN hi lo i:Nat))):=by
 unfold keyV
 by_cases h:i<10
 · go_enter Tryz.func191,Tryz.ntmps191
   go_wp2
   go_ret
   refine ⟨ret_int ?_,jR.alloc (Nat.le_refl _) _⟩;exact (at_word hi i h1).trans (by rw [atN,if_pos h])
 · go_enter Tryz.func191,Tryz.ntmps191
   go_wp2
   go_ret
   refine ⟨ret_int ?_,jR.alloc (Nat.le_refl _) _⟩;exact (at_word lo i h2).trans (by rw [atN,if_neg h])
theorem letter_any (n:Nat) (w:World) (h1:0<n) (h2:n<40) :
 Calls Tryz.prog 192 #[.int .u64 n] w fun e w'=>e=.returned (.int .u8 ((letterN n).toNat:Nat))∧w=w':=by
 by_cases h:n=1
 · subst h
   go_enter Tryz.func192,Tryz.ntmps192
   go_wp2
   go_ret
   exact ⟨rfl,rfl⟩
 · by_cases h3:n=2
   · subst h3
     go_enter Tryz.func192,Tryz.ntmps192
     go_wp2
     go_ret
     exact ⟨rfl,rfl⟩
   · by_cases h4:n=13
     · subst h4
       go_enter Tryz.func192,Tryz.ntmps192
       go_wp2
       go_ret
       exact ⟨rfl,rfl⟩
     · by_cases h5:n<13
       · go_enter Tryz.func192,Tryz.ntmps192
         go_wp2
         go_ret
         refine ⟨ret_int ?_,rfl⟩;rw [letterN,if_neg h,if_neg h3,if_pos h5,UInt8.toNat_ofNat'];omega
       · go_enter Tryz.func192,Tryz.ntmps192
         go_wp2
         go_ret
         refine ⟨ret_int ?_,rfl⟩;rw [letterN,if_neg h,if_neg h3,if_neg h5,if_neg h4,UInt8.toNat_ofNat'];omega
theorem byte_info:(Tryz.prog.info? 5).map (fun i=>(i.zero,i.size,i.bytes))=some (some (.int .u8 0),1,1):=by kernel_rfl
def UnpackSays (hi lo:Nat) (e:Ending):Prop :=
 (∃s:ByteArray,IsKey hi lo s.data.toList∧e=.returned (.tuple #[.string s,.bool true])) ∨
 ((∀l,¬IsKey hi lo l)∧e=.returned (.tuple #[.string { data:=#[] },.bool false]))
def UnpRel (W:World) (hi lo:Nat) (b:Value) (k:Nat) (l:List UInt8) (w':World):Prop :=
 k≤20∧l.length≤k∧(∀x∈l,okB x=true)∧(∀j,j<k→atN hi lo j=dig l j)∧w'.ownsRow W.heap.size 5 1 b l.length (bytesV l)∧jB W w'
theorem no_big {hi lo k:Nat} (hk:k<20) (h:39<atN hi lo k):∀l,¬IsKey hi lo l:=by
 intro l hl;have:=hl.digs k hk;have:=dig_le l k;omega
theorem no_gap {hi lo k:Nat} {l:List UInt8} (hk:k<20) (hl:l.length<k) (hdg:∀j,j<k→atN hi lo j=dig l j) (h:0<atN hi lo k):∀m,¬IsKey hi lo m:=by
 intro m hm;have h1:=hm.digs l.length (by omega);rw [hdg _ hl,dig_out l _ (Nat.le_refl _)] at h1;have hmok:=((idL_iff m).1 hm.1).2.2;have hml:m.length≤l.length:=by
  rcases Nat.lt_or_ge l.length m.length with h2|h2
  · rw [dig_at m _ h2] at h1
    have:=hmok _ (List.getElem_mem h2);simp [okB,←h1] at this
  · exact h2
 have:=hm.digs k hk;rw [dig_out m k (by omega)] at this;omega
theorem unp_succ_zero {hi lo k:Nat} {l:List UInt8} (hl:l.length≤k) (hdg:∀j,j<k→atN hi lo j=dig l j) (h:atN hi lo k=0):∀j,j<k+1→atN hi lo j=dig l j:=by
 intro j hj
 rcases Nat.lt_or_ge j k with h1|h1
 · exact hdg j h1
 · obtain rfl:j=k:=by omega
   rw [h,dig_out l _ hl]
theorem unp_succ_some {hi lo k:Nat} {l:List UInt8} (hl:l.length=k) (hdg:∀j,j<k→atN hi lo j=dig l j) (h:0<atN hi lo k) (h2:atN hi lo k<40) :
 ∀j,j<k+1→atN hi lo j=dig (l++[letterN (atN hi lo k)]) j:=by
 intro j hj
 rcases Nat.lt_or_ge j k with h1|h1
 · rw [hdg j h1]
   simp [dig,List.getElem?_append_left (show j<l.length by omega)]
 · obtain rfl:j=k:=by omega
   rw [dig,List.getElem?_append_right (by omega)];simp [hl,(letter_all _ h2 h).1]
theorem unpack_any (hi lo:Nat) (w:World) (h1:hi<18446744073709551616) (h2:lo<18446744073709551616) :
 Calls Tryz.prog 135 #[keyV hi lo] w fun e w'=>UnpackSays hi lo e∧jB w w':=by
 obtain ⟨i0,hi0,hz0,hz1,hz2⟩:=info_parts byte_info;unfold keyV
 go_enter Tryz.func135,Tryz.ntmps135
 go_wp2
 go_loopw [4,5,6,9] (fun b _ _ i w'=>∃(k:Nat) (l:List UInt8),i=.int .i64 k∧UnpRel (w.alloc (.cells #[.int .u64 (hi:Nat),.int .u64 (lo:Nat)] 95)) hi lo b k l w') (fun _ _ _ i _=>20 - (intOf i).toNat)
 case atStart=>exact ⟨0,[],rfl,by omega,by simp,by simp,fun j hj=>absurd hj (by omega),World.ownsRow_nil _ _ _ _,jR⟩
 case round =>
  obtain ⟨k,l,rfl,hk,hl,hok,hdg,hown,hb⟩:=hrel;obtain ⟨A,c,rfl⟩:=own_form hown;obtain ⟨hcb,hfb⟩:=bcell hb;have c0:wr.cell? ⟨w.heap.size,0,none⟩=some (.int .u64 (hi:Nat)):=by rw [hcb _ _ (by simp)];simp [go_sem]
  have c1:wr.cell? ⟨w.heap.size,1,none⟩=some (.int .u64 (lo:Nat)):=by rw [hcb _ _ (by simp)];simp [go_sem]
  have hz:=hb.size;simp at hz
  clear hcb hfb;have fin0:∀w',jB wr w'→jB w w':=fun w' h=>(jR.alloc (Nat.le_refl _) _).trans ((hb.trans (h.mono (by simp;omega))).mono (by simp))
  have Hfin0:=jH fin0;clear fin0
  by_cases hk20:k<20
  · have Hok:=jH hok
    have Hdg:=jH hdg;have Hb:=jH hb;clear hok hdg hb
    by_cases hn1:39<atN hi lo k
    · clear hown
      go_wp2_with (go_at_call 191;refine (at_any hi lo k _ h1 h2 hk20).mono ?_;rintro e w2 ⟨rfl,hb2⟩)
      go_ret2
      exact ⟨.inr ⟨no_big hk20 hn1,rfl⟩,Hfin0.out _ hb2⟩
    · by_cases hn0:0<atN hi lo k
      · by_cases hlk:l.length<k
        · clear hown
          go_wp2_with (go_at_call 191;refine (at_any hi lo k _ h1 h2 hk20).mono ?_;rintro e w2 ⟨rfl,hb2⟩)
          go_ret2
          exact ⟨.inr ⟨no_gap hk20 hlk Hdg.out hn0,rfl⟩,Hfin0.out _ hb2⟩
        · have hlk':l.length=k:=by omega
          have hdg':=unp_succ_some hlk' Hdg.out hn0 (by omega);have hok':∀x∈l++[letterN (atN hi lo k)],okB x=true:=by
           intro x hx
           rcases List.mem_append.1 hx with hx|hx
           · exact Hok.out x hx
           · rw [List.mem_singleton.1 hx];exact (letter_all _ (by omega) hn0).2
          have Hdg':=jH hdg';have Hok':=jH hok';have Hlk:=jH hlk';clear hdg' hok' hlk'
          go_wp2_with (first
           | (go_at_call 191;refine (at_any hi lo k _ h1 h2 hk20).mono ?_;rintro e w2 ⟨rfl,hb2⟩;have hown2:=own_below hown hb2;clear hown;have hsz2:=hb2.size)
           | (go_at_call 192;refine (letter_any _ _ hn0 (by omega)).mono ?_;rintro e w3 ⟨rfl,rfl⟩)
           | (at_builtin
              refine wpList_append_own _ rfl _ _ 274 rfl _ 5 i0 (.int .u8 0) 1 1 Tryz.underlying274 hi0 hz0 hz1 hz2 rfl (by decide) (.slice A l.length c) l.length (bytesV l) rfl (hown2.alloc _) ⟨w2.heap.size,0,none⟩ 1 1 [.int .u8 ((letterN (atN hi lo k)).toNat:Nat)] rfl rfl (cell_one_new _ _ _) (one_int _ _) (by simp only [maxLen];omega) (by omega) (by simp;omega) ?_;intro v' w4 hown4 hgrow _))
          have hlt:=hown2.lt
          go_roundw
          case rel =>
           rw [bytesV_snoc] at hown4;refine ⟨k+1,l++[letterN (atN hi lo k)],by go_num,by omega,by simp;omega,Hok'.out,Hdg'.out,by simpa using hown4,?_⟩;exact ((Hb.out.trans (hb2.mono (by simp;omega))).alloc (by simp;omega) _).grown hgrow (by simp;omega) (fun q hq=>(hlt q hq).1)
          case measure=>simp [intOf];omega
      · have hn00:atN hi lo k=0:=by omega
        have hdg':=unp_succ_zero hl Hdg.out hn00;have Hdg':=jH hdg';clear hdg' hn00
        go_wp2_with (go_at_call 191;refine (at_any hi lo k _ h1 h2 hk20).mono ?_;rintro e w2 ⟨rfl,hb2⟩)
        go_roundw
        case rel =>
         exact ⟨k+1,l,by go_num,by omega,by omega,Hok.out,Hdg'.out,own_below hown hb2,Hb.out.trans (hb2.mono (by simp;omega))⟩
        case measure=>simp [intOf];omega
  · obtain rfl:k=20:=by omega
    clear hk hk20;have hconv:=run_convert_own (P:=Tryz.prog) Tryz.underlying274 Tryz.underlying5 Tryz.underlying9 hown;have hsz:(⟨l.toArray⟩:ByteArray).size≤maxLen:=by simp [ByteArray.size,maxLen];omega
    have Hown:=jH hown;clear hown
    cases hid:idS ⟨l.toArray⟩ with
    | false =>
      have hno:∀m,¬IsKey hi lo m:=by
       intro m hm;have hid':idL l=false:=by rw [←hid];simp [idS]
       have hmm:=(idL_iff m).1 hm.1;obtain rfl:l=m:=list_of_digs l m hok hmm.2.2 20 (by omega) hmm.2.1 (fun j hj=>by rw [←hdg j hj,hm.digs j hj]);rw [hm.1] at hid'
       cases hid'
      have hpv:packV ⟨l.toArray⟩=packErr:=by simp [packV,hid]
      have Hpv:=jH hpv;clear hid hpv hok hdg
      go_wp2_with (go_at_call 120;refine (pack_any _ _ hsz).mono ?_;rw [Hpv.out];unfold packErr;rintro e w2 ⟨rfl,hb2⟩;have hsz2:=hb2.size)
      go_ret2
      exact ⟨.inr ⟨hno,rfl⟩,(((jR.alloc (Nat.le_refl _) _).trans (hb.mono (by simp))).trans (hb2.mono (by omega))).alloc (by omega) _⟩
    | true =>
      have hidl:idL l=true:=by rw [←hid];simp [idS]
      have hpv:packV ⟨l.toArray⟩=.tuple #[.agg #[.int .u64 (hiN l:Nat),.int .u64 (loN l:Nat)],.int .i64 0]:=by simp [packV,hid]
      have Hpv:=jH hpv;clear hid hpv;have hn1:=hiN_lt l;have hn2:=loN_lt l
      by_cases hyes:hiN l=hi∧loN l=lo
      · obtain ⟨rfl,rfl⟩:=hyes
        have hyes:IsKey (hiN l) (loN l) l:=⟨hidl,rfl,rfl⟩;clear hok hdg hidl
        go_wp2_with (go_at_call 120;refine (pack_any _ _ hsz).mono ?_;rw [Hpv.out];rintro e w2 ⟨rfl,hb2⟩;have hsz2:=hb2.size;have d0:=(hb2.cell (p:=⟨w.heap.size,0,none⟩) (by show w.heap.size<_;omega)).trans c0;have d1:=(hb2.cell (p:=⟨w.heap.size,1,none⟩) (by show w.heap.size<_;omega)).trans c1;have hlt2:w.heap.size<w2.heap.size:=by omega
                     have hconv2:=fun o=>run_convert_own (P:=Tryz.prog) Tryz.underlying274 Tryz.underlying5 Tryz.underlying9 ((own_below Hown.out hb2).alloc o))
        go_ret2
        exact ⟨.inl ⟨⟨l.toArray⟩,by simpa using hyes,rfl⟩,(((jR.alloc (Nat.le_refl _) _).trans (hb.mono (by simp))).trans (hb2.mono (by omega))).alloc (by omega) _⟩
      · have hno:∀m,¬IsKey hi lo m:=by
         intro m hm;have hmm:=(idL_iff m).1 hm.1;obtain rfl:l=m:=list_of_digs l m hok hmm.2.2 20 (by omega) hmm.2.1 (fun j hj=>by rw [←hdg j hj,hm.digs j hj]);exact hyes hm.2
        by_cases hq:hiN l=hi
        · have hq2:((loN l:Int) == (lo:Int))=false:=by simp;omega
          subst hq;clear hok hdg hidl hyes
          go_wp2_with (go_at_call 120;refine (pack_any _ _ hsz).mono ?_;rw [Hpv.out];rintro e w2 ⟨rfl,hb2⟩;have hsz2:=hb2.size;have d0:=(hb2.cell (p:=⟨w.heap.size,0,none⟩) (by show w.heap.size<_;omega)).trans c0;have d1:=(hb2.cell (p:=⟨w.heap.size,1,none⟩) (by show w.heap.size<_;omega)).trans c1;have hlt2:w.heap.size<w2.heap.size:=by omega)
          go_ret2
          exact ⟨.inr ⟨hno,rfl⟩,(((jR.alloc (Nat.le_refl _) _).trans (hb.mono (by simp))).trans (hb2.mono (by omega))).alloc (by omega) _⟩
        · have hq2:((hiN l:Int) == (hi:Int))=false:=by simp;omega
          clear hok hdg hidl hyes hq
          go_wp2_with (go_at_call 120;refine (pack_any _ _ hsz).mono ?_;rw [Hpv.out];rintro e w2 ⟨rfl,hb2⟩;have hsz2:=hb2.size;have d0:=(hb2.cell (p:=⟨w.heap.size,0,none⟩) (by show w.heap.size<_;omega)).trans c0;have d1:=(hb2.cell (p:=⟨w.heap.size,1,none⟩) (by show w.heap.size<_;omega)).trans c1;have hlt2:w.heap.size<w2.heap.size:=by omega)
          go_ret2
          exact ⟨.inr ⟨hno,rfl⟩,(((jR.alloc (Nat.le_refl _) _).trans (hb.mono (by simp))).trans (hb2.mono (by omega))).alloc (by omega) _⟩
theorem unpack_yes (hi lo:Nat) (s:ByteArray) (w:World) (h1:hi<18446744073709551616) (h2:lo<18446744073709551616) (h:IsKey hi lo s.data.toList) :
 Calls Tryz.prog 135 #[keyV hi lo] w (jP w (.tuple #[.string s,.bool true])) :=
 (unpack_any hi lo w h1 h2).mono fun e w' ⟨he,hb⟩=>by
   refine ⟨?_,hb⟩
   rcases he with ⟨s',h',he⟩|⟨h',_⟩
   · have:=h.one h'
     have e2:s'=s:=by
      cases s;cases s'
      simp at this
      rw [this]
     rw [he,e2]
   · exact absurd h (h' _)
theorem unpack_no (hi lo:Nat) (w:World) (h1:hi<18446744073709551616) (h2:lo<18446744073709551616) (h:∀l,¬IsKey hi lo l) :
 Calls Tryz.prog 135 #[keyV hi lo] w (jP w (.tuple #[.string { data:=#[] },.bool false])) :=
 (unpack_any hi lo w h1 h2).mono fun e w' ⟨he,hb⟩=>by
   refine ⟨?_,hb⟩
   rcases he with ⟨s',h',he⟩|⟨_,he⟩
   · exact absurd h' (h _)
   · exact he
end
section
open Go.RowKit Go.Lib
open Go.ChangeMaps (setBlock)
theorem updLater {w a b:World} {fp fp':List Nat} (h:Upd w a fp fp') (hb:Below w.heap.size a b) (hs:a.heap.size≤b.heap.size):Upd w b fp fp' :=
 ⟨hb.os.trans h.os,hb.tape.trans h.tape,hb.output.trans h.output,Nat.le_trans h.size hs,fun k hk hn=>(hb.block k hk).trans (h.block k hk hn),h.fresh⟩
theorem FW.avoidX {P:Nat→Prop} {w W:World} {M:Nat} {c:Cfg} {rs rh n X:Nat} {wd:Wd} {d:FlatD} (h:FW P w M c rs rh n wd d) (hX:w.heap.size≤X) (hb:jB w W):FW (fun b=>P b∧b≠X) W M c rs rh n wd d :=
 ⟨h.at_.keep hb.size (hb.block _ h.at_.lt) (hb.block _ h.at_.map.lt) (fun b hP hlt=>⟨hb.block b hlt,hP,by omega⟩) (fun b hb=>h.at_.off b hb.1),h.ok⟩
theorem FW.fin {P:Nat→Prop} {w W8 W9:World} {M:Nat} {c:Cfg} {rs rh n X:Nat} {wd:Wd} {d:FlatD} (h:FW (fun b=>P b∧b≠X) W8 M c rs rh n wd d) (hoff:∀b,P b→b≠M∧b≠d.L) (hu:Upd w W8 [M,d.L] [M,d.L]) (hX:w.heap.size≤X) (hM:M<w.heap.size) (hL:d.L<w.heap.size)
    (h2:∀k,k≠X→W9.heap[k]?=W8.heap[k]?) (h3:W9.heap.size=W8.heap.size) (h4:∀n,n≤X→Below n W8 W9):FW P W9 M c rs rh n wd d∧Upd w W9 [M,d.L] [M,d.L] :=
  ⟨⟨h.at_.keep (Nat.le_of_eq h3.symm) (h2 _ (by omega)) (h2 _ (by omega)) (fun b hb hlt=>⟨h2 b hb.2,hb.1⟩) hoff,h.ok⟩,updLater hu (h4 _ hX) (Nat.le_of_eq h3.symm)⟩
theorem FW.many {P:Nat→Prop} {w:World} {M:Nat} {c:Cfg} {rs rh n:Nat} {wd:Wd} {d:FlatD} (h:FW P w M c rs rh n wd d) (hc:CfgOk c rs rh):d.es.length≤1000000:=by
 have h1:=allW_len h.ok (okSt_bd _ hc.st).2;rw [h.at_.tells.len hc.st];omega
theorem FW.old {P:Nat→Prop} {w:World} {M:Nat} {c:Cfg} {rs rh n:Nat} {wd:Wd} {d:FlatD} (h:FW P w M c rs rh n wd d) (s:SK):LoadIn (fun b=>P b∧b<w.heap.size) w ((findM d.es s).getD it00):=by
 cases hf:findM d.es s with
 | none=>exact ⟨RowG.nil,RowG.nil⟩
 | some x =>
   have hm:=h.at_.rows _ (find_mem hf);exact ⟨hm.1.ltG,hm.2.ltG⟩
theorem it_nd (o:Option It):(o.getD it00).nd=(o.map (·.nd)).getD nd0:=by cases o <;> rfl
theorem boxesF (w:World) (a b:Obj):∀W,W=(w.alloc a).alloc b→Hid (jB w W)∧Hid (W.heap[w.heap.size]?=some a)∧Hid (W.heap[w.heap.size+1]?=some b):=fun W hW=>by
 rw [hW];exact ⟨jH (balloc (balloc jR _) _),jH (box_old _ _ _),jH (box_new _ _ _)⟩
theorem keepHF {w W w2:World} {a b:Nat} {o1 o2:Obj} (hb:jB W w2) (h:Hid (jB w W)) (h1:Hid (W.heap[a]?=some o1)) (h2:Hid (W.heap[b]?=some o2)):Hid (jB w w2)∧Hid (w2.heap[a]?=some o1)∧Hid (w2.heap[b]?=some o2) :=
 ⟨jH (bthen h.out hb),jH (jK hb h1.out),jH (jK hb h2.out)⟩
theorem flSet_bad (kind tick val handle:Int) (s:SK) (p:Pol) (M:Nat) (w:World) (hp:polB p=false) :
 Calls Tryz.prog 114 #[.pointer (some ⟨M,0,none⟩),callV ⟨kind,s.1,tick,val,handle,p⟩] w (jP w (repV (repF 7))):=by
 have CK:=jH (fun W=>policyCheck_any p W);have he:polE p=7:=by unfold polE;rw [if_neg (by rw [hp];simp)]
 rw [he] at CK;obtain ⟨p0,p1,p2,p3,p4,p5⟩:=p;unfold polV at CK;unfold callV;dsimp only at CK ⊢;clear hp he
 go_enter Tryz.func114,Tryz.ntmps114
 go_wp2_with (first
  | (go_at_call 167
     refine calls_named ?_;intro W1 hW1;obtain ⟨HB1,HX0,HX1⟩:=boxesF w _ _ W1 hW1;clear hW1;refine (CK.out W1).mono ?_;rintro e w2 ⟨rfl,hb2⟩;obtain ⟨HB2,HX02,HX9⟩:=keepHF hb2 HB1 HX0 HX1;obtain ⟨b1,b2,b3⟩:=box_cells jR HX02.out;obtain ⟨y1,y2,y3⟩:=box_cells jR HX9.out;clear hb2))
 refine post_named ?_;intro W9 hW9;have hW9':W9=stor w2 (w.heap.size+1) 0 (repC (repF 7)):=hW9;obtain ⟨t1,t2,t3,t4⟩:=stor_at HX9.out (repC (repF 7)) rfl W9 hW9';obtain ⟨a9,a8,a7⟩:=box_cells jR t1;clear hW9 hW9';exact bodyPost_ret (v:=repV (repF 7)) (by simp [results,Tryz.results114,go_sem,a9,repV,repC,repF,st0,adv0]) rfl ⟨rfl,HB2.out.trans (t4 _ (Nat.le_succ _))⟩
theorem flSet_full {P:Nat→Prop} {w:World} {M:Nat} {c:Cfg} {rs rh n:Nat} {wd:Wd} {d:FlatD} (kind tick val handle:Int) (s:SK) (p:Pol) (h:FW P w M c rs rh n wd d) (hc:CfgOk c rs rh) (hp:polB p=true) (hf:fullF c d.es s=true) :
 Calls Tryz.prog 114 #[.pointer (some ⟨M,0,none⟩),callV ⟨kind,s.1,tick,val,handle,p⟩] w (jP w (repV (repF 6))):=by
 have CK:=jH (fun W=>policyCheck_any p W);have he:polE p=0:=by unfold polE;rw [if_pos hp]
 rw [he] at CK;have CF:=jH (fun W (hW:jB w W)=>flFull_any s (h.at_.below hW) hc.st (h.many hc));rw [hf] at CF;obtain ⟨p0,p1,p2,p3,p4,p5⟩:=p;unfold polV at CK;unfold callV;dsimp only at CK ⊢;clear hp he h hc hf
 go_enter Tryz.func114,Tryz.ntmps114
 go_wp2_with (first
  | (go_at_call 167
     refine calls_named ?_;intro W1 hW1;obtain ⟨HB1,HX0,HX1⟩:=boxesF w _ _ W1 hW1;clear hW1;refine (CK.out W1).mono ?_;rintro e w2 ⟨rfl,hb2⟩;obtain ⟨HB2,HX02,HX9⟩:=keepHF hb2 HB1 HX0 HX1;obtain ⟨b1,b2,b3⟩:=box_cells jR HX02.out;obtain ⟨y1,y2,y3⟩:=box_cells jR HX9.out;clear hb2)
  | (go_at_call 157
     refine (CF.out w2 HB2.out).mono ?_;rintro e w3 ⟨rfl,hb3⟩;obtain ⟨HB3,HX03,HX93⟩:=keepHF hb3 HB2 HX02 HX9;clear hb3 b1 b2 b3 y1 y2 y3;obtain ⟨b1,b2,b3⟩:=box_cells jR HX03.out;obtain ⟨y1,y2,y3⟩:=box_cells jR HX93.out))
 refine post_named ?_;intro W9 hW9;have hW9':W9=stor w3 (w.heap.size+1) 0 (repC (repF 6)):=hW9;obtain ⟨t1,t2,t3,t4⟩:=stor_at HX93.out (repC (repF 6)) rfl W9 hW9';obtain ⟨a9,a8,a7⟩:=box_cells jR t1;clear hW9 hW9';exact bodyPost_ret (v:=repV (repF 6)) (by simp [results,Tryz.results114,go_sem,a9,repV,repC,repF,st0,adv0]) rfl ⟨rfl,HB3.out.trans (t4 _ (Nat.le_succ _))⟩
theorem flSet_ok {P:Nat→Prop} {w:World} {M:Nat} {c:Cfg} {rs rh n:Nat} {wd:Wd} {d:FlatD} (kind tick val handle:Int) (s:SK) (p:Pol) (h:FW P w M c rs rh n wd d) (hP:∀b,w.heap.size≤b→P b) (hc:CfgOk c rs rh) (hs:idS s.1=true) (hpo:p.ok) (hp:polB p=true) (hf:fullF c d.es s=false) :
 Calls Tryz.prog 114 #[.pointer (some ⟨M,0,none⟩),callV ⟨kind,s.1,tick,val,handle,p⟩] w (FWSays P w M c rs rh (n+1) d.L (repV (repF 0)) (oneW c rs rh wd s.1 ⟨2,(0,0),p,adv0⟩).1):=by
 have CK:=jH (fun W=>policyCheck_any p W);have he:polE p=0:=by unfold polE;rw [if_pos hp]
 rw [he] at CK;have CF:=jH (fun W (hW:jB w W)=>flFull_any s (h.at_.below hW) hc.st (h.many hc));rw [hf] at CF;have hdo:∀y:Nd,do17 rs rh y ⟨2,(0,0),p,adv0⟩=({ y with pol:=p,ruled:=true,ver:=y.ver+1 },0,0):=fun y=>by
  unfold do17;rw [if_neg (show ¬(2:Int)=0 by decide),if_neg (show ¬(2:Int)=1 by decide),if_pos rfl,if_pos hp]
 have hone:=(h.at_.tells.one (rs:=rs) (rh:=rh) hc.st s hs ⟨2,(0,0),p,adv0⟩ (show (2:Int)≠3 by decide) (by rw [hdo])).2 hf;have hhere:=(h.at_.tells.here hc.st s hs).2;have hold:=h.old s;obtain ⟨xo,hxo⟩:∃x,x=(findM d.es s).getD it00:=⟨_,rfl⟩;rw [←it_nd,←hxo] at hhere;rw [←hxo] at hold;have hav:=h.avoidX (X:=w.heap.size+1) (Nat.le_succ _) jR;have hlo:c.lo≤256:=by
  have hcb:=hc.cfg;unfold cfgB at hcb;simp only [Bool.and_eq_true,decide_eq_true_eq] at hcb
  omega
 have HFIN:=jH (show ∀(W8:World) (o:Obj),jB w W8→MapIn skV ldV (setBlock W8 d.L o) d.L (putM d.es s ⟨xo.key,xo.sA,xo.sc,xo.pA,xo.pc,setF xo.nd p⟩) →
     ∃d',FW (fun b=>P b∧b≠w.heap.size+1) (setBlock W8 d.L o) M c rs rh (n+1) (oneW c rs rh wd s.1 ⟨2,(0,0),p,adv0⟩).1 d'∧d'.L=d.L∧Upd w (setBlock W8 d.L o) [M,d.L] [M,d.L] from fun W8 o hb hm=>by
   have hi:LoadIn (fun b=>P b∧b≠w.heap.size+1) W8 ⟨xo.key,xo.sA,xo.sc,xo.pA,xo.pc,setF xo.nd p⟩:=(hold.below hb).imp (fun b hb=>⟨hb.1,by omega⟩);obtain ⟨h1,h2⟩:=hav.at_.toFlMem.put hb hm hi;refine ⟨_,⟨⟨h1.wd rfl rfl rfl,hone.2 _ ?_⟩,oneW_ok h.ok hlo ⟨⟨by show I64 0;unfold I64;omega,by show I64 0;unfold I64;omega⟩,hpo⟩ hc.room.h1⟩,rfl,h2⟩;rw [hdo];exact ⟨hhere.1,hhere.2.1,rfl,rfl⟩)
 have HEND:=jH (show ∀(W8 W9:World) d',FW (fun b=>P b∧b≠w.heap.size+1) W8 M c rs rh (n+1) (oneW c rs rh wd s.1 ⟨2,(0,0),p,adv0⟩).1 d'→d'.L=d.L→Upd w W8 [M,d.L] [M,d.L]→(∀k,k≠w.heap.size+1→W9.heap[k]?=W8.heap[k]?)→W9.heap.size=W8.heap.size→(∀n,n≤w.heap.size+1→Below n W8 W9) →
     FWSays P w M c rs rh (n+1) d.L (repV (repF 0)) (oneW c rs rh wd s.1 ⟨2,(0,0),p,adv0⟩).1 (.returned (repV (repF 0))) W9 from fun W8 W9 d' h1 h2 h3 h4 h5 h6=>by
   have h9:=h1.fin (fun b hb=>by rw [h2];exact h.at_.off b hb) (by rw [h2];exact h3) (Nat.le_succ _) h.at_.lt (by rw [h2];exact h.at_.map.lt) h4 h5 h6;rw [h2] at h9;exact ⟨d',rfl,h9.1,h2,h9.2⟩)
 have hlk:=fun (W:World) (hW:jB w W)=>fl_look h.at_.map s false (hW.block d.L h.at_.map.lt)
 rw [←hxo] at hlk;unfold ldV ldC at hlk;simp only [Bool.false_eq_true,↓reduceIte] at hlk
 have HLK:=jH hlk;have HMP:=jH (show ∀W,jB w W→MapIn skV ldV W d.L d.es from fun W hW=>h.at_.map.below hW);have HC:=jH h.at_.cell;have HXL:=jH (show w.heap.size+1≠d.L from by have:=h.at_.map.lt;omega);generalize (oneW c rs rh wd s.1 ⟨2,(0,0),p,adv0⟩).1=wd9 at HFIN HEND ⊢;obtain ⟨p0,p1,p2,p3,p4,p5⟩:=p;unfold polV at CK;unfold callV;dsimp only at CK ⊢;clear hp he h hc hf hP hs hpo hdo hone hhere hold hxo hav hlo hlk
 go_enter Tryz.func114,Tryz.ntmps114
 go_upto_region 6 with (first
  | (go_at_call 167
     refine calls_named ?_;intro W1 hW1;obtain ⟨HB1,HX0,HX1⟩:=boxesF w _ _ W1 hW1;clear hW1;refine (CK.out W1).mono ?_;rintro e w2 ⟨rfl,hb2⟩;obtain ⟨HB2,HX02,HX9⟩:=keepHF hb2 HB1 HX0 HX1;obtain ⟨b1,b2,b3⟩:=box_cells jR HX02.out;obtain ⟨y1,y2,y3⟩:=box_cells jR HX9.out;clear hb2)
  | (go_at_call 157
     refine (CF.out w2 HB2.out).mono ?_;rintro e w3 ⟨rfl,hb3⟩;obtain ⟨HB3,HX03,HX93⟩:=keepHF hb3 HB2 HX02 HX9;clear hb3 b1 b2 b3 y1 y2 y3;obtain ⟨b1,b2,b3⟩:=box_cells jR HX03.out;obtain ⟨y1,y2,y3⟩:=box_cells jR HX93.out))
 clear b1 b2 b3 y1 y2 y3;have q1:=HLK.out;obtain ⟨b1,b2,b3⟩:=box_cells jR HX03.out;obtain ⟨m1,m2,m3⟩:=box_cells HB3.out HC.out;have q2:=HLK.out (w3.alloc (.cells #[.slice none 0 0,.slice none 0 0,.int .i64 0,.int .i64 0,.int .i64 0,.int .i64 0,.int .i64 0,.int .i64 0,.bool false] 50)).drew (balloc HB3.out _).drew;have q3:=HLK.out w3.drew HB3.out.drew;clear q1
 go_region
 all_goals
   refine then_named ?_;intro W4 hW4;have hb34:jB w3 W4:=by rw [hW4];exact (balloc jR _).drew
   obtain ⟨HB4,HX04,HX94⟩:=keepHF hb34 HB3 HX03 HX93;have HZ4:=jH (show W4.heap[w3.heap.size]?=some (.cells #[.slice xo.sA xo.nd.smp.length xo.sc,.slice xo.pA xo.nd.past.length xo.pc,.int .i64 xo.nd.pol.mn,.int .i64 xo.nd.pol.mx,.int .i64 xo.nd.pol.tg,.int .i64 xo.nd.pol.tol,.int .i64 xo.nd.pol.win,.int .i64 xo.nd.pol.hold,.bool xo.nd.ruled] 50 (0,0)) by rw [hW4];exact heap_alloc_new _ _);have HLT:=jH (show w.heap.size+1<w3.heap.size from (jL HX93.out))
   clear hW4 hb34 b1 b2 b3 m1 m2 m3 q2 q3;obtain ⟨b1,b2,b3⟩:=box_cells jR HX04.out;obtain ⟨z1,z2,z3⟩:=box_cells jR HZ4.out
   go_upto_region 8 with fail
   refine name_world ?_;intro W5 hW5;have hW5':W5=stor W4 w3.heap.size 2 [.int .i64 p0,.int .i64 p1,.int .i64 p2,.int .i64 p3,.int .i64 p4,.int .i64 p5,.bool true]:=hW5;obtain ⟨s1,s2,s3,s4⟩:=stor_all [.int .i64 p0,.int .i64 p1,.int .i64 p2,.int .i64 p3,.int .i64 p4,.int .i64 p5,.bool true] W4 w3.heap.size 2 _ _ HZ4.out rfl;rw [←hW5'] at s1 s2 s3 s4;have hb45:Below w3.heap.size W4 W5:=s4 _ (Nat.le_refl _)
   have HZ5:=jH (show W5.heap[w3.heap.size]?=some (.cells #[.slice xo.sA xo.nd.smp.length xo.sc,.slice xo.pA xo.nd.past.length xo.pc,.int .i64 p0,.int .i64 p1,.int .i64 p2,.int .i64 p3,.int .i64 p4,.int .i64 p5,.bool true] 50 (0,0)) from s1);have HB5:=jH (HB4.out.trans (hb45.mono (by have:=HLT.out;omega)));have HX05:=jH ((hb45.block _ (by have:=HLT.out;omega)).trans HX04.out);have HX95:=jH ((hb45.block _ HLT.out).trans HX94.out)
   clear hW5 hW5' s1 s2 s3 s4 hb45 b1 b2 b3 z1 z2 z3;obtain ⟨b1,b2,b3⟩:=box_cells jR HX05.out;obtain ⟨z1,z2,z3⟩:=box_cells jR HZ5.out;obtain ⟨m1,m2,m3⟩:=box_cells HB5.out HC.out;obtain ⟨o9,hs9,hm9⟩:=fl_store (HMP.out W5.drew HB5.out.drew) s ⟨xo.key,xo.sA,xo.sc,xo.pA,xo.pc,setF xo.nd ⟨p0,p1,p2,p3,p4,p5⟩⟩;obtain ⟨d9,hd1,hd2,hd3⟩:=HFIN.out W5.drew o9 HB5.out.drew hm9;have HD1:=jH hd1;have HD2:=jH hd2
   have HD3:=jH hd3;have hs8:(Instr.mapUpdate 117 (.map (some d.L)) (.string s.1) (.agg #[.slice xo.sA xo.nd.smp.length xo.sc,.slice xo.pA xo.nd.past.length xo.pc,.int .i64 p0,.int .i64 p1,.int .i64 p2,.int .i64 p3,.int .i64 p4,.int .i64 p5,.bool true])).run Tryz.prog W5.drew=.ok () (setBlock W5.drew d.L o9):=hs9;clear hs9 hm9 hd1 hd2 hd3
   go_region
   refine then_named ?_;intro W6 hW6;have HX96:=jH (((show W6.heap[w.heap.size+1]?=W5.heap[w.heap.size+1]? by rw [hW6];exact setBlock_other HXL.out)).trans HX95.out);rw [←hW6] at HD1 HD3;clear hW6 b1 b2 b3 z1 z2 z3 m1 m2 m3 hs8;obtain ⟨y1,y2,y3⟩:=box_cells jR HX96.out;go_wp2_with fail
   refine post_named ?_;intro W9 hW9;have hW9':W9=stor W6 (w.heap.size+1) 0 (repC (repF 0)):=hW9;obtain ⟨t1,t2,t3,t4⟩:=stor_at HX96.out (repC (repF 0)) rfl W9 hW9';obtain ⟨a9,a8,a7⟩:=box_cells jR t1;clear hW9 hW9';exact bodyPost_ret (v:=repV (repF 0)) (by simp [results,Tryz.results114,go_sem,a9,repV,repC,repF,st0,adv0]) rfl (HEND.out W6 W9 d9 HD1.out HD2.out HD3.out t2 t3 t4)
end
section
open Go.RowKit Go.Lib
theorem eFc:EltOf 118 128 3 24 (.agg #[.int .i64 0,.map none,.bool false]) fcC :=
 ⟨by kernel_rfl,by kernel_rfl,rfl,by decide,by decide,fun _=>rfl,fun x u hu=>by
  simp only [fcC,List.mem_cons,List.not_mem_nil,or_false] at hu
  rcases hu with rfl|rfl|rfl <;> rfl⟩
theorem cloneF_any (v:Value) (l:List FCut) (w:World) (hv:RowIn 3 fcC w v l) (hl:l.length≤1000000) :
 Calls Tryz.prog 68 #[v] w (CloneS fcC 128 3 w l):=by
 obtain ⟨A,c,rfl⟩:=hv.form
 cases A with
 | none =>
   have h0:l.length=0:=by
    obtain ⟨A1,c1,e1,_,hr⟩:=hv;injection e1 with e1 _ _
    rcases Nat.eq_zero_or_pos l.length with h|h
    · exact h
    · obtain ⟨_,_,hA,_⟩:=hr h;rw [hA] at e1;cases e1
   obtain rfl:l=[]:=List.eq_nil_of_length_eq_zero h0;have hq:∀W,(binOp .eql 118 (.slice none 0 c) (.slice none 0 0)).run Tryz.prog W=.ok (.bool true) W:=fun W=>Lib.run_eql_slice_nil W _ _ none 0 c 0 0 eFc.ht
   clear hv h0
   go_enter Tryz.func68,Tryz.ntmps68
   go_wp2
   go_ret
   exact ⟨none,0,[],rfl,SRow.nil _,fun k hk=>by simp at hk,jR⟩
 | some ad =>
   have HV:=jH hv;have hq:∀W,(binOp .eql 118 (.slice (some ad) l.length c) (.slice none 0 0)).run Tryz.prog W=.ok (.bool false) W:=fun W=>Lib.run_eql_slice_nil W _ _ (some ad) l.length c 0 0 eFc.ht
   clear hv
   go_enter Tryz.func68,Tryz.ntmps68
   go_wp2_with (at_builtin;refine wpList_appendL eFc (by rfl) (s:=.tmp 5) (x:=.tmp 6) (by rfl) w.heap.size [] l _ _ (by rfl) (by rfl) (OwnL.lit0 _ w _ _ rfl (Nat.le_refl _)) (HV.out.below (balloc jR _)) (by simp;omega) (by simp) ?_;intro out A2 c2 w2 hout hown hg _;have HOUT:=jH hout;have HO:=jH hown;have HG:=jH hg;clear hout hown hg)
   go_ret
   have e1:out=l:=by rw [HOUT.out];rfl
   subst e1;exact ⟨A2,c2,_,rfl,SRow.of _ HO.out,fun k hk=>(HO.out.lt (by simpa using hk)).1,(balloc jR _).trans (grown_below HG.out (by simp) (fun r hr=>by have hr':some w.heap.size=some r:=hr;injection hr';omega))⟩
section
variable {α:Type} {t e:TypeId} {n bytes:Nat} {z:Value} {f:α→List Value}
theorem run_appendC (E:EltOf t e n bytes z f) (w:World) (ty:TypeId) (l m:List α) (A:Option Addr) (v2:Value)
    (hl:RowIn n f w (.slice A l.length l.length) l) (hm:RowIn n f w v2 m) (hm0:0<m.length) (hlen:l.length+m.length≤100000000) :
    ∃c w',(Builtin.append_ #[t,t] ty #[.slice A l.length l.length,v2]).run Tryz.prog w=.ok (.slice (some ⟨w.heap.size,0,none⟩) (l++m).length c) w'∧OwnL f e n w.heap.size w' (.slice (some ⟨w.heap.size,0,none⟩) (l++m).length c) (l++m)∧jB w w':=by
  obtain ⟨i0,hi0,hz0,hz1,hz2⟩:=info_parts E.hi;have hby:=E.hb;have cells:∀(k:List α) (ad:Addr) (c:Nat),RowIn n f w (.slice (some ad) k.length c) k→∀j u,(cellsOfRow f k)[j]?=some u→w.cell? (ad.add j)=some u:=fun k ad c hr j u hu=>by
   obtain ⟨y,hy,hyu⟩:=cellsOfRow_split E.hn E.len k j u hu;have hml:0<k.length:=Nat.lt_of_le_of_lt (Nat.zero_le _) (List.getElem?_eq_some_iff.1 hy).1;obtain ⟨A2,c2,hv,_,hr⟩:=hr;obtain ⟨b,o',hA,hlt,hat⟩:=hr hml;injection hv with hA2 _ _
   rw [hA] at hA2;injection hA2 with hA2
   subst hA2;have h:=hat (j / n) y hy (j % n) u hyu;rw [add_at,←h];have hd:j / n * n+j % n=j:=by rw [Nat.mul_comm];exact Nat.div_add_mod j n
   rw [Nat.add_assoc,hd]
  obtain ⟨A2,c2,hv2,hc2,hr2⟩:=id hm;subst hv2;obtain ⟨b2,o2,hA2,_,_⟩:=hr2 hm0;subst hA2;have hlen2:(l++m).length=l.length+m.length:=by simp
  have hsm:l.length+m.length≤maxLen:=by simp only [maxLen];omega
  have hbig:(l.length+m.length) * bytes≤140737488355328:=Nat.le_trans (Nat.mul_le_mul (by omega:l.length+m.length≤100000000) hby) (by omega)
  have grown:∀(xs:List Value) (old:Nat),xs=cellsOfRow f l→old<l.length+m.length →
      OwnL f e n w.heap.size (w.drew.alloc (.cells (xs.toArray++(cellsOfRow f m).toArray++Builtin.zeroCells z.cells (grownCap w (l.length+m.length) old e - (l.length+m.length))) e)) (.slice (some ⟨w.heap.size,0,none⟩) (l++m).length (grownCap w (l.length+m.length) old e)) (l++m):=by
    intro xs old hxs ho;have hge:=grownCap_ge w (l.length+m.length) old e;have hcm:grownCap w (l.length+m.length) old e≤maxLen:=grownCap_le_maxLen w (l.length+m.length) old e hsm;have hl1:=cellsOfRow_len E.len l;have hl2:=cellsOfRow_len E.len m;subst hxs;refine ⟨cellsOfRow_len E.len (l++m),.inr ⟨w.heap.size,_,_,rfl,Nat.le_refl _,heap_alloc_new w.drew _,by omega,hcm,?_,?_⟩⟩
    · simp only [Array.size_append,List.size_toArray,size_zeroCells,E.hz,hl1,hl2,←Nat.add_mul]
      congr 1
      omega
    · simp only [Array.toList_append,List.append_assoc]
      rw [←List.append_assoc,←cellsOfRow_append,←cellsOfRow_len E.len (l++m)];exact List.take_left
  rw [hlen2];rw [hlen2] at grown
  cases A with
  | none =>
    have h0:l=[]:=by
     obtain ⟨A3,c3,hv3,_,hr3⟩:=hl
     rcases Nat.eq_zero_or_pos l.length with h|h
     · exact List.eq_nil_of_length_eq_zero h
     · obtain ⟨_,_,hA,_⟩:=hr3 h
       injection hv3 with hv3 _ _
       rw [hA] at hv3
       cases hv3
    subst h0;have hr:=Go.run_append_nil (P:=Tryz.prog) w t ty e i0 z E.ht hi0 hz0 ⟨b2,o2,none⟩ m.length c2 (cellsOfRow f m) (by rw [hz1];exact cellsOfRow_len E.len m) (cells m _ _ hm) hm0 (by simp only [List.length_nil,Nat.zero_add,maxLen] at hsm;omega) (by rw [hz2];simp only [List.length_nil,Nat.zero_add] at hbig;omega);have hg:=grown [] 0 rfl (by simp;omega);simp only [List.length_nil,Nat.zero_add,List.nil_append,Array.empty_append] at hg hr ⊢
    exact ⟨_,_,hr,hg,⟨rfl,rfl,rfl,by simp,fun k hk=>Below.heap_alloc w.drew _ k hk⟩⟩
  | some ad =>
    have hr:=run_append_grow (P:=Tryz.prog) w t ty e i0 z E.ht hi0 hz0 ad l.length l.length (cellsOfRow f l) (by rw [hz1];exact cellsOfRow_len E.len l) (cells l _ _ hl) ⟨b2,o2,none⟩ m.length c2 (cellsOfRow f m) (by rw [hz1];exact cellsOfRow_len E.len m) (cells m _ _ hm) (by omega) (by omega) (by rw [hz2];exact growslice_fits (by omega) hbig);exact ⟨_,_,hr,grown _ _ rfl (by omega),⟨rfl,rfl,rfl,by simp,fun k hk=>Below.heap_alloc w.drew _ k hk⟩⟩
theorem step_appendC (E:EltOf t e n bytes z f) {w:World} {ops:Array Oper} {o:Oper} {a:Act} {K:Act→World→Prop} {Q:Exit→Act→World→Prop} {X:Prop} (hgd:o.guard=none) (s x:Operand)
    (ho:o.op=.call { callee:=.builtin .append,args:=#[s,x],argTypes:=#[t,t] }) (l m:List α) (A:Option Addr) (v2:Value) (hs:a.eval s=.slice A l.length l.length) (hx:a.eval x=v2)
    (hl:RowIn n f w (.slice A l.length l.length) l) (hm:RowIn n f w v2 m) (hm0:0<m.length) (hlen:l.length+m.length≤100000000)
    (h:∀(out:List α) c w',out=l++m→OwnL f e n w.heap.size w' (.slice (some ⟨w.heap.size,0,none⟩) out.length c) out→jB w w'→K (a.put o.dst (.slice (some ⟨w.heap.size,0,none⟩) out.length c)) w') :
    if Region.wanted o (yielded ops a.tmps)=true then Oper.wp Tryz.prog o a w K Q else X:=by
  have hw:Region.wanted o (yielded ops a.tmps)=true:=by simp [Region.wanted,hgd]
  rw [if_pos hw];obtain ⟨c,w',hrun,h2,h3⟩:=run_appendC E w o.type l m A v2 hl hm hm0 hlen;unfold Oper.wp;simp [execOp,ho,resolve,invoke,builtin,hs,hx,hrun,Result.andThen]
  have h6:=h _ c w' rfl h2 h3;rw [List.length_append] at h6;exact h6
end
theorem flMapClone (L:Nat) (es:List (SK × It)) (w:World) (h:MapIn skV ldV w L es) :
 Calls Tryz.prog 67 #[.map (some L)] w fun e w'=>e=.returned (.map (some w.heap.size))∧MapIn skV ldV w' w.heap.size es∧jB w w':=by
 obtain ⟨ents,clock,hb,h2⟩:=h;refine (AnyW.maps_Clone cloneM L ents clock w hb).mono ?_;rintro e w' ⟨rfl,rfl⟩;exact ⟨rfl,⟨ents,clock,heap_alloc_new _ _,h2⟩,balloc jR _⟩
end
section
open Go.RowKit Go.Lib
theorem eEv:EltOf 82 148 34 280 (.agg #[.int .i64 0,.int .i64 0,.int .i64 0,.int .i64 0,.string ⟨#[]⟩,.int .i64 0,.int .i64 0,.int .i64 0,.int .i64 0,.int .i64 0,.int .i64 0,.int .i64 0,.int .i64 0,.int .i64 0,.int .i64 0,.int .i64 0,.int .i64 0,.int .i64 0,.int .i64 0,.int .i64 0,.int .i64 0,.int .i64 0,.int .i64 0,.int .i64 0,.int .i64 0,.int .i64 0,.int .i64 0,.int .u64 0,.int .u64 0,.int .i64 0,.int .i64 0,.int .i64 0,.int .i64 0,.int .i64 0]) evC :=
 ⟨by kernel_rfl,by kernel_rfl,rfl,by decide,by decide,fun _=>rfl,fun x u hu=>evC_one x u hu⟩
theorem events_any (v:Value) (es:List EvtD) (w:World) (he:RowIn 34 evC w v es) (hel:es.length≤100) :
 Calls Tryz.prog 37 #[v] w fun e w'=>∃u,e=.returned u∧RowIn 34 evC w' u es∧jB w w':=by
 obtain ⟨A,c,rfl,hAc,h0⟩:=id he;clear h0;have HE:=jH he;have HAC:=jH hAc;clear he hAc
 go_enter Tryz.func37,Tryz.ntmps37
 go_wp2_with fail
 go_loopg [3,8] es.length (fun g s3 s8 wr=>∃k:Nat,k≤es.length∧es.length - k≤g∧s8=.int .i64 k∧OwnL evC 148 34 w.heap.size wr s3 (es.take k)∧jB w wr)
 case atStart=>exact ⟨0,Nat.zero_le _,Nat.le_refl _,rfl,OwnL.nil _ _,jR⟩
 case round =>
  obtain ⟨k,hk,hg,rfl,hown,hbw⟩:=hrel;rename World=>wr
  have HBr:=jH hbw
  by_cases hlt:k<es.length
  · as_aux_lemma =>
     obtain ⟨b1,o1,rfl,hb1,hc⟩:=(HE.out.below HBr.out).at_ hlt;obtain ⟨B1,e1,rfl⟩:=hown.form;have hcl:(evC es[k]).length=34:=rfl;have hone:∀v∈evC es[k],v.oneCell'=true:=evC_one _;have HT2:=jH (show es.take (k+1)=es.take k++[es[k]] from List.take_succ_eq_append_getElem hlt);have htl:(es.take k).length≤100:=by rw [List.length_take];omega
     generalize es.take k=ys at hown HT2 htl ⊢;have HY:=jH hown;have HYL:=jH htl;obtain ⟨cs,hcs⟩:∃cs,cs=evC es[k]:=⟨_,rfl⟩;rw [←hcs] at hc hcl hone;generalize es[k]=x at hcs HT2;have HCS:=jH hcs;have hst:=store_new (P:=Tryz.prog) wr 97 cs 34 hcl (by kernel_rfl) hone;have HC:=jH hc;have HCL:=jH hcl;clear hc hcl hone hown htl hcs hbw
     go_wp2_with (first
      | (refine wpList_load_list rfl 97 (.tmp 10) rfl b1 (o1+k * 34) cs HC.out (by rfl) _ Tryz.underlying97 (by rfl) (by rw [HCL.out];kernel_rfl) ?_)
      | (refine wpList_load_list rfl 97 (.tmp 5) rfl wr.heap.size 0 cs (new_cells _ _ _) (by rfl) _ Tryz.underlying97 (by rfl) (by rw [HCL.out];kernel_rfl) ?_)
      | (refine wpList_build_one eEv (by decide) rfl (.tmp 13) rfl cs HCL.out (by rfl) ?_)
      | (at_builtin
         refine wpList_appendL eEv (by rfl) (by rfl) w.heap.size ys [x] (.slice B1 ys.length e1) _ (by rfl) (by rfl) ((HY.out.below (balloc jR _)).below (balloc jR _)) (RowIn.lit (n:=34) (f:=evC) (wr.alloc _) x cs.toArray _ _ rfl (by simp [HCS.out])) (by have:=HYL.out;simp;omega) (by have:=HBr.out.size;simp;omega) ?_;intro out A2 c2 w2 hout hown hg hor;have HOU:=jH (show out=ys++[x] from hout);have hb7:Below w.heap.size wr w2:=((jR.alloc HBr.out.size _).alloc (by have:=HBr.out.size;simp;omega) _).trans (grown_own hg HY.out (by have:=HBr.out.size;simp;omega))
         have HO:=jH hown;have HB7:=jH hb7;clear hown hout hg hor hb7))
     go_roundg (es.length - (k+1))
     case measure=>omega
     case rel=>exact ⟨k+1,hlt,Nat.le_refl _,by go_num,by rw [HT2.out,←HOU.out];exact HO.out,HBr.out.trans HB7.out⟩
  · obtain rfl:k=es.length:=by omega
    rw [List.take_length] at hown;have HO:=jH (hown.row eEv);clear hown hbw;go_wp2_with fail
    go_ret
    exact ⟨_,rfl,HO.out,HBr.out⟩
end
end Go.Proofs.YtpmfcpdelkchaaaGreat
