/- Part 44 of the proof: IdRef35. -/
import Derived.IntWalk
import Derived.Deep.DeepCutAuto
import Derived.Deep.CutBlock
import Derived.Test.YtkcdhaallnhhmaaGreatL08
namespace Go.Proofs.YtkcdhaallnhhmaaGreat
set_option linter.unusedSimpArgs false
set_option linter.unusedVariables false
set_option linter.unusedSectionVars false
set_option maxRecDepth 100000
set_option maxHeartbeats 16000000
section
open Go.RowKit Go.Lib
theorem let_ext2:∀m,m<39→(⟨#[45,46,48,49,50,51,52,53,54,55,56,57,95,97,98,99,100,101,102,103,104,105,106,107,108,109,110,111,112,113,114,115,116,117,118,119,120,121,122]⟩:ByteArray).extract m (m+1)=⟨#[letterN (m+1)]⟩:=by decide
theorem app_last (a:List UInt8) (x:UInt8):(⟨a.toArray⟩:ByteArray)++⟨#[x]⟩=⟨(a++[x]).toArray⟩:=ByteArray.mk_append_mk a [x]
structure IdPre (hi lo i:Nat) (out:List UInt8):Prop where
 len:out.length=i
 ok:∀b∈out,okB b=true
 dig:∀j,j<i→dig out j=atN hi lo j
theorem IdPre.start (hi lo:Nat):IdPre hi lo 0 []:=⟨rfl,(fun b h=>by cases h),fun j h=>absurd h (Nat.not_lt_zero _)⟩
theorem IdPre.next {hi lo i:Nat} {out:List UInt8} (h:IdPre hi lo i out) (h0:0<atN hi lo i) (h1:atN hi lo i<40):IdPre hi lo (i+1) (out++[letterN (atN hi lo i)]):=by
 obtain ⟨k1,k2⟩:=letter_all _ h1 h0;refine ⟨by simp [h.len],fun b hb=>?_,fun j hj=>?_⟩
 · rcases List.mem_append.1 hb with hb|hb
   · exact h.ok b hb
   · rw [List.mem_singleton.1 hb];exact k2
 · by_cases hji:j<i
   · have:=h.dig j hji
     unfold Proofs.YtkcdhaallnhhmaaGreat.dig at this ⊢;rw [List.getElem?_append_left (by rw [h.len];exact hji)];exact this
   · obtain rfl:j=i:=by omega
     unfold Proofs.YtkcdhaallnhhmaaGreat.dig;rw [List.getElem?_append_right (by rw [h.len];exact Nat.le_refl _),h.len,Nat.sub_self];exact k1
theorem IdPre.done {hi lo i:Nat} {out l:List UInt8} (h:IdPre hi lo i out) (hi20:i≤20) (he:i=20∨atN hi lo i=0∨39<atN hi lo i) (hl:IsKey hi lo l):out=l:=by
 have hd:=fun j hj=>hl.digs j hj
 obtain ⟨hl1,hl2,hl3⟩:=idL_iff l |>.1 hl.1;refine list_of_digs out l h.ok hl3 20 (by rw [h.len];exact hi20) hl2 (fun j hj=>?_)
 by_cases hji:j<i
 · rw [h.dig j hji,hd j hj]
 · rcases he with rfl|he|he
   · omega
   · have hli:l.length≤i:=by
      apply Nat.le_of_not_lt
      intro hlt;have:=hd i (by omega);rw [he,dig_at l i hlt] at this;have hk:=hl3 _ (List.getElem_mem hlt);unfold okB at hk;simp at hk
      exact hk this.symm
     rw [dig_out l j (by omega),dig_out out j (by rw [h.len];omega)]
   · have:=hd i (by omega)
     have:=dig_le l i;omega
theorem atN_lt64 (hi lo i:Nat):atN hi lo i<64:=Nat.mod_lt _ (by decide)
theorem pow64:∀m,m≤9→(64:Nat) ^ m≤18014398509481984:=by decide
theorem outs_max {out:List UInt8} (h:out.length≤20):(⟨out.toArray⟩:ByteArray).size≤maxLen:=by
 have e:(⟨out.toArray⟩:ByteArray).size=out.length:=by simp [ByteArray.size]
 unfold maxLen;rw [e];omega
theorem wrapdiv (x d n:Nat) (hx:x<18446744073709551616) (h:n=x / d % 64):(IntKind.u64.wrap ((x:Int) / (d:Int))).tmod 64=(n:Int):=by
 have e:((x:Int) / (d:Int))=((x / d:Nat):Int):=by push_cast;rfl
 rw [e,u64_wrap _ (Nat.lt_of_le_of_lt (Nat.div_le_self _ _) hx),h,Int.tmod_eq_emod_of_nonneg (Int.natCast_nonneg _)]
 push_cast;rfl
theorem rid35_loop (hi lo:Nat) (w:World) (h1:hi<18446744073709551616) (h2:lo<18446744073709551616) :
 Calls Tryz.prog 110 #[keyV hi lo] w fun e w'=>((∃s:ByteArray,IsKey hi lo s.data.toList∧e=.returned (.string s))∨((∀l,¬IsKey hi lo l)∧e=.returned (.string ⟨#[]⟩)))∧jB w w':=by
 unfold keyV
 go_enter Tryz.func110,Tryz.ntmps110
 go_upto_block 0 with fail
 refine name_world ?_;intro W hW;have hb0:jB w W:=by rw [hW];exact balloc jR _
 have hx0:W.heap[w.heap.size]?=some (.cells #[.int .u64 (hi:Nat),.int .u64 (lo:Nat)] 130 (0,0)):=by rw [hW];exact heap_alloc_new _ _
 obtain ⟨a0,a0f,a0l,a0h⟩:=box_at jR hx0;have HX:=jH a0h;have HB:=jH hb0;clear hW hb0 hx0 a0h
 go_cut [4] (fun s4 wx=>∃(i:Nat) (out:List UInt8),s4=.string ⟨out.toArray⟩∧i≤20∧IdPre hi lo i out∧(i=20∨atN hi lo i=0∨39<atN hi lo i)∧W=wx)
 case first =>
  go_wp2_with fail
  go_loopg [4,7] 20 (fun g s4 s7 wr=>∃(i:Nat) (out:List UInt8),i≤20∧20 - i≤g∧s7=.int .i64 i∧s4=.string ⟨out.toArray⟩∧IdPre hi lo i out∧W=wr)
  case atStart=>exact ⟨0,[],by decide,Nat.le_refl _,rfl,rfl,IdPre.start _ _,rfl⟩
  case round =>
   obtain ⟨i,out,hi20,hg,rfl,rfl,hpre,rfl⟩:=hrel
   by_cases hlt:i<20
   · obtain ⟨r,hr⟩:∃r,r=i % 10:=⟨_,rfl⟩
     have q0:(i:Int) % 10=(r:Nat):=by rw [hr];omega
     have hr9:r≤9:=by omega
     have HPRE:=jH hpre;have HR:=jH hr;have hd:(64:Nat) ^ (9 - r)≤18014398509481984:=pow64 _ (by omega);have hd0:0<(64:Nat) ^ (9 - r):=Nat.pow_pos (by decide);have HD:=jH hd;have HD0:=jH hd0;clear hpre hr hd hd0;go_wp2_with fail
     go_loopg [8,9] 9 (fun g s8 s9 wx=>∃(j:Nat),r≤j∧j≤9∧9 - j≤g∧s9=.int .i64 j∧s8=.int .u64 ((64 ^ (j - r):Nat):Int)∧W=wx)
     case atStart=>exact ⟨r,Nat.le_refl _,hr9,by omega,by rw [q0],by simp,rfl⟩
     case round =>
      obtain ⟨j,hrj,hj9,hgj,rfl,rfl,rfl⟩:=hrel
      by_cases hjl:j<9
      · have hp:=pow64 (j - r) (by omega)
        have HN:=jH (show (64:Nat) ^ (j+1 - r)=64 ^ (j - r) * 64 by rw [show j+1 - r=(j - r)+1 by omega,Nat.pow_succ]);have hp8:(64:Nat) ^ (j - r)≤281474976710656:=Nat.le_trans (Nat.pow_le_pow_right (by decide) (by omega:j - r≤8)) (by decide);generalize (64:Nat) ^ (j - r)=dv at hp hp8 HN;clear hp;go_wp2
        go_roundg (9 - (j+1))
        case measure=>omega
        case rel=>exact ⟨j+1,by omega,by omega,Nat.le_refl _,by go_num,by rw [HN.out];go_num,rfl⟩
      · obtain rfl:j=9:=by omega
        have HA:=jH (show atN hi lo i=(if i<10 then hi else lo) / 64 ^ (9 - r) % 64 by unfold atN;rw [HR.out]);have hd:=HD.out;have hd0:=HD0.out;generalize (64:Nat) ^ (9 - r)=dv at hd hd0 HA;clear HD HD0;obtain ⟨n,hn⟩:∃n,n=atN hi lo i:=⟨_,rfl⟩;have hnx:=fun h0 h1=>HPRE.out.next (by rw [←hn];exact h0) (by rw [←hn];exact h1)
        rw [←hn] at HA hnx;have hn64:n<64:=by rw [hn];exact atN_lt64 _ _ _
        have HN:=jH hn;have hol:out.length≤20:=by rw [HPRE.out.len];exact hi20
        have hdne:(dv:Int)≠0:=by omega
        have hdz:((dv:Int) == 0)=false:=by simpa using hdne
        have HOL:=jH hol;clear hn;have fin:(n=0∨39<n)→∃(i:Nat) (o2:List UInt8),(Value.string ⟨out.toArray⟩:Value)=.string ⟨o2.toArray⟩∧i≤20∧IdPre hi lo i o2∧(i=20∨atN hi lo i=0∨39<atN hi lo i) :=
         fun h=>⟨i,out,rfl,hi20,HPRE.out,h.elim (fun h=>.inr (.inl (by rw [←HN.out];exact h))) (fun h=>.inr (.inr (by rw [←HN.out];exact h)))⟩
        have FIN:=jH fin;have HNX:=jH hnx;clear fin hnx hrj hj9 hgj hjl
        by_cases hi10:i<10
        · have qn:=wrapdiv hi dv n h1 (by rw [HA.out,if_pos hi10])
          have hge:¬(10:Int)≤(i:Int):=by omega
          clear HA
          by_cases hn0:n=0
          · obtain ⟨i',o',j1,j2,j3,j4⟩:=FIN.out (.inl hn0)
            have J1:=jH j1;have J4:=jH (show i'≤20∧IdPre hi lo i' o'∧(i'=20∨atN hi lo i'=0∨39<atN hi lo i') from ⟨j2,j3,j4⟩);clear j1 j2 j3 j4 HNX FIN HN;subst hn0;go_wp2
            go_meet
            exact ⟨i',o',J1.out,J4.out.1,J4.out.2.1,J4.out.2.2,rfl⟩
          by_cases hn39:39<n
          · obtain ⟨i',o',j1,j2,j3,j4⟩:=FIN.out (.inr hn39)
            have J1:=jH j1;have J4:=jH (show i'≤20∧IdPre hi lo i' o'∧(i'=20∨atN hi lo i'=0∨39<atN hi lo i') from ⟨j2,j3,j4⟩);clear j1 j2 j3 j4 HNX FIN HN;have hz:((n:Int) == 0)=false:=by simp;omega
            have hgt:(39:Int)<(n:Int):=by omega
            have hdt:decide ((39:Int)<(n:Int))=true:=by rw [decide_eq_true_iff];exact hgt
            go_wp2
            go_meet
            exact ⟨i',o',J1.out,J4.out.1,J4.out.2.1,J4.out.2.2,rfl⟩
          obtain ⟨m,rfl⟩:∃m,n=m+1:=⟨n - 1,by omega⟩;have hm:m<39:=by omega
          have hx:=let_ext2 m hm;have HX2:=jH (HNX.out (by omega) (by omega));generalize letterN (m+1)=b1 at hx HX2;have ha:=app_last out b1
          push_cast at qn
          have hz1:((m:Int)+1 == 0)=false:=by simp;omega
          have hz2:decide ((39:Int)<(m:Int)+1)=false:=by rw [decide_eq_false_iff_not];omega
          have hz3:¬(m:Int)+1=0:=by omega
          have hz4:¬(39:Int)<(m:Int)+1:=by omega
          clear hn0 hn39 HNX FIN;go_wp2
          go_roundg (20 - (i+1))
          case measure=>omega
          case rel=>exact ⟨i+1,_,by omega,Nat.le_refl _,by go_num,rfl,HX2.out,rfl⟩
        · have qn:=wrapdiv lo dv n h2 (by rw [HA.out,if_neg hi10])
          have hge:(10:Int)≤(i:Int):=by omega
          clear HA
          by_cases hn0:n=0
          · obtain ⟨i',o',j1,j2,j3,j4⟩:=FIN.out (.inl hn0)
            have J1:=jH j1;have J4:=jH (show i'≤20∧IdPre hi lo i' o'∧(i'=20∨atN hi lo i'=0∨39<atN hi lo i') from ⟨j2,j3,j4⟩);clear j1 j2 j3 j4 HNX FIN HN;subst hn0;go_wp2
            go_meet
            exact ⟨i',o',J1.out,J4.out.1,J4.out.2.1,J4.out.2.2,rfl⟩
          by_cases hn39:39<n
          · obtain ⟨i',o',j1,j2,j3,j4⟩:=FIN.out (.inr hn39)
            have J1:=jH j1;have J4:=jH (show i'≤20∧IdPre hi lo i' o'∧(i'=20∨atN hi lo i'=0∨39<atN hi lo i') from ⟨j2,j3,j4⟩);clear j1 j2 j3 j4 HNX FIN HN;have hz:((n:Int) == 0)=false:=by simp;omega
            have hgt:(39:Int)<(n:Int):=by omega
            have hdt:decide ((39:Int)<(n:Int))=true:=by rw [decide_eq_true_iff];exact hgt
            go_wp2
            go_meet
            exact ⟨i',o',J1.out,J4.out.1,J4.out.2.1,J4.out.2.2,rfl⟩
          obtain ⟨m,rfl⟩:∃m,n=m+1:=⟨n - 1,by omega⟩;have hm:m<39:=by omega
          have hx:=let_ext2 m hm;have HX2:=jH (HNX.out (by omega) (by omega));generalize letterN (m+1)=b1 at hx HX2;have ha:=app_last out b1
          push_cast at qn
          have hz1:((m:Int)+1 == 0)=false:=by simp;omega
          have hz2:decide ((39:Int)<(m:Int)+1)=false:=by rw [decide_eq_false_iff_not];omega
          have hz3:¬(m:Int)+1=0:=by omega
          have hz4:¬(39:Int)<(m:Int)+1:=by omega
          clear hn0 hn39 HNX FIN;go_wp2
          go_roundg (20 - (i+1))
          case measure=>omega
          case rel=>exact ⟨i+1,_,by omega,Nat.le_refl _,by go_num,rfl,HX2.out,rfl⟩
   · obtain rfl:i=20:=by omega
     go_wp2
     go_meet
     exact ⟨20,out,rfl,hi20,hpre,.inl rfl,rfl⟩
 case rest =>
  obtain ⟨i,out,rfl,hi20,hpre,hend,rfl⟩:=hcut;have HPRE:=jH hpre;have HEND:=jH hend;have hol:out.length≤20:=by rw [hpre.len];exact hi20
  have hom:=outs_max hol;have HOM:=jH hom;clear hpre hend hom
  by_cases hid:idS ⟨out.toArray⟩=true
  · have HID:=jH hid
    have CID:=jH (show ∀W,Calls Tryz.prog 101 #[.string ⟨out.toArray⟩] W fun e w'=>e=.returned (.bool true)∧W=w' from fun W=>by have:=id_any ⟨out.toArray⟩ W HOM.out;rwa [HID.out] at this);have CKEY:=jH (show ∀W,Calls Tryz.prog 104 #[.string ⟨out.toArray⟩] W (jP W (keyV (hiN out) (loN out))) from fun W=>by have:=refKey_any ⟨out.toArray⟩ W HOM.out HID.out;simpa only [keyS] using this);unfold keyV at CKEY
    clear hid
    by_cases hk:hiN out=hi∧loN out=lo
    · obtain ⟨hk1,hk2⟩:=hk
      have HK1:=jH hk1;have HK2:=jH hk2;rw [hk1,hk2] at CKEY;clear hk1 hk2;go_wp2_with fail
      refine wp_region_held_drew (S:=(fun U:World=>U.heap[w.heap.size]?=some (.cells #[.int .u64 (hi:Nat),.int .u64 (lo:Nat)] 130 (0,0)))) (by kernel_rfl) ?hS7 (fun hHeld=>?_)
      case hS7=>first|with_reducible exact HX.out|with_reducible exact HX.out.drew|exact HX.out|exact jK HN0.out HX.out
      refine wpAnyH_take (i:=0) (v:=?v8) rfl (by kernel_rfl) (by kernel_rfl) (by kernel_rfl) (fun _ _ _ h=>h) (Or.inl ⟨by rfl,?hy8⟩) (by assumption) ?_
      case hy8 =>
       intro w' hSw
       (try dsimp only at hSw)
       go_simp
       try (with_reducible rfl)
      try simp only [Act.put,jA]
      refine wpAnyH_ready (rs:=[1]) (by kernel_rfl) (by simp) ?_;refine AllReadyH.cons rfl (fun K hK=>?_) AllReadyH.nil;go_simp
      (go_at_call 101;with_reducible refine (CID.out _).mono ?_;rintro e w' ⟨rfl,rfl⟩)
      try go_simp
      refine hK.out _ _ ?hS9 (fun hHeld2=>?_)
      case hS9=>first|with_reducible exact HX.out|with_reducible exact HX.out.drew|exact HX.out|exact jK HN0.out HX.out
      clear hK K hHeld;have hHeld:=hHeld2;clear hHeld2
      try simp only [Act.put,jA]
      refine wpAnyH_take (i:=2) (v:=?v10) rfl (by kernel_rfl) (by kernel_rfl) (by kernel_rfl) (fun _ _ _ h=>h) (Or.inl ⟨by rfl,?hy10⟩) (by assumption) ?_
      case hy10 =>
       intro w' hSw
       (try dsimp only at hSw)
       go_simp
       try (with_reducible rfl)
      try simp only [Act.put,jA]
      refine wpAnyH_take (i:=3) (v:=?v11) rfl (by kernel_rfl) (by kernel_rfl) (by kernel_rfl) (fun _ _ _ h=>h) (Or.inl ⟨by rfl,?hy11⟩) (by assumption) ?_
      case hy11 =>
       intro w' hSw
       (try dsimp only at hSw)
       go_simp
       try (with_reducible rfl)
      try simp only [Act.put,jA]
      refine wpAnyH_take (i:=4) (v:=?v12) rfl (by kernel_rfl) (by kernel_rfl) (by kernel_rfl) (fun _ _ _ h=>h) (Or.inl ⟨by rfl,?hy12⟩) (by assumption) ?_
      case hy12 =>
       intro w' hSw
       (try dsimp only at hSw)
       go_simp
       try (with_reducible rfl)
      try simp only [Act.put,jA]
      refine wpAnyH_take (i:=6) (v:=?v13) rfl (by kernel_rfl) (by kernel_rfl) (by kernel_rfl) (fun _ _ _ h=>h) (Or.inl ⟨by rfl,?hy13⟩) (by assumption) ?_
      case hy13 =>
       intro w' hSw
       (try dsimp only at hSw)
       have q0:=(box_cells jR hSw).1;go_simp
       try (with_reducible rfl)
      try simp only [Act.put,jA]
      refine wpAnyH_ready (rs:=[5]) (by kernel_rfl) (by simp) ?_;refine AllReadyH.cons rfl (fun K hK=>?_) AllReadyH.nil;go_simp
      (go_at_call 104;refine calls_named ?_;intro W2 hW2;have hb2:jB W W2:=(by rw [hW2];first|exact jR|exact jR.drew);clear hW2;with_reducible refine (CKEY.out _).mono ?_;rintro e n0 ⟨rfl,hb3⟩;have HN0:=jH (bthen hb2 hb3);clear hb2 hb3)
      try go_simp
      refine hK.out _ _ ?hS14 (fun hHeld2=>?_)
      case hS14=>first|with_reducible exact HX.out|with_reducible exact HX.out.drew|exact HX.out|exact jK HN0.out HX.out
      clear hK K hHeld;have hHeld:=hHeld2;clear hHeld2
      try simp only [Act.put,jA]
      refine wpAnyH_take (i:=7) (v:=?v15) rfl (by kernel_rfl) (by kernel_rfl) (by kernel_rfl) (fun _ _ _ h=>h) (Or.inl ⟨by rfl,?hy15⟩) (by assumption) ?_
      case hy15 =>
       intro w' hSw
       (try dsimp only at hSw)
       go_simp
       try (with_reducible rfl)
      try simp only [Act.put,jA]
      refine wpAnyH_take (i:=8) (v:=?v16) rfl (by kernel_rfl) (by kernel_rfl) (by kernel_rfl) (fun _ _ _ h=>h) (Or.inl ⟨by rfl,?hy16⟩) (by assumption) ?_
      case hy16 =>
       intro w' hSw
       (try dsimp only at hSw)
       go_simp
       try (with_reducible rfl)
      try simp only [Act.put,jA]
      refine wpAnyH_done (by kernel_rfl) ?_ _;go_wp2_with fail
      go_ret
      exact ⟨.inl ⟨⟨out.toArray⟩,⟨by have:=HID.out;exact this,HK1.out,HK2.out⟩,rfl⟩,HB.out.trans (HN0.out.mono HB.out.size)⟩
    · have hne:∀l,¬IsKey hi lo l:=fun l hl=>hk (by obtain rfl:=HPRE.out.done hi20 HEND.out hl;exact hl.2)
      have HNE:=jH hne;clear hne
      by_cases hkh:hiN out=hi
      · have hkl:¬loN out=lo:=fun h=>hk ⟨hkh,h⟩
        rw [hkh] at CKEY;generalize loN out=kl at CKEY hkl;have hq:¬((kl:Int)=(lo:Int)):=by omega
        clear hk hkh hkl;go_wp2_with fail
        refine wp_region_held_drew (S:=(fun U:World=>U.heap[w.heap.size]?=some (.cells #[.int .u64 (hi:Nat),.int .u64 (lo:Nat)] 130 (0,0)))) (by kernel_rfl) ?hS17 (fun hHeld=>?_)
        case hS17=>first|with_reducible exact HX.out|with_reducible exact HX.out.drew|exact HX.out|exact jK HN0.out HX.out
        refine wpAnyH_take (i:=0) (v:=?v18) rfl (by kernel_rfl) (by kernel_rfl) (by kernel_rfl) (fun _ _ _ h=>h) (Or.inl ⟨by rfl,?hy18⟩) (by assumption) ?_
        case hy18 =>
         intro w' hSw
         (try dsimp only at hSw)
         go_simp
         try (with_reducible rfl)
        try simp only [Act.put,jA]
        refine wpAnyH_ready (rs:=[1]) (by kernel_rfl) (by simp) ?_;refine AllReadyH.cons rfl (fun K hK=>?_) AllReadyH.nil;go_simp
        (go_at_call 101;with_reducible refine (CID.out _).mono ?_;rintro e w' ⟨rfl,rfl⟩)
        try go_simp
        refine hK.out _ _ ?hS19 (fun hHeld2=>?_)
        case hS19=>first|with_reducible exact HX.out|with_reducible exact HX.out.drew|exact HX.out|exact jK HN0.out HX.out
        clear hK K hHeld;have hHeld:=hHeld2;clear hHeld2
        try simp only [Act.put,jA]
        refine wpAnyH_take (i:=2) (v:=?v20) rfl (by kernel_rfl) (by kernel_rfl) (by kernel_rfl) (fun _ _ _ h=>h) (Or.inl ⟨by rfl,?hy20⟩) (by assumption) ?_
        case hy20 =>
         intro w' hSw
         (try dsimp only at hSw)
         go_simp
         try (with_reducible rfl)
        try simp only [Act.put,jA]
        refine wpAnyH_take (i:=3) (v:=?v21) rfl (by kernel_rfl) (by kernel_rfl) (by kernel_rfl) (fun _ _ _ h=>h) (Or.inl ⟨by rfl,?hy21⟩) (by assumption) ?_
        case hy21 =>
         intro w' hSw
         (try dsimp only at hSw)
         go_simp
         try (with_reducible rfl)
        try simp only [Act.put,jA]
        refine wpAnyH_take (i:=4) (v:=?v22) rfl (by kernel_rfl) (by kernel_rfl) (by kernel_rfl) (fun _ _ _ h=>h) (Or.inl ⟨by rfl,?hy22⟩) (by assumption) ?_
        case hy22 =>
         intro w' hSw
         (try dsimp only at hSw)
         go_simp
         try (with_reducible rfl)
        try simp only [Act.put,jA]
        refine wpAnyH_take (i:=6) (v:=?v23) rfl (by kernel_rfl) (by kernel_rfl) (by kernel_rfl) (fun _ _ _ h=>h) (Or.inl ⟨by rfl,?hy23⟩) (by assumption) ?_
        case hy23 =>
         intro w' hSw
         (try dsimp only at hSw)
         have q0:=(box_cells jR hSw).1;go_simp
         try (with_reducible rfl)
        try simp only [Act.put,jA]
        refine wpAnyH_ready (rs:=[5]) (by kernel_rfl) (by simp) ?_;refine AllReadyH.cons rfl (fun K hK=>?_) AllReadyH.nil;go_simp
        (go_at_call 104;refine calls_named ?_;intro W2 hW2;have hb2:jB W W2:=(by rw [hW2];first|exact jR|exact jR.drew);clear hW2;with_reducible refine (CKEY.out _).mono ?_;rintro e n0 ⟨rfl,hb3⟩;have HN0:=jH (bthen hb2 hb3);clear hb2 hb3)
        try go_simp
        refine hK.out _ _ ?hS24 (fun hHeld2=>?_)
        case hS24=>first|with_reducible exact HX.out|with_reducible exact HX.out.drew|exact HX.out|exact jK HN0.out HX.out
        clear hK K hHeld;have hHeld:=hHeld2;clear hHeld2
        try simp only [Act.put,jA]
        refine wpAnyH_take (i:=7) (v:=?v25) rfl (by kernel_rfl) (by kernel_rfl) (by kernel_rfl) (fun _ _ _ h=>h) (Or.inl ⟨by rfl,?hy25⟩) (by assumption) ?_
        case hy25 =>
         intro w' hSw
         (try dsimp only at hSw)
         go_simp
         try (with_reducible rfl)
        try simp only [Act.put,jA]
        refine wpAnyH_take (i:=8) (v:=?v26) rfl (by kernel_rfl) (by kernel_rfl) (by kernel_rfl) (fun _ _ _ h=>h) (Or.inl ⟨by rfl,?hy26⟩) (by assumption) ?_
        case hy26 =>
         intro w' hSw
         (try dsimp only at hSw)
         go_simp
         try (with_reducible rfl)
        try simp only [Act.put,jA]
        refine wpAnyH_done (by kernel_rfl) ?_ _;go_wp2_with fail
        go_ret
        exact ⟨.inr ⟨HNE.out,rfl⟩,HB.out.trans (HN0.out.mono HB.out.size)⟩
      · generalize hiN out=kh at CKEY hkh
        generalize loN out=kl at CKEY;have hq:¬((kh:Int)=(hi:Int)):=by omega
        clear hk hkh;go_wp2_with fail
        refine wp_region_held_drew (S:=(fun U:World=>U.heap[w.heap.size]?=some (.cells #[.int .u64 (hi:Nat),.int .u64 (lo:Nat)] 130 (0,0)))) (by kernel_rfl) ?hS17 (fun hHeld=>?_)
        case hS17=>first|with_reducible exact HX.out|with_reducible exact HX.out.drew|exact HX.out|exact jK HN0.out HX.out
        refine wpAnyH_take (i:=0) (v:=?v18) rfl (by kernel_rfl) (by kernel_rfl) (by kernel_rfl) (fun _ _ _ h=>h) (Or.inl ⟨by rfl,?hy18⟩) (by assumption) ?_
        case hy18 =>
         intro w' hSw
         (try dsimp only at hSw)
         go_simp
         try (with_reducible rfl)
        try simp only [Act.put,jA]
        refine wpAnyH_ready (rs:=[1]) (by kernel_rfl) (by simp) ?_;refine AllReadyH.cons rfl (fun K hK=>?_) AllReadyH.nil;go_simp
        (go_at_call 101;with_reducible refine (CID.out _).mono ?_;rintro e w' ⟨rfl,rfl⟩)
        try go_simp
        refine hK.out _ _ ?hS19 (fun hHeld2=>?_)
        case hS19=>first|with_reducible exact HX.out|with_reducible exact HX.out.drew|exact HX.out|exact jK HN0.out HX.out
        clear hK K hHeld;have hHeld:=hHeld2;clear hHeld2
        try simp only [Act.put,jA]
        refine wpAnyH_take (i:=2) (v:=?v20) rfl (by kernel_rfl) (by kernel_rfl) (by kernel_rfl) (fun _ _ _ h=>h) (Or.inl ⟨by rfl,?hy20⟩) (by assumption) ?_
        case hy20 =>
         intro w' hSw
         (try dsimp only at hSw)
         go_simp
         try (with_reducible rfl)
        try simp only [Act.put,jA]
        refine wpAnyH_take (i:=3) (v:=?v21) rfl (by kernel_rfl) (by kernel_rfl) (by kernel_rfl) (fun _ _ _ h=>h) (Or.inl ⟨by rfl,?hy21⟩) (by assumption) ?_
        case hy21 =>
         intro w' hSw
         (try dsimp only at hSw)
         go_simp
         try (with_reducible rfl)
        try simp only [Act.put,jA]
        refine wpAnyH_take (i:=4) (v:=?v22) rfl (by kernel_rfl) (by kernel_rfl) (by kernel_rfl) (fun _ _ _ h=>h) (Or.inl ⟨by rfl,?hy22⟩) (by assumption) ?_
        case hy22 =>
         intro w' hSw
         (try dsimp only at hSw)
         go_simp
         try (with_reducible rfl)
        try simp only [Act.put,jA]
        refine wpAnyH_take (i:=6) (v:=?v23) rfl (by kernel_rfl) (by kernel_rfl) (by kernel_rfl) (fun _ _ _ h=>h) (Or.inl ⟨by rfl,?hy23⟩) (by assumption) ?_
        case hy23 =>
         intro w' hSw
         (try dsimp only at hSw)
         have q0:=(box_cells jR hSw).1;go_simp
         try (with_reducible rfl)
        try simp only [Act.put,jA]
        refine wpAnyH_ready (rs:=[5]) (by kernel_rfl) (by simp) ?_;refine AllReadyH.cons rfl (fun K hK=>?_) AllReadyH.nil;go_simp
        (go_at_call 104;refine calls_named ?_;intro W2 hW2;have hb2:jB W W2:=(by rw [hW2];first|exact jR|exact jR.drew);clear hW2;with_reducible refine (CKEY.out _).mono ?_;rintro e n0 ⟨rfl,hb3⟩;have HN0:=jH (bthen hb2 hb3);clear hb2 hb3)
        try go_simp
        refine hK.out _ _ ?hS24 (fun hHeld2=>?_)
        case hS24=>first|with_reducible exact HX.out|with_reducible exact HX.out.drew|exact HX.out|exact jK HN0.out HX.out
        clear hK K hHeld;have hHeld:=hHeld2;clear hHeld2
        try simp only [Act.put,jA]
        refine wpAnyH_take (i:=7) (v:=?v25) rfl (by kernel_rfl) (by kernel_rfl) (by kernel_rfl) (fun _ _ _ h=>h) (Or.inl ⟨by rfl,?hy25⟩) (by assumption) ?_
        case hy25 =>
         intro w' hSw
         (try dsimp only at hSw)
         go_simp
         try (with_reducible rfl)
        try simp only [Act.put,jA]
        refine wpAnyH_take (i:=8) (v:=?v26) rfl (by kernel_rfl) (by kernel_rfl) (by kernel_rfl) (fun _ _ _ h=>h) (Or.inl ⟨by rfl,?hy26⟩) (by assumption) ?_
        case hy26 =>
         intro w' hSw
         (try dsimp only at hSw)
         go_simp
         try (with_reducible rfl)
        try simp only [Act.put,jA]
        refine wpAnyH_done (by kernel_rfl) ?_ _;go_wp2_with fail
        go_ret
        exact ⟨.inr ⟨HNE.out,rfl⟩,HB.out.trans (HN0.out.mono HB.out.size)⟩
  · have hne:∀l,¬IsKey hi lo l:=fun l hl=>hid (by obtain rfl:=HPRE.out.done hi20 HEND.out hl;exact hl.1)
    have HNE:=jH hne;have HID:=jH (show idS ⟨out.toArray⟩=false by simpa using hid);have CID:=jH (show ∀W,Calls Tryz.prog 101 #[.string ⟨out.toArray⟩] W fun e w'=>e=.returned (.bool false)∧W=w' from fun W=>by have:=id_any ⟨out.toArray⟩ W HOM.out;rwa [HID.out] at this);clear hid hne;go_wp2_with fail
    refine wp_region_held_drew (S:=(fun U:World=>U.heap[w.heap.size]?=some (.cells #[.int .u64 (hi:Nat),.int .u64 (lo:Nat)] 130 (0,0)))) (by kernel_rfl) ?hS1 (fun hHeld=>?_)
    case hS1=>first|with_reducible exact HX.out|with_reducible exact HX.out.drew|exact HX.out|exact jK HN0.out HX.out
    refine wpAnyH_take (i:=0) (v:=?v2) rfl (by kernel_rfl) (by kernel_rfl) (by kernel_rfl) (fun _ _ _ h=>h) (Or.inl ⟨by rfl,?hy2⟩) (by assumption) ?_
    case hy2 =>
     intro w' hSw
     (try dsimp only at hSw)
     go_simp
     try (with_reducible rfl)
    try simp only [Act.put,jA]
    refine wpAnyH_ready (rs:=[1]) (by kernel_rfl) (by simp) ?_;refine AllReadyH.cons rfl (fun K hK=>?_) AllReadyH.nil;go_simp
    (go_at_call 101;with_reducible refine (CID.out _).mono ?_;rintro e w' ⟨rfl,rfl⟩)
    try go_simp
    refine hK.out _ _ ?hS3 (fun hHeld2=>?_)
    case hS3=>first|with_reducible exact HX.out|with_reducible exact HX.out.drew|exact HX.out|exact jK HN0.out HX.out
    clear hK K hHeld;have hHeld:=hHeld2;clear hHeld2
    try simp only [Act.put,jA]
    refine wpAnyH_take (i:=2) (v:=?v4) rfl (by kernel_rfl) (by kernel_rfl) (by kernel_rfl) (fun _ _ _ h=>h) (Or.inl ⟨by rfl,?hy4⟩) (by assumption) ?_
    case hy4 =>
     intro w' hSw
     (try dsimp only at hSw)
     go_simp
     try (with_reducible rfl)
    try simp only [Act.put,jA]
    refine wpAnyH_take (i:=3) (v:=?v5) rfl (by kernel_rfl) (by kernel_rfl) (by kernel_rfl) (fun _ _ _ h=>h) (Or.inl ⟨by rfl,?hy5⟩) (by assumption) ?_
    case hy5 =>
     intro w' hSw
     (try dsimp only at hSw)
     go_simp
     try (with_reducible rfl)
    try simp only [Act.put,jA]
    refine wpAnyH_take (i:=4) (v:=undef) rfl (by kernel_rfl) (by kernel_rfl) (by kernel_rfl) (fun _ _ _ h=>h) (Or.inr ⟨by go_simp,rfl⟩) (by assumption) ?_
    try simp only [Act.put,jA]
    refine wpAnyH_take (i:=5) (v:=undef) rfl (by kernel_rfl) (by kernel_rfl) (by kernel_rfl) (fun _ _ _ h=>h) (Or.inr ⟨by go_simp,rfl⟩) (by assumption) ?_
    try simp only [Act.put,jA]
    refine wpAnyH_take (i:=6) (v:=undef) rfl (by kernel_rfl) (by kernel_rfl) (by kernel_rfl) (fun _ _ _ h=>h) (Or.inr ⟨by go_simp,rfl⟩) (by assumption) ?_
    try simp only [Act.put,jA]
    refine wpAnyH_take (i:=7) (v:=undef) rfl (by kernel_rfl) (by kernel_rfl) (by kernel_rfl) (fun _ _ _ h=>h) (Or.inr ⟨by go_simp,rfl⟩) (by assumption) ?_
    try simp only [Act.put,jA]
    refine wpAnyH_take (i:=8) (v:=?v6) rfl (by kernel_rfl) (by kernel_rfl) (by kernel_rfl) (fun _ _ _ h=>h) (Or.inl ⟨by rfl,?hy6⟩) (by assumption) ?_
    case hy6 =>
     intro w' hSw
     (try dsimp only at hSw)
     go_simp
     try (with_reducible rfl)
    try simp only [Act.put,jA]
    refine wpAnyH_done (by kernel_rfl) ?_ _;go_wp2_with fail
    go_ret
    exact ⟨.inr ⟨HNE.out,rfl⟩,HB.out.drew⟩
end
end Go.Proofs.YtkcdhaallnhhmaaGreat
