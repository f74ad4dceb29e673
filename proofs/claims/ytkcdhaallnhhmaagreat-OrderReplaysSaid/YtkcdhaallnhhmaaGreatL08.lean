/- Part 8 of the proof: IdRef, CallRef. -/
import Derived.Test.YtkcdhaallnhhmaaGreatL07
namespace Go.Proofs.YtkcdhaallnhhmaaGreat
set_option linter.unusedSimpArgs false
set_option linter.unusedVariables false
set_option linter.unusedSectionVars false
set_option maxRecDepth 100000
set_option maxHeartbeats 16000000
section
open Go.RowKit Go.Lib
def lettersL:List UInt8:=[45,46,48,49,50,51,52,53,54,55,56,57,95,97,98,99,100,101,102,103,104,105,106,107,108,109,110,111,112,113,114,115,116,117,118,119,120,121,122]
theorem letters_code:∀i,i<39→codeB (lettersL.getD i 0)=i+1:=by decide
theorem place_none (c:UInt8) (h:∀j,j<39→lettersL.getD j 0≠c):codeB c=0:=by
 rcases Nat.eq_zero_or_pos (codeB c) with h0|h0
 · exact h0
 · have hle:=codeB_le c
   have e:=letters_code (codeB c - 1) (by omega);refine absurd ?_ (h (codeB c - 1) (by omega));have hok:okB (lettersL.getD (codeB c - 1) 0)=true:=by rw [okB,decide_eq_true_eq];omega
   exact codeB_inj _ _ hok (by omega)
def lettersS:ByteArray:=⟨lettersL.toArray⟩
theorem lettersS_get (k:Nat) (h:k<lettersS.size):lettersS[k]=lettersL.getD k 0:=by
 have h':k<lettersL.length:=h;simp only [List.getD,List.getElem?_eq_getElem h',Option.getD_some]
 rfl
theorem place_any (c:UInt8) (w:World) :
 Calls Tryz.prog 158 #[.int .u8 (c.toNat:Nat)] w fun e w'=>e=.returned (.int .u64 (codeB c:Nat))∧w=w':=by
 go_enter Tryz.func158,Tryz.ntmps158
 go_wp2
 go_loop [3] (fun i=>∃k:Nat,k≤39∧i=.int .i64 k∧∀j,j<k→lettersL.getD j 0≠c) (fun i=>39 - (intOf i).toNat)
 case atStart=>exact ⟨0,by omega,rfl,fun j hj=>absurd hj (by omega)⟩
 case round =>
  obtain ⟨k,hk,rfl,hno⟩:=hrel
  by_cases hlt:k<39
  · have Hno:=jH hno
    have hsz:k<lettersS.size:=hlt;clear hno;go_wp2
    · have hq:(((lettersS[k].toNat:Nat):Int) == ((c.toNat:Nat):Int))=true:=by assumption
      have hq':lettersS[k]=c:=UInt8.toNat_inj.1 (Int.ofNat.inj (beq_iff_eq.1 hq));rw [lettersS_get k hsz] at hq';go_ret
      refine ⟨ret_int ?_,rfl⟩;rw [←hq',letters_code k hlt];rfl
    · have hq:(((lettersS[k].toNat:Nat):Int) == ((c.toNat:Nat):Int))=false:=by assumption
      have hq':lettersS[k]≠c:=fun e=>by
       have:=beq_eq_false_iff_ne.1 hq;exact this (congrArg (fun b:UInt8=>((b.toNat:Nat):Int)) e)
      rw [lettersS_get k hsz] at hq'
      go_round
      case rel =>
       refine ⟨k+1,by omega,by go_num,fun j hj=>?_⟩
       rcases Nat.lt_or_ge j k with h|h
       · exact Hno.out j h
       · obtain rfl:j=k:=by omega
         exact hq'
      case measure=>simp [intOf];omega
  · obtain rfl:k=39:=by omega
    have h0:=place_none c hno;clear hno;go_wp2
    go_ret
    exact ⟨rfl,rfl⟩
theorem id_any (s:ByteArray) (w:World) (hm:s.size≤maxLen) :
 Calls Tryz.prog 101 #[.string s] w fun e w'=>e=.returned (.bool (idS s))∧w=w':=by
 unfold maxLen at hm
 by_cases h1:s.size<1
 · rw [idS_len s (.inl h1)]
   go_enter Tryz.func101,Tryz.ntmps101
   go_wp2
   go_ret
   exact ⟨rfl,rfl⟩
 · by_cases h2:20<s.size
   · rw [idS_len s (.inr h2)]
     go_enter Tryz.func101,Tryz.ntmps101
     go_wp2
     go_ret
     exact ⟨rfl,rfl⟩
   · go_enter Tryz.func101,Tryz.ntmps101
     go_wp2
     go_loop [3] (fun i=>∃k:Nat,k≤s.size∧i=.int .i64 k∧OkTo s k) (fun i=>s.size - (intOf i).toNat)
     case atStart=>exact ⟨0,Nat.zero_le _,rfl,okTo_zero s⟩
     case round =>
      obtain ⟨k,hk,rfl,hok⟩:=hrel
      by_cases hlt:k<s.size
      · cases hb:okB s[k] with
        | true =>
          have hok':=okTo_succ s k hok hlt hb;have hc:((codeB s[k]:Int) == 0)=false:=by simpa [okB] using hb
          have Hok':=jH hok';clear hb hok hok'
          go_wp2_with (go_at_call 158;refine (place_any _ _).mono ?_;rintro e w' ⟨rfl,rfl⟩)
          go_round
          case rel=>exact ⟨k+1,hlt,by go_num,Hok'.out⟩
          case measure=>simp [intOf];omega
        | false =>
          have hf:=idS_bad s k hlt hb;have hc:((codeB s[k]:Int) == 0)=true:=by simpa [okB] using hb
          have Hf:=jH hf;clear hb hok hf
          go_wp2_with (go_at_call 158;refine (place_any _ _).mono ?_;rintro e w' ⟨rfl,rfl⟩)
          go_ret
          rw [Hf.out];exact ⟨rfl,rfl⟩
      · obtain rfl:k=s.size:=by omega
        have hf:=idS_all s (by omega) (by omega) hok;have Hf:=jH hf;clear hf hok;go_wp2
        go_ret
        rw [Hf.out];exact ⟨rfl,rfl⟩
def keyS (s:ByteArray):Value:=keyV (hiN s.data.toList) (loN s.data.toList)
theorem keyN_lt9 (l:List UInt8) (a n:Nat) (h:n≤9):keyN l a n<18014398509481984 :=
 Nat.lt_of_lt_of_le (keyN_lt l a n) (Nat.pow_le_pow_right (n:=64) (j:=9) (by decide) h)
theorem refKey_any (s:ByteArray) (w:World) (hm:s.size≤maxLen) (hid:idS s=true) :
 Calls Tryz.prog 104 #[.string s] w (jP w (keyS s)):=by
 have Hid:=jH hid;unfold keyS keyV;unfold maxLen at hm;obtain ⟨hs1,hs2,_⟩:=idS_okTo s hid;clear hid
 go_enter Tryz.func104,Tryz.ntmps104
 go_wp2_with (go_at_call 101;refine (id_any _ _ hm).mono ?_;rw [Hid.out];rintro e w' ⟨rfl,rfl⟩)
 go_loopw [4,5] (fun i _ w'=>∃k:Nat,k≤20∧i=.int .i64 k∧w'=(w.alloc (.cells #[.int .u64 0,.int .u64 0] 130)).alloc (.cells #[.int .u64 (keyN s.data.toList 0 (min k 10):Nat),.int .u64 (keyN s.data.toList 10 (k - 10):Nat)] 130)) (fun i _ _=>20 - (intOf i).toNat)
 case atStart=>exact ⟨0,by omega,rfl,rfl⟩
 case round =>
  obtain ⟨k,hk,rfl,rfl⟩:=hrel
  by_cases hlt:k<20
  · have d1:=dig_le s.data.toList k
    have hgd:∀h:k<s.size,dig s.data.toList k=codeB (s[k]'h):=fun h=>by rw [dig_at _ _ (by simpa using h)];rfl
    by_cases h10:k<10
    · have hst:keyN s.data.toList 0 (min (k+1) 10)=keyN s.data.toList 0 (min k 10) * 64+dig s.data.toList k:=by
       rw [Nat.min_eq_left (by omega),Nat.min_eq_left (by omega),keyN,Nat.zero_add]
      have n3:=keyN_lt9 s.data.toList 0 (min k 10) (by omega);have e2:k - 10=k+1 - 10:=by omega
      have E2:=jH e2;clear e2
      by_cases hin:k<s.size
      · rw [hgd hin] at hst d1
        have Hst:=jH hst;clear hst hgd
        go_wp2_with (go_at_call 158;refine (place_any _ _).mono ?_;rintro e w' ⟨rfl,rfl⟩)
        go_roundw
        case rel =>
         refine ⟨k+1,by omega,by go_num,?_⟩;rw [Hst.out,E2.out];simp
        case measure=>simp [intOf];omega
      · have hd0:dig s.data.toList k=0:=dig_out _ _ (by simp;omega)
        rw [hd0] at hst;have Hst:=jH hst;clear hst hd0 hgd;go_wp2
        go_roundw
        case rel =>
         refine ⟨k+1,by omega,by go_num,?_⟩;rw [Hst.out,E2.out];simp
        case measure=>simp [intOf];omega
    · have hst:keyN s.data.toList 10 (k+1 - 10)=keyN s.data.toList 10 (k - 10) * 64+dig s.data.toList k:=by
       rw [show k+1 - 10=(k - 10)+1 by omega,keyN,show 10+(k - 10)=k by omega]
      have n3:=keyN_lt9 s.data.toList 10 (k - 10) (by omega);have e2:min k 10=min (k+1) 10:=by omega
      have E2:=jH e2;clear e2
      by_cases hin:k<s.size
      · rw [hgd hin] at hst d1
        have Hst:=jH hst;clear hst hgd
        go_wp2_with (go_at_call 158;refine (place_any _ _).mono ?_;rintro e w' ⟨rfl,rfl⟩)
        go_roundw
        case rel =>
         refine ⟨k+1,by omega,by go_num,?_⟩;rw [Hst.out,E2.out];simp
        case measure=>simp [intOf];omega
      · have hd0:dig s.data.toList k=0:=dig_out _ _ (by simp;omega)
        rw [hd0] at hst;have Hst:=jH hst;clear hst hd0 hgd;go_wp2
        go_roundw
        case rel =>
         refine ⟨k+1,by omega,by go_num,?_⟩;rw [Hst.out,E2.out];simp
        case measure=>simp [intOf];omega
  · obtain rfl:k=20:=by omega
    go_wp2
    exact bodyPost_ret (v:=.agg #[.int .u64 (hiN s.data.toList:Nat),.int .u64 (loN s.data.toList:Nat)]) (by simp [results,Tryz.results104,go_sem];exact ⟨rfl,rfl⟩) rfl
      ⟨rfl,(jR.alloc (Nat.le_refl _) _).alloc (by simp) _⟩
end
section
open Go.RowKit Go.Lib
section
variable (id:ByteArray) (tick val handle a b tg tol win hold:Int) (w:World)
theorem ref21Check_1 (hid:id.size≤maxLen) :
 Calls Tryz.prog 90 #[callV (callK 1 id tick val handle a b tg tol win hold)] w (jP w (.int .i64 (if idS id=true then serE tick val else 2))):=by
 unfold callV callK;simp only
 cases hi:idS id with
 | false =>
   have Hi:=jH hi;clear hi
   go_enter Tryz.func90,Tryz.ntmps90
   go_wp2_with (go_at_call 101;refine (id_any _ _ hid).mono ?_;rw [Hi.out];rintro e w' ⟨rfl,rfl⟩)
   go_ret
   exact ⟨rfl,balloc jR _⟩
 | true =>
   have Hi:=jH hi;clear hi
   go_enter Tryz.func90,Tryz.ntmps90
   go_wp2_with (first|(go_at_call 101;refine (id_any _ _ hid).mono ?_;rw [Hi.out];rintro e w' ⟨rfl,rfl⟩)|(go_at_call 139;refine (ref08Right_any _ _ _).mono ?_;rintro e w' ⟨rfl,rfl⟩))
   go_ret
   exact ⟨rfl,balloc jR _⟩
theorem ref21Check_2 :
 Calls Tryz.prog 90 #[callV (callK 2 id tick val handle a b tg tol win hold)] w (jP w (.int .i64 (if tick<0 then 3 else 0))):=by
 unfold callV callK;simp only
 by_cases ht:tick<0
 · rw [if_pos ht]
   go_enter Tryz.func90,Tryz.ntmps90
   go_wp2
   go_ret
   exact ⟨rfl,balloc jR _⟩
 · rw [if_neg ht]
   go_enter Tryz.func90,Tryz.ntmps90
   go_wp2
   go_ret
   exact ⟨rfl,balloc jR _⟩
theorem ref21Check_6 (hid:id.size≤maxLen) :
 Calls Tryz.prog 90 #[callV (callK 6 id tick val handle a b tg tol win hold)] w (jP w (.int .i64 (if idS id=true then polE ⟨a,b,tg,tol,win,hold⟩ else 2))):=by
 unfold callV callK;simp only
 cases hi:idS id with
 | false =>
   have Hi:=jH hi;clear hi
   go_enter Tryz.func90,Tryz.ntmps90
   go_wp2_with (go_at_call 101;refine (id_any _ _ hid).mono ?_;rw [Hi.out];rintro e w' ⟨rfl,rfl⟩)
   go_ret
   exact ⟨rfl,balloc jR _⟩
 | true =>
   have Hi:=jH hi;clear hi
   cases hp:polB ⟨a,b,tg,tol,win,hold⟩ with
   | false =>
     have he:polE ⟨a,b,tg,tol,win,hold⟩=7:=by simp [polE,hp]
     rw [he];have Hp:=jH hp;clear hp he
     go_enter Tryz.func90,Tryz.ntmps90
     go_wp2_with (first|(go_at_call 101;refine (id_any _ _ hid).mono ?_;rw [Hi.out];rintro e w' ⟨rfl,rfl⟩)|(go_at_call 125;refine (ref12Right_any ⟨a,b,tg,tol,win,hold⟩ _).mono ?_;rw [Hp.out];rintro e w2 ⟨rfl,hb2⟩))
     go_ret
     exact ⟨rfl,bthen (balloc jR _) hb2⟩
   | true =>
     have he:polE ⟨a,b,tg,tol,win,hold⟩=0:=by simp [polE,hp]
     rw [he];have Hp:=jH hp;clear hp he
     go_enter Tryz.func90,Tryz.ntmps90
     go_wp2_with (first|(go_at_call 101;refine (id_any _ _ hid).mono ?_;rw [Hi.out];rintro e w' ⟨rfl,rfl⟩)|(go_at_call 125;refine (ref12Right_any ⟨a,b,tg,tol,win,hold⟩ _).mono ?_;rw [Hp.out];rintro e w2 ⟨rfl,hb2⟩))
     go_ret
     exact ⟨rfl,bthen (balloc jR _) hb2⟩
theorem ref21Check_5 (hid:id.size≤maxLen) :
 Calls Tryz.prog 90 #[callV (callK 5 id tick val handle a b tg tol win hold)] w (jP w (.int .i64 (if idS id=true then 0 else 2))):=by
 unfold callV callK;simp only
 cases hi:idS id with
 | false =>
   have Hi:=jH hi;clear hi
   go_enter Tryz.func90,Tryz.ntmps90
   go_wp2_with (go_at_call 101;refine (id_any _ _ hid).mono ?_;rw [Hi.out];rintro e w' ⟨rfl,rfl⟩)
   go_ret
   exact ⟨rfl,balloc jR _⟩
 | true =>
   have Hi:=jH hi;clear hi
   go_enter Tryz.func90,Tryz.ntmps90
   go_wp2_with (go_at_call 101;refine (id_any _ _ hid).mono ?_;rw [Hi.out];rintro e w' ⟨rfl,rfl⟩)
   go_ret
   exact ⟨rfl,balloc jR _⟩
theorem ref21Check_7 (hid:id.size≤maxLen) :
 Calls Tryz.prog 90 #[callV (callK 7 id tick val handle a b tg tol win hold)] w (jP w (.int .i64 (if idS id=true then 0 else 2))):=by
 unfold callV callK;simp only
 cases hi:idS id with
 | false =>
   have Hi:=jH hi;clear hi
   go_enter Tryz.func90,Tryz.ntmps90
   go_wp2_with (go_at_call 101;refine (id_any _ _ hid).mono ?_;rw [Hi.out];rintro e w' ⟨rfl,rfl⟩)
   go_ret
   exact ⟨rfl,balloc jR _⟩
 | true =>
   have Hi:=jH hi;clear hi
   go_enter Tryz.func90,Tryz.ntmps90
   go_wp2_with (go_at_call 101;refine (id_any _ _ hid).mono ?_;rw [Hi.out];rintro e w' ⟨rfl,rfl⟩)
   go_ret
   exact ⟨rfl,balloc jR _⟩
theorem ref21Check_3 :
 Calls Tryz.prog 90 #[callV (callK 3 id tick val handle a b tg tol win hold)] w (jP w (.int .i64 (0))):=by
 unfold callV callK;simp only
 go_enter Tryz.func90,Tryz.ntmps90
 go_wp2
 go_ret
 exact ⟨rfl,balloc jR _⟩
theorem ref21Check_4 :
 Calls Tryz.prog 90 #[callV (callK 4 id tick val handle a b tg tol win hold)] w (jP w (.int .i64 (0))):=by
 unfold callV callK;simp only
 go_enter Tryz.func90,Tryz.ntmps90
 go_wp2
 go_ret
 exact ⟨rfl,balloc jR _⟩
theorem ref21Check_8 :
 Calls Tryz.prog 90 #[callV (callK 8 id tick val handle a b tg tol win hold)] w (jP w (.int .i64 (0))):=by
 unfold callV callK;simp only
 go_enter Tryz.func90,Tryz.ntmps90
 go_wp2
 go_ret
 exact ⟨rfl,balloc jR _⟩
theorem ref21Check_no (k:Int) (hk:k<1∨8<k) :
 Calls Tryz.prog 90 #[callV (callK k id tick val handle a b tg tol win hold)] w (jP w (.int .i64 (14))):=by
 unfold callV callK;simp only
 by_cases h1:k<1
 · go_enter Tryz.func90,Tryz.ntmps90
   go_wp2
   go_ret
   exact ⟨rfl,balloc jR _⟩
 · have h2:8<k:=by omega
   clear hk
   go_enter Tryz.func90,Tryz.ntmps90
   go_wp2
   go_ret
   exact ⟨rfl,balloc jR _⟩
end
theorem ref21Check_any (c:CallD) (w:World) (hc:c.ok) :
 Calls Tryz.prog 90 #[callV c] w (jP w (.int .i64 (chkC c))):=by
 obtain ⟨kind,id,tick,val,handle,⟨a,b,tg,tol,win,hold⟩⟩:=c;obtain ⟨_,hid,_,_,_,_⟩:=hc;simp only at hid
 rcases chk_kinds ⟨kind,id,tick,val,handle,⟨a,b,tg,tol,win,hold⟩⟩ with h|h|h|h|h|h|h|h|h
 all_goals simp only at h
 · subst h
   have e:chkC ⟨1,id,tick,val,handle,⟨a,b,tg,tol,win,hold⟩⟩=if idS id=true then serE tick val else 2:=by
    cases hi:idS id <;> simp [chkC,hi]
   rw [e];exact ref21Check_1 id tick val handle a b tg tol win hold w hid
 · subst h
   have e:chkC ⟨2,id,tick,val,handle,⟨a,b,tg,tol,win,hold⟩⟩=if tick<0 then 3 else 0:=by simp [chkC]
   rw [e];exact ref21Check_2 id tick val handle a b tg tol win hold w
 · subst h
   exact ref21Check_3 id tick val handle a b tg tol win hold w
 · subst h
   exact ref21Check_4 id tick val handle a b tg tol win hold w
 · subst h
   have e:chkC ⟨5,id,tick,val,handle,⟨a,b,tg,tol,win,hold⟩⟩=if idS id=true then 0 else 2:=by
    cases hi:idS id <;> simp [chkC,hi]
   rw [e];exact ref21Check_5 id tick val handle a b tg tol win hold w hid
 · subst h
   have e:chkC ⟨6,id,tick,val,handle,⟨a,b,tg,tol,win,hold⟩⟩=if idS id=true then polE ⟨a,b,tg,tol,win,hold⟩ else 2:=by
    cases hi:idS id <;> cases hp:polB ⟨a,b,tg,tol,win,hold⟩ <;> simp [chkC,polE,hi,hp]
   rw [e];exact ref21Check_6 id tick val handle a b tg tol win hold w hid
 · subst h
   have e:chkC ⟨7,id,tick,val,handle,⟨a,b,tg,tol,win,hold⟩⟩=if idS id=true then 0 else 2:=by
    cases hi:idS id <;> simp [chkC,hi]
   rw [e];exact ref21Check_7 id tick val handle a b tg tol win hold w hid
 · subst h
   exact ref21Check_8 id tick val handle a b tg tol win hold w
 · have e:chkC ⟨kind,id,tick,val,handle,⟨a,b,tg,tol,win,hold⟩⟩=14:=by simp [chkC,h]
   rw [e];exact ref21Check_no id tick val handle a b tg tol win hold w kind h
end
end Go.Proofs.YtkcdhaallnhhmaaGreat
