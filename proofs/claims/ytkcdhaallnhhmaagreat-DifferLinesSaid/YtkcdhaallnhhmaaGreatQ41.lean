/- Part 41 of the proof: CallRef. -/
import Derived.Test.YtkcdhaallnhhmaaGreatQ05
import Derived.Test.YtkcdhaallnhhmaaGreatQ08
namespace Go.Proofs.YtkcdhaallnhhmaaGreat
set_option linter.unusedSimpArgs false
set_option linter.unusedVariables false
set_option linter.unusedSectionVars false
set_option maxRecDepth 100000
set_option maxHeartbeats 16000000
section
open Go.RowKit Go.Lib
section
variable (id:ByteArray) (tick val handle a b tg tol win hold:Int) (w:World)
theorem ref21Check_1 (hid:id.size≤maxLen) :
 Calls Tryz.prog 90 #[callV (callK 1 id tick val handle a b tg tol win hold)] w (jP w (.int .i64 (if idS id=true then serE tick val else 2))):=by
 unfold callV callK;simp only
 cases hi:idS id with
 | false =>
   have Hi:=jH hi;clear hi
   go_enter Tryz.func90,Tryz.ntmps90
   go_wp2_with (go_at_call 101;refine (id_any _ _ hid).mono ?_;rw [Hi.out];rintro e w' ⟨rfl,rfl⟩)
   go_ret
   exact ⟨rfl,balloc jR _⟩
 | true =>
   have Hi:=jH hi;clear hi
   go_enter Tryz.func90,Tryz.ntmps90
   go_wp2_with (first|(go_at_call 101;refine (id_any _ _ hid).mono ?_;rw [Hi.out];rintro e w' ⟨rfl,rfl⟩)|(go_at_call 139;refine (ref08Right_any _ _ _).mono ?_;rintro e w' ⟨rfl,rfl⟩))
   go_ret
   exact ⟨rfl,balloc jR _⟩
theorem ref21Check_2 :
 Calls Tryz.prog 90 #[callV (callK 2 id tick val handle a b tg tol win hold)] w (jP w (.int .i64 (if tick<0 then 3 else 0))):=by
 unfold callV callK;simp only
 by_cases ht:tick<0
 · rw [if_pos ht]
   go_enter Tryz.func90,Tryz.ntmps90
   go_wp2
   go_ret
   exact ⟨rfl,balloc jR _⟩
 · rw [if_neg ht]
   go_enter Tryz.func90,Tryz.ntmps90
   go_wp2
   go_ret
   exact ⟨rfl,balloc jR _⟩
theorem ref21Check_6 (hid:id.size≤maxLen) :
 Calls Tryz.prog 90 #[callV (callK 6 id tick val handle a b tg tol win hold)] w (jP w (.int .i64 (if idS id=true then polE ⟨a,b,tg,tol,win,hold⟩ else 2))):=by
 unfold callV callK;simp only
 cases hi:idS id with
 | false =>
   have Hi:=jH hi;clear hi
   go_enter Tryz.func90,Tryz.ntmps90
   go_wp2_with (go_at_call 101;refine (id_any _ _ hid).mono ?_;rw [Hi.out];rintro e w' ⟨rfl,rfl⟩)
   go_ret
   exact ⟨rfl,balloc jR _⟩
 | true =>
   have Hi:=jH hi;clear hi
   cases hp:polB ⟨a,b,tg,tol,win,hold⟩ with
   | false =>
     have he:polE ⟨a,b,tg,tol,win,hold⟩=7:=by simp [polE,hp]
     rw [he];have Hp:=jH hp;clear hp he
     go_enter Tryz.func90,Tryz.ntmps90
     go_wp2_with (first|(go_at_call 101;refine (id_any _ _ hid).mono ?_;rw [Hi.out];rintro e w' ⟨rfl,rfl⟩)|(go_at_call 125;refine (ref12Right_any ⟨a,b,tg,tol,win,hold⟩ _).mono ?_;rw [Hp.out];rintro e w2 ⟨rfl,hb2⟩))
     go_ret
     exact ⟨rfl,bthen (balloc jR _) hb2⟩
   | true =>
     have he:polE ⟨a,b,tg,tol,win,hold⟩=0:=by simp [polE,hp]
     rw [he];have Hp:=jH hp;clear hp he
     go_enter Tryz.func90,Tryz.ntmps90
     go_wp2_with (first|(go_at_call 101;refine (id_any _ _ hid).mono ?_;rw [Hi.out];rintro e w' ⟨rfl,rfl⟩)|(go_at_call 125;refine (ref12Right_any ⟨a,b,tg,tol,win,hold⟩ _).mono ?_;rw [Hp.out];rintro e w2 ⟨rfl,hb2⟩))
     go_ret
     exact ⟨rfl,bthen (balloc jR _) hb2⟩
theorem ref21Check_5 (hid:id.size≤maxLen) :
 Calls Tryz.prog 90 #[callV (callK 5 id tick val handle a b tg tol win hold)] w (jP w (.int .i64 (if idS id=true then 0 else 2))):=by
 unfold callV callK;simp only
 cases hi:idS id with
 | false =>
   have Hi:=jH hi;clear hi
   go_enter Tryz.func90,Tryz.ntmps90
   go_wp2_with (go_at_call 101;refine (id_any _ _ hid).mono ?_;rw [Hi.out];rintro e w' ⟨rfl,rfl⟩)
   go_ret
   exact ⟨rfl,balloc jR _⟩
 | true =>
   have Hi:=jH hi;clear hi
   go_enter Tryz.func90,Tryz.ntmps90
   go_wp2_with (go_at_call 101;refine (id_any _ _ hid).mono ?_;rw [Hi.out];rintro e w' ⟨rfl,rfl⟩)
   go_ret
   exact ⟨rfl,balloc jR _⟩
theorem ref21Check_7 (hid:id.size≤maxLen) :
 Calls Tryz.prog 90 #[callV (callK 7 id tick val handle a b tg tol win hold)] w (jP w (.int .i64 (if idS id=true then 0 else 2))):=by
 unfold callV callK;simp only
 cases hi:idS id with
 | false =>
   have Hi:=jH hi;clear hi
   go_enter Tryz.func90,Tryz.ntmps90
   go_wp2_with (go_at_call 101;refine (id_any _ _ hid).mono ?_;rw [Hi.out];rintro e w' ⟨rfl,rfl⟩)
   go_ret
   exact ⟨rfl,balloc jR _⟩
 | true =>
   have Hi:=jH hi;clear hi
   go_enter Tryz.func90,Tryz.ntmps90
   go_wp2_with (go_at_call 101;refine (id_any _ _ hid).mono ?_;rw [Hi.out];rintro e w' ⟨rfl,rfl⟩)
   go_ret
   exact ⟨rfl,balloc jR _⟩
theorem ref21Check_3 :
 Calls Tryz.prog 90 #[callV (callK 3 id tick val handle a b tg tol win hold)] w (jP w (.int .i64 (0))):=by
 unfold callV callK;simp only
 go_enter Tryz.func90,Tryz.ntmps90
 go_wp2
 go_ret
 exact ⟨rfl,balloc jR _⟩
theorem ref21Check_4 :
 Calls Tryz.prog 90 #[callV (callK 4 id tick val handle a b tg tol win hold)] w (jP w (.int .i64 (0))):=by
 unfold callV callK;simp only
 go_enter Tryz.func90,Tryz.ntmps90
 go_wp2
 go_ret
 exact ⟨rfl,balloc jR _⟩
theorem ref21Check_8 :
 Calls Tryz.prog 90 #[callV (callK 8 id tick val handle a b tg tol win hold)] w (jP w (.int .i64 (0))):=by
 unfold callV callK;simp only
 go_enter Tryz.func90,Tryz.ntmps90
 go_wp2
 go_ret
 exact ⟨rfl,balloc jR _⟩
theorem ref21Check_no (k:Int) (hk:k<1∨8<k) :
 Calls Tryz.prog 90 #[callV (callK k id tick val handle a b tg tol win hold)] w (jP w (.int .i64 (14))):=by
 unfold callV callK;simp only
 by_cases h1:k<1
 · go_enter Tryz.func90,Tryz.ntmps90
   go_wp2
   go_ret
   exact ⟨rfl,balloc jR _⟩
 · have h2:8<k:=by omega
   clear hk
   go_enter Tryz.func90,Tryz.ntmps90
   go_wp2
   go_ret
   exact ⟨rfl,balloc jR _⟩
end
theorem ref21Check_any (c:CallD) (w:World) (hc:c.ok) :
 Calls Tryz.prog 90 #[callV c] w (jP w (.int .i64 (chkC c))):=by
 obtain ⟨kind,id,tick,val,handle,⟨a,b,tg,tol,win,hold⟩⟩:=c;obtain ⟨_,hid,_,_,_,_⟩:=hc;simp only at hid
 rcases chk_kinds ⟨kind,id,tick,val,handle,⟨a,b,tg,tol,win,hold⟩⟩ with h|h|h|h|h|h|h|h|h
 all_goals simp only at h
 · subst h
   have e:chkC ⟨1,id,tick,val,handle,⟨a,b,tg,tol,win,hold⟩⟩=if idS id=true then serE tick val else 2:=by
    cases hi:idS id <;> simp [chkC,hi]
   rw [e];exact ref21Check_1 id tick val handle a b tg tol win hold w hid
 · subst h
   have e:chkC ⟨2,id,tick,val,handle,⟨a,b,tg,tol,win,hold⟩⟩=if tick<0 then 3 else 0:=by simp [chkC]
   rw [e];exact ref21Check_2 id tick val handle a b tg tol win hold w
 · subst h
   exact ref21Check_3 id tick val handle a b tg tol win hold w
 · subst h
   exact ref21Check_4 id tick val handle a b tg tol win hold w
 · subst h
   have e:chkC ⟨5,id,tick,val,handle,⟨a,b,tg,tol,win,hold⟩⟩=if idS id=true then 0 else 2:=by
    cases hi:idS id <;> simp [chkC,hi]
   rw [e];exact ref21Check_5 id tick val handle a b tg tol win hold w hid
 · subst h
   have e:chkC ⟨6,id,tick,val,handle,⟨a,b,tg,tol,win,hold⟩⟩=if idS id=true then polE ⟨a,b,tg,tol,win,hold⟩ else 2:=by
    cases hi:idS id <;> cases hp:polB ⟨a,b,tg,tol,win,hold⟩ <;> simp [chkC,polE,hi,hp]
   rw [e];exact ref21Check_6 id tick val handle a b tg tol win hold w hid
 · subst h
   have e:chkC ⟨7,id,tick,val,handle,⟨a,b,tg,tol,win,hold⟩⟩=if idS id=true then 0 else 2:=by
    cases hi:idS id <;> simp [chkC,hi]
   rw [e];exact ref21Check_7 id tick val handle a b tg tol win hold w hid
 · subst h
   exact ref21Check_8 id tick val handle a b tg tol win hold w
 · have e:chkC ⟨kind,id,tick,val,handle,⟨a,b,tg,tol,win,hold⟩⟩=14:=by simp [chkC,h]
   rw [e];exact ref21Check_no id tick val handle a b tg tol win hold w kind h
end
end Go.Proofs.YtkcdhaallnhhmaaGreat
