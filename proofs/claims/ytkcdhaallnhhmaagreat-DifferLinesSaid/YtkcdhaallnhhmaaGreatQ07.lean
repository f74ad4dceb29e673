/- Part 7 of the proof: IdPack. -/
import Derived.Test.YtkcdhaallnhhmaaGreatQ02
namespace Go.Proofs.YtkcdhaallnhhmaaGreat
set_option linter.unusedSimpArgs false
set_option linter.unusedVariables false
set_option linter.unusedSectionVars false
set_option maxRecDepth 100000
set_option maxHeartbeats 16000000
section
open Go.RowKit Go.Lib
def packErr:Value:=.tuple #[.agg #[.int .u64 0,.int .u64 0],.int .i64 2]
def packV (s:ByteArray):Value:=if idS s=true then .tuple #[.agg #[.int .u64 (hiN s.data.toList),.int .u64 (loN s.data.toList)],.int .i64 0] else packErr
theorem pack_bad (s:ByteArray) (w:World) (hm:s.size≤maxLen) (hb:idS s=false) :
 Calls Tryz.prog 108 #[.string s] w fun e w'=>e=.returned packErr∧jB w w':=by
 have hc:chkV s=2:=by simp [chkV,hb]
 have Hc:=jH hc;clear hc hb
 go_enter Tryz.func108,Tryz.ntmps108
 go_wp2_with (go_at_call 78;refine (check_any _ _ hm).mono ?_;rw [Hc.out];rintro e w1 ⟨rfl,hb1⟩;obtain ⟨hc1,hf1⟩:=bcell hb1;have hz1:=hb1.size;simp at hz1)
 exact bodyPost_ret (v:=packErr) (by simp [packErr,results,Tryz.results108,go_sem,hc1,hf1]) rfl ⟨rfl,(((jR.alloc (Nat.le_refl _) _).trans (hb1.mono (by simp))).setCell (by simp) _).setCell (by simp) _⟩
theorem word_step (l:List UInt8) (a m pos:Nat) (hm:m<10) (hpos:pos % 10=m) (c:UInt8) (q:Nat) (hq:a+m=q) (hcq:dig l q=codeB c) :
 bits BinOp.or IntKind.u64 (partW l a m:Nat) (IntKind.u64.wrap (codeI (c.toNat:Int) * 2 ^ (6 * (9 - (pos:Int) % 10)).toNat))=(partW l a (m+1):Nat):=by
 have hc:dig l (a+m)=codeB c:=by rw [hq];exact hcq
 have h1:=partW_lt l a m (by omega);have h2:=partW_succ l a m hm;have h3:=partW_lt l a (m+1) (by omega);have e:(6 * (9 - (pos:Int) % 10)).toNat=6 * (9 - m):=by omega
 have hle:dig l (a+m) <<< (6 * (9 - m))≤partW l a (m+1):=by rw [←h2];exact Nat.right_le_or
 rw [Nat.shiftLeft_eq,hc] at h2 hle;rw [e,codeI_cast];have e2:((codeB c:Nat):Int) * 2 ^ (6 * (9 - m))=((codeB c * 2 ^ (6 * (9 - m)):Nat):Int):=by
  rw [Int.natCast_mul,Int.natCast_pow];rfl
 rw [e2,u64_wrap _ (by omega),u64_or_nat _ _ (by omega) (by omega),h2]
theorem pack_good (s:ByteArray) (w:World) (hm:s.size≤maxLen) (hb:idS s=true) :
 Calls Tryz.prog 108 #[.string s] w (jP w (packV s)):=by
 have hc:chkV s=0:=by simp [chkV,hb]
 have Hc:=jH hc;obtain ⟨hl1,hl2,hok⟩:=idS_okTo s hb;have hv:packV s=.tuple #[.agg #[.int .u64 (hiN s.data.toList),.int .u64 (loN s.data.toList)],.int .i64 0]:=by simp [packV,hb]
 have Hv:=jH hv;clear hc hb hv
 go_enter Tryz.func108,Tryz.ntmps108
 go_wp2_with (go_at_call 78;refine (check_any _ _ hm).mono ?_;rw [Hc.out];rintro e w1 ⟨rfl,hb1⟩;obtain ⟨hc1,hf1⟩:=bcell hb1;have hz1:=hb1.size;simp at hz1)
 go_loopw [6,7,8] (fun _ _ _ w'=>∃pos n:Nat,pos≤s.size∧w'=((w1.alloc (.cells #[.int .u64 (partW s.data.toList 0 (min pos 10):Nat),.int .u64 (partW s.data.toList 10 (pos - 10):Nat)] 130)).alloc (.stringIter s pos)).drewN n) (fun _ _ _ w'=>s.size - w'.iterPos (w1.heap.size+1))
 case atStart=>exact ⟨0,0,Nat.zero_le _,by simp [partW_zero];rfl⟩
 case round =>
  obtain ⟨pos,n,hp0,rfl⟩:=hrel
  by_cases hp:pos<s.size
  · have hbt:=hok pos hp hp
    have ha:=okB_ascii _ hbt;have hnx:∀ty,(Instr.next (.pointer (some ⟨w1.heap.size+1,0,none⟩)) true ty).run Tryz.prog (((w1.alloc (.cells #[.int .u64 (partW s.data.toList 0 (min pos 10):Nat),.int .u64 (partW s.data.toList 10 (pos - 10):Nat)] 130)).alloc (.stringIter s pos)).drewN n)=_:=fun ty=>next_ascii_n (w1.alloc _) s pos n _ ty (by simp) hp ha
    have hbd:=codeI_bd (s[pos]).toNat;have hdg:dig s.data.toList pos=codeB s[pos]:=by rw [dig_at _ _ (by simpa using hp)];rfl
    by_cases h10:pos<10
    · have hst:=word_step s.data.toList 0 pos pos h10 (by omega) s[pos] pos (by omega) hdg
      have Hst:=jH hst;clear hbt hst hdg;go_wp2
      go_region_with (go_at_call 112;refine (code_any _ _ (by omega) (by omega)).mono ?_;rintro e w' ⟨rfl,rfl⟩)
      all_goals
        go_roundw
        case rel =>
         (repeat apply Exists.intro)
         refine ⟨⟨pos+1,n+1,by omega,?_⟩,rfl⟩;rw [Nat.min_eq_left (Nat.le_of_lt h10),Hst.out,Nat.min_eq_left (show pos+1≤10 by omega),show pos - 10=pos+1 - 10 by omega]
        case measure=>rw [iterPos_n _ _ _ _ _ (by simp),iterPos_n _ _ _ _ _ (by simp)];omega
    · have hst:=word_step s.data.toList 10 (pos - 10) pos (by omega) (by omega) s[pos] pos (by omega) hdg
      have Hst:=jH hst;clear hbt hst hdg;go_wp2
      go_region_with (go_at_call 112;refine (code_any _ _ (by omega) (by omega)).mono ?_;rintro e w' ⟨rfl,rfl⟩)
      all_goals
        go_roundw
        case rel =>
         (repeat apply Exists.intro)
         refine ⟨⟨pos+1,n+1,by omega,?_⟩,rfl⟩;rw [Hst.out,show min pos 10=min (pos+1) 10 by omega,show pos - 10+1=pos+1 - 10 by omega]
        case measure=>rw [iterPos_n _ _ _ _ _ (by simp),iterPos_n _ _ _ _ _ (by simp)];omega
  · have hnx:∀ty,(Instr.next (.pointer (some ⟨w1.heap.size+1,0,none⟩)) true ty).run Tryz.prog (((w1.alloc (.cells #[.int .u64 (partW s.data.toList 0 (min pos 10):Nat),.int .u64 (partW s.data.toList 10 (pos - 10):Nat)] 130)).alloc (.stringIter s pos)).drewN n)=_:=fun ty=>next_end_n (w1.alloc _) s pos n _ ty (by simp) hp
    have hv1:partW s.data.toList 0 (min pos 10)=hiN s.data.toList:=by
     rcases Nat.lt_or_ge pos 10 with h|h
     · exact partW_all _ _ _ (by omega) (by simp;omega)
     · rw [Nat.min_eq_right h,partW_ten];rfl
    have hv2:partW s.data.toList 10 (pos - 10)=loN s.data.toList:=partW_all _ _ _ (by omega) (by simp;omega);rw [←hv1,←hv2] at Hv;clear hv1 hv2;have q1:w.heap.size<w1.heap.size:=by omega
    have q2:w.heap.size<w1.heap.size+1:=by omega
    have q3:w.heap.size≠w1.heap.size:=by omega
    have q4:w.heap.size≠w1.heap.size+1:=by omega
    have q5:w1.cell? ⟨w.heap.size,0,none⟩=some (.int .u64 0):=by rw [hc1 _ _ (by simp)];simp [go_sem]
    have q6:w1.cell? ⟨w.heap.size,1,none⟩=some (.int .u64 0):=by rw [hc1 _ _ (by simp)];simp [go_sem]
    have q7:w1.frozen? ⟨w.heap.size,0,none⟩=false:=by rw [hf1 _ _ (by simp)];simp [go_sem]
    have q8:w1.frozen? ⟨w.heap.size,1,none⟩=false:=by rw [hf1 _ _ (by simp)];simp [go_sem]
    go_wp2
    exact bodyPost_ret (v:=packV s) (by rw [Hv.out];simp [results,Tryz.results108,go_sem,q1,q5,q6,q7,q8]) rfl
      ⟨rfl,below_drewN (((((jR.alloc (Nat.le_refl _) _).trans (hb1.mono (by simp))).setCell (by simp) _).setCell (by simp) _).alloc (by simp [World.setCell];omega) _ |>.alloc (by simp [World.setCell];omega) _) n⟩
theorem pack_any (s:ByteArray) (w:World) (hm:s.size≤maxLen) :
 Calls Tryz.prog 108 #[.string s] w (jP w (packV s)):=by
 cases hb:idS s with
 | true=>exact pack_good s w hm hb
 | false =>
   have:packV s=packErr:=by simp [packV,hb]
   rw [this];exact pack_bad s w hm hb
end
end Go.Proofs.YtkcdhaallnhhmaaGreat
