/- Part 7 of the proof: DecP, IdPack, R08, RIt, R12, IKeys, StabW, Win, Win3, Win4, WinM, Stor, ShIter, Big, NumB. -/
import Derived.Maps.Range
import Derived.RangeFuncSeq
import Derived.Sort.MapsRangeIn
import Derived.Sort.LotA
import Derived.Sort.Lot0
import Derived.Shelf.SlSortCmp.QuietGrown
import Derived.Shelf.SlSortFuncK.SWK
import Derived.Deep.DeepCutAuto
import Derived.Shelf.SlIter.Nil
import Derived.Shelf.SortM.Plain
import Derived.Shelf.SortM.SortNone
import Derived.Test.YtpmfcpdelkchaaaGreatL04
import Derived.Test.YtpmfcpdelkchaaaGreatL06
namespace Go.Proofs.YtpmfcpdelkchaaaGreat
set_option linter.unusedSimpArgs false
set_option linter.unusedVariables false
set_option linter.unusedSectionVars false
set_option maxRecDepth 100000
set_option maxHeartbeats 16000000
section
open Go.RowKit Go.Lib
theorem meanN_least {l:List Int} (h:l≠[]) (m:Nat):totN l≤m * l.length ↔ meanN l≤m:=by
 have hp:0<l.length:=List.length_pos_iff.2 h;unfold meanN;rw [if_neg h]
 constructor
 · intro q
   apply Nat.le_of_lt_succ
   rw [Nat.div_lt_iff_lt_mul hp,Nat.succ_mul];omega
 · intro q
   have:=(Nat.div_lt_iff_lt_mul hp).1 (Nat.lt_succ_of_le q);rw [Nat.succ_mul] at this;omega
def nearI (p:Pol) (load now:Int):Bool :=
 polB p && (decide (1≤now∧now≤1073741824) &&
   (decide (load.toNat * 1000≤now.toNat * p.tg.toNat * 1000+now.toNat * p.tg.toNat * p.tol.toNat) &&
    decide (now.toNat * p.tg.toNat * 1000≤load.toNat * 1000+now.toNat * p.tg.toNat * p.tol.toNat)))
def wantP (p:Pol) (load:Int):Int:=if polB p=true then ceilI (max load 0) p.tg else 0
def boundI (p:Pol) (n:Int):Int:=if polB p=true then clampI n p.mn p.mx else 0
def openI (p:Pol) (load now:Int):Int:=if nearI p load now=true then now else wantP p load
def highS (a b:Int) (s:Int × Bool) (x:Adv):Int × Bool :=
 if a<x.tick∧x.tick≤b∧(s.2=false∨s.1<x.want) then (x.want,true) else s
def highI (l:List Adv) (tick hold:Int):Int × Bool:=l.foldl (highS (endsI (tick - hold)) tick) (0,false)
theorem highI_snoc (l:List Adv) (x:Adv) (a b:Int) (s:Int × Bool):(l++[x]).foldl (highS a b) s=highS a b (l.foldl (highS a b) s) x:=by simp
def steadyI (p:Pol) (tick want:Int) (past:List Adv):Int × Bool :=
 if (highI past tick p.hold).2=true∧want<(highI past tick p.hold).1 then ((highI past tick p.hold).1,true) else (want,false)
def latestI:List Smp→Int
  | []=>0
  | s::l=>l.foldl (fun b x=>max b x.1) s.1
def nowI (p:Pol) (past:List Adv):Int:=match past.getLast? with
 | none=>p.mn
 | some a=>a.repl
def whyI (p:Pol) (held:Bool) (op now til:Int):Int :=
 if held=true then 4 else if p.mx<op then 6 else if op<p.mn then 5 else if now<til then 2 else if til<now then 3 else 1
def decI (p:Pol) (l:List Smp) (past:List Adv):Adv × Int :=
 if polB p=false then (adv0,7)
 else if l=[] then (adv0,5)
 else
  let tick:=latestI l
  let load:Int:=(meanN (valsW (winC l (fromW tick p.win) tick)):Nat)
  let now:=nowI p past
  let op:=openI p load now
  let want:=boundI p op
  let st:=steadyI p tick want past
  let til:=boundI p st.1
  (⟨tick,load,want,til,whyI p st.2 op now til⟩,0)
theorem statW_mean (l:List Smp) (til wd:Int):(statW l til wd).mean=(meanN (valsW (winC l (fromW til wd) til)):Nat):=by
 unfold statW statN
 split
 · rename_i h;rw [h];rfl
 · rfl
end
section
open Go.RowKit Go.Lib
def packErr:Value:=.tuple #[.agg #[.int .u64 0,.int .u64 0],.int .i64 2]
def packV (s:ByteArray):Value:=if idS s=true then .tuple #[.agg #[.int .u64 (hiN s.data.toList),.int .u64 (loN s.data.toList)],.int .i64 0] else packErr
theorem pack_bad (s:ByteArray) (w:World) (hm:s.size≤maxLen) (hb:idS s=false) :
 Calls Tryz.prog 120 #[.string s] w fun e w'=>e=.returned packErr∧jB w w':=by
 have hc:chkV s=2:=by simp [chkV,hb]
 have Hc:=jH hc;clear hc hb
 go_enter Tryz.func120,Tryz.ntmps120
 go_wp2_with (go_at_call 108;refine (check_any _ _ hm).mono ?_;rw [Hc.out];rintro e w1 ⟨rfl,hb1⟩;obtain ⟨hc1,hf1⟩:=bcell hb1;have hz1:=hb1.size;simp at hz1)
 exact bodyPost_ret (v:=packErr) (by simp [packErr,results,Tryz.results120,go_sem,hc1,hf1]) rfl ⟨rfl,(((jR.alloc (Nat.le_refl _) _).trans (hb1.mono (by simp))).setCell (by simp) _).setCell (by simp) _⟩
theorem word_step (l:List UInt8) (a m pos:Nat) (hm:m<10) (hpos:pos % 10=m) (c:UInt8) (q:Nat) (hq:a+m=q) (hcq:dig l q=codeB c) :
 bits BinOp.or IntKind.u64 (partW l a m:Nat) (IntKind.u64.wrap (codeI (c.toNat:Int) * 2 ^ (6 * (9 - (pos:Int) % 10)).toNat))=(partW l a (m+1):Nat):=by
 have hc:dig l (a+m)=codeB c:=by rw [hq];exact hcq
 have h1:=partW_lt l a m (by omega);have h2:=partW_succ l a m hm;have h3:=partW_lt l a (m+1) (by omega);have e:(6 * (9 - (pos:Int) % 10)).toNat=6 * (9 - m):=by omega
 have hle:dig l (a+m) <<< (6 * (9 - m))≤partW l a (m+1):=by rw [←h2];exact Nat.right_le_or
 rw [Nat.shiftLeft_eq,hc] at h2 hle;rw [e,codeI_cast];have e2:((codeB c:Nat):Int) * 2 ^ (6 * (9 - m))=((codeB c * 2 ^ (6 * (9 - m)):Nat):Int):=by
  rw [Int.natCast_mul,Int.natCast_pow];rfl
 rw [e2,u64_wrap _ (by omega),u64_or_nat _ _ (by omega) (by omega),h2]
theorem pack_good (s:ByteArray) (w:World) (hm:s.size≤maxLen) (hb:idS s=true) :
 Calls Tryz.prog 120 #[.string s] w (jP w (packV s)):=by
 have hc:chkV s=0:=by simp [chkV,hb]
 have Hc:=jH hc;obtain ⟨hl1,hl2,hok⟩:=idS_okTo s hb;have hv:packV s=.tuple #[.agg #[.int .u64 (hiN s.data.toList),.int .u64 (loN s.data.toList)],.int .i64 0]:=by simp [packV,hb]
 have Hv:=jH hv;clear hc hb hv
 go_enter Tryz.func120,Tryz.ntmps120
 go_wp2_with (go_at_call 108;refine (check_any _ _ hm).mono ?_;rw [Hc.out];rintro e w1 ⟨rfl,hb1⟩;obtain ⟨hc1,hf1⟩:=bcell hb1;have hz1:=hb1.size;simp at hz1)
 go_loopw [6,7,8] (fun _ _ _ w'=>∃pos n:Nat,pos≤s.size∧w'=((w1.alloc (.cells #[.int .u64 (partW s.data.toList 0 (min pos 10):Nat),.int .u64 (partW s.data.toList 10 (pos - 10):Nat)] 95)).alloc (.stringIter s pos)).drewN n) (fun _ _ _ w'=>s.size - w'.iterPos (w1.heap.size+1))
 case atStart=>exact ⟨0,0,Nat.zero_le _,by simp [partW_zero];rfl⟩
 case round =>
  obtain ⟨pos,n,hp0,rfl⟩:=hrel
  by_cases hp:pos<s.size
  · have hbt:=hok pos hp hp
    have ha:=okB_ascii _ hbt;have hnx:∀ty,(Instr.next (.pointer (some ⟨w1.heap.size+1,0,none⟩)) true ty).run Tryz.prog (((w1.alloc (.cells #[.int .u64 (partW s.data.toList 0 (min pos 10):Nat),.int .u64 (partW s.data.toList 10 (pos - 10):Nat)] 95)).alloc (.stringIter s pos)).drewN n)=_:=fun ty=>next_ascii_n (w1.alloc _) s pos n _ ty (by simp) hp ha
    have hbd:=codeI_bd (s[pos]).toNat;have hdg:dig s.data.toList pos=codeB s[pos]:=by rw [dig_at _ _ (by simpa using hp)];rfl
    by_cases h10:pos<10
    · have hst:=word_step s.data.toList 0 pos pos h10 (by omega) s[pos] pos (by omega) hdg
      have Hst:=jH hst;clear hbt hst hdg;go_wp2
      go_region_with (go_at_call 155;refine (code_any _ _ (by omega) (by omega)).mono ?_;rintro e w' ⟨rfl,rfl⟩)
      all_goals
        go_roundw
        case rel =>
         (repeat apply Exists.intro)
         refine ⟨⟨pos+1,n+1,by omega,?_⟩,rfl⟩;rw [Nat.min_eq_left (Nat.le_of_lt h10),Hst.out,Nat.min_eq_left (show pos+1≤10 by omega),show pos - 10=pos+1 - 10 by omega]
        case measure=>rw [iterPos_n _ _ _ _ _ (by simp),iterPos_n _ _ _ _ _ (by simp)];omega
    · have hst:=word_step s.data.toList 10 (pos - 10) pos (by omega) (by omega) s[pos] pos (by omega) hdg
      have Hst:=jH hst;clear hbt hst hdg;go_wp2
      go_region_with (go_at_call 155;refine (code_any _ _ (by omega) (by omega)).mono ?_;rintro e w' ⟨rfl,rfl⟩)
      all_goals
        go_roundw
        case rel =>
         (repeat apply Exists.intro)
         refine ⟨⟨pos+1,n+1,by omega,?_⟩,rfl⟩;rw [Hst.out,show min pos 10=min (pos+1) 10 by omega,show pos - 10+1=pos+1 - 10 by omega]
        case measure=>rw [iterPos_n _ _ _ _ _ (by simp),iterPos_n _ _ _ _ _ (by simp)];omega
  · have hnx:∀ty,(Instr.next (.pointer (some ⟨w1.heap.size+1,0,none⟩)) true ty).run Tryz.prog (((w1.alloc (.cells #[.int .u64 (partW s.data.toList 0 (min pos 10):Nat),.int .u64 (partW s.data.toList 10 (pos - 10):Nat)] 95)).alloc (.stringIter s pos)).drewN n)=_:=fun ty=>next_end_n (w1.alloc _) s pos n _ ty (by simp) hp
    have hv1:partW s.data.toList 0 (min pos 10)=hiN s.data.toList:=by
     rcases Nat.lt_or_ge pos 10 with h|h
     · exact partW_all _ _ _ (by omega) (by simp;omega)
     · rw [Nat.min_eq_right h,partW_ten];rfl
    have hv2:partW s.data.toList 10 (pos - 10)=loN s.data.toList:=partW_all _ _ _ (by omega) (by simp;omega);rw [←hv1,←hv2] at Hv;clear hv1 hv2;have q1:w.heap.size<w1.heap.size:=by omega
    have q2:w.heap.size<w1.heap.size+1:=by omega
    have q3:w.heap.size≠w1.heap.size:=by omega
    have q4:w.heap.size≠w1.heap.size+1:=by omega
    have q5:w1.cell? ⟨w.heap.size,0,none⟩=some (.int .u64 0):=by rw [hc1 _ _ (by simp)];simp [go_sem]
    have q6:w1.cell? ⟨w.heap.size,1,none⟩=some (.int .u64 0):=by rw [hc1 _ _ (by simp)];simp [go_sem]
    have q7:w1.frozen? ⟨w.heap.size,0,none⟩=false:=by rw [hf1 _ _ (by simp)];simp [go_sem]
    have q8:w1.frozen? ⟨w.heap.size,1,none⟩=false:=by rw [hf1 _ _ (by simp)];simp [go_sem]
    go_wp2
    exact bodyPost_ret (v:=packV s) (by rw [Hv.out];simp [results,Tryz.results120,go_sem,q1,q5,q6,q7,q8]) rfl
      ⟨rfl,below_drewN (((((jR.alloc (Nat.le_refl _) _).trans (hb1.mono (by simp))).setCell (by simp) _).setCell (by simp) _).alloc (by simp [World.setCell];omega) _ |>.alloc (by simp [World.setCell];omega) _) n⟩
theorem pack_any (s:ByteArray) (w:World) (hm:s.size≤maxLen) :
 Calls Tryz.prog 120 #[.string s] w (jP w (packV s)):=by
 cases hb:idS s with
 | true=>exact pack_good s w hm hb
 | false =>
   have:packV s=packErr:=by simp [packV,hb]
   rw [this];exact pack_bad s w hm hb
end
section
open Go.RowKit Go.Lib Go.Sort
def RowG {α:Type} (P:Nat→Prop) (n:Nat) (f:α→List Value) (w:World) (v:Value) (l:List α):Prop :=
 RowIn n f w v l∧∀b o m c,v=.slice (some ⟨b,o,none⟩) m c→0<l.length→P b
theorem RowG.below {α:Type} {P:Nat→Prop} {n:Nat} {f:α→List Value} {w w':World} {v:Value} {l:List α} (h:RowG P n f w v l) (hb:jB w w'):RowG P n f w' v l:=⟨h.1.below hb,h.2⟩
theorem RowG.imp {α:Type} {P Q:Nat→Prop} {n:Nat} {f:α→List Value} {w:World} {v:Value} {l:List α} (h:RowG P n f w v l) (hi:∀b,P b→Q b):RowG Q n f w v l:=⟨h.1,fun b o m c e hn=>hi b (h.2 b o m c e hn)⟩
theorem RowG.nil {α:Type} {P:Nat→Prop} {n:Nat} {f:α→List Value} {w:World} {A:Option Addr} {c:Nat}:RowG P n f w (.slice A 0 c) ([]:List α):=⟨RowIn.nil,fun _ _ _ _ _ h=>absurd h (Nat.lt_irrefl _)⟩
def RSays {α:Type} (n:Nat) (f:α→List Value) (w:World) (l:List α) (e:Ending) (w':World):Prop :=
 ∃A c,e=.returned (.slice A l.length c)∧RowG (fun b=>w.heap.size≤b) n f w' (.slice A l.length c) l∧jB w w'
theorem RowG.own {α:Type} {t e:TypeId} {n bytes:Nat} {z:Value} {f:α→List Value} (E:EltOf t e n bytes z f) {base:Nat} {w:World} {v:Value} {l:List α} (h:OwnL f e n base w v l):RowG (fun b=>base≤b) n f w v l:=by
 refine ⟨h.row E,fun b o m c e hn=>?_⟩
 rcases h.2 with ⟨_,h0⟩|⟨g,cap,cur,hv',hg,_⟩
 · omega
 · rw [e] at hv'
   injection hv' with e1 _ _
   injection e1 with e1
   injection e1 with e1
   omega
theorem RowG.part {α:Type} {P:Nat→Prop} {n:Nat} {f:α→List Value} {w:World} {A A2:Option Addr} {m c c2:Nat} {l l2:List α} (h:RowG P n f w (.slice A m c) l) (hA:0<l.length→∀b o,A2=some ⟨b,o,none⟩→∃o',A=some ⟨b,o',none⟩) (hl:l2.length≤l.length) (h2:RowIn n f w (.slice A2 l2.length c2) l2):RowG P n f w (.slice A2 l2.length c2) l2:=by
 refine ⟨h2,fun b o m' c' e hn=>?_⟩;injection e with e1 _ _
 obtain ⟨o',ho⟩:=hA (by omega) b o e1;exact h.2 b o' m c (by rw [ho]) (by omega)
theorem row_from2 {α:Type} {t e:TypeId} {n bytes:Nat} {z:Value} {f:α→List Value} (E:EltOf t e n bytes z f) {w:World} {A:Option Addr} {c:Nat} {l:List α} (h:RowIn n f w (.slice A l.length c) l) (a:Nat) (ha:a≤l.length) :
 ∃(m:List α) (A2:Option Addr) (c2:Nat),m=l.drop a∧(0<l.length→∀b o,A2=some ⟨b,o,none⟩→∃o',A=some ⟨b,o',none⟩)∧(∀w':World,(Instr.sliceAt t (.slice A l.length c) (some (.int .i64 a)) none none).run Tryz.prog w'=.ok (.slice A2 m.length c2) w')∧RowIn n f w (.slice A2 m.length c2) m:=by
 obtain ⟨i0,hi0,hz0,hz1,hz2⟩:=info_parts E.hi;have hp:=RowIn.part h (i:=a) (j:=l.length) ha (Nat.le_refl _);rw [List.take_length] at hp;have hlen:(l.drop a).length=l.length - a:=by simp
 have hel:Tryz.prog.elem t=e:=by simp [Program.elem,E.ht]
 refine ⟨l.drop a,_,_,rfl,?_,fun w'=>?_,by rw [hlen];exact hp⟩
 · intro hn b o hb
   obtain ⟨A1,c1,hv,_,hr⟩:=h;injection hv with e1 _ _
   subst e1;obtain ⟨b1,o1,rfl,_⟩:=hr hn
   split at hb
   · exact ⟨o,hb⟩
   · rw [Option.map_some,add_at] at hb
     injection hb with hb
     injection hb with hb
     exact ⟨o1,by rw [hb]⟩
 rw [run_sliceAt_slice _ t _ _ _ _ (by rw [hel];exact E.ht),run_slice_l _ t A l.length c (by rw [hel];exact E.ht) _ _ (by omega) (by omega),hel];simp [sizeOf,typeInfo,hi0,hz1,Result.andThen,sliced,hlen]
theorem r8right_any (t v:Int) (w:World) :
 Calls Tryz.prog 143 #[.int .i64 t,.int .i64 v] w fun e w'=>e=.returned (.int .i64 (serE t v))∧w'=w:=by
 unfold serE
 by_cases h1:t<0
 · rw [if_pos h1]
   go_enter Tryz.func143,Tryz.ntmps143
   go_wp2
   go_ret
   exact ⟨rfl,rfl⟩
 · rw [if_neg h1]
   by_cases h2:v<0
   · rw [if_pos h2]
     go_enter Tryz.func143,Tryz.ntmps143
     go_wp2
     go_ret
     exact ⟨rfl,rfl⟩
   · rw [if_neg h2]
     go_enter Tryz.func143,Tryz.ntmps143
     go_wp2
     go_ret
     exact ⟨rfl,rfl⟩
theorem r14put_any (v:Value) (l:List Adv) (room:Nat) (x:Adv) (w:World) (hv:RowIn 5 advC w v l) (hl:l.length≤room) (h1:1≤room) (hr:room≤1000000) :
 Calls Tryz.prog 247 #[v,.int .i64 (room:Nat),.agg (advC x).toArray] w (RSays 5 advC w (pushL l room x)):=by
 obtain ⟨A,c,rfl⟩:=hv.form;have HV:=jH hv;clear hv;rw [show (advC x).toArray=#[.int .i64 x.tick,.int .i64 x.load,.int .i64 x.want,.int .i64 x.repl,.int .i64 x.why] from rfl]
 go_enter Tryz.func247,Tryz.ntmps247
 go_wp2_with (first
  | (at_builtin;refine wpList_appendL eAdv (by rfl) (by rfl) w.heap.size [] l (.slice (some ⟨w.heap.size+1,0,none⟩) 0 0) _ (by rfl) (by rfl) (OwnL.lit0 _ _ _ _ (by simp) (by simp)) (HV.out.below (balloc (balloc jR _) _)) (by simp;omega) (by simp;omega) ?_;intro out2 A2 c2 w2 hout2 hown2 hg2 _
     have hb2:jB w w2:=(balloc (balloc jR _) _).grown hg2 (by simp;omega) (fun r hr=>by have hr':some (w.heap.size+1)=some r:=hr;injection hr';omega);have hx2:w2.heap[w.heap.size]?=some (.cells #[.int .i64 x.tick,.int .i64 x.load,.int .i64 x.want,.int .i64 x.repl,.int .i64 x.why] 74 (0,0)):=(hg2.block w.heap.size (by simp;omega) (fun e=>absurd e (by simp [Value.ownBlock]))).trans ((Below.heap_alloc _ _ _ (by simp)).trans (heap_alloc_new _ _))
     obtain ⟨a1,a2,a3⟩:=box_cells jR hx2;have HW2:=jH hown2;have HO2:=jH hout2;have HB2:=jH hb2;clear hown2 hout2 hg2 hb2 hx2)
  | (at_builtin;refine wpList_appendL eAdv (by rfl) (by rfl) w.heap.size out2 [x] _ _ (by rfl) (by rfl) (HW2.out.below (balloc jR _)) (RowIn.lit w2 x _ _ _ rfl rfl) (by simp [HO2.out];omega) (by have:=HB2.out.size;simp;omega) ?_;intro out3 A3 c3 w3 hout3 hown3 hg3 _
     have hb3:jB w w3:=(balloc HB2.out _).trans (grown_own hg3 HW2.out (by have:=HB2.out.size;simp;omega));have hl3:(out3.length:Int)=(l.length:Int)+1:=by rw [hout3,HO2.out];simp
     obtain ⟨m,A4,c4,hm,hA,hrun,hrow⟩:=row_from2 eAdv (hown3.row eAdv) 1 (by rw [hout3];simp);simp only [show ((1:Nat):Int)=1 from rfl] at hrun
     have HA:=jH hA;have HW3:=jH hown3;have HO3:=jH hout3;have HB3:=jH hb3;have HM:=jH hm;have HR:=jH hrow;clear hown3 hout3 hg3 hb3 hm hrow hA))
 · go_ret
   have e:m=pushL l room x:=by rw [HM.out,HO3.out,HO2.out];unfold pushL;rw [if_neg (by omega)];cases l with
    | nil=>simp at *;omega
    | cons a l=>simp
   have hrow:=HR.out;have hg3:=RowG.own eAdv HW3.out;rw [←e];exact ⟨_,_,rfl,RowG.part hg3 HA.out (by rw [HM.out];simp) hrow,HB3.out⟩
 · go_ret
   have e:out3=pushL l room x:=by rw [HO3.out,HO2.out];unfold pushL;rw [if_pos (by omega)];simp
   rw [←e];exact ⟨_,_,rfl,RowG.own eAdv HW3.out,HB3.out⟩
def SortedAt (l:List Smp) (t:Int) (p:Nat):Prop:=p≤l.length∧(∀i (h:i<l.length),i<p ↔ l[i].1<t)
theorem r8trim_any (v:Value) (l:List Smp) (t:Int) (w:World) (hv:RowIn 2 smpC w v l) (hs:SortedAt l t (placeS l t)) (hl:l.length≤1000000) :
 Calls Tryz.prog 246 #[v,.int .i64 t] w (RSays 2 smpC w (l.drop (placeS l t))):=by
 obtain ⟨A,c,rfl⟩:=hv.form;have HV:=jH hv;have HS:=jH hs;clear hv hs;generalize placeS l t=p at HS ⊢
 go_enter Tryz.func246,Tryz.ntmps246
 go_wp2
 go_loopg [5,6] l.length (fun g s5 s6 wr=>∃k:Nat,k≤l.length∧l.length - k≤g∧s6=.int .i64 k∧OwnL smpC 138 2 w.heap.size wr s5 ((l.take k).drop p)∧jB w wr)
 case atStart=>exact ⟨0,Nat.zero_le _,Nat.le_refl _,rfl,by rw [List.take_zero,List.drop_nil];exact OwnL.nil _ _,jR⟩
 case round =>
  obtain ⟨k,hk,hg,rfl,hown,hb⟩:=hrel;obtain ⟨A5,c5,rfl⟩:=hown.form;have HO:=jH hown;clear hown
  by_cases hlt:k<l.length
  · obtain ⟨b,o,rfl,hbw,hc⟩:=HV.out.at_ hlt
    have c1:wr.cell? ⟨b,o+k * 2,none⟩=some (.int .i64 l[k].1):=(hb.cell (p:=⟨b,_,none⟩) hbw).trans (hc 0 _ rfl);have c2:wr.cell? ⟨b,o+k * 2+1,none⟩=some (.int .i64 l[k].2):=(hb.cell (p:=⟨b,_,none⟩) hbw).trans (hc 1 _ rfl);have hsp:=HS.out.2 k hlt;have hnext:p≤k→(l.take (k+1)).drop p=(l.take k).drop p++[l[k]]:=fun hp=>by
     rw [List.take_succ_eq_append_getElem hlt,List.drop_append_of_le_length (by simp;omega)]
    have hsame:k<p→(l.take (k+1)).drop p=(l.take k).drop p:=fun hp=>by
     rw [List.drop_eq_nil_of_le (by simp;omega),List.drop_eq_nil_of_le (by simp;omega)]
    have HN:=jH hnext;have HM:=jH hsame;clear hc hnext hsame;generalize l[k]=x at c1 c2 hsp HN
    by_cases hp:k<p
    · have hlt2:x.1<t:=hsp.1 hp
      clear hsp;go_wp2
      go_roundg (l.length - (k+1))
      case measure=>omega
      case rel=>exact ⟨k+1,hlt,Nat.le_refl _,by go_num,by rw [HM.out hp];exact HO.out,hb⟩
    · have hge:t≤x.1:=by have:=mt hsp.2 hp;omega
      clear hsp
      go_wp2_with (at_builtin;refine wpList_appendL eSmp (by rfl) (by rfl) w.heap.size ((l.take k).drop p) [x] _ _ (by rfl) (by rfl) (HO.out.below (balloc jR _)) (RowIn.lit wr x _ _ _ rfl rfl) (by simp;omega) (by have:=hb.size;simp;omega) ?_;intro out2 A2 c2' w2 hout2 hown2 hg2 _
                   have hb2:jB w w2:=(balloc hb _).trans (grown_own hg2 HO.out (by have:=hb.size;simp;omega));have HW2:=jH hown2;have HO2:=jH hout2;clear hown2 hout2 hg2)
      go_roundg (l.length - (k+1))
      case measure=>omega
      case rel=>exact ⟨k+1,hlt,Nat.le_refl _,by go_num,by rw [HN.out (by omega),←HO2.out];exact HW2.out,hb2⟩
  · obtain rfl:k=l.length:=by omega
    rw [List.take_length] at HO;go_wp2
    go_ret
    have hlen:(l.drop p).length=(List.drop p (List.take l.length l)).length:=by rw [List.take_length]
    rw [List.take_length];exact ⟨_,_,rfl,RowG.own eSmp HO.out,hb⟩
end
section
open Go.RowKit Go.Lib Go.Sort
structure It where
 key:Ky
 sA:Option Addr
 sc:Nat
 pA:Option Addr
 pc:Nat
 nd:Nd
def loadC (x:It):List Value:=[.slice x.sA x.nd.smp.length x.sc,.slice x.pA x.nd.past.length x.pc,.int .i64 x.nd.pol.mn,.int .i64 x.nd.pol.mx,.int .i64 x.nd.pol.tg,.int .i64 x.nd.pol.tol,.int .i64 x.nd.pol.win,.int .i64 x.nd.pol.hold,.bool x.nd.ruled,.int .i64 (x.nd.ver:Nat)]
def itC (x:It):List Value:=[.int .u64 x.key.1,.int .u64 x.key.2,.slice x.sA x.nd.smp.length x.sc,.slice x.pA x.nd.past.length x.pc,.int .i64 x.nd.pol.mn,.int .i64 x.nd.pol.mx,.int .i64 x.nd.pol.tg,.int .i64 x.nd.pol.tol,.int .i64 x.nd.pol.win,.int .i64 x.nd.pol.hold,.bool x.nd.ruled,.int .i64 (x.nd.ver:Nat)]
theorem eIt:EltOf 203 273 12 128 (.agg #[.int .u64 0,.int .u64 0,.slice none 0 0,.slice none 0 0,.int .i64 0,.int .i64 0,.int .i64 0,.int .i64 0,.int .i64 0,.int .i64 0,.bool false,.int .i64 0]) itC :=
 ⟨by kernel_rfl,by kernel_rfl,rfl,by decide,by decide,fun _=>rfl,fun x u hu=>by
  simp only [itC,List.mem_cons,List.not_mem_nil,or_false] at hu
  rcases hu with rfl|rfl|rfl|rfl|rfl|rfl|rfl|rfl|rfl|rfl|rfl|rfl <;> rfl⟩
def LoadIn (P:Nat→Prop) (w:World) (x:It):Prop:=RowG P 2 smpC w (.slice x.sA x.nd.smp.length x.sc) x.nd.smp∧RowG P 5 advC w (.slice x.pA x.nd.past.length x.pc) x.nd.past
theorem LoadIn.below {P:Nat→Prop} {w w':World} {x:It} (h:LoadIn P w x) (hb:jB w w'):LoadIn P w' x:=⟨h.1.below hb,h.2.below hb⟩
theorem LoadIn.imp {P Q:Nat→Prop} {w:World} {x:It} (h:LoadIn P w x) (hi:∀b,P b→Q b):LoadIn Q w x:=⟨h.1.imp hi,h.2.imp hi⟩
def ItemsIn (P:Nat→Prop) (w:World) (v:Value) (l:List It):Prop:=RowG P 12 itC w v l∧∀x∈l,LoadIn P w x
theorem ItemsIn.imp {P Q:Nat→Prop} {w:World} {v:Value} {l:List It} (h:ItemsIn P w v l) (hi:∀b,P b→Q b):ItemsIn Q w v l:=⟨h.1.imp hi,fun x hx=>(h.2 x hx).imp hi⟩
theorem ItemsIn.below {P:Nat→Prop} {w w':World} {v:Value} {l:List It} (h:ItemsIn P w v l) (hb:jB w w'):ItemsIn P w' v l:=⟨h.1.below hb,fun x hx=>(h.2 x hx).below hb⟩
def atI (l:List It) (k:Ky):Nat:=(l.takeWhile (fun x=>ltK x.key k)).length
theorem atI_le (l:List It) (k:Ky):atI l k≤l.length:=by
 unfold atI;exact (List.takeWhile_prefix _).length_le
theorem atI_lt {l:List It} {k:Ky}:∀{i:Nat} (h:i<l.length),i<atI l k→ltK l[i].key k=true:=by
 induction l with
 | nil=>intro i h;simp at h
 | cons a l ih =>
   intro i h hi
   by_cases ha:ltK a.key k=true
   · have e:atI (a::l) k=atI l k+1:=by simp [atI,ha]
     rw [e] at hi
     cases i with
     | zero=>exact ha
     | succ i=>simpa using ih (by simpa using h) (by omega)
   · have e:atI (a::l) k=0:=by simp [atI,ha]
     omega
theorem atI_ge {l:List It} {k:Ky} (h:atI l k<l.length):ltK l[atI l k].key k=false:=by
 induction l with
 | nil=>simp at h
 | cons a l ih =>
   by_cases ha:ltK a.key k=true
   · have e:atI (a::l) k=atI l k+1:=by simp [atI,ha]
     simp only [e] at h ⊢
     simp only [List.getElem_cons_succ]
     exact ih (by simpa using h)
   · have e:atI (a::l) k=0:=by simp [atI,ha]
     simp only [e,List.getElem_cons_zero]
     simpa using ha
theorem iat_any (v:Value) (l:List It) (k:Ky) (w:World) (hv:RowIn 12 itC w v l) (hl:l.length≤1000000) (hok:∀x∈l,x.key.ok) (hk:k.ok) :
 Calls Tryz.prog 248 #[v,.agg #[.int .u64 k.1,.int .u64 k.2]] w (jP w (.int .i64 (atI l k:Nat))):=by
 obtain ⟨A,c,rfl⟩:=hv.form;have HV:=jH hv;have HK:=jH hok;clear hv hok
 go_enter Tryz.func248,Tryz.ntmps248
 go_wp2_with fail
 refine name_world ?_;intro W hW;obtain ⟨k0,k1,hs,hb⟩:=box_one w k W hW;clear hW;go_wp2
 go_loopg [5] l.length (fun g s5 wr=>∃a:Nat,a≤atI l k∧l.length - a≤g∧s5=.int .i64 a∧jB W wr)
 case atStart=>exact ⟨0,Nat.zero_le _,Nat.le_refl _,rfl,jR⟩
 case round =>
  obtain ⟨a,ha,hga,rfl,hbi⟩:=hrel
  by_cases hal:a<l.length
  · obtain ⟨b,o,rfl,hbw,hc⟩:=HV.out.at_ hal
    have c1:w.cell? ⟨b,o+a * 12,none⟩=some (.int .u64 l[a].key.1):=hc 0 _ rfl;have c2:w.cell? ⟨b,o+a * 12+1,none⟩=some (.int .u64 l[a].key.2):=hc 1 _ rfl;have hyok:l[a].key.ok:=HK.out _ (List.getElem_mem hal);have hless:ltK l[a].key k=decide (a<atI l k):=by
     by_cases h:a<atI l k
     · rw [atI_lt hal h];simp [h]
     · have e:a=atI l k:=by omega
       subst e;rw [atI_ge hal];simp
    have HL:=jH hless;generalize l[a].key=y at c1 c2 hyok hless HL;have HSB:=jH (show ∀U,jB W U→(U.cell? ⟨w.heap.size,0,none⟩=some (.int .u64 k.1)∧U.cell? ⟨w.heap.size,1,none⟩=some (.int .u64 k.2)∧U.cell? ⟨b,o+a * 12,none⟩=some (.int .u64 y.1)∧U.cell? ⟨b,o+a * 12+1,none⟩=some (.int .u64 y.2)∧jB W U) from fun U hU =>
     ⟨(hU.cell (p:=⟨w.heap.size,0,none⟩) (by simp;omega)).trans k0,(hU.cell (p:=⟨w.heap.size,1,none⟩) (by simp;omega)).trans k1,((bthen hb hU).cell (p:=⟨b,_,none⟩) hbw).trans c1,((bthen hb hU).cell (p:=⟨b,_,none⟩) hbw).trans c2,hU⟩)
    have HS0:=HSB.out _ hbi.drew;clear hc c1 c2 hless k0 k1
    by_cases hlt:a<atI l k
    · have Hly:Hid (ltK y k=true):=jH (by rw [HL.out];simp [hlt])
      clear HL;go_wp2_with fail
      go_region_held3 (fun w'=>w'.cell? ⟨w.heap.size,0,none⟩=some (.int .u64 k.1)∧w'.cell? ⟨w.heap.size,1,none⟩=some (.int .u64 k.2)∧w'.cell? ⟨b,o+a * 12,none⟩=some (.int .u64 y.1)∧w'.cell? ⟨b,o+a * 12+1,none⟩=some (.int .u64 y.2)∧jB W w')
        (first|assumption|exact keepS HSB.out (by assumption) hb1 rfl)
        (first|(go_at_call 274;refine (less_any y k _ hyok hk).mono ?_;rw [Hly.out];rintro e w1 ⟨rfl,hb1⟩))
      obtain ⟨_,_,_,_,r5⟩:=‹w1.cell? _=_∧_›;go_wp2
      go_roundg (l.length - (a+1))
      case measure=>omega
      case rel=>exact ⟨a+1,hlt,Nat.le_refl _,by go_num,r5⟩
    · have Hly:Hid (ltK y k=false):=jH (by rw [HL.out];simp [hlt])
      clear HL;go_wp2_with fail
      go_region_held3 (fun w'=>w'.cell? ⟨w.heap.size,0,none⟩=some (.int .u64 k.1)∧w'.cell? ⟨w.heap.size,1,none⟩=some (.int .u64 k.2)∧w'.cell? ⟨b,o+a * 12,none⟩=some (.int .u64 y.1)∧w'.cell? ⟨b,o+a * 12+1,none⟩=some (.int .u64 y.2)∧jB W w')
        (first|assumption|exact keepS HSB.out (by assumption) hb1 rfl)
        (first|(go_at_call 274;refine (less_any y k _ hyok hk).mono ?_;rw [Hly.out];rintro e w1 ⟨rfl,hb1⟩))
      obtain ⟨_,_,_,_,r5⟩:=‹w1.cell? _=_∧_›;go_wp2
      go_ret
      exact ⟨by first|rfl|(rw [show a=atI l k by omega];rfl),bthen hb r5⟩
  · have hle:=atI_le l k
    obtain rfl:a=l.length:=by omega
    have E:=jH (show atI l k=l.length by omega);clear ha hle;go_wp2_with fail
    go_quiet (fail)
    go_wp2
    go_ret
    exact ⟨by rw [E.out];rfl,bthen hb (below_drewN hbi _)⟩
end
section
open Go.RowKit Go.Lib
theorem r12right_any (p:Pol) (w:World) :
 Calls Tryz.prog 144 #[polV p] w (jP w (.bool (polB p))):=by
 unfold polV
 by_cases h0:p.mn<0
 · have HB:Hid (polB p=false):=jH (by simp [polB];omega)
   rw [HB.out]
   go_enter Tryz.func144,Tryz.ntmps144
   go_wp2
   go_ret
   exact ⟨rfl,balloc jR _⟩
 · have h0':¬p.mn<0:=h0
   by_cases h1:p.mx<1
   · have HB:Hid (polB p=false):=jH (by simp [polB];omega)
     rw [HB.out]
     go_enter Tryz.func144,Tryz.ntmps144
     go_wp2
     go_ret
     exact ⟨rfl,balloc jR _⟩
   · have h1':¬p.mx<1:=h1
     by_cases h2:1073741824<p.mx
     · have HB:Hid (polB p=false):=jH (by simp [polB];omega)
       rw [HB.out]
       go_enter Tryz.func144,Tryz.ntmps144
       go_wp2
       go_ret
       exact ⟨rfl,balloc jR _⟩
     · have h2':¬1073741824<p.mx:=h2
       by_cases h3:p.mx<p.mn
       · have HB:Hid (polB p=false):=jH (by simp [polB];omega)
         rw [HB.out]
         go_enter Tryz.func144,Tryz.ntmps144
         go_wp2
         go_ret
         exact ⟨rfl,balloc jR _⟩
       · have h3':¬p.mx<p.mn:=h3
         by_cases h4:1≤p.tg
         case neg =>
          have HB:Hid (polB p=false):=jH (by simp [polB];omega);rw [HB.out]
          go_enter Tryz.func144,Tryz.ntmps144
          go_wp2
          go_ret
          exact ⟨rfl,balloc jR _⟩
         by_cases h5:0≤p.tol
         case neg =>
          have HB:Hid (polB p=false):=jH (by simp [polB];omega);rw [HB.out]
          go_enter Tryz.func144,Tryz.ntmps144
          go_wp2
          go_ret
          exact ⟨rfl,balloc jR _⟩
         by_cases h6:p.tol≤999
         case neg =>
          have HB:Hid (polB p=false):=jH (by simp [polB];omega);rw [HB.out]
          go_enter Tryz.func144,Tryz.ntmps144
          go_wp2
          go_ret
          exact ⟨rfl,balloc jR _⟩
         by_cases h7:1≤p.win
         case neg =>
          have HB:Hid (polB p=false):=jH (by simp [polB];omega);rw [HB.out]
          go_enter Tryz.func144,Tryz.ntmps144
          go_wp2
          go_ret
          exact ⟨rfl,balloc jR _⟩
         by_cases h8:0≤p.hold
         case neg =>
          have HB:Hid (polB p=false):=jH (by simp [polB];omega);rw [HB.out]
          go_enter Tryz.func144,Tryz.ntmps144
          go_wp2
          go_ret
          exact ⟨rfl,balloc jR _⟩
         have HB:Hid (polB p=true):=jH (by simp [polB];omega);rw [HB.out]
         go_enter Tryz.func144,Tryz.ntmps144
         go_wp2
         go_ret
         exact ⟨rfl,balloc jR _⟩
end
section
open Go.RowKit Go.Lib Go.Shelf
attribute [local go_sem] Oper.semAt_some
section
variable {F:Fence} {nF:Nat} {P:Program} {ops:Array Oper} {rest:List Oper} {o:Oper} {a:Act} {w:World} {Q:Exit→Act→World→Prop}
variable {α β:Type} [DecidableEq α] {K:α→Value} {V:β→Value} {b r:Nat} {es pre:List (α × β)} {cnt:Nat}
end
end
section
open Go.RowKit Go.Lib Go.Sort
abbrev Pl:=En × Nat
end
section
open Go.RowKit Go.Lib
theorem eNm:EltOf 92 2 1 8 (.int .i64 0) nmC :=
 ⟨by kernel_rfl,by kernel_rfl,rfl,by decide,by decide,fun _=>rfl,fun x u hu=>by
  simp only [nmC,List.mem_cons,List.not_mem_nil,or_false] at hu
  rcases hu with rfl
  rfl⟩
theorem satSub_any (a b:Int) (w:World) (ha:I64 a) (hb:I64 b) :
 Calls Tryz.prog 260 #[.int .i64 a,.int .i64 b] w fun e w'=>e=.returned (.int .i64 (endsI (a - b)))∧w=w':=by
 by_cases h:b = -9223372036854775808
 · subst h
   obtain ⟨s,hs⟩:∃s,s=endsI (a+9223372036854775807):=⟨_,rfl⟩;obtain ⟨t,ht⟩:∃t:Int,t=if decide (a<0)=true then 1 else 0:=⟨_,rfl⟩;have HE:=jH (show endsI (s+t)=endsI (a - -9223372036854775808) by rw [hs,ht];exact sub_end ha _ rfl);have HT:=jH ht;have HS:=jH (show I64 s by rw [hs];exact endsI_i64 _);have HS2:=jH hs;have HA:=jH ha;have HTI:=jH (show I64 t by rw [ht];unfold I64;split <;> omega);clear hs ht ha hb
   go_enter Tryz.func260,Tryz.ntmps260
   go_wp2_with (first
    | (go_at_call 285
       refine (satBit_any _ _).mono ?_;rw [←HT.out];rintro e w1 ⟨rfl,rfl⟩;have HB:=jH True.intro)
    | (go_at_call 259
       have h9:=HB;refine (satAdd_any s t _ HS.out HTI.out).mono ?_;rw [HE.out];rintro e w1 ⟨rfl,rfl⟩;clear h9)
    | (go_at_call 259
       refine (satAdd_any a 9223372036854775807 _ HA.out (by unfold I64;omega)).mono ?_;rw [←HS2.out];rintro e w1 ⟨rfl,rfl⟩))
   go_ret
   exact ⟨rfl,rfl⟩
 · have HE:=jH (show endsI (a+IntKind.i64.wrap (-b))=endsI (a - b) from sub_ends ha hb h)
   have hn:I64 (-b):=by unfold I64 at *;omega
   have q1:wrap64 (-b) = -b:=by unfold I64 at hn;unfold wrap64;omega
   have q2:IntKind.i64.wrap (-b) = -b:=by unfold I64 at hn;rw [IntKind.wrap_i64];omega
   rw [q2] at HE;have HA:=jH ha;have HN:=jH hn;have q3:(b == -9223372036854775808)=false:=by simpa using h
   clear ha hb hn
   go_enter Tryz.func260,Tryz.ntmps260
   go_wp2_with (first
    | (go_at_call 259
       refine (satAdd_any a (-b) _ HA.out HN.out).mono ?_;rw [HE.out];rintro e w1 ⟨rfl,rfl⟩))
   go_ret
   exact ⟨rfl,rfl⟩
theorem winFrom_any (a b:Int) (w:World) (ha:I64 a) (hb:I64 b) :
 Calls Tryz.prog 218 #[.int .i64 a,.int .i64 b] w fun e w'=>e=.returned (.int .i64 (fromW a b))∧w=w':=by
 have C1:=jH (satSub_any a b w ha hb);have C2:=jH (satAdd_any (endsI (a - b)) 1 w (endsI_i64 _) (by unfold I64;omega));unfold fromW;generalize endsI (a - b)=s at C1 C2 ⊢;generalize endsI (s+1)=t at C2 ⊢;clear ha hb
 go_enter Tryz.func218,Tryz.ntmps218
 go_wp2_with (first
  | (go_at_call 260
     refine C1.out.mono ?_;rintro e w1 ⟨rfl,rfl⟩)
  | (go_at_call 259
     refine C2.out.mono ?_;rintro e w1 ⟨rfl,rfl⟩))
 go_ret
 exact ⟨rfl,rfl⟩
theorem satSum_any (v:Value) (l:List Int) (w:World) (hv:RowIn 1 nmC w v l) (hl:l.length≤1000000) (hi:∀n∈l,I64 n) :
 Calls Tryz.prog 255 #[v] w fun e w'=>e=.returned (.int .i64 (sumE l 0))∧w=w':=by
 obtain ⟨A,c,rfl⟩:=hv.form;have HV:=jH hv;have HI:=jH hi;have hl9:l.length≤9223372036854775807:=by omega
 clear hv hi
 go_enter Tryz.func255,Tryz.ntmps255
 go_wp2
 go_loopg [3,8] l.length (fun g s3 s8 wr=>∃k:Nat,k≤l.length∧l.length - k≤g∧s8=.int .i64 k∧s3=.int .i64 (sumE (l.take k) 0)∧w=wr)
 case atStart=>exact ⟨0,Nat.zero_le _,Nat.le_refl _,rfl,by simp [sumE],rfl⟩
 case round =>
  obtain ⟨k,hk,hg,rfl,rfl,rfl⟩:=hrel
  by_cases hlt:k<l.length
  · obtain ⟨b1,o1,rfl,hb1,hc⟩:=HV.out.at_ hlt
    have z1:(0:Int)≤(k:Int):=by omega
    have z2:(k:Int)<(l.length:Int):=by omega
    have HS:=jH (show sumE (l.take (k+1)) 0=endsI (sumE (l.take k) 0+l[k]) by rw [List.take_succ_eq_append_getElem hlt,sumE_snoc]);have d0:=hc 0 _ rfl;rw [Nat.add_zero,Nat.mul_one] at d0;have HN:=jH (satAdd_any (sumE (l.take k) 0) l[k] w (sumE_i64 _ _ i64_0) (HI.out _ (List.getElem_mem hlt)));rw [←HS.out] at HN;generalize sumE (l.take k) 0=s at HN ⊢;generalize l[k]=x at HN d0;clear hc HS
    go_wp2_with (first
     | (go_at_call 259
        refine HN.out.mono ?_;rintro e w1 ⟨rfl,rfl⟩))
    go_roundg (l.length - (k+1))
    case measure=>omega
    case rel=>exact ⟨k+1,hlt,Nat.le_refl _,by go_num,rfl,rfl⟩
  · obtain rfl:k=l.length:=by omega
    rw [List.take_length];go_wp2
    go_ret
    exact ⟨rfl,rfl⟩
end
section
open Go.RowKit Go.Lib
theorem box_below {w wr w':World} {B:Nat} {cs:Array Value} {T:TypeId} (h:wr.heap[B]?=some (.cells cs T (0,0))) (hb:jB wr w'):w'.heap[B]?=some (.cells cs T (0,0)) :=
 jK hb h
theorem wideTotal_any (v:Value) (l:List Int) (w:World) (hv:RowIn 1 nmC w v l) (hl:l.length≤1000000) (hi:∀n∈l,0≤n∧n≤9223372036854775807) :
 Calls Tryz.prog 283 #[v] w (jP w (twoV (totN l))):=by
 obtain ⟨A,c,rfl⟩:=hv.form;have HV:=jH hv;have HI:=jH hi;have HL:=jH hl;have hl9:l.length≤9223372036854775807:=by omega
 clear hv hi hl
 go_enter Tryz.func283,Tryz.ntmps283
 go_wp2
 go_loopg [8] l.length (fun g s8 wr=>∃(k a b:Nat),k≤l.length∧l.length - k≤g∧s8=.int .i64 k∧Hid (a=totN (l.take k) / 18446744073709551616∧b=totN (l.take k) % 18446744073709551616)∧jB w wr∧wr.heap[w.heap.size]?=some (.cells #[.int .u64 0,.int .u64 0] 309 (0,0))∧wr.heap[w.heap.size+1]?=some (.cells #[.int .u64 a,.int .u64 b] 309 (0,0)))
 case atStart=>exact ⟨0,0,0,Nat.zero_le _,Nat.le_refl _,rfl,jH (by simp [totN]),balloc (balloc jR _) _,box_old _ _ _,box_new _ _ _⟩
 case round =>
  obtain ⟨k,a,b,hk,hg,rfl,HAB,hb,hz,hq⟩:=hrel;rename World=>wr
  have HB:=jH hb;have HZ:=jH hz;have HQ:=jH hq;obtain ⟨a1,a2,a3⟩:=box_cells jR hz;obtain ⟨c1,c2,c3⟩:=box_cells jR hq;clear hb hz hq
  by_cases hlt:k<l.length
  · obtain ⟨b1,o1,rfl,hb1,hc⟩:=(HV.out.below HB.out).at_ hlt
    have z1:(0:Int)≤(k:Int):=by omega
    have z2:(k:Int)<(l.length:Int):=by omega
    have HTK:=jH (show totN (l.take (k+1))=totN (l.take k)+l[k].toNat by rw [List.take_succ_eq_append_getElem hlt,totN_snoc]);have hx:=HI.out _ (List.getElem_mem hlt);have HTL:=jH (show totN (l.take k)≤1000000 * 9223372036854775807 from Nat.le_trans (totN_le (fun n hn=>(HI.out n (List.mem_of_mem_take hn)).2)) (Nat.mul_le_mul_right _ (by rw [List.length_take];have:=HL.out;omega)));generalize l[k]=x at hc HTK hx
    have d0:=hc 0 _ rfl;rw [Nat.add_zero,Nat.mul_one] at d0;have HK:=jH hlt;clear hc
    by_cases h0:0<x
    · obtain ⟨y,rfl⟩:∃y:Nat,x=y:=⟨x.toNat,by omega⟩
      have hy:y≤9223372036854775807:=by omega
      have q1:IntKind.u64.wrap (y:Int)=(y:Int):=u64_wrap y (by omega);obtain ⟨a',ha'⟩:∃a',a'=totN (l.take (k+1)) / 18446744073709551616:=⟨_,rfl⟩;obtain ⟨b',hb'⟩:∃b',b'=totN (l.take (k+1)) % 18446744073709551616:=⟨_,rfl⟩;have HAB2:=jH (And.intro ha' hb');have CA:=jH (fun W=>show Calls Tryz.prog 271 #[.agg #[.int .u64 a,.int .u64 b],.agg #[.int .u64 0,.int .u64 y]] W (jP W (.tuple #[.agg #[.int .u64 a',.int .u64 b'],.bool true])) from by
       have h:=wideAdd_any (totN (l.take k)) y (by have:=HTL.out;omega) W;have e1:y / 18446744073709551616=0:=Nat.div_eq_of_lt (by omega);have e2:y % 18446744073709551616=y:=Nat.mod_eq_of_lt (by omega);have e3:totN (l.take k)+y=totN (l.take (k+1)):=by rw [HTK.out];simp
       unfold twoV at h;rw [e3,e1,e2,←HAB.out.1,←HAB.out.2,←ha',←hb'] at h;exact h)
      have h0':(0:Int)<(y:Int):=h0;clear ha' hb' hx hy h0
      as_aux_lemma =>
      go_wp2_with (first
       | (go_at_call 271
          refine (CA.out wr).mono ?_;rintro e w3 ⟨rfl,hb3⟩;have HZ3:=jH (box_below (w:=w) HZ.out hb3);have HQ3:=jH (box_below (w:=w) HQ.out hb3);obtain ⟨e1,e2,e3⟩:=box_cells jR HQ3.out;have HB3:=jH (bthen HB.out hb3);clear hb3))
      go_roundg (l.length - (k+1))
      case measure=>omega
      case rel=>exact ⟨k+1,a',b',HK.out,Nat.le_refl _,by go_num,HAB2,(HB3.out.setCell (by simp) _).setCell (by simp) _,heap_set_ne (heap_set_ne HZ3.out (by omega)) (by omega),setCell_block (setCell_block HQ3.out)⟩
    · obtain rfl:x=0:=by omega
      have e3:totN (l.take (k+1))=totN (l.take k):=by rw [HTK.out];simp
      have HAB2:=jH (show a=totN (l.take (k+1)) / 18446744073709551616∧b=totN (l.take (k+1)) % 18446744073709551616 by rw [e3];exact HAB.out);clear e3 hx h0
      as_aux_lemma =>
      go_wp2_with fail
      go_roundg (l.length - (k+1))
      case measure=>omega
      case rel=>exact ⟨k+1,a,b,HK.out,Nat.le_refl _,by go_num,HAB2,HB.out,HZ.out,HQ.out⟩
  · obtain rfl:k=l.length:=by omega
    rw [List.take_length] at HAB;go_wp2_with fail
    have hz2:=setCell_block (i:=1) (v:=.int .u64 b) (setCell_block (i:=0) (v:=.int .u64 a) HZ.out);obtain ⟨f1,f2,f3⟩:=box_cells jR hz2;refine bodyPost_ret (v:=.agg #[.int .u64 a,.int .u64 b]) (by simp [results,Tryz.results283,go_sem,f1]) rfl ⟨?_,(HB.out.setCell (Nat.le_refl _) _).setCell (Nat.le_refl _) _⟩;unfold twoV;rw [HAB.out.1,HAB.out.2]
end
section
open Go.RowKit Go.Lib
theorem mean_law (t d:Nat) (hd:0<d):(t+(d - 1)) / d=if 0<t % d then t / d+1 else t / d:=by
 have h:=Nat.div_add_mod t d;have hm:=Nat.mod_lt t hd;generalize t / d=q at *;generalize t % d=r at *;subst h
 split
 · rw [Nat.add_assoc,Nat.mul_add_div hd]
   have:(r+(d - 1)) / d=1:=by
    rw [Nat.div_eq_iff hd];omega
   omega
 · rw [Nat.add_assoc,Nat.mul_add_div hd,Nat.div_eq_of_lt (by omega)]
   rfl
theorem wideMean_any (v:Value) (l:List Int) (w:World) (hv:RowIn 1 nmC w v l) (hl:l.length≤1000000) (hi:∀n∈l,0≤n∧n≤9223372036854775807) :
 Calls Tryz.prog 258 #[v] w (jP w (.int .i64 (meanN l:Nat))):=by
 obtain ⟨A,c,rfl⟩:=hv.form;have hl9:l.length≤9223372036854775807:=by omega
 by_cases hne:l=[]
 · have q1:(l.length:Int)=0:=by rw [hne];rfl
   have HM:=jH (show meanN l=0 by rw [hne];rfl);have q2:((l.length:Int) == 0)=true:=by simp [hne]
   clear hv hi hne
   go_enter Tryz.func258,Tryz.ntmps258
   go_wp2_with fail
   go_ret
   exact ⟨by rw [HM.out];rfl,jR⟩
 · have hp:0<l.length:=List.length_pos_iff.2 hne
   have CT:=jH (wideTotal_any _ l w hv hl hi);have htl:=totN_le (fun n hn=>(hi n hn).2);have hml:=meanN_le (fun n hn=>(hi n hn).2);have hmn:meanN l=if 0<totN l % l.length then totN l / l.length+1 else totN l / l.length:=by
    unfold meanN;rw [if_neg hne,mean_law _ _ hp]
   have q0:¬(l.length:Int)=0:=by omega
   have q1:((l.length:Int) == 0)=false:=by simpa using hne
   have q2:IntKind.u64.wrap (l.length:Int)=(l.length:Int):=u64_wrap _ (by omega);have htl2:totN l≤1000000 * 9223372036854775807:=Nat.le_trans htl (Nat.mul_le_mul_right _ hl);generalize totN l=t at CT hmn htl2;generalize hm:meanN l=m at hml hmn ⊢;obtain ⟨qa,hqa⟩:∃qa,qa=t / l.length / 18446744073709551616:=⟨_,rfl⟩;obtain ⟨qb,hqb⟩:∃qb,qb=t / l.length % 18446744073709551616:=⟨_,rfl⟩;obtain ⟨r,hr⟩:∃r,r=t % l.length:=⟨_,rfl⟩
   obtain ⟨n,hn⟩:∃n,n=l.length:=⟨_,rfl⟩;have hqle:t / l.length≤t:=Nat.div_le_self _ _;have CD:=jH (fun W=>show Calls Tryz.prog 282 #[twoV t,.int .u64 l.length] W (jP W (.tuple #[.agg #[.int .u64 qa,.int .u64 qb],.int .u64 r,.bool true])) from by
    have h:=wideDiv_any t l.length (by omega) hp (by omega) W;unfold twoV at h ⊢;rw [←hqa,←hqb,←hr] at h;exact h)
   by_cases hr0:0<r
   · rw [←hr,if_pos hr0] at hmn
     have CA:=jH (fun W=>show Calls Tryz.prog 271 #[.agg #[.int .u64 qa,.int .u64 qb],.agg #[.int .u64 0,.int .u64 1]] W (jP W (.tuple #[.agg #[.int .u64 0,.int .u64 m],.bool true])) from by
      have h:=wideAdd_any (t / l.length) 1 (by omega) W;unfold twoV at h;rw [←hqa,←hqb,←hmn,show m / 18446744073709551616=0 from Nat.div_eq_of_lt (by omega),show m % 18446744073709551616=m from Nat.mod_eq_of_lt (by omega)] at h;exact h)
     have CS:=jH (fun W=>show Calls Tryz.prog 284 #[.agg #[.int .u64 0,.int .u64 m]] W (jP W (.int .i64 m)) from by
      have h:=wideSmall_any m hml W;unfold twoV at h;rw [show m / 18446744073709551616=0 from Nat.div_eq_of_lt (by omega),show m % 18446744073709551616=m from Nat.mod_eq_of_lt (by omega)] at h;exact h)
     have q5:(0:Int)<(r:Int):=by omega
     clear hv hi hne hp htl hml hmn htl2 hqa hqb hr hn hqle hr0 hm n
     go_enter Tryz.func258,Tryz.ntmps258
     go_wp2_with (first
      | (go_at_call 283
         refine CT.out.mono ?_;rintro e w1 ⟨rfl,hb1⟩;have HB1:=jH hb1;clear hb1)
      | (go_at_call 282
         refine (CD.out w1).mono ?_;rintro e w2 ⟨rfl,hb2⟩;have HB2:=jH (bthen HB1.out hb2);clear hb2)
      | (go_at_call 271
         refine calls_named ?_;intro W3 hW3;have hb3:jB w2 W3:=by rw [hW3];exact balloc jR _
         have hx3:W3.heap[w2.heap.size]?=some (.cells #[.int .u64 qa,.int .u64 qb] 309 (0,0)):=by rw [hW3];exact heap_alloc_new _ _
         clear hW3;refine (CA.out W3).mono ?_;rintro e w4 ⟨rfl,hb4⟩;have HX4:=jH (box_below (w:=w) hx3 hb4);obtain ⟨e1,e2,e3⟩:=box_cells jR HX4.out;have HB4:=jH (bthen HB2.out (bthen hb3 hb4));have HS4:=jH (show w.heap.size≤w2.heap.size from HB2.out.size);clear hb3 hx3 hb4)
      | (go_at_call 284
         refine (CS.out _).mono ?_;rintro e w5 ⟨rfl,hb5⟩;have HB5:=jH (bthen ((HB4.out.setCell HS4.out _).setCell HS4.out _) hb5);clear hb5))
     go_ret
     exact ⟨rfl,HB5.out⟩
   · rw [←hr,if_neg hr0] at hmn
     have CS:=jH (fun W=>show Calls Tryz.prog 284 #[.agg #[.int .u64 qa,.int .u64 qb]] W (jP W (.int .i64 m)) from by
      have h:=wideSmall_any m hml W;unfold twoV at h;rw [hmn,←hqa,←hqb] at h;rw [hmn];exact h)
     obtain rfl:r=0:=by omega
     clear hv hi hne hp htl hml hmn htl2 hqa hqb hr hn hqle hr0 hm n
     go_enter Tryz.func258,Tryz.ntmps258
     go_wp2_with (first
      | (go_at_call 283
         refine CT.out.mono ?_;rintro e w1 ⟨rfl,hb1⟩;have HB1:=jH hb1;clear hb1)
      | (go_at_call 282
         refine (CD.out w1).mono ?_;rintro e w2 ⟨rfl,hb2⟩;have HB2:=jH (bthen HB1.out hb2);clear hb2)
      | (go_at_call 284
         refine (CS.out _).mono ?_;rintro e w5 ⟨rfl,hb5⟩;have HB5:=jH (bthen (balloc HB2.out _) hb5);clear hb5))
     go_ret
     exact ⟨rfl,HB5.out⟩
end
section
open Go.RowKit Go.Lib
theorem tdiv_pos {a b:Int} (ha:0≤a):a.tdiv b=a / b:=Int.tdiv_eq_ediv_of_nonneg ha
theorem ceil_hi {a b:Int} (hb:1≤b) (h:0<a.tmod b):a.tdiv b+1=ceilI a b:=by
 have ha:0<a:=by
  by_cases h0:0<a
  · exact h0
  · exfalso
    have h1:=Int.mul_tdiv_add_tmod a b;have:a.tmod b≤0:=by
     rw [←Int.neg_neg a,Int.neg_tmod];have:=Int.tmod_nonneg b (show 0≤-a by omega);omega
    omega
 unfold ceilI;rw [if_neg (by omega),if_neg (by omega),tdiv_pos (by omega),tdiv_pos (by omega)];rw [Int.tmod_eq_emod_of_nonneg (by omega)] at h;have h1:=Int.mul_ediv_add_emod a b;have h2:=Int.emod_lt_of_pos a (show 0<b by omega);have e:a - 1=(a % b - 1)+b * (a / b):=by omega
 have h3:(a % b - 1) / b=0:=Int.ediv_eq_zero_of_lt (by omega) (by omega);have h4:(a - 1) / b=a / b:=by
  rw [e,Int.add_mul_ediv_left _ _ (by omega),h3];omega
 omega
theorem ceil_lo {a b:Int} (hb:1≤b) (h:¬0<a.tmod b):a.tdiv b=ceilI a b:=by
 unfold ceilI;rw [if_neg (by omega)]
 by_cases h0:a≤0
 · rw [if_pos h0]
 · rw [if_neg h0,tdiv_pos (by omega),tdiv_pos (by omega)]
   rw [Int.tmod_eq_emod_of_nonneg (by omega)] at h;have h1:=Int.mul_ediv_add_emod a b;have h2:=Int.emod_nonneg a (show b≠0 by omega);have e:a - 1=(b - 1)+b * (a / b - 1):=by rw [Int.mul_sub];omega
   have h3:(b - 1) / b=0:=Int.ediv_eq_zero_of_lt (by omega) (by omega);rw [e,Int.add_mul_ediv_left _ _ (by omega),h3];omega
theorem satCeil_any (a b:Int) (w:World) (ha:I64 a) (hb:I64 b) :
 Calls Tryz.prog 239 #[.int .i64 a,.int .i64 b] w fun e w'=>e=.returned (.int .i64 (ceilI a b))∧w'=w:=by
 by_cases h1:b<1
 · have HC:=jH (show ceilI a b=0 by unfold ceilI;rw [if_pos h1])
   clear ha hb
   go_enter Tryz.func239,Tryz.ntmps239
   go_wp2
   go_ret
   exact ⟨by rw [HC.out];rfl,rfl⟩
 · have HI:=ceilI_ok (b:=b) ha
   have q0:(b == 0)=false:=by simp;omega
   have q1:¬b=0:=by omega
   have HHI:=jH (fun h:0<a.tmod b=>ceil_hi (a:=a) (b:=b) (by omega) h);have HLO:=jH (fun h:¬0<a.tmod b=>ceil_lo (a:=a) (b:=b) (by omega) h);have HII:=jH HI;clear HI ha hb
   go_enter Tryz.func239,Tryz.ntmps239
   go_wp2
   · rename_i h5
     have h6:=HHI.out h5;have h7:=HII.out;rw [←h6] at h7;go_ret
     refine ⟨ret_int ?_,rfl⟩;rw [←h6];generalize a.tdiv b=q at h7;unfold wrap64;unfold I64 at h7;omega
   · rename_i h5
     have h6:=HLO.out (by omega);have h7:=HII.out;rw [←h6] at h7;go_ret
     refine ⟨ret_int ?_,rfl⟩;rw [←h6];generalize a.tdiv b=q at h7;unfold wrap64;unfold I64 at h7;omega
end
section
open Go.RowKit Go.Lib
def stor (w:World) (B i:Nat):List Value→World
  | []=>w
  | v::vs=>stor (w.setCell ⟨B,i,none⟩ v) B (i+1) vs
theorem stor_one {w:World} {B i:Nat} {cs:Array Value} {T:TypeId} {fr:Nat × Nat} {v:Value} (h:w.heap[B]?=some (.cells cs T fr)):(w.setCell ⟨B,i,none⟩ v).heap[B]?=some (.cells (cs.setIfInBounds i v) T fr):=by
 obtain ⟨hlt,hk⟩:=Array.getElem?_eq_some_iff.1 h
 show (w.heap.modify B _)[B]?=_
 rw [Array.getElem?_eq_getElem (by rw [Array.size_modify];exact hlt),Array.getElem_modify_self,hk];simp
theorem stor_other {w:World} {B i k:Nat} {v:Value} (h:k≠B):(w.setCell ⟨B,i,none⟩ v).heap[k]?=w.heap[k]?:=by
 show (w.heap.modify B _)[k]?=_
 by_cases hk:k<w.heap.size
 · rw [Array.getElem?_eq_getElem (by rw [Array.size_modify];exact hk),Array.getElem_modify_of_ne (Ne.symm h),Array.getElem?_eq_getElem hk]
 · rw [Array.getElem?_eq_none (by rw [Array.size_modify];omega),Array.getElem?_eq_none (by omega)]
theorem stor_all:∀(vs:List Value) (w:World) (B i:Nat) (cs:Array Value) (T:TypeId),w.heap[B]?=some (.cells cs T (0,0))→cs.size=i+vs.length →
    (stor w B i vs).heap[B]?=some (.cells ((cs.toList.take i++vs).toArray) T (0,0))∧(∀k,k≠B→(stor w B i vs).heap[k]?=w.heap[k]?)∧(stor w B i vs).heap.size=w.heap.size∧∀n,n≤B→Below n w (stor w B i vs):=by
  intro vs
  induction vs with
  | nil =>
    intro w B i cs T h hn;refine ⟨?_,fun _ _=>rfl,rfl,fun n _=>jR⟩;simp only [List.length_nil,Nat.add_zero] at hn
    rw [stor,h,List.append_nil,List.take_of_length_le (by simp;omega)]
  | cons v vs ih =>
    intro w B i cs T h hn;simp only [List.length_cons] at hn
    have h1:=stor_one (i:=i) (v:=v) h;obtain ⟨a1,a2,a3,a4⟩:=ih (w.setCell ⟨B,i,none⟩ v) B (i+1) _ T h1 (by simp;omega);refine ⟨?_,fun k hk=>(a2 k hk).trans (stor_other hk),a3.trans (by simp [World.setCell]),fun n hn=>(jR.setCell hn _).trans (a4 n hn)⟩;rw [stor,a1]
    congr 3
    rw [Array.toList_setIfInBounds,List.take_add_one,List.take_set_of_le (Nat.le_refl _)];rw [List.getElem?_set_self (by simp;omega)];simp
theorem stor_at {w:World} {B:Nat} {cs:Array Value} {T:TypeId} (h:w.heap[B]?=some (.cells cs T (0,0))) (vs:List Value) (hn:cs.size=vs.length):∀W,W=stor w B 0 vs →
    W.heap[B]?=some (.cells vs.toArray T (0,0))∧(∀k,k≠B→W.heap[k]?=w.heap[k]?)∧W.heap.size=w.heap.size∧∀n,n≤B→Below n w W:=by
  rintro W rfl;have:=stor_all vs w B 0 cs T h (by omega)
  simpa using this
end
section
open Go.Shelf
def keysM_ren:Go.Shelf.Ren:=⟨fun|7=>127|10=>179|n=>n,fun|23=>117|26=>9|3=>50|28=>197|0=>0|27=>196|33=>165|4=>4|n=>n,fun|n=>n⟩
theorem keysM:Go.Proofs.SlLaysZ.n7 Tryz.prog keysM_ren:={
  mixed:=by kernel_rfl
  f7:=⟨Tryz.f127.name,by decide,Tryz.func127.trans (congrArg some (by kernel_rfl))⟩
  f10:=⟨Tryz.f179.name,by decide,Tryz.func179.trans (congrArg some (by kernel_rfl))⟩
  t0:=Tryz.underlying0
  a0:=Tryz.isAgg0
  z0:=Tryz.sizeOf0
  v0:=Tryz.zeroValue0
  t4:=Tryz.underlying4
  a4:=Tryz.isAgg4
  z4:=Tryz.sizeOf4
  v4:=Tryz.zeroValue4
  t23:=Tryz.underlying117
  a23:=Tryz.isAgg117
  z23:=Tryz.sizeOf117
  v23:=Tryz.zeroValue117
  t26:=Tryz.underlying9
  a26:=Tryz.isAgg9
  z26:=Tryz.sizeOf9
  v26:=Tryz.zeroValue9
  t27:=Tryz.underlying196
  a27:=Tryz.isAgg196
  z27:=Tryz.sizeOf196
  v27:=Tryz.zeroValue196
  t28:=Tryz.underlying197
  a28:=Tryz.isAgg197
  z28:=Tryz.sizeOf197
  v28:=Tryz.zeroValue197
  t33:=Tryz.underlying165
  a33:=Tryz.isAgg165
  z33:=Tryz.sizeOf165
  v33:=Tryz.zeroValue165 }
def sortedM_ren:Go.Shelf.Ren:=⟨fun|6=>126|8=>178|9=>70|11=>232|13=>129|12=>128|23=>189|24=>190|14=>180|15=>181|16=>182|17=>183|18=>184|19=>185|20=>186|21=>187|22=>188|25=>233|26=>234|27=>235|28=>236|29=>237|30=>238|31=>270|n=>n,fun|26=>9|28=>197|24=>37|0=>0|3=>3|37=>201|48=>270|50=>93|4=>4|40=>263|39=>262|45=>267|5=>5|9=>9|51=>303|55=>307|57=>333|58=>334|33=>165|n=>n,fun|n=>n⟩
theorem sortedM:Go.Proofs.SlLaysZ.n6 Tryz.prog sortedM_ren:={
  mixed:=by kernel_rfl
  f6:=⟨Tryz.f126.name,by decide,Tryz.func126.trans (congrArg some (by kernel_rfl))⟩
  f8:=⟨Tryz.f178.name,by decide,Tryz.func178.trans (congrArg some (by kernel_rfl))⟩
  f11:=⟨Tryz.f232.name,by decide,Tryz.func232.trans (congrArg some (by kernel_rfl))⟩
  t0:=Tryz.underlying0
  a0:=Tryz.isAgg0
  z0:=Tryz.sizeOf0
  v0:=Tryz.zeroValue0
  t24:=Tryz.underlying37
  a24:=Tryz.isAgg37
  z24:=Tryz.sizeOf37
  v24:=Tryz.zeroValue37
  t26:=Tryz.underlying9
  a26:=Tryz.isAgg9
  z26:=Tryz.sizeOf9
  v26:=Tryz.zeroValue9
  t28:=Tryz.underlying197
  a28:=Tryz.isAgg197
  z28:=Tryz.sizeOf197
  v28:=Tryz.zeroValue197
  i26:=by kernel_rfl }
def sortM_ren:Go.Shelf.Ren:=⟨fun|6=>70|8=>129|9=>128|19=>189|20=>190|21=>180|22=>181|23=>182|24=>183|25=>184|26=>185|27=>186|28=>187|29=>188|36=>233|31=>234|32=>235|37=>236|38=>237|39=>238|41=>270|n=>n,fun|27=>37|29=>9|3=>3|32=>201|26=>37|0=>0|44=>270|46=>93|4=>4|36=>263|35=>262|41=>267|5=>5|9=>9|53=>303|57=>307|63=>333|64=>334|n=>n,fun|n=>n⟩
theorem sortM:Go.Proofs.SlLaysM.n6 Tryz.prog sortM_ren:={
  mixed:=by kernel_rfl
  f6:=⟨Tryz.f70.name,by decide,Tryz.func70.trans (congrArg some (by kernel_rfl))⟩
  f8:=Tryz.func129.trans (congrArg some (by kernel_rfl))
  f9:=⟨Tryz.f128.name,by decide,Tryz.func128.trans (congrArg some (by kernel_rfl))⟩
  f19:=Tryz.func189.trans (congrArg some (by kernel_rfl))
  f20:=Tryz.func190.trans (congrArg some (by kernel_rfl))
  f21:=⟨Tryz.f180.name,by decide,Tryz.func180.trans (congrArg some (by kernel_rfl))⟩
  f22:=⟨Tryz.f181.name,by decide,Tryz.func181.trans (congrArg some (by kernel_rfl))⟩
  f23:=⟨Tryz.f182.name,by decide,Tryz.func182.trans (congrArg some (by kernel_rfl))⟩
  f24:=⟨Tryz.f183.name,by decide,Tryz.func183.trans (congrArg some (by kernel_rfl))⟩
  f25:=⟨Tryz.f184.name,by decide,Tryz.func184.trans (congrArg some (by kernel_rfl))⟩
  f26:=⟨Tryz.f185.name,by decide,Tryz.func185.trans (congrArg some (by kernel_rfl))⟩
  f27:=⟨Tryz.f186.name,by decide,Tryz.func186.trans (congrArg some (by kernel_rfl))⟩
  f28:=⟨Tryz.f187.name,by decide,Tryz.func187.trans (congrArg some (by kernel_rfl))⟩
  f29:=⟨Tryz.f188.name,by decide,Tryz.func188.trans (congrArg some (by kernel_rfl))⟩
  f31:=Tryz.func234.trans (congrArg some (by kernel_rfl))
  f32:=Tryz.func235.trans (congrArg some (by kernel_rfl))
  f36:=⟨Tryz.f233.name,by decide,Tryz.func233.trans (congrArg some (by kernel_rfl))⟩
  f37:=⟨Tryz.f236.name,by decide,Tryz.func236.trans (congrArg some (by kernel_rfl))⟩
  f38:=⟨Tryz.f237.name,by decide,Tryz.func237.trans (congrArg some (by kernel_rfl))⟩
  f39:=⟨Tryz.f238.name,by decide,Tryz.func238.trans (congrArg some (by kernel_rfl))⟩
  f41:=⟨Tryz.f270.name,by decide,Tryz.func270.trans (congrArg some (by kernel_rfl))⟩
  t0:=Tryz.underlying0
  a0:=Tryz.isAgg0
  z0:=Tryz.sizeOf0
  v0:=Tryz.zeroValue0
  t3:=Tryz.underlying3
  a3:=Tryz.isAgg3
  z3:=Tryz.sizeOf3
  v3:=Tryz.zeroValue3
  t4:=Tryz.underlying4
  a4:=Tryz.isAgg4
  z4:=Tryz.sizeOf4
  v4:=Tryz.zeroValue4
  t5:=Tryz.underlying5
  a5:=Tryz.isAgg5
  z5:=Tryz.sizeOf5
  v5:=Tryz.zeroValue5
  t9:=Tryz.underlying9
  a9:=Tryz.isAgg9
  z9:=Tryz.sizeOf9
  v9:=Tryz.zeroValue9
  t26:=Tryz.underlying37
  a26:=Tryz.isAgg37
  z26:=Tryz.sizeOf37
  v26:=Tryz.zeroValue37
  t27:=Tryz.underlying37
  a27:=Tryz.isAgg37
  z27:=Tryz.sizeOf37
  v27:=Tryz.zeroValue37
  t29:=Tryz.underlying9
  a29:=Tryz.isAgg9
  z29:=Tryz.sizeOf9
  v29:=Tryz.zeroValue9
  t32:=Tryz.underlying201
  a32:=Tryz.isAgg201
  z32:=Tryz.sizeOf201
  v32:=Tryz.zeroValue201
  t35:=Tryz.underlying262
  a35:=Tryz.isAgg262
  z35:=Tryz.sizeOf262
  v35:=Tryz.zeroValue262
  t36:=Tryz.underlying263
  a36:=Tryz.isAgg263
  z36:=Tryz.sizeOf263
  v36:=Tryz.zeroValue263
  t41:=Tryz.underlying267
  a41:=Tryz.isAgg267
  z41:=Tryz.sizeOf267
  v41:=Tryz.zeroValue267
  t44:=Tryz.underlying270
  a44:=Tryz.isAgg270
  z44:=Tryz.sizeOf270
  v44:=Tryz.zeroValue270
  t46:=Tryz.underlying93
  a46:=Tryz.isAgg93
  z46:=Tryz.sizeOf93
  v46:=Tryz.zeroValue93
  t53:=Tryz.underlying303
  a53:=Tryz.isAgg303
  z53:=Tryz.sizeOf303
  v53:=Tryz.zeroValue303
  t57:=Tryz.underlying307
  a57:=Tryz.isAgg307
  z57:=Tryz.sizeOf307
  v57:=Tryz.zeroValue307
  t63:=Tryz.underlying333
  a63:=Tryz.isAgg333
  z63:=Tryz.sizeOf333
  v63:=Tryz.zeroValue333
  t64:=Tryz.underlying334
  a64:=Tryz.isAgg334
  z64:=Tryz.sizeOf334
  v64:=Tryz.zeroValue334 }
end
section
open Go.RowKit Go.Lib
section
variable {P:Program}
theorem store_new (w:World) (t:TypeId) (cs:List Value) (n:Nat) (hn:cs.length=n) (hi:(P.info? t).map (·.size)=some n) (h1:∀v∈cs,v.oneCell'=true) (c:Array Value) (ho:c.size=n) :
 (storeCells ⟨w.heap.size,0,none⟩ cs).run P (w.alloc (.cells c t))=.ok () (w.alloc (.cells cs.toArray t)):=by
 have:=run_storeCells_new (P:=P) w t c cs.toArray (by rw [List.size_toArray,hn];exact hi) (by simp;omega) (all_oneCell_toArray h1)
 simpa using this
theorem wpList_load_list {ops:Array Oper} {rest:List Oper} {op:Oper} {a:Act} {w:World} {Q:Exit→Act→World→Prop} (hgd:op.guard=none) (ty:TypeId) (x:Operand) (ho:op.op=.load ty x)
    (b o:Nat) (cs:List Value) (hc:∀j v,cs[j]?=some v→w.cell? ⟨b,o+j,none⟩=some v) (hx:a.eval x=.pointer (some ⟨b,o,none⟩)) (d:TypeDesc)
    (hu:P.underlying ty=some d) (hd:d.isRow=true) (hi:(P.info? ty).map (·.size)=some cs.length)
    (h:wpList P ops Q rest (a.put op.dst (.agg cs.toArray)) w):wpList P ops Q (op::rest) a w :=
  wpList_load_mid hgd ty x ho b o hx cs d hc hu hd hi h
theorem new_cells (w:World) (cs:List Value) (T:TypeId):∀j v,cs[j]?=some v→(w.alloc (.cells cs.toArray T)).cell? ⟨w.heap.size,0+j,none⟩=some v:=by
 intro j v hj;rw [Nat.zero_add,cell_of_row _ _ j cs.toArray T (0,0) (heap_alloc_last w _)]
 simpa using hj
end
theorem build_one {α:Type} {t e:TypeId} {n bytes:Nat} {z:Value} {f:α→List Value} (E:EltOf t e n bytes z f) (hn:n≤1000) (cs:List Value) (hcs:cs.length=n) (w:World) :
 (Instr.buildSlice t 1 #[(0,.agg cs.toArray)]).run Tryz.prog w=.ok (.slice (some ⟨w.heap.size,0,none⟩) 1 1) (w.alloc (.cells cs.toArray e)):=by
 have hi:=E.hi;have hz:=E.hz;have h0:=E.hn
 cases hq:Tryz.prog.info? e with
 | none=>simp [hq] at hi
 | some ie =>
   simp only [hq,Option.map_some,Option.some.injEq,Prod.mk.injEq] at hi
   obtain ⟨h1,h2,h3⟩:=hi;refine run_buildSlice w t e 1 _ cs.toArray ie z E.ht hq h1 (by rw [h2];omega) (by rw [h2];omega) ?_;have:=Great.fill_whole (s:=n) h0 [.agg cs.toArray] ((Array.range (1 * n)).map (z.cells[· % z.cells.size]!)) (by simp [Value.cells,hcs]) (by simp);rw [h2]
   simpa [Value.cells] using this
theorem wpList_build_one {α:Type} {t e:TypeId} {n bytes:Nat} {z:Value} {f:α→List Value} (E:EltOf t e n bytes z f) (hn:n≤1000) {ops:Array Oper} {rest:List Oper} {o:Oper} {a:Act} {w:World} {Q:Exit→Act→World→Prop} (hg:o.guard=none)
    (x:Operand) (ho:o.op=.buildSlice t 1 #[(0,x)]) (cs:List Value) (hcs:cs.length=n) (hx:a.eval x=.agg cs.toArray)
    (h:wpList Tryz.prog ops Q rest (a.put o.dst (.slice (some ⟨w.heap.size,0,none⟩) 1 1)) (w.alloc (.cells cs.toArray e))):wpList Tryz.prog ops Q (o::rest) a w :=
  wpList_plain hg fun _ hK=>by
   unfold Oper.wp execOp;simp only [ho,hx,Sem.run_bind,List.map_toArray,List.map_cons,List.map_nil,build_one E hn cs hcs w,Result.andThen_ok]
   exact hK _ _ h
end
section
open Go.RowKit Go.Lib
theorem zero_bits:Tryz.zeroCells326=(bitsL fun _=>false).toArray:=by kernel_rfl
theorem num_size (f:Nat→Bool):(Tryz.prog.info? 326).map (·.size)=some (bitsL f).length:=by rw [bitsL_len];kernel_rfl
theorem num_sizeA (f:Nat→Bool):(Tryz.prog.info? 326).map (·.size)=some (bitsL f).toArray.size:=by rw [List.size_toArray,bitsL_len];kernel_rfl
theorem bits_one (f:Nat→Bool):(bitsL f).toArray.all (·.oneCell')=true:=all_oneCell_toArray (fun v hv=>by
 obtain ⟨j,_,rfl⟩:=List.mem_map.1 hv;rfl)
def BitB (w:World) (B:Nat) (f:Nat→Bool):Prop:=w.heap[B]?=some (.cells (bitsL f).toArray 326 (0,0))
theorem BitB.cell {w:World} {B:Nat} {f:Nat→Bool} (h:BitB w B f) {i:Nat} (hi:i<128):w.cell? ⟨B,i,none⟩=some (.bool (f i))∧w.frozen? ⟨B,i,none⟩=false:=by
 obtain ⟨h1,h2,_⟩:=box_cells (Below.refl w.heap.size w) h;refine ⟨?_,h2 i⟩;rw [h1 i]
 simpa using bitsL_get f i hi
theorem BitB.range {w:World} {B:Nat} {f:Nat→Bool} (h:BitB w B f):∀j v,(bitsL f)[j]?=some v→w.cell? ⟨B,0+j,none⟩=some v:=fun j v hj=>by
 obtain ⟨h1,_,_⟩:=box_cells (Below.refl w.heap.size w) h;rw [Nat.zero_add,h1 j]
 simpa using hj
theorem BitB.set {w:World} {B:Nat} {f:Nat→Bool} (h:BitB w B f) {i:Nat} (hi:i<128) (b:Bool):BitB (w.setCell ⟨B,i,none⟩ (.bool b)) B (updB f i b):=by
 have:=setCell_block (i:=i) (v:=.bool b) h;unfold BitB;rw [this,List.setIfInBounds_toArray,bitsL_set f i b hi]
theorem BitB.ne {w:World} {B C i:Nat} {v:Value} {f:Nat→Bool} (h:BitB w B f) (hn:B≠C):BitB (w.setCell ⟨C,i,none⟩ v) B f:=heap_set_ne h hn
theorem BitB.below {w w':World} {B:Nat} {f:Nat→Bool} (h:BitB w B f) (hb:jB w w'):BitB w' B f:=jK hb h
theorem BitB.there {w:World} {B:Nat} {f:Nat→Bool} (h:BitB w B f) (g:Nat→Bool):w.there B 0 (bitsL g).toArray.size:=fun j hj=>by
 rw [List.size_toArray,bitsL_len] at hj;obtain ⟨h1,h2⟩:=h.cell hj;rw [Nat.zero_add];exact ⟨by rw [h1];rfl,h2⟩
theorem setCells_stor:∀(vs:List Value) (w:World) (B i:Nat),w.setCells B i vs=stor w B i vs
  | [],w,B,i=>rfl
  | v::vs,w,B,i=>setCells_stor vs _ B (i+1)
theorem BitB.store {w:World} {B:Nat} {f:Nat→Bool} (h:BitB w B f) (g:Nat→Bool):BitB (w.setCells B 0 (bitsL g)) B g∧(∀k,k≠B→(w.setCells B 0 (bitsL g)).heap[k]?=w.heap[k]?)∧∀n,n≤B→Below n w (w.setCells B 0 (bitsL g)):=by
 obtain ⟨a,b,_,d⟩:=stor_at h (bitsL g) (by simp [bitsL_len]) _ (setCells_stor (bitsL g) w B 0);exact ⟨a,b,d⟩
theorem BitB.load {w:World} {B:Nat} {f:Nat→Bool} (h:BitB w B f):(loadVar 326 ⟨B,0,none⟩).run Tryz.prog w=.ok (.agg (bitsL f).toArray) w :=
 run_loadVar_mid w B 0 326 (bitsL f) _ h.range Tryz.underlying326 rfl (num_size f)
theorem bit_new (w:World) (f:Nat→Bool):BitB (w.alloc (.cells (bitsL f).toArray 326)) w.heap.size f:=heap_alloc_new _ _
end
end Go.Proofs.YtpmfcpdelkchaaaGreat
