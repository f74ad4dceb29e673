/- Part 12 of the proof: SerRest, RPush, R08, Before, Unlike, RefFnv. -/
import Derived.Test.YtkcdhaallnhhmaaGreatQ05
import Derived.Test.YtkcdhaallnhhmaaGreatQ11
namespace Go.Proofs.YtkcdhaallnhhmaaGreat
set_option linter.unusedSimpArgs false
set_option linter.unusedVariables false
set_option linter.unusedSectionVars false
set_option maxRecDepth 100000
set_option maxHeartbeats 16000000
section
open Go.RowKit Go.Lib Go.Sort
def NewSer (w:World) (l:List Smp) (room:Int) (e:Ending) (w':World):Prop :=
 ∃S fp,e=.returned (.pointer (some ⟨S,0,none⟩))∧SerIn w' S l room fp∧(∀k∈fp,w.heap.size≤k)∧jB w w'
theorem serNew_any (room:Int) (w:World) (h1:1≤room) (h2:room≤256) :
 Calls Tryz.prog 164 #[.int .i64 room] w (NewSer w [] room):=by
 have q1:¬room<1:=by omega
 have q2:¬256<room:=by omega
 go_enter Tryz.func164,Tryz.ntmps164
 go_wp2
 go_ret
 refine ⟨w.heap.size,[w.heap.size],rfl,⟨.slice none 0 0,[],heap_alloc_new _ _,SRow.nil _,by simp,rfl⟩,fun k hk=>by simp at hk;omega,balloc jR _⟩
theorem serList_any (S:Nat) (l:List Smp) (room:Int) (fp:List Nat) (w:World) (h:SerIn w S l room fp) (hl:l.length≤1000000) :
 Calls Tryz.prog 117 #[.pointer (some ⟨S,0,none⟩)] w (CloneS smpC 118 2 w l):=by
 obtain ⟨v,fr,hS,hrow,_,_⟩:=h;have C:=jH (cloneS_any v l w (hrow.row eSmp) hl);have z0:w.cell? ⟨S,0,none⟩=some v:=by simp only [World.cell?,hS];rfl
 clear hS hrow
 go_enter Tryz.func117,Tryz.ntmps117
 go_wp2_with (go_at_call 116;refine C.out.mono ?_;rintro e w2 ⟨A,c,fp,rfl,h1,h2,h3⟩;have H1:=jH h1;have H2:=jH h2;have H3:=jH h3;clear h1 h2 h3)
 go_ret
 exact ⟨A,c,fp,rfl,H1.out,H2.out,H3.out⟩
end
section
open Go.RowKit Go.Lib Go.Sort
def pushL (l:List Adv) (room:Nat) (x:Adv):List Adv:=(if l.length<room then l else l.drop 1)++[x]
end
section
open Go.RowKit Go.Lib Go.Sort
def RowG {α:Type} (P:Nat→Prop) (n:Nat) (f:α→List Value) (w:World) (v:Value) (l:List α):Prop :=
 RowIn n f w v l∧∀b o m c,v=.slice (some ⟨b,o,none⟩) m c→0<l.length→P b
theorem RowG.below {α:Type} {P:Nat→Prop} {n:Nat} {f:α→List Value} {w w':World} {v:Value} {l:List α} (h:RowG P n f w v l) (hb:jB w w'):RowG P n f w' v l:=⟨h.1.below hb,h.2⟩
theorem RowG.imp {α:Type} {P Q:Nat→Prop} {n:Nat} {f:α→List Value} {w:World} {v:Value} {l:List α} (h:RowG P n f w v l) (hi:∀b,P b→Q b):RowG Q n f w v l:=⟨h.1,fun b o m c e hn=>hi b (h.2 b o m c e hn)⟩
theorem RowG.nil {α:Type} {P:Nat→Prop} {n:Nat} {f:α→List Value} {w:World} {A:Option Addr} {c:Nat}:RowG P n f w (.slice A 0 c) ([]:List α):=⟨RowIn.nil,fun _ _ _ _ _ h=>absurd h (Nat.lt_irrefl _)⟩
def RSays {α:Type} (n:Nat) (f:α→List Value) (w:World) (l:List α) (e:Ending) (w':World):Prop :=
 ∃A c,e=.returned (.slice A l.length c)∧RowG (fun b=>w.heap.size≤b) n f w' (.slice A l.length c) l∧jB w w'
theorem RowG.own {α:Type} {t e:TypeId} {n bytes:Nat} {z:Value} {f:α→List Value} (E:EltOf t e n bytes z f) {base:Nat} {w:World} {v:Value} {l:List α} (h:OwnL f e n base w v l):RowG (fun b=>base≤b) n f w v l:=by
 refine ⟨h.row E,fun b o m c e hn=>?_⟩
 rcases h.2 with ⟨_,h0⟩|⟨g,cap,cur,hv',hg,_⟩
 · omega
 · rw [e] at hv'
   injection hv' with e1 _ _
   injection e1 with e1
   injection e1 with e1
   omega
theorem RowG.part {α:Type} {P:Nat→Prop} {n:Nat} {f:α→List Value} {w:World} {A A2:Option Addr} {m c c2:Nat} {l l2:List α} (h:RowG P n f w (.slice A m c) l) (hA:0<l.length→∀b o,A2=some ⟨b,o,none⟩→∃o',A=some ⟨b,o',none⟩) (hl:l2.length≤l.length) (h2:RowIn n f w (.slice A2 l2.length c2) l2):RowG P n f w (.slice A2 l2.length c2) l2:=by
 refine ⟨h2,fun b o m' c' e hn=>?_⟩;injection e with e1 _ _
 obtain ⟨o',ho⟩:=hA (by omega) b o e1;exact h.2 b o' m c (by rw [ho]) (by omega)
theorem row_from2 {α:Type} {t e:TypeId} {n bytes:Nat} {z:Value} {f:α→List Value} (E:EltOf t e n bytes z f) {w:World} {A:Option Addr} {c:Nat} {l:List α} (h:RowIn n f w (.slice A l.length c) l) (a:Nat) (ha:a≤l.length) :
 ∃(m:List α) (A2:Option Addr) (c2:Nat),m=l.drop a∧(0<l.length→∀b o,A2=some ⟨b,o,none⟩→∃o',A=some ⟨b,o',none⟩)∧(∀w':World,(Instr.sliceAt t (.slice A l.length c) (some (.int .i64 a)) none none).run Tryz.prog w'=.ok (.slice A2 m.length c2) w')∧RowIn n f w (.slice A2 m.length c2) m:=by
 obtain ⟨i0,hi0,hz0,hz1,hz2⟩:=info_parts E.hi;have hp:=RowIn.part h (i:=a) (j:=l.length) ha (Nat.le_refl _);rw [List.take_length] at hp;have hlen:(l.drop a).length=l.length - a:=by simp
 have hel:Tryz.prog.elem t=e:=by simp [Program.elem,E.ht]
 refine ⟨l.drop a,_,_,rfl,?_,fun w'=>?_,by rw [hlen];exact hp⟩
 · intro hn b o hb
   obtain ⟨A1,c1,hv,_,hr⟩:=h;injection hv with e1 _ _
   subst e1;obtain ⟨b1,o1,rfl,_⟩:=hr hn
   split at hb
   · exact ⟨o,hb⟩
   · rw [Option.map_some,add_at] at hb
     injection hb with hb
     injection hb with hb
     exact ⟨o1,by rw [hb]⟩
 rw [run_sliceAt_slice _ t _ _ _ _ (by rw [hel];exact E.ht),run_slice_l _ t A l.length c (by rw [hel];exact E.ht) _ _ (by omega) (by omega),hel];simp [sizeOf,typeInfo,hi0,hz1,Result.andThen,sliced,hlen]
theorem r8right_any (t v:Int) (w:World) :
 Calls Tryz.prog 139 #[.int .i64 t,.int .i64 v] w fun e w'=>e=.returned (.int .i64 (serE t v))∧w'=w:=by
 unfold serE
 by_cases h1:t<0
 · rw [if_pos h1]
   go_enter Tryz.func139,Tryz.ntmps139
   go_wp2
   go_ret
   exact ⟨rfl,rfl⟩
 · rw [if_neg h1]
   by_cases h2:v<0
   · rw [if_pos h2]
     go_enter Tryz.func139,Tryz.ntmps139
     go_wp2
     go_ret
     exact ⟨rfl,rfl⟩
   · rw [if_neg h2]
     go_enter Tryz.func139,Tryz.ntmps139
     go_wp2
     go_ret
     exact ⟨rfl,rfl⟩
theorem r14put_any (v:Value) (l:List Adv) (room:Nat) (x:Adv) (w:World) (hv:RowIn 5 advC w v l) (hl:l.length≤room) (h1:1≤room) (hr:room≤1000000) :
 Calls Tryz.prog 213 #[v,.int .i64 (room:Nat),.agg (advC x).toArray] w (RSays 5 advC w (pushL l room x)):=by
 obtain ⟨A,c,rfl⟩:=hv.form;have HV:=jH hv;clear hv;rw [show (advC x).toArray=#[.int .i64 x.tick,.int .i64 x.load,.int .i64 x.want,.int .i64 x.repl,.int .i64 x.why] from rfl]
 go_enter Tryz.func213,Tryz.ntmps213
 go_wp2_with (first
  | (at_builtin;refine wpList_appendL eAdv (by rfl) (by rfl) w.heap.size [] l (.slice (some ⟨w.heap.size+1,0,none⟩) 0 0) _ (by rfl) (by rfl) (OwnL.lit0 _ _ _ _ (by simp) (by simp)) (HV.out.below (balloc (balloc jR _) _)) (by simp;omega) (by simp;omega) ?_;intro out2 A2 c2 w2 hout2 hown2 hg2 _
     have hb2:jB w w2:=(balloc (balloc jR _) _).grown hg2 (by simp;omega) (fun r hr=>by have hr':some (w.heap.size+1)=some r:=hr;injection hr';omega);have hx2:w2.heap[w.heap.size]?=some (.cells #[.int .i64 x.tick,.int .i64 x.load,.int .i64 x.want,.int .i64 x.repl,.int .i64 x.why] 74 (0,0)):=(hg2.block w.heap.size (by simp;omega) (fun e=>absurd e (by simp [Value.ownBlock]))).trans ((Below.heap_alloc _ _ _ (by simp)).trans (heap_alloc_new _ _))
     obtain ⟨a1,a2,a3⟩:=box_cells jR hx2;have HW2:=jH hown2;have HO2:=jH hout2;have HB2:=jH hb2;clear hown2 hout2 hg2 hb2 hx2)
  | (at_builtin;refine wpList_appendL eAdv (by rfl) (by rfl) w.heap.size out2 [x] _ _ (by rfl) (by rfl) (HW2.out.below (balloc jR _)) (RowIn.lit w2 x _ _ _ rfl rfl) (by simp [HO2.out];omega) (by have:=HB2.out.size;simp;omega) ?_;intro out3 A3 c3 w3 hout3 hown3 hg3 _
     have hb3:jB w w3:=(balloc HB2.out _).trans (grown_own hg3 HW2.out (by have:=HB2.out.size;simp;omega));have hl3:(out3.length:Int)=(l.length:Int)+1:=by rw [hout3,HO2.out];simp
     obtain ⟨m,A4,c4,hm,hA,hrun,hrow⟩:=row_from2 eAdv (hown3.row eAdv) 1 (by rw [hout3];simp);simp only [show ((1:Nat):Int)=1 from rfl] at hrun
     have HA:=jH hA;have HW3:=jH hown3;have HO3:=jH hout3;have HB3:=jH hb3;have HM:=jH hm;have HR:=jH hrow;clear hown3 hout3 hg3 hb3 hm hrow hA))
 · go_ret
   have e:m=pushL l room x:=by rw [HM.out,HO3.out,HO2.out];unfold pushL;rw [if_neg (by omega)];cases l with
    | nil=>simp at *;omega
    | cons a l=>simp
   have hrow:=HR.out;have hg3:=RowG.own eAdv HW3.out;rw [←e];exact ⟨_,_,rfl,RowG.part hg3 HA.out (by rw [HM.out];simp) hrow,HB3.out⟩
 · go_ret
   have e:out3=pushL l room x:=by rw [HO3.out,HO2.out];unfold pushL;rw [if_pos (by omega)];simp
   rw [←e];exact ⟨_,_,rfl,RowG.own eAdv HW3.out,HB3.out⟩
def SortedAt (l:List Smp) (t:Int) (p:Nat):Prop:=p≤l.length∧(∀i (h:i<l.length),i<p ↔ l[i].1<t)
theorem r8trim_any (v:Value) (l:List Smp) (t:Int) (w:World) (hv:RowIn 2 smpC w v l) (hs:SortedAt l t (placeS l t)) (hl:l.length≤1000000) :
 Calls Tryz.prog 212 #[v,.int .i64 t] w (RSays 2 smpC w (l.drop (placeS l t))):=by
 obtain ⟨A,c,rfl⟩:=hv.form;have HV:=jH hv;have HS:=jH hs;clear hv hs;generalize placeS l t=p at HS ⊢
 go_enter Tryz.func212,Tryz.ntmps212
 go_wp2
 go_loopg [5,6] l.length (fun g s5 s6 wr=>∃k:Nat,k≤l.length∧l.length - k≤g∧s6=.int .i64 k∧OwnL smpC 118 2 w.heap.size wr s5 ((l.take k).drop p)∧jB w wr)
 case atStart=>exact ⟨0,Nat.zero_le _,Nat.le_refl _,rfl,by rw [List.take_zero,List.drop_nil];exact OwnL.nil _ _,jR⟩
 case round =>
  obtain ⟨k,hk,hg,rfl,hown,hb⟩:=hrel;obtain ⟨A5,c5,rfl⟩:=hown.form;have HO:=jH hown;clear hown
  by_cases hlt:k<l.length
  · obtain ⟨b,o,rfl,hbw,hc⟩:=HV.out.at_ hlt
    have c1:wr.cell? ⟨b,o+k * 2,none⟩=some (.int .i64 l[k].1):=(hb.cell (p:=⟨b,_,none⟩) hbw).trans (hc 0 _ rfl);have c2:wr.cell? ⟨b,o+k * 2+1,none⟩=some (.int .i64 l[k].2):=(hb.cell (p:=⟨b,_,none⟩) hbw).trans (hc 1 _ rfl);have hsp:=HS.out.2 k hlt;have hnext:p≤k→(l.take (k+1)).drop p=(l.take k).drop p++[l[k]]:=fun hp=>by
     rw [List.take_succ_eq_append_getElem hlt,List.drop_append_of_le_length (by simp;omega)]
    have hsame:k<p→(l.take (k+1)).drop p=(l.take k).drop p:=fun hp=>by
     rw [List.drop_eq_nil_of_le (by simp;omega),List.drop_eq_nil_of_le (by simp;omega)]
    have HN:=jH hnext;have HM:=jH hsame;clear hc hnext hsame;generalize l[k]=x at c1 c2 hsp HN
    by_cases hp:k<p
    · have hlt2:x.1<t:=hsp.1 hp
      clear hsp;go_wp2
      go_roundg (l.length - (k+1))
      case measure=>omega
      case rel=>exact ⟨k+1,hlt,Nat.le_refl _,by go_num,by rw [HM.out hp];exact HO.out,hb⟩
    · have hge:t≤x.1:=by have:=mt hsp.2 hp;omega
      clear hsp
      go_wp2_with (at_builtin;refine wpList_appendL eSmp (by rfl) (by rfl) w.heap.size ((l.take k).drop p) [x] _ _ (by rfl) (by rfl) (HO.out.below (balloc jR _)) (RowIn.lit wr x _ _ _ rfl rfl) (by simp;omega) (by have:=hb.size;simp;omega) ?_;intro out2 A2 c2' w2 hout2 hown2 hg2 _
                   have hb2:jB w w2:=(balloc hb _).trans (grown_own hg2 HO.out (by have:=hb.size;simp;omega));have HW2:=jH hown2;have HO2:=jH hout2;clear hown2 hout2 hg2)
      go_roundg (l.length - (k+1))
      case measure=>omega
      case rel=>exact ⟨k+1,hlt,Nat.le_refl _,by go_num,by rw [HN.out (by omega),←HO2.out];exact HW2.out,hb2⟩
  · obtain rfl:k=l.length:=by omega
    rw [List.take_length] at HO;go_wp2
    go_ret
    have hlen:(l.drop p).length=(List.drop p (List.take l.length l)).length:=by rw [List.take_length]
    rw [List.take_length];exact ⟨_,_,rfl,RowG.own eSmp HO.out,hb⟩
end
section
open Go.RowKit Go.Lib
theorem before_quiet (s t:ByteArray) (w:World) (hs:s.size≤maxLen) (ht:t.size≤maxLen) :
 Calls Tryz.prog 56 #[.string s,.string t] w fun e w'=>e=.returned (.bool (beforeS s t))∧∃n,w'=w.drewN n:=by
 unfold maxLen at hs ht
 go_enter Tryz.func56,Tryz.ntmps56
 go_wp2
 go_loopw [5] (fun i w'=>∃k n:Nat,k≤s.size∧k≤t.size∧i=.int .i64 k∧SameTo s t k∧w'=w.drewN n) (fun i _=>s.size - (intOf i).toNat)
 case atStart=>exact ⟨0,0,by omega,by omega,rfl,fun j hj=>absurd hj (by omega),rfl⟩
 case round =>
  obtain ⟨k,n,hk1,hk2,rfl,hsame,rfl⟩:=hrel
  by_cases hlt1:k<s.size
  · by_cases hlt2:k<t.size
    · by_cases he:s[k]=t[k]
      · have hsame':=sameTo_succ hsame hlt1 hlt2 he
        have Hs:=jH hsame';have hq:(((s[k].toNat:Nat):Int) != ((t[k].toNat:Nat):Int))=false:=by rw [he];simp
        clear hsame hsame' he;go_wp2
        go_quiet (fail)
        go_wp2
        go_roundw
        case rel=>exact ⟨k+1,n+nq,by omega,by omega,by go_num,Hs.out,rfl⟩
        case measure=>simp [intOf];omega
      · have hf:=before_at hsame hlt1 hlt2 he
        have Hf:=jH hf;have hq:(((s[k].toNat:Nat):Int) != ((t[k].toNat:Nat):Int))=true:=by
         rw [bne_iff_ne];intro h;exact he (UInt8.toNat_inj.1 (Int.ofNat.inj h))
        clear hsame hf he;go_wp2
        go_quiet (fail)
        go_wp2
        go_quiet (fail)
        go_wp2
        go_ret
        rw [Hf.out];refine ⟨?_,⟨_,by (try simp only [World.drewN_drewN]);rfl⟩⟩;simp
    · have hf:=before_end hsame hk1 hk2 (.inr (by omega))
      have Hf:=jH hf;clear hsame hf;go_wp2
      go_ret
      rw [Hf.out];refine ⟨?_,⟨_,by (try simp only [World.drewN_drewN]);rfl⟩⟩;simp
  · have hf:=before_end hsame hk1 hk2 (.inl (by omega))
    have Hf:=jH hf;clear hsame hf;go_wp2
    go_ret
    rw [Hf.out];refine ⟨?_,⟨_,by (try simp only [World.drewN_drewN]);rfl⟩⟩;simp
end
section
open Go.RowKit Go.Lib
theorem xor_step (a b k:Nat):(a ^^^ b) % 2 ^ (k+1)=(a ^^^ b) % 2 ^ k+if a / 2 ^ k % 2=b / 2 ^ k % 2 then 0 else 2 ^ k:=by
 have h1:(a ^^^ b) / 2 ^ k % 2=if a / 2 ^ k % 2=b / 2 ^ k % 2 then 0 else 1:=by
  rw [←Nat.shiftRight_eq_div_pow,Nat.shiftRight_xor_distrib,Nat.shiftRight_eq_div_pow,Nat.shiftRight_eq_div_pow];have h2:=Nat.xor_mod_two_eq_one (a:=a / 2 ^ k) (b:=b / 2 ^ k);have h3:=Nat.mod_lt ((a / 2 ^ k) ^^^ (b / 2 ^ k)) (show 0<2 by decide);have h4:=Nat.mod_lt (a / 2 ^ k) (show 0<2 by decide);have h5:=Nat.mod_lt (b / 2 ^ k) (show 0<2 by decide)
  split <;> omega
 have h2:(a ^^^ b) % 2 ^ (k+1)=(a ^^^ b) % 2 ^ k+2 ^ k * ((a ^^^ b) / 2 ^ k % 2):=by
  rw [Nat.pow_succ,Nat.mod_mul]
 rw [h2,h1]
 split <;> simp
theorem half_step (a k:Nat):a / 2 ^ k / 2=a / 2 ^ (k+1):=by rw [Nat.div_div_eq_div_mul,Nat.pow_succ]
theorem unlike_any (a b:Nat) (w:World) (ha:a<256) (hb:b<256) :
 Calls Tryz.prog 231 #[.int .u64 a,.int .u64 b] w fun e w'=>e=.returned (.int .u64 ((a ^^^ b:Nat):Int))∧w=w':=by
 go_enter Tryz.func231,Tryz.ntmps231
 go_wp2
 go_loop [0,1,5,6,7] (fun x y o n i=>∃k:Nat,k≤8∧i=.int .i64 k∧x=.int .u64 (a / 2 ^ k:Nat)∧y=.int .u64 (b / 2 ^ k:Nat)∧o=.int .u64 ((a ^^^ b) % 2 ^ k:Nat)∧n=.int .u64 (2 ^ k:Nat)) (fun _ _ _ _ i=>8 - (intOf i).toNat)
 case atStart=>exact ⟨0,by omega,rfl,by simp,by simp,by simp [Nat.mod_one],rfl⟩
 case round =>
  obtain ⟨k,hk,rfl,rfl,rfl,rfl,rfl⟩:=hrel
  by_cases hlt:k<8
  · have hp:2 ^ k≤2 ^ 7:=Nat.pow_le_pow_right (by decide) (by omega)
    have hx:(a ^^^ b) % 2 ^ k<2 ^ k:=Nat.mod_lt _ (Nat.pow_pos (by decide));have ha2:a / 2 ^ k≤a:=Nat.div_le_self _ _;have hb2:b / 2 ^ k≤b:=Nat.div_le_self _ _;have s1:=jH (xor_step a b k);have s2:=jH (half_step a k);have s3:=jH (half_step b k);have s4:=jH (Nat.pow_succ 2 k)
    by_cases he:a / 2 ^ k % 2=b / 2 ^ k % 2
    · have He:=jH he
      clear he;generalize hA:a / 2 ^ k=A at *;generalize hB:b / 2 ^ k=B at *;generalize hX:(a ^^^ b) % 2 ^ k=X at *;generalize hN:2 ^ k=N at *;clear hA hB hX hN;have hq:((A:Int) % 2 != (B:Int) % 2)=false:=by have:=He.out;simp;omega
      go_wp2
      go_round
      case rel=>exact ⟨k+1,hlt,by go_num,by rw [←s2.out];simp,by rw [←s3.out];simp,by rw [s1.out,if_pos He.out];simp,by rw [s4.out];simp⟩
      case measure=>simp [intOf];omega
    · have He:=jH he
      clear he;generalize hA:a / 2 ^ k=A at *;generalize hB:b / 2 ^ k=B at *;generalize hX:(a ^^^ b) % 2 ^ k=X at *;generalize hN:2 ^ k=N at *;clear hA hB hX hN;have hq:((A:Int) % 2 != (B:Int) % 2)=true:=by have:=He.out;simp;omega
      go_wp2
      go_round
      case rel=>exact ⟨k+1,hlt,by go_num,by rw [←s2.out];simp,by rw [←s3.out];simp,by rw [s1.out,if_neg He.out];simp,by rw [s4.out];simp⟩
      case measure=>simp [intOf];omega
  · obtain rfl:k=8:=by omega
    go_wp2
    go_ret
    have hv:a ^^^ b<2 ^ 8:=Nat.xor_lt_two_pow (by omega) (by omega);exact ⟨ret_int (by omega),rfl⟩
theorem xor_byte (h c:Nat) (hc:c<256):h - h % 256+((h % 256) ^^^ c)=h ^^^ c:=by
 have h1:(h ^^^ c) / 256=h / 256:=by
  have:=Nat.shiftRight_xor_distrib (a:=h) (b:=c) (i:=8);rw [Nat.shiftRight_eq_div_pow,Nat.shiftRight_eq_div_pow,Nat.shiftRight_eq_div_pow] at this;have h2:c / 2 ^ 8=0:=Nat.div_eq_of_lt hc;rw [h2,Nat.xor_zero] at this;exact this
 have h2:(h ^^^ c) % 256=(h % 256) ^^^ c:=by
  have:=Nat.xor_mod_two_pow (a:=h) (b:=c) (n:=8);rw [show (2:Nat) ^ 8=256 from rfl,Nat.mod_eq_of_lt hc] at this;exact this
 omega
end
section
open Go.RowKit Go.Lib
theorem refStep_any (h c:Nat) (w:World) (hh:h<18446744073709551616) (hc:c<256) :
 Calls Tryz.prog 210 #[.int .u64 h,.int .u8 c] w fun e w'=>e=.returned (.int .u64 (stepH h c:Nat))∧w=w':=by
 have hx:=xor_byte h c hc;have hlt:h ^^^ c<2 ^ 64:=Nat.xor_lt_two_pow (by omega) (by omega);have hb:(h % 256) ^^^ c<2 ^ 8:=Nat.xor_lt_two_pow (by omega) (by omega);have hl:h % 256<256:=by omega
 have hd:((h:Int) % 256)=((h % 256:Nat):Int):=by simp
 have hs:((h:Int) - ((h % 256:Nat):Int))+((((h % 256) ^^^ c:Nat)):Int)=((h ^^^ c:Nat):Int):=by omega
 have hst:IntKind.u64.wrap (((h ^^^ c:Nat):Int) * 1099511628211)=(stepH h c:Nat):=by
  rw [show ((h ^^^ c:Nat):Int) * 1099511628211=(((h ^^^ c) * prime64:Nat):Int) by rw [Int.natCast_mul];rfl,u64_wrap_mod];rfl
 have hle:h % 256≤h:=by omega
 generalize hm:h % 256=m at *;generalize hX:m ^^^ c=X at *;generalize hY:h ^^^ c=Y at *;have Hm:=jH hm;have HX:=jH hX;have Hst:=jH hst;have Hs:=jH hs;have Hd:=jH hd;clear hm hX hY hst hs hd hx
 go_enter Tryz.func210,Tryz.ntmps210
 go_wp2_with fail
 rw [Hd.out];refine (unlike_any m c _ hl hc).mono ?_;rw [HX.out];rintro e w' ⟨rfl,rfl⟩;have hbd:(h:Int) - (m:Int)+(X:Int)≤18446744073709551615:=by have:=Hs.out;omega
 go_wp2
 go_ret
 refine ⟨ret_int ?_,rfl⟩;rw [←Hst.out,←Hs.out]
def hG (f:Nat→Nat→Nat) (x h0:Nat):Nat→Nat
  | 0=>h0
  | k+1=>f (hG f x h0 k) (x / (72057594037927936 / 256 ^ k) % 256)
def hF (x h0 k:Nat):Nat:=hG stepH x h0 k
theorem hF_succ (x h0 k:Nat):hF x h0 (k+1)=stepH (hF x h0 k) (x / (72057594037927936 / 256 ^ k) % 256):=rfl
theorem hF_lt (x h0 k:Nat) (h:h0<18446744073709551616):hF x h0 k<18446744073709551616:=by
 cases k with
 | zero=>exact h
 | succ k=>rw [hF_succ];exact stepH_lt _ _
theorem sumL_nums (l:List Int) (h:∀n∈l,0≤n∧n<256) (h0:Nat):(strOfNums l).data.toList.foldl (fun h b=>stepH h b.toNat) h0=l.foldl (fun h n=>stepH h n.toNat) h0:=by
 rw [strOfNums_data]
 induction l generalizing h0 with
 | nil=>rfl
 | cons a l ih =>
   have ha:=h a (by simp);rw [List.map_cons,List.foldl_cons,List.foldl_cons];have e:(UInt8.ofNat a.toNat).toNat=a.toNat:=by
    rw [UInt8.toNat_ofNat'];omega
   rw [e];exact ih (fun n hn=>h n (by simp [hn])) _
theorem byteI_bd (x k:Nat):0≤byteI x k∧byteI x k<256:=by unfold byteI;omega
theorem byteI_nat (x k:Nat):(byteI x k).toNat=x / k % 256:=by unfold byteI;omega
theorem keyNums_hG (f:Nat→Nat→Nat) (hi lo b:Nat):(keyNums hi lo).foldl (fun h n=>f h n.toNat) b=hG f lo (hG f hi b 8) 8:=by
 simp only [keyNums,List.foldl_cons,List.foldl_nil,byteI_nat,hG,Nat.reducePow,Nat.reduceDiv]
theorem fnvKey_hF (hi lo:Nat):fnvKey hi lo=hF lo (hF hi basis64 8) 8:=by
 have h:∀n∈keyNums hi lo,0≤n∧n<256:=by
  intro n hn;simp only [keyNums,List.mem_cons,List.not_mem_nil,or_false] at hn
  rcases hn with rfl|rfl|rfl|rfl|rfl|rfl|rfl|rfl|rfl|rfl|rfl|rfl|rfl|rfl|rfl|rfl <;> exact byteI_bd _ _
 unfold fnvKey keyStr sumL;rw [sumL_nums _ h];exact keyNums_hG stepH hi lo basis64
theorem refFnvKey_any (hi lo:Nat) (w:World) (h1:hi<18446744073709551616) (h2:lo<18446744073709551616) :
 Calls Tryz.prog 180 #[keyV hi lo] w (jP w (.int .u64 (fnvKey hi lo:Nat))):=by
 have hk:=jH (fnvKey_hF hi lo);unfold keyV
 go_enter Tryz.func180,Tryz.ntmps180
 go_wp2
 go_loop [3,4,5] (fun h d i=>∃k:Nat,k≤8∧i=.int .i64 k∧d=.int .u64 (72057594037927936 / 256 ^ k:Nat)∧h=.int .u64 (hF hi basis64 k:Nat)) (fun _ _ i=>8 - (intOf i).toNat)
 case atStart=>exact ⟨0,by omega,rfl,by simp,rfl⟩
 case round =>
  obtain ⟨k,hk8,rfl,rfl,rfl⟩:=hrel
  by_cases hlt:k<8
  · have hst:hF hi basis64 (k+1)=stepH (hF hi basis64 k) (hi / (72057594037927936 / 256 ^ k) % 256):=hF_succ _ _ _
    have hd:72057594037927936 / 256 ^ k / 256=72057594037927936 / 256 ^ (k+1):=by rw [Nat.div_div_eq_div_mul,Nat.pow_succ]
    have hp:1≤72057594037927936 / 256 ^ k:=by
     have h3:256 ^ k≤256 ^ 7:=Nat.pow_le_pow_right (by decide) (by omega);exact (Nat.le_div_iff_mul_le (Nat.pow_pos (by decide))).2 (by omega)
    have hpu:72057594037927936 / 256 ^ k≤72057594037927936:=Nat.div_le_self _ _;have hl:=hF_lt hi basis64 k basis_lt;have Hst:=jH hst;have Hd:=jH hd;clear hst hd;generalize hx:72057594037927936 / 256 ^ k=D at *;generalize hy:hF hi basis64 k=H at *;clear hx hy;have hc:hi / D % 256<256:=Nat.mod_lt _ (by decide);have hdv:hi / D≤hi:=Nat.div_le_self _ _;have hdi:(hi:Int) / (D:Int)=((hi / D:Nat):Int):=by simp
    have hb1:0≤(hi:Int) / (D:Int):=by rw [hdi];exact Int.natCast_nonneg _
    have hb2:(hi:Int) / (D:Int)≤18446744073709551615:=by rw [hdi];omega
    have hm:(hi:Int) / (D:Int) % 256=((hi / D % 256:Nat):Int):=by rw [hdi];simp
    have Hm:=jH hm;clear hdi hm;go_wp2_with fail
    rw [Hm.out];refine (refStep_any H (hi / D % 256) _ hl hc).mono ?_;rintro e w' ⟨rfl,rfl⟩;go_wp2
    go_round
    case rel=>exact ⟨k+1,hlt,by go_num,by rw [←Hd.out];simp,by rw [Hst.out]⟩
    case measure=>simp [intOf];omega
  · obtain rfl:k=8:=by omega
    have hB:=hF_lt hi basis64 8 basis_lt;generalize hF hi basis64 8=B0 at *;go_wp2
    go_loop [3,4,6] (fun h d i=>∃k:Nat,k≤8∧i=.int .i64 k∧d=.int .u64 (72057594037927936 / 256 ^ k:Nat)∧h=.int .u64 (hF lo B0 k:Nat)) (fun _ _ i=>8 - (intOf i).toNat)
    case atStart=>exact ⟨0,by omega,rfl,by simp,rfl⟩
    case round =>
     obtain ⟨k,hk8',rfl,rfl,rfl⟩:=hrel
     by_cases hlt:k<8
     · have hst:hF lo B0 (k+1)=stepH (hF lo B0 k) (lo / (72057594037927936 / 256 ^ k) % 256):=hF_succ _ _ _
       have hd:72057594037927936 / 256 ^ k / 256=72057594037927936 / 256 ^ (k+1):=by rw [Nat.div_div_eq_div_mul,Nat.pow_succ]
       have hp:1≤72057594037927936 / 256 ^ k:=by
        have h3:256 ^ k≤256 ^ 7:=Nat.pow_le_pow_right (by decide) (by omega);exact (Nat.le_div_iff_mul_le (Nat.pow_pos (by decide))).2 (by omega)
       have hpu:72057594037927936 / 256 ^ k≤72057594037927936:=Nat.div_le_self _ _;have hl:=hF_lt lo B0 k hB;have Hst:=jH hst;have Hd:=jH hd;clear hst hd;generalize hx:72057594037927936 / 256 ^ k=D at *;generalize hy:hF lo B0 k=H at *;clear hx hy;have hc:lo / D % 256<256:=Nat.mod_lt _ (by decide);have hdv:lo / D≤lo:=Nat.div_le_self _ _;have hdi:(lo:Int) / (D:Int)=((lo / D:Nat):Int):=by simp
       have hb1:0≤(lo:Int) / (D:Int):=by rw [hdi];exact Int.natCast_nonneg _
       have hb2:(lo:Int) / (D:Int)≤18446744073709551615:=by rw [hdi];omega
       have hm:(lo:Int) / (D:Int) % 256=((lo / D % 256:Nat):Int):=by rw [hdi];simp
       have Hm:=jH hm;clear hdi hm;go_wp2_with fail
       rw [Hm.out];refine (refStep_any H (lo / D % 256) _ hl hc).mono ?_;rintro e w' ⟨rfl,rfl⟩;go_wp2
       go_round
       case rel=>exact ⟨k+1,hlt,by go_num,by rw [←Hd.out];simp,by rw [Hst.out]⟩
       case measure=>simp [intOf];omega
     · obtain rfl:k=8:=by omega
       go_wp2
       go_ret
       exact ⟨ret_int (by rw [hk.out]),balloc jR _⟩
end
end Go.Proofs.YtkcdhaallnhhmaaGreat
