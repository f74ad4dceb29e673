/- Part 6 of the proof: DecP, NPost, RPush, R08, RefRis, RIt, ISeq, IFifo, NPast, Stripe, IKeys, SKeys, Eqs, Alike, Stor, ShClone, Big, EvD. -/
import Derived.RangeFuncNested
import Derived.RangeFuncBound
import Derived.RangeFuncCalls
import Derived.RangeFuncLeaves
import Derived.Shelf.Abstract
import Derived.OwnWalkIn
import Derived.TacticsInMore
import Derived.LoopNIn
import Derived.LoopIn
import Derived.Maps.AppendAt
import Derived.Laws.Cover3
import Derived.Sort.MapsRangeIn
import Derived.Shelf.SlMaps.Clone
import Derived.Shelf.SlLaysW
import Derived.Deep.MidRow
import Derived.Deep.WholeRow
import Derived.Great.BuildSlice
import Derived.Test.YtkcdhaallnhhmaaGreatL04
namespace Go.Proofs.YtkcdhaallnhhmaaGreat
set_option linter.unusedSimpArgs false
set_option linter.unusedVariables false
set_option linter.unusedSectionVars false
set_option maxRecDepth 100000
set_option maxHeartbeats 16000000
section
open Go.RowKit Go.Lib
theorem meanN_least {l:List Int} (h:l≠[]) (m:Nat):totN l≤m * l.length ↔ meanN l≤m:=by
 have hp:0<l.length:=List.length_pos_iff.2 h;unfold meanN;rw [if_neg h]
 constructor
 · intro q
   apply Nat.le_of_lt_succ
   rw [Nat.div_lt_iff_lt_mul hp,Nat.succ_mul];omega
 · intro q
   have:=(Nat.div_lt_iff_lt_mul hp).1 (Nat.lt_succ_of_le q);rw [Nat.succ_mul] at this;omega
end
section
theorem post_named {P:Program} {f:Func} {Q:Ending→World→Prop} {e:Exit} {a:Act} {w:World} (h:∀W,W=w→bodyPost P f Q e a W):bodyPost P f Q e a w:=h w rfl
theorem then_named {K:Act→World→Prop} {Q:Exit→Act→World→Prop} {a:Act} {w:World} (h:∀W,W=w→Exit.then K Q Exit.normal a W):Exit.then K Q Exit.normal a w:=h w rfl
end
section
open Go.RowKit Go.Lib Go.Sort
def pushL (l:List Adv) (room:Nat) (x:Adv):List Adv:=(if l.length<room then l else l.drop 1)++[x]
end
section
open Go.RowKit Go.Lib Go.Sort
def RowG {α:Type} (P:Nat→Prop) (n:Nat) (f:α→List Value) (w:World) (v:Value) (l:List α):Prop :=
 RowIn n f w v l∧∀b o m c,v=.slice (some ⟨b,o,none⟩) m c→0<l.length→P b
theorem RowG.below {α:Type} {P:Nat→Prop} {n:Nat} {f:α→List Value} {w w':World} {v:Value} {l:List α} (h:RowG P n f w v l) (hb:jB w w'):RowG P n f w' v l:=⟨h.1.below hb,h.2⟩
theorem RowG.imp {α:Type} {P Q:Nat→Prop} {n:Nat} {f:α→List Value} {w:World} {v:Value} {l:List α} (h:RowG P n f w v l) (hi:∀b,P b→Q b):RowG Q n f w v l:=⟨h.1,fun b o m c e hn=>hi b (h.2 b o m c e hn)⟩
theorem RowG.nil {α:Type} {P:Nat→Prop} {n:Nat} {f:α→List Value} {w:World} {A:Option Addr} {c:Nat}:RowG P n f w (.slice A 0 c) ([]:List α):=⟨RowIn.nil,fun _ _ _ _ _ h=>absurd h (Nat.lt_irrefl _)⟩
def RSays {α:Type} (n:Nat) (f:α→List Value) (w:World) (l:List α) (e:Ending) (w':World):Prop :=
 ∃A c,e=.returned (.slice A l.length c)∧RowG (fun b=>w.heap.size≤b) n f w' (.slice A l.length c) l∧jB w w'
theorem RowG.own {α:Type} {t e:TypeId} {n bytes:Nat} {z:Value} {f:α→List Value} (E:EltOf t e n bytes z f) {base:Nat} {w:World} {v:Value} {l:List α} (h:OwnL f e n base w v l):RowG (fun b=>base≤b) n f w v l:=by
 refine ⟨h.row E,fun b o m c e hn=>?_⟩
 rcases h.2 with ⟨_,h0⟩|⟨g,cap,cur,hv',hg,_⟩
 · omega
 · rw [e] at hv'
   injection hv' with e1 _ _
   injection e1 with e1
   injection e1 with e1
   omega
theorem RowG.part {α:Type} {P:Nat→Prop} {n:Nat} {f:α→List Value} {w:World} {A A2:Option Addr} {m c c2:Nat} {l l2:List α} (h:RowG P n f w (.slice A m c) l) (hA:0<l.length→∀b o,A2=some ⟨b,o,none⟩→∃o',A=some ⟨b,o',none⟩) (hl:l2.length≤l.length) (h2:RowIn n f w (.slice A2 l2.length c2) l2):RowG P n f w (.slice A2 l2.length c2) l2:=by
 refine ⟨h2,fun b o m' c' e hn=>?_⟩;injection e with e1 _ _
 obtain ⟨o',ho⟩:=hA (by omega) b o e1;exact h.2 b o' m c (by rw [ho]) (by omega)
theorem row_from2 {α:Type} {t e:TypeId} {n bytes:Nat} {z:Value} {f:α→List Value} (E:EltOf t e n bytes z f) {w:World} {A:Option Addr} {c:Nat} {l:List α} (h:RowIn n f w (.slice A l.length c) l) (a:Nat) (ha:a≤l.length) :
 ∃(m:List α) (A2:Option Addr) (c2:Nat),m=l.drop a∧(0<l.length→∀b o,A2=some ⟨b,o,none⟩→∃o',A=some ⟨b,o',none⟩)∧(∀w':World,(Instr.sliceAt t (.slice A l.length c) (some (.int .i64 a)) none none).run Tryz.prog w'=.ok (.slice A2 m.length c2) w')∧RowIn n f w (.slice A2 m.length c2) m:=by
 obtain ⟨i0,hi0,hz0,hz1,hz2⟩:=info_parts E.hi;have hp:=RowIn.part h (i:=a) (j:=l.length) ha (Nat.le_refl _);rw [List.take_length] at hp;have hlen:(l.drop a).length=l.length - a:=by simp
 have hel:Tryz.prog.elem t=e:=by simp [Program.elem,E.ht]
 refine ⟨l.drop a,_,_,rfl,?_,fun w'=>?_,by rw [hlen];exact hp⟩
 · intro hn b o hb
   obtain ⟨A1,c1,hv,_,hr⟩:=h;injection hv with e1 _ _
   subst e1;obtain ⟨b1,o1,rfl,_⟩:=hr hn
   split at hb
   · exact ⟨o,hb⟩
   · rw [Option.map_some,add_at] at hb
     injection hb with hb
     injection hb with hb
     exact ⟨o1,by rw [hb]⟩
 rw [run_sliceAt_slice _ t _ _ _ _ (by rw [hel];exact E.ht),run_slice_l _ t A l.length c (by rw [hel];exact E.ht) _ _ (by omega) (by omega),hel];simp [sizeOf,typeInfo,hi0,hz1,Result.andThen,sliced,hlen]
theorem r8right_any (t v:Int) (w:World) :
 Calls Tryz.prog 139 #[.int .i64 t,.int .i64 v] w fun e w'=>e=.returned (.int .i64 (serE t v))∧w'=w:=by
 unfold serE
 by_cases h1:t<0
 · rw [if_pos h1]
   go_enter Tryz.func139,Tryz.ntmps139
   go_wp2
   go_ret
   exact ⟨rfl,rfl⟩
 · rw [if_neg h1]
   by_cases h2:v<0
   · rw [if_pos h2]
     go_enter Tryz.func139,Tryz.ntmps139
     go_wp2
     go_ret
     exact ⟨rfl,rfl⟩
   · rw [if_neg h2]
     go_enter Tryz.func139,Tryz.ntmps139
     go_wp2
     go_ret
     exact ⟨rfl,rfl⟩
theorem r14put_any (v:Value) (l:List Adv) (room:Nat) (x:Adv) (w:World) (hv:RowIn 5 advC w v l) (hl:l.length≤room) (h1:1≤room) (hr:room≤1000000) :
 Calls Tryz.prog 213 #[v,.int .i64 (room:Nat),.agg (advC x).toArray] w (RSays 5 advC w (pushL l room x)):=by
 obtain ⟨A,c,rfl⟩:=hv.form;have HV:=jH hv;clear hv;rw [show (advC x).toArray=#[.int .i64 x.tick,.int .i64 x.load,.int .i64 x.want,.int .i64 x.repl,.int .i64 x.why] from rfl]
 go_enter Tryz.func213,Tryz.ntmps213
 go_wp2_with (first
  | (at_builtin;refine wpList_appendL eAdv (by rfl) (by rfl) w.heap.size [] l (.slice (some ⟨w.heap.size+1,0,none⟩) 0 0) _ (by rfl) (by rfl) (OwnL.lit0 _ _ _ _ (by simp) (by simp)) (HV.out.below (balloc (balloc jR _) _)) (by simp;omega) (by simp;omega) ?_;intro out2 A2 c2 w2 hout2 hown2 hg2 _
     have hb2:jB w w2:=(balloc (balloc jR _) _).grown hg2 (by simp;omega) (fun r hr=>by have hr':some (w.heap.size+1)=some r:=hr;injection hr';omega);have hx2:w2.heap[w.heap.size]?=some (.cells #[.int .i64 x.tick,.int .i64 x.load,.int .i64 x.want,.int .i64 x.repl,.int .i64 x.why] 74 (0,0)):=(hg2.block w.heap.size (by simp;omega) (fun e=>absurd e (by simp [Value.ownBlock]))).trans ((Below.heap_alloc _ _ _ (by simp)).trans (heap_alloc_new _ _))
     obtain ⟨a1,a2,a3⟩:=box_cells jR hx2;have HW2:=jH hown2;have HO2:=jH hout2;have HB2:=jH hb2;clear hown2 hout2 hg2 hb2 hx2)
  | (at_builtin;refine wpList_appendL eAdv (by rfl) (by rfl) w.heap.size out2 [x] _ _ (by rfl) (by rfl) (HW2.out.below (balloc jR _)) (RowIn.lit w2 x _ _ _ rfl rfl) (by simp [HO2.out];omega) (by have:=HB2.out.size;simp;omega) ?_;intro out3 A3 c3 w3 hout3 hown3 hg3 _
     have hb3:jB w w3:=(balloc HB2.out _).trans (grown_own hg3 HW2.out (by have:=HB2.out.size;simp;omega));have hl3:(out3.length:Int)=(l.length:Int)+1:=by rw [hout3,HO2.out];simp
     obtain ⟨m,A4,c4,hm,hA,hrun,hrow⟩:=row_from2 eAdv (hown3.row eAdv) 1 (by rw [hout3];simp);simp only [show ((1:Nat):Int)=1 from rfl] at hrun
     have HA:=jH hA;have HW3:=jH hown3;have HO3:=jH hout3;have HB3:=jH hb3;have HM:=jH hm;have HR:=jH hrow;clear hown3 hout3 hg3 hb3 hm hrow hA))
 · go_ret
   have e:m=pushL l room x:=by rw [HM.out,HO3.out,HO2.out];unfold pushL;rw [if_neg (by omega)];cases l with
    | nil=>simp at *;omega
    | cons a l=>simp
   have hrow:=HR.out;have hg3:=RowG.own eAdv HW3.out;rw [←e];exact ⟨_,_,rfl,RowG.part hg3 HA.out (by rw [HM.out];simp) hrow,HB3.out⟩
 · go_ret
   have e:out3=pushL l room x:=by rw [HO3.out,HO2.out];unfold pushL;rw [if_pos (by omega)];simp
   rw [←e];exact ⟨_,_,rfl,RowG.own eAdv HW3.out,HB3.out⟩
def SortedAt (l:List Smp) (t:Int) (p:Nat):Prop:=p≤l.length∧(∀i (h:i<l.length),i<p ↔ l[i].1<t)
theorem r8trim_any (v:Value) (l:List Smp) (t:Int) (w:World) (hv:RowIn 2 smpC w v l) (hs:SortedAt l t (placeS l t)) (hl:l.length≤1000000) :
 Calls Tryz.prog 212 #[v,.int .i64 t] w (RSays 2 smpC w (l.drop (placeS l t))):=by
 obtain ⟨A,c,rfl⟩:=hv.form;have HV:=jH hv;have HS:=jH hs;clear hv hs;generalize placeS l t=p at HS ⊢
 go_enter Tryz.func212,Tryz.ntmps212
 go_wp2
 go_loopg [5,6] l.length (fun g s5 s6 wr=>∃k:Nat,k≤l.length∧l.length - k≤g∧s6=.int .i64 k∧OwnL smpC 118 2 w.heap.size wr s5 ((l.take k).drop p)∧jB w wr)
 case atStart=>exact ⟨0,Nat.zero_le _,Nat.le_refl _,rfl,by rw [List.take_zero,List.drop_nil];exact OwnL.nil _ _,jR⟩
 case round =>
  obtain ⟨k,hk,hg,rfl,hown,hb⟩:=hrel;obtain ⟨A5,c5,rfl⟩:=hown.form;have HO:=jH hown;clear hown
  by_cases hlt:k<l.length
  · obtain ⟨b,o,rfl,hbw,hc⟩:=HV.out.at_ hlt
    have c1:wr.cell? ⟨b,o+k * 2,none⟩=some (.int .i64 l[k].1):=(hb.cell (p:=⟨b,_,none⟩) hbw).trans (hc 0 _ rfl);have c2:wr.cell? ⟨b,o+k * 2+1,none⟩=some (.int .i64 l[k].2):=(hb.cell (p:=⟨b,_,none⟩) hbw).trans (hc 1 _ rfl);have hsp:=HS.out.2 k hlt;have hnext:p≤k→(l.take (k+1)).drop p=(l.take k).drop p++[l[k]]:=fun hp=>by
     rw [List.take_succ_eq_append_getElem hlt,List.drop_append_of_le_length (by simp;omega)]
    have hsame:k<p→(l.take (k+1)).drop p=(l.take k).drop p:=fun hp=>by
     rw [List.drop_eq_nil_of_le (by simp;omega),List.drop_eq_nil_of_le (by simp;omega)]
    have HN:=jH hnext;have HM:=jH hsame;clear hc hnext hsame;generalize l[k]=x at c1 c2 hsp HN
    by_cases hp:k<p
    · have hlt2:x.1<t:=hsp.1 hp
      clear hsp;go_wp2
      go_roundg (l.length - (k+1))
      case measure=>omega
      case rel=>exact ⟨k+1,hlt,Nat.le_refl _,by go_num,by rw [HM.out hp];exact HO.out,hb⟩
    · have hge:t≤x.1:=by have:=mt hsp.2 hp;omega
      clear hsp
      go_wp2_with (at_builtin;refine wpList_appendL eSmp (by rfl) (by rfl) w.heap.size ((l.take k).drop p) [x] _ _ (by rfl) (by rfl) (HO.out.below (balloc jR _)) (RowIn.lit wr x _ _ _ rfl rfl) (by simp;omega) (by have:=hb.size;simp;omega) ?_;intro out2 A2 c2' w2 hout2 hown2 hg2 _
                   have hb2:jB w w2:=(balloc hb _).trans (grown_own hg2 HO.out (by have:=hb.size;simp;omega));have HW2:=jH hown2;have HO2:=jH hout2;clear hown2 hout2 hg2)
      go_roundg (l.length - (k+1))
      case measure=>omega
      case rel=>exact ⟨k+1,hlt,Nat.le_refl _,by go_num,by rw [HN.out (by omega),←HO2.out];exact HW2.out,hb2⟩
  · obtain rfl:k=l.length:=by omega
    rw [List.take_length] at HO;go_wp2
    go_ret
    have hlen:(l.drop p).length=(List.drop p (List.take l.length l)).length:=by rw [List.take_length]
    rw [List.take_length];exact ⟨_,_,rfl,RowG.own eSmp HO.out,hb⟩
end
section
open Go.RowKit Go.Lib
theorem keepS {wo a b:World} {n:Nat} {S:World→Prop} {p q r t:Prop} (H:∀W,jB wo W→S W) (h:p∧q∧r∧t∧jB wo a) (k:Below n a b) (e:n=a.heap.size):S b:=by
 subst e;exact H b (bthen h.2.2.2.2 k)
end
section
open Go.RowKit Go.Lib Go.Sort
structure It where
 key:Ky
 sA:Option Addr
 sc:Nat
 pA:Option Addr
 pc:Nat
 nd:Nd
def loadC (x:It):List Value:=[.slice x.sA x.nd.smp.length x.sc,.slice x.pA x.nd.past.length x.pc,.int .i64 x.nd.pol.mn,.int .i64 x.nd.pol.mx,.int .i64 x.nd.pol.tg,.int .i64 x.nd.pol.tol,.int .i64 x.nd.pol.win,.int .i64 x.nd.pol.hold,.bool x.nd.ruled,.int .i64 (x.nd.ver:Nat)]
def itC (x:It):List Value:=[.int .u64 x.key.1,.int .u64 x.key.2,.slice x.sA x.nd.smp.length x.sc,.slice x.pA x.nd.past.length x.pc,.int .i64 x.nd.pol.mn,.int .i64 x.nd.pol.mx,.int .i64 x.nd.pol.tg,.int .i64 x.nd.pol.tol,.int .i64 x.nd.pol.win,.int .i64 x.nd.pol.hold,.bool x.nd.ruled,.int .i64 (x.nd.ver:Nat)]
theorem eIt:EltOf 174 242 12 128 (.agg #[.int .u64 0,.int .u64 0,.slice none 0 0,.slice none 0 0,.int .i64 0,.int .i64 0,.int .i64 0,.int .i64 0,.int .i64 0,.int .i64 0,.bool false,.int .i64 0]) itC :=
 ⟨by kernel_rfl,by kernel_rfl,rfl,by decide,by decide,fun _=>rfl,fun x u hu=>by
  simp only [itC,List.mem_cons,List.not_mem_nil,or_false] at hu
  rcases hu with rfl|rfl|rfl|rfl|rfl|rfl|rfl|rfl|rfl|rfl|rfl|rfl <;> rfl⟩
def LoadIn (P:Nat→Prop) (w:World) (x:It):Prop:=RowG P 2 smpC w (.slice x.sA x.nd.smp.length x.sc) x.nd.smp∧RowG P 5 advC w (.slice x.pA x.nd.past.length x.pc) x.nd.past
theorem LoadIn.below {P:Nat→Prop} {w w':World} {x:It} (h:LoadIn P w x) (hb:jB w w'):LoadIn P w' x:=⟨h.1.below hb,h.2.below hb⟩
theorem LoadIn.imp {P Q:Nat→Prop} {w:World} {x:It} (h:LoadIn P w x) (hi:∀b,P b→Q b):LoadIn Q w x:=⟨h.1.imp hi,h.2.imp hi⟩
def ItemsIn (P:Nat→Prop) (w:World) (v:Value) (l:List It):Prop:=RowG P 12 itC w v l∧∀x∈l,LoadIn P w x
theorem ItemsIn.imp {P Q:Nat→Prop} {w:World} {v:Value} {l:List It} (h:ItemsIn P w v l) (hi:∀b,P b→Q b):ItemsIn Q w v l:=⟨h.1.imp hi,fun x hx=>(h.2 x hx).imp hi⟩
theorem ItemsIn.below {P:Nat→Prop} {w w':World} {v:Value} {l:List It} (h:ItemsIn P w v l) (hb:jB w w'):ItemsIn P w' v l:=⟨h.1.below hb,fun x hx=>(h.2 x hx).below hb⟩
def atI (l:List It) (k:Ky):Nat:=(l.takeWhile (fun x=>ltK x.key k)).length
theorem atI_le (l:List It) (k:Ky):atI l k≤l.length:=by
 unfold atI;exact (List.takeWhile_prefix _).length_le
theorem atI_lt {l:List It} {k:Ky}:∀{i:Nat} (h:i<l.length),i<atI l k→ltK l[i].key k=true:=by
 induction l with
 | nil=>intro i h;simp at h
 | cons a l ih =>
   intro i h hi
   by_cases ha:ltK a.key k=true
   · have e:atI (a::l) k=atI l k+1:=by simp [atI,ha]
     rw [e] at hi
     cases i with
     | zero=>exact ha
     | succ i=>simpa using ih (by simpa using h) (by omega)
   · have e:atI (a::l) k=0:=by simp [atI,ha]
     omega
theorem atI_ge {l:List It} {k:Ky} (h:atI l k<l.length):ltK l[atI l k].key k=false:=by
 induction l with
 | nil=>simp at h
 | cons a l ih =>
   by_cases ha:ltK a.key k=true
   · have e:atI (a::l) k=atI l k+1:=by simp [atI,ha]
     simp only [e] at h ⊢
     simp only [List.getElem_cons_succ]
     exact ih (by simpa using h)
   · have e:atI (a::l) k=0:=by simp [atI,ha]
     simp only [e,List.getElem_cons_zero]
     simpa using ha
theorem iat_any (v:Value) (l:List It) (k:Ky) (w:World) (hv:RowIn 12 itC w v l) (hl:l.length≤1000000) (hok:∀x∈l,x.key.ok) (hk:k.ok) :
 Calls Tryz.prog 214 #[v,.agg #[.int .u64 k.1,.int .u64 k.2]] w (jP w (.int .i64 (atI l k:Nat))):=by
 obtain ⟨A,c,rfl⟩:=hv.form;have HV:=jH hv;have HK:=jH hok;clear hv hok
 go_enter Tryz.func214,Tryz.ntmps214
 go_wp2_with fail
 refine name_world ?_;intro W hW;obtain ⟨k0,k1,hs,hb⟩:=box_one w k W hW;clear hW;go_wp2
 go_loopg [5] l.length (fun g s5 wr=>∃a:Nat,a≤atI l k∧l.length - a≤g∧s5=.int .i64 a∧jB W wr)
 case atStart=>exact ⟨0,Nat.zero_le _,Nat.le_refl _,rfl,jR⟩
 case round =>
  obtain ⟨a,ha,hga,rfl,hbi⟩:=hrel
  by_cases hal:a<l.length
  · obtain ⟨b,o,rfl,hbw,hc⟩:=HV.out.at_ hal
    have c1:w.cell? ⟨b,o+a * 12,none⟩=some (.int .u64 l[a].key.1):=hc 0 _ rfl;have c2:w.cell? ⟨b,o+a * 12+1,none⟩=some (.int .u64 l[a].key.2):=hc 1 _ rfl;have hyok:l[a].key.ok:=HK.out _ (List.getElem_mem hal);have hless:ltK l[a].key k=decide (a<atI l k):=by
     by_cases h:a<atI l k
     · rw [atI_lt hal h];simp [h]
     · have e:a=atI l k:=by omega
       subst e;rw [atI_ge hal];simp
    have HL:=jH hless;generalize l[a].key=y at c1 c2 hyok hless HL;have HSB:=jH (show ∀U,jB W U→(U.cell? ⟨w.heap.size,0,none⟩=some (.int .u64 k.1)∧U.cell? ⟨w.heap.size,1,none⟩=some (.int .u64 k.2)∧U.cell? ⟨b,o+a * 12,none⟩=some (.int .u64 y.1)∧U.cell? ⟨b,o+a * 12+1,none⟩=some (.int .u64 y.2)∧jB W U) from fun U hU =>
     ⟨(hU.cell (p:=⟨w.heap.size,0,none⟩) (by simp;omega)).trans k0,(hU.cell (p:=⟨w.heap.size,1,none⟩) (by simp;omega)).trans k1,((bthen hb hU).cell (p:=⟨b,_,none⟩) hbw).trans c1,((bthen hb hU).cell (p:=⟨b,_,none⟩) hbw).trans c2,hU⟩)
    have HS0:=HSB.out _ hbi.drew;clear hc c1 c2 hless k0 k1
    by_cases hlt:a<atI l k
    · have Hly:Hid (ltK y k=true):=jH (by rw [HL.out];simp [hlt])
      clear HL;go_wp2_with fail
      go_region_held3 (fun w'=>w'.cell? ⟨w.heap.size,0,none⟩=some (.int .u64 k.1)∧w'.cell? ⟨w.heap.size,1,none⟩=some (.int .u64 k.2)∧w'.cell? ⟨b,o+a * 12,none⟩=some (.int .u64 y.1)∧w'.cell? ⟨b,o+a * 12+1,none⟩=some (.int .u64 y.2)∧jB W w')
        (first|assumption|exact keepS HSB.out (by assumption) hb1 rfl)
        (first|(go_at_call 232;refine (less_any y k _ hyok hk).mono ?_;rw [Hly.out];rintro e w1 ⟨rfl,hb1⟩))
      obtain ⟨_,_,_,_,r5⟩:=‹w1.cell? _=_∧_›;go_wp2
      go_roundg (l.length - (a+1))
      case measure=>omega
      case rel=>exact ⟨a+1,hlt,Nat.le_refl _,by go_num,r5⟩
    · have Hly:Hid (ltK y k=false):=jH (by rw [HL.out];simp [hlt])
      clear HL;go_wp2_with fail
      go_region_held3 (fun w'=>w'.cell? ⟨w.heap.size,0,none⟩=some (.int .u64 k.1)∧w'.cell? ⟨w.heap.size,1,none⟩=some (.int .u64 k.2)∧w'.cell? ⟨b,o+a * 12,none⟩=some (.int .u64 y.1)∧w'.cell? ⟨b,o+a * 12+1,none⟩=some (.int .u64 y.2)∧jB W w')
        (first|assumption|exact keepS HSB.out (by assumption) hb1 rfl)
        (first|(go_at_call 232;refine (less_any y k _ hyok hk).mono ?_;rw [Hly.out];rintro e w1 ⟨rfl,hb1⟩))
      obtain ⟨_,_,_,_,r5⟩:=‹w1.cell? _=_∧_›;go_wp2
      go_ret
      exact ⟨by first|rfl|(rw [show a=atI l k by omega];rfl),bthen hb r5⟩
  · have hle:=atI_le l k
    obtain rfl:a=l.length:=by omega
    have E:=jH (show atI l k=l.length by omega);clear ha hle;go_wp2_with fail
    go_quiet (fail)
    go_wp2
    go_ret
    exact ⟨by rw [E.out];rfl,bthen hb (below_drewN hbi _)⟩
end
section
open Go.RowKit Go.Lib Go.Shelf
attribute [local go_sem] Oper.semAt_some
end
section
open Go.RowKit Go.Lib Go.Shelf
attribute [local go_sem] Oper.semAt_some
end
section
open Go.RowKit Go.Lib Go.Shelf
attribute [local go_sem] Oper.semAt_some
end
section
open Go.RowKit Go.Lib Go.Sort
abbrev NE:=Nat × Nd × List Nat
end
section
open Go.RowKit Go.Lib Go.Shelf
attribute [local go_sem] Oper.semAt_some
section
variable {F:Fence} {nF:Nat} {P:Program} {ops:Array Oper} {rest:List Oper} {o:Oper} {a:Act} {w:World} {Q:Exit→Act→World→Prop}
variable {α β:Type} [DecidableEq α] {K:α→Value} {V:β→Value} {b r:Nat} {es pre:List (α × β)} {cnt:Nat}
end
end
section
open Go.RowKit Go.Lib Go.Shelf
attribute [local go_sem] Oper.semAt_some
end
section
open Go.RowKit Go.Lib Go.Sort
deriving instance DecidableEq for Adv
end
section
open Go.RowKit Go.Lib Go.Sort
deriving instance DecidableEq for Pol
end
section
open Go.RowKit Go.Lib
def stor (w:World) (B i:Nat):List Value→World
  | []=>w
  | v::vs=>stor (w.setCell ⟨B,i,none⟩ v) B (i+1) vs
theorem stor_one {w:World} {B i:Nat} {cs:Array Value} {T:TypeId} {fr:Nat × Nat} {v:Value} (h:w.heap[B]?=some (.cells cs T fr)):(w.setCell ⟨B,i,none⟩ v).heap[B]?=some (.cells (cs.setIfInBounds i v) T fr):=by
 obtain ⟨hlt,hk⟩:=Array.getElem?_eq_some_iff.1 h
 show (w.heap.modify B _)[B]?=_
 rw [Array.getElem?_eq_getElem (by rw [Array.size_modify];exact hlt),Array.getElem_modify_self,hk];simp
theorem stor_other {w:World} {B i k:Nat} {v:Value} (h:k≠B):(w.setCell ⟨B,i,none⟩ v).heap[k]?=w.heap[k]?:=by
 show (w.heap.modify B _)[k]?=_
 by_cases hk:k<w.heap.size
 · rw [Array.getElem?_eq_getElem (by rw [Array.size_modify];exact hk),Array.getElem_modify_of_ne (Ne.symm h),Array.getElem?_eq_getElem hk]
 · rw [Array.getElem?_eq_none (by rw [Array.size_modify];omega),Array.getElem?_eq_none (by omega)]
theorem stor_all:∀(vs:List Value) (w:World) (B i:Nat) (cs:Array Value) (T:TypeId),w.heap[B]?=some (.cells cs T (0,0))→cs.size=i+vs.length →
    (stor w B i vs).heap[B]?=some (.cells ((cs.toList.take i++vs).toArray) T (0,0))∧(∀k,k≠B→(stor w B i vs).heap[k]?=w.heap[k]?)∧(stor w B i vs).heap.size=w.heap.size∧∀n,n≤B→Below n w (stor w B i vs):=by
  intro vs
  induction vs with
  | nil =>
    intro w B i cs T h hn;refine ⟨?_,fun _ _=>rfl,rfl,fun n _=>jR⟩;simp only [List.length_nil,Nat.add_zero] at hn
    rw [stor,h,List.append_nil,List.take_of_length_le (by simp;omega)]
  | cons v vs ih =>
    intro w B i cs T h hn;simp only [List.length_cons] at hn
    have h1:=stor_one (i:=i) (v:=v) h;obtain ⟨a1,a2,a3,a4⟩:=ih (w.setCell ⟨B,i,none⟩ v) B (i+1) _ T h1 (by simp;omega);refine ⟨?_,fun k hk=>(a2 k hk).trans (stor_other hk),a3.trans (by simp [World.setCell]),fun n hn=>(jR.setCell hn _).trans (a4 n hn)⟩;rw [stor,a1]
    congr 3
    rw [Array.toList_setIfInBounds,List.take_add_one,List.take_set_of_le (Nat.le_refl _)];rw [List.getElem?_set_self (by simp;omega)];simp
theorem stor_at {w:World} {B:Nat} {cs:Array Value} {T:TypeId} (h:w.heap[B]?=some (.cells cs T (0,0))) (vs:List Value) (hn:cs.size=vs.length):∀W,W=stor w B 0 vs →
    W.heap[B]?=some (.cells vs.toArray T (0,0))∧(∀k,k≠B→W.heap[k]?=w.heap[k]?)∧W.heap.size=w.heap.size∧∀n,n≤B→Below n w W:=by
  rintro W rfl;have:=stor_all vs w B 0 cs T h (by omega)
  simpa using this
end
section
open Go.Shelf
def cloneM_ren:Go.Shelf.Ren:=⟨fun|5=>49|7=>96|n=>n,fun|23=>94|25=>9|3=>50|4=>4|20=>20|n=>n,fun|n=>n⟩
theorem cloneM:Go.Proofs.SlLaysW.n5 Tryz.prog cloneM_ren:={
  mixed:=by kernel_rfl
  f5:=⟨Tryz.f49.name,by decide,Tryz.func49.trans (congrArg some (by kernel_rfl))⟩
  f7:=Tryz.func96.trans (congrArg some (by kernel_rfl))
  t4:=Tryz.underlying4
  a4:=Tryz.isAgg4
  z4:=Tryz.sizeOf4
  v4:=Tryz.zeroValue4
  t20:=Tryz.underlying20
  a20:=Tryz.isAgg20
  z20:=Tryz.sizeOf20
  v20:=Tryz.zeroValue20
  t23:=Tryz.underlying94
  a23:=Tryz.isAgg94
  z23:=Tryz.sizeOf94
  v23:=Tryz.zeroValue94 }
end
section
open Go.RowKit Go.Lib
section
variable {P:Program}
theorem store_new (w:World) (t:TypeId) (cs:List Value) (n:Nat) (hn:cs.length=n) (hi:(P.info? t).map (·.size)=some n) (h1:∀v∈cs,v.oneCell'=true) (c:Array Value) (ho:c.size=n) :
 (storeCells ⟨w.heap.size,0,none⟩ cs).run P (w.alloc (.cells c t))=.ok () (w.alloc (.cells cs.toArray t)):=by
 have:=run_storeCells_new (P:=P) w t c cs.toArray (by rw [List.size_toArray,hn];exact hi) (by simp;omega) (all_oneCell_toArray h1)
 simpa using this
theorem wpList_load_list {ops:Array Oper} {rest:List Oper} {op:Oper} {a:Act} {w:World} {Q:Exit→Act→World→Prop} (hgd:op.guard=none) (ty:TypeId) (x:Operand) (ho:op.op=.load ty x)
    (b o:Nat) (cs:List Value) (hc:∀j v,cs[j]?=some v→w.cell? ⟨b,o+j,none⟩=some v) (hx:a.eval x=.pointer (some ⟨b,o,none⟩)) (d:TypeDesc)
    (hu:P.underlying ty=some d) (hd:d.isRow=true) (hi:(P.info? ty).map (·.size)=some cs.length)
    (h:wpList P ops Q rest (a.put op.dst (.agg cs.toArray)) w):wpList P ops Q (op::rest) a w :=
  wpList_load_mid hgd ty x ho b o hx cs d hc hu hd hi h
theorem new_cells (w:World) (cs:List Value) (T:TypeId):∀j v,cs[j]?=some v→(w.alloc (.cells cs.toArray T)).cell? ⟨w.heap.size,0+j,none⟩=some v:=by
 intro j v hj;rw [Nat.zero_add,cell_of_row _ _ j cs.toArray T (0,0) (heap_alloc_last w _)]
 simpa using hj
end
theorem build_one {α:Type} {t e:TypeId} {n bytes:Nat} {z:Value} {f:α→List Value} (E:EltOf t e n bytes z f) (hn:n≤1000) (cs:List Value) (hcs:cs.length=n) (w:World) :
 (Instr.buildSlice t 1 #[(0,.agg cs.toArray)]).run Tryz.prog w=.ok (.slice (some ⟨w.heap.size,0,none⟩) 1 1) (w.alloc (.cells cs.toArray e)):=by
 have hi:=E.hi;have hz:=E.hz;have h0:=E.hn
 cases hq:Tryz.prog.info? e with
 | none=>simp [hq] at hi
 | some ie =>
   simp only [hq,Option.map_some,Option.some.injEq,Prod.mk.injEq] at hi
   obtain ⟨h1,h2,h3⟩:=hi;refine run_buildSlice w t e 1 _ cs.toArray ie z E.ht hq h1 (by rw [h2];omega) (by rw [h2];omega) ?_;have:=Great.fill_whole (s:=n) h0 [.agg cs.toArray] ((Array.range (1 * n)).map (z.cells[· % z.cells.size]!)) (by simp [Value.cells,hcs]) (by simp);rw [h2]
   simpa [Value.cells] using this
theorem wpList_build_one {α:Type} {t e:TypeId} {n bytes:Nat} {z:Value} {f:α→List Value} (E:EltOf t e n bytes z f) (hn:n≤1000) {ops:Array Oper} {rest:List Oper} {o:Oper} {a:Act} {w:World} {Q:Exit→Act→World→Prop} (hg:o.guard=none)
    (x:Operand) (ho:o.op=.buildSlice t 1 #[(0,x)]) (cs:List Value) (hcs:cs.length=n) (hx:a.eval x=.agg cs.toArray)
    (h:wpList Tryz.prog ops Q rest (a.put o.dst (.slice (some ⟨w.heap.size,0,none⟩) 1 1)) (w.alloc (.cells cs.toArray e))):wpList Tryz.prog ops Q (o::rest) a w :=
  wpList_plain hg fun _ hK=>by
   unfold Oper.wp execOp;simp only [ho,hx,Sem.run_bind,List.map_toArray,List.map_cons,List.map_nil,build_one E hn cs hcs w,Result.andThen_ok]
   exact hK _ _ h
end
section
open Go.RowKit Go.Lib
structure EvtD where
 kind:Int
 task:Int
 nth:Int
 call:CallD
 err:Int
 epoch:Int
 handle:Int
 cnt:Int
 sum:Int
 least:Int
 most:Int
 mean:Int
 atick:Int
 aload:Int
 awant:Int
 arepl:Int
 awhy:Int
 hi:Nat
 lo:Nat
 ntick:Int
 nload:Int
 nwant:Int
 nrepl:Int
 nwhy:Int
def EvtD.okR (e:EvtD):Prop:=I64 e.err∧I64 e.epoch∧I64 e.handle∧I64 e.cnt∧I64 e.sum∧I64 e.least∧I64 e.most∧I64 e.mean∧I64 e.atick∧I64 e.aload∧I64 e.awant∧I64 e.arepl∧I64 e.awhy
def EvtD.okA (e:EvtD):Prop:=I64 e.ntick∧I64 e.nload∧I64 e.nwant∧I64 e.nrepl∧I64 e.nwhy
structure EvtD.ok (e:EvtD):Prop where
 kind:I64 e.kind
 task:I64 e.task
 nth:I64 e.nth
 call:e.call.ok
 rep:e.okR
 hi:e.hi<18446744073709551616
 lo:e.lo<18446744073709551616
 adv:e.okA
def evC (e:EvtD):List Value:=[.int .i64 e.kind,.int .i64 e.task,.int .i64 e.nth,.int .i64 e.call.kind,.string e.call.id,.int .i64 e.call.tick,.int .i64 e.call.val,.int .i64 e.call.handle,.int .i64 e.call.pol.mn,.int .i64 e.call.pol.mx,.int .i64 e.call.pol.tg,.int .i64 e.call.pol.tol,.int .i64 e.call.pol.win,.int .i64 e.call.pol.hold,.int .i64 e.err,.int .i64 e.epoch,.int .i64 e.handle,.int .i64 e.cnt,.int .i64 e.sum,.int .i64 e.least,.int .i64 e.most,.int .i64 e.mean,.int .i64 e.atick,.int .i64 e.aload,.int .i64 e.awant,.int .i64 e.arepl,.int .i64 e.awhy,.int .u64 (e.hi:Nat),.int .u64 (e.lo:Nat),.int .i64 e.ntick,.int .i64 e.nload,.int .i64 e.nwant,.int .i64 e.nrepl,.int .i64 e.nwhy]
def evV (e:EvtD):Value:=.agg #[.int .i64 e.kind,.int .i64 e.task,.int .i64 e.nth,.int .i64 e.call.kind,.string e.call.id,.int .i64 e.call.tick,.int .i64 e.call.val,.int .i64 e.call.handle,.int .i64 e.call.pol.mn,.int .i64 e.call.pol.mx,.int .i64 e.call.pol.tg,.int .i64 e.call.pol.tol,.int .i64 e.call.pol.win,.int .i64 e.call.pol.hold,.int .i64 e.err,.int .i64 e.epoch,.int .i64 e.handle,.int .i64 e.cnt,.int .i64 e.sum,.int .i64 e.least,.int .i64 e.most,.int .i64 e.mean,.int .i64 e.atick,.int .i64 e.aload,.int .i64 e.awant,.int .i64 e.arepl,.int .i64 e.awhy,.int .u64 (e.hi:Nat),.int .u64 (e.lo:Nat),.int .i64 e.ntick,.int .i64 e.nload,.int .i64 e.nwant,.int .i64 e.nrepl,.int .i64 e.nwhy]
theorem evC_one (e:EvtD):∀v∈evC e,v.oneCell'=true:=by
 intro v hv;unfold evC at hv;simp only [List.mem_cons,List.not_mem_nil,or_false] at hv
 rcases hv with rfl|rfl|rfl|rfl|rfl|rfl|rfl|rfl|rfl|rfl|rfl|rfl|rfl|rfl|rfl|rfl|rfl|rfl|rfl|rfl|rfl|rfl|rfl|rfl|rfl|rfl|rfl|rfl|rfl|rfl|rfl|rfl|rfl|rfl <;> rfl
end
end Go.Proofs.YtkcdhaallnhhmaaGreat
