/- Part 16 of the proof: QState, R18, SKeys, SLaw2, Eqs, Win5, Stead, CallRef. -/
import Derived.Test.YtpmfcpdelkchaaaGreatL10
import Derived.Test.YtpmfcpdelkchaaaGreatL15
namespace Go.Proofs.YtpmfcpdelkchaaaGreat
set_option linter.unusedSimpArgs false
set_option linter.unusedVariables false
set_option linter.unusedSectionVars false
set_option maxRecDepth 100000
set_option maxHeartbeats 16000000
section
open Go.RowKit Go.Lib
open Go.ChangeMaps (setBlock)
open Go.Maps (Keyed)
abbrev KO:={ p:Ky // p.ok }
theorem setBlock_other {w:World} {d k:Nat} {o:Obj} (h:k≠d):(setBlock w d o).heap[k]?=w.heap[k]?:=by
 simp [setBlock,Array.getElem?_setIfInBounds,Ne.symm h]
theorem setBlock_size {w:World} {d:Nat} {o:Obj}:(setBlock w d o).heap.size=w.heap.size:=by simp [setBlock]
end
section
open Go.RowKit Go.Lib Go.Sort
def absI (x:It):Ky × Nd:=(x.key,x.nd)
def Do18Says (P:Nat→Prop) (w:World) (l':List (Ky × Nd)) (e1 n more:Int) (e:Ending) (w':World):Prop :=
 ∃out A c,e=.returned (.tuple #[.slice A out.length c,.int .i64 e1,.int .i64 n,.int .i64 more])∧ItemsIn P w' (.slice A out.length c) out∧out.map absI=l'∧jB w w'
theorem Do18Says.same {P:Nat→Prop} {w w':World} {l:List It} {A:Option Addr} {c:Nat} (h:ItemsIn P w (.slice A l.length c) l) (hb:jB w w') (e1 n more:Int):Do18Says P w (l.map absI) e1 n more (.returned (.tuple #[.slice A l.length c,.int .i64 e1,.int .i64 n,.int .i64 more])) w' :=
 ⟨l,A,c,rfl,h.below hb,rfl,hb⟩
def act18C (k:Ky) (a:Act17):List Value:=[.int .u64 k.1,.int .u64 k.2,.int .i64 a.kind,.int .i64 a.smp.1,.int .i64 a.smp.2,.int .i64 a.pol.mn,.int .i64 a.pol.mx,.int .i64 a.pol.tg,.int .i64 a.pol.tol,.int .i64 a.pol.win,.int .i64 a.pol.hold,.int .i64 a.adv.tick,.int .i64 a.adv.load,.int .i64 a.adv.want,.int .i64 a.adv.repl,.int .i64 a.adv.why]
end
section
open Go.RowKit Go.Lib Go.Shelf
attribute [local go_sem] Oper.semAt_some
end
section
open Go.RowKit Go.Lib Go.Sort
theorem getL_mem {l:List It} {k:Ky} (h:hasI l k=true):(k,(getL l k).nd)∈l.map absI:=by
 obtain ⟨hl,hg⟩:=getL_has h;unfold hasI at h;rw [dif_pos hl] at h;have hk:=of_decide_eq_true h;exact List.mem_map.2 ⟨l[atI l k],List.getElem_mem hl,by rw [hg,absI,hk]⟩
end
section
open Go.RowKit Go.Lib Go.Sort
deriving instance DecidableEq for Adv
end
section
open Go.RowKit Go.Lib
theorem winOf_any (v:Value) (l:List Smp) (w:World) (hv:RowIn 2 smpC w v l) (hl:l.length≤1000000) (hi:smpI l) :
 Calls Tryz.prog 216 #[v] w (jP w (stV (statN (valsW l)))):=by
 have CV:=jH (fun W (hW:jB w W)=>winVals_any v l W (hv.below hW) hl);have hvi:=vals_i64 hi;have hvl:(valsW l).length≤1000000:=by rw [vals_len];exact hl
 have HLL:=jH hvl;have HVI:=jH hvi;have hl9:(valsW l).length≤9223372036854775807:=by omega
 clear hv hi hl hvi hvl;generalize valsW l=n at *
 by_cases hne:n=[]
 · subst hne
   have HST:=jH (show statN []=st0 from rfl);have q2:(((([]:List Int).length:Nat):Int) == 0)=true:=rfl;clear hl9
   go_enter Tryz.func216,Tryz.ntmps216
   go_wp2_with (first
    | (go_at_call 254
       refine calls_named ?_;intro W1 hW1;have hb1:jB w W1:=by rw [hW1];exact balloc jR _
       have hx1:W1.heap[w.heap.size]?=some (.cells #[.int .i64 0,.int .i64 0,.int .i64 0,.int .i64 0,.int .i64 0] 72 (0,0)):=by rw [hW1];exact heap_alloc_new _ _
       clear hW1;refine (CV.out W1 hb1).mono ?_;rintro e w2 ⟨A,c,rfl,ho,hb2⟩;have HX2:=jH (box_below (w:=w) hx1 hb2);obtain ⟨e1,e2,e3⟩:=box_cells jR HX2.out;have HB2:=jH (bthen hb1 hb2);clear hb1 hx1 ho hb2))
   have hz2:=setCell_block (i:=4) (v:=.int .i64 0) (setCell_block (i:=3) (v:=.int .i64 0) (setCell_block (i:=2) (v:=.int .i64 0) (setCell_block (i:=1) (v:=.int .i64 0) (setCell_block (i:=0) (v:=.int .i64 0) HX2.out))));obtain ⟨f1,f2,f3⟩:=box_cells jR hz2;refine bodyPost_ret (v:=.agg #[.int .i64 0,.int .i64 0,.int .i64 0,.int .i64 0,.int .i64 0]) (by simp [results,Tryz.results216,go_sem,f1]) rfl ⟨by rw [HST.out];rfl,((((HB2.out.setCell (Nat.le_refl _) _).setCell (Nat.le_refl _) _).setCell (Nat.le_refl _) _).setCell (Nat.le_refl _) _).setCell (Nat.le_refl _) _⟩
 · have hp:0<n.length:=List.length_pos_iff.2 hne
   have HST:=jH (show statN n=⟨n.length,sumE n 0,minL n,maxL n,meanN n⟩ by unfold statN;rw [if_neg hne]);have q0:¬(n.length:Int)=0:=by omega
   have q1:((n.length:Int) == 0)=false:=by simpa using hne
   have CS:=jH (fun v W (h:RowIn 1 nmC W v n)=>satSum_any v n W h HLL.out (fun m hm=>by have:=HVI.out m hm;unfold I64;omega));have CMi:=jH (fun v W (h:RowIn 1 nmC W v n)=>slMin_any v n W h HLL.out hne);have CMa:=jH (fun v W (h:RowIn 1 nmC W v n)=>slMax_any v n W h HLL.out hne);have CMe:=jH (fun v W (h:RowIn 1 nmC W v n)=>wideMean_any v n W h HLL.out HVI.out);generalize sumE n 0=s1 at CS HST;generalize minL n=s2 at CMi HST
   generalize maxL n=s3 at CMa HST;generalize meanN n=s4 at CMe HST;clear hne hp
   go_enter Tryz.func216,Tryz.ntmps216
   go_wp2_with (first
    | (go_at_call 254
       refine calls_named ?_;intro W1 hW1;have hb1:jB w W1:=by rw [hW1];exact balloc jR _
       have hx1:W1.heap[w.heap.size]?=some (.cells #[.int .i64 0,.int .i64 0,.int .i64 0,.int .i64 0,.int .i64 0] 72 (0,0)):=by rw [hW1];exact heap_alloc_new _ _
       clear hW1;refine (CV.out W1 hb1).mono ?_;rintro e w2 ⟨A,c,rfl,ho,hb2⟩;have HX2:=jH (box_below (w:=w) hx1 hb2);obtain ⟨e1,e2,e3⟩:=box_cells jR HX2.out;have HB2:=jH (bthen hb1 hb2);have HR2:=jH (ho.row eNm);clear hb1 hx1 ho hb2)
    | (go_at_call 255
       refine (CS.out _ w2 HR2.out).mono ?_;rintro e w3 ⟨rfl,rfl⟩)
    | (go_at_call 256
       refine (CMi.out _ w2 HR2.out).mono ?_;rintro e w3 ⟨rfl,rfl⟩)
    | (go_at_call 257
       refine (CMa.out _ w2 HR2.out).mono ?_;rintro e w3 ⟨rfl,rfl⟩)
    | (go_at_call 258
       refine (CMe.out _ w2 HR2.out).mono ?_;rintro e w3 ⟨rfl,hb3⟩;have HX3:=jH (box_below (w:=w) HX2.out hb3);obtain ⟨g1,g2,g3⟩:=box_cells jR HX3.out;have HB3:=jH (bthen HB2.out hb3);clear hb3))
   have hz2:=setCell_block (i:=4) (v:=.int .i64 s4) (setCell_block (i:=3) (v:=.int .i64 s3) (setCell_block (i:=2) (v:=.int .i64 s2) (setCell_block (i:=1) (v:=.int .i64 s1) (setCell_block (i:=0) (v:=.int .i64 n.length) HX3.out))));obtain ⟨f1,f2,f3⟩:=box_cells jR hz2;refine bodyPost_ret (v:=.agg #[.int .i64 n.length,.int .i64 s1,.int .i64 s2,.int .i64 s3,.int .i64 s4]) (by simp [results,Tryz.results216,go_sem,f1]) rfl ⟨by rw [HST.out];rfl,((((HB3.out.setCell (Nat.le_refl _) _).setCell (Nat.le_refl _) _).setCell (Nat.le_refl _) _).setCell (Nat.le_refl _) _).setCell (Nat.le_refl _) _⟩
theorem winAt_any (v:Value) (l:List Smp) (til wd:Int) (w:World) (hv:RowIn 2 smpC w v l) (hl:l.length≤1000000) (hi:smpI l) (ht:I64 til) (hw:I64 wd) :
 Calls Tryz.prog 166 #[v,.int .i64 til,.int .i64 wd] w (jP w (stV (statW l til wd))):=by
 have CF:=jH (fun W=>winFrom_any til wd W ht hw);have CC:=jH (fun W (hW:jB w W)=>winCut_any v l (fromW til wd) til W (hv.below hW) hl);have COf:=jH (fun v W (h:RowIn 2 smpC W v (winC l (fromW til wd) til))=>winOf_any v _ W h (Nat.le_trans (cut_len _ _ _) hl) (hi.cut _ _));unfold statW;generalize winC l (fromW til wd) til=m at CC COf ⊢;generalize fromW til wd=f at CF CC;generalize statN (valsW m)=s at COf ⊢
 obtain ⟨s0,s1,s2,s3,s4⟩:=s;unfold stV at COf ⊢;simp only at COf ⊢
 clear hv hl hi ht hw
 go_enter Tryz.func166,Tryz.ntmps166
 go_wp2_with (first
  | (go_at_call 218
     refine calls_named ?_;intro W1 hW1;have HB1:=jH (show jB w W1 by rw [hW1];exact balloc jR _);have HX1:=jH (show W1.heap[w.heap.size]?=some (.cells #[.int .i64 0,.int .i64 0,.int .i64 0,.int .i64 0,.int .i64 0] 72 (0,0)) by rw [hW1];exact heap_alloc_new _ _);clear hW1;refine (CF.out W1).mono ?_;rintro e w2 ⟨rfl,rfl⟩)
  | (go_at_call 217
     refine (CC.out W1 HB1.out).mono ?_;rintro e w2 ⟨A,c,rfl,ho,hb2⟩;have HX2:=jH (box_below (w:=w) HX1.out hb2);have HB2:=jH (bthen HB1.out hb2);have HR2:=jH (ho.row eSmp);clear ho hb2)
  | (go_at_call 216
     refine (COf.out _ w2 HR2.out).mono ?_;rintro e w3 ⟨rfl,hb3⟩;have HX3:=jH (box_below (w:=w) HX2.out hb3);obtain ⟨g1,g2,g3⟩:=box_cells jR HX3.out;have HB3:=jH (bthen HB2.out hb3);clear hb3))
 have hz2:=setCell_block (i:=4) (v:=.int .i64 s4) (setCell_block (i:=3) (v:=.int .i64 s3) (setCell_block (i:=2) (v:=.int .i64 s2) (setCell_block (i:=1) (v:=.int .i64 s1) (setCell_block (i:=0) (v:=.int .i64 s0) HX3.out))));obtain ⟨f1,f2,f3⟩:=box_cells jR hz2;exact bodyPost_ret (v:=.agg #[.int .i64 s0,.int .i64 s1,.int .i64 s2,.int .i64 s3,.int .i64 s4]) (by simp [results,Tryz.results166,go_sem,f1]) rfl ⟨rfl,((((HB3.out.setCell (Nat.le_refl _) _).setCell (Nat.le_refl _) _).setCell (Nat.le_refl _) _).setCell (Nat.le_refl _) _).setCell (Nat.le_refl _) _⟩
end
section
open Go.RowKit Go.Lib
theorem stead_any (p:Pol) (tick want:Int) (v:Value) (l:List Adv) (w:World) (hv:RowIn 5 advC w v l) (hl:l.length≤1000000) (h1:I64 tick) (h2:I64 p.hold) :
 Calls Tryz.prog 199 #[polV p,.int .i64 tick,.int .i64 want,v] w (jP w (.tuple #[.int .i64 (steadyI p tick want l).1,.bool (steadyI p tick want l).2])):=by
 have C1:=jH (fun W (h:RowIn 5 advC W v l)=>hisHigh_any v l tick p.hold W h hl h1 h2);have HR:=jH (hv.below (balloc (Below.refl w.heap.size w) (.cells #[.int .i64 p.mn,.int .i64 p.mx,.int .i64 p.tg,.int .i64 p.tol,.int .i64 p.win,.int .i64 p.hold] 46)));obtain ⟨s,hs⟩:∃s,s=steadyI p tick want l:=⟨_,rfl⟩;rw [←hs];unfold steadyI at hs;generalize highI l tick p.hold=st at C1 hs;obtain ⟨best,is⟩:=st;dsimp only at hs C1
 clear hv hl h1 h2;unfold polV
 cases is
 · have HN:=jH (show s=(want,false) by rw [hs];exact if_neg (fun q=>absurd q.1 (by simp)))
   clear hs
   go_enter Tryz.func199,Tryz.ntmps199
   go_wp2_with (go_at_call 242;refine (C1.out _ HR.out).mono ?_;rintro e w2 ⟨rfl,hb2⟩;have HB:=jH hb2;clear hb2)
   exact bodyPost_ret (v:=.tuple #[.int .i64 want,.bool false]) (by simp [results,Tryz.results199,go_sem]) rfl ⟨by rw [HN.out],bthen (balloc jR _) HB.out⟩
 · by_cases q:want<best
   · have HN:=jH (show s=(best,true) by rw [hs];exact if_pos ⟨rfl,q⟩)
     clear hs
     go_enter Tryz.func199,Tryz.ntmps199
     go_wp2_with (go_at_call 242;refine (C1.out _ HR.out).mono ?_;rintro e w2 ⟨rfl,hb2⟩;have HB:=jH hb2;clear hb2)
     exact bodyPost_ret (v:=.tuple #[.int .i64 best,.bool true]) (by simp [results,Tryz.results199,go_sem]) rfl ⟨by rw [HN.out],bthen (balloc jR _) HB.out⟩
   · have HN:=jH (show s=(want,false) by rw [hs];exact if_neg (fun e=>q e.2))
     clear hs
     go_enter Tryz.func199,Tryz.ntmps199
     go_wp2_with (go_at_call 242;refine (C1.out _ HR.out).mono ?_;rintro e w2 ⟨rfl,hb2⟩;have HB:=jH hb2;clear hb2)
     exact bodyPost_ret (v:=.tuple #[.int .i64 want,.bool false]) (by simp [results,Tryz.results199,go_sem]) rfl ⟨by rw [HN.out],bthen (balloc jR _) HB.out⟩
theorem ref15_any (p:Pol) (tick want:Int) (v:Value) (l:List Adv) (w:World) (hv:RowIn 5 advC w v l) (hl:l.length≤1000000) (h1:I64 tick) (h2:I64 p.hold) :
 Calls Tryz.prog 176 #[polV p,.int .i64 tick,.int .i64 want,v] w (jP w (.tuple #[.int .i64 (steadyI p tick want l).1,.bool (steadyI p tick want l).2])):=by
 have C1:=jH (fun W (h:RowIn 5 advC W v l)=>refHigh_any v l tick p.hold W h hl h1 h2);have HR:=jH (hv.below (balloc (Below.refl w.heap.size w) (.cells #[.int .i64 p.mn,.int .i64 p.mx,.int .i64 p.tg,.int .i64 p.tol,.int .i64 p.win,.int .i64 p.hold] 46)));obtain ⟨s,hs⟩:∃s,s=steadyI p tick want l:=⟨_,rfl⟩;rw [←hs];unfold steadyI at hs;generalize highI l tick p.hold=st at C1 hs;obtain ⟨best,is⟩:=st;dsimp only at hs C1
 clear hv hl h1 h2;unfold polV
 cases is
 · have HN:=jH (show s=(want,false) by rw [hs];exact if_neg (fun q=>absurd q.1 (by simp)))
   clear hs
   go_enter Tryz.func176,Tryz.ntmps176
   go_wp2_with (go_at_call 231;refine (C1.out _ HR.out).mono ?_;rintro e w2 ⟨rfl,hb2⟩;have HB:=jH hb2;clear hb2)
   exact bodyPost_ret (v:=.tuple #[.int .i64 want,.bool false]) (by simp [results,Tryz.results176,go_sem]) rfl ⟨by rw [HN.out],bthen (balloc jR _) HB.out⟩
 · by_cases q:want<best
   · have HN:=jH (show s=(best,true) by rw [hs];exact if_pos ⟨rfl,q⟩)
     clear hs
     go_enter Tryz.func176,Tryz.ntmps176
     go_wp2_with (go_at_call 231;refine (C1.out _ HR.out).mono ?_;rintro e w2 ⟨rfl,hb2⟩;have HB:=jH hb2;clear hb2)
     exact bodyPost_ret (v:=.tuple #[.int .i64 best,.bool true]) (by simp [results,Tryz.results176,go_sem]) rfl ⟨by rw [HN.out],bthen (balloc jR _) HB.out⟩
   · have HN:=jH (show s=(want,false) by rw [hs];exact if_neg (fun e=>q e.2))
     clear hs
     go_enter Tryz.func176,Tryz.ntmps176
     go_wp2_with (go_at_call 231;refine (C1.out _ HR.out).mono ?_;rintro e w2 ⟨rfl,hb2⟩;have HB:=jH hb2;clear hb2)
     exact bodyPost_ret (v:=.tuple #[.int .i64 want,.bool false]) (by simp [results,Tryz.results176,go_sem]) rfl ⟨by rw [HN.out],bthen (balloc jR _) HB.out⟩
end
section
open Go.RowKit Go.Lib
section
variable (id:ByteArray) (tick val handle a b tg tol win hold:Int) (w:World)
theorem ref21Check_1 (hid:id.size≤maxLen) :
 Calls Tryz.prog 101 #[callV (callK 1 id tick val handle a b tg tol win hold)] w (jP w (.int .i64 (if idS id=true then serE tick val else 2))):=by
 unfold callV callK;simp only
 cases hi:idS id with
 | false =>
   have Hi:=jH hi;clear hi
   go_enter Tryz.func101,Tryz.ntmps101
   go_wp2_with (go_at_call 100;refine (id_any _ _ hid).mono ?_;rw [Hi.out];rintro e w' ⟨rfl,rfl⟩)
   go_ret
   exact ⟨rfl,balloc jR _⟩
 | true =>
   have Hi:=jH hi;clear hi
   go_enter Tryz.func101,Tryz.ntmps101
   go_wp2_with (first|(go_at_call 100;refine (id_any _ _ hid).mono ?_;rw [Hi.out];rintro e w' ⟨rfl,rfl⟩)|(go_at_call 143;refine (ref08Right_any _ _ _).mono ?_;rintro e w' ⟨rfl,rfl⟩))
   go_ret
   exact ⟨rfl,balloc jR _⟩
theorem ref21Check_2 :
 Calls Tryz.prog 101 #[callV (callK 2 id tick val handle a b tg tol win hold)] w (jP w (.int .i64 (if tick<0 then 3 else 0))):=by
 unfold callV callK;simp only
 by_cases ht:tick<0
 · rw [if_pos ht]
   go_enter Tryz.func101,Tryz.ntmps101
   go_wp2
   go_ret
   exact ⟨rfl,balloc jR _⟩
 · rw [if_neg ht]
   go_enter Tryz.func101,Tryz.ntmps101
   go_wp2
   go_ret
   exact ⟨rfl,balloc jR _⟩
theorem ref21Check_6 (hid:id.size≤maxLen) :
 Calls Tryz.prog 101 #[callV (callK 6 id tick val handle a b tg tol win hold)] w (jP w (.int .i64 (if idS id=true then polE ⟨a,b,tg,tol,win,hold⟩ else 2))):=by
 unfold callV callK;simp only
 cases hi:idS id with
 | false =>
   have Hi:=jH hi;clear hi
   go_enter Tryz.func101,Tryz.ntmps101
   go_wp2_with (go_at_call 100;refine (id_any _ _ hid).mono ?_;rw [Hi.out];rintro e w' ⟨rfl,rfl⟩)
   go_ret
   exact ⟨rfl,balloc jR _⟩
 | true =>
   have Hi:=jH hi;clear hi
   cases hp:polB ⟨a,b,tg,tol,win,hold⟩ with
   | false =>
     have he:polE ⟨a,b,tg,tol,win,hold⟩=7:=by simp [polE,hp]
     rw [he];have Hp:=jH hp;clear hp he
     go_enter Tryz.func101,Tryz.ntmps101
     go_wp2_with (first|(go_at_call 100;refine (id_any _ _ hid).mono ?_;rw [Hi.out];rintro e w' ⟨rfl,rfl⟩)|(go_at_call 144;refine (ref12Right_any ⟨a,b,tg,tol,win,hold⟩ _).mono ?_;rw [Hp.out];rintro e w2 ⟨rfl,hb2⟩))
     go_ret
     exact ⟨rfl,bthen (balloc jR _) hb2⟩
   | true =>
     have he:polE ⟨a,b,tg,tol,win,hold⟩=0:=by simp [polE,hp]
     rw [he];have Hp:=jH hp;clear hp he
     go_enter Tryz.func101,Tryz.ntmps101
     go_wp2_with (first|(go_at_call 100;refine (id_any _ _ hid).mono ?_;rw [Hi.out];rintro e w' ⟨rfl,rfl⟩)|(go_at_call 144;refine (ref12Right_any ⟨a,b,tg,tol,win,hold⟩ _).mono ?_;rw [Hp.out];rintro e w2 ⟨rfl,hb2⟩))
     go_ret
     exact ⟨rfl,bthen (balloc jR _) hb2⟩
theorem ref21Check_5 (hid:id.size≤maxLen) :
 Calls Tryz.prog 101 #[callV (callK 5 id tick val handle a b tg tol win hold)] w (jP w (.int .i64 (if idS id=true then 0 else 2))):=by
 unfold callV callK;simp only
 cases hi:idS id with
 | false =>
   have Hi:=jH hi;clear hi
   go_enter Tryz.func101,Tryz.ntmps101
   go_wp2_with (go_at_call 100;refine (id_any _ _ hid).mono ?_;rw [Hi.out];rintro e w' ⟨rfl,rfl⟩)
   go_ret
   exact ⟨rfl,balloc jR _⟩
 | true =>
   have Hi:=jH hi;clear hi
   go_enter Tryz.func101,Tryz.ntmps101
   go_wp2_with (go_at_call 100;refine (id_any _ _ hid).mono ?_;rw [Hi.out];rintro e w' ⟨rfl,rfl⟩)
   go_ret
   exact ⟨rfl,balloc jR _⟩
theorem ref21Check_7 (hid:id.size≤maxLen) :
 Calls Tryz.prog 101 #[callV (callK 7 id tick val handle a b tg tol win hold)] w (jP w (.int .i64 (if idS id=true then 0 else 2))):=by
 unfold callV callK;simp only
 cases hi:idS id with
 | false =>
   have Hi:=jH hi;clear hi
   go_enter Tryz.func101,Tryz.ntmps101
   go_wp2_with (go_at_call 100;refine (id_any _ _ hid).mono ?_;rw [Hi.out];rintro e w' ⟨rfl,rfl⟩)
   go_ret
   exact ⟨rfl,balloc jR _⟩
 | true =>
   have Hi:=jH hi;clear hi
   go_enter Tryz.func101,Tryz.ntmps101
   go_wp2_with (go_at_call 100;refine (id_any _ _ hid).mono ?_;rw [Hi.out];rintro e w' ⟨rfl,rfl⟩)
   go_ret
   exact ⟨rfl,balloc jR _⟩
theorem ref21Check_3 :
 Calls Tryz.prog 101 #[callV (callK 3 id tick val handle a b tg tol win hold)] w (jP w (.int .i64 (0))):=by
 unfold callV callK;simp only
 go_enter Tryz.func101,Tryz.ntmps101
 go_wp2
 go_ret
 exact ⟨rfl,balloc jR _⟩
theorem ref21Check_4 :
 Calls Tryz.prog 101 #[callV (callK 4 id tick val handle a b tg tol win hold)] w (jP w (.int .i64 (0))):=by
 unfold callV callK;simp only
 go_enter Tryz.func101,Tryz.ntmps101
 go_wp2
 go_ret
 exact ⟨rfl,balloc jR _⟩
theorem ref21Check_8 :
 Calls Tryz.prog 101 #[callV (callK 8 id tick val handle a b tg tol win hold)] w (jP w (.int .i64 (0))):=by
 unfold callV callK;simp only
 go_enter Tryz.func101,Tryz.ntmps101
 go_wp2
 go_ret
 exact ⟨rfl,balloc jR _⟩
theorem ref21Check_no (k:Int) (hk:k<1∨8<k) :
 Calls Tryz.prog 101 #[callV (callK k id tick val handle a b tg tol win hold)] w (jP w (.int .i64 (14))):=by
 unfold callV callK;simp only
 by_cases h1:k<1
 · go_enter Tryz.func101,Tryz.ntmps101
   go_wp2
   go_ret
   exact ⟨rfl,balloc jR _⟩
 · have h2:8<k:=by omega
   clear hk
   go_enter Tryz.func101,Tryz.ntmps101
   go_wp2
   go_ret
   exact ⟨rfl,balloc jR _⟩
end
theorem ref21Check_any (c:CallD) (w:World) (hc:c.ok) :
 Calls Tryz.prog 101 #[callV c] w (jP w (.int .i64 (chkC c))):=by
 obtain ⟨kind,id,tick,val,handle,⟨a,b,tg,tol,win,hold⟩⟩:=c;obtain ⟨_,hid,_,_,_,_⟩:=hc;simp only at hid
 rcases chk_kinds ⟨kind,id,tick,val,handle,⟨a,b,tg,tol,win,hold⟩⟩ with h|h|h|h|h|h|h|h|h
 all_goals simp only at h
 · subst h
   have e:chkC ⟨1,id,tick,val,handle,⟨a,b,tg,tol,win,hold⟩⟩=if idS id=true then serE tick val else 2:=by
    cases hi:idS id <;> simp [chkC,hi]
   rw [e];exact ref21Check_1 id tick val handle a b tg tol win hold w hid
 · subst h
   have e:chkC ⟨2,id,tick,val,handle,⟨a,b,tg,tol,win,hold⟩⟩=if tick<0 then 3 else 0:=by simp [chkC]
   rw [e];exact ref21Check_2 id tick val handle a b tg tol win hold w
 · subst h
   exact ref21Check_3 id tick val handle a b tg tol win hold w
 · subst h
   exact ref21Check_4 id tick val handle a b tg tol win hold w
 · subst h
   have e:chkC ⟨5,id,tick,val,handle,⟨a,b,tg,tol,win,hold⟩⟩=if idS id=true then 0 else 2:=by
    cases hi:idS id <;> simp [chkC,hi]
   rw [e];exact ref21Check_5 id tick val handle a b tg tol win hold w hid
 · subst h
   have e:chkC ⟨6,id,tick,val,handle,⟨a,b,tg,tol,win,hold⟩⟩=if idS id=true then polE ⟨a,b,tg,tol,win,hold⟩ else 2:=by
    cases hi:idS id <;> cases hp:polB ⟨a,b,tg,tol,win,hold⟩ <;> simp [chkC,polE,hi,hp]
   rw [e];exact ref21Check_6 id tick val handle a b tg tol win hold w hid
 · subst h
   have e:chkC ⟨7,id,tick,val,handle,⟨a,b,tg,tol,win,hold⟩⟩=if idS id=true then 0 else 2:=by
    cases hi:idS id <;> simp [chkC,hi]
   rw [e];exact ref21Check_7 id tick val handle a b tg tol win hold w hid
 · subst h
   exact ref21Check_8 id tick val handle a b tg tol win hold w
 · have e:chkC ⟨kind,id,tick,val,handle,⟨a,b,tg,tol,win,hold⟩⟩=14:=by simp [chkC,h]
   rw [e];exact ref21Check_no id tick val handle a b tg tol win hold w kind h
end
end Go.Proofs.YtpmfcpdelkchaaaGreat
