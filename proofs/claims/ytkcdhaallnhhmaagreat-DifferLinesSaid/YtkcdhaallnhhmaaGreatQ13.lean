/- Part 13 of the proof: NodePut, R08P. -/
import Derived.Test.YtkcdhaallnhhmaaGreatQ09
import Derived.Test.YtkcdhaallnhhmaaGreatQ12
namespace Go.Proofs.YtkcdhaallnhhmaaGreat
set_option linter.unusedSimpArgs false
set_option linter.unusedVariables false
set_option linter.unusedSectionVars false
set_option maxRecDepth 100000
set_option maxHeartbeats 16000000
section
open Go.RowKit Go.Lib Go.Sort
theorem placeS_lt {l:List Smp} (hr:risingS l) (t:Int):∀i (h:i<l.length),(i<placeS l t ↔ l[i].1<t):=by
 induction l with
 | nil=>intro i h;simp at h
 | cons a l ih =>
   have hr':risingS l:=(List.pairwise_cons.1 hr).2;have ha:=(List.pairwise_cons.1 hr).1;intro i h
   by_cases hta:t≤a.1
   · have h0:placeS (a::l) t=0:=by
      unfold placeS;rw [List.countP_eq_zero];intro y hy
      rcases List.mem_cons.1 hy with rfl|hy
      · simp [hta]
      · have:=ha y hy;simp;omega
     rw [h0];refine iff_of_false (by omega) ?_
     cases i with
     | zero=>simp;omega
     | succ i=>have:=ha _ (List.getElem_mem (by simpa using h:i<l.length));simp;omega
   · have h1:placeS (a::l) t=placeS l t+1:=by unfold placeS;rw [List.countP_cons];simp;omega
     rw [h1]
     cases i with
     | zero=>simp;omega
     | succ i=>have:=ih hr' i (by simpa using h);simp;omega
theorem rising_drop {l:List Smp} (hr:risingS l) (n:Nat):risingS (l.drop n):=hr.sublist (List.drop_sublist n l)
theorem rising_cut {l:List Smp} (hr:risingS l) (room:Int):risingS (cutS room l):=by
 unfold cutS
 split
 · exact rising_drop hr 1
 · exact hr
theorem mem_take_lt {l:List Smp} (hr:risingS l) (t:Int) {a:Smp} (h:a∈l.take (placeS l t)):a.1<t:=by
 obtain ⟨i,hi,rfl⟩:=List.getElem_of_mem h;simp only [List.length_take] at hi
 rw [List.getElem_take];exact (placeS_lt hr t i (by omega)).1 (by omega)
theorem mem_drop_ge {l:List Smp} (hr:risingS l) (t:Int) {a:Smp} (h:a∈l.drop (placeS l t)):t≤a.1:=by
 obtain ⟨i,hi,rfl⟩:=List.getElem_of_mem h;simp only [List.length_drop] at hi
 rw [List.getElem_drop];have hi':placeS l t+i<l.length:=by omega
 have h2:=placeS_lt hr t (placeS l t+i) hi'
 by_cases h3:l[placeS l t+i].1<t
 · have:=h2.2 h3;omega
 · omega
theorem rising_ins {l:List Smp} (hr:risingS l) (x:Smp) (h:hitS l x=false):risingS (insS l x):=by
 unfold insS risingS;have hge:∀a∈l.drop (placeS l x.1),x.1<a.1:=fun a ha=>by
  have h1:=mem_drop_ge hr x.1 ha;obtain ⟨i,hi,rfl⟩:=List.getElem_of_mem ha
  rcases Nat.eq_zero_or_pos i with rfl|hp
  · have hlt:placeS l x.1<l.length:=by simp only [List.length_drop] at hi;omega
    unfold hitS at h;rw [decide_eq_false_iff_not,List.getElem?_eq_getElem hlt] at h;rw [List.getElem_drop] at h1 ⊢;simp only [Nat.add_zero] at h1 ⊢
    have hn:(l[placeS l x.1]).1≠x.1:=fun e=>h (by simp [e])
    omega
  · have h0:=List.pairwise_iff_getElem.1 (rising_drop hr (placeS l x.1)) 0 i (by omega) hi hp
    have h2:=mem_drop_ge hr x.1 (List.getElem_mem (by omega:0<(l.drop (placeS l x.1)).length));omega
 rw [List.pairwise_append];refine ⟨hr.sublist (List.take_sublist _ l),List.pairwise_cons.2 ⟨hge,rising_drop hr _⟩,fun a ha b hb=>?_⟩;have h1:=mem_take_lt hr x.1 ha
 rcases List.mem_cons.1 hb with rfl|hb
 · exact h1
 · have:=hge b hb;omega
theorem rising_set {l:List Smp} (hr:risingS l) (x:Smp) (h:hitS l x=true):risingS (l.set (placeS l x.1) x):=by
 have e:(l.set (placeS l x.1) x).map (·.1)=l.map (·.1):=by
  rw [List.map_set];unfold hitS at h;rw [decide_eq_true_eq] at h;refine List.ext_getElem? fun i=>?_
  rw [List.getElem?_set]
  split
  · rename_i hi
    rw [←hi,List.getElem?_map,h]
    split
    · rfl
    · rename_i hn
      rw [List.getElem?_eq_none (by simpa using hn)] at h;simp at h
  · rfl
 have h1:(l.map (·.1)).Pairwise (· < ·):=List.pairwise_map.2 hr;rw [←e] at h1;exact List.pairwise_map.1 h1
theorem rising_put {l:List Smp} (hr:risingS l) (room:Int) (x:Smp):risingS (putS l room x):=by
 unfold putS
 cases h:hitS l x with
 | true=>exact rising_set hr x h
 | false=>exact rising_cut (rising_ins hr x h) room
theorem putS_len {l:List Smp} {room:Nat} (hl:l.length≤room) (x:Smp):(putS l (room:Nat) x).length≤room:=by
 unfold putS
 split
 · simpa using hl
 · unfold cutS
   have:=insS_len l x
   split
   · simp;omega
   · omega
end
section
open Go.RowKit Go.Lib Go.Sort
def rpA (l:List Smp) (x:Smp) (p q k:Nat):List Smp:=if k≤p then l.take k else l.take p++x::(l.take k).drop q
theorem rpA_low {l:List Smp} {x:Smp} {p q k:Nat} (h:k<l.length) (hk:k<p):rpA l x p q (k+1)=rpA l x p q k++[l[k]]:=by
 unfold rpA;rw [if_pos (by omega),if_pos (by omega),List.take_succ_eq_append_getElem h]
theorem rpA_high {l:List Smp} {x:Smp} {p q k:Nat} (h:k<l.length) (hk:p<k) (hq:q≤k):rpA l x p q (k+1)=rpA l x p q k++[l[k]]:=by
 unfold rpA;rw [if_neg (by omega),if_neg (by omega),List.take_succ_eq_append_getElem h,List.drop_append_of_le_length (by simp;omega)];simp
theorem rpA_hit {l:List Smp} {x:Smp} {p:Nat} (h:p<l.length):rpA l x p (p+1) (p+1)=rpA l x p (p+1) p++[x]:=by
 unfold rpA;rw [if_neg (by omega),if_pos (Nat.le_refl _),List.drop_eq_nil_of_le (by simp;omega)]
theorem rpA_in {l:List Smp} {x:Smp} {p:Nat} (h:p<l.length):rpA l x p p (p+1)=(rpA l x p p p++[x])++[l[p]]:=by
 unfold rpA;rw [if_neg (by omega),if_pos (Nat.le_refl _),List.take_succ_eq_append_getElem h,List.drop_append_of_le_length (by simp;omega),List.drop_eq_nil_of_le (by simp;omega)];simp
theorem r8put_any (v:Value) (l:List Smp) (room:Nat) (x:Smp) (w:World) (hv:RowIn 2 smpC w v l) (hs:SortedAt l x.1 (placeS l x.1)) (hr:risingS l) (hl:l.length≤room) (h1:1≤room) (hroom:room≤1000000) :
 Calls Tryz.prog 211 #[v,.int .i64 (room:Nat),.agg #[.int .i64 x.1,.int .i64 x.2]] w (RSays 2 smpC w (putS l (room:Nat) x)):=by
 obtain ⟨A,c,rfl⟩:=hv.form;have HV:=jH hv;have HS:=jH hs;have hhit:hitS l x=decide (∃h:placeS l x.1<l.length,l[placeS l x.1].1=x.1):=by
  unfold hitS
  by_cases h:placeS l x.1<l.length
  · rw [List.getElem?_eq_getElem h];simp [h]
  · rw [List.getElem?_eq_none (by omega)];simp;omega
 have hput:putS l (room:Nat) x=if hitS l x=true then l.set (placeS l x.1) x else cutS (room:Nat) (insS l x):=rfl;unfold insS at hput;have hgt:∀k (h:k<l.length),placeS l x.1<k→x.1<l[k].1:=fun k h hk=>by
  have h0:=(List.pairwise_iff_getElem.1 hr) (placeS l x.1) k (by omega) h hk;have h2:=mt (hs.2 (placeS l x.1) (by omega)).2 (by omega);omega
 have HG:=jH hgt;have HP:=jH hput;have HH:=jH hhit;have hple:=hs.1;clear hv hs hr hput hhit hgt;generalize placeS l x.1=p at *;generalize hitS l x=hit at *;obtain ⟨q,hq⟩:∃q,q=if hit=true then p+1 else p:=⟨_,rfl⟩;have hqp:p≤q∧q≤p+1:=by rw [hq];split <;> omega
 have HQ:=jH hq;clear hq
 go_enter Tryz.func211,Tryz.ntmps211
 go_wp2_with fail
 refine name_world ?_;intro W hW;have hb0:jB w W:=by rw [hW];exact balloc jR _
 have hx0:W.heap[w.heap.size]?=some (.cells #[.int .i64 x.1,.int .i64 x.2] 118 (0,0)):=by rw [hW];exact heap_alloc_new _ _
 have HX0:=jH hx0;clear hW hx0;go_wp2
 go_loopg [7,8,9] l.length (fun g s7 s8 s9 wr=>∃k:Nat,k≤l.length∧l.length - k≤g∧s9=.int .i64 k∧s8=.bool (decide (p<k))∧OwnL smpC 118 2 W.heap.size wr s7 (rpA l x p q k)∧jB W wr)
 case atStart=>exact ⟨0,Nat.zero_le _,Nat.le_refl _,rfl,by simp,by unfold rpA;rw [if_pos (Nat.zero_le _),List.take_zero];exact OwnL.nil _ _,jR⟩
 case round =>
  obtain ⟨k,hk,hg,rfl,rfl,hown,hb⟩:=hrel;obtain ⟨A5,c5,rfl⟩:=hown.form;have HO:=jH hown;clear hown;obtain ⟨a1,a2,a3⟩:=box_cells hb HX0.out;have hrl:(rpA l x p q k).length≤k+1:=by unfold rpA;split <;> simp <;> omega
  by_cases hlt:k<l.length
  · obtain ⟨b,o,rfl,hbw,hc⟩:=HV.out.at_ hlt
    have c1:wr.cell? ⟨b,o+k * 2,none⟩=some (.int .i64 l[k].1):=((bthen hb0 hb).cell (p:=⟨b,_,none⟩) hbw).trans (hc 0 _ rfl);have c2:wr.cell? ⟨b,o+k * 2+1,none⟩=some (.int .i64 l[k].2):=((bthen hb0 hb).cell (p:=⟨b,_,none⟩) hbw).trans (hc 1 _ rfl);have hbl:b<W.heap.size:=Nat.lt_of_lt_of_le hbw hb0.size;have hsp:=HS.out.2 k hlt;have hgk:=HG.out k hlt
    rcases Nat.lt_trichotomy k p with hp|hp|hp
    · have HN:=jH (rpA_low (x:=x) (q:=q) hlt hp)
      have hlt2:l[k].1<x.1:=hsp.1 hp;have hne:(l[k].1 != x.1)=true:=by simp;omega
      have hnge:¬x.1≤l[k].1:=by omega
      clear hsp hgk hc;generalize l[k]=y at *;rw [decide_eq_false (show ¬p<k by omega)];have HB:=jH hb;have HCX:=jH (And.intro c1 c2);clear hb;go_wp2_with fail
      go_quiet (fail)
      obtain ⟨w1,hw1⟩:∃w1:World,w1=wr.drewN nq:=⟨_,rfl⟩;rw [←hw1];have hb1:jB wr w1:=by rw [hw1];exact below_drewN jR _
      clear hw1 c1 c2 a1 a2 a3;have HB1:=jH hb1;have d1:=(hb1.cell (p:=⟨b,_,none⟩) (Nat.lt_of_lt_of_le hbl HB.out.size)).trans HCX.out.1;have d2:=(hb1.cell (p:=⟨b,_,none⟩) (Nat.lt_of_lt_of_le hbl HB.out.size)).trans HCX.out.2;obtain ⟨e1,e2,e3⟩:=box_cells (bthen HB.out hb1) HX0.out;clear hb1;go_wp2_with fail
      go_quiet (fail)
      obtain ⟨w2,hw1⟩:∃w2:World,w2=w1.drewN nq:=⟨_,rfl⟩;rw [←hw1];have hb2:jB wr w2:=by rw [hw1];exact below_drewN HB1.out _
      clear hw1 d1 d2 e1 e2 e3;have HB2:=jH hb2;have d1:=(hb2.cell (p:=⟨b,_,none⟩) (Nat.lt_of_lt_of_le hbl HB.out.size)).trans HCX.out.1;have d2:=(hb2.cell (p:=⟨b,_,none⟩) (Nat.lt_of_lt_of_le hbl HB.out.size)).trans HCX.out.2;obtain ⟨e1,e2,e3⟩:=box_cells (bthen HB.out hb2) HX0.out;clear hb2;have HO3:=jH (HO.out.below HB2.out);have HW3:=jH (bthen HB.out HB2.out)
      go_wp2_with (at_builtin;refine wpList_appendL eSmp (by rfl) (by rfl) W.heap.size (rpA l x p q k) [y] _ _ (by rfl) (by rfl) (HO3.out.below (balloc jR _)) (RowIn.lit w2 y _ _ _ rfl rfl) (by simp;omega) (by have:=HW3.out.size;simp;omega) ?_;intro out4 A4 c4' w4 hout2 hown2 hg2 _
                   have hb2:jB W w4:=(balloc HW3.out _).trans (grown_own hg2 HO3.out (by have:=HW3.out.size;simp;omega));have HO4:=jH hown2;have HE4:=jH hout2;have HW4:=jH hb2;clear hown2 hout2 hg2 hb2)
      go_roundg (l.length - (k+1))
      case measure=>omega
      case rel=>exact ⟨k+1,hlt,Nat.le_refl _,by go_num,by rw [decide_eq_false (show ¬p<k+1 by omega)],by rw [HN.out,←HE4.out];exact HO4.out,HW4.out⟩
    · subst hp
      have hge:x.1≤l[k].1:=by have:=mt hsp.2 (by omega);omega
      have HC0:=jH (And.intro (show w.cell? ⟨b,o+k * 2,none⟩=some (.int .i64 l[k].1) from hc 0 _ rfl) (show w.cell? ⟨b,o+k * 2+1,none⟩=some (.int .i64 l[k].2) from hc 1 _ rfl));have hl2:(rpA l x k q k).length≤k:=by unfold rpA;rw [if_pos (Nat.le_refl _)];simp;omega
      cases hit with
      | true =>
        have he:l[k].1=x.1:=by have:=HH.out;simp at this;exact this.2
        have hq2:q=k+1:=by have:=HQ.out;simpa using this
        subst hq2;have HN:=jH (rpA_hit (x:=x) hlt);have hne:(l[k].1 != x.1)=false:=by simp [he]
        clear hsp hgk hc;generalize l[k]=y at *;rw [decide_eq_false (show ¬k<k by omega)];have HB:=jH hb;have HCX:=jH (And.intro c1 c2);clear hb;go_wp2_with fail
        go_quiet (fail)
        obtain ⟨w1,hw1⟩:∃w1:World,w1=wr.drewN nq:=⟨_,rfl⟩;rw [←hw1];have hb1:jB wr w1:=by rw [hw1];exact below_drewN jR _
        clear hw1 c1 c2 a1 a2 a3;have HW1:=jH (bthen HB.out hb1);have HO1:=jH (HO.out.below hb1);obtain ⟨e1,e2,e3⟩:=box_cells HW1.out HX0.out;clear hb1
        go_wp2_with (at_builtin;refine wpList_appendL eSmp (by rfl) (by rfl) W.heap.size (rpA l x k (k+1) k) [x] _ _ (by rfl) (by rfl) (HO1.out.below (balloc jR _)) (RowIn.lit w1 x _ _ _ rfl rfl) (by simp;omega) (by have:=HW1.out.size;simp;omega) ?_;intro out2 A2 c2 w2 hout2 hown2 hg2 _
                     have hb2:jB W w2:=(balloc HW1.out _).trans (grown_own hg2 HO1.out (by have:=HW1.out.size;simp;omega));have hgb:b<w2.heap.size:=Nat.lt_of_lt_of_le hbl hb2.size;have hcc:=((bthen hb0 hb2).cell (p:=⟨b,_,none⟩) hbw).trans HC0.out.1;have hcd:=((bthen hb0 hb2).cell (p:=⟨b,_,none⟩) hbw).trans HC0.out.2;obtain ⟨f1,f2,f3⟩:=box_cells hb2 HX0.out;have HO2:=jH hown2;have HE2:=jH hout2;have HW2:=jH hb2
                     clear hown2 hout2 hg2 hb2 e1 e2 e3)
        go_quiet (fail)
        obtain ⟨w3,hw3⟩:∃w3:World,w3=w2.drewN nq:=⟨_,rfl⟩;rw [←hw3];have hb3:jB w2 w3:=by rw [hw3];exact below_drewN jR _
        have d1:=(hb3.cell (p:=⟨b,_,none⟩) hgb).trans hcc;have d2:=(hb3.cell (p:=⟨b,_,none⟩) hgb).trans hcd;clear hw3 hcc hcd f1 f2 f3;have HW3:=jH (bthen HW2.out hb3);have HO3:=jH (HO2.out.below hb3);clear hb3;go_wp2
        go_roundg (l.length - (k+1))
        case measure=>omega
        case rel=>exact ⟨k+1,hlt,Nat.le_refl _,by go_num,by rw [decide_eq_true (show k<k+1 by omega)],by rw [HN.out,←HE2.out];exact HO3.out,HW3.out⟩
      | false =>
        have he:l[k].1≠x.1:=by have:=HH.out;simp at this;exact this hlt
        have hq2:k=q:=by have:=HQ.out;simp at this;exact this.symm
        subst hq2;have HN:=jH (rpA_in (x:=x) hlt);have hne:(l[k].1 != x.1)=true:=by simp [he]
        clear he;clear hsp hgk hc;generalize l[k]=y at *;rw [decide_eq_false (show ¬k<k by omega)];have HB:=jH hb;have HCX:=jH (And.intro c1 c2);clear hb;go_wp2_with fail
        go_quiet (fail)
        obtain ⟨w1,hw1⟩:∃w1:World,w1=wr.drewN nq:=⟨_,rfl⟩;rw [←hw1];have hb1:jB wr w1:=by rw [hw1];exact below_drewN jR _
        clear hw1 c1 c2 a1 a2 a3;have HW1:=jH (bthen HB.out hb1);have HO1:=jH (HO.out.below hb1);obtain ⟨e1,e2,e3⟩:=box_cells HW1.out HX0.out;clear hb1
        go_wp2_with (at_builtin;refine wpList_appendL eSmp (by rfl) (by rfl) W.heap.size (rpA l x k k k) [x] _ _ (by rfl) (by rfl) (HO1.out.below (balloc jR _)) (RowIn.lit w1 x _ _ _ rfl rfl) (by simp;omega) (by have:=HW1.out.size;simp;omega) ?_;intro out2 A2 c2 w2 hout2 hown2 hg2 _
                     have hb2:jB W w2:=(balloc HW1.out _).trans (grown_own hg2 HO1.out (by have:=HW1.out.size;simp;omega));have hgb:b<w2.heap.size:=Nat.lt_of_lt_of_le hbl hb2.size;have hcc:=((bthen hb0 hb2).cell (p:=⟨b,_,none⟩) hbw).trans HC0.out.1;have hcd:=((bthen hb0 hb2).cell (p:=⟨b,_,none⟩) hbw).trans HC0.out.2;obtain ⟨f1,f2,f3⟩:=box_cells hb2 HX0.out;have HO2:=jH hown2;have HE2:=jH hout2;have HW2:=jH hb2
                     clear hown2 hout2 hg2 hb2 e1 e2 e3)
        go_quiet (fail)
        obtain ⟨w3,hw3⟩:∃w3:World,w3=w2.drewN nq:=⟨_,rfl⟩;rw [←hw3];have hb3:jB w2 w3:=by rw [hw3];exact below_drewN jR _
        have d1:=(hb3.cell (p:=⟨b,_,none⟩) hgb).trans hcc;have d2:=(hb3.cell (p:=⟨b,_,none⟩) hgb).trans hcd;clear hw3 hcc hcd f1 f2 f3;have HW3:=jH (bthen HW2.out hb3);have HO3:=jH (HO2.out.below hb3);clear hb3;have hl3:out2.length≤k+1:=by rw [HE2.out];simp;omega
        go_wp2_with (at_builtin;refine wpList_appendL eSmp (by rfl) (by rfl) W.heap.size out2 [y] _ _ (by rfl) (by rfl) (HO3.out.below (balloc jR _)) (RowIn.lit w3 y _ _ _ rfl rfl) (by simp;omega) (by have:=HW3.out.size;simp;omega) ?_;intro out4 A4 c4 w4 hout2 hown2 hg2 _
                     have hb2:jB W w4:=(balloc HW3.out _).trans (grown_own hg2 HO3.out (by have:=HW3.out.size;simp;omega));have HO4:=jH hown2;have HE4:=jH hout2;have HW4:=jH hb2;clear hown2 hout2 hg2 hb2)
        go_roundg (l.length - (k+1))
        case measure=>omega
        case rel=>exact ⟨k+1,hlt,Nat.le_refl _,by go_num,by rw [decide_eq_true (show k<k+1 by omega)],by rw [HN.out,←HE2.out,←HE4.out];exact HO4.out,HW4.out⟩
    · have HN:=jH (rpA_high (x:=x) (q:=q) hlt hp (by omega))
      have hgt2:=hgk hp;have hne:(l[k].1 != x.1)=true:=by simp;omega
      clear hsp hgk hc;generalize l[k]=y at *;rw [decide_eq_true (show p<k by omega)];have HB:=jH hb;have HCX:=jH (And.intro c1 c2);clear hb;go_wp2_with fail
      go_quiet (fail)
      obtain ⟨w1,hw1⟩:∃w1:World,w1=wr.drewN nq:=⟨_,rfl⟩;rw [←hw1];have hb1:jB wr w1:=by rw [hw1];exact below_drewN jR _
      clear hw1 c1 c2 a1 a2 a3;have HB1:=jH hb1;have d1:=(hb1.cell (p:=⟨b,_,none⟩) (Nat.lt_of_lt_of_le hbl HB.out.size)).trans HCX.out.1;have d2:=(hb1.cell (p:=⟨b,_,none⟩) (Nat.lt_of_lt_of_le hbl HB.out.size)).trans HCX.out.2;obtain ⟨e1,e2,e3⟩:=box_cells (bthen HB.out hb1) HX0.out;clear hb1;go_wp2_with fail
      go_quiet (fail)
      obtain ⟨w2,hw1⟩:∃w2:World,w2=w1.drewN nq:=⟨_,rfl⟩;rw [←hw1];have hb2:jB wr w2:=by rw [hw1];exact below_drewN HB1.out _
      clear hw1 d1 d2 e1 e2 e3;have HB2:=jH hb2;have d1:=(hb2.cell (p:=⟨b,_,none⟩) (Nat.lt_of_lt_of_le hbl HB.out.size)).trans HCX.out.1;have d2:=(hb2.cell (p:=⟨b,_,none⟩) (Nat.lt_of_lt_of_le hbl HB.out.size)).trans HCX.out.2;obtain ⟨e1,e2,e3⟩:=box_cells (bthen HB.out hb2) HX0.out;clear hb2;have HO3:=jH (HO.out.below HB2.out);have HW3:=jH (bthen HB.out HB2.out)
      go_wp2_with (at_builtin;refine wpList_appendL eSmp (by rfl) (by rfl) W.heap.size (rpA l x p q k) [y] _ _ (by rfl) (by rfl) (HO3.out.below (balloc jR _)) (RowIn.lit w2 y _ _ _ rfl rfl) (by simp;omega) (by have:=HW3.out.size;simp;omega) ?_;intro out4 A4 c4' w4 hout2 hown2 hg2 _
                   have hb2:jB W w4:=(balloc HW3.out _).trans (grown_own hg2 HO3.out (by have:=HW3.out.size;simp;omega));have HO4:=jH hown2;have HE4:=jH hout2;have HW4:=jH hb2;clear hown2 hout2 hg2 hb2)
      go_roundg (l.length - (k+1))
      case measure=>omega
      case rel=>exact ⟨k+1,hlt,Nat.le_refl _,by go_num,by rw [decide_eq_true (show p<k+1 by omega)],by rw [HN.out,←HE4.out];exact HO4.out,HW4.out⟩
  · obtain rfl:k=l.length:=by omega
    have hpl:=HS.out.1
    rcases Nat.lt_or_ge p l.length with hp|hp
    · rw [decide_eq_true hp]
      cases hit with
      | true =>
        have hq2:q=p+1:=by have:=HQ.out;simpa using this
        have e:rpA l x p q l.length=putS l (room:Nat) x:=by
         rw [HP.out,if_pos rfl,hq2];unfold rpA;rw [if_neg (by omega),List.take_length,List.set_eq_take_append_cons_drop,if_pos hp]
        rw [e] at HO ⊢;have hlen:(putS l (room:Nat) x).length=l.length:=by rw [HP.out,if_pos rfl,List.length_set]
        have hnl:¬(room:Int)<((putS l (room:Nat) x).length:Int):=by rw [hlen];omega
        have HE:=jH (RowG.own eSmp HO.out);clear hlen hlt HO e hq2;go_wp2
        go_ret
        exact ⟨_,_,rfl,HE.out.imp (fun b hb'=>Nat.le_trans hb0.size hb'),bthen hb0 hb⟩
      | false =>
        have hq2:q=p:=by have:=HQ.out;simpa using this
        obtain ⟨out,hout⟩:∃out,out=rpA l x p q l.length:=⟨_,rfl⟩;rw [←hout] at HO ⊢;have e:putS l (room:Nat) x=cutS (room:Nat) out:=by
         rw [HP.out,if_neg (by simp),hout,hq2];unfold rpA;rw [if_neg (by omega),List.take_length]
        have hlen:(out.length:Int)=(l.length:Int)+1:=by
         rw [hout,hq2];unfold rpA;rw [if_neg (by omega)];simp;omega
        obtain ⟨m,A4,c4,hm,hA,hrun,hrow⟩:=row_from2 eSmp (HO.out.row eSmp) 1 (by omega);simp only [show ((1:Nat):Int)=1 from rfl] at hrun
        have HE:=jH (RowG.own eSmp HO.out);have HA:=jH hA;have HR:=jH hrow;have HM:=jH hm;have HEQ:=jH e;clear hlt HO hA hrow hm e hout hq2
        by_cases hc:(room:Int)<(l.length:Int)+1
        · go_wp2
          go_ret
          rw [HEQ.out];unfold cutS;rw [if_pos (by omega)];have hp3:=RowG.part HE.out HA.out (by rw [HM.out];simp) HR.out;rw [HM.out] at hp3 ⊢;exact ⟨_,_,rfl,hp3.imp (fun b hb'=>Nat.le_trans hb0.size hb'),bthen hb0 hb⟩
        · go_wp2
          go_ret
          rw [HEQ.out];unfold cutS;rw [if_neg (by omega)];exact ⟨_,_,rfl,HE.out.imp (fun b hb'=>Nat.le_trans hb0.size hb'),bthen hb0 hb⟩
    · obtain rfl:p=l.length:=by omega
      rw [decide_eq_false (show ¬l.length<l.length by omega)];have hf:hit=false:=by rw [HH.out];simp
      subst hf;have e0:rpA l x l.length q l.length=l:=by unfold rpA;rw [if_pos (Nat.le_refl _),List.take_length]
      rw [e0] at HO ⊢;clear hrl e0 hlt
      go_wp2_with (at_builtin;refine wpList_appendL eSmp (by rfl) (by rfl) W.heap.size l [x] _ _ (by rfl) (by rfl) (HO.out.below (balloc jR _)) (RowIn.lit wr x _ _ _ rfl rfl) (by simp;omega) (by have:=hb.size;simp;omega) ?_;intro out A2 c2 w2 hout hown2 hg2 _
                   have hb2:jB W w2:=(balloc hb _).trans (grown_own hg2 HO.out (by have:=hb.size;simp;omega));have hlen:(out.length:Int)=(l.length:Int)+1:=by rw [hout];simp
                   have e:putS l (room:Nat) x=cutS (room:Nat) out:=by
                    rw [HP.out,if_neg (by simp),hout,List.take_length,List.drop_length]
                   obtain ⟨m,A4,c4,hm,hA,hrun,hrow⟩:=row_from2 eSmp (hown2.row eSmp) 1 (by omega);simp only [show ((1:Nat):Int)=1 from rfl] at hrun
                   have HE:=jH (RowG.own eSmp hown2);have HA:=jH hA;have HR:=jH hrow;have HM:=jH hm;have HB2:=jH hb2;have HEQ:=jH e;clear hout hown2 hg2 hb2 hA hrow hm e)
      all_goals
        go_ret
        rw [HEQ.out];unfold cutS
        first
         | (rw [if_pos (by omega)]
            have hp3:=RowG.part HE.out HA.out (by rw [HM.out];simp) HR.out;rw [HM.out] at hp3 ⊢;exact ⟨_,_,rfl,hp3.imp (fun b hb'=>Nat.le_trans hb0.size hb'),bthen hb0 HB2.out⟩)
         | (rw [if_neg (by omega)]
            exact ⟨_,_,rfl,HE.out.imp (fun b hb'=>Nat.le_trans hb0.size hb'),bthen hb0 HB2.out⟩)
theorem sorted_at {l:List Smp} (hr:risingS l) (t:Int):SortedAt l t (placeS l t):=⟨placeS_le l t,placeS_lt hr t⟩
end
end Go.Proofs.YtkcdhaallnhhmaaGreat
