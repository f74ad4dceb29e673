/- Part 9 of the proof: RIt2, RIt3, Win2, Ctl. -/
import Derived.Test.YtpmfcpdelkchaaaGreatL07
namespace Go.Proofs.YtpmfcpdelkchaaaGreat
set_option linter.unusedSimpArgs false
set_option linter.unusedVariables false
set_option linter.unusedSectionVars false
set_option maxRecDepth 100000
set_option maxHeartbeats 16000000
section
open Go.RowKit Go.Lib Go.Sort
def hasI (l:List It) (k:Ky):Bool:=if h:atI l k<l.length then decide (l[atI l k].key=k) else false
theorem ihas_any (v:Value) (l:List It) (k:Ky) (w:World) (hv:RowIn 12 itC w v l) (hl:l.length≤1000000) (hok:∀x∈l,x.key.ok) (hk:k.ok) :
 Calls Tryz.prog 206 #[v,.agg #[.int .u64 k.1,.int .u64 k.2]] w (jP w (.bool (hasI l k))):=by
 obtain ⟨A,c,rfl⟩:=hv.form;have HAT:=jH (fun (W:World) (hb:jB w W)=>iat_any _ l k W (hv.below hb) hl hok hk);have HV:=jH hv;unfold hasI;clear hv
 by_cases hal:atI l k<l.length
 · rw [dif_pos hal]
   obtain ⟨b,o,rfl,hbw,hc⟩:=HV.out.at_ hal;have c1:w.cell? ⟨b,o+atI l k * 12,none⟩=some (.int .u64 l[atI l k].key.1):=hc 0 _ rfl;have c2:w.cell? ⟨b,o+atI l k * 12+1,none⟩=some (.int .u64 l[atI l k].key.2):=hc 1 _ rfl;have hyok:=hok _ (List.getElem_mem hal);generalize l[atI l k].key=y at c1 c2 hyok ⊢;have HC1:=jH c1;have HC2:=jH c2;clear hc c1 c2 hok;generalize ha:atI l k=a at *;clear ha
   by_cases hyk:y=k
   · subst hyk
     rw [decide_eq_true rfl]
     go_enter Tryz.func206,Tryz.ntmps206
     go_wp2_with (first
      | (go_at_call 248
         refine calls_named ?_;intro W1 hW1;obtain ⟨k0,k1,hs,hb⟩:=box_one w y W1 hW1;clear hW1;refine (HAT.out W1 hb).mono ?_;rintro e w2 ⟨rfl,hb2⟩;have a1:=(hb2.cell (p:=⟨w.heap.size,0,none⟩) (by simp;omega)).trans k0;have a2:=(hb2.cell (p:=⟨w.heap.size,1,none⟩) (by simp;omega)).trans k1;have a3:=((bthen hb hb2).cell (p:=⟨b,_,none⟩) hbw).trans HC1.out;have a4:=((bthen hb hb2).cell (p:=⟨b,_,none⟩) hbw).trans HC2.out
         have HB:=jH (bthen hb hb2);clear k0 k1 hs hb hb2))
     go_quiet (fail)
     go_wp2
     go_ret
     exact ⟨rfl,below_drewN HB.out _⟩
   · rw [decide_eq_false hyk]
     by_cases h1:y.1=k.1
     · have hh:((y.2:Int) == (k.2:Int))=false:=by
        have:y.2≠k.2:=fun h2=>hyk (Prod.ext h1 h2)
        simp;omega
       rw [h1] at HC1;clear hyk h1
       go_enter Tryz.func206,Tryz.ntmps206
       go_wp2_with (first
        | (go_at_call 248
           refine calls_named ?_;intro W1 hW1;obtain ⟨k0,k1,hs,hb⟩:=box_one w k W1 hW1;clear hW1;refine (HAT.out W1 hb).mono ?_;rintro e w2 ⟨rfl,hb2⟩;have a1:=(hb2.cell (p:=⟨w.heap.size,0,none⟩) (by simp;omega)).trans k0;have a2:=(hb2.cell (p:=⟨w.heap.size,1,none⟩) (by simp;omega)).trans k1;have a3:=((bthen hb hb2).cell (p:=⟨b,_,none⟩) hbw).trans HC1.out;have a4:=((bthen hb hb2).cell (p:=⟨b,_,none⟩) hbw).trans HC2.out
           have HB:=jH (bthen hb hb2);clear k0 k1 hs hb hb2))
       go_quiet (fail)
       go_wp2
       go_ret
       exact ⟨rfl,below_drewN HB.out _⟩
     · have hh:((y.1:Int) == (k.1:Int))=false:=by simp;omega
       clear hyk h1
       go_enter Tryz.func206,Tryz.ntmps206
       go_wp2_with (first
        | (go_at_call 248
           refine calls_named ?_;intro W1 hW1;obtain ⟨k0,k1,hs,hb⟩:=box_one w k W1 hW1;clear hW1;refine (HAT.out W1 hb).mono ?_;rintro e w2 ⟨rfl,hb2⟩;have a1:=(hb2.cell (p:=⟨w.heap.size,0,none⟩) (by simp;omega)).trans k0;have a2:=(hb2.cell (p:=⟨w.heap.size,1,none⟩) (by simp;omega)).trans k1;have a3:=((bthen hb hb2).cell (p:=⟨b,_,none⟩) hbw).trans HC1.out;have a4:=((bthen hb hb2).cell (p:=⟨b,_,none⟩) hbw).trans HC2.out
           have HB:=jH (bthen hb hb2);clear k0 k1 hs hb hb2))
       go_quiet (fail)
       go_wp2
       go_ret
       exact ⟨rfl,below_drewN HB.out _⟩
 · rw [dif_neg hal]
   have hle:=atI_le l k;have e1:atI l k=l.length:=by omega
   rw [e1] at HAT
   go_enter Tryz.func206,Tryz.ntmps206
   go_wp2_with (first
    | (go_at_call 248
       refine calls_named ?_;intro W1 hW1;obtain ⟨k0,k1,hs,hb⟩:=box_one w k W1 hW1;clear hW1;refine (HAT.out W1 hb).mono ?_;rintro e w2 ⟨rfl,hb2⟩;have HB:=jH (bthen hb hb2);clear k0 k1 hs hb hb2))
   go_quiet (fail)
   go_wp2
   go_ret
   exact ⟨rfl,below_drewN HB.out _⟩
end
section
open Go.RowKit Go.Lib Go.Sort
def it0:It:=⟨(0,0),none,0,none,0,nd0⟩
def getL (l:List It) (k:Ky):It:=if h:atI l k<l.length then (if l[atI l k].key=k then l[atI l k] else it0) else it0
theorem getL_has {l:List It} {k:Ky} (h:hasI l k=true):∃hl:atI l k<l.length,getL l k=l[atI l k]:=by
 unfold hasI at h
 split at h
 · rename_i hl
   refine ⟨hl,?_⟩;unfold getL;rw [dif_pos hl,if_pos (by simpa using h)]
 · cases h
theorem getL_none {l:List It} {k:Ky} (h:hasI l k=false):getL l k=it0:=by
 unfold hasI at h;unfold getL
 split at h
 · rename_i hl
   rw [dif_pos hl,if_neg (by simpa using h)]
 · rename_i hl
   rw [dif_neg hl]
theorem two_boxes (w:World) (o1 o2:Obj):∀W,W=(w.alloc o1).alloc o2→W.heap[w.heap.size]?=some o1∧W.heap[w.heap.size+1]?=some o2∧W.heap.size=w.heap.size+2∧jB w W:=by
 rintro W rfl;refine ⟨(Below.heap_alloc _ _ _ (by simp)).trans (heap_alloc_new _ _),?_,by simp,balloc (balloc jR _) _⟩;have:=heap_alloc_new (w.alloc o1) o2;rw [World.size_alloc] at this;exact this
theorem set10 {w:World} {B:Nat} {u0 u1 u2 u3 u4 u5 u6 u7 u8 u9:Value} {T:TypeId} (h:w.heap[B]?=some (.cells #[u0,u1,u2,u3,u4,u5,u6,u7,u8,u9] T (0,0))) (v0 v1 v2 v3 v4 v5 v6 v7 v8 v9:Value):∀W,W=(((((((((w.setCell ⟨B,0,none⟩ v0).setCell ⟨B,1,none⟩ v1).setCell ⟨B,2,none⟩ v2).setCell ⟨B,3,none⟩ v3).setCell ⟨B,4,none⟩ v4).setCell ⟨B,5,none⟩ v5).setCell ⟨B,6,none⟩ v6).setCell ⟨B,7,none⟩ v7).setCell ⟨B,8,none⟩ v8).setCell ⟨B,9,none⟩ v9 →
    W.heap[B]?=some (.cells #[v0,v1,v2,v3,v4,v5,v6,v7,v8,v9] T (0,0))∧(∀k,k≠B→W.heap[k]?=w.heap[k]?)∧W.heap.size=w.heap.size∧∀n,n≤B→Below n w W:=by
  rintro W rfl;refine ⟨?_,fun k hk=>?_,by simp [World.setCell],fun n hn=>?_⟩
  · have h0:(w.setCell ⟨B,0,none⟩ v0).heap[B]?=some (.cells #[v0,u1,u2,u3,u4,u5,u6,u7,u8,u9] T (0,0)):=setCell_block (i:=0) (v:=v0) h
    have h1:((w.setCell ⟨B,0,none⟩ v0).setCell ⟨B,1,none⟩ v1).heap[B]?=some (.cells #[v0,v1,u2,u3,u4,u5,u6,u7,u8,u9] T (0,0)):=setCell_block (i:=1) (v:=v1) h0;have h2:(((w.setCell ⟨B,0,none⟩ v0).setCell ⟨B,1,none⟩ v1).setCell ⟨B,2,none⟩ v2).heap[B]?=some (.cells #[v0,v1,v2,u3,u4,u5,u6,u7,u8,u9] T (0,0)):=setCell_block (i:=2) (v:=v2) h1;have h3:((((w.setCell ⟨B,0,none⟩ v0).setCell ⟨B,1,none⟩ v1).setCell ⟨B,2,none⟩ v2).setCell ⟨B,3,none⟩ v3).heap[B]?=some (.cells #[v0,v1,v2,v3,u4,u5,u6,u7,u8,u9] T (0,0)):=setCell_block (i:=3) (v:=v3) h2
    have h4:(((((w.setCell ⟨B,0,none⟩ v0).setCell ⟨B,1,none⟩ v1).setCell ⟨B,2,none⟩ v2).setCell ⟨B,3,none⟩ v3).setCell ⟨B,4,none⟩ v4).heap[B]?=some (.cells #[v0,v1,v2,v3,v4,u5,u6,u7,u8,u9] T (0,0)):=setCell_block (i:=4) (v:=v4) h3;have h5:((((((w.setCell ⟨B,0,none⟩ v0).setCell ⟨B,1,none⟩ v1).setCell ⟨B,2,none⟩ v2).setCell ⟨B,3,none⟩ v3).setCell ⟨B,4,none⟩ v4).setCell ⟨B,5,none⟩ v5).heap[B]?=some (.cells #[v0,v1,v2,v3,v4,v5,u6,u7,u8,u9] T (0,0)):=setCell_block (i:=5) (v:=v5) h4
    have h6:(((((((w.setCell ⟨B,0,none⟩ v0).setCell ⟨B,1,none⟩ v1).setCell ⟨B,2,none⟩ v2).setCell ⟨B,3,none⟩ v3).setCell ⟨B,4,none⟩ v4).setCell ⟨B,5,none⟩ v5).setCell ⟨B,6,none⟩ v6).heap[B]?=some (.cells #[v0,v1,v2,v3,v4,v5,v6,u7,u8,u9] T (0,0)):=setCell_block (i:=6) (v:=v6) h5;have h7:((((((((w.setCell ⟨B,0,none⟩ v0).setCell ⟨B,1,none⟩ v1).setCell ⟨B,2,none⟩ v2).setCell ⟨B,3,none⟩ v3).setCell ⟨B,4,none⟩ v4).setCell ⟨B,5,none⟩ v5).setCell ⟨B,6,none⟩ v6).setCell ⟨B,7,none⟩ v7).heap[B]?=some (.cells #[v0,v1,v2,v3,v4,v5,v6,v7,u8,u9] T (0,0)):=setCell_block (i:=7) (v:=v7) h6
    have h8:(((((((((w.setCell ⟨B,0,none⟩ v0).setCell ⟨B,1,none⟩ v1).setCell ⟨B,2,none⟩ v2).setCell ⟨B,3,none⟩ v3).setCell ⟨B,4,none⟩ v4).setCell ⟨B,5,none⟩ v5).setCell ⟨B,6,none⟩ v6).setCell ⟨B,7,none⟩ v7).setCell ⟨B,8,none⟩ v8).heap[B]?=some (.cells #[v0,v1,v2,v3,v4,v5,v6,v7,v8,u9] T (0,0)):=setCell_block (i:=8) (v:=v8) h7;have h9:((((((((((w.setCell ⟨B,0,none⟩ v0).setCell ⟨B,1,none⟩ v1).setCell ⟨B,2,none⟩ v2).setCell ⟨B,3,none⟩ v3).setCell ⟨B,4,none⟩ v4).setCell ⟨B,5,none⟩ v5).setCell ⟨B,6,none⟩ v6).setCell ⟨B,7,none⟩ v7).setCell ⟨B,8,none⟩ v8).setCell ⟨B,9,none⟩ v9).heap[B]?=some (.cells #[v0,v1,v2,v3,v4,v5,v6,v7,v8,v9] T (0,0)):=setCell_block (i:=9) (v:=v9) h8
    exact h9
  · have e:∀(u:World) (i:Nat) (v:Value),(u.setCell ⟨B,i,none⟩ v).heap[k]?=u.heap[k]?:=fun u i v=>Below.heap_setCell _ _ _ _ hk
    rw [e,e,e,e,e,e,e,e,e,e]
  · exact (((((((((((Below.refl n w).setCell hn _).setCell hn _).setCell hn _).setCell hn _).setCell hn _).setCell hn _).setCell hn _).setCell hn _).setCell hn _).setCell hn _)
theorem iget_any (v:Value) (l:List It) (k:Ky) (w:World) (hv:RowIn 12 itC w v l) (hl:l.length≤1000000) (hok:∀x∈l,x.key.ok) (hk:k.ok) :
 Calls Tryz.prog 205 #[v,.agg #[.int .u64 k.1,.int .u64 k.2]] w (jP w (.agg (loadC (getL l k)).toArray)):=by
 obtain ⟨A,c,rfl⟩:=hv.form;have HH:=jH (fun (W:World) (hb:jB w W)=>ihas_any _ l k W (hv.below hb) hl hok hk);have HAT:=jH (fun (W:World) (hb:jB w W)=>iat_any _ l k W (hv.below hb) hl hok hk);have HV:=jH hv;clear hv
 cases hh:hasI l k with
 | true =>
   obtain ⟨hal,hg⟩:=getL_has hh;have HG:=jH hg;rw [hh] at HH;obtain ⟨b,o,rfl,hbw,hc⟩:=HV.out.at_ hal;generalize l[atI l k]=x at hc HG;have HC:=jH (show ∀j u,(itC x)[j]?=some u→w.cell? ⟨b,o+atI l k * 12+j,none⟩=some u from hc);generalize ha:atI l k=a at *;clear ha hg hc hh hok
   go_enter Tryz.func205,Tryz.ntmps205
   go_wp2_with (first
    | (go_at_call 206
       refine calls_named ?_;intro W1 hW1;obtain ⟨k0,k1,hs,hb⟩:=two_boxes w _ _ W1 hW1;clear hW1;refine (HH.out W1 hb).mono ?_;rintro e w2 ⟨rfl,hb2⟩;obtain ⟨a1,a2,a3,a4⟩:=box_at hb2 k0;have HX:=jH (And.intro a4 (jK hb2 k1));have HB:=jH (bthen hb hb2);clear k0 k1 hs hb hb2 a4)
    | (go_at_call 248
       refine (HAT.out w2 HB.out).mono ?_;rintro e w3 ⟨rfl,hb3⟩;obtain ⟨b1,b2,b3⟩:=box_cells hb3 HX.out.2;have hbb:=bthen HB.out hb3;have q0:=(hbb.cell (p:=⟨b,_,none⟩) hbw).trans (HC.out 2 _ rfl);have q1:=(hbb.cell (p:=⟨b,_,none⟩) hbw).trans (HC.out 3 _ rfl);have q2:=(hbb.cell (p:=⟨b,_,none⟩) hbw).trans (HC.out 4 _ rfl);have q3:=(hbb.cell (p:=⟨b,_,none⟩) hbw).trans (HC.out 5 _ rfl);have q4:=(hbb.cell (p:=⟨b,_,none⟩) hbw).trans (HC.out 6 _ rfl)
       have q5:=(hbb.cell (p:=⟨b,_,none⟩) hbw).trans (HC.out 7 _ rfl);have q6:=(hbb.cell (p:=⟨b,_,none⟩) hbw).trans (HC.out 8 _ rfl);have q7:=(hbb.cell (p:=⟨b,_,none⟩) hbw).trans (HC.out 9 _ rfl);have q8:=(hbb.cell (p:=⟨b,_,none⟩) hbw).trans (HC.out 10 _ rfl);have q9:=(hbb.cell (p:=⟨b,_,none⟩) hbw).trans (HC.out 11 _ rfl);have HB3:=jH (And.intro hbb (jK hb3 HX.out.2));clear hb3 hbb))
   refine post_named ?_;intro W4 hW4;obtain ⟨h4,h5,h6,h7⟩:=set10 HB3.out.2 _ _ _ _ _ _ _ _ _ _ W4 hW4;obtain ⟨d1,d2,d3⟩:=box_cells jR h4;have hb4:=HB3.out.1.trans (h7 w.heap.size (by omega));clear hW4;exact bodyPost_ret (v:=.agg (loadC x).toArray) (by simp [results,Tryz.results205,go_sem,loadC,d1]) rfl ⟨by rw [HG.out],hb4⟩
 | false =>
   have HG:=jH (getL_none hh);rw [hh] at HH;clear hh hok
   go_enter Tryz.func205,Tryz.ntmps205
   go_wp2_with (first
    | (go_at_call 206
       refine calls_named ?_;intro W1 hW1;obtain ⟨k0,k1,hs,hb⟩:=two_boxes w _ _ W1 hW1;clear hW1;refine (HH.out W1 hb).mono ?_;rintro e w2 ⟨rfl,hb2⟩;obtain ⟨a1,a2,a3⟩:=box_cells hb2 k0;obtain ⟨b1,b2,b3⟩:=box_cells hb2 k1;have HB:=jH (And.intro (bthen hb hb2) (jK hb2 k1));clear k0 k1 hs hb hb2))
   refine post_named ?_;intro W4 hW4;obtain ⟨h4,h5,h6,h7⟩:=set10 HB.out.2 _ _ _ _ _ _ _ _ _ _ W4 hW4;obtain ⟨d1,d2,d3⟩:=box_cells jR h4;have hb4:=HB.out.1.trans (h7 w.heap.size (by omega));clear hW4;exact bodyPost_ret (v:=.agg (loadC it0).toArray) (by simp [results,Tryz.results205,go_sem,loadC,it0,nd0,pol0,d1]) rfl ⟨by rw [HG.out],hb4⟩
end
section
open Go.RowKit Go.Lib
theorem winCut_any (v:Value) (l:List Smp) (a b:Int) (w:World) (hv:RowIn 2 smpC w v l) (hl:l.length≤1000000) :
 Calls Tryz.prog 217 #[v,.int .i64 a,.int .i64 b] w fun e w'=>∃A c,e=.returned (.slice A (winC l a b).length c)∧OwnL smpC 138 2 w.heap.size w' (.slice A (winC l a b).length c) (winC l a b)∧jB w w':=by
 obtain ⟨A,c,rfl⟩:=hv.form;have HV:=jH hv;have HL:=jH hl;have hl9:l.length≤9223372036854775807:=by omega
 clear hv hl
 go_enter Tryz.func217,Tryz.ntmps217
 go_wp2
 go_loopg [7,12] l.length (fun g s7 s12 wr=>∃k:Nat,k≤l.length∧l.length - k≤g∧s12=.int .i64 k∧OwnL smpC 138 2 w.heap.size wr s7 (winC (l.take k) a b)∧jB w wr)
 case atStart=>exact ⟨0,Nat.zero_le _,Nat.le_refl _,rfl,by simp [winC];exact OwnL.nil _ _,jR⟩
 case round =>
  obtain ⟨k,hk,hg,rfl,hown,hb⟩:=hrel;rename World=>wr
  obtain ⟨pre,hpre⟩:∃pre,pre=winC (l.take k) a b:=⟨_,rfl⟩;rw [←hpre] at hown;obtain ⟨A5,c5,rfl⟩:=hown.form;have HPL:=jH (show pre.length≤k by rw [hpre];exact Nat.le_trans (cut_len _ _ _) (by simp;omega));have HPRE:=jH hpre;have HO:=jH hown;have HB:=jH hb;clear hpre hown hb
  by_cases hlt:k<l.length
  · obtain ⟨b1,o1,rfl,hb1,hc⟩:=(HV.out.below HB.out).at_ hlt
    have z1:(0:Int)≤(k:Int):=by omega
    have z2:(k:Int)<(l.length:Int):=by omega
    have HTK:=jH (show winC (l.take (k+1)) a b=pre++if a≤l[k].1∧l[k].1≤b then [l[k]] else [] by rw [List.take_succ_eq_append_getElem hlt,winC_snoc,HPRE.out]);generalize l[k]=x at hc HTK;have d0:=hc 0 _ rfl;have d1:=hc 1 _ rfl;rw [Nat.add_zero] at d0;have HK:=jH hlt;clear hc
    by_cases h1:a≤x.1
    · by_cases h2:x.1≤b
      · as_aux_lemma =>
        go_wp2_with (first
         | (at_builtin
            refine wpList_appendL eSmp (by rfl) (by rfl) w.heap.size pre [x] (.slice A5 pre.length c5) _ (by rfl) (by rfl) ((HO.out.below (balloc (balloc jR _) _))) (RowIn.lit _ x _ _ (wr.heap.size+1) (by simp) rfl) (by have:=HPL.out;have:=HL.out;have:=HK.out;simp;omega) (by have:=HB.out.size;simp;omega) ?_;intro out2 A9 c9 w13 hout2 hown2 hg2 _;have HO13:=jH hout2;have HW13:=jH hown2;have HB13:=jH (show jB w w13 from (balloc (balloc HB.out _) _).trans (grown_own hg2 HO.out (by have:=HB.out.size;simp;omega)))
            clear hout2 hown2 hg2))
        go_roundg (l.length - (k+1))
        case measure=>omega
        case rel=>exact ⟨k+1,HK.out,Nat.le_refl _,by go_num,by rw [HTK.out,if_pos ⟨h1,h2⟩,←HO13.out];exact HW13.out,HB13.out⟩
      · as_aux_lemma =>
        go_wp2_with fail
        go_roundg (l.length - (k+1))
        case measure=>omega
        case rel=>exact ⟨k+1,HK.out,Nat.le_refl _,by go_num,by rw [HTK.out,if_neg (by omega),List.append_nil];exact HO.out.below (balloc jR _),balloc HB.out _⟩
    · as_aux_lemma =>
      go_wp2_with fail
      go_roundg (l.length - (k+1))
      case measure=>omega
      case rel=>exact ⟨k+1,HK.out,Nat.le_refl _,by go_num,by rw [HTK.out,if_neg (by omega),List.append_nil];exact HO.out.below (balloc jR _),balloc HB.out _⟩
  · obtain rfl:k=l.length:=by omega
    have hp:=HPRE.out;rw [List.take_length] at hp;have HP:=jH hp;clear hp;go_wp2_with fail
    go_ret
    exact ⟨A5,c5,by rw [HP.out];rfl,by rw [←HP.out];exact HO.out,HB.out⟩
theorem winVals_any (v:Value) (l:List Smp) (w:World) (hv:RowIn 2 smpC w v l) (hl:l.length≤1000000) :
 Calls Tryz.prog 254 #[v] w fun e w'=>∃A c,e=.returned (.slice A (valsW l).length c)∧OwnL nmC 2 1 w.heap.size w' (.slice A (valsW l).length c) (valsW l)∧jB w w':=by
 obtain ⟨A,c,rfl⟩:=hv.form;have HV:=jH hv;have HL:=jH hl;have hl9:l.length≤9223372036854775807:=by omega
 clear hv hl
 go_enter Tryz.func254,Tryz.ntmps254
 go_wp2
 go_loopg [3,8] l.length (fun g s7 s12 wr=>∃k:Nat,k≤l.length∧l.length - k≤g∧s12=.int .i64 k∧OwnL nmC 2 1 w.heap.size wr s7 (valsW (l.take k))∧jB w wr)
 case atStart=>exact ⟨0,Nat.zero_le _,Nat.le_refl _,rfl,by simp [valsW];exact OwnL.nil _ _,jR⟩
 case round =>
  obtain ⟨k,hk,hg,rfl,hown,hb⟩:=hrel;rename World=>wr
  obtain ⟨pre,hpre⟩:∃pre,pre=valsW (l.take k):=⟨_,rfl⟩;rw [←hpre] at hown;obtain ⟨A5,c5,rfl⟩:=hown.form;have HPL:=jH (show pre.length≤k by rw [hpre,vals_len];simp;omega);have HPRE:=jH hpre;have HO:=jH hown;have HB:=jH hb;clear hpre hown hb
  by_cases hlt:k<l.length
  · obtain ⟨b1,o1,rfl,hb1,hc⟩:=(HV.out.below HB.out).at_ hlt
    have z1:(0:Int)≤(k:Int):=by omega
    have z2:(k:Int)<(l.length:Int):=by omega
    have HTK:=jH (show valsW (l.take (k+1))=pre++[max l[k].2 0] by rw [List.take_succ_eq_append_getElem hlt,valsW_snoc,HPRE.out]);generalize l[k]=x at hc HTK;have d0:=hc 0 _ rfl;have d1:=hc 1 _ rfl;rw [Nat.add_zero] at d0;have HK:=jH hlt;clear hc
    go_wp2_with (first
     | (at_builtin
        refine wpList_appendL eNm (by rfl) (by rfl) w.heap.size pre [max x.2 0] (.slice A5 pre.length c5) _ (by rfl) (by rfl) ((HO.out.below (balloc (balloc jR _) _))) (RowIn.lit _ (max x.2 0) _ _ (wr.heap.size+1) (by simp) (by simp [nmC])) (by have:=HPL.out;have:=HL.out;have:=HK.out;simp;omega) (by have:=HB.out.size;simp;omega) ?_;intro out2 A9 c9 w13 hout2 hown2 hg2 _;have HO13:=jH hout2;have HW13:=jH hown2
        have HB13:=jH (show jB w w13 from (balloc (balloc HB.out _) _).trans (grown_own hg2 HO.out (by have:=HB.out.size;simp;omega)));clear hout2 hown2 hg2))
    go_roundg (l.length - (k+1))
    case measure=>omega
    case rel=>exact ⟨k+1,HK.out,Nat.le_refl _,by go_num,by rw [HTK.out,←HO13.out];exact HW13.out,HB13.out⟩
  · obtain rfl:k=l.length:=by omega
    have hp:=HPRE.out;rw [List.take_length] at hp;have HP:=jH hp;clear hp;go_wp2_with fail
    go_ret
    exact ⟨A5,c5,by rw [HP.out];rfl,by rw [←HP.out];exact HO.out,HB.out⟩
theorem slMin_any (v:Value) (l:List Int) (w:World) (hv:RowIn 1 nmC w v l) (hl:l.length≤1000000) (hne:l≠[]) :
 Calls Tryz.prog 256 #[v] w fun e w'=>e=.returned (.int .i64 (minL l))∧w=w':=by
 obtain ⟨A,c,rfl⟩:=hv.form;have HV:=jH hv;have hl9:l.length≤9223372036854775807:=by omega
 have hp:0<l.length:=List.length_pos_iff.2 hne;have z0:¬(l.length:Int)<1:=by omega
 have z3:(0:Int)<(l.length:Int):=by omega
 obtain ⟨b1,o1,rfl,hb1,hc⟩:=HV.out.at_ hp;have d0:=hc 0 _ rfl;simp only [Nat.zero_mul,Nat.add_zero] at d0
 have HP:=jH hp;have HFST:=jH (show minL (l.take 1)=l[0] by
  rw [List.take_one]
  cases l with
  | nil=>exact absurd rfl hne
  | cons a l=>rfl)
 generalize l[0]=x0 at d0 HFST;clear hv hc hne hp
 go_enter Tryz.func256,Tryz.ntmps256
 go_wp2
 go_loopg [3,4] l.length (fun g s3 s8 wr=>∃k:Nat,1≤k∧k≤l.length∧l.length - k≤g∧s8=.int .i64 k∧s3=.int .i64 (minL (l.take k))∧w=wr)
 case atStart=>exact ⟨1,Nat.le_refl _,HP.out,by omega,rfl,by rw [HFST.out],rfl⟩
 case round =>
  obtain ⟨k,hk1,hk,hg,rfl,rfl,rfl⟩:=hrel
  by_cases hlt:k<l.length
  · obtain ⟨b2,o2,he,hb2,hc⟩:=HV.out.at_ hlt
    injection he with he
    injection he with e1 e2
    subst e1 e2;have z1:(0:Int)≤(k:Int):=by omega
    have z2:(k:Int)<(l.length:Int):=by omega
    have HS:=jH (show minL (l.take (k+1))=min (minL (l.take k)) l[k] by rw [List.take_succ_eq_append_getElem hlt,minL_snoc (by intro q;have:=congrArg List.length q;rw [List.length_take,List.length_nil] at this;omega)]);have d2:=hc 0 _ rfl;rw [Nat.add_zero,Nat.mul_one] at d2;generalize minL (l.take k)=s at HS ⊢;generalize l[k]=x at HS d2;clear hc d0;go_wp2
    go_roundg (l.length - (k+1))
    case measure=>omega
    case rel=>exact ⟨k+1,by omega,hlt,Nat.le_refl _,by go_num,by rw [HS.out],rfl⟩
  · obtain rfl:k=l.length:=by omega
    rw [List.take_length];go_wp2
    go_ret
    exact ⟨rfl,rfl⟩
theorem slMax_any (v:Value) (l:List Int) (w:World) (hv:RowIn 1 nmC w v l) (hl:l.length≤1000000) (hne:l≠[]) :
 Calls Tryz.prog 257 #[v] w fun e w'=>e=.returned (.int .i64 (maxL l))∧w=w':=by
 obtain ⟨A,c,rfl⟩:=hv.form;have HV:=jH hv;have hl9:l.length≤9223372036854775807:=by omega
 have hp:0<l.length:=List.length_pos_iff.2 hne;have z0:¬(l.length:Int)<1:=by omega
 have z3:(0:Int)<(l.length:Int):=by omega
 obtain ⟨b1,o1,rfl,hb1,hc⟩:=HV.out.at_ hp;have d0:=hc 0 _ rfl;simp only [Nat.zero_mul,Nat.add_zero] at d0
 have HP:=jH hp;have HFST:=jH (show maxL (l.take 1)=l[0] by
  rw [List.take_one]
  cases l with
  | nil=>exact absurd rfl hne
  | cons a l=>rfl)
 generalize l[0]=x0 at d0 HFST;clear hv hc hne hp
 go_enter Tryz.func257,Tryz.ntmps257
 go_wp2
 go_loopg [3,4] l.length (fun g s3 s8 wr=>∃k:Nat,1≤k∧k≤l.length∧l.length - k≤g∧s8=.int .i64 k∧s3=.int .i64 (maxL (l.take k))∧w=wr)
 case atStart=>exact ⟨1,Nat.le_refl _,HP.out,by omega,rfl,by rw [HFST.out],rfl⟩
 case round =>
  obtain ⟨k,hk1,hk,hg,rfl,rfl,rfl⟩:=hrel
  by_cases hlt:k<l.length
  · obtain ⟨b2,o2,he,hb2,hc⟩:=HV.out.at_ hlt
    injection he with he
    injection he with e1 e2
    subst e1 e2;have z1:(0:Int)≤(k:Int):=by omega
    have z2:(k:Int)<(l.length:Int):=by omega
    have HS:=jH (show maxL (l.take (k+1))=max (maxL (l.take k)) l[k] by rw [List.take_succ_eq_append_getElem hlt,maxL_snoc (by intro q;have:=congrArg List.length q;rw [List.length_take,List.length_nil] at this;omega)]);have d2:=hc 0 _ rfl;rw [Nat.add_zero,Nat.mul_one] at d2;generalize maxL (l.take k)=s at HS ⊢;generalize l[k]=x at HS d2;clear hc d0;go_wp2
    go_roundg (l.length - (k+1))
    case measure=>omega
    case rel=>exact ⟨k+1,by omega,hlt,Nat.le_refl _,by go_num,by rw [HS.out],rfl⟩
  · obtain rfl:k=l.length:=by omega
    rw [List.take_length];go_wp2
    go_ret
    exact ⟨rfl,rfl⟩
end
section
open Go.RowKit Go.Lib
theorem satClamp_any (n lo hi:Int) (w:World) :
 Calls Tryz.prog 243 #[.int .i64 n,.int .i64 lo,.int .i64 hi] w fun e w'=>e=.returned (.int .i64 (clampI n lo hi))∧w=w':=by
 go_enter Tryz.func243,Tryz.ntmps243
 go_wp2
 all_goals
   go_ret
   refine ⟨ret_int ?_,rfl⟩;unfold clampI
   repeat' split
   all_goals omega
theorem refClamp_any (n lo hi:Int) (w:World) :
 Calls Tryz.prog 230 #[.int .i64 n,.int .i64 lo,.int .i64 hi] w fun e w'=>e=.returned (.int .i64 (clampI n lo hi))∧w=w':=by
 go_enter Tryz.func230,Tryz.ntmps230
 go_wp2
 all_goals
   go_ret
   refine ⟨ret_int ?_,rfl⟩;unfold clampI
   repeat' split
   all_goals omega
theorem ceil_mid {a b:Int} (hb:1≤b) (ha:0<a):0≤(a - 1).tdiv b∧(a - 1).tdiv b≤a - 1:=by
 rw [tdiv_pos (by omega)];exact ⟨Int.ediv_nonneg (by omega) (by omega),Int.ediv_le_self _ (by omega)⟩
theorem refCeil_any (a b:Int) (w:World) (ha:I64 a) (hb:I64 b) :
 Calls Tryz.prog 269 #[.int .i64 a,.int .i64 b] w fun e w'=>e=.returned (.int .i64 (ceilI a b))∧w'=w:=by
 by_cases h1:b<1
 · have HC:=jH (show ceilI a b=0 by unfold ceilI;rw [if_pos h1])
   clear ha hb
   go_enter Tryz.func269,Tryz.ntmps269
   go_wp2
   go_ret
   exact ⟨by rw [HC.out];rfl,rfl⟩
 · have q0:(b == 0)=false:=by simp;omega
   have q1:¬b=0:=by omega
   by_cases h2:a≤0
   · have HC:=jH (show ceilI a b=a.tdiv b by unfold ceilI;rw [if_neg h1,if_pos h2])
     have HI:=jH (show I64 (a.tdiv b) by rw [←HC.out];exact ceilI_ok (b:=b) ha);clear ha hb
     go_enter Tryz.func269,Tryz.ntmps269
     go_wp2
     go_ret
     refine ⟨ret_int ?_,rfl⟩;rw [HC.out];have h7:=HI.out;generalize a.tdiv b=q at h7
     (try unfold wrap64)
     unfold I64 at h7;omega
   · have HC:=jH (show ceilI a b=(a - 1).tdiv b+1 by unfold ceilI;rw [if_neg h1,if_neg h2])
     have HI:=jH (ceil_mid (a:=a) (b:=b) (by omega) (by omega));have hw:IntKind.i64.wrap (a - 1)=a - 1:=by rw [IntKind.wrap_i64];unfold I64 at ha;omega
     have hw2:wrap64 (a - 1)=a - 1:=by unfold wrap64;unfold I64 at ha;omega
     have HA:=jH ha;clear ha hb
     go_enter Tryz.func269,Tryz.ntmps269
     go_wp2
     go_ret
     refine ⟨ret_int ?_,rfl⟩;rw [HC.out];have h7:=HI.out;have h8:=HA.out
     (try simp only [hw,hw2])
     generalize (a - 1).tdiv b=q at h7
     (try unfold wrap64)
     unfold I64 at h8;omega
theorem ref13Load_any (n:Int) (w:World) :
 Calls Tryz.prog 267 #[.int .i64 n] w fun e w'=>e=.returned (.int .i64 (max n 0))∧w'=w:=by
 go_enter Tryz.func267,Tryz.ntmps267
 go_wp2
 all_goals
   go_ret
   refine ⟨ret_int ?_,rfl⟩;omega
theorem ctlBound_bad (p:Pol) (n:Int) (w:World) (hp:polB p=false) :
 Calls Tryz.prog 200 #[polV p,.int .i64 n] w (jP w (.int .i64 0)):=by
 have HC:=jH (policyCheck_any p);have HE:=jH ((show polE p=7 by unfold polE;rw [hp];rfl));clear hp;unfold polV;unfold polV at HC
 go_enter Tryz.func200,Tryz.ntmps200
 go_wp2_with (go_at_call 167;refine (HC.out _).mono ?_;rw [HE.out];rintro e w2 ⟨rfl,hb2⟩;have HB:=jH hb2;clear hb2)
 go_ret
 exact ⟨rfl,bthen (balloc jR _) HB.out⟩
theorem ctlBound_ok (p:Pol) (n:Int) (w:World) (hp:polB p=true) :
 Calls Tryz.prog 200 #[polV p,.int .i64 n] w (jP w (.int .i64 (clampI n p.mn p.mx))):=by
 have HC:=jH (policyCheck_any p);have HE:=jH ((show polE p=0 by unfold polE;rw [hp];rfl));clear hp;unfold polV;unfold polV at HC
 go_enter Tryz.func200,Tryz.ntmps200
 go_wp2_with (first
  | (go_at_call 167
     refine calls_named ?_;intro W1 hW1;have hb1:jB w W1:=by rw [hW1];exact balloc jR _
     have hx1:W1.heap[w.heap.size]?=some (.cells #[.int .i64 p.mn,.int .i64 p.mx,.int .i64 p.tg,.int .i64 p.tol,.int .i64 p.win,.int .i64 p.hold] 46 (0,0)):=by rw [hW1];exact heap_alloc_new _ _
     clear hW1;refine (HC.out W1).mono ?_;rw [HE.out];rintro e w2 ⟨rfl,hb2⟩;have HB2:=jH (bthen hb1 hb2);have hx2:=(hb2.block w.heap.size (jL hx1)).trans hx1;obtain ⟨b1,b2,b3⟩:=box_cells jR hx2;clear hb1 hb2 hx1 hx2)
  | (go_at_call 243
     refine (satClamp_any n p.mn p.mx _).mono ?_;rintro e w5 ⟨rfl,rfl⟩))
 go_ret
 exact ⟨rfl,by repeat (first|exact HB2.out|refine below_drewN ?_ _|refine Below.drew ?_)⟩
theorem ref13Bound_bad (p:Pol) (n:Int) (w:World) (hp:polB p=false) :
 Calls Tryz.prog 175 #[polV p,.int .i64 n] w (jP w (.int .i64 0)):=by
 have HC:=jH (r12right_any p);have HE:=jH ((show polB p=false from hp));clear hp;unfold polV;unfold polV at HC
 go_enter Tryz.func175,Tryz.ntmps175
 go_wp2_with (go_at_call 144;refine (HC.out _).mono ?_;rw [HE.out];rintro e w2 ⟨rfl,hb2⟩;have HB:=jH hb2;clear hb2)
 go_ret
 exact ⟨rfl,bthen (balloc jR _) HB.out⟩
theorem ref13Bound_ok (p:Pol) (n:Int) (w:World) (hp:polB p=true) :
 Calls Tryz.prog 175 #[polV p,.int .i64 n] w (jP w (.int .i64 (clampI n p.mn p.mx))):=by
 have HC:=jH (r12right_any p);have HE:=jH ((show polB p=true from hp));clear hp;unfold polV;unfold polV at HC
 go_enter Tryz.func175,Tryz.ntmps175
 go_wp2_with (first
  | (go_at_call 144
     refine calls_named ?_;intro W1 hW1;have hb1:jB w W1:=by rw [hW1];exact balloc jR _
     have hx1:W1.heap[w.heap.size]?=some (.cells #[.int .i64 p.mn,.int .i64 p.mx,.int .i64 p.tg,.int .i64 p.tol,.int .i64 p.win,.int .i64 p.hold] 46 (0,0)):=by rw [hW1];exact heap_alloc_new _ _
     clear hW1;refine (HC.out W1).mono ?_;rw [HE.out];rintro e w2 ⟨rfl,hb2⟩;have HB2:=jH (bthen hb1 hb2);have hx2:=(hb2.block w.heap.size (jL hx1)).trans hx1;obtain ⟨b1,b2,b3⟩:=box_cells jR hx2;clear hb1 hb2 hx1 hx2)
  | (go_at_call 230
     refine (refClamp_any n p.mn p.mx _).mono ?_;rintro e w5 ⟨rfl,rfl⟩))
 go_ret
 exact ⟨rfl,by repeat (first|exact HB2.out|refine below_drewN ?_ _|refine Below.drew ?_)⟩
theorem ctlWant_bad (p:Pol) (n:Int) (w:World) (hp:polB p=false) :
 Calls Tryz.prog 196 #[polV p,.int .i64 n] w (jP w (.int .i64 0)):=by
 have HC:=jH (policyCheck_any p);have HE:=jH ((show polE p=7 by unfold polE;rw [hp];rfl));clear hp;unfold polV;unfold polV at HC
 go_enter Tryz.func196,Tryz.ntmps196
 go_wp2_with (go_at_call 167;refine (HC.out _).mono ?_;rw [HE.out];rintro e w2 ⟨rfl,hb2⟩;have HB:=jH hb2;clear hb2)
 go_ret
 exact ⟨rfl,bthen (balloc jR _) HB.out⟩
theorem ctlWant_ok (p:Pol) (n:Int) (w:World) (hp:polB p=true) (hn:I64 n) (hq:I64 p.tg) :
 Calls Tryz.prog 196 #[polV p,.int .i64 n] w (jP w (.int .i64 (ceilI (max n 0) p.tg))):=by
 have HC:=jH (policyCheck_any p);have HE:=jH ((show polE p=0 by unfold polE;rw [hp];rfl));have hm:I64 (max n 0):=by unfold I64 at *;omega
 have C1:=jH (fun W=>satCeil_any (max n 0) p.tg W hm hq);clear hn hq hm;clear hp;unfold polV;unfold polV at HC
 go_enter Tryz.func196,Tryz.ntmps196
 go_wp2_with (first
  | (go_at_call 167
     refine calls_named ?_;intro W1 hW1;have hb1:jB w W1:=by rw [hW1];exact balloc jR _
     have hx1:W1.heap[w.heap.size]?=some (.cells #[.int .i64 p.mn,.int .i64 p.mx,.int .i64 p.tg,.int .i64 p.tol,.int .i64 p.win,.int .i64 p.hold] 46 (0,0)):=by rw [hW1];exact heap_alloc_new _ _
     clear hW1;refine (HC.out W1).mono ?_;rw [HE.out];rintro e w2 ⟨rfl,hb2⟩;have HB2:=jH (bthen hb1 hb2);have hx2:=(hb2.block w.heap.size (jL hx1)).trans hx1;obtain ⟨b1,b2,b3⟩:=box_cells jR hx2;clear hb1 hb2 hx1 hx2)
  | (go_at_call 239
     refine (C1.out _).mono ?_;rintro e w5 ⟨rfl,rfl⟩))
 go_ret
 exact ⟨rfl,by repeat (first|exact HB2.out|refine below_drewN ?_ _|refine Below.drew ?_)⟩
theorem ref13Want_bad (p:Pol) (n:Int) (w:World) (hp:polB p=false) :
 Calls Tryz.prog 229 #[polV p,.int .i64 n] w (jP w (.int .i64 0)):=by
 have HC:=jH (r12right_any p);have HE:=jH ((show polB p=false from hp));clear hp;unfold polV;unfold polV at HC
 go_enter Tryz.func229,Tryz.ntmps229
 go_wp2_with (go_at_call 144;refine (HC.out _).mono ?_;rw [HE.out];rintro e w2 ⟨rfl,hb2⟩;have HB:=jH hb2;clear hb2)
 go_ret
 exact ⟨rfl,bthen (balloc jR _) HB.out⟩
theorem ref13Want_ok (p:Pol) (n:Int) (w:World) (hp:polB p=true) (hn:I64 n) (hq:I64 p.tg) :
 Calls Tryz.prog 229 #[polV p,.int .i64 n] w (jP w (.int .i64 (ceilI (max n 0) p.tg))):=by
 have HC:=jH (r12right_any p);have HE:=jH ((show polB p=true from hp));have hm:I64 (max n 0):=by unfold I64 at *;omega
 have C1:=jH (fun W=>refCeil_any (max n 0) p.tg W hm hq);clear hn hq hm;have C0:=jH (ref13Load_any n);clear hp;unfold polV;unfold polV at HC
 go_enter Tryz.func229,Tryz.ntmps229
 go_wp2_with (first
  | (go_at_call 144
     refine calls_named ?_;intro W1 hW1;have hb1:jB w W1:=by rw [hW1];exact balloc jR _
     have hx1:W1.heap[w.heap.size]?=some (.cells #[.int .i64 p.mn,.int .i64 p.mx,.int .i64 p.tg,.int .i64 p.tol,.int .i64 p.win,.int .i64 p.hold] 46 (0,0)):=by rw [hW1];exact heap_alloc_new _ _
     clear hW1;refine (HC.out W1).mono ?_;rw [HE.out];rintro e w2 ⟨rfl,hb2⟩;have HB2:=jH (bthen hb1 hb2);have hx2:=(hb2.block w.heap.size (jL hx1)).trans hx1;obtain ⟨b1,b2,b3⟩:=box_cells jR hx2;clear hb1 hb2 hx1 hx2))
 go_quiet ((first
  | (go_at_call 267;with_reducible exact Calls.quiet_of_same (C0.out _))
  | (go_at_call 269;with_reducible exact Calls.quiet_of_same (C1.out _))))
 go_wp2
 go_ret
 exact ⟨rfl,by repeat (first|exact HB2.out|refine below_drewN ?_ _|refine Below.drew ?_)⟩
theorem ctlBound_any (p:Pol) (n:Int) (w:World) :
 Calls Tryz.prog 200 #[polV p,.int .i64 n] w (jP w (.int .i64 (boundI p n))):=by
 unfold boundI
 cases hp:polB p
 · exact ctlBound_bad p n w hp
 · exact ctlBound_ok p n w hp
theorem ref13Bound_any (p:Pol) (n:Int) (w:World) :
 Calls Tryz.prog 175 #[polV p,.int .i64 n] w (jP w (.int .i64 (boundI p n))):=by
 unfold boundI
 cases hp:polB p
 · exact ref13Bound_bad p n w hp
 · exact ref13Bound_ok p n w hp
theorem ctlWant_any (p:Pol) (n:Int) (w:World) (hn:I64 n) (hq:I64 p.tg) :
 Calls Tryz.prog 196 #[polV p,.int .i64 n] w (jP w (.int .i64 (wantP p n))):=by
 unfold wantP
 cases hp:polB p
 · exact ctlWant_bad p n w hp
 · exact ctlWant_ok p n w hp hn hq
theorem ref13Want_any (p:Pol) (n:Int) (w:World) (hn:I64 n) (hq:I64 p.tg) :
 Calls Tryz.prog 229 #[polV p,.int .i64 n] w (jP w (.int .i64 (wantP p n))):=by
 unfold wantP
 cases hp:polB p
 · exact ref13Want_bad p n w hp
 · exact ref13Want_ok p n w hp hn hq
end
end Go.Proofs.YtpmfcpdelkchaaaGreat
