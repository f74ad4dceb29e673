/- Part 8 of the proof. -/
import Derived.Test.YtmniiodpbebnmaaGreatJ07
namespace Go.Proofs.YtmniiodpbebnmaaGreat
set_option linter.unusedSimpArgs false
set_option linter.unusedVariables false
set_option linter.unusedSectionVars false
set_option maxRecDepth 100000
set_option maxHeartbeats 16000000
section
open Go.RowKit Go.Lib Go.Sort
def h0U (l:List It) (k:Ky):Bool:=if h:atI l k<l.length then decide (l[atI l k].key=k) else false
theorem t0S (v:Value) (l:List It) (k:Ky) (w:World) (hv:a0O 12 itC w v l) (hl:l.length≤1000000) (hok:∀x∈l,x.key.ok) (hk:k.ok) :
 Calls Tryz.prog 186 #[v,.agg #[.int .u64 k.1,.int .u64 k.2]] w (jP w (.bool (h0U l k))):=by
 obtain ⟨A,c,rfl⟩:=hv.form;have HAT:=jH (fun (W:World) (hb:jB w W)=>a1Y _ l k W (hv.below hb) hl hok hk);have HV:=jH hv;unfold h0U;clear hv
 by_cases hal:atI l k<l.length
 · rw [dif_pos hal]
   obtain ⟨b,o,rfl,hbw,hc⟩:=HV.out.at_ hal;have c1:w.cell? ⟨b,o+atI l k * 12,none⟩=some (.int .u64 l[atI l k].key.1):=hc 0 _ rfl;have c2:w.cell? ⟨b,o+atI l k * 12+1,none⟩=some (.int .u64 l[atI l k].key.2):=hc 1 _ rfl;have hyok:=hok _ (List.getElem_mem hal);generalize l[atI l k].key=y at c1 c2 hyok ⊢;have HC1:=jH c1;have HC2:=jH c2;clear hc c1 c2 hok;generalize ha:atI l k=a at *;clear ha
   by_cases hyk:y=k
   · subst hyk
     rw [decide_eq_true rfl]
     go_enter Tryz.func186,Tryz.ntmps186
     go_wp2_with (first
      | (go_at_call 230
         refine a0B ?_;intro W1 hW1;obtain ⟨k0,k1,hs,hb⟩:=p0D w y W1 hW1;clear hW1;refine (HAT.out W1 hb).mono ?_;rintro e w2 ⟨rfl,hb2⟩;have a1:=(hb2.cell (p:=⟨w.heap.size,0,none⟩) (by simp;omega)).trans k0;have a2:=(hb2.cell (p:=⟨w.heap.size,1,none⟩) (by simp;omega)).trans k1;have a3:=((a0D hb hb2).cell (p:=⟨b,_,none⟩) hbw).trans HC1.out;have a4:=((a0D hb hb2).cell (p:=⟨b,_,none⟩) hbw).trans HC2.out
         have HB:=jH (a0D hb hb2);clear k0 k1 hs hb hb2))
     go_quiet (fail)
     go_wp2
     go_ret
     exact ⟨rfl,a0F HB.out _⟩
   · rw [decide_eq_false hyk]
     by_cases h1:y.1=k.1
     · have hh:((y.2:Int) == (k.2:Int))=false:=by
        have:y.2≠k.2:=fun h2=>hyk (Prod.ext h1 h2)
        simp;omega
       rw [h1] at HC1;clear hyk h1
       go_enter Tryz.func186,Tryz.ntmps186
       go_wp2_with (first
        | (go_at_call 230
           refine a0B ?_;intro W1 hW1;obtain ⟨k0,k1,hs,hb⟩:=p0D w k W1 hW1;clear hW1;refine (HAT.out W1 hb).mono ?_;rintro e w2 ⟨rfl,hb2⟩;have a1:=(hb2.cell (p:=⟨w.heap.size,0,none⟩) (by simp;omega)).trans k0;have a2:=(hb2.cell (p:=⟨w.heap.size,1,none⟩) (by simp;omega)).trans k1;have a3:=((a0D hb hb2).cell (p:=⟨b,_,none⟩) hbw).trans HC1.out;have a4:=((a0D hb hb2).cell (p:=⟨b,_,none⟩) hbw).trans HC2.out
           have HB:=jH (a0D hb hb2);clear k0 k1 hs hb hb2))
       go_quiet (fail)
       go_wp2
       go_ret
       exact ⟨rfl,a0F HB.out _⟩
     · have hh:((y.1:Int) == (k.1:Int))=false:=by simp;omega
       clear hyk h1
       go_enter Tryz.func186,Tryz.ntmps186
       go_wp2_with (first
        | (go_at_call 230
           refine a0B ?_;intro W1 hW1;obtain ⟨k0,k1,hs,hb⟩:=p0D w k W1 hW1;clear hW1;refine (HAT.out W1 hb).mono ?_;rintro e w2 ⟨rfl,hb2⟩;have a1:=(hb2.cell (p:=⟨w.heap.size,0,none⟩) (by simp;omega)).trans k0;have a2:=(hb2.cell (p:=⟨w.heap.size,1,none⟩) (by simp;omega)).trans k1;have a3:=((a0D hb hb2).cell (p:=⟨b,_,none⟩) hbw).trans HC1.out;have a4:=((a0D hb hb2).cell (p:=⟨b,_,none⟩) hbw).trans HC2.out
           have HB:=jH (a0D hb hb2);clear k0 k1 hs hb hb2))
       go_quiet (fail)
       go_wp2
       go_ret
       exact ⟨rfl,a0F HB.out _⟩
 · rw [dif_neg hal]
   have hle:=m1O l k;have e1:atI l k=l.length:=by omega
   rw [e1] at HAT
   go_enter Tryz.func186,Tryz.ntmps186
   go_wp2_with (first
    | (go_at_call 230
       refine a0B ?_;intro W1 hW1;obtain ⟨k0,k1,hs,hb⟩:=p0D w k W1 hW1;clear hW1;refine (HAT.out W1 hb).mono ?_;rintro e w2 ⟨rfl,hb2⟩;have HB:=jH (a0D hb hb2);clear k0 k1 hs hb hb2))
   go_quiet (fail)
   go_wp2
   go_ret
   exact ⟨rfl,a0F HB.out _⟩
def it0:It:=⟨(0,0),none,0,none,0,nd0⟩
def i0Q (l:List It) (k:Ky):It:=if h:atI l k<l.length then (if l[atI l k].key=k then l[atI l k] else it0) else it0
theorem n0R {l:List It} {k:Ky} (h:h0U l k=true):∃hl:atI l k<l.length,i0Q l k=l[atI l k]:=by
 unfold h0U at h
 split at h
 · rename_i hl
   refine ⟨hl,?_⟩;unfold i0Q;rw [dif_pos hl,if_pos (by simpa using h)]
 · cases h
theorem v0I {l:List It} {k:Ky} (h:h0U l k=false):i0Q l k=it0:=by
 unfold h0U at h;unfold i0Q
 split at h
 · rename_i hl
   rw [dif_pos hl,if_neg (by simpa using h)]
 · rename_i hl
   rw [dif_neg hl]
theorem c0Y (w:World) (o1 o2:Obj):∀W,W=(w.alloc o1).alloc o2→W.heap[w.heap.size]?=some o1∧W.heap[w.heap.size+1]?=some o2∧W.heap.size=w.heap.size+2∧jB w W:=by
 rintro W rfl;refine ⟨(Below.heap_alloc _ _ _ (by simp)).trans (heap_alloc_new _ _),?_,by simp,a0C (a0C jR _) _⟩;have:=heap_alloc_new (w.alloc o1) o2;rw [World.size_alloc] at this;exact this
theorem t0G {w:World} {B:Nat} {u0 u1 u2 u3 u4 u5 u6 u7 u8 u9:Value} {T:TypeId} (h:w.heap[B]?=some (.cells #[u0,u1,u2,u3,u4,u5,u6,u7,u8,u9] T (0,0))) (v0 v1 v2 v3 v4 v5 v6 v7 v8 v9:Value):∀W,W=(((((((((w.setCell ⟨B,0,none⟩ v0).setCell ⟨B,1,none⟩ v1).setCell ⟨B,2,none⟩ v2).setCell ⟨B,3,none⟩ v3).setCell ⟨B,4,none⟩ v4).setCell ⟨B,5,none⟩ v5).setCell ⟨B,6,none⟩ v6).setCell ⟨B,7,none⟩ v7).setCell ⟨B,8,none⟩ v8).setCell ⟨B,9,none⟩ v9 →
    W.heap[B]?=some (.cells #[v0,v1,v2,v3,v4,v5,v6,v7,v8,v9] T (0,0))∧(∀k,k≠B→W.heap[k]?=w.heap[k]?)∧W.heap.size=w.heap.size∧∀n,n≤B→Below n w W:=by
  rintro W rfl;refine ⟨?_,fun k hk=>?_,by simp [World.setCell],fun n hn=>?_⟩
  · have h0:(w.setCell ⟨B,0,none⟩ v0).heap[B]?=some (.cells #[v0,u1,u2,u3,u4,u5,u6,u7,u8,u9] T (0,0)):=a0E (i:=0) (v:=v0) h
    have h1:((w.setCell ⟨B,0,none⟩ v0).setCell ⟨B,1,none⟩ v1).heap[B]?=some (.cells #[v0,v1,u2,u3,u4,u5,u6,u7,u8,u9] T (0,0)):=a0E (i:=1) (v:=v1) h0;have h2:(((w.setCell ⟨B,0,none⟩ v0).setCell ⟨B,1,none⟩ v1).setCell ⟨B,2,none⟩ v2).heap[B]?=some (.cells #[v0,v1,v2,u3,u4,u5,u6,u7,u8,u9] T (0,0)):=a0E (i:=2) (v:=v2) h1;have h3:((((w.setCell ⟨B,0,none⟩ v0).setCell ⟨B,1,none⟩ v1).setCell ⟨B,2,none⟩ v2).setCell ⟨B,3,none⟩ v3).heap[B]?=some (.cells #[v0,v1,v2,v3,u4,u5,u6,u7,u8,u9] T (0,0)):=a0E (i:=3) (v:=v3) h2
    have h4:(((((w.setCell ⟨B,0,none⟩ v0).setCell ⟨B,1,none⟩ v1).setCell ⟨B,2,none⟩ v2).setCell ⟨B,3,none⟩ v3).setCell ⟨B,4,none⟩ v4).heap[B]?=some (.cells #[v0,v1,v2,v3,v4,u5,u6,u7,u8,u9] T (0,0)):=a0E (i:=4) (v:=v4) h3;have h5:((((((w.setCell ⟨B,0,none⟩ v0).setCell ⟨B,1,none⟩ v1).setCell ⟨B,2,none⟩ v2).setCell ⟨B,3,none⟩ v3).setCell ⟨B,4,none⟩ v4).setCell ⟨B,5,none⟩ v5).heap[B]?=some (.cells #[v0,v1,v2,v3,v4,v5,u6,u7,u8,u9] T (0,0)):=a0E (i:=5) (v:=v5) h4
    have h6:(((((((w.setCell ⟨B,0,none⟩ v0).setCell ⟨B,1,none⟩ v1).setCell ⟨B,2,none⟩ v2).setCell ⟨B,3,none⟩ v3).setCell ⟨B,4,none⟩ v4).setCell ⟨B,5,none⟩ v5).setCell ⟨B,6,none⟩ v6).heap[B]?=some (.cells #[v0,v1,v2,v3,v4,v5,v6,u7,u8,u9] T (0,0)):=a0E (i:=6) (v:=v6) h5;have h7:((((((((w.setCell ⟨B,0,none⟩ v0).setCell ⟨B,1,none⟩ v1).setCell ⟨B,2,none⟩ v2).setCell ⟨B,3,none⟩ v3).setCell ⟨B,4,none⟩ v4).setCell ⟨B,5,none⟩ v5).setCell ⟨B,6,none⟩ v6).setCell ⟨B,7,none⟩ v7).heap[B]?=some (.cells #[v0,v1,v2,v3,v4,v5,v6,v7,u8,u9] T (0,0)):=a0E (i:=7) (v:=v7) h6
    have h8:(((((((((w.setCell ⟨B,0,none⟩ v0).setCell ⟨B,1,none⟩ v1).setCell ⟨B,2,none⟩ v2).setCell ⟨B,3,none⟩ v3).setCell ⟨B,4,none⟩ v4).setCell ⟨B,5,none⟩ v5).setCell ⟨B,6,none⟩ v6).setCell ⟨B,7,none⟩ v7).setCell ⟨B,8,none⟩ v8).heap[B]?=some (.cells #[v0,v1,v2,v3,v4,v5,v6,v7,v8,u9] T (0,0)):=a0E (i:=8) (v:=v8) h7;have h9:((((((((((w.setCell ⟨B,0,none⟩ v0).setCell ⟨B,1,none⟩ v1).setCell ⟨B,2,none⟩ v2).setCell ⟨B,3,none⟩ v3).setCell ⟨B,4,none⟩ v4).setCell ⟨B,5,none⟩ v5).setCell ⟨B,6,none⟩ v6).setCell ⟨B,7,none⟩ v7).setCell ⟨B,8,none⟩ v8).setCell ⟨B,9,none⟩ v9).heap[B]?=some (.cells #[v0,v1,v2,v3,v4,v5,v6,v7,v8,v9] T (0,0)):=a0E (i:=9) (v:=v9) h8
    exact h9
  · have e:∀(u:World) (i:Nat) (v:Value),(u.setCell ⟨B,i,none⟩ v).heap[k]?=u.heap[k]?:=fun u i v=>Below.heap_setCell _ _ _ _ hk
    rw [e,e,e,e,e,e,e,e,e,e]
  · exact (((((((((((Below.refl n w).setCell hn _).setCell hn _).setCell hn _).setCell hn _).setCell hn _).setCell hn _).setCell hn _).setCell hn _).setCell hn _).setCell hn _)
theorem p1J (v:Value) (l:List It) (k:Ky) (w:World) (hv:a0O 12 itC w v l) (hl:l.length≤1000000) (hok:∀x∈l,x.key.ok) (hk:k.ok) :
 Calls Tryz.prog 185 #[v,.agg #[.int .u64 k.1,.int .u64 k.2]] w (jP w (.agg (d0X (i0Q l k)).toArray)):=by
 obtain ⟨A,c,rfl⟩:=hv.form;have HH:=jH (fun (W:World) (hb:jB w W)=>t0S _ l k W (hv.below hb) hl hok hk);have HAT:=jH (fun (W:World) (hb:jB w W)=>a1Y _ l k W (hv.below hb) hl hok hk);have HV:=jH hv;clear hv
 cases hh:h0U l k with
 | true =>
   obtain ⟨hal,hg⟩:=n0R hh;have HG:=jH hg;rw [hh] at HH;obtain ⟨b,o,rfl,hbw,hc⟩:=HV.out.at_ hal;generalize l[atI l k]=x at hc HG;have HC:=jH (show ∀j u,(itC x)[j]?=some u→w.cell? ⟨b,o+atI l k * 12+j,none⟩=some u from hc);generalize ha:atI l k=a at *;clear ha hg hc hh hok
   go_enter Tryz.func185,Tryz.ntmps185
   go_wp2_with (first
    | (go_at_call 186
       refine a0B ?_;intro W1 hW1;obtain ⟨k0,k1,hs,hb⟩:=c0Y w _ _ W1 hW1;clear hW1;refine (HH.out W1 hb).mono ?_;rintro e w2 ⟨rfl,hb2⟩;obtain ⟨a1,a2,a3,a4⟩:=b0F hb2 k0;have HX:=jH (And.intro a4 (jK hb2 k1));have HB:=jH (a0D hb hb2);clear k0 k1 hs hb hb2 a4)
    | (go_at_call 230
       refine (HAT.out w2 HB.out).mono ?_;rintro e w3 ⟨rfl,hb3⟩;obtain ⟨b1,b2,b3⟩:=a0A hb3 HX.out.2;have hbb:=a0D HB.out hb3;have q0:=(hbb.cell (p:=⟨b,_,none⟩) hbw).trans (HC.out 2 _ rfl);have q1:=(hbb.cell (p:=⟨b,_,none⟩) hbw).trans (HC.out 3 _ rfl);have q2:=(hbb.cell (p:=⟨b,_,none⟩) hbw).trans (HC.out 4 _ rfl);have q3:=(hbb.cell (p:=⟨b,_,none⟩) hbw).trans (HC.out 5 _ rfl);have q4:=(hbb.cell (p:=⟨b,_,none⟩) hbw).trans (HC.out 6 _ rfl)
       have q5:=(hbb.cell (p:=⟨b,_,none⟩) hbw).trans (HC.out 7 _ rfl);have q6:=(hbb.cell (p:=⟨b,_,none⟩) hbw).trans (HC.out 8 _ rfl);have q7:=(hbb.cell (p:=⟨b,_,none⟩) hbw).trans (HC.out 9 _ rfl);have q8:=(hbb.cell (p:=⟨b,_,none⟩) hbw).trans (HC.out 10 _ rfl);have q9:=(hbb.cell (p:=⟨b,_,none⟩) hbw).trans (HC.out 11 _ rfl);have HB3:=jH (And.intro hbb (jK hb3 HX.out.2));clear hb3 hbb))
   refine a0H ?_;intro W4 hW4;obtain ⟨h4,h5,h6,h7⟩:=t0G HB3.out.2 _ _ _ _ _ _ _ _ _ _ W4 hW4;obtain ⟨d1,d2,d3⟩:=a0A jR h4;have hb4:=HB3.out.1.trans (h7 w.heap.size (by omega));clear hW4;exact bodyPost_ret (v:=.agg (d0X x).toArray) (by simp [results,Tryz.results185,go_sem,d0X,d1]) rfl ⟨by rw [HG.out],hb4⟩
 | false =>
   have HG:=jH (v0I hh);rw [hh] at HH;clear hh hok
   go_enter Tryz.func185,Tryz.ntmps185
   go_wp2_with (first
    | (go_at_call 186
       refine a0B ?_;intro W1 hW1;obtain ⟨k0,k1,hs,hb⟩:=c0Y w _ _ W1 hW1;clear hW1;refine (HH.out W1 hb).mono ?_;rintro e w2 ⟨rfl,hb2⟩;obtain ⟨a1,a2,a3⟩:=a0A hb2 k0;obtain ⟨b1,b2,b3⟩:=a0A hb2 k1;have HB:=jH (And.intro (a0D hb hb2) (jK hb2 k1));clear k0 k1 hs hb hb2))
   refine a0H ?_;intro W4 hW4;obtain ⟨h4,h5,h6,h7⟩:=t0G HB.out.2 _ _ _ _ _ _ _ _ _ _ W4 hW4;obtain ⟨d1,d2,d3⟩:=a0A jR h4;have hb4:=HB.out.1.trans (h7 w.heap.size (by omega));clear hW4;exact bodyPost_ret (v:=.agg (d0X it0).toArray) (by simp [results,Tryz.results185,go_sem,d0X,it0,nd0,k0L,d1]) rfl ⟨by rw [HG.out],hb4⟩
def q0D (l:List It) (k:Ky) (x:It):List It:=l.take (atI l k)++[{ x with key:=k }]++l.drop (if h0U l k=true then atI l k+1 else atI l k)
theorem s1P {l:List It} {k:Ky} (h:h0U l k=true):atI l k<l.length:=(n0R h).1
theorem j1V (v:Value) (l:List It) (k:Ky) (x:It) (w:World) (hv:a0O 12 itC w v l) (hl:l.length≤1000000) (hok:∀x∈l,x.key.ok) (hk:k.ok) :
 Calls Tryz.prog 187 #[v,.agg #[.int .u64 k.1,.int .u64 k.2],.agg (d0X x).toArray] w (g1J 12 itC w (q0D l k x)):=by
 obtain ⟨A,c,rfl⟩:=hv.form;have HH:=jH (fun (W:World) (hb:jB w W)=>t0S _ l k W (hv.below hb) hl hok hk);have HAT:=jH (fun (W:World) (hb:jB w W)=>a1Y _ l k W (hv.below hb) hl hok hk);have HV:=jH hv;have hle:=m1O l k;have hlt:h0U l k=true→atI l k<l.length:=s1P;have HX:Hid ((d0X x).toArray=#[.slice x.sA x.nd.smp.length x.sc,.slice x.pA x.nd.past.length x.pc,.int .i64 x.nd.pol.mn,.int .i64 x.nd.pol.mx,.int .i64 x.nd.pol.tg,.int .i64 x.nd.pol.tol,.int .i64 x.nd.pol.win,.int .i64 x.nd.pol.hold,.bool x.nd.ruled,.int .i64 (x.nd.ver:Nat)]):=jH rfl
 rw [HX.out];have HW:Hid (q0D l k x=l.take (atI l k)++[{ x with key:=k }]++l.drop (if h0U l k=true then atI l k+1 else atI l k)):=jH rfl;obtain ⟨mt,At,ct,hmt,hrt,hrowt⟩:=row_to eIt hv (atI l k) hle;obtain ⟨mf,Af,cf,hmf,hrf,hrowf⟩:=s0U eIt hv (if h0U l k=true then atI l k+1 else atI l k) (by split;exact hlt (by assumption);exact hle);have hlmt:mt.length=atI l k:=by rw [hmt];simp;omega
 have hlmf:mf.length≤l.length:=by rw [hmf];simp
 have HMT:=jH hmt;have HMF:=jH hmf;have HRT:=jH hrowt;have HRF:=jH hrowf;have HLT:=jH hlmt;clear hv hok hlt hmt hmf hrowt hrowf hlmt;generalize ha:atI l k=a at *;generalize hh:h0U l k=h at *;obtain ⟨q,hq⟩:∃q,q=if h=true then a+1 else a:=⟨_,rfl⟩;rw [←hq] at hrf;have HQ:=jH hq;clear ha hh hq;have hrun1:h=true→∀w':World,(Instr.sliceAt 176 (.slice A l.length c) (some (.int .i64 ((a:Int)+1))) none none).run Tryz.prog w'=.ok (.slice Af mf.length cf) w':=fun he w'=>by
  have:=hrf w';rw [HQ.out,if_pos he,show ((a+1:Nat):Int)=(a:Int)+1 by omega] at this;exact this
 have hrun0:h=false→∀w':World,(Instr.sliceAt 176 (.slice A l.length c) (some (.int .i64 (a:Int))) none none).run Tryz.prog w'=.ok (.slice Af mf.length cf) w':=fun he w'=>by
  have:=hrf w';rw [HQ.out,if_neg (by rw [he];simp)] at this;exact this
 have HR1:=jH hrun1;have HR0:=jH hrun0;clear hrf hrun1 hrun0
 cases h with
 | true =>
   have hrun:=HR1.out rfl
   go_enter Tryz.func187,Tryz.ntmps187
   go_wp2_with (first
    | (go_at_call 230
       refine a0B ?_;intro W1 hW1;obtain ⟨k0,k1,hs,hb⟩:=c0Y w _ _ W1 hW1;clear hW1;refine (HAT.out W1 hb).mono ?_;rintro e w2 ⟨rfl,hb2⟩;have HK:=jH (And.intro (jK hb2 k0) (jK hb2 k1));have HB:=jH (a0D hb hb2);clear k0 k1 hs hb hb2)
    | (at_builtin;refine a0N eIt (by rfl) (by rfl) w2.heap.size [] mt (.slice (some ⟨w2.heap.size,0,none⟩) 0 0) _ (by rfl) (by rfl) (b0Q.lit0 _ _ _ _ rfl (Nat.le_refl _)) (HRT.out.below (a0C HB.out _)) (by have:=HLT.out;simp;omega) (by simp) ?_;intro out3 A3 c3 w3 hout3 hown3 hg3 _
       have hb3:jB w2 w3:=(a0C jR _).grown hg3 (by simp) (fun r hr=>by have hr':some w2.heap.size=some r:=hr;injection hr';omega);obtain ⟨a1,a2,a3⟩:=a0A hb3 HK.out.1;obtain ⟨b1,b2,b3⟩:=a0A hb3 HK.out.2;have HO3:=jH hown3;have HE3:=jH hout3;have HB3:=jH hb3;clear hout3 hown3 hg3 hb3)
    | (at_builtin;refine a0N eIt (by rfl) (by rfl) w2.heap.size out3 [{ x with key:=k }] _ _ (by rfl) (by rfl) (HO3.out.below (a0C jR _)) (a0O.lit (n:=12) (f:=itC) w3 { x with key:=k } _ _ _ rfl rfl) (by have:=HLT.out;simp [HE3.out];omega) (by have:=HB3.out.size;simp;omega) ?_;intro out4 A4 c4 w4 hout4 hown4 hg4 _
       have hb4:jB w2 w4:=(a0C HB3.out _).trans (a0Z hg4 HO3.out (by have:=HB3.out.size;simp;omega));obtain ⟨a1,a2,a3⟩:=a0A hb4 HK.out.1;have HO4:=jH hown4;have HE4:=jH hout4;have HB4:=jH hb4;clear hout4 hown4 hg4 hb4)
    | (go_at_call 186
       refine (HH.out w4 (a0D HB.out HB4.out)).mono ?_;rintro e w5 ⟨rfl,hb5⟩;have HB5:=jH (a0D HB4.out hb5);have HO5:=jH (HO4.out.below hb5);clear hb5)
    | (at_builtin;refine a0N eIt (by rfl) (by rfl) w2.heap.size out4 mf _ _ (by rfl) (by rfl) HO5.out (HRF.out.below (a0D HB.out HB5.out)) (by have:=HLT.out;simp [HE4.out,HE3.out];omega) HB5.out.size ?_;intro out6 A6 c6 w6 hout6 hown6 hg6 _
       have hb6:jB w2 w6:=HB5.out.trans (a0Z hg6 HO5.out HB5.out.size);have HO6:=jH hown6;have HE6:=jH hout6;have HB6:=jH hb6;clear hout6 hown6 hg6 hb6))
   go_ret
   have e:out6=q0D l k x:=by rw [HE6.out,HE4.out,HE3.out,HW.out,HMT.out,HMF.out,List.nil_append]
   rw [←e];exact ⟨_,_,rfl,(e0U.own eIt HO6.out).imp (fun b hb=>Nat.le_trans HB.out.size hb),a0D HB.out HB6.out⟩
 | false =>
   have hrun:=HR0.out rfl
   go_enter Tryz.func187,Tryz.ntmps187
   go_wp2_with (first
    | (go_at_call 230
       refine a0B ?_;intro W1 hW1;obtain ⟨k0,k1,hs,hb⟩:=c0Y w _ _ W1 hW1;clear hW1;refine (HAT.out W1 hb).mono ?_;rintro e w2 ⟨rfl,hb2⟩;have HK:=jH (And.intro (jK hb2 k0) (jK hb2 k1));have HB:=jH (a0D hb hb2);clear k0 k1 hs hb hb2)
    | (at_builtin;refine a0N eIt (by rfl) (by rfl) w2.heap.size [] mt (.slice (some ⟨w2.heap.size,0,none⟩) 0 0) _ (by rfl) (by rfl) (b0Q.lit0 _ _ _ _ rfl (Nat.le_refl _)) (HRT.out.below (a0C HB.out _)) (by have:=HLT.out;simp;omega) (by simp) ?_;intro out3 A3 c3 w3 hout3 hown3 hg3 _
       have hb3:jB w2 w3:=(a0C jR _).grown hg3 (by simp) (fun r hr=>by have hr':some w2.heap.size=some r:=hr;injection hr';omega);obtain ⟨a1,a2,a3⟩:=a0A hb3 HK.out.1;obtain ⟨b1,b2,b3⟩:=a0A hb3 HK.out.2;have HO3:=jH hown3;have HE3:=jH hout3;have HB3:=jH hb3;clear hout3 hown3 hg3 hb3)
    | (at_builtin;refine a0N eIt (by rfl) (by rfl) w2.heap.size out3 [{ x with key:=k }] _ _ (by rfl) (by rfl) (HO3.out.below (a0C jR _)) (a0O.lit (n:=12) (f:=itC) w3 { x with key:=k } _ _ _ rfl rfl) (by have:=HLT.out;simp [HE3.out];omega) (by have:=HB3.out.size;simp;omega) ?_;intro out4 A4 c4 w4 hout4 hown4 hg4 _
       have hb4:jB w2 w4:=(a0C HB3.out _).trans (a0Z hg4 HO3.out (by have:=HB3.out.size;simp;omega));obtain ⟨a1,a2,a3⟩:=a0A hb4 HK.out.1;have HO4:=jH hown4;have HE4:=jH hout4;have HB4:=jH hb4;clear hout4 hown4 hg4 hb4)
    | (go_at_call 186
       refine (HH.out w4 (a0D HB.out HB4.out)).mono ?_;rintro e w5 ⟨rfl,hb5⟩;have HB5:=jH (a0D HB4.out hb5);have HO5:=jH (HO4.out.below hb5);clear hb5)
    | (at_builtin;refine a0N eIt (by rfl) (by rfl) w2.heap.size out4 mf _ _ (by rfl) (by rfl) HO5.out (HRF.out.below (a0D HB.out HB5.out)) (by have:=HLT.out;simp [HE4.out,HE3.out];omega) HB5.out.size ?_;intro out6 A6 c6 w6 hout6 hown6 hg6 _
       have hb6:jB w2 w6:=HB5.out.trans (a0Z hg6 HO5.out HB5.out.size);have HO6:=jH hown6;have HE6:=jH hout6;have HB6:=jH hb6;clear hout6 hown6 hg6 hb6))
   go_ret
   have e:out6=q0D l k x:=by rw [HE6.out,HE4.out,HE3.out,HW.out,HMT.out,HMF.out,List.nil_append]
   rw [←e];exact ⟨_,_,rfl,(e0U.own eIt HO6.out).imp (fun b hb=>Nat.le_trans HB.out.size hb),a0D HB.out HB6.out⟩
end
section
open Go.RowKit Go.Lib
theorem c0K (p:Pol) (w:World) :
 Calls Tryz.prog 92 #[b0W p] w (jP w (.bool (d0G p))):=by
 unfold b0W
 by_cases h0:p.mn<0
 · have HB:Hid (d0G p=false):=jH (by simp [d0G];omega)
   rw [HB.out]
   go_enter Tryz.func92,Tryz.ntmps92
   go_wp2
   go_ret
   exact ⟨rfl,a0C jR _⟩
 · have h0':¬p.mn<0:=h0
   by_cases h1:p.mx<1
   · have HB:Hid (d0G p=false):=jH (by simp [d0G];omega)
     rw [HB.out]
     go_enter Tryz.func92,Tryz.ntmps92
     go_wp2
     go_ret
     exact ⟨rfl,a0C jR _⟩
   · have h1':¬p.mx<1:=h1
     by_cases h2:1073741824<p.mx
     · have HB:Hid (d0G p=false):=jH (by simp [d0G];omega)
       rw [HB.out]
       go_enter Tryz.func92,Tryz.ntmps92
       go_wp2
       go_ret
       exact ⟨rfl,a0C jR _⟩
     · have h2':¬1073741824<p.mx:=h2
       by_cases h3:p.mx<p.mn
       · have HB:Hid (d0G p=false):=jH (by simp [d0G];omega)
         rw [HB.out]
         go_enter Tryz.func92,Tryz.ntmps92
         go_wp2
         go_ret
         exact ⟨rfl,a0C jR _⟩
       · have h3':¬p.mx<p.mn:=h3
         by_cases h4:1≤p.tg
         case neg =>
          have HB:Hid (d0G p=false):=jH (by simp [d0G];omega);rw [HB.out]
          go_enter Tryz.func92,Tryz.ntmps92
          go_wp2
          go_ret
          exact ⟨rfl,a0C jR _⟩
         by_cases h5:0≤p.tol
         case neg =>
          have HB:Hid (d0G p=false):=jH (by simp [d0G];omega);rw [HB.out]
          go_enter Tryz.func92,Tryz.ntmps92
          go_wp2
          go_ret
          exact ⟨rfl,a0C jR _⟩
         by_cases h6:p.tol≤999
         case neg =>
          have HB:Hid (d0G p=false):=jH (by simp [d0G];omega);rw [HB.out]
          go_enter Tryz.func92,Tryz.ntmps92
          go_wp2
          go_ret
          exact ⟨rfl,a0C jR _⟩
         by_cases h7:1≤p.win
         case neg =>
          have HB:Hid (d0G p=false):=jH (by simp [d0G];omega);rw [HB.out]
          go_enter Tryz.func92,Tryz.ntmps92
          go_wp2
          go_ret
          exact ⟨rfl,a0C jR _⟩
         by_cases h8:0≤p.hold
         case neg =>
          have HB:Hid (d0G p=false):=jH (by simp [d0G];omega);rw [HB.out]
          go_enter Tryz.func92,Tryz.ntmps92
          go_wp2
          go_ret
          exact ⟨rfl,a0C jR _⟩
         have HB:Hid (d0G p=true):=jH (by simp [d0G];omega);rw [HB.out]
         go_enter Tryz.func92,Tryz.ntmps92
         go_wp2
         go_ret
         exact ⟨rfl,a0C jR _⟩
end
section
open Go.RowKit Go.Lib Go.Sort
structure c0W where
 kind:Int
 smp:Smp
 pol:Pol
 adv:Adv
def e0Q (a:c0W):List Value:=[.int .i64 a.kind,.int .i64 a.smp.1,.int .i64 a.smp.2,.int .i64 a.pol.mn,.int .i64 a.pol.mx,.int .i64 a.pol.tg,.int .i64 a.pol.tol,.int .i64 a.pol.win,.int .i64 a.pol.hold,.int .i64 a.adv.tick,.int .i64 a.adv.load,.int .i64 a.adv.want,.int .i64 a.adv.repl,.int .i64 a.adv.why]
def n0P (rs rh:Nat) (x:Nd) (a:c0W):Nd × Int × Int :=
 if a.kind=0 then (if g0V a.smp.1 a.smp.2=0 then ({ x with smp:=i0O x.smp (rs:Nat) a.smp,ver:=x.ver+1 },0,(x.smp.length:Int) - ((i0O x.smp (rs:Nat) a.smp).length:Int)) else (x,g0V a.smp.1 a.smp.2,0))
 else if a.kind=1 then (if a0Q x.smp a.smp.1=0 then (x,0,0) else ({ x with smp:=x.smp.drop (a0Q x.smp a.smp.1),ver:=x.ver+1 },0,(a0Q x.smp a.smp.1:Nat)))
 else if a.kind=2 then (if d0G a.pol=true then ({ x with pol:=a.pol,ruled:=true,ver:=x.ver+1 },0,0) else (x,7,0))
 else if a.kind=3 then ({ x with past:=f0K x.past rh a.adv,ver:=x.ver+1 },0,0)
 else (x,0,0)
def e0R (P:Nat→Prop) (w:World) (key:Ky) (y:Nd) (e1 n:Int) (e:Ending) (w':World):Prop :=
 ∃sA sc pA pc,e=.returned (.tuple #[.agg (d0X ⟨key,sA,sc,pA,pc,y⟩).toArray,.int .i64 e1,.int .i64 n])∧b0K P w' ⟨key,sA,sc,pA,pc,y⟩∧jB w w'
theorem e0U.keepP {α:Type} {P:Nat→Prop} {n:Nat} {f:α→List Value} {w w':World} {v:Value} {l:List α} (h:e0U P n f w v l) (hs:w.heap.size≤w'.heap.size) (hk:∀b,P b→b<w.heap.size→w'.heap[b]?=w.heap[b]?):e0U P n f w' v l:=by
 obtain ⟨⟨A,c,hv,hc,hr⟩,hp⟩:=h;refine ⟨⟨A,c,hv,hc,fun hn=>?_⟩,hp⟩;obtain ⟨b,o,hA,hlt,hat⟩:=hr hn;have hb:=hk b (hp b o _ _ (by rw [hv,hA]) hn) hlt;exact ⟨b,o,hA,Nat.lt_of_lt_of_le hlt hs,fun k x hx j u hu=>by
  have:=hat k x hx j u hu;simp only [World.cell?] at this ⊢
  rw [hb];exact this⟩
theorem e0U.old {α:Type} {P:Nat→Prop} {n:Nat} {f:α→List Value} {w:World} {v:Value} {l:List α} (h:e0U P n f w v l):e0U (fun b=>P b∧b<w.heap.size) n f w v l:=by
 refine ⟨h.1,fun b o m c e hn=>⟨h.2 b o m c e hn,?_⟩⟩;obtain ⟨⟨A,c',hv,hc,hr⟩,_⟩:=h;obtain ⟨b',o',hA,hlt,_⟩:=hr hn;rw [e] at hv;injection hv with e1 _ _
 rw [hA] at e1;injection e1 with e1
 injection e1 with e1
 omega
theorem e0N (w:World) (o1 o2 o3 o4 o5:Obj):∀W,W=((((w.alloc o1).alloc o2).alloc o3).alloc o4).alloc o5→W.heap[w.heap.size]?=some o1∧W.heap[w.heap.size+1]?=some o2∧W.heap[w.heap.size+1+1]?=some o3∧W.heap[w.heap.size+1+1+1]?=some o4∧W.heap[w.heap.size+1+1+1+1]?=some o5∧W.heap.size=w.heap.size+5∧jB w W:=by
 rintro W rfl;have e1:=heap_alloc_new w o1;have e2:=heap_alloc_new (w.alloc o1) o2;have e3:=heap_alloc_new ((w.alloc o1).alloc o2) o3;have e4:=heap_alloc_new (((w.alloc o1).alloc o2).alloc o3) o4;have e5:=heap_alloc_new ((((w.alloc o1).alloc o2).alloc o3).alloc o4) o5;simp only [World.size_alloc] at e1 e2 e3 e4 e5
 have k:∀(u:World) (o:Obj) (i:Nat),i<u.heap.size→(u.alloc o).heap[i]?=u.heap[i]?:=fun u o i h=>Below.heap_alloc _ _ _ h
 refine ⟨?_,?_,?_,?_,?_,by simp,a0C (a0C (a0C (a0C (a0C jR _) _) _) _) _⟩
 · rw [k _ _ _ (by simp <;> omega),k _ _ _ (by simp <;> omega),k _ _ _ (by simp <;> omega),k _ _ _ (by simp),e1]
 · rw [k _ _ _ (by simp <;> omega),k _ _ _ (by simp <;> omega),k _ _ _ (by simp),e2]
 · rw [k _ _ _ (by simp <;> omega),k _ _ _ (by simp),e3]
 · rw [k _ _ _ (by simp),e4]
 · exact e5
theorem b0K.old {P:Nat→Prop} {w W:World} {x:It} (h:b0K P w x) (hb:jB w W):b0K (fun b=>P b∧(b<w.heap.size∨w.heap.size+5≤b)) W x :=
 ⟨(h.1.old.below hb).imp (fun _ h=>⟨h.1,.inl h.2⟩),(h.2.old.below hb).imp (fun _ h=>⟨h.1,.inl h.2⟩)⟩
theorem c1M {w:World} {B:Nat} {u0 u1 u2 u3 u4 u5 u6 u7 u8 u9:Value} {T:TypeId} (h:w.heap[B]?=some (.cells #[u0,u1,u2,u3,u4,u5,u6,u7,u8,u9] T (0,0))) (v0 v1 v2 v3 v4 v5 v6 v7 v8 v9:Value):∀W,W=((((((((((w.setCell ⟨B,0,none⟩ v0).setCell ⟨B,1,none⟩ v1).setCell ⟨B,2,none⟩ v2).setCell ⟨B,3,none⟩ v3).setCell ⟨B,4,none⟩ v4).setCell ⟨B,5,none⟩ v5).setCell ⟨B,6,none⟩ v6).setCell ⟨B,7,none⟩ v7).setCell ⟨B,8,none⟩ v8).setCell ⟨B,9,none⟩ v9).drew →
    W.heap[B]?=some (.cells #[v0,v1,v2,v3,v4,v5,v6,v7,v8,v9] T (0,0))∧(∀k,k≠B→W.heap[k]?=w.heap[k]?)∧W.heap.size=w.heap.size∧∀n,n≤B→Below n w W:=by
  intro W hW;obtain ⟨V,hV⟩:∃V:World,V=((((((((((w.setCell ⟨B,0,none⟩ v0).setCell ⟨B,1,none⟩ v1).setCell ⟨B,2,none⟩ v2).setCell ⟨B,3,none⟩ v3).setCell ⟨B,4,none⟩ v4).setCell ⟨B,5,none⟩ v5).setCell ⟨B,6,none⟩ v6).setCell ⟨B,7,none⟩ v7).setCell ⟨B,8,none⟩ v8).setCell ⟨B,9,none⟩ v9):=⟨_,rfl⟩;rw [←hV] at hW;obtain ⟨a1,a2,a3,a4⟩:=t0G h v0 v1 v2 v3 v4 v5 v6 v7 v8 v9 V hV;clear hV;subst hW;exact ⟨a1,a2,a3,fun n hn=>(a4 n hn).drew⟩
theorem x0L {P:Nat→Prop} {w W5 W7:World} {key:Ky} {y:Nd} {sA pA:Option Addr} {sc pc:Nat} {e1 n:Int}
    (hb5:jB w W5) (hs:b0K (fun b=>P b∧(b<w.heap.size∨w.heap.size+5≤b)) W5 ⟨key,sA,sc,pA,pc,y⟩) (hk:∀k,k≠w.heap.size+3→W7.heap[k]?=W5.heap[k]?) (hz:W7.heap.size=W5.heap.size) (hb7:jB w W7) (hP:∀b,w.heap.size≤b→P b) :
    e0R P w key y e1 n (.returned (.tuple #[.agg (d0X ⟨key,sA,sc,pA,pc,y⟩).toArray,.int .i64 e1,.int .i64 n])) W7:=by
  refine ⟨sA,sc,pA,pc,rfl,?_,hb7⟩;have hkeep:∀b,(P b∧(b<w.heap.size∨w.heap.size+5≤b))→b<W5.heap.size→W7.heap[b]?=W5.heap[b]?:=fun b hb _=>hk b (by omega)
  exact ⟨(hs.1.keepP (Nat.le_of_eq hz.symm) hkeep).imp (fun b hb=>hb.1),(hs.2.keepP (Nat.le_of_eq hz.symm) hkeep).imp (fun b hb=>hb.1)⟩
theorem k1D (P:Nat→Prop) (c:Cfg) (rs rh:Nat) (x:It) (a:c0W) (w:World) (hP:∀b,w.heap.size≤b→P b) (hx:b0K P w x) (hrs:c.sa=(rs:Nat)) (hrh:c.hi=(rh:Nat)) (hr:b0G x.nd.smp) (hl:x.nd.smp.length≤rs) (hl2:x.nd.past.length≤rh) (hrs1:1≤rs) (hrs2:rs≤256) (hrh1:1≤rh) (hrh2:rh≤64) (hv:x.nd.ver≤1000000) (h0:a.kind≠0) (h1:a.kind≠1) (h2:a.kind≠2) (h3:a.kind≠3) :
 Calls Tryz.prog 184 #[.agg #[.int .i64 c.st,.int .i64 c.sa,.int .i64 c.lo,.int .i64 c.hi],.agg (d0X x).toArray,.agg (e0Q a).toArray] w (e0R P w x.key x.nd 0 0):=by
 rw [show (d0X x).toArray=#[.slice x.sA x.nd.smp.length x.sc,.slice x.pA x.nd.past.length x.pc,.int .i64 x.nd.pol.mn,.int .i64 x.nd.pol.mx,.int .i64 x.nd.pol.tg,.int .i64 x.nd.pol.tol,.int .i64 x.nd.pol.win,.int .i64 x.nd.pol.hold,.bool x.nd.ruled,.int .i64 (x.nd.ver:Nat)] from rfl,show (e0Q a).toArray=#[.int .i64 a.kind,.int .i64 a.smp.1,.int .i64 a.smp.2,.int .i64 a.pol.mn,.int .i64 a.pol.mx,.int .i64 a.pol.tg,.int .i64 a.pol.tol,.int .i64 a.pol.win,.int .i64 a.pol.hold,.int .i64 a.adv.tick,.int .i64 a.adv.load,.int .i64 a.adv.want,.int .i64 a.adv.repl,.int .i64 a.adv.why] from rfl]
 have HX:=jH hx;have HP:=jH hP;clear hx hP;have q0:(a.kind == 0)=false:=by simpa using h0
 have q1:(a.kind == 1)=false:=by simpa using h1
 have q2:(a.kind == 2)=false:=by simpa using h2
 have q3:(a.kind == 3)=false:=by simpa using h3
 clear h0 h1 h2 h3
 go_enter Tryz.func184,Tryz.ntmps184
 go_wp2
 refine a0H ?_;intro W7 hW7;obtain ⟨k0,k1,k2,k3,k4,hs,hb⟩:=e0N w _ _ _ _ _ W7 hW7;obtain ⟨d1,d2,d3⟩:=a0A jR k3;clear hW7;exact bodyPost_ret (v:=.tuple #[.agg #[.slice x.sA x.nd.smp.length x.sc,.slice x.pA x.nd.past.length x.pc,.int .i64 x.nd.pol.mn,.int .i64 x.nd.pol.mx,.int .i64 x.nd.pol.tg,.int .i64 x.nd.pol.tol,.int .i64 x.nd.pol.win,.int .i64 x.nd.pol.hold,.bool x.nd.ruled,.int .i64 (x.nd.ver:Nat)],.int .i64 0,.int .i64 0]) (by simp [results,Tryz.results184,go_sem,d1]) rfl (x0L (key:=x.key) (y:=x.nd) hb (HX.out.old hb) (fun _ _=>rfl) rfl hb HP.out)
theorem n1Z (P:Nat→Prop) (c:Cfg) (rs rh:Nat) (x:It) (a:c0W) (w:World) (hP:∀b,w.heap.size≤b→P b) (hx:b0K P w x) (hrs:c.sa=(rs:Nat)) (hrh:c.hi=(rh:Nat)) (hr:b0G x.nd.smp) (hl:x.nd.smp.length≤rs) (hl2:x.nd.past.length≤rh) (hrs1:1≤rs) (hrs2:rs≤256) (hrh1:1≤rh) (hrh2:rh≤64) (hv:x.nd.ver≤1000000) (h0:a.kind=0) (h1:g0V a.smp.1 a.smp.2≠0) :
 Calls Tryz.prog 184 #[.agg #[.int .i64 c.st,.int .i64 c.sa,.int .i64 c.lo,.int .i64 c.hi],.agg (d0X x).toArray,.agg (e0Q a).toArray] w (e0R P w x.key x.nd (g0V a.smp.1 a.smp.2) 0):=by
 rw [show (d0X x).toArray=#[.slice x.sA x.nd.smp.length x.sc,.slice x.pA x.nd.past.length x.pc,.int .i64 x.nd.pol.mn,.int .i64 x.nd.pol.mx,.int .i64 x.nd.pol.tg,.int .i64 x.nd.pol.tol,.int .i64 x.nd.pol.win,.int .i64 x.nd.pol.hold,.bool x.nd.ruled,.int .i64 (x.nd.ver:Nat)] from rfl,show (e0Q a).toArray=#[.int .i64 a.kind,.int .i64 a.smp.1,.int .i64 a.smp.2,.int .i64 a.pol.mn,.int .i64 a.pol.mx,.int .i64 a.pol.tg,.int .i64 a.pol.tol,.int .i64 a.pol.win,.int .i64 a.pol.hold,.int .i64 a.adv.tick,.int .i64 a.adv.load,.int .i64 a.adv.want,.int .i64 a.adv.repl,.int .i64 a.adv.why] from rfl]
 have HX:=jH hx;have HP:=jH hP;clear hx hP;have q0:(a.kind == 0)=true:=by simpa using h0
 clear h0;have HR:=jH (o0L a.smp.1 a.smp.2);have hn:(g0V a.smp.1 a.smp.2 != 0)=true:=by simpa using h1
 generalize g0V a.smp.1 a.smp.2=r at hn HR ⊢;clear h1
 go_enter Tryz.func184,Tryz.ntmps184
 go_wp2_with (first
  | (go_at_call 91;refine (HR.out _).mono ?_;rintro e w1 ⟨rfl,rfl⟩))
 refine a0H ?_;intro W7 hW7;obtain ⟨k0,k1,k2,k3,k4,hs,hb⟩:=e0N w _ _ _ _ _ W7 hW7;obtain ⟨d1,d2,d3⟩:=a0A jR k3;clear hW7;exact bodyPost_ret (v:=.tuple #[.agg #[.slice x.sA x.nd.smp.length x.sc,.slice x.pA x.nd.past.length x.pc,.int .i64 x.nd.pol.mn,.int .i64 x.nd.pol.mx,.int .i64 x.nd.pol.tg,.int .i64 x.nd.pol.tol,.int .i64 x.nd.pol.win,.int .i64 x.nd.pol.hold,.bool x.nd.ruled,.int .i64 (x.nd.ver:Nat)],.int .i64 r,.int .i64 0]) (by simp [results,Tryz.results184,go_sem,d1]) rfl (x0L (key:=x.key) (y:=x.nd) hb (HX.out.old hb) (fun _ _=>rfl) rfl hb HP.out)
theorem l1R (P:Nat→Prop) (c:Cfg) (rs rh:Nat) (x:It) (a:c0W) (w:World) (hP:∀b,w.heap.size≤b→P b) (hx:b0K P w x) (hrs:c.sa=(rs:Nat)) (hrh:c.hi=(rh:Nat)) (hr:b0G x.nd.smp) (hl:x.nd.smp.length≤rs) (hl2:x.nd.past.length≤rh) (hrs1:1≤rs) (hrs2:rs≤256) (hrh1:1≤rh) (hrh2:rh≤64) (hv:x.nd.ver≤1000000) (h0:a.kind=0) (h1:g0V a.smp.1 a.smp.2=0) :
 Calls Tryz.prog 184 #[.agg #[.int .i64 c.st,.int .i64 c.sa,.int .i64 c.lo,.int .i64 c.hi],.agg (d0X x).toArray,.agg (e0Q a).toArray] w (e0R P w x.key { x.nd with smp:=i0O x.nd.smp (rs:Nat) a.smp,ver:=x.nd.ver+1 } 0 ((x.nd.smp.length:Int) - ((i0O x.nd.smp (rs:Nat) a.smp).length:Int))):=by
 rw [show (d0X x).toArray=#[.slice x.sA x.nd.smp.length x.sc,.slice x.pA x.nd.past.length x.pc,.int .i64 x.nd.pol.mn,.int .i64 x.nd.pol.mx,.int .i64 x.nd.pol.tg,.int .i64 x.nd.pol.tol,.int .i64 x.nd.pol.win,.int .i64 x.nd.pol.hold,.bool x.nd.ruled,.int .i64 (x.nd.ver:Nat)] from rfl,show (e0Q a).toArray=#[.int .i64 a.kind,.int .i64 a.smp.1,.int .i64 a.smp.2,.int .i64 a.pol.mn,.int .i64 a.pol.mx,.int .i64 a.pol.tg,.int .i64 a.pol.tol,.int .i64 a.pol.win,.int .i64 a.pol.hold,.int .i64 a.adv.tick,.int .i64 a.adv.load,.int .i64 a.adv.want,.int .i64 a.adv.repl,.int .i64 a.adv.why] from rfl]
 have HX:=jH hx;have HP:=jH hP;clear hx hP;have q0:(a.kind == 0)=true:=by simpa using h0
 clear h0;have hvw:IntKind.i64.wrap ((x.nd.ver:Int)+1)=(x.nd.ver:Int)+1:=by rw [IntKind.wrap_i64];omega
 have HS:=jH h1;have hpl:=t0Y hl a.smp;have hwl:IntKind.i64.wrap ((x.nd.smp.length:Int) - ((i0O x.nd.smp (rs:Nat) a.smp).length:Int))=(x.nd.smp.length:Int) - ((i0O x.nd.smp (rs:Nat) a.smp).length:Int):=by rw [IntKind.wrap_i64];omega
 clear h1
 go_enter Tryz.func184,Tryz.ntmps184
 go_wp2_with (first
  | (go_at_call 91;refine (o0L _ _ _).mono ?_;rw [HS.out];rintro e w1 ⟨rfl,rfl⟩)
  | (go_at_call 227
     refine a0B ?_;intro W1 hW1;obtain ⟨k0,k1,k2,k3,k4,hs,hb⟩:=e0N w _ _ _ _ _ W1 hW1;clear hW1;refine (m1Q _ x.nd.smp rs a.smp W1 (HX.out.1.1.below hb) (o0R hr _) hr hl hrs1 (by omega)).mono ?_;rintro e w3 ⟨A3,c3',rfl,hr3,hb3⟩;obtain ⟨a0,a0f,a0l,a0h⟩:=b0F hb3 k0;obtain ⟨a1,a1f,a1l,a1h⟩:=b0F hb3 k1;obtain ⟨a2,a2f,a2l,a2h⟩:=b0F hb3 k2;obtain ⟨a3,a3f,a3l,a3h⟩:=b0F hb3 k3
     obtain ⟨a4,a4f,a4l,a4h⟩:=b0F hb3 k4;have hbb:=a0D hb hb3;have HB3:=jH (And.intro hbb (And.intro a1h (And.intro a2h (And.intro a3h a4h))));have hsz:=hb3.size;have HLD:=jH (show ∀W5:World,(∀i,i≠w.heap.size+1+1+1+1→W5.heap[i]?=w3.heap[i]?)→W5.heap.size=w3.heap.size→b0K (fun b=>P b∧(b<w.heap.size∨w.heap.size+5≤b)) W5 ⟨x.key,A3,c3',x.pA,x.pc,{ x.nd with smp:=i0O x.nd.smp (rs:Nat) a.smp,ver:=x.nd.ver+1 }⟩ from fun W5 hk hz=>⟨(hr3.imp (fun b hb'=>⟨HP.out b (by omega),.inr (by omega)⟩)).keepP (Nat.le_of_eq hz.symm) (fun b hb' _=>hk b (by omega)),((HX.out.old hbb).2).keepP (Nat.le_of_eq hz.symm) (fun b hb' _=>hk b (by omega))⟩)
     clear hr3;clear k0 k1 k2 k3 k4 hb hb3 hbb a0h a1h a2h a3h a4h))
 refine a0I ?_;intro W5 hW5;have g0:(w3.setCell ⟨w.heap.size+1+1+1+1,0,none⟩ (.slice A3 (i0O x.nd.smp (rs:Nat) a.smp).length c3')).heap[w.heap.size+1+1+1+1]?=some (.cells #[.slice A3 (i0O x.nd.smp (rs:Nat) a.smp).length c3',.slice x.pA x.nd.past.length x.pc,.int .i64 x.nd.pol.mn,.int .i64 x.nd.pol.mx,.int .i64 x.nd.pol.tg,.int .i64 x.nd.pol.tol,.int .i64 x.nd.pol.win,.int .i64 x.nd.pol.hold,.bool x.nd.ruled,.int .i64 (x.nd.ver:Nat)] 128 (0,0)):=a0E (i:=0) (v:=.slice A3 (i0O x.nd.smp (rs:Nat) a.smp).length c3') HB3.out.2.2.2.2
 have g1:((w3.setCell ⟨w.heap.size+1+1+1+1,0,none⟩ (.slice A3 (i0O x.nd.smp (rs:Nat) a.smp).length c3')).setCell ⟨w.heap.size+1+1+1+1,9,none⟩ (.int .i64 ((x.nd.ver:Int)+1))).heap[w.heap.size+1+1+1+1]?=some (.cells #[.slice A3 (i0O x.nd.smp (rs:Nat) a.smp).length c3',.slice x.pA x.nd.past.length x.pc,.int .i64 x.nd.pol.mn,.int .i64 x.nd.pol.mx,.int .i64 x.nd.pol.tg,.int .i64 x.nd.pol.tol,.int .i64 x.nd.pol.win,.int .i64 x.nd.pol.hold,.bool x.nd.ruled,.int .i64 ((x.nd.ver:Int)+1)] 128 (0,0)):=a0E (i:=9) (v:=.int .i64 ((x.nd.ver:Int)+1)) g0
 have hk5:∀i,i≠w.heap.size+1+1+1+1→W5.heap[i]?=w3.heap[i]?:=by rw [hW5];exact fun i hi=>(Below.heap_setCell _ _ _ _ hi).trans ((Below.heap_setCell _ _ _ _ hi).trans (rfl))
 have hz5:W5.heap.size=w3.heap.size:=by rw [hW5];simp [World.setCell]
 have hb5:Below w.heap.size w3 W5:=by rw [hW5];exact (((Below.refl w.heap.size w3).setCell (by simp;omega) _).setCell (by simp;omega) _)
 have h54:W5.heap[w.heap.size+1+1+1+1]?=some (.cells #[.slice A3 (i0O x.nd.smp (rs:Nat) a.smp).length c3',.slice x.pA x.nd.past.length x.pc,.int .i64 x.nd.pol.mn,.int .i64 x.nd.pol.mx,.int .i64 x.nd.pol.tg,.int .i64 x.nd.pol.tol,.int .i64 x.nd.pol.win,.int .i64 x.nd.pol.hold,.bool x.nd.ruled,.int .i64 ((x.nd.ver:Int)+1)] 128 (0,0)):=by rw [hW5];exact g1
 have h51:=(hk5 (w.heap.size+1) (by omega)).trans HB3.out.2.1;have h53:=(hk5 (w.heap.size+1+1+1) (by omega)).trans HB3.out.2.2.2.1;obtain ⟨c1,c1f,c1l⟩:=a0A jR h51;obtain ⟨c3,c3f,c3l⟩:=a0A jR h53;obtain ⟨c4,c4f,c4l⟩:=a0A jR h54;have H53:=jH h53;have HB5:=jH (HB3.out.1.trans hb5);have HK5:=jH hk5;have HZ5:=jH hz5;clear hW5 hk5 hz5 hb5 h51 h53 h54 g0 g1
 go_region
 refine a0T ?_;intro W7 hW7;obtain ⟨h4,h5,h6,h7⟩:=c1M H53.out _ _ _ _ _ _ _ _ _ _ W7 hW7;obtain ⟨d1,d2,d3⟩:=a0A jR h4;have hb7:jB w W7:=HB5.out.trans (h7 w.heap.size (by omega));clear hW7 c1 c1f c1l c3 c3f c3l c4 c4f c4l h4;go_wp2
 exact bodyPost_ret (v:=.tuple #[.agg #[.slice A3 (i0O x.nd.smp (rs:Nat) a.smp).length c3',.slice x.pA x.nd.past.length x.pc,.int .i64 x.nd.pol.mn,.int .i64 x.nd.pol.mx,.int .i64 x.nd.pol.tg,.int .i64 x.nd.pol.tol,.int .i64 x.nd.pol.win,.int .i64 x.nd.pol.hold,.bool x.nd.ruled,.int .i64 ((x.nd.ver:Int)+1)],.int .i64 0,.int .i64 ((x.nd.smp.length:Int) - ((i0O x.nd.smp (rs:Nat) a.smp).length:Int))]) (by simp [results,Tryz.results184,go_sem,d1]) rfl (x0L (W5:=W5) (key:=x.key) (y:={ x.nd with smp:=i0O x.nd.smp (rs:Nat) a.smp,ver:=x.nd.ver+1 }) (sA:=A3) (sc:=c3') (pA:=x.pA) (pc:=x.pc) HB5.out (HLD.out W5 HK5.out HZ5.out) (fun k hk=>h5 k hk) h6 hb7 HP.out)
end
end Go.Proofs.YtmniiodpbebnmaaGreat
