/- Part 11 of the proof: Sat, RIt2, RIt3, StripeAt, Unlike. -/
import Derived.Test.YtkcdhaallnhhmaaGreatL06
namespace Go.Proofs.YtkcdhaallnhhmaaGreat
set_option linter.unusedSimpArgs false
set_option linter.unusedVariables false
set_option linter.unusedSectionVars false
set_option maxRecDepth 100000
set_option maxHeartbeats 16000000
section
open Go.RowKit Go.Lib
def endsI (n:Int):Int:=if 9223372036854775807<n then 9223372036854775807 else if n < -9223372036854775808 then -9223372036854775808 else n
theorem endsI_i64 (n:Int):I64 (endsI n):=by
 unfold endsI I64
 split
 · omega
 · split <;> omega
def sumE:List Int→Int→Int
  | [],a=>a
  | n::l,a=>sumE l (endsI (a+n))
theorem sumE_i64:∀(l:List Int) (a:Int),I64 a→I64 (sumE l a)
  | [],a,h=>h
  | n::l,a,h=>sumE_i64 l _ (endsI_i64 _)
theorem sumE_snoc:∀(l:List Int) (a n:Int),sumE (l++[n]) a=endsI (sumE l a+n)
  | [],a,n=>rfl
  | m::l,a,n=>sumE_snoc l _ n
def nmC (n:Int):List Value:=[.int .i64 n]
theorem i64_0:I64 0:=by unfold I64;omega
theorem satAdd_any (a b:Int) (w:World) (ha:I64 a) (hb:I64 b) :
 Calls Tryz.prog 202 #[.int .i64 a,.int .i64 b] w fun e w'=>e=.returned (.int .i64 (endsI (a+b)))∧w=w':=by
 obtain ⟨a1,a2⟩:=ha;obtain ⟨b1,b2⟩:=hb
 go_enter Tryz.func202,Tryz.ntmps202
 go_wp2
 all_goals
   go_ret
   refine ⟨ret_int ?_,rfl⟩
   (try unfold wrap64 at *)
   unfold endsI
   repeat' split
   all_goals omega
theorem refAdd_any (a b:Int) (w:World) (ha:I64 a) (hb:I64 b) :
 Calls Tryz.prog 172 #[.int .i64 a,.int .i64 b] w fun e w'=>e=.returned (.int .i64 (endsI (a+b)))∧w=w':=by
 obtain ⟨a1,a2⟩:=ha;obtain ⟨b1,b2⟩:=hb
 go_enter Tryz.func172,Tryz.ntmps172
 go_wp2
 all_goals
   go_ret
   refine ⟨ret_int ?_,rfl⟩
   (try unfold wrap64 at *)
   unfold endsI
   repeat' split
   all_goals omega
theorem refSub_any (a b:Int) (w:World) (ha:I64 a) (hb:I64 b) :
 Calls Tryz.prog 173 #[.int .i64 a,.int .i64 b] w fun e w'=>e=.returned (.int .i64 (endsI (a - b)))∧w=w':=by
 obtain ⟨a1,a2⟩:=ha;obtain ⟨b1,b2⟩:=hb
 go_enter Tryz.func173,Tryz.ntmps173
 go_wp2
 all_goals
   go_ret
   refine ⟨ret_int ?_,rfl⟩
   (try unfold wrap64 at *)
   unfold endsI
   repeat' split
   all_goals omega
theorem satBit_any (b:Bool) (w:World) :
 Calls Tryz.prog 228 #[.bool b] w fun e w'=>e=.returned (.int .i64 (if b=true then 1 else 0))∧w=w':=by
 cases b
 all_goals
   go_enter Tryz.func228,Tryz.ntmps228
   go_wp2
   go_ret
   exact ⟨rfl,rfl⟩
theorem sub_ends {a b:Int} (ha:I64 a) (hb:I64 b) (h:b≠-9223372036854775808):endsI (a+IntKind.i64.wrap (-b))=endsI (a - b):=by
 unfold I64 at ha hb;rw [IntKind.wrap_i64]
 congr 1
 omega
theorem sub_end {a:Int} (ha:I64 a) (q:Bool) (hq:q=decide (a<0)):endsI (endsI (a+9223372036854775807)+if q=true then 1 else 0)=endsI (a - -9223372036854775808):=by
 subst hq;unfold I64 at ha
 by_cases h:a<0
 · simp only [h,decide_true,if_true]
   unfold endsI
   repeat' split
   all_goals omega
 · simp only [h,decide_false]
   unfold endsI;simp only [Bool.false_eq_true,if_false]
   repeat' split
   all_goals omega
end
section
open Go.RowKit Go.Lib Go.Sort
def hasI (l:List It) (k:Ky):Bool:=if h:atI l k<l.length then decide (l[atI l k].key=k) else false
theorem ihas_any (v:Value) (l:List It) (k:Ky) (w:World) (hv:RowIn 12 itC w v l) (hl:l.length≤1000000) (hok:∀x∈l,x.key.ok) (hk:k.ok) :
 Calls Tryz.prog 183 #[v,.agg #[.int .u64 k.1,.int .u64 k.2]] w (jP w (.bool (hasI l k))):=by
 obtain ⟨A,c,rfl⟩:=hv.form;have HAT:=jH (fun (W:World) (hb:jB w W)=>iat_any _ l k W (hv.below hb) hl hok hk);have HV:=jH hv;unfold hasI;clear hv
 by_cases hal:atI l k<l.length
 · rw [dif_pos hal]
   obtain ⟨b,o,rfl,hbw,hc⟩:=HV.out.at_ hal;have c1:w.cell? ⟨b,o+atI l k * 12,none⟩=some (.int .u64 l[atI l k].key.1):=hc 0 _ rfl;have c2:w.cell? ⟨b,o+atI l k * 12+1,none⟩=some (.int .u64 l[atI l k].key.2):=hc 1 _ rfl;have hyok:=hok _ (List.getElem_mem hal);generalize l[atI l k].key=y at c1 c2 hyok ⊢;have HC1:=jH c1;have HC2:=jH c2;clear hc c1 c2 hok;generalize ha:atI l k=a at *;clear ha
   by_cases hyk:y=k
   · subst hyk
     rw [decide_eq_true rfl]
     go_enter Tryz.func183,Tryz.ntmps183
     go_wp2_with (first
      | (go_at_call 214
         refine calls_named ?_;intro W1 hW1;obtain ⟨k0,k1,hs,hb⟩:=box_one w y W1 hW1;clear hW1;refine (HAT.out W1 hb).mono ?_;rintro e w2 ⟨rfl,hb2⟩;have a1:=(hb2.cell (p:=⟨w.heap.size,0,none⟩) (by simp;omega)).trans k0;have a2:=(hb2.cell (p:=⟨w.heap.size,1,none⟩) (by simp;omega)).trans k1;have a3:=((bthen hb hb2).cell (p:=⟨b,_,none⟩) hbw).trans HC1.out;have a4:=((bthen hb hb2).cell (p:=⟨b,_,none⟩) hbw).trans HC2.out
         have HB:=jH (bthen hb hb2);clear k0 k1 hs hb hb2))
     go_quiet (fail)
     go_wp2
     go_ret
     exact ⟨rfl,below_drewN HB.out _⟩
   · rw [decide_eq_false hyk]
     by_cases h1:y.1=k.1
     · have hh:((y.2:Int) == (k.2:Int))=false:=by
        have:y.2≠k.2:=fun h2=>hyk (Prod.ext h1 h2)
        simp;omega
       rw [h1] at HC1;clear hyk h1
       go_enter Tryz.func183,Tryz.ntmps183
       go_wp2_with (first
        | (go_at_call 214
           refine calls_named ?_;intro W1 hW1;obtain ⟨k0,k1,hs,hb⟩:=box_one w k W1 hW1;clear hW1;refine (HAT.out W1 hb).mono ?_;rintro e w2 ⟨rfl,hb2⟩;have a1:=(hb2.cell (p:=⟨w.heap.size,0,none⟩) (by simp;omega)).trans k0;have a2:=(hb2.cell (p:=⟨w.heap.size,1,none⟩) (by simp;omega)).trans k1;have a3:=((bthen hb hb2).cell (p:=⟨b,_,none⟩) hbw).trans HC1.out;have a4:=((bthen hb hb2).cell (p:=⟨b,_,none⟩) hbw).trans HC2.out
           have HB:=jH (bthen hb hb2);clear k0 k1 hs hb hb2))
       go_quiet (fail)
       go_wp2
       go_ret
       exact ⟨rfl,below_drewN HB.out _⟩
     · have hh:((y.1:Int) == (k.1:Int))=false:=by simp;omega
       clear hyk h1
       go_enter Tryz.func183,Tryz.ntmps183
       go_wp2_with (first
        | (go_at_call 214
           refine calls_named ?_;intro W1 hW1;obtain ⟨k0,k1,hs,hb⟩:=box_one w k W1 hW1;clear hW1;refine (HAT.out W1 hb).mono ?_;rintro e w2 ⟨rfl,hb2⟩;have a1:=(hb2.cell (p:=⟨w.heap.size,0,none⟩) (by simp;omega)).trans k0;have a2:=(hb2.cell (p:=⟨w.heap.size,1,none⟩) (by simp;omega)).trans k1;have a3:=((bthen hb hb2).cell (p:=⟨b,_,none⟩) hbw).trans HC1.out;have a4:=((bthen hb hb2).cell (p:=⟨b,_,none⟩) hbw).trans HC2.out
           have HB:=jH (bthen hb hb2);clear k0 k1 hs hb hb2))
       go_quiet (fail)
       go_wp2
       go_ret
       exact ⟨rfl,below_drewN HB.out _⟩
 · rw [dif_neg hal]
   have hle:=atI_le l k;have e1:atI l k=l.length:=by omega
   rw [e1] at HAT
   go_enter Tryz.func183,Tryz.ntmps183
   go_wp2_with (first
    | (go_at_call 214
       refine calls_named ?_;intro W1 hW1;obtain ⟨k0,k1,hs,hb⟩:=box_one w k W1 hW1;clear hW1;refine (HAT.out W1 hb).mono ?_;rintro e w2 ⟨rfl,hb2⟩;have HB:=jH (bthen hb hb2);clear k0 k1 hs hb hb2))
   go_quiet (fail)
   go_wp2
   go_ret
   exact ⟨rfl,below_drewN HB.out _⟩
end
section
open Go.RowKit Go.Lib Go.Sort
def it0:It:=⟨(0,0),none,0,none,0,nd0⟩
def getL (l:List It) (k:Ky):It:=if h:atI l k<l.length then (if l[atI l k].key=k then l[atI l k] else it0) else it0
theorem getL_has {l:List It} {k:Ky} (h:hasI l k=true):∃hl:atI l k<l.length,getL l k=l[atI l k]:=by
 unfold hasI at h
 split at h
 · rename_i hl
   refine ⟨hl,?_⟩;unfold getL;rw [dif_pos hl,if_pos (by simpa using h)]
 · cases h
theorem getL_none {l:List It} {k:Ky} (h:hasI l k=false):getL l k=it0:=by
 unfold hasI at h;unfold getL
 split at h
 · rename_i hl
   rw [dif_pos hl,if_neg (by simpa using h)]
 · rename_i hl
   rw [dif_neg hl]
theorem two_boxes (w:World) (o1 o2:Obj):∀W,W=(w.alloc o1).alloc o2→W.heap[w.heap.size]?=some o1∧W.heap[w.heap.size+1]?=some o2∧W.heap.size=w.heap.size+2∧jB w W:=by
 rintro W rfl;refine ⟨(Below.heap_alloc _ _ _ (by simp)).trans (heap_alloc_new _ _),?_,by simp,balloc (balloc jR _) _⟩;have:=heap_alloc_new (w.alloc o1) o2;rw [World.size_alloc] at this;exact this
theorem set10 {w:World} {B:Nat} {u0 u1 u2 u3 u4 u5 u6 u7 u8 u9:Value} {T:TypeId} (h:w.heap[B]?=some (.cells #[u0,u1,u2,u3,u4,u5,u6,u7,u8,u9] T (0,0))) (v0 v1 v2 v3 v4 v5 v6 v7 v8 v9:Value):∀W,W=(((((((((w.setCell ⟨B,0,none⟩ v0).setCell ⟨B,1,none⟩ v1).setCell ⟨B,2,none⟩ v2).setCell ⟨B,3,none⟩ v3).setCell ⟨B,4,none⟩ v4).setCell ⟨B,5,none⟩ v5).setCell ⟨B,6,none⟩ v6).setCell ⟨B,7,none⟩ v7).setCell ⟨B,8,none⟩ v8).setCell ⟨B,9,none⟩ v9 →
    W.heap[B]?=some (.cells #[v0,v1,v2,v3,v4,v5,v6,v7,v8,v9] T (0,0))∧(∀k,k≠B→W.heap[k]?=w.heap[k]?)∧W.heap.size=w.heap.size∧∀n,n≤B→Below n w W:=by
  rintro W rfl;refine ⟨?_,fun k hk=>?_,by simp [World.setCell],fun n hn=>?_⟩
  · have h0:(w.setCell ⟨B,0,none⟩ v0).heap[B]?=some (.cells #[v0,u1,u2,u3,u4,u5,u6,u7,u8,u9] T (0,0)):=setCell_block (i:=0) (v:=v0) h
    have h1:((w.setCell ⟨B,0,none⟩ v0).setCell ⟨B,1,none⟩ v1).heap[B]?=some (.cells #[v0,v1,u2,u3,u4,u5,u6,u7,u8,u9] T (0,0)):=setCell_block (i:=1) (v:=v1) h0;have h2:(((w.setCell ⟨B,0,none⟩ v0).setCell ⟨B,1,none⟩ v1).setCell ⟨B,2,none⟩ v2).heap[B]?=some (.cells #[v0,v1,v2,u3,u4,u5,u6,u7,u8,u9] T (0,0)):=setCell_block (i:=2) (v:=v2) h1;have h3:((((w.setCell ⟨B,0,none⟩ v0).setCell ⟨B,1,none⟩ v1).setCell ⟨B,2,none⟩ v2).setCell ⟨B,3,none⟩ v3).heap[B]?=some (.cells #[v0,v1,v2,v3,u4,u5,u6,u7,u8,u9] T (0,0)):=setCell_block (i:=3) (v:=v3) h2
    have h4:(((((w.setCell ⟨B,0,none⟩ v0).setCell ⟨B,1,none⟩ v1).setCell ⟨B,2,none⟩ v2).setCell ⟨B,3,none⟩ v3).setCell ⟨B,4,none⟩ v4).heap[B]?=some (.cells #[v0,v1,v2,v3,v4,u5,u6,u7,u8,u9] T (0,0)):=setCell_block (i:=4) (v:=v4) h3;have h5:((((((w.setCell ⟨B,0,none⟩ v0).setCell ⟨B,1,none⟩ v1).setCell ⟨B,2,none⟩ v2).setCell ⟨B,3,none⟩ v3).setCell ⟨B,4,none⟩ v4).setCell ⟨B,5,none⟩ v5).heap[B]?=some (.cells #[v0,v1,v2,v3,v4,v5,u6,u7,u8,u9] T (0,0)):=setCell_block (i:=5) (v:=v5) h4
    have h6:(((((((w.setCell ⟨B,0,none⟩ v0).setCell ⟨B,1,none⟩ v1).setCell ⟨B,2,none⟩ v2).setCell ⟨B,3,none⟩ v3).setCell ⟨B,4,none⟩ v4).setCell ⟨B,5,none⟩ v5).setCell ⟨B,6,none⟩ v6).heap[B]?=some (.cells #[v0,v1,v2,v3,v4,v5,v6,u7,u8,u9] T (0,0)):=setCell_block (i:=6) (v:=v6) h5;have h7:((((((((w.setCell ⟨B,0,none⟩ v0).setCell ⟨B,1,none⟩ v1).setCell ⟨B,2,none⟩ v2).setCell ⟨B,3,none⟩ v3).setCell ⟨B,4,none⟩ v4).setCell ⟨B,5,none⟩ v5).setCell ⟨B,6,none⟩ v6).setCell ⟨B,7,none⟩ v7).heap[B]?=some (.cells #[v0,v1,v2,v3,v4,v5,v6,v7,u8,u9] T (0,0)):=setCell_block (i:=7) (v:=v7) h6
    have h8:(((((((((w.setCell ⟨B,0,none⟩ v0).setCell ⟨B,1,none⟩ v1).setCell ⟨B,2,none⟩ v2).setCell ⟨B,3,none⟩ v3).setCell ⟨B,4,none⟩ v4).setCell ⟨B,5,none⟩ v5).setCell ⟨B,6,none⟩ v6).setCell ⟨B,7,none⟩ v7).setCell ⟨B,8,none⟩ v8).heap[B]?=some (.cells #[v0,v1,v2,v3,v4,v5,v6,v7,v8,u9] T (0,0)):=setCell_block (i:=8) (v:=v8) h7;have h9:((((((((((w.setCell ⟨B,0,none⟩ v0).setCell ⟨B,1,none⟩ v1).setCell ⟨B,2,none⟩ v2).setCell ⟨B,3,none⟩ v3).setCell ⟨B,4,none⟩ v4).setCell ⟨B,5,none⟩ v5).setCell ⟨B,6,none⟩ v6).setCell ⟨B,7,none⟩ v7).setCell ⟨B,8,none⟩ v8).setCell ⟨B,9,none⟩ v9).heap[B]?=some (.cells #[v0,v1,v2,v3,v4,v5,v6,v7,v8,v9] T (0,0)):=setCell_block (i:=9) (v:=v9) h8
    exact h9
  · have e:∀(u:World) (i:Nat) (v:Value),(u.setCell ⟨B,i,none⟩ v).heap[k]?=u.heap[k]?:=fun u i v=>Below.heap_setCell _ _ _ _ hk
    rw [e,e,e,e,e,e,e,e,e,e]
  · exact (((((((((((Below.refl n w).setCell hn _).setCell hn _).setCell hn _).setCell hn _).setCell hn _).setCell hn _).setCell hn _).setCell hn _).setCell hn _).setCell hn _)
theorem iget_any (v:Value) (l:List It) (k:Ky) (w:World) (hv:RowIn 12 itC w v l) (hl:l.length≤1000000) (hok:∀x∈l,x.key.ok) (hk:k.ok) :
 Calls Tryz.prog 182 #[v,.agg #[.int .u64 k.1,.int .u64 k.2]] w (jP w (.agg (loadC (getL l k)).toArray)):=by
 obtain ⟨A,c,rfl⟩:=hv.form;have HH:=jH (fun (W:World) (hb:jB w W)=>ihas_any _ l k W (hv.below hb) hl hok hk);have HAT:=jH (fun (W:World) (hb:jB w W)=>iat_any _ l k W (hv.below hb) hl hok hk);have HV:=jH hv;clear hv
 cases hh:hasI l k with
 | true =>
   obtain ⟨hal,hg⟩:=getL_has hh;have HG:=jH hg;rw [hh] at HH;obtain ⟨b,o,rfl,hbw,hc⟩:=HV.out.at_ hal;generalize l[atI l k]=x at hc HG;have HC:=jH (show ∀j u,(itC x)[j]?=some u→w.cell? ⟨b,o+atI l k * 12+j,none⟩=some u from hc);generalize ha:atI l k=a at *;clear ha hg hc hh hok
   go_enter Tryz.func182,Tryz.ntmps182
   go_wp2_with (first
    | (go_at_call 183
       refine calls_named ?_;intro W1 hW1;obtain ⟨k0,k1,hs,hb⟩:=two_boxes w _ _ W1 hW1;clear hW1;refine (HH.out W1 hb).mono ?_;rintro e w2 ⟨rfl,hb2⟩;obtain ⟨a1,a2,a3,a4⟩:=box_at hb2 k0;have HX:=jH (And.intro a4 (jK hb2 k1));have HB:=jH (bthen hb hb2);clear k0 k1 hs hb hb2 a4)
    | (go_at_call 214
       refine (HAT.out w2 HB.out).mono ?_;rintro e w3 ⟨rfl,hb3⟩;obtain ⟨b1,b2,b3⟩:=box_cells hb3 HX.out.2;have hbb:=bthen HB.out hb3;have q0:=(hbb.cell (p:=⟨b,_,none⟩) hbw).trans (HC.out 2 _ rfl);have q1:=(hbb.cell (p:=⟨b,_,none⟩) hbw).trans (HC.out 3 _ rfl);have q2:=(hbb.cell (p:=⟨b,_,none⟩) hbw).trans (HC.out 4 _ rfl);have q3:=(hbb.cell (p:=⟨b,_,none⟩) hbw).trans (HC.out 5 _ rfl);have q4:=(hbb.cell (p:=⟨b,_,none⟩) hbw).trans (HC.out 6 _ rfl)
       have q5:=(hbb.cell (p:=⟨b,_,none⟩) hbw).trans (HC.out 7 _ rfl);have q6:=(hbb.cell (p:=⟨b,_,none⟩) hbw).trans (HC.out 8 _ rfl);have q7:=(hbb.cell (p:=⟨b,_,none⟩) hbw).trans (HC.out 9 _ rfl);have q8:=(hbb.cell (p:=⟨b,_,none⟩) hbw).trans (HC.out 10 _ rfl);have q9:=(hbb.cell (p:=⟨b,_,none⟩) hbw).trans (HC.out 11 _ rfl);have HB3:=jH (And.intro hbb (jK hb3 HX.out.2));clear hb3 hbb))
   refine post_named ?_;intro W4 hW4;obtain ⟨h4,h5,h6,h7⟩:=set10 HB3.out.2 _ _ _ _ _ _ _ _ _ _ W4 hW4;obtain ⟨d1,d2,d3⟩:=box_cells jR h4;have hb4:=HB3.out.1.trans (h7 w.heap.size (by omega));clear hW4;exact bodyPost_ret (v:=.agg (loadC x).toArray) (by simp [results,Tryz.results182,go_sem,loadC,d1]) rfl ⟨by rw [HG.out],hb4⟩
 | false =>
   have HG:=jH (getL_none hh);rw [hh] at HH;clear hh hok
   go_enter Tryz.func182,Tryz.ntmps182
   go_wp2_with (first
    | (go_at_call 183
       refine calls_named ?_;intro W1 hW1;obtain ⟨k0,k1,hs,hb⟩:=two_boxes w _ _ W1 hW1;clear hW1;refine (HH.out W1 hb).mono ?_;rintro e w2 ⟨rfl,hb2⟩;obtain ⟨a1,a2,a3⟩:=box_cells hb2 k0;obtain ⟨b1,b2,b3⟩:=box_cells hb2 k1;have HB:=jH (And.intro (bthen hb hb2) (jK hb2 k1));clear k0 k1 hs hb hb2))
   refine post_named ?_;intro W4 hW4;obtain ⟨h4,h5,h6,h7⟩:=set10 HB.out.2 _ _ _ _ _ _ _ _ _ _ W4 hW4;obtain ⟨d1,d2,d3⟩:=box_cells jR h4;have hb4:=HB.out.1.trans (h7 w.heap.size (by omega));clear hW4;exact bodyPost_ret (v:=.agg (loadC it0).toArray) (by simp [results,Tryz.results182,go_sem,loadC,it0,nd0,pol0,d1]) rfl ⟨by rw [HG.out],hb4⟩
end
section
open Go.RowKit Go.Lib Go.Sort
open Go.ChangeMaps (setBlock)
section
variable {α β:Type} [DecidableEq α]
theorem mem_putM {es:List (α × β)} {x:α} {v:β} {p:α × β} (h:p∈putM es x v):p=(x,v)∨(p∈es∧p.1≠x):=by
 unfold putM at h
 split at h
 · obtain ⟨q,hq,e⟩:=List.mem_map.1 h
   split at e
   · exact .inl e.symm
   · rename_i hn
     subst e;exact .inr ⟨hq,hn⟩
 · rename_i hn
   rcases List.mem_append.1 h with h|h
   · refine .inr ⟨h,fun e=>hn ?_⟩
     rw [hasM_iff];exact List.mem_map.2 ⟨p,h,e⟩
   · exact .inl (List.mem_singleton.1 h)
theorem find_mem {es:List (α × β)} {x:α} {v:β} (h:findM es x=some v):(x,v)∈es:=by
 unfold findM at h;obtain ⟨q,hq,rfl⟩:=Option.map_eq_some_iff.1 h;have h1:=List.find?_some hq;simp at h1
 rw [←h1];exact List.mem_of_find?_eq_some hq
theorem find_putM (es:List (α × β)) (x y:α) (v:β):findM (putM es x v) y=if y=x then some v else findM es y:=by
 unfold putM
 split
 · rename_i hh
   induction es with
   | nil=>simp [hasM] at hh
   | cons p es ih =>
     unfold findM;simp only [List.map_cons,List.find?_cons]
     by_cases hp:p.1=x
     · rw [if_pos hp]
       by_cases hy:y=x
       · subst hy
         simp
       · rw [if_neg hy]
         have e1:decide (x=y)=false:=by simpa using fun e=>hy e.symm
         have e2:decide (p.1=y)=false:=by rw [hp];exact e1
         simp only [e1,e2]
         by_cases hq:hasM es x=true
         · have:=ih hq
           unfold findM at this;rw [if_neg hy] at this;exact this
         · have:es.map (fun p=>if p.1=x then (x,v) else p)=es:=by
            conv=>rhs;rw [←List.map_id es]
            refine List.map_congr_left fun q hq'=>?_
            rw [if_neg]
            · rfl
            · intro e
              exact hq ((hasM_iff es x).2 (List.mem_map.2 ⟨q,hq',e⟩))
           rw [this]
     · rw [if_neg hp]
       have hq:hasM es x=true:=by simpa [hasM,hp] using hh
       have:=ih hq;unfold findM at this
       by_cases hpy:p.1=y
       · have hy:¬y=x:=fun e=>hp (hpy.trans e)
         rw [if_neg hy];simp [hpy]
       · have e2:decide (p.1=y)=false:=by simpa using hpy
         simp only [e2]
         exact this
 · rename_i hh
   unfold findM;rw [List.find?_append]
   by_cases hy:y=x
   · subst hy
     rw [if_pos rfl];have:List.find? (fun p=>decide (p.1=y)) es=none:=by
      rw [List.find?_eq_none];intro p hp hpy;exact hh ((hasM_iff es y).2 (List.mem_map.2 ⟨p,hp,by simpa using hpy⟩))
     rw [this];simp
   · rw [if_neg hy]
     have e1:decide (x=y)=false:=by simpa using fun e=>hy e.symm
     simp [e1]
end
end
section
open Go.RowKit Go.Lib
theorem xor_step (a b k:Nat):(a ^^^ b) % 2 ^ (k+1)=(a ^^^ b) % 2 ^ k+if a / 2 ^ k % 2=b / 2 ^ k % 2 then 0 else 2 ^ k:=by
 have h1:(a ^^^ b) / 2 ^ k % 2=if a / 2 ^ k % 2=b / 2 ^ k % 2 then 0 else 1:=by
  rw [←Nat.shiftRight_eq_div_pow,Nat.shiftRight_xor_distrib,Nat.shiftRight_eq_div_pow,Nat.shiftRight_eq_div_pow];have h2:=Nat.xor_mod_two_eq_one (a:=a / 2 ^ k) (b:=b / 2 ^ k);have h3:=Nat.mod_lt ((a / 2 ^ k) ^^^ (b / 2 ^ k)) (show 0<2 by decide);have h4:=Nat.mod_lt (a / 2 ^ k) (show 0<2 by decide);have h5:=Nat.mod_lt (b / 2 ^ k) (show 0<2 by decide)
  split <;> omega
 have h2:(a ^^^ b) % 2 ^ (k+1)=(a ^^^ b) % 2 ^ k+2 ^ k * ((a ^^^ b) / 2 ^ k % 2):=by
  rw [Nat.pow_succ,Nat.mod_mul]
 rw [h2,h1]
 split <;> simp
theorem half_step (a k:Nat):a / 2 ^ k / 2=a / 2 ^ (k+1):=by rw [Nat.div_div_eq_div_mul,Nat.pow_succ]
theorem unlike_any (a b:Nat) (w:World) (ha:a<256) (hb:b<256) :
 Calls Tryz.prog 231 #[.int .u64 a,.int .u64 b] w fun e w'=>e=.returned (.int .u64 ((a ^^^ b:Nat):Int))∧w=w':=by
 go_enter Tryz.func231,Tryz.ntmps231
 go_wp2
 go_loop [0,1,5,6,7] (fun x y o n i=>∃k:Nat,k≤8∧i=.int .i64 k∧x=.int .u64 (a / 2 ^ k:Nat)∧y=.int .u64 (b / 2 ^ k:Nat)∧o=.int .u64 ((a ^^^ b) % 2 ^ k:Nat)∧n=.int .u64 (2 ^ k:Nat)) (fun _ _ _ _ i=>8 - (intOf i).toNat)
 case atStart=>exact ⟨0,by omega,rfl,by simp,by simp,by simp [Nat.mod_one],rfl⟩
 case round =>
  obtain ⟨k,hk,rfl,rfl,rfl,rfl,rfl⟩:=hrel
  by_cases hlt:k<8
  · have hp:2 ^ k≤2 ^ 7:=Nat.pow_le_pow_right (by decide) (by omega)
    have hx:(a ^^^ b) % 2 ^ k<2 ^ k:=Nat.mod_lt _ (Nat.pow_pos (by decide));have ha2:a / 2 ^ k≤a:=Nat.div_le_self _ _;have hb2:b / 2 ^ k≤b:=Nat.div_le_self _ _;have s1:=jH (xor_step a b k);have s2:=jH (half_step a k);have s3:=jH (half_step b k);have s4:=jH (Nat.pow_succ 2 k)
    by_cases he:a / 2 ^ k % 2=b / 2 ^ k % 2
    · have He:=jH he
      clear he;generalize hA:a / 2 ^ k=A at *;generalize hB:b / 2 ^ k=B at *;generalize hX:(a ^^^ b) % 2 ^ k=X at *;generalize hN:2 ^ k=N at *;clear hA hB hX hN;have hq:((A:Int) % 2 != (B:Int) % 2)=false:=by have:=He.out;simp;omega
      go_wp2
      go_round
      case rel=>exact ⟨k+1,hlt,by go_num,by rw [←s2.out];simp,by rw [←s3.out];simp,by rw [s1.out,if_pos He.out];simp,by rw [s4.out];simp⟩
      case measure=>simp [intOf];omega
    · have He:=jH he
      clear he;generalize hA:a / 2 ^ k=A at *;generalize hB:b / 2 ^ k=B at *;generalize hX:(a ^^^ b) % 2 ^ k=X at *;generalize hN:2 ^ k=N at *;clear hA hB hX hN;have hq:((A:Int) % 2 != (B:Int) % 2)=true:=by have:=He.out;simp;omega
      go_wp2
      go_round
      case rel=>exact ⟨k+1,hlt,by go_num,by rw [←s2.out];simp,by rw [←s3.out];simp,by rw [s1.out,if_neg He.out];simp,by rw [s4.out];simp⟩
      case measure=>simp [intOf];omega
  · obtain rfl:k=8:=by omega
    go_wp2
    go_ret
    have hv:a ^^^ b<2 ^ 8:=Nat.xor_lt_two_pow (by omega) (by omega);exact ⟨ret_int (by omega),rfl⟩
theorem xor_byte (h c:Nat) (hc:c<256):h - h % 256+((h % 256) ^^^ c)=h ^^^ c:=by
 have h1:(h ^^^ c) / 256=h / 256:=by
  have:=Nat.shiftRight_xor_distrib (a:=h) (b:=c) (i:=8);rw [Nat.shiftRight_eq_div_pow,Nat.shiftRight_eq_div_pow,Nat.shiftRight_eq_div_pow] at this;have h2:c / 2 ^ 8=0:=Nat.div_eq_of_lt hc;rw [h2,Nat.xor_zero] at this;exact this
 have h2:(h ^^^ c) % 256=(h % 256) ^^^ c:=by
  have:=Nat.xor_mod_two_pow (a:=h) (b:=c) (n:=8);rw [show (2:Nat) ^ 8=256 from rfl,Nat.mod_eq_of_lt hc] at this;exact this
 omega
end
end Go.Proofs.YtkcdhaallnhhmaaGreat
