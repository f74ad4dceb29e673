/- Part 32 of the proof. -/
import Derived.Test.YtmniiodpbebnmaaGreatJ31
import Derived.Deep.RegionHeld
namespace Go.Proofs.YtmniiodpbebnmaaGreat
set_option linter.unusedSimpArgs false
set_option linter.unusedVariables false
set_option linter.unusedSectionVars false
set_option maxRecDepth 100000
set_option maxHeartbeats 16000000
section
open Go.RowKit Go.Lib Go.Sort
section
section
variable {B:Nat→Prop} {S:Nat} {c:Cfg} {rs rh n:Nat} {wd:Wd} {d:d0Y}
theorem a0I.home {w:World} (h:a0I B w S c rs rh n wd d) (hl:(d.sts.length:Int)=c.st) (hst:e0R c.st=true) (k:Ky) :
 ∃(i:Nat) (s:St) (R:List Itm),c0J k.1 k.2 c.st=(i:Int)∧d.sts[i]?=some s∧wd.st[i]?=some R∧f0Y w c rs rh n s R:=by
 obtain ⟨h0,h1⟩:=q0F (hi:=k.1) (lo:=k.2) hst;obtain ⟨i,hi⟩:=Int.eq_ofNat_of_zero_le h0;have hil:i<d.sts.length:=by omega
 obtain ⟨R,hR,hk⟩:=h.get (List.getElem?_eq_getElem hil);exact ⟨i,_,R,hi,List.getElem?_eq_getElem hil,hR,hk⟩
theorem f0Y.load {w:World} {s:St} {R:List Itm} (h:f0Y w c rs rh n s R) (k:KO):match a0L s.es k with|none=>a0Z R k.1=none|some b=>∃y,a0Z R k.1=some y∧f0U b.2.1 y:=by
 have:=p0D h.tells k;rw [o0F] at this
 cases hf:a0L s.es k with
 | none=>rw [hf] at this;exact this
 | some b=>rw [hf] at this;exact this
theorem n0U {α:Type} {l:List α} (h:0<l.length):l.getLast?=some (l[l.length - 1]'(by omega)):=by
 rw [List.getLast?_eq_getElem?,List.getElem?_eq_getElem (by omega)]
theorem x0J (w:World) (h:a0I B w S c rs rh n wd d) (hl:(d.sts.length:Int)=c.st) (hst:e0R c.st=true) (hh:b0V c wd) (hrh:rh≤64) (k:Ky) (hk:k.ok) :
 Calls Tryz.prog 87 #[.pointer (some ⟨S,0,none⟩),.agg #[.int .u64 k.1,.int .u64 k.2]] w (jP w (a0X (i1P wd k))):=by
 obtain ⟨i,s,R,hri,hs,hR,hsk⟩:=h.home hl hst k;have hbd:=d0L _ hst;obtain ⟨r,hr⟩:∃r,r=i1P wd k:=⟨_,rfl⟩;rw [←hr];have hld:=g0G hh hR hri;have CH:=jH (fun W (hW:jB w W)=>show Calls Tryz.prog 30 #[.pointer (some ⟨S,0,none⟩),.agg #[.int .u64 k.1,.int .u64 k.2]] W (jP W (.int .i64 (i:Nat))) from hri ▸ f0I W (h.below hW) (by omega) hl (by omega) k hk);have CS:=jH (fun W (hW:jB w W)=>d0Z W (h.below hW) i s hs (by omega))
 have CG:=jH (fun W (hW:jB w W)=>h0W s.T s.M c s.ver s.es rs rh ⟨k,hk⟩ W (hsk.at_.below hW));have hfd:=hsk.load ⟨k,hk⟩;rw [←hld] at hfd
 cases hf:a0L s.es ⟨k,hk⟩ with
 | none =>
   rw [hf] at hfd CG;have HRR:=jH (show r=a0R 5 by rw [hr];unfold i1P;rw [hfd]);have CG2:=jH (show ∀W,jB w W→Calls Tryz.prog 105 #[.pointer (some ⟨s.T,0,none⟩),.agg #[.int .u64 k.1,.int .u64 k.2]] W (jP W (.pointer none)) from CG.out);clear h hr hs hR hsk hfd hf CG hld hri
   go_enter Tryz.func87,Tryz.ntmps87
   go_wp2_with fail
   refine a0J ?_;intro W hW;have HB1:=jH (show jB w W by rw [hW];exact a0C (a0C jR _) _);have HX0:=jH (show W.heap[w.heap.size]?=some (.cells #[.int .u64 k.1,.int .u64 k.2] 74 (0,0)) by rw [hW];exact d0V _ _ _);have HX1:=jH (show W.heap[w.heap.size+1]?=some (.cells zR.toArray 46 (0,0)) by rw [hW];exact c0G _ _ _);clear hW;have rk0:∀U,jB W U→U.cell? ⟨w.heap.size,0,none⟩=some (.int .u64 k.1):=fun U hU=>(a0A hU HX0.out).1 0
   have rk1:∀U,jB W U→U.cell? ⟨w.heap.size,1,none⟩=some (.int .u64 k.2):=fun U hU=>(a0A hU HX0.out).1 1
   have hS00:jB W W:=jR;have hS0:jB W W.drew:=hS00.drew
   go_region_held3 (fun U=>jB W U)
     (first
       | with_reducible exact hS0
       | with_reducible exact HB7.out
       | with_reducible exact HB5.out
       | with_reducible exact hS00)
     (first
     | (go_at_call 30
        refine (CH.out _ (a0D HB1.out ‹jB W _›)).mono ?_;rintro e w5 ⟨rfl,hb5⟩;have HB5:=jH (a0D ‹jB W _› hb5);clear hb5)
     | (go_at_call 32
        refine (CS.out _ (a0D HB1.out ‹jB W _›)).mono ?_;rintro e w6 ⟨rfl,rfl⟩)
     | (go_at_call 105
        refine (CG2.out _ (a0D HB1.out ‹jB W _›)).mono ?_;rintro e w7 ⟨rfl,hb7⟩;have HB7:=jH (a0D ‹jB W _› hb7);clear hb7))
   all_goals
     refine a0Y ?_;intro W8 hW8;have hb8:jB W W8:=by rw [hW8];first|exact HB7.out|exact HB7.out.drew|exact a0G HB7.out _
     have HX8:=jH (jK hb8 HX1.out);have HB8:=jH (a0D HB1.out hb8);obtain ⟨y1,y2,y3⟩:=a0A jR HX8.out;unfold zR at y1;clear hW8 hb8 rk0 rk1;go_wp2
     refine a0H ?_;intro W9 hW9;have hW9':W9=c0T W8 (w.heap.size+1) 0 (b0E (a0R 5)):=hW9;obtain ⟨t1,t2,t3,t4⟩:=a0M HX8.out (b0E (a0R 5)) rfl W9 hW9';obtain ⟨a9,a8,a7⟩:=a0A jR t1;clear hW9 hW9';exact bodyPost_ret (v:=a0X (a0R 5)) (by simp [results,Tryz.results87,go_sem,a9,a0X,b0E,a0R,st0,b0O]) rfl ⟨by rw [HRR.out],HB8.out.trans (t4 _ (by omega))⟩
 | some b =>
   rw [hf] at hfd CG;obtain ⟨y,hy,hsame⟩:=hfd;have hnode:=hsk.at_.node _ (b0B hf);have CP:=jH (fun W (hW:jB w W)=>l0N b.1 b.2.1 rs rh b.2.2 W (hnode.below hW) hrh);have hrr:r=match y.past.getLast? with|none=>a0R 0|some a=>⟨0,0,0,st0,a⟩:=by rw [hr];unfold i1P;rw [hy];first|done|rfl
   have hpl:y.past.length≤64:=by rw [←hsame.2.1];exact Nat.le_trans hnode.ok.past hrh
   rw [hsame.2.1] at CP;have CG3:=jH (show ∀W,jB w W→Calls Tryz.prog 105 #[.pointer (some ⟨s.T,0,none⟩),.agg #[.int .u64 k.1,.int .u64 k.2]] W (jP W (.pointer (some ⟨b.1,0,none⟩))) from CG.out);generalize y.past=l at CP hrr hpl;generalize b.1=N at CP CG3;clear h hr hs hR hsk hf CG hld hri hy hsame hnode
   by_cases h0:0<l.length
   · obtain ⟨m,hm⟩:∃m,m=l.length - 1:=⟨_,rfl⟩
     have hlt:m<l.length:=by omega
     have hrr2:r=⟨0,0,0,st0,l[m]⟩:=by
      rw [hrr,n0U h0];simp only [hm]
     have z9:¬((l.length:Nat):Int)=0:=by omega
     have z7:(((l.length:Nat):Int) == 0)=false:=beq_eq_false_iff_ne.2 z9;have hw:wrap64 ((m:Nat):Int)=(m:Nat):=by unfold wrap64;omega
     have hw2:((l.length:Nat) - 1:Int)=(m:Nat):=by omega
     have z1:(0:Int)≤(m:Int):=by omega
     have z2:(m:Int)<(l.length:Int):=by omega
     have HLT:=jH hlt;clear hrr hm h0
     go_enter Tryz.func87,Tryz.ntmps87
     go_wp2_with fail
     refine a0J ?_;intro W hW;have HB1:=jH (show jB w W by rw [hW];exact a0C (a0C jR _) _);have HX0:=jH (show W.heap[w.heap.size]?=some (.cells #[.int .u64 k.1,.int .u64 k.2] 74 (0,0)) by rw [hW];exact d0V _ _ _);have HX1:=jH (show W.heap[w.heap.size+1]?=some (.cells zR.toArray 46 (0,0)) by rw [hW];exact c0G _ _ _);clear hW;have rk0:∀U,jB W U→U.cell? ⟨w.heap.size,0,none⟩=some (.int .u64 k.1):=fun U hU=>(a0A hU HX0.out).1 0
     have rk1:∀U,jB W U→U.cell? ⟨w.heap.size,1,none⟩=some (.int .u64 k.2):=fun U hU=>(a0A hU HX0.out).1 1
     have hS00:jB W W:=jR;have hS0:jB W W.drew:=hS00.drew
     go_region_held3 (fun U=>jB W U)
       (first
         | with_reducible exact hS0
         | with_reducible exact HB7.out
         | with_reducible exact HB5.out
         | with_reducible exact hS00)
       (first
       | (go_at_call 30
          refine (CH.out _ (a0D HB1.out ‹jB W _›)).mono ?_;rintro e w5 ⟨rfl,hb5⟩;have HB5:=jH (a0D ‹jB W _› hb5);clear hb5)
       | (go_at_call 32
          refine (CS.out _ (a0D HB1.out ‹jB W _›)).mono ?_;rintro e w6 ⟨rfl,rfl⟩)
       | (go_at_call 105
          refine (CG3.out _ (a0D HB1.out ‹jB W _›)).mono ?_;rintro e w7 ⟨rfl,hb7⟩;have HB7:=jH (a0D ‹jB W _› hb7);clear hb7))
     all_goals
       refine a0Y ?_;intro W8 hW8;have hb8:jB W W8:=by rw [hW8];first|exact HB7.out|exact HB7.out.drew|exact a0G HB7.out _
       have HX8:=jH (jK hb8 HX1.out);have HB8:=jH (a0D HB1.out hb8);obtain ⟨y1,y2,y3⟩:=a0A jR HX8.out;unfold zR at y1;clear hW8 hb8 rk0 rk1
       go_wp2_with (first
        | (go_at_call 108
           refine (CP.out W8 HB8.out).mono ?_;rintro e w9 ⟨A9,c9,fp9,rfl,hr9,_,hb9⟩;have HB9:=jH (a0D HB8.out hb9);have HX9:=jH (jK hb9 HX8.out);obtain ⟨y1,y2,y3⟩:=a0A jR HX9.out;unfold zR at y1;have HR9:=jH (hr9.row p0Q);obtain ⟨bb,o,hA,hbb,hcc⟩:=HR9.out.at_ HLT.out;subst hA;have c0:=hcc 0 _ rfl;have c1:=hcc 1 _ rfl;have c2:=hcc 2 _ rfl;have c3:=hcc 3 _ rfl;have c4:=hcc 4 _ rfl;rw [Nat.add_zero] at c0
           have HRR:=jH hrr2;generalize l[m]=a at c0 c1 c2 c3 c4 HRR;clear hcc;clear hr9 hb9))
       refine a0H ?_;intro W9 hW9;have hW9':W9=c0T w9 (w.heap.size+1) 0 (b0E ⟨0,0,0,st0,a⟩):=hW9;obtain ⟨t1,t2,t3,t4⟩:=a0M HX9.out (b0E ⟨0,0,0,st0,a⟩) rfl W9 hW9';obtain ⟨a9,a8,a7⟩:=a0A jR t1;clear hW9 hW9';exact bodyPost_ret (v:=a0X ⟨0,0,0,st0,a⟩) (by simp [results,Tryz.results87,go_sem,a9,a0X,b0E,a0R,st0,b0O]) rfl ⟨by rw [HRR.out],HB9.out.trans (t4 _ (by omega))⟩
   · have hz:l=[]:=List.length_eq_zero_iff.1 (by omega)
     subst hz;have HRR:=jH (show r=a0R 0 from hrr);clear hrr h0
     go_enter Tryz.func87,Tryz.ntmps87
     go_wp2_with fail
     refine a0J ?_;intro W hW;have HB1:=jH (show jB w W by rw [hW];exact a0C (a0C jR _) _);have HX0:=jH (show W.heap[w.heap.size]?=some (.cells #[.int .u64 k.1,.int .u64 k.2] 74 (0,0)) by rw [hW];exact d0V _ _ _);have HX1:=jH (show W.heap[w.heap.size+1]?=some (.cells zR.toArray 46 (0,0)) by rw [hW];exact c0G _ _ _);clear hW;have rk0:∀U,jB W U→U.cell? ⟨w.heap.size,0,none⟩=some (.int .u64 k.1):=fun U hU=>(a0A hU HX0.out).1 0
     have rk1:∀U,jB W U→U.cell? ⟨w.heap.size,1,none⟩=some (.int .u64 k.2):=fun U hU=>(a0A hU HX0.out).1 1
     have hS00:jB W W:=jR;have hS0:jB W W.drew:=hS00.drew
     go_region_held3 (fun U=>jB W U)
       (first
         | with_reducible exact hS0
         | with_reducible exact HB7.out
         | with_reducible exact HB5.out
         | with_reducible exact hS00)
       (first
       | (go_at_call 30
          refine (CH.out _ (a0D HB1.out ‹jB W _›)).mono ?_;rintro e w5 ⟨rfl,hb5⟩;have HB5:=jH (a0D ‹jB W _› hb5);clear hb5)
       | (go_at_call 32
          refine (CS.out _ (a0D HB1.out ‹jB W _›)).mono ?_;rintro e w6 ⟨rfl,rfl⟩)
       | (go_at_call 105
          refine (CG3.out _ (a0D HB1.out ‹jB W _›)).mono ?_;rintro e w7 ⟨rfl,hb7⟩;have HB7:=jH (a0D ‹jB W _› hb7);clear hb7))
     all_goals
       refine a0Y ?_;intro W8 hW8;have hb8:jB W W8:=by rw [hW8];first|exact HB7.out|exact HB7.out.drew|exact a0G HB7.out _
       have HX8:=jH (jK hb8 HX1.out);have HB8:=jH (a0D HB1.out hb8);obtain ⟨y1,y2,y3⟩:=a0A jR HX8.out;unfold zR at y1;clear hW8 hb8 rk0 rk1
       go_wp2_with (first
        | (go_at_call 108
           refine (CP.out W8 HB8.out).mono ?_;rintro e w9 ⟨A9,c9,fp9,rfl,hr9,_,hb9⟩;have HB9:=jH (a0D HB8.out hb9);have HX9:=jH (jK hb9 HX8.out);obtain ⟨y1,y2,y3⟩:=a0A jR HX9.out;unfold zR at y1;have HR9:=jH (hr9.row p0Q)
           skip;clear hr9 hb9))
       refine a0H ?_;intro W9 hW9;have hW9':W9=c0T w9 (w.heap.size+1) 0 (b0E (a0R 0)):=hW9;obtain ⟨t1,t2,t3,t4⟩:=a0M HX9.out (b0E (a0R 0)) rfl W9 hW9';obtain ⟨a9,a8,a7⟩:=a0A jR t1;clear hW9 hW9';exact bodyPost_ret (v:=a0X (a0R 0)) (by simp [results,Tryz.results87,go_sem,a9,a0X,b0E,a0R,st0,b0O]) rfl ⟨by rw [HRR.out],HB9.out.trans (t4 _ (by omega))⟩
end
end
end
section
open Go
section
section
variable {P:Program} {ops:Array Oper} {Q:Exit→Act→World→Prop} {md:Region.Mode} {S:World→Prop} {k:Nat}
def h0G (P:Program) (md:Region.Mode) (ops:Array Oper) (Q:Exit→Act→World→Prop) (S:World→Prop) (k:Nat):Nat→Array Bool→Act→World→Prop
  | 0,listed,a,w=>Region.ready md ops listed=[]∧Q .normal a w
  | fuel+1,listed,a,w =>
    (Region.ready md ops listed=[]→Q .normal a w) ∧
    ∀i∈Region.ready md ops listed,wpOp P ops Q i (fun a' w'=>((listed.setIfInBounds i true).getD k true=false→S w')∧h0G P md ops Q S k fuel (listed.setIfInBounds i true) a' w') a w
theorem o0X:∀(fuel:Nat) (listed:Array Bool) (a:Act) (w:World),h0G P md ops Q S k fuel listed a w→wpAny P md ops Q fuel listed a w
  | 0,_,_,_,h=>h
  | fuel+1,_,_,_,h=>⟨h.1,fun i hi=>wpOp_mono (fun a' w' h'=>o0X fuel _ a' w' h'.2) (h.2 i hi)⟩
def q0W (md:Region.Mode) (ops:Array Oper) (i:Nat):List Nat :=
 (List.range ops.size).foldl (fun W j=>if (match ops[j]? with|some o=>o.after.any (fun e=>Region.binds md e && (e.on == i || W.contains e.on))|none=>false)=true then j::W else W) []
def n1O (md:Region.Mode) (ops:Array Oper) (W:List Nat) (i:Nat):Bool:=W.all fun j=>match ops[j]? with|some o=>o.after.any (fun e=>Region.binds md e && (e.on == i || W.contains e.on))|none=>false
theorem s0Y {i:Nat} {oi:Oper} {v:Value} {W:List Nat} (hi:ops[i]?=some oi) (hik:i≠k) (hsel:∀(j:Nat) (o:Oper) cs b,ops[j]?=some o→o.op≠.select cs b)
    (hQ:∀c a w,Q (.panic c) (a.put oi.dst v) w→Q (.panic c) a w) (hkW:k∈W) (hw:n1O md ops W i=true) :
    ∀ (fuel:Nat) (listed:Array Bool) (a:Act) (w:World),
      (∀j oj,ops[j]?=some oj→j≠i→listed.getD j true=false→(∀e∈oj.after,Region.binds md e=true→e.on≠i)→oi.apart ops oj=true) →
      i∈Region.ready md ops listed→(∀j∈W,listed.getD j true=false)→YieldsIf P ops S oi v a→S w →
      h0G P md ops Q S k fuel (listed.setIfInBounds i true) (a.put oi.dst v) w→h0G P md ops Q S k (fuel+1) listed a w:=by
  intro fuel
  induction fuel with
  | zero =>
    intro listed a w _ hr _ hy hS H;refine ⟨fun h=>(by rw [h] at hr;cases hr),fun j hj=>?_⟩
    by_cases hji:j=i
    · subst hji;exact hy.wpOp hi hS ⟨fun _=>hS,H⟩
    · have:=ready_mono hj hji
      rw [H.1] at this
      cases this
  | succ fuel ih =>
    intro listed a w hfree hr hWl hy hS H;refine ⟨fun h=>(by rw [h] at hr;cases hr),fun j hj=>?_⟩
    by_cases hji:j=i
    · subst hji;exact hy.wpOp hi hS ⟨fun _=>hS,H⟩
    · have h1:=H.2 j (ready_mono hj hji)
      obtain ⟨hjun,oj,hoj,hall⟩:=mem_ready.1 hj;have hlist:∀e∈oj.after,Region.binds md e=true→listed.getD e.on true=true:=fun e he hb=>by
       have h1:=hall e he hb
       rcases Nat.lt_or_ge e.on listed.size with h'|h'
       · simpa [h'] using h1
       · simp [Array.getElem?_eq_none h'] at h1 ⊢
      have hiun:listed.getD i true=false:=(mem_ready.1 hr).1;have hnot:∀e∈oj.after,Region.binds md e=true→e.on≠i:=fun e he hb heq=>by
       have h1:=hlist e he hb;rw [heq,hiun] at h1
       cases h1
      have hjW:j∉W:=fun hm=>by
       have h2:=List.all_eq_true.1 hw j hm;rw [hoj] at h2;simp only [Array.any_eq_true'] at h2
       obtain ⟨e,he,hb⟩:=h2;simp only [Bool.and_eq_true,Bool.or_eq_true,beq_iff_eq,List.contains_iff_mem] at hb
       have h3:=hlist e he hb.1
       rcases hb.2 with h4|h4
       · exact hnot e he hb.1 h4
       · rw [hWl _ h4] at h3;cases h3
      have hjk:j≠k:=fun e=>hjW (e ▸ hkW)
      have h2:=wpOp_putIf hoj (hfree j oj hoj hji hjun hnot) (fun cs b=>hsel i oi cs b hi) (fun cs b=>hsel j oj cs b hoj) hQ hy h1
      have hfree':∀k ok,ops[k]?=some ok→k≠i→(listed.setIfInBounds j true).getD k true=false →
          (∀e∈ok.after,Region.binds md e=true→e.on≠i)→oi.apart ops ok=true:=fun k ok hk hki hun hno=>by
        refine hfree k ok hk hki ?_ hno
        by_cases hjk:j=k
        · subst hjk;exact hjun
        · rw [getD_set_ne true hjk] at hun;exact hun
      have hWl':∀j'∈W,(listed.setIfInBounds j true).getD j' true=false:=fun j' hj'=>by
       have hne:j≠j':=fun e=>hjW (by rw [e];exact hj')
       rw [getD_set_ne true hne];exact hWl j' hj'
      have hc:((listed.setIfInBounds i true).setIfInBounds j true).getD k true=false:=by
       rw [Array.setIfInBounds_comm _ _ (Ne.symm hji),getD_set_ne true hik];exact hWl' k hkW
      refine wpOp_mono (fun a' w' h3=>⟨fun _=>h3.2.1 hc,ih (listed.setIfInBounds j true) a' w' hfree' (ready_mono hr (Ne.symm hji)) hWl' h3.1 (h3.2.1 hc) ?_⟩) h2;rw [Array.setIfInBounds_comm _ _ hji];exact h3.2.2
def o1B (md:Region.Mode) (ops:Array Oper) (listed:Array Bool) (k i:Nat):Bool :=
 decide (i≠k) && (q0W md ops i).contains k && n1O md ops (q0W md ops i) i && (q0W md ops i).all fun j=>listed.getD j true == false
theorem a0P {i:Nat} {oi:Oper} {v:Value} {fuel:Nat} {listed:Array Bool} {a:Act} {w:World} (hi:ops[i]?=some oi)
    (hs:Region.noSelect ops=true) (hf:Region.free md ops listed i=true) (hr:(Region.ready md ops listed).contains i=true) (hw:o1B md ops listed k i=true)
    (hQ:∀c a w,Q (.panic c) (a.put oi.dst v) w→Q (.panic c) a w) (hy:YieldsIf P ops S oi v a) (hS:S w)
    (h:h0G P md ops Q S k fuel (listed.setIfInBounds i true) (a.put oi.dst v) w):h0G P md ops Q S k (fuel+1) listed a w:=by
  simp only [o1B,Bool.and_eq_true,decide_eq_true_eq,List.contains_iff_mem,List.all_eq_true,beq_iff_eq] at hw
  obtain ⟨⟨⟨h1,h2⟩,h3⟩,h4⟩:=hw;exact s0Y hi h1 (Region.noSelect_spec hs) hQ h2 h3 fuel listed a w (Region.free_spec hi hf) (by simpa using hr) h4 hy hS h
theorem c0V {i:Nat} {o:Oper} {fuel:Nat} {listed:Array Bool} {a:Act} {w:World} (hr:Region.ready md ops listed=[i]) (ho:ops[i]?=some o)
    (h:∀K':Act→World→Prop,Shut (∀a w,((listed.setIfInBounds i true).getD k true=false→S w)→(((listed.setIfInBounds i true).getD k true=false→S w)→h0G P md ops Q S k fuel (listed.setIfInBounds i true) a w)→K' a w)→if Region.wanted o (yielded ops a.tmps)=true then Oper.wp P o a w K' Q else K' (a.put o.dst undef) w) :
    h0G P md ops Q S k (fuel+1) listed a w:=by
  refine ⟨fun h0=>(by rw [hr] at h0;cases h0),fun j hj=>?_⟩;rw [hr] at hj;obtain rfl:=List.mem_singleton.1 hj;have h2:=h (fun a' w'=>((listed.setIfInBounds j true).getD k true=false→S w')∧h0G P md ops Q S k fuel (listed.setIfInBounds j true) a' w') (fun a w h1 h2=>⟨h1,h2 h1⟩);unfold Go.wpOp;simp only [ho]
  split
  · rename_i hw
    rw [if_pos hw] at h2;exact Or.inl h2
  · rename_i hw
    rw [if_neg hw] at h2;exact h2
theorem i0R {listed:Array Bool} {a:Act} {w:World} (hr:Region.ready md ops listed=[]) (h:Q .normal a w) :
 ∀fuel,h0G P md ops Q S k fuel listed a w
 | 0=>⟨hr,h⟩
 | _+1=>⟨fun _=>h,by rw [hr];simp⟩
theorem j0A {id:Nat} {a:Act} {w:World} (k:Nat) (hm:P.follows .mixedOrders=true) (hS:S w.drew)
    (h:S w.drew→h0G P .any ops Q S k ops.size (Array.replicate ops.size false) a w.drew):(Code.region id ops true).wp P Q a w :=
  wp_region_any hm (o0X _ _ _ _ (h hS))
end
end
end
end Go.Proofs.YtmniiodpbebnmaaGreat
