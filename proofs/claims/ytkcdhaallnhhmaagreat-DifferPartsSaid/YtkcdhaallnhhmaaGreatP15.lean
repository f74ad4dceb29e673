/- Part 15 of the proof: R18B, NPast, Win, Stor, HeldE. -/
import Derived.Lib.MinMax
import Derived.Deep.RegionHeld
import Derived.Test.YtkcdhaallnhhmaaGreatP14
namespace Go.Proofs.YtkcdhaallnhhmaaGreat
set_option linter.unusedSimpArgs false
set_option linter.unusedVariables false
set_option linter.unusedSectionVars false
set_option maxRecDepth 100000
set_option maxHeartbeats 16000000
section
open Go.RowKit Go.Lib Go.Sort
def outI (l:List It) (k:Ky) (y:Nd):List (Ky × Nd):=(l.map absI).take (atI l k)++[(k,y)]++(l.map absI).drop (if hasI l k=true then atI l k+1 else atI l k)
end
section
open Go.RowKit Go.Lib Go.Shelf
attribute [local go_sem] Oper.semAt_some
end
section
open Go.RowKit Go.Lib
theorem eNm:EltOf 135 2 1 8 (.int .i64 0) nmC :=
 ⟨by kernel_rfl,by kernel_rfl,rfl,by decide,by decide,fun _=>rfl,fun x u hu=>by
  simp only [nmC,List.mem_cons,List.not_mem_nil,or_false] at hu
  rcases hu with rfl
  rfl⟩
theorem satSub_any (a b:Int) (w:World) (ha:I64 a) (hb:I64 b) :
 Calls Tryz.prog 203 #[.int .i64 a,.int .i64 b] w fun e w'=>e=.returned (.int .i64 (endsI (a - b)))∧w=w':=by
 by_cases h:b = -9223372036854775808
 · subst h
   obtain ⟨s,hs⟩:∃s,s=endsI (a+9223372036854775807):=⟨_,rfl⟩;obtain ⟨t,ht⟩:∃t:Int,t=if decide (a<0)=true then 1 else 0:=⟨_,rfl⟩;have HE:=jH (show endsI (s+t)=endsI (a - -9223372036854775808) by rw [hs,ht];exact sub_end ha _ rfl);have HT:=jH ht;have HS:=jH (show I64 s by rw [hs];exact endsI_i64 _);have HS2:=jH hs;have HA:=jH ha;have HTI:=jH (show I64 t by rw [ht];unfold I64;split <;> omega);clear hs ht ha hb
   go_enter Tryz.func203,Tryz.ntmps203
   go_wp2_with (first
    | (go_at_call 228
       refine (satBit_any _ _).mono ?_;rw [←HT.out];rintro e w1 ⟨rfl,rfl⟩;have HB:=jH True.intro)
    | (go_at_call 202
       have h9:=HB;refine (satAdd_any s t _ HS.out HTI.out).mono ?_;rw [HE.out];rintro e w1 ⟨rfl,rfl⟩;clear h9)
    | (go_at_call 202
       refine (satAdd_any a 9223372036854775807 _ HA.out (by unfold I64;omega)).mono ?_;rw [←HS2.out];rintro e w1 ⟨rfl,rfl⟩))
   go_ret
   exact ⟨rfl,rfl⟩
 · have HE:=jH (show endsI (a+IntKind.i64.wrap (-b))=endsI (a - b) from sub_ends ha hb h)
   have hn:I64 (-b):=by unfold I64 at *;omega
   have q1:wrap64 (-b) = -b:=by unfold I64 at hn;unfold wrap64;omega
   have q2:IntKind.i64.wrap (-b) = -b:=by unfold I64 at hn;rw [IntKind.wrap_i64];omega
   rw [q2] at HE;have HA:=jH ha;have HN:=jH hn;have q3:(b == -9223372036854775808)=false:=by simpa using h
   clear ha hb hn
   go_enter Tryz.func203,Tryz.ntmps203
   go_wp2_with (first
    | (go_at_call 202
       refine (satAdd_any a (-b) _ HA.out HN.out).mono ?_;rw [HE.out];rintro e w1 ⟨rfl,rfl⟩))
   go_ret
   exact ⟨rfl,rfl⟩
theorem winFrom_any (a b:Int) (w:World) (ha:I64 a) (hb:I64 b) :
 Calls Tryz.prog 169 #[.int .i64 a,.int .i64 b] w fun e w'=>e=.returned (.int .i64 (fromW a b))∧w=w':=by
 have C1:=jH (satSub_any a b w ha hb);have C2:=jH (satAdd_any (endsI (a - b)) 1 w (endsI_i64 _) (by unfold I64;omega));unfold fromW;generalize endsI (a - b)=s at C1 C2 ⊢;generalize endsI (s+1)=t at C2 ⊢;clear ha hb
 go_enter Tryz.func169,Tryz.ntmps169
 go_wp2_with (first
  | (go_at_call 203
     refine C1.out.mono ?_;rintro e w1 ⟨rfl,rfl⟩)
  | (go_at_call 202
     refine C2.out.mono ?_;rintro e w1 ⟨rfl,rfl⟩))
 go_ret
 exact ⟨rfl,rfl⟩
theorem satSum_any (v:Value) (l:List Int) (w:World) (hv:RowIn 1 nmC w v l) (hl:l.length≤1000000) (hi:∀n∈l,I64 n) :
 Calls Tryz.prog 198 #[v] w fun e w'=>e=.returned (.int .i64 (sumE l 0))∧w=w':=by
 obtain ⟨A,c,rfl⟩:=hv.form;have HV:=jH hv;have HI:=jH hi;have hl9:l.length≤9223372036854775807:=by omega
 clear hv hi
 go_enter Tryz.func198,Tryz.ntmps198
 go_wp2
 go_loopg [3,8] l.length (fun g s3 s8 wr=>∃k:Nat,k≤l.length∧l.length - k≤g∧s8=.int .i64 k∧s3=.int .i64 (sumE (l.take k) 0)∧w=wr)
 case atStart=>exact ⟨0,Nat.zero_le _,Nat.le_refl _,rfl,by simp [sumE],rfl⟩
 case round =>
  obtain ⟨k,hk,hg,rfl,rfl,rfl⟩:=hrel
  by_cases hlt:k<l.length
  · obtain ⟨b1,o1,rfl,hb1,hc⟩:=HV.out.at_ hlt
    have z1:(0:Int)≤(k:Int):=by omega
    have z2:(k:Int)<(l.length:Int):=by omega
    have HS:=jH (show sumE (l.take (k+1)) 0=endsI (sumE (l.take k) 0+l[k]) by rw [List.take_succ_eq_append_getElem hlt,sumE_snoc]);have d0:=hc 0 _ rfl;rw [Nat.add_zero,Nat.mul_one] at d0;have HN:=jH (satAdd_any (sumE (l.take k) 0) l[k] w (sumE_i64 _ _ i64_0) (HI.out _ (List.getElem_mem hlt)));rw [←HS.out] at HN;generalize sumE (l.take k) 0=s at HN ⊢;generalize l[k]=x at HN d0;clear hc HS
    go_wp2_with (first
     | (go_at_call 202
        refine HN.out.mono ?_;rintro e w1 ⟨rfl,rfl⟩))
    go_roundg (l.length - (k+1))
    case measure=>omega
    case rel=>exact ⟨k+1,hlt,Nat.le_refl _,by go_num,rfl,rfl⟩
  · obtain rfl:k=l.length:=by omega
    rw [List.take_length];go_wp2
    go_ret
    exact ⟨rfl,rfl⟩
end
section
open Go.RowKit Go.Lib
def stor (w:World) (B i:Nat):List Value→World
  | []=>w
  | v::vs=>stor (w.setCell ⟨B,i,none⟩ v) B (i+1) vs
theorem stor_one {w:World} {B i:Nat} {cs:Array Value} {T:TypeId} {fr:Nat × Nat} {v:Value} (h:w.heap[B]?=some (.cells cs T fr)):(w.setCell ⟨B,i,none⟩ v).heap[B]?=some (.cells (cs.setIfInBounds i v) T fr):=by
 obtain ⟨hlt,hk⟩:=Array.getElem?_eq_some_iff.1 h
 show (w.heap.modify B _)[B]?=_
 rw [Array.getElem?_eq_getElem (by rw [Array.size_modify];exact hlt),Array.getElem_modify_self,hk];simp
theorem stor_other {w:World} {B i k:Nat} {v:Value} (h:k≠B):(w.setCell ⟨B,i,none⟩ v).heap[k]?=w.heap[k]?:=by
 show (w.heap.modify B _)[k]?=_
 by_cases hk:k<w.heap.size
 · rw [Array.getElem?_eq_getElem (by rw [Array.size_modify];exact hk),Array.getElem_modify_of_ne (Ne.symm h),Array.getElem?_eq_getElem hk]
 · rw [Array.getElem?_eq_none (by rw [Array.size_modify];omega),Array.getElem?_eq_none (by omega)]
theorem stor_all:∀(vs:List Value) (w:World) (B i:Nat) (cs:Array Value) (T:TypeId),w.heap[B]?=some (.cells cs T (0,0))→cs.size=i+vs.length →
    (stor w B i vs).heap[B]?=some (.cells ((cs.toList.take i++vs).toArray) T (0,0))∧(∀k,k≠B→(stor w B i vs).heap[k]?=w.heap[k]?)∧(stor w B i vs).heap.size=w.heap.size∧∀n,n≤B→Below n w (stor w B i vs):=by
  intro vs
  induction vs with
  | nil =>
    intro w B i cs T h hn;refine ⟨?_,fun _ _=>rfl,rfl,fun n _=>jR⟩;simp only [List.length_nil,Nat.add_zero] at hn
    rw [stor,h,List.append_nil,List.take_of_length_le (by simp;omega)]
  | cons v vs ih =>
    intro w B i cs T h hn;simp only [List.length_cons] at hn
    have h1:=stor_one (i:=i) (v:=v) h;obtain ⟨a1,a2,a3,a4⟩:=ih (w.setCell ⟨B,i,none⟩ v) B (i+1) _ T h1 (by simp;omega);refine ⟨?_,fun k hk=>(a2 k hk).trans (stor_other hk),a3.trans (by simp [World.setCell]),fun n hn=>(jR.setCell hn _).trans (a4 n hn)⟩;rw [stor,a1]
    congr 3
    rw [Array.toList_setIfInBounds,List.take_add_one,List.take_set_of_le (Nat.le_refl _)];rw [List.getElem?_set_self (by simp;omega)];simp
theorem stor_at {w:World} {B:Nat} {cs:Array Value} {T:TypeId} (h:w.heap[B]?=some (.cells cs T (0,0))) (vs:List Value) (hn:cs.size=vs.length):∀W,W=stor w B 0 vs →
    W.heap[B]?=some (.cells vs.toArray T (0,0))∧(∀k,k≠B→W.heap[k]?=w.heap[k]?)∧W.heap.size=w.heap.size∧∀n,n≤B→Below n w W:=by
  rintro W rfl;have:=stor_all vs w B 0 cs T h (by omega)
  simpa using this
end
section
open Go
section
variable {P:Program} {ops:Array Oper} {Q:Exit→Act→World→Prop} {md:Region.Mode} {S:World→Prop} {k:Nat}
def wpAnyE (P:Program) (md:Region.Mode) (ops:Array Oper) (Q:Exit→Act→World→Prop) (S:World→Prop) (k:Nat):Nat→Array Bool→Act→World→Prop
  | 0,listed,a,w=>Region.ready md ops listed=[]∧Q .normal a w
  | fuel+1,listed,a,w =>
    (Region.ready md ops listed=[]→Q .normal a w) ∧
    ∀i∈Region.ready md ops listed,wpOp P ops Q i (fun a' w'=>((listed.setIfInBounds i true).getD k true=false→S w')∧wpAnyE P md ops Q S k fuel (listed.setIfInBounds i true) a' w') a w
theorem wpAny_of_E:∀(fuel:Nat) (listed:Array Bool) (a:Act) (w:World),wpAnyE P md ops Q S k fuel listed a w→wpAny P md ops Q fuel listed a w
  | 0,_,_,_,h=>h
  | fuel+1,_,_,_,h=>⟨h.1,fun i hi=>wpOp_mono (fun a' w' h'=>wpAny_of_E fuel _ a' w' h'.2) (h.2 i hi)⟩
def waitersE (md:Region.Mode) (ops:Array Oper) (i:Nat):List Nat :=
 (List.range ops.size).foldl (fun W j=>if (match ops[j]? with|some o=>o.after.any (fun e=>Region.binds md e && (e.on == i || W.contains e.on))|none=>false)=true then j::W else W) []
def waitsE (md:Region.Mode) (ops:Array Oper) (W:List Nat) (i:Nat):Bool:=W.all fun j=>match ops[j]? with|some o=>o.after.any (fun e=>Region.binds md e && (e.on == i || W.contains e.on))|none=>false
theorem wpAnyE_first {i:Nat} {oi:Oper} {v:Value} {W:List Nat} (hi:ops[i]?=some oi) (hik:i≠k) (hsel:∀(j:Nat) (o:Oper) cs b,ops[j]?=some o→o.op≠.select cs b)
    (hQ:∀c a w,Q (.panic c) (a.put oi.dst v) w→Q (.panic c) a w) (hkW:k∈W) (hw:waitsE md ops W i=true) :
    ∀ (fuel:Nat) (listed:Array Bool) (a:Act) (w:World),
      (∀j oj,ops[j]?=some oj→j≠i→listed.getD j true=false→(∀e∈oj.after,Region.binds md e=true→e.on≠i)→oi.apart ops oj=true) →
      i∈Region.ready md ops listed→(∀j∈W,listed.getD j true=false)→YieldsIf P ops S oi v a→S w →
      wpAnyE P md ops Q S k fuel (listed.setIfInBounds i true) (a.put oi.dst v) w→wpAnyE P md ops Q S k (fuel+1) listed a w:=by
  intro fuel
  induction fuel with
  | zero =>
    intro listed a w _ hr _ hy hS H;refine ⟨fun h=>(by rw [h] at hr;cases hr),fun j hj=>?_⟩
    by_cases hji:j=i
    · subst hji;exact hy.wpOp hi hS ⟨fun _=>hS,H⟩
    · have:=ready_mono hj hji
      rw [H.1] at this
      cases this
  | succ fuel ih =>
    intro listed a w hfree hr hWl hy hS H;refine ⟨fun h=>(by rw [h] at hr;cases hr),fun j hj=>?_⟩
    by_cases hji:j=i
    · subst hji;exact hy.wpOp hi hS ⟨fun _=>hS,H⟩
    · have h1:=H.2 j (ready_mono hj hji)
      obtain ⟨hjun,oj,hoj,hall⟩:=mem_ready.1 hj;have hlist:∀e∈oj.after,Region.binds md e=true→listed.getD e.on true=true:=fun e he hb=>by
       have h1:=hall e he hb
       rcases Nat.lt_or_ge e.on listed.size with h'|h'
       · simpa [h'] using h1
       · simp [Array.getElem?_eq_none h'] at h1 ⊢
      have hiun:listed.getD i true=false:=(mem_ready.1 hr).1;have hnot:∀e∈oj.after,Region.binds md e=true→e.on≠i:=fun e he hb heq=>by
       have h1:=hlist e he hb;rw [heq,hiun] at h1
       cases h1
      have hjW:j∉W:=fun hm=>by
       have h2:=List.all_eq_true.1 hw j hm;rw [hoj] at h2;simp only [Array.any_eq_true'] at h2
       obtain ⟨e,he,hb⟩:=h2;simp only [Bool.and_eq_true,Bool.or_eq_true,beq_iff_eq,List.contains_iff_mem] at hb
       have h3:=hlist e he hb.1
       rcases hb.2 with h4|h4
       · exact hnot e he hb.1 h4
       · rw [hWl _ h4] at h3;cases h3
      have hjk:j≠k:=fun e=>hjW (e ▸ hkW)
      have h2:=wpOp_putIf hoj (hfree j oj hoj hji hjun hnot) (fun cs b=>hsel i oi cs b hi) (fun cs b=>hsel j oj cs b hoj) hQ hy h1
      have hfree':∀k ok,ops[k]?=some ok→k≠i→(listed.setIfInBounds j true).getD k true=false →
          (∀e∈ok.after,Region.binds md e=true→e.on≠i)→oi.apart ops ok=true:=fun k ok hk hki hun hno=>by
        refine hfree k ok hk hki ?_ hno
        by_cases hjk:j=k
        · subst hjk;exact hjun
        · rw [getD_set_ne true hjk] at hun;exact hun
      have hWl':∀j'∈W,(listed.setIfInBounds j true).getD j' true=false:=fun j' hj'=>by
       have hne:j≠j':=fun e=>hjW (by rw [e];exact hj')
       rw [getD_set_ne true hne];exact hWl j' hj'
      have hc:((listed.setIfInBounds i true).setIfInBounds j true).getD k true=false:=by
       rw [Array.setIfInBounds_comm _ _ (Ne.symm hji),getD_set_ne true hik];exact hWl' k hkW
      refine wpOp_mono (fun a' w' h3=>⟨fun _=>h3.2.1 hc,ih (listed.setIfInBounds j true) a' w' hfree' (ready_mono hr (Ne.symm hji)) hWl' h3.1 (h3.2.1 hc) ?_⟩) h2;rw [Array.setIfInBounds_comm _ _ hji];exact h3.2.2
def takesE (md:Region.Mode) (ops:Array Oper) (listed:Array Bool) (k i:Nat):Bool :=
 decide (i≠k) && (waitersE md ops i).contains k && waitsE md ops (waitersE md ops i) i && (waitersE md ops i).all fun j=>listed.getD j true == false
theorem wpAnyE_take {i:Nat} {oi:Oper} {v:Value} {fuel:Nat} {listed:Array Bool} {a:Act} {w:World} (hi:ops[i]?=some oi)
    (hs:Region.noSelect ops=true) (hf:Region.free md ops listed i=true) (hr:(Region.ready md ops listed).contains i=true) (hw:takesE md ops listed k i=true)
    (hQ:∀c a w,Q (.panic c) (a.put oi.dst v) w→Q (.panic c) a w) (hy:YieldsIf P ops S oi v a) (hS:S w)
    (h:wpAnyE P md ops Q S k fuel (listed.setIfInBounds i true) (a.put oi.dst v) w):wpAnyE P md ops Q S k (fuel+1) listed a w:=by
  simp only [takesE,Bool.and_eq_true,decide_eq_true_eq,List.contains_iff_mem,List.all_eq_true,beq_iff_eq] at hw
  obtain ⟨⟨⟨h1,h2⟩,h3⟩,h4⟩:=hw;exact wpAnyE_first hi h1 (Region.noSelect_spec hs) hQ h2 h3 fuel listed a w (Region.free_spec hi hf) (by simpa using hr) h4 hy hS h
theorem wpAnyE_one {i:Nat} {o:Oper} {fuel:Nat} {listed:Array Bool} {a:Act} {w:World} (hr:Region.ready md ops listed=[i]) (ho:ops[i]?=some o)
    (h:∀K':Act→World→Prop,Shut (∀a w,((listed.setIfInBounds i true).getD k true=false→S w)→(((listed.setIfInBounds i true).getD k true=false→S w)→wpAnyE P md ops Q S k fuel (listed.setIfInBounds i true) a w)→K' a w)→if Region.wanted o (yielded ops a.tmps)=true then Oper.wp P o a w K' Q else K' (a.put o.dst undef) w) :
    wpAnyE P md ops Q S k (fuel+1) listed a w:=by
  refine ⟨fun h0=>(by rw [hr] at h0;cases h0),fun j hj=>?_⟩;rw [hr] at hj;obtain rfl:=List.mem_singleton.1 hj;have h2:=h (fun a' w'=>((listed.setIfInBounds j true).getD k true=false→S w')∧wpAnyE P md ops Q S k fuel (listed.setIfInBounds j true) a' w') (fun a w h1 h2=>⟨h1,h2 h1⟩);unfold Go.wpOp;simp only [ho]
  split
  · rename_i hw
    rw [if_pos hw] at h2;exact Or.inl h2
  · rename_i hw
    rw [if_neg hw] at h2;exact h2
theorem wpAnyE_done {listed:Array Bool} {a:Act} {w:World} (hr:Region.ready md ops listed=[]) (h:Q .normal a w) :
 ∀fuel,wpAnyE P md ops Q S k fuel listed a w
 | 0=>⟨hr,h⟩
 | _+1=>⟨fun _=>h,by rw [hr];simp⟩
theorem wp_region_E {id:Nat} {a:Act} {w:World} (k:Nat) (hm:P.follows .mixedOrders=true) (hS:S w.drew)
    (h:S w.drew→wpAnyE P .any ops Q S k ops.size (Array.replicate ops.size false) a w.drew):(Code.region id ops true).wp P Q a w :=
  wp_region_any hm (wpAny_of_E _ _ _ _ (h hS))
end
end
end Go.Proofs.YtkcdhaallnhhmaaGreat
