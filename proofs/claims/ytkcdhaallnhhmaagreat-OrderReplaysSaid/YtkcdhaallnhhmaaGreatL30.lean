/- Part 30 of the proof: HeldE, ShIter, NumX, Mean16, FlAw, FlDecP. -/
import Derived.Shelf.SlIter.Nil
import Derived.Shelf.SortM.Plain
import Derived.Shelf.SortM.SortNone
import Derived.Maps.RangeWalk
import Derived.KernelRfl
import Derived.Test.YtkcdhaallnhhmaaGreatL24
import Derived.Test.YtkcdhaallnhhmaaGreatL26
import Derived.Test.YtkcdhaallnhhmaaGreatL28
namespace Go.Proofs.YtkcdhaallnhhmaaGreat
set_option linter.unusedSimpArgs false
set_option linter.unusedVariables false
set_option linter.unusedSectionVars false
set_option maxRecDepth 100000
set_option maxHeartbeats 16000000
section
open Go
section
variable {P:Program} {ops:Array Oper} {Q:Exit→Act→World→Prop} {md:Region.Mode} {S:World→Prop} {k:Nat}
def wpAnyE (P:Program) (md:Region.Mode) (ops:Array Oper) (Q:Exit→Act→World→Prop) (S:World→Prop) (k:Nat):Nat→Array Bool→Act→World→Prop
  | 0,listed,a,w=>Region.ready md ops listed=[]∧Q .normal a w
  | fuel+1,listed,a,w =>
    (Region.ready md ops listed=[]→Q .normal a w) ∧
    ∀i∈Region.ready md ops listed,wpOp P ops Q i (fun a' w'=>((listed.setIfInBounds i true).getD k true=false→S w')∧wpAnyE P md ops Q S k fuel (listed.setIfInBounds i true) a' w') a w
theorem wpAny_of_E:∀(fuel:Nat) (listed:Array Bool) (a:Act) (w:World),wpAnyE P md ops Q S k fuel listed a w→wpAny P md ops Q fuel listed a w
  | 0,_,_,_,h=>h
  | fuel+1,_,_,_,h=>⟨h.1,fun i hi=>wpOp_mono (fun a' w' h'=>wpAny_of_E fuel _ a' w' h'.2) (h.2 i hi)⟩
def waitersE (md:Region.Mode) (ops:Array Oper) (i:Nat):List Nat :=
 (List.range ops.size).foldl (fun W j=>if (match ops[j]? with|some o=>o.after.any (fun e=>Region.binds md e && (e.on == i || W.contains e.on))|none=>false)=true then j::W else W) []
def waitsE (md:Region.Mode) (ops:Array Oper) (W:List Nat) (i:Nat):Bool:=W.all fun j=>match ops[j]? with|some o=>o.after.any (fun e=>Region.binds md e && (e.on == i || W.contains e.on))|none=>false
theorem wpAnyE_first {i:Nat} {oi:Oper} {v:Value} {W:List Nat} (hi:ops[i]?=some oi) (hik:i≠k) (hsel:∀(j:Nat) (o:Oper) cs b,ops[j]?=some o→o.op≠.select cs b)
    (hQ:∀c a w,Q (.panic c) (a.put oi.dst v) w→Q (.panic c) a w) (hkW:k∈W) (hw:waitsE md ops W i=true) :
    ∀ (fuel:Nat) (listed:Array Bool) (a:Act) (w:World),
      (∀j oj,ops[j]?=some oj→j≠i→listed.getD j true=false→(∀e∈oj.after,Region.binds md e=true→e.on≠i)→oi.apart ops oj=true) →
      i∈Region.ready md ops listed→(∀j∈W,listed.getD j true=false)→YieldsIf P ops S oi v a→S w →
      wpAnyE P md ops Q S k fuel (listed.setIfInBounds i true) (a.put oi.dst v) w→wpAnyE P md ops Q S k (fuel+1) listed a w:=by
  intro fuel
  induction fuel with
  | zero =>
    intro listed a w _ hr _ hy hS H;refine ⟨fun h=>(by rw [h] at hr;cases hr),fun j hj=>?_⟩
    by_cases hji:j=i
    · subst hji;exact hy.wpOp hi hS ⟨fun _=>hS,H⟩
    · have:=ready_mono hj hji
      rw [H.1] at this
      cases this
  | succ fuel ih =>
    intro listed a w hfree hr hWl hy hS H;refine ⟨fun h=>(by rw [h] at hr;cases hr),fun j hj=>?_⟩
    by_cases hji:j=i
    · subst hji;exact hy.wpOp hi hS ⟨fun _=>hS,H⟩
    · have h1:=H.2 j (ready_mono hj hji)
      obtain ⟨hjun,oj,hoj,hall⟩:=mem_ready.1 hj;have hlist:∀e∈oj.after,Region.binds md e=true→listed.getD e.on true=true:=fun e he hb=>by
       have h1:=hall e he hb
       rcases Nat.lt_or_ge e.on listed.size with h'|h'
       · simpa [h'] using h1
       · simp [Array.getElem?_eq_none h'] at h1 ⊢
      have hiun:listed.getD i true=false:=(mem_ready.1 hr).1;have hnot:∀e∈oj.after,Region.binds md e=true→e.on≠i:=fun e he hb heq=>by
       have h1:=hlist e he hb;rw [heq,hiun] at h1
       cases h1
      have hjW:j∉W:=fun hm=>by
       have h2:=List.all_eq_true.1 hw j hm;rw [hoj] at h2;simp only [Array.any_eq_true'] at h2
       obtain ⟨e,he,hb⟩:=h2;simp only [Bool.and_eq_true,Bool.or_eq_true,beq_iff_eq,List.contains_iff_mem] at hb
       have h3:=hlist e he hb.1
       rcases hb.2 with h4|h4
       · exact hnot e he hb.1 h4
       · rw [hWl _ h4] at h3;cases h3
      have hjk:j≠k:=fun e=>hjW (e ▸ hkW)
      have h2:=wpOp_putIf hoj (hfree j oj hoj hji hjun hnot) (fun cs b=>hsel i oi cs b hi) (fun cs b=>hsel j oj cs b hoj) hQ hy h1
      have hfree':∀k ok,ops[k]?=some ok→k≠i→(listed.setIfInBounds j true).getD k true=false →
          (∀e∈ok.after,Region.binds md e=true→e.on≠i)→oi.apart ops ok=true:=fun k ok hk hki hun hno=>by
        refine hfree k ok hk hki ?_ hno
        by_cases hjk:j=k
        · subst hjk;exact hjun
        · rw [getD_set_ne true hjk] at hun;exact hun
      have hWl':∀j'∈W,(listed.setIfInBounds j true).getD j' true=false:=fun j' hj'=>by
       have hne:j≠j':=fun e=>hjW (by rw [e];exact hj')
       rw [getD_set_ne true hne];exact hWl j' hj'
      have hc:((listed.setIfInBounds i true).setIfInBounds j true).getD k true=false:=by
       rw [Array.setIfInBounds_comm _ _ (Ne.symm hji),getD_set_ne true hik];exact hWl' k hkW
      refine wpOp_mono (fun a' w' h3=>⟨fun _=>h3.2.1 hc,ih (listed.setIfInBounds j true) a' w' hfree' (ready_mono hr (Ne.symm hji)) hWl' h3.1 (h3.2.1 hc) ?_⟩) h2;rw [Array.setIfInBounds_comm _ _ hji];exact h3.2.2
theorem wpAnyE_pure {i:Nat} {oi:Oper} {v:Value} (hi:ops[i]?=some oi) (hik:i≠k) (hsel:∀(j:Nat) (o:Oper) cs b,ops[j]?=some o→o.op≠.select cs b)
    (hQ:∀c a w,Q (.panic c) (a.put oi.dst v) w→Q (.panic c) a w) :
    ∀ (fuel:Nat) (listed:Array Bool) (a:Act) (w:World),
      (∀j oj,ops[j]?=some oj→j≠i→listed.getD j true=false→(∀e∈oj.after,Region.binds md e=true→e.on≠i)→oi.apart ops oj=true) →
      i∈Region.ready md ops listed→YieldsIf P ops (fun _=>True) oi v a→(listed.getD k true=false→S w) →
      wpAnyE P md ops Q S k fuel (listed.setIfInBounds i true) (a.put oi.dst v) w→wpAnyE P md ops Q S k (fuel+1) listed a w:=by
  intro fuel
  induction fuel with
  | zero =>
    intro listed a w _ hr hy hS H;refine ⟨fun h=>(by rw [h] at hr;cases hr),fun j hj=>?_⟩
    by_cases hji:j=i
    · subst hji;exact hy.wpOp hi trivial ⟨fun h=>hS (by rwa [getD_set_ne true hik] at h),H⟩
    · have:=ready_mono hj hji
      rw [H.1] at this
      cases this
  | succ fuel ih =>
    intro listed a w hfree hr hy hS H;refine ⟨fun h=>(by rw [h] at hr;cases hr),fun j hj=>?_⟩
    by_cases hji:j=i
    · subst hji;exact hy.wpOp hi trivial ⟨fun h=>hS (by rwa [getD_set_ne true hik] at h),H⟩
    · have h1:=H.2 j (ready_mono hj hji)
      obtain ⟨hjun,oj,hoj,hall⟩:=mem_ready.1 hj;have hnot:∀e∈oj.after,Region.binds md e=true→e.on≠i:=fun e he hb heq=>by
       have h1:=hall e he hb;have h0:=(mem_ready.1 hr).1;rw [heq] at h1
       rcases Nat.lt_or_ge i listed.size with h'|h'
       · simp [h'] at h0 h1;rw [h0] at h1;cases h1
       · simp [Array.getElem?_eq_none h'] at h1
      have h2:=wpOp_putIf hoj (hfree j oj hoj hji hjun hnot) (fun cs b=>hsel i oi cs b hi) (fun cs b=>hsel j oj cs b hoj) hQ hy h1
      have hfree':∀k ok,ops[k]?=some ok→k≠i→(listed.setIfInBounds j true).getD k true=false →
          (∀e∈ok.after,Region.binds md e=true→e.on≠i)→oi.apart ops ok=true:=fun k ok hk hki hun hno=>by
        refine hfree k ok hk hki ?_ hno
        by_cases hjk:j=k
        · subst hjk;exact hjun
        · rw [getD_set_ne true hjk] at hun;exact hun
      have hc:((listed.setIfInBounds i true).setIfInBounds j true).getD k true=(listed.setIfInBounds j true).getD k true:=by
       rw [Array.setIfInBounds_comm _ _ (Ne.symm hji),getD_set_ne true hik]
      refine wpOp_mono (fun a' w' h3=>⟨fun h=>h3.2.1 (hc.trans h),ih (listed.setIfInBounds j true) a' w' hfree' (ready_mono hr (Ne.symm hji)) h3.1 (fun h=>h3.2.1 (hc.trans h)) ?_⟩) h2;rw [Array.setIfInBounds_comm _ _ hji];exact h3.2.2
theorem wpAnyE_takeP {i:Nat} {oi:Oper} {v:Value} {fuel:Nat} {listed:Array Bool} {a:Act} {w:World} (hi:ops[i]?=some oi)
    (hs:Region.noSelect ops=true) (hf:Region.free md ops listed i=true) (hr:(Region.ready md ops listed).contains i=true) (hik:decide (i≠k)=true)
    (hQ:∀c a w,Q (.panic c) (a.put oi.dst v) w→Q (.panic c) a w) (hy:YieldsIf P ops (fun _=>True) oi v a) (hS:S w)
    (h:wpAnyE P md ops Q S k fuel (listed.setIfInBounds i true) (a.put oi.dst v) w):wpAnyE P md ops Q S k (fuel+1) listed a w :=
  wpAnyE_pure hi (of_decide_eq_true hik) (Region.noSelect_spec hs) hQ fuel listed a w (Region.free_spec hi hf) (by simpa using hr) hy (fun _=>hS) h
def takesE (md:Region.Mode) (ops:Array Oper) (listed:Array Bool) (k i:Nat):Bool :=
 decide (i≠k) && (waitersE md ops i).contains k && waitsE md ops (waitersE md ops i) i && (waitersE md ops i).all fun j=>listed.getD j true == false
theorem wpAnyE_take {i:Nat} {oi:Oper} {v:Value} {fuel:Nat} {listed:Array Bool} {a:Act} {w:World} (hi:ops[i]?=some oi)
    (hs:Region.noSelect ops=true) (hf:Region.free md ops listed i=true) (hr:(Region.ready md ops listed).contains i=true) (hw:takesE md ops listed k i=true)
    (hQ:∀c a w,Q (.panic c) (a.put oi.dst v) w→Q (.panic c) a w) (hy:YieldsIf P ops S oi v a) (hS:S w)
    (h:wpAnyE P md ops Q S k fuel (listed.setIfInBounds i true) (a.put oi.dst v) w):wpAnyE P md ops Q S k (fuel+1) listed a w:=by
  simp only [takesE,Bool.and_eq_true,decide_eq_true_eq,List.contains_iff_mem,List.all_eq_true,beq_iff_eq] at hw
  obtain ⟨⟨⟨h1,h2⟩,h3⟩,h4⟩:=hw;exact wpAnyE_first hi h1 (Region.noSelect_spec hs) hQ h2 h3 fuel listed a w (Region.free_spec hi hf) (by simpa using hr) h4 hy hS h
theorem wpAnyE_one {i:Nat} {o:Oper} {fuel:Nat} {listed:Array Bool} {a:Act} {w:World} (hr:Region.ready md ops listed=[i]) (ho:ops[i]?=some o)
    (h:∀K':Act→World→Prop,Shut (∀a w,((listed.setIfInBounds i true).getD k true=false→S w)→(((listed.setIfInBounds i true).getD k true=false→S w)→wpAnyE P md ops Q S k fuel (listed.setIfInBounds i true) a w)→K' a w)→if Region.wanted o (yielded ops a.tmps)=true then Oper.wp P o a w K' Q else K' (a.put o.dst undef) w) :
    wpAnyE P md ops Q S k (fuel+1) listed a w:=by
  refine ⟨fun h0=>(by rw [hr] at h0;cases h0),fun j hj=>?_⟩;rw [hr] at hj;obtain rfl:=List.mem_singleton.1 hj;have h2:=h (fun a' w'=>((listed.setIfInBounds j true).getD k true=false→S w')∧wpAnyE P md ops Q S k fuel (listed.setIfInBounds j true) a' w') (fun a w h1 h2=>⟨h1,h2 h1⟩);unfold Go.wpOp;simp only [ho]
  split
  · rename_i hw
    rw [if_pos hw] at h2;exact Or.inl h2
  · rename_i hw
    rw [if_neg hw] at h2;exact h2
theorem wpAnyE_done {listed:Array Bool} {a:Act} {w:World} (hr:Region.ready md ops listed=[]) (h:Q .normal a w) :
 ∀fuel,wpAnyE P md ops Q S k fuel listed a w
 | 0=>⟨hr,h⟩
 | _+1=>⟨fun _=>h,by rw [hr];simp⟩
theorem wp_region_E {id:Nat} {a:Act} {w:World} (k:Nat) (hm:P.follows .mixedOrders=true) (hS:S w.drew)
    (h:S w.drew→wpAnyE P .any ops Q S k ops.size (Array.replicate ops.size false) a w.drew):(Code.region id ops true).wp P Q a w :=
  wp_region_any hm (wpAny_of_E _ _ _ _ (h hS))
end
end
section
open Go.Shelf
def keysM_ren:Go.Shelf.Ren:=⟨fun|7=>98|10=>146|n=>n,fun|23=>94|26=>9|3=>50|28=>167|0=>0|27=>166|33=>172|4=>4|n=>n,fun|n=>n⟩
theorem keysM:Go.Proofs.SlLaysZ.n7 Tryz.prog keysM_ren:={
  mixed:=by kernel_rfl
  f7:=⟨Tryz.f98.name,by decide,Tryz.func98.trans (congrArg some (by kernel_rfl))⟩
  f10:=⟨Tryz.f146.name,by decide,Tryz.func146.trans (congrArg some (by kernel_rfl))⟩
  t0:=Tryz.underlying0
  a0:=Tryz.isAgg0
  z0:=Tryz.sizeOf0
  v0:=Tryz.zeroValue0
  t4:=Tryz.underlying4
  a4:=Tryz.isAgg4
  z4:=Tryz.sizeOf4
  v4:=Tryz.zeroValue4
  t23:=Tryz.underlying94
  a23:=Tryz.isAgg94
  z23:=Tryz.sizeOf94
  v23:=Tryz.zeroValue94
  t26:=Tryz.underlying9
  a26:=Tryz.isAgg9
  z26:=Tryz.sizeOf9
  v26:=Tryz.zeroValue9
  t27:=Tryz.underlying166
  a27:=Tryz.isAgg166
  z27:=Tryz.sizeOf166
  v27:=Tryz.zeroValue166
  t28:=Tryz.underlying167
  a28:=Tryz.isAgg167
  z28:=Tryz.sizeOf167
  v28:=Tryz.zeroValue167
  t33:=Tryz.underlying172
  a33:=Tryz.isAgg172
  z33:=Tryz.sizeOf172
  v33:=Tryz.zeroValue172 }
def sortedM_ren:Go.Shelf.Ren:=⟨fun|6=>97|8=>145|9=>52|11=>186|13=>100|12=>99|23=>156|24=>157|14=>147|15=>148|16=>149|17=>150|18=>151|19=>152|20=>153|21=>154|22=>155|25=>187|26=>188|27=>189|28=>190|29=>191|30=>192|31=>216|n=>n,fun|26=>9|28=>167|24=>37|0=>0|3=>3|37=>171|48=>238|50=>128|4=>4|40=>231|39=>230|45=>235|5=>5|9=>9|51=>267|55=>271|57=>292|58=>293|33=>172|n=>n,fun|n=>n⟩
theorem sortedM:Go.Proofs.SlLaysZ.n6 Tryz.prog sortedM_ren:={
  mixed:=by kernel_rfl
  f6:=⟨Tryz.f97.name,by decide,Tryz.func97.trans (congrArg some (by kernel_rfl))⟩
  f8:=⟨Tryz.f145.name,by decide,Tryz.func145.trans (congrArg some (by kernel_rfl))⟩
  f11:=⟨Tryz.f186.name,by decide,Tryz.func186.trans (congrArg some (by kernel_rfl))⟩
  t0:=Tryz.underlying0
  a0:=Tryz.isAgg0
  z0:=Tryz.sizeOf0
  v0:=Tryz.zeroValue0
  t24:=Tryz.underlying37
  a24:=Tryz.isAgg37
  z24:=Tryz.sizeOf37
  v24:=Tryz.zeroValue37
  t26:=Tryz.underlying9
  a26:=Tryz.isAgg9
  z26:=Tryz.sizeOf9
  v26:=Tryz.zeroValue9
  t28:=Tryz.underlying167
  a28:=Tryz.isAgg167
  z28:=Tryz.sizeOf167
  v28:=Tryz.zeroValue167
  i26:=by kernel_rfl }
def sortM_ren:Go.Shelf.Ren:=⟨fun|6=>52|8=>100|9=>99|19=>156|20=>157|21=>147|22=>148|23=>149|24=>150|25=>151|26=>152|27=>153|28=>154|29=>155|36=>187|31=>188|32=>189|37=>190|38=>191|39=>192|41=>216|n=>n,fun|27=>37|29=>9|3=>3|32=>171|26=>37|0=>0|44=>238|46=>128|4=>4|36=>231|35=>230|41=>235|5=>5|9=>9|53=>267|57=>271|63=>292|64=>293|n=>n,fun|n=>n⟩
theorem sortM:Go.Proofs.SlLaysM.n6 Tryz.prog sortM_ren:={
  mixed:=by kernel_rfl
  f6:=⟨Tryz.f52.name,by decide,Tryz.func52.trans (congrArg some (by kernel_rfl))⟩
  f8:=Tryz.func100.trans (congrArg some (by kernel_rfl))
  f9:=⟨Tryz.f99.name,by decide,Tryz.func99.trans (congrArg some (by kernel_rfl))⟩
  f19:=Tryz.func156.trans (congrArg some (by kernel_rfl))
  f20:=Tryz.func157.trans (congrArg some (by kernel_rfl))
  f21:=⟨Tryz.f147.name,by decide,Tryz.func147.trans (congrArg some (by kernel_rfl))⟩
  f22:=⟨Tryz.f148.name,by decide,Tryz.func148.trans (congrArg some (by kernel_rfl))⟩
  f23:=⟨Tryz.f149.name,by decide,Tryz.func149.trans (congrArg some (by kernel_rfl))⟩
  f24:=⟨Tryz.f150.name,by decide,Tryz.func150.trans (congrArg some (by kernel_rfl))⟩
  f25:=⟨Tryz.f151.name,by decide,Tryz.func151.trans (congrArg some (by kernel_rfl))⟩
  f26:=⟨Tryz.f152.name,by decide,Tryz.func152.trans (congrArg some (by kernel_rfl))⟩
  f27:=⟨Tryz.f153.name,by decide,Tryz.func153.trans (congrArg some (by kernel_rfl))⟩
  f28:=⟨Tryz.f154.name,by decide,Tryz.func154.trans (congrArg some (by kernel_rfl))⟩
  f29:=⟨Tryz.f155.name,by decide,Tryz.func155.trans (congrArg some (by kernel_rfl))⟩
  f31:=Tryz.func188.trans (congrArg some (by kernel_rfl))
  f32:=Tryz.func189.trans (congrArg some (by kernel_rfl))
  f36:=⟨Tryz.f187.name,by decide,Tryz.func187.trans (congrArg some (by kernel_rfl))⟩
  f37:=⟨Tryz.f190.name,by decide,Tryz.func190.trans (congrArg some (by kernel_rfl))⟩
  f38:=⟨Tryz.f191.name,by decide,Tryz.func191.trans (congrArg some (by kernel_rfl))⟩
  f39:=⟨Tryz.f192.name,by decide,Tryz.func192.trans (congrArg some (by kernel_rfl))⟩
  f41:=⟨Tryz.f216.name,by decide,Tryz.func216.trans (congrArg some (by kernel_rfl))⟩
  t0:=Tryz.underlying0
  a0:=Tryz.isAgg0
  z0:=Tryz.sizeOf0
  v0:=Tryz.zeroValue0
  t3:=Tryz.underlying3
  a3:=Tryz.isAgg3
  z3:=Tryz.sizeOf3
  v3:=Tryz.zeroValue3
  t4:=Tryz.underlying4
  a4:=Tryz.isAgg4
  z4:=Tryz.sizeOf4
  v4:=Tryz.zeroValue4
  t5:=Tryz.underlying5
  a5:=Tryz.isAgg5
  z5:=Tryz.sizeOf5
  v5:=Tryz.zeroValue5
  t9:=Tryz.underlying9
  a9:=Tryz.isAgg9
  z9:=Tryz.sizeOf9
  v9:=Tryz.zeroValue9
  t26:=Tryz.underlying37
  a26:=Tryz.isAgg37
  z26:=Tryz.sizeOf37
  v26:=Tryz.zeroValue37
  t27:=Tryz.underlying37
  a27:=Tryz.isAgg37
  z27:=Tryz.sizeOf37
  v27:=Tryz.zeroValue37
  t29:=Tryz.underlying9
  a29:=Tryz.isAgg9
  z29:=Tryz.sizeOf9
  v29:=Tryz.zeroValue9
  t32:=Tryz.underlying171
  a32:=Tryz.isAgg171
  z32:=Tryz.sizeOf171
  v32:=Tryz.zeroValue171
  t35:=Tryz.underlying230
  a35:=Tryz.isAgg230
  z35:=Tryz.sizeOf230
  v35:=Tryz.zeroValue230
  t36:=Tryz.underlying231
  a36:=Tryz.isAgg231
  z36:=Tryz.sizeOf231
  v36:=Tryz.zeroValue231
  t41:=Tryz.underlying235
  a41:=Tryz.isAgg235
  z41:=Tryz.sizeOf235
  v41:=Tryz.zeroValue235
  t44:=Tryz.underlying238
  a44:=Tryz.isAgg238
  z44:=Tryz.sizeOf238
  v44:=Tryz.zeroValue238
  t46:=Tryz.underlying128
  a46:=Tryz.isAgg128
  z46:=Tryz.sizeOf128
  v46:=Tryz.zeroValue128
  t53:=Tryz.underlying267
  a53:=Tryz.isAgg267
  z53:=Tryz.sizeOf267
  v53:=Tryz.zeroValue267
  t57:=Tryz.underlying271
  a57:=Tryz.isAgg271
  z57:=Tryz.sizeOf271
  v57:=Tryz.zeroValue271
  t63:=Tryz.underlying292
  a63:=Tryz.isAgg292
  z63:=Tryz.sizeOf292
  v63:=Tryz.zeroValue292
  t64:=Tryz.underlying293
  a64:=Tryz.isAgg293
  z64:=Tryz.sizeOf293
  v64:=Tryz.zeroValue293 }
end
section
open Go.RowKit Go.Lib
theorem list_named {P:Program} {ops:Array Oper} {Q:Exit→Act→World→Prop} {rest:List Oper} {a:Act} {w:World} (h:∀W,W=w→wpList P ops Q rest a W):wpList P ops Q rest a w:=h w rfl
theorem step_wanted {P:Program} {ops:Array Oper} {o:Oper} {a:Act} {w:World} {K:Act→World→Prop} {Q:Exit→Act→World→Prop} {X:Prop} (hg:o.guard=none) (h:Oper.wp P o a w K Q):if Region.wanted o (yielded ops a.tmps)=true then Oper.wp P o a w K Q else X:=by
 have hw:Region.wanted o (yielded ops a.tmps)=true:=by simp [Region.wanted,hg]
 rw [if_pos hw];exact h
theorem mod_pow_succ (b i:Nat):b % 2 ^ (i+1)=b % 2 ^ i+2 ^ i * (b.testBit i).toNat:=by
 rw [Nat.pow_succ,Nat.mod_mul,←bit_nat]
theorem numV_lt (n:Nat):bitsL (0:Nat).testBit=bitsL fun _=>false:=bitsL_ext (fun j _=>by simp)
theorem zero_store (w:World) (B:Nat) (hB:w.heap.size=B):(storeCells ⟨B,0,none⟩ Tryz.zeroCells280.toList).run Tryz.prog (w.alloc (.cells Tryz.zeroCells280 280))=.ok () (w.alloc (.cells Tryz.zeroCells280 280)):=by
 subst hB;exact run_storeCells_new w 280 _ _ (by kernel_rfl) rfl (by rw [zero_bits];exact bits_one _)
theorem bits_store (w:World) (B:Nat) (hB:w.heap.size=B) (f:Nat→Bool):(storeCells ⟨B,0,none⟩ (bitsL f)).run Tryz.prog (w.alloc (.cells Tryz.zeroCells280 280))=.ok () (w.alloc (.cells (bitsL f).toArray 280)):=by
 subst hB;have:=run_storeCells_new (P:=Tryz.prog) w 280 Tryz.zeroCells280 (bitsL f).toArray (num_sizeA f) (by rw [zero_bits];simp [bitsL_len]) (bits_one f)
 simpa using this
theorem numMul_any (a b:Nat) (ha:a<18446744073709551616) (hb2:b<18446744073709551616) (w:World) :
 Calls Tryz.prog 204 #[.int .u64 a,.int .u64 b] w (jP w (numV (a * b))):=by
 have CO:=jH (fun W=>show Calls Tryz.prog 229 #[.int .u64 0,.int .u64 a] W (jP W (.agg (bitsL a.testBit).toArray)) from by
  have:=numOf_any 0 a (by omega) ha W;rw [Nat.zero_mul,Nat.zero_add] at this;exact this)
 have CA:=jH (fun (x y:Nat) (h:x+y<340282366920938463463374607431768211456) W=>numAdd_any x y (by omega) (by omega) h W);have HA:=jH ha;have HB2:=jH hb2;have hst:=zero_store (w.alloc (.cells Tryz.zeroCells280 280)) (w.heap.size+1) (by simp);have hst2:=fun W=>bits_store W W.heap.size rfl a.testBit
 clear ha hb2
 go_enter Tryz.func204,Tryz.ntmps204
 go_wp2_with (first
  | (go_at_call 229
     refine calls_named ?_;intro W1 hW1;rw [zero_bits] at hW1;have hb1:jB w W1:=by rw [hW1];exact balloc (balloc jR _) _
     have hx1:BitB W1 w.heap.size (fun _=>false):=by rw [hW1];exact box_old _ _ _
     have hx2:BitB W1 (w.heap.size+1) (fun _=>false):=by rw [hW1];exact box_new _ _ _
     have hsz:W1.heap.size=w.heap.size+2:=by rw [hW1];simp
     clear hW1;refine (CO.out W1).mono ?_;rintro e w2 ⟨rfl,hb2⟩;have HX1:=jH (hx1.below hb2);have HX2:=jH (hx2.below hb2);have HB2w:=jH (bthen hb1 hb2);have HSZ:=jH (show w.heap.size+2≤w2.heap.size by have:=hb2.size;omega);clear hb1 hx1 hx2 hb2 hsz))
 go_loopg [7] 64 (fun g s7 wr=>∃(i o x:Nat),i≤64∧64 - i≤g∧s7=.int .i64 i∧Hid (o=a * (b % 2 ^ i)∧x=a * 2 ^ i)∧jB w wr∧BitB wr w.heap.size (fun _=>false)∧BitB wr (w.heap.size+1) o.testBit∧BitB wr w2.heap.size x.testBit)
 case atStart=>exact ⟨0,0,a,by omega,Nat.le_refl _,rfl,jH (by simp [Nat.mod_one]),balloc HB2w.out _,HX1.out.below (balloc jR _),by
                  have:=HX2.out.below (balloc jR (.cells (bitsL a.testBit).toArray 280));unfold BitB at this ⊢;rw [numV_lt 0];exact this,bit_new w2 a.testBit⟩
 case round =>
  obtain ⟨i,o,x,hi2,hg,rfl,HE,hb,hz,ho,hx⟩:=hrel;rename World=>wr
  have HB:=jH hb;have HZ:=jH hz;have HO:=jH ho;have HX:=jH hx;clear hb hz ho hx
  by_cases hlt:i<64
  · have HL:=jH hlt
    have z1:(i:Int)<64:=by omega
    have z4:(0:Int)≤(i:Int):=by omega
    have z7:IntKind.u64.wrap (i:Int)=(i:Int):=u64_wrap i (by omega);have g1:=shr_bit b i HB2.out hlt;have hbx:=Nat.mod_lt b (Nat.two_pow_pos (i+1));have hbl:b % 2 ^ (i+1)≤b:=Nat.mod_le _ _;have hms:=mod_pow_succ b i;have hab:a * b<340282366920938463463374607431768211456:=by
     have h1:=HA.out;have h2:=HB2.out;have h3:a * b≤18446744073709551615 * 18446744073709551615:=Nat.mul_le_mul (by omega) (by omega);omega
    have hox:a * (b % 2 ^ (i+1))≤a * b:=Nat.mul_le_mul_left a hbl;have HXS:=jH (show 2 * x=a * 2 ^ (i+1) by rw [HE.out.2,Nat.pow_succ,Nat.mul_comm (2 ^ i) 2,Nat.mul_left_comm]);have CD:=jH (fun W=>show Calls Tryz.prog 230 #[.agg (bitsL x.testBit).toArray] W (jP W (.agg (bitsL (2 * x).testBit).toArray)) from num2_any x W)
    cases hq:b.testBit i with
    | true =>
      rw [hq] at g1 hms;have hsum:o+x=a * (b % 2 ^ (i+1)):=by
       rw [HE.out.1,HE.out.2,hms,Nat.mul_add];simp
      have HSUM:=jH hsum;have CAx:=jH (fun W=>show Calls Tryz.prog 208 #[.agg (bitsL o.testBit).toArray,.agg (bitsL x.testBit).toArray] W (jP W (.tuple #[.agg (bitsL (o+x).testBit).toArray,.bool true])) from CA.out o x (by omega) W);clear hbx hbl hms hab hox hq hsum CA hlt
      as_aux_lemma =>
      go_wp2_with (first
       | (refine wpList_load_list rfl 280 (.tmp 5) rfl (w.heap.size+1) 0 (bitsL o.testBit) HO.out.range (by rfl) _ Tryz.underlying280 (by rfl) (num_size o.testBit) ?_)
       | (go_at_call 208
          refine (CAx.out wr).mono ?_;rintro e w4 ⟨rfl,hb4⟩;have HB4:=jH (bthen HB.out hb4);have HZ4:=jH (HZ.out.below hb4);have HO4:=jH (HO.out.below hb4);have HX4:=jH (HX.out.below hb4);clear hb4)
       | (refine wpList_store_mid rfl 280 (.tmp 5) (.tmp 25) rfl (w.heap.size+1) 0 (bitsL (o+x).testBit).toArray (by rfl) (by rfl) (HO4.out.there _) (num_sizeA _) (bits_one _) ?_
          refine list_named ?_;intro W5 hW5;obtain ⟨s1,s2,s3⟩:=HO4.out.store (o+x).testBit;have hW5':W5=w4.setCells (w.heap.size+1) 0 (bitsL (o+x).testBit):=hW5;rw [←hW5'] at s1 s2 s3;have HO5:=jH s1;have HZ5:=jH (show BitB W5 w.heap.size (fun _=>false) from (s2 _ (by omega)).trans HZ4.out);have HX5:=jH (show BitB W5 w2.heap.size x.testBit from (s2 _ (by have:=HSZ.out;omega)).trans HX4.out);have HB5:=jH (HB4.out.trans (s3 _ (by omega)))
          clear hW5 hW5' s1 s2 s3)
       | (refine wpList_load_list rfl 280 (.tmp 6) rfl (w2.heap.size) 0 (bitsL x.testBit) HX5.out.range (by rfl) _ Tryz.underlying280 (by rfl) (num_size x.testBit) ?_)
       | (refine wpList_load_list rfl 280 (.tmp 6) rfl (w2.heap.size) 0 (bitsL x.testBit) HX.out.range (by rfl) _ Tryz.underlying280 (by rfl) (num_size x.testBit) ?_)
       | (go_at_call 230
          refine (CD.out W5).mono ?_;rintro e w6 ⟨rfl,hb6⟩;have HB6:=jH (bthen HB5.out hb6);have HZ6:=jH (HZ5.out.below hb6);have HO6:=jH (HO5.out.below hb6);have HX6:=jH (HX5.out.below hb6);clear hb6)
       | (refine wpList_store_mid rfl 280 (.tmp 6) (.tmp 28) rfl (w2.heap.size) 0 (bitsL (2 * x).testBit).toArray (by rfl) (by rfl) (HX6.out.there _) (num_sizeA _) (bits_one _) ?_
          refine list_named ?_;intro W7 hW7;obtain ⟨s1,s2,s3⟩:=HX6.out.store (2 * x).testBit;have hW7':W7=w6.setCells (w2.heap.size) 0 (bitsL (2 * x).testBit):=hW7;rw [←hW7'] at s1 s2 s3;have HX7:=jH s1;have HZ7:=jH (show BitB W7 w.heap.size (fun _=>false) from (s2 _ (by have:=HSZ.out;omega)).trans HZ6.out);have HO7:=jH (show BitB W7 (w.heap.size+1) (o+x).testBit from (s2 _ (by have:=HSZ.out;omega)).trans HO6.out)
          have HB7:=jH (HB6.out.trans (s3 _ (by have:=HSZ.out;omega)));clear hW7 hW7' s1 s2 s3))
      go_roundg (64 - (i+1))
      case measure=>omega
      case rel=>exact ⟨i+1,o+x,2 * x,HL.out,Nat.le_refl _,by go_num,jH ⟨HSUM.out,HXS.out⟩,HB7.out,HZ7.out,HO7.out,HX7.out⟩
    | false =>
      rw [hq] at g1 hms;have HSUM:=jH (show o=a * (b % 2 ^ (i+1)) by rw [HE.out.1,hms];simp);clear hbx hbl hms hab hox hq CA hlt
      as_aux_lemma =>
      go_wp2_with (first
       | (refine wpList_load_list rfl 280 (.tmp 6) rfl (w2.heap.size) 0 (bitsL x.testBit) HX.out.range (by rfl) _ Tryz.underlying280 (by rfl) (num_size x.testBit) ?_)
       | (go_at_call 230
          refine (CD.out wr).mono ?_;rintro e w6 ⟨rfl,hb6⟩;have HB6:=jH (bthen HB.out hb6);have HZ6:=jH (HZ.out.below hb6);have HO6:=jH (HO.out.below hb6);have HX6:=jH (HX.out.below hb6);clear hb6)
       | (refine wpList_store_mid rfl 280 (.tmp 6) (.tmp 28) rfl (w2.heap.size) 0 (bitsL (2 * x).testBit).toArray (by rfl) (by rfl) (HX6.out.there _) (num_sizeA _) (bits_one _) ?_
          refine list_named ?_;intro W7 hW7;obtain ⟨s1,s2,s3⟩:=HX6.out.store (2 * x).testBit;have hW7':W7=w6.setCells (w2.heap.size) 0 (bitsL (2 * x).testBit):=hW7;rw [←hW7'] at s1 s2 s3;have HX7:=jH s1;have HZ7:=jH (show BitB W7 w.heap.size (fun _=>false) from (s2 _ (by have:=HSZ.out;omega)).trans HZ6.out);have HO7:=jH (show BitB W7 (w.heap.size+1) o.testBit from (s2 _ (by have:=HSZ.out;omega)).trans HO6.out)
          have HB7:=jH (HB6.out.trans (s3 _ (by have:=HSZ.out;omega)));clear hW7 hW7' s1 s2 s3))
      go_roundg (64 - (i+1))
      case measure=>omega
      case rel=>exact ⟨i+1,o,2 * x,HL.out,Nat.le_refl _,by go_num,jH ⟨HSUM.out,HXS.out⟩,HB7.out,HZ7.out,HO7.out,HX7.out⟩
  · obtain rfl:i=64:=by omega
    have HEO:=jH (show o=a * b by rw [HE.out.1];congr 1;exact Nat.mod_eq_of_lt HB2.out)
    go_wp2_with (first
     | (refine wpList_load_list rfl 280 (.tmp 5) rfl (w.heap.size+1) 0 (bitsL o.testBit) HO.out.range (by rfl) _ Tryz.underlying280 (by rfl) (num_size o.testBit) ?_)
     | (refine wpList_store_mid rfl 280 (.tmp 4) (.tmp 29) rfl (w.heap.size) 0 (bitsL o.testBit).toArray (by rfl) (by rfl) (HZ.out.there o.testBit) (num_sizeA o.testBit) (bits_one o.testBit) ?_))
    obtain ⟨hs1,_,hs3⟩:=HZ.out.store o.testBit;refine bodyPost_ret (v:=.agg (bitsL o.testBit).toArray) (results_cell_row Tryz.results204 _ _ _ _ _ _ _ (by rfl) hs1 Tryz.underlying280 rfl (num_sizeA _)) rfl ⟨?_,HB.out.trans (hs3 _ (Nat.le_refl _))⟩;rw [HEO.out];rfl
theorem numTotal_any (v:Value) (l:List Int) (w:World) (hv:RowIn 1 nmC w v l) (hl:l.length≤1000000) (hi:∀n∈l,0≤n∧n≤9223372036854775807) :
 Calls Tryz.prog 206 #[v] w (jP w (numV (totN l))):=by
 obtain ⟨A,c,rfl⟩:=hv.form;have HV:=jH hv;have HI:=jH hi;have HL:=jH hl;have hl9:l.length≤9223372036854775807:=by omega
 have hst:=zero_store (w.alloc (.cells Tryz.zeroCells280 280)) (w.heap.size+1) (by simp);clear hv hi hl
 go_enter Tryz.func206,Tryz.ntmps206
 go_wp2_with fail
 clear hst;rw [zero_bits]
 go_loopg [4] l.length (fun g s4 wr=>∃(k:Nat) (f:Nat→Bool),k≤l.length∧l.length - k≤g∧s4=.int .i64 k∧Hid (bitsL f=bitsL (totN (l.take k)).testBit)∧jB w wr∧BitB wr w.heap.size (fun _=>false)∧BitB wr (w.heap.size+1) f)
 case atStart=>exact ⟨0,fun _=>false,Nat.zero_le _,Nat.le_refl _,rfl,jH (by rw [List.take_zero];exact (numV_lt 0).symm),balloc (balloc jR _) _,box_old _ _ _,box_new _ _ _⟩
 case round =>
  obtain ⟨k,f,hk,hg,rfl,HF,hb,hz,hq⟩:=hrel;rename World=>wr
  have HB:=jH hb;have HZ:=jH hz;have HQ:=jH hq;clear hb hz hq
  by_cases hlt:k<l.length
  · obtain ⟨b1,o1,rfl,hb1,hc⟩:=(HV.out.below HB.out).at_ hlt
    have z1:(0:Int)≤(k:Int):=by omega
    have z2:(k:Int)<(l.length:Int):=by omega
    have HTK:=jH (show totN (l.take (k+1))=totN (l.take k)+l[k].toNat by rw [List.take_succ_eq_append_getElem hlt,totN_snoc]);have hx:=HI.out _ (List.getElem_mem hlt);have HTL:=jH (show totN (l.take k)≤1000000 * 9223372036854775807 from Nat.le_trans (totN_le (fun n hn=>(HI.out n (List.mem_of_mem_take hn)).2)) (Nat.mul_le_mul_right _ (by rw [List.length_take];have:=HL.out;omega)));generalize l[k]=x at hc HTK hx
    have d0:=hc 0 _ rfl;rw [Nat.add_zero,Nat.mul_one] at d0;have HK:=jH hlt;clear hc
    by_cases h0:0<x
    · obtain ⟨y,rfl⟩:∃y:Nat,x=y:=⟨x.toNat,by omega⟩
      have hy:y≤9223372036854775807:=by omega
      have q1:IntKind.u64.wrap (y:Int)=(y:Int):=u64_wrap y (by omega);have h0':(0:Int)<(y:Int):=h0;obtain ⟨t,ht⟩:∃t,t=totN (l.take k):=⟨_,rfl⟩;rw [←ht] at HTL HTK HF;have CO:=jH (fun W=>show Calls Tryz.prog 229 #[.int .u64 0,.int .u64 y] W (jP W (.agg (bitsL y.testBit).toArray)) from by
       have:=numOf_any 0 y (by omega) (by omega) W;rw [Nat.zero_mul,Nat.zero_add] at this;exact this)
      have CA:=jH (fun W=>show Calls Tryz.prog 208 #[.agg (bitsL f).toArray,.agg (bitsL y.testBit).toArray] W (jP W (.tuple #[.agg (bitsL (t+y).testBit).toArray,.bool true])) from by
       rw [HF.out];exact numAdd_any t y (by have:=HTL.out;omega) (by omega) (by have:=HTL.out;omega) W)
      have HT2:=jH (show t+y=totN (l.take (k+1)) by rw [HTK.out];simp);clear ht hy hx h0;have r0:∀U,jB wr U→U.cell? ⟨b1,o1+k,none⟩=some (.int .i64 y):=fun U hU=>(hU.cell (p:=⟨b1,o1+k,none⟩) hb1).trans d0
      have HBr:=jH (Below.refl wr.heap.size wr)
      as_aux_lemma =>
      go_upto_region 6 with fail
      refine wp_region_E (S:=(fun U:World=>jB wr U)) 11 (by kernel_rfl) ?hS9 (fun hHeld=>?_)
      case hS9=>first|with_reducible exact HBr.out|exact HBr.out.drew|with_reducible exact HB5.out|with_reducible exact HB6.out
      refine wpAnyE_take (i:=0) (v:=.agg ((bitsL f)).toArray) rfl (by kernel_rfl) (by kernel_rfl) (by kernel_rfl) (by kernel_rfl) (fun _ _ _ h=>h) (yieldsIf_load_mid (by rfl) 280 (.tmp 3) (by rfl) (w.heap.size+1) (0) (by rfl) ((bitsL f)) _ (fun U hU=>(HQ.out.below hU).range) Tryz.underlying280 (by rfl) (num_size _)) (by assumption) ?_
      try simp only [Act.put,jA]
      refine wpAnyE_take (i:=1) (v:=?v10) rfl (by kernel_rfl) (by kernel_rfl) (by kernel_rfl) (by kernel_rfl) (fun _ _ _ h=>h) (Or.inl ⟨by rfl,?hy10⟩) (by assumption) ?_
      case hy10 =>
       intro w' hSw
       (try dsimp only at hSw)
       go_simp
       try (with_reducible rfl)
      try simp only [Act.put,jA]
      refine wpAnyE_take (i:=2) (v:=?v11) rfl (by kernel_rfl) (by kernel_rfl) (by kernel_rfl) (by kernel_rfl) (fun _ _ _ h=>h) (Or.inl ⟨by rfl,?hy11⟩) (by assumption) ?_
      case hy11 =>
       intro w' hSw
       (try dsimp only at hSw)
       go_simp
       try (with_reducible rfl)
      try simp only [Act.put,jA]
      refine wpAnyE_take (i:=3) (v:=?v12) rfl (by kernel_rfl) (by kernel_rfl) (by kernel_rfl) (by kernel_rfl) (fun _ _ _ h=>h) (Or.inl ⟨by rfl,?hy12⟩) (by assumption) ?_
      case hy12 =>
       intro w' hSw
       (try dsimp only at hSw)
       go_simp
       try (with_reducible rfl)
      try simp only [Act.put,jA]
      refine wpAnyE_take (i:=4) (v:=?v13) rfl (by kernel_rfl) (by kernel_rfl) (by kernel_rfl) (by kernel_rfl) (fun _ _ _ h=>h) (Or.inl ⟨by rfl,?hy13⟩) (by assumption) ?_
      case hy13 =>
       intro w' hSw
       (try dsimp only at hSw)
       have q9:=r0 w' hSw;go_simp
       try (with_reducible rfl)
      try simp only [Act.put,jA]
      refine wpAnyE_take (i:=5) (v:=?v14) rfl (by kernel_rfl) (by kernel_rfl) (by kernel_rfl) (by kernel_rfl) (fun _ _ _ h=>h) (Or.inl ⟨by rfl,?hy14⟩) (by assumption) ?_
      case hy14 =>
       intro w' hSw
       (try dsimp only at hSw)
       go_simp
       try (with_reducible rfl)
      try simp only [Act.put,jA]
      refine wpAnyE_one (i:=6) (by kernel_rfl) rfl (fun K hK=>?_);go_simp
      go_at_call 229
      refine calls_named ?_;intro W5 hW5;have hb5:jB wr W5:=by rw [hW5];first|exact jR|exact jR.drew
      clear hW5;refine (CO.out W5).mono ?_;rintro e w5 ⟨rfl,hb6⟩;have HB5:=jH (bthen hb5 hb6);clear hb5 hb6
      try go_simp
      refine hK.out _ _ ?hS15 (fun hHeld2=>?_)
      case hS15 =>
       intro _
       first|with_reducible exact HBr.out|exact HBr.out.drew|with_reducible exact HB5.out|with_reducible exact HB6.out
      clear hK K hHeld;have hHeld:=hHeld2 (by kernel_rfl);clear hHeld2
      try simp only [Act.put,jA]
      refine wpAnyE_one (i:=7) (by kernel_rfl) rfl (fun K hK=>?_);go_simp
      go_at_call 208
      refine (CA.out w5).mono ?_;rintro e w6 ⟨rfl,hb6⟩;have HB6:=jH (bthen HB5.out hb6);clear hb6
      try go_simp
      refine hK.out _ _ ?hS16 (fun hHeld2=>?_)
      case hS16 =>
       intro _
       first|with_reducible exact HBr.out|exact HBr.out.drew|with_reducible exact HB5.out|with_reducible exact HB6.out
      clear hK K hHeld;have hHeld:=hHeld2 (by kernel_rfl);clear hHeld2
      try simp only [Act.put,jA]
      refine wpAnyE_take (i:=8) (v:=?v17) rfl (by kernel_rfl) (by kernel_rfl) (by kernel_rfl) (by kernel_rfl) (fun _ _ _ h=>h) (Or.inl ⟨by rfl,?hy17⟩) (by assumption) ?_
      case hy17 =>
       intro w' hSw
       (try dsimp only at hSw)
       go_simp
       try (with_reducible rfl)
      try simp only [Act.put,jA]
      refine wpAnyE_take (i:=9) (v:=?v18) rfl (by kernel_rfl) (by kernel_rfl) (by kernel_rfl) (by kernel_rfl) (fun _ _ _ h=>h) (Or.inl ⟨by rfl,?hy18⟩) (by assumption) ?_
      case hy18 =>
       intro w' hSw
       (try dsimp only at hSw)
       go_simp
       try (with_reducible rfl)
      try simp only [Act.put,jA]
      refine wpAnyE_takeP (i:=10) (v:=?v19) rfl (by kernel_rfl) (by kernel_rfl) (by kernel_rfl) (by kernel_rfl) (fun _ _ _ h=>h) (Or.inl ⟨by rfl,?hy19⟩) (by assumption) ?_
      case hy19 =>
       intro w' hSw;clear hSw;go_simp
       try (with_reducible rfl)
      try simp only [Act.put,jA]
      refine wpAnyE_one (i:=11) (by kernel_rfl) rfl (fun K hK=>?_);refine step_wanted (by rfl) ?_;refine wp_store_mid 280 (.tmp 3) (.tmp 26) rfl (w.heap.size+1) 0 (bitsL (t+y).testBit).toArray (by rfl) (by rfl) ((HQ.out.below HB6.out).there _) (num_sizeA _) (bits_one _) ?_;refine hK.out _ _ ?hS20 (fun hHeld2=>?_)
      case hS20=>exact fun h=>nomatch (show (true:Bool)=false from h)
      clear hK K hHeld hHeld2
      try simp only [Act.put,jA]
      refine wpAnyE_done (by kernel_rfl) ?_ _;obtain ⟨s1,s2,s3⟩:=(HQ.out.below HB6.out).store (t+y).testBit;obtain ⟨W9,hW9⟩:∃W9,W9=w6.setCells (w.heap.size+1) 0 (bitsL (t+y).testBit):=⟨_,rfl⟩;rw [←hW9] at s1 s2 s3;go_wp2_with fail
      go_roundg (l.length - (k+1))
      case measure=>omega
      case rel=>exact ⟨k+1,(t+y).testBit,HK.out,Nat.le_refl _,by go_num,jH (by rw [HT2.out]),by rw [←hW9];exact (bthen HB.out HB6.out).trans (s3 _ (by omega)),by rw [←hW9];exact (s2 _ (by omega)).trans (HZ.out.below HB6.out),by rw [←hW9];exact s1⟩
    · obtain rfl:x=0:=by omega
      have e3:totN (l.take (k+1))=totN (l.take k):=by rw [HTK.out];simp
      have HF2:=jH (show bitsL f=bitsL (totN (l.take (k+1))).testBit by rw [e3];exact HF.out);clear e3 hx h0
      as_aux_lemma =>
      go_wp2_with fail
      go_roundg (l.length - (k+1))
      case measure=>omega
      case rel=>exact ⟨k+1,f,HK.out,Nat.le_refl _,by go_num,HF2,HB.out,HZ.out,HQ.out⟩
  · obtain rfl:k=l.length:=by omega
    rw [List.take_length] at HF
    go_wp2_with (first
     | (refine wpList_load_list rfl 280 (.tmp 3) rfl (w.heap.size+1) 0 (bitsL f) HQ.out.range (by rfl) _ Tryz.underlying280 (by rfl) (num_size f) ?_)
     | (refine wpList_store_mid rfl 280 (.tmp 2) (.tmp 28) rfl (w.heap.size) 0 (bitsL f).toArray (by rfl) (by rfl) (HZ.out.there f) (num_sizeA f) (bits_one f) ?_))
    obtain ⟨hs1,_,hs3⟩:=HZ.out.store f;refine bodyPost_ret (v:=.agg (bitsL f).toArray) (results_cell_row Tryz.results206 _ _ _ _ _ _ _ (by rfl) hs1 Tryz.underlying280 rfl (num_sizeA _)) rfl ⟨?_,HB.out.trans (hs3 _ (Nat.le_refl _))⟩;rw [HF.out];rfl
end
section
open Go.RowKit Go.Lib
def AtM (l:List Int):Prop:=∀(v:Value) (m:Nat) (W:World),RowIn 1 nmC W v l→m≤9223372036854775807 →
  Calls Tryz.prog 171 #[v,.int .i64 (m:Nat)] W (jP W (.bool (decide (meanN l≤m))))
theorem halve_law {lo hi d h m m1:Nat} (hd:d=hi - lo) (hh:h=d / 2) (hm:m=lo+h) (hm1:m1=m+1) (hlt:lo<hi) (h3:hi≤9223372036854775807) :
 wrap64 ((hi:Int) - (lo:Int))=(d:Int)∧wrap64 ((d:Int).tdiv 2)=(h:Int)∧(d:Int).tdiv 2=(h:Int)∧wrap64 (h:Int)=(h:Int)∧wrap64 ((lo:Int)+(h:Int))=(m:Int)∧wrap64 ((m:Int)+1)=(m1:Int):=by
 have e:(d:Int).tdiv 2=(h:Int):=by rw [tdiv_pos (by omega)];omega
 rw [e];refine ⟨?_,?_,rfl,?_,?_,?_⟩
 all_goals
   clear e;unfold wrap64;omega
theorem cmpN_ge (a b:Nat):decide (0≤cmpN a b)=decide (b≤a):=by
 unfold cmpN
 by_cases h:a=b
 · rw [if_pos h];subst h;simp
 · rw [if_neg h]
   by_cases k:a<b
   · rw [if_pos k];simp;omega
   · rw [if_neg k];simp;omega
theorem atLeast_any (n:List Int) (hi:∀x∈n,0≤x∧x≤9223372036854775807) (hl:n.length≤1000000):AtM n:=by
 intro v m w hv hm;obtain ⟨A,c,rfl⟩:=hv.form
 by_cases h0:n=[]
 · subst h0
   have HR:=jH (show decide (meanN []≤m)=true by unfold meanN;simp);rw [HR.out];clear hi hl hv hm HR
   go_enter Tryz.func171,Tryz.ntmps171
   go_wp2
   go_ret
   exact ⟨rfl,jR⟩
 · have hp:0<n.length:=List.length_pos_iff.2 h0
   have z1:¬(n.length:Int)=0:=by omega
   have z2:¬n.length=0:=by omega
   have g1:IntKind.u64.wrap (m:Int)=(m:Int):=u64_wrap m (by omega);have g2:IntKind.u64.wrap (n.length:Int)=(n.length:Int):=u64_wrap _ (by omega);obtain ⟨a,ha⟩:∃a,a=m * n.length:=⟨_,rfl⟩;obtain ⟨t,ht⟩:∃t,t=totN n:=⟨_,rfl⟩;have la:a≤9223372036854775807 * 1000000:=ha ▸ Nat.mul_le_mul hm hl;have lt:t≤1000000 * 9223372036854775807:=ht ▸ Nat.le_trans (totN_le (fun x hx=>(hi x hx).2)) (Nat.mul_le_mul_right _ hl)
   have C1:=jH (fun W=>show Calls Tryz.prog 204 #[.int .u64 (m:Nat),.int .u64 (n.length:Nat)] W (jP W (.agg (bitsL a.testBit).toArray)) from ha ▸ numMul_any m n.length (by omega) (by omega) W);have CT:=jH (fun (W:World) (hW:jB w W)=>show Calls Tryz.prog 206 #[.slice A n.length c] W (jP W (.agg (bitsL t.testBit).toArray)) from ht ▸ numTotal_any _ n W (hv.below hW) hl hi);have CC:=jH (fun W=>show Calls Tryz.prog 205 #[.agg (bitsL a.testBit).toArray,.agg (bitsL t.testBit).toArray] W (jP W (.int .i64 (cmpN a t))) from numCmp_any a t (by omega) (by omega) W)
   have HR:=jH (show decide (0≤cmpN a t)=decide (meanN n≤m) by rw [cmpN_ge,ha,ht];exact decide_eq_decide.2 (meanN_least h0 m));rw [←HR.out];generalize cmpN a t=r at CC ⊢;have hst:=fun W=>bits_store W W.heap.size rfl a.testBit
   clear HR ha ht la lt hp h0 hi hl hv hm
   go_enter Tryz.func171,Tryz.ntmps171
   go_wp2_with (go_at_call 204;refine (C1.out _).mono ?_;rintro e w2 ⟨rfl,hb2⟩;have HB2':=jH hb2;clear hb2)
   refine name_world ?_;intro w4 hW4;have HX4:=jH (show BitB w4 w2.heap.size a.testBit by rw [hW4];exact bit_new w2 a.testBit);have HB2:=jH (show jB w w4 by rw [hW4];exact balloc HB2'.out _);clear hW4 hst;have HB4r:=jH (Below.refl w4.heap.size w4);refine wp_region_held_drew (S:=(fun U:World=>jB w4 U)) (by kernel_rfl) ?hS1 (fun hHeld=>?_)
   case hS1=>first|with_reducible exact HB4r.out|exact HB4r.out.drew|with_reducible exact HB5.out|with_reducible exact HB6.out
   refine wpAnyH_take (i:=0) (v:=.agg (bitsL a.testBit).toArray) rfl (by kernel_rfl) (by kernel_rfl) (by kernel_rfl) (fun _ _ _ h=>h) (yieldsIf_load_mid (by rfl) 280 (.tmp 5) (by rfl) w2.heap.size (0) (by rfl) (bitsL a.testBit) _ (fun U hU=>(HX4.out.below hU).range) Tryz.underlying280 (by rfl) (num_size _)) (by assumption) ?_
   try simp only [Act.put,jA]
   refine wpAnyH_take (i:=1) (v:=?v2) rfl (by kernel_rfl) (by kernel_rfl) (by kernel_rfl) (fun _ _ _ h=>h) (Or.inl ⟨by rfl,?hy2⟩) (by assumption) ?_
   case hy2 =>
    intro w' hSw
    (try dsimp only at hSw)
    go_simp
    try (with_reducible rfl)
   try simp only [Act.put,jA]
   refine wpAnyH_ready (rs:=[2]) (by kernel_rfl) (by simp) ?_;refine AllReadyH.cons rfl (fun K hK=>?_) AllReadyH.nil;go_simp
   go_at_call 206
   refine calls_named ?_;intro W5 hW5;have hb5:jB w4 W5:=by rw [hW5];first|exact jR|exact jR.drew
   clear hW5;refine (CT.out W5 (bthen HB2.out hb5)).mono ?_;rintro e w5 ⟨rfl,hb6⟩;have HB5:=jH (bthen hb5 hb6);clear hb5 hb6
   try go_simp
   refine hK.out _ _ ?hS3 (fun hHeld2=>?_)
   case hS3=>first|with_reducible exact HB4r.out|exact HB4r.out.drew|with_reducible exact HB5.out|with_reducible exact HB6.out
   clear hK K hHeld;have hHeld:=hHeld2;clear hHeld2
   try simp only [Act.put,jA]
   refine wpAnyH_ready (rs:=[3]) (by kernel_rfl) (by simp) ?_;refine AllReadyH.cons rfl (fun K hK=>?_) AllReadyH.nil;go_simp
   go_at_call 205
   refine (CC.out w5).mono ?_;rintro e w6 ⟨rfl,hb6⟩;have HB6:=jH (bthen HB5.out hb6);clear hb6
   try go_simp
   refine hK.out _ _ ?hS4 (fun hHeld2=>?_)
   case hS4=>first|with_reducible exact HB4r.out|exact HB4r.out.drew|with_reducible exact HB5.out|with_reducible exact HB6.out
   clear hK K hHeld;have hHeld:=hHeld2;clear hHeld2
   try simp only [Act.put,jA]
   refine wpAnyH_take (i:=4) (v:=?v5) rfl (by kernel_rfl) (by kernel_rfl) (by kernel_rfl) (fun _ _ _ h=>h) (Or.inl ⟨by rfl,?hy5⟩) (by assumption) ?_
   case hy5 =>
    intro w' hSw
    (try dsimp only at hSw)
    go_simp
    try (with_reducible rfl)
   try simp only [Act.put,jA]
   refine wpAnyH_take (i:=5) (v:=?v6) rfl (by kernel_rfl) (by kernel_rfl) (by kernel_rfl) (fun _ _ _ h=>h) (Or.inl ⟨by rfl,?hy6⟩) (by assumption) ?_
   case hy6 =>
    intro w' hSw
    (try dsimp only at hSw)
    go_simp
    try (with_reducible rfl)
   try simp only [Act.put,jA]
   refine wpAnyH_done (by kernel_rfl) ?_ _;go_wp2
   go_ret
   exact ⟨rfl,bthen HB2.out HB6.out⟩
theorem refMean16_of (v:Value) (l:List Smp) (w:World) (HA:AtM (valsW l)) (hv:RowIn 2 smpC w v l) (hl:l.length≤1000000) (hi:smpI l) :
 Calls Tryz.prog 127 #[v] w (jP w (.int .i64 (meanN (valsW l):Nat))):=by
 have CV:=jH (refVals_any v l w hv hl);have hM:meanN (valsW l)≤9223372036854775807:=meanN_le (fun n hn=>(vals_i64 hi n hn).2);have CA:=jH HA;clear HA hv hi hl;generalize valsW l=n at *;obtain ⟨M,hMe⟩:∃M,M=meanN n:=⟨_,rfl⟩;have CA2:=jH (fun (v:Value) (m:Nat) (W:World) (h:RowIn 1 nmC W v n) (hm:m≤9223372036854775807)=>hMe ▸ CA.out v m W h hm);rw [←hMe] at hM ⊢;clear CA hMe;have HM:=jH hM;clear hM
 go_enter Tryz.func127,Tryz.ntmps127
 go_wp2_with (go_at_call 170;refine CV.out.mono ?_;rintro e w2 ⟨A,c,rfl,hown,hb2⟩;have HB:=jH hb2;have HO:=jH hown;clear hb2 hown)
 clear CV
 go_loopg [4,5] 9223372036854775807 (fun g s4 s5 wr=>∃lo hi:Nat,s4=.int .i64 (lo:Nat)∧s5=.int .i64 (hi:Nat)∧Hid (lo≤M∧M≤hi∧hi≤9223372036854775807∧hi - lo≤g)∧jB w2 wr)
 case atStart=>exact ⟨0,9223372036854775807,rfl,rfl,jH ⟨Nat.zero_le _,HM.out,Nat.le_refl _,by omega⟩,jR⟩
 case round =>
  obtain ⟨lo,hi,rfl,rfl,HH,hb⟩:=hrel;rename World=>wr
  have HBB:=jH hb;have HRW:=jH ((HO.out.row eNm).below hb);clear hb
  by_cases hlt:lo<hi
  · obtain ⟨h1,h2,h3,h4⟩:=HH.out
    obtain ⟨d,hd⟩:∃d:Nat,d=hi - lo:=⟨_,rfl⟩;obtain ⟨h,hh⟩:∃h:Nat,h=d / 2:=⟨_,rfl⟩;obtain ⟨m,hm⟩:∃m,m=lo+h:=⟨_,rfl⟩;obtain ⟨m1,hm1⟩:∃m1:Nat,m1=m+1:=⟨_,rfl⟩;have z1:(lo:Int)<(hi:Int):=by omega
    have CM:=jH (CA2.out _ m wr HRW.out (by omega))
    by_cases q:M≤m
    · rw [decide_eq_true q] at CM
      have HG:=jH (show lo≤M∧M≤m∧m≤9223372036854775807∧m - lo≤m - lo by omega);have HD:=jH (show m - lo<hi - lo∧hi - m1<hi - lo by omega);obtain ⟨x1,x2,x2b,x2c,x3,x5⟩:=halve_law hd hh hm hm1 hlt h3;clear hm hd hh hm1 hlt h1 h2 h3 h4 q
      as_aux_lemma =>
       go_wp2_with (go_at_call 171;refine CM.out.mono ?_;rintro e w5 ⟨rfl,hb5⟩;have HB5:=jH (bthen HBB.out hb5);clear hb5)
       go_roundg (m - lo)
       case measure=>have h8:=HD.out;have h9:=HH.out;omega
       case rel=>exact ⟨lo,m,rfl,rfl,HG,HB5.out⟩
    · rw [decide_eq_false q] at CM
      have HG:=jH (show m1≤M∧M≤hi∧hi≤9223372036854775807∧hi - m1≤hi - m1 by omega);have HD:=jH (show m - lo<hi - lo∧hi - m1<hi - lo by omega);obtain ⟨x1,x2,x2b,x2c,x3,x5⟩:=halve_law hd hh hm hm1 hlt h3;clear hm hd hh hm1 hlt h1 h2 h3 h4 q
      as_aux_lemma =>
       go_wp2_with (go_at_call 171;refine CM.out.mono ?_;rintro e w5 ⟨rfl,hb5⟩;have HB5:=jH (bthen HBB.out hb5);clear hb5)
       go_roundg (hi - m1)
       case measure=>have h8:=HD.out;have h9:=HH.out;omega
       case rel=>exact ⟨m1,hi,by first|rfl|rw [x5],rfl,HG,HB5.out⟩
  · have HE:=jH (show M=lo by have:=HH.out;omega)
    have z1:¬(lo:Int)<(hi:Int):=by omega
    go_wp2_with fail
    go_ret
    exact ⟨by rw [HE.out];rfl,bthen HB.out HBB.out⟩
theorem refMean16_any (v:Value) (l:List Smp) (w:World) (hv:RowIn 2 smpC w v l) (hl:l.length≤1000000) (hi:smpI l) :
 Calls Tryz.prog 127 #[v] w (jP w (.int .i64 (meanN (valsW l):Nat))) :=
 refMean16_of v l w (atLeast_any _ (vals_i64 hi) (by rw [vals_len];exact hl)) hv hl hi
end
section
open Go.RowKit Go.Lib
theorem flNote_any {P:Nat→Prop} {w:World} {M:Nat} {c:Cfg} {rs rh n:Nat} {wd:Wd} {d:FlatD} (s:SK) (av:Adv) (h:FW P w M c rs rh n wd d) (hP:∀b,w.heap.size≤b→P b) (hc:CfgOk c rs rh) (hs:idS s.1=true) :
 Calls Tryz.prog 45 #[.pointer (some ⟨M,0,none⟩),.string s.1,.agg (advC av).toArray] w (FWSays P w M c rs rh (n+1) d.L (.bool (noteW c rs rh wd s.1 av).2) (noteW c rs rh wd s.1 av).1):=by
 cases hf:findM d.es s with
 | none =>
   have CL:=jH (fun W (hW:jB w W)=>flLoad_any s W (h.at_.below hW) (h.small hc));rw [hf] at CL;rw [h.at_.tells.note_no s hs av hf];refine (flNote_none _ _ av w CL).mono ?_;rintro e w' ⟨rfl,hb⟩;exact h.same (Nat.le_succ _) hb
 | some x =>
   rw [(h.at_.tells.note (rs:=rs) hc.st s hs av x hf ⟨x.key,x.sA,x.sc,x.pA,x.pc,noteF rh x.nd av⟩ rfl).1];exact flNote_some s av x h hP hc hs hf
theorem FlTells.none {c:Cfg} {es:List (SK × It)} {wd:Wd} (h:FlTells c es wd) (s:SK) (hs:idS s.1=false):findM es s=none:=by
 refine findM_none ?_
 cases hh:hasM es s with
 | false=>rfl
 | true =>
   obtain ⟨p,hp,rfl⟩:=List.mem_map.1 ((hasM_iff es s).1 hh);rw [h.has.1 p hp] at hs
   cases hs
theorem fw_new (c:Cfg) (rs rh k:Nat) (w:World) (hc:CfgOk c rs rh) (hk:(k:Int)=c.st) :
 Calls Tryz.prog 10 #[cfgV c] w fun e w'=>∃M d,e=.returned (.pointer (some ⟨M,0,none⟩))∧FW (fun b=>b≠M∧b≠d.L) w' M c rs rh 0 (newW k) d∧w.heap.size≤M∧w.heap.size≤d.L∧jB w w':=by
 refine (flNew_ok c rs rh k w hc.ok (by unfold cfgE;rw [if_pos hc.cfg]) hk).mono ?_;rintro e w' ⟨M,d,rfl,h,h1,h2,h3⟩;exact ⟨M,d,rfl,⟨h,newW_ok c rs rh k hk⟩,h1,h2,h3⟩
theorem i64_sm {n:Int} (h:0≤n∧n≤1000):I64 n:=by unfold I64;omega
end
section
open Go.RowKit Go.Lib
theorem cfgOk_of22 {c:Cfg} (hc:cfgB c=true) (hok:c.ok):CfgOk c c.sa.toNat c.hi.toNat:=by
 have h:=hc;unfold cfgB at h;simp only [Bool.and_eq_true,decide_eq_true_eq] at h
 exact ⟨hc,by omega,by omega,hok⟩
theorem flNote_bad {P:Nat→Prop} {w:World} {M:Nat} {c:Cfg} {rs rh n:Nat} {wd:Wd} {d:FlatD} (s:SK) (av:Adv) (h:FW P w M c rs rh n wd d) (hc:CfgOk c rs rh) (hs:idS s.1=false) :
 Calls Tryz.prog 45 #[.pointer (some ⟨M,0,none⟩),.string s.1,.agg (advC av).toArray] w (jP w (.bool false)):=by
 have CL:=jH (fun W (hW:jB w W)=>flLoad_any s W (h.at_.below hW) (h.small hc));rw [h.at_.tells.none s hs] at CL;exact flNote_none _ _ av w CL
end
end Go.Proofs.YtkcdhaallnhhmaaGreat
