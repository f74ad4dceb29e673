/- Part 32 of the proof. -/
import Derived.Test.YtmniiodpbebnmaaGreatJ31
import Derived.Laws.ResultCell
import Derived.Laws.Rows
import Derived.Deep.RegionHeld
namespace Go.Proofs.YtmniiodpbebnmaaGreat
set_option linter.unusedSimpArgs false
set_option linter.unusedVariables false
set_option linter.unusedSectionVars false
set_option maxRecDepth 100000
set_option maxHeartbeats 16000000
section
open Go.RowKit Go.Lib
theorem y0L (n i:Nat):(2 * n).testBit (i+1)=n.testBit i:=by
 rw [Nat.testBit_succ]
 congr 1
 omega
theorem w0D (n:Nat):(2 * n).testBit 0=false:=by
 rw [Nat.testBit_zero];simp
theorem p0R {fn:Func} {p u:Tmp} {ty:TypeId} (h:fn.results=#[.cell p ty,.tmp u]) {tmps:Array Value} {w:World} {g:Nat} {v:Value} (hp:tmps.getD p undef=.pointer (some ⟨g,0,none⟩)) (hl:(loadVar ty ⟨g,0,none⟩).run Tryz.prog w=.ok v w) :
 (results fn tmps).run Tryz.prog w=.ok (.tuple #[v,tmps.getD u undef]) w:=by
 rw [results_cell_tmp h,hp];simp [asAddr,hl,Result.andThen]
theorem t0T {f:Nat→Bool} {n:Nat} (h:∀j,j<128→f j=n.testBit j):Value.agg (a0R f).toArray=a1Q n:=by
 unfold a1Q;rw [u0W h]
theorem box4_3 (w:World) (a b c d:Obj):((((w.alloc a).alloc b).alloc c).alloc d).heap[w.heap.size+1+1+1]?=some d:=by
 have h:=heap_alloc_new (((w.alloc a).alloc b).alloc c) d
 simpa using h
theorem q1L (n:Nat) (w:World) :
 Calls Tryz.prog 304 #[a1Q n] w (jP w (a1Q (2 * n))):=by
 unfold a1Q
 go_enter Tryz.func304,Tryz.ntmps304
 go_wp2_with fail
 rw [f0S]
 go_loopg [4] 127 (fun g s4 wr=>∃(i:Nat) (f:Nat→Bool),i<128∧127 - i≤g∧s4=.int .i64 (i+1:Nat)∧Hid (∀j,j<128→f j=(decide (j≤i) && (2 * n).testBit j))∧jB w wr∧e0W wr w.heap.size n.testBit∧e0W wr (w.heap.size+1) (fun _=>false)∧e0W wr (w.heap.size+1+1) f)
 case atStart=>exact ⟨0,fun _=>false,by omega,Nat.le_refl _,rfl,jH (fun j hj=>by
                  cases j with
                  | zero=>simp [w0D]
                  | succ j=>simp),a0C (a0C (a0C jR _) _) _,f0B _ _ _ _,f0X _ _ _ _,f0Q _ _ _ _⟩
 case round =>
  obtain ⟨i,f,hi,hg,rfl,HF,hb,hx,hz,hq⟩:=hrel;rename World=>wr
  have HB:=jH hb;have HX:=jH hx;have HZ:=jH hz;have HQ:=jH hq;clear hb hz
  by_cases hlt:i+1<128
  · obtain ⟨c1,c2⟩:=hx.cell (i:=i) (by omega)
    obtain ⟨c3,c4⟩:=hq.cell hlt;have HL:=jH hlt;clear hx hq;have z1:((i+1:Nat):Int)<128:=by omega
    have z2:wrap64 (((i+1:Nat):Int) - 1)=(i:Int):=by unfold wrap64;omega
    have z3:(i:Int)<128:=by omega
    have z4:(0:Int)≤(i:Int):=by omega
    have z5:(0:Int)≤((i+1:Nat):Int):=by omega
    go_wp2_with fail
    go_roundg (127 - (i+1))
    case measure=>omega
    case rel=>exact ⟨i+1,m1C f (i+1) (n.testBit i),HL.out,Nat.le_refl _,by go_num,jH (fun j hj=>by
                 unfold m1C
                 by_cases e:j=i+1
                 · subst e;simp [y0L]
                 · rw [if_neg e,HF.out j hj]
                   congr 1
                   rw [decide_eq_decide];omega),HB.out.setCell (by simp;omega) _,HX.out.ne (by omega),HZ.out.ne (by omega),HQ.out.set HL.out _⟩
  · obtain rfl:i=127:=by omega
    clear hx hq
    go_wp2_with (first
     | (refine a0M rfl 338 (.tmp 3) rfl (w.heap.size+1+1) 0 (a0R f) HQ.out.range (by rfl) _ Tryz.underlying338 (by rfl) (b0C f) ?_)
     | (refine wpList_store_mid rfl 338 (.tmp 2) (.tmp 17) rfl (w.heap.size+1) 0 (a0R f).toArray (by rfl) (by rfl) (HZ.out.there f) (c0A f) (d0N f) ?_))
    obtain ⟨hs1,_,hs3⟩:=HZ.out.store f;refine bodyPost_ret (v:=.agg (a0R f).toArray) (results_cell_row Tryz.results304 _ _ _ _ _ _ _ (by rfl) hs1 Tryz.underlying338 rfl (c0A f)) rfl ⟨?_,HB.out.trans (hs3 _ (by omega))⟩;rw [t0T (fun j hj=>by rw [HF.out j hj,decide_eq_true (by omega),Bool.true_and])];rfl
def ofF (hi lo i j:Nat):Bool:=if j<64 then decide (j<i) && lo.testBit j else decide (j<64+i) && hi.testBit (j - 64)
theorem of_end {hi lo:Nat} (hl:lo<18446744073709551616) {j:Nat} (hj:j<128):ofF hi lo 64 j=(hi * 18446744073709551616+lo).testBit j:=by
 unfold ofF;have e:(18446744073709551616:Nat)=2 ^ 64:=by decide
 rw [e] at hl ⊢;rw [Nat.mul_comm,Nat.testBit_two_pow_mul_add _ hl]
 by_cases h:j<64
 · rw [if_pos h,if_pos h,decide_eq_true h,Bool.true_and]
 · rw [if_neg h,if_neg h,decide_eq_true (by omega),Bool.true_and]
theorem a1O (x i:Nat) (hx:x<18446744073709551616) (hi:i<64):((((x:Int) / 2 ^ i).tmod 2 == 1)=x.testBit i):=by
 rw [Nat.testBit_eq_decide_div_mod_eq];have e:((x:Int) / 2 ^ i).tmod 2=((x / 2 ^ i % 2:Nat):Int):=by
  have e1:(x:Int) / 2 ^ i=((x / 2 ^ i:Nat):Int):=by rw [Int.natCast_ediv,Int.natCast_pow];rfl
  rw [e1];rfl
 rw [e];generalize x / 2 ^ i % 2=m;rw [Bool.eq_iff_iff];simp
 omega
theorem v0V (hi lo:Nat) (hh:hi<18446744073709551616) (hl:lo<18446744073709551616) (w:World) :
 Calls Tryz.prog 303 #[.int .u64 hi,.int .u64 lo] w (jP w (a1Q (hi * 18446744073709551616+lo))):=by
 have HH:=jH hh;have HLo:=jH hl;clear hh hl
 go_enter Tryz.func303,Tryz.ntmps303
 go_wp2_with fail
 rw [f0S]
 go_loopg [6] 64 (fun g s6 wr=>∃(i:Nat) (f:Nat→Bool),i≤64∧64 - i≤g∧s6=.int .i64 i∧Hid (∀j,j<128→f j=ofF hi lo i j)∧jB w wr∧e0W wr w.heap.size (fun _=>false)∧e0W wr (w.heap.size+1) f)
 case atStart=>exact ⟨0,fun _=>false,by omega,Nat.le_refl _,rfl,jH (fun j hj=>by unfold ofF;split <;> simp;omega),a0C (a0C jR _) _,c0J _ _ _,b0R _ _ _⟩
 case round =>
  obtain ⟨i,f,hi2,hg,rfl,HF,hb,hz,hq⟩:=hrel;rename World=>wr
  have HB:=jH hb;have HZ:=jH hz;have HQ:=jH hq;clear hb hz
  by_cases hlt:i<64
  · obtain ⟨c3,c4⟩:=hq.cell (i:=i) (by omega)
    obtain ⟨c5,c6⟩:=hq.cell (i:=64+i) (by omega);have HL:=jH hlt;clear hq;have z1:(i:Int)<64:=by omega
    have z2:wrap64 (64+(i:Int))=((64+i:Nat):Int):=by unfold wrap64;omega
    have z3:((64+i:Nat):Int)<128:=by omega
    have z4:(0:Int)≤(i:Int):=by omega
    have z5:(0:Int)≤((64+i:Nat):Int):=by omega
    have z6:(i:Int)<128:=by omega
    have z7:IntKind.u64.wrap (i:Int)=(i:Int):=c0E i (by omega);have g1:=a1O lo i HLo.out hlt;have g2:=a1O hi i HH.out hlt;go_wp2_with fail
    go_roundg (64 - (i+1))
    case measure=>omega
    case rel=>exact ⟨i+1,m1C (m1C f i (lo.testBit i)) (64+i) (hi.testBit i),HL.out,Nat.le_refl _,by go_num,jH (fun j hj=>by
                 have hL:=HL.out;unfold m1C
                 by_cases e:j=64+i
                 · subst e
                   rw [if_pos rfl];unfold ofF;rw [if_neg (by omega),decide_eq_true (by omega),Bool.true_and]
                   congr 1
                   omega
                 · rw [if_neg e]
                   by_cases e2:j=i
                   · subst e2
                     rw [if_pos rfl];unfold ofF;rw [if_pos hL,decide_eq_true (by omega),Bool.true_and]
                   · rw [if_neg e2,HF.out j hj]
                     unfold ofF
                     split
                     · congr 1
                       rw [decide_eq_decide];omega
                     · congr 1
                       rw [decide_eq_decide];omega),(HB.out.setCell (by simp) _).setCell (by simp) _,(HZ.out.ne (by omega)).ne (by omega),(HQ.out.set (by have:=HL.out;omega) _).set (by have:=HL.out;omega) _⟩
  · obtain rfl:i=64:=by omega
    clear hq
    go_wp2_with (first
     | (refine a0M rfl 338 (.tmp 5) rfl (w.heap.size+1) 0 (a0R f) HQ.out.range (by rfl) _ Tryz.underlying338 (by rfl) (b0C f) ?_)
     | (refine wpList_store_mid rfl 338 (.tmp 4) (.tmp 30) rfl (w.heap.size) 0 (a0R f).toArray (by rfl) (by rfl) (HZ.out.there f) (c0A f) (d0N f) ?_))
    obtain ⟨hs1,_,hs3⟩:=HZ.out.store f;refine bodyPost_ret (v:=.agg (a0R f).toArray) (results_cell_row Tryz.results303 _ _ _ _ _ _ _ (by rfl) hs1 Tryz.underlying338 rfl (c0A f)) rfl ⟨?_,HB.out.trans (hs3 _ (Nat.le_refl _))⟩;rw [t0T (fun j hj=>(HF.out j hj).trans (of_end HLo.out hj))]
theorem m0J (a b:Nat) (ha:a<340282366920938463463374607431768211456) (hb2:b<340282366920938463463374607431768211456) (hs:a+b<340282366920938463463374607431768211456) (w:World) :
 Calls Tryz.prog 276 #[a1Q a,a1Q b] w (jP w (.tuple #[a1Q (a+b),.bool true])):=by
 unfold a1Q;have HC0:=jH (show y0A a b 128=0 by rw [n1W a b 128 (by rw [←q0S];exact ha) (by rw [←q0S];exact hb2),←q0S];exact Nat.div_eq_of_lt hs);clear ha hb2 hs
 go_enter Tryz.func276,Tryz.ntmps276
 go_wp2_with fail
 rw [f0S]
 go_loopg [7,8] 128 (fun g s7 s8 wr=>∃(i:Nat) (f:Nat→Bool),i≤128∧128 - i≤g∧s8=.int .i64 i∧s7=.int .i64 (y0A a b i:Nat)∧Hid (∀j,j<128→f j=(decide (j<i) && (a+b).testBit j))∧jB w wr∧e0W wr w.heap.size a.testBit∧e0W wr (w.heap.size+1) b.testBit∧e0W wr (w.heap.size+1+1) (fun _=>false)∧e0W wr (w.heap.size+1+1+1) f)
 case atStart=>exact ⟨0,fun _=>false,by omega,Nat.le_refl _,rfl,by rw [i1S];rfl,jH (fun j hj=>by simp),a0C (a0C (a0C (a0C jR _) _) _) _,e0W.below (f0B _ _ _ _) (a0C jR _),e0W.below (f0X _ _ _ _) (a0C jR _),e0W.below (f0Q _ _ _ _) (a0C jR _),box4_3 _ _ _ _ _⟩
 case round =>
  obtain ⟨i,f,hi2,hg,rfl,rfl,HF,hb,hx,hy,hz,hq⟩:=hrel;rename World=>wr
  have HB:=jH hb;have HX:=jH hx;have HY:=jH hy;have HZ:=jH hz;have HQ:=jH hq;clear hb hz
  by_cases hlt:i<128
  · obtain ⟨c1,c2⟩:=hx.cell hlt
    obtain ⟨c3,c4⟩:=hy.cell hlt;obtain ⟨c5,c6⟩:=hq.cell hlt;have HL:=jH hlt;clear hx hy hq;have z1:(i:Int)<128:=by omega
    have z4:(0:Int)≤(i:Int):=by omega
    have hcs:=k1N a b i;have hsb:=t1Z a b i;have hcl:=t1E a b i;obtain ⟨cc,hcc⟩:∃cc,cc=y0A a b i:=⟨_,rfl⟩;obtain ⟨cn,hcn⟩:∃cn,cn=y0A a b (i+1):=⟨_,rfl⟩;obtain ⟨sb,hsb2⟩:∃sb,sb=(a+b).testBit i:=⟨_,rfl⟩;rw [←hcc] at hcs hsb hcl ⊢;rw [←hcn] at hcs;rw [←hsb2] at hsb;have HCN:=jH hcn;have HSB:=jH hsb2;clear hcc hcn hsb2;have REL:Hid (∀(q:Bool),q=sb→(∀j,j<128→m1C f i q j=(decide (j<i+1) && (a+b).testBit j))):=jH (fun q hq j hj=>by
     unfold m1C
     by_cases e:j=i
     · subst e;rw [if_pos rfl,hq,HSB.out];simp
     · rw [if_neg e,HF.out j hj]
       congr 1
       rw [decide_eq_decide];omega)
    cases hA:a.testBit i <;> cases hB:b.testBit i
    all_goals
      rw [hA] at c1 hcs hsb;rw [hB] at c3 hcs hsb;simp only [Bool.toNat_false,Bool.toNat_true,Nat.add_zero] at hcs hsb
      have HN:=jH (And.intro hcs hsb);have HCL:=jH hcl;clear hcs hsb hcl hA hB
      as_aux_lemma =>
      go_wp2_with fail
      go_roundg (128 - (i+1))
      case measure=>omega
      case rel=>exact ⟨i+1,m1C f i _,HL.out,Nat.le_refl _,by go_num,by
                   rw [←HCN.out,HN.out.1];obtain rfl|rfl:cc=0∨cc=1:=by have:=HCL.out;omega
                   all_goals exact congrArg (Value.int .i64) (by decide +kernel),jH (REL.out _ (by
                   rw [HN.out.2];obtain rfl|rfl:cc=0∨cc=1:=by have:=HCL.out;omega
                   all_goals decide +kernel)),HB.out.setCell (by simp;omega) _,HX.out.ne (by omega),HY.out.ne (by omega),HZ.out.ne (by omega),HQ.out.set HL.out _⟩
  · obtain rfl:i=128:=by omega
    rw [HC0.out];clear hx hy hq
    go_wp2_with (first
     | (refine a0M rfl 338 (.tmp 6) rfl (w.heap.size+1+1+1) 0 (a0R f) HQ.out.range (by rfl) _ Tryz.underlying338 (by rfl) (b0C f) ?_)
     | (refine wpList_store_mid rfl 338 (.tmp 4) (.tmp 38) rfl (w.heap.size+1+1) 0 (a0R f).toArray (by rfl) (by rfl) (HZ.out.there f) (c0A f) (d0N f) ?_))
    obtain ⟨hs1,_,hs3⟩:=HZ.out.store f;have hld:=hs1.load;refine bodyPost_ret (v:=.tuple #[.agg (a0R f).toArray,.bool true]) (p0R Tryz.results276 (by rfl) hld) rfl ⟨?_,HB.out.trans (hs3 _ (by omega))⟩;rw [t0T (fun j hj=>(HF.out j hj).trans (by rw [decide_eq_true hj,Bool.true_and]))];rfl
theorem r0R (a b:Nat) (ha:a<340282366920938463463374607431768211456) (hb2:b<340282366920938463463374607431768211456) (w:World) :
 Calls Tryz.prog 273 #[a1Q a,a1Q b] w (jP w (.int .i64 (s0F a b))):=by
 unfold a1Q;have HAB:=jH (show a / 2 ^ 128=b / 2 ^ 128 by rw [←q0S,Nat.div_eq_of_lt ha,Nat.div_eq_of_lt hb2]);clear ha hb2
 go_enter Tryz.func273,Tryz.ntmps273
 go_wp2_with fail
 go_loopg [5] 128 (fun g s5 wr=>∃(i:Nat),i≤128∧i≤g∧s5=.int .i64 ((i:Int) - 1)∧Hid (a / 2 ^ i=b / 2 ^ i)∧jB w wr∧e0W wr w.heap.size a.testBit∧e0W wr (w.heap.size+1) b.testBit)
 case atStart=>exact ⟨128,Nat.le_refl _,Nat.le_refl _,rfl,HAB,a0C (a0C jR _) _,c0J _ _ _,b0R _ _ _⟩
 case round =>
  obtain ⟨i,hi2,hg,rfl,HE,hb,hx,hy⟩:=hrel;rename World=>wr
  have HB:=jH hb;have HX:=jH hx;have HY:=jH hy;clear hb
  cases i with
  | zero =>
    have HC:=jH (show s0F a b=0 by
     have:=HE.out;simp at this
     simp [s0F,this])
    clear hx hy;go_wp2_with fail
    go_ret
    exact ⟨by rw [HC.out];rfl,HB.out⟩
  | succ i =>
    obtain ⟨c1,c2⟩:=hx.cell (i:=i) (by omega);obtain ⟨c3,c4⟩:=hy.cell (i:=i) (by omega);have z0:(((i+1:Nat):Int) - 1)=(i:Int):=by omega
    rw [z0];have z1:(i:Int)<128:=by omega
    have z4:(0:Int)≤(i:Int):=by omega
    have HI:=jH hi2;clear hx hy z0
    by_cases hd:a.testBit i=b.testBit i
    · have HN:=jH (j1S HE.out hd)
      rw [←hd] at c3;generalize a.testBit i=q at c1 c3;clear hd
      as_aux_lemma =>
      cases q
      all_goals
        go_upto_region 4 with fail
        go_region
        all_goals
          go_wp2_with fail
          go_roundg i
          case measure=>omega
          case rel=>exact ⟨i,by have:=HI.out;omega,Nat.le_refl _,by go_num,HN,HB.out.drew,HX.out,HY.out⟩
    · have HC:=jH (o1I HE.out hd)
      cases hA:a.testBit i <;> cases hB:b.testBit i
      · rw [hA,hB] at hd;exact absurd rfl hd
      · rw [hA] at c1
        rw [hB] at c3;rw [hA] at HC;clear hd hA hB
        as_aux_lemma =>
        go_upto_region 4 with fail
        go_region
        all_goals
          go_wp2_with fail
          go_ret
          exact ⟨by rw [HC.out];rfl,HB.out.drew⟩
      · rw [hA] at c1
        rw [hB] at c3;rw [hA] at HC;clear hd hA hB
        as_aux_lemma =>
        go_upto_region 4 with fail
        go_region
        all_goals
          go_wp2_with fail
          go_ret
          exact ⟨by rw [HC.out];rfl,HB.out.drew⟩
      · rw [hA,hB] at hd;exact absurd rfl hd
end
section
open Go
section
section
variable {P:Program} {ops:Array Oper} {Q:Exit→Act→World→Prop} {md:Region.Mode} {S:World→Prop} {k:Nat}
def g0T (P:Program) (md:Region.Mode) (ops:Array Oper) (Q:Exit→Act→World→Prop) (S:World→Prop) (k:Nat):Nat→Array Bool→Act→World→Prop
  | 0,listed,a,w=>Region.ready md ops listed=[]∧Q .normal a w
  | fuel+1,listed,a,w =>
    (Region.ready md ops listed=[]→Q .normal a w) ∧
    ∀i∈Region.ready md ops listed,wpOp P ops Q i (fun a' w'=>((listed.setIfInBounds i true).getD k true=false→S w')∧g0T P md ops Q S k fuel (listed.setIfInBounds i true) a' w') a w
theorem r0E:∀(fuel:Nat) (listed:Array Bool) (a:Act) (w:World),g0T P md ops Q S k fuel listed a w→wpAny P md ops Q fuel listed a w
  | 0,_,_,_,h=>h
  | fuel+1,_,_,_,h=>⟨h.1,fun i hi=>wpOp_mono (fun a' w' h'=>r0E fuel _ a' w' h'.2) (h.2 i hi)⟩
def s0S (md:Region.Mode) (ops:Array Oper) (i:Nat):List Nat :=
 (List.range ops.size).foldl (fun W j=>if (match ops[j]? with|some o=>o.after.any (fun e=>Region.binds md e && (e.on == i || W.contains e.on))|none=>false)=true then j::W else W) []
def r1O (md:Region.Mode) (ops:Array Oper) (W:List Nat) (i:Nat):Bool:=W.all fun j=>match ops[j]? with|some o=>o.after.any (fun e=>Region.binds md e && (e.on == i || W.contains e.on))|none=>false
theorem x0I {i:Nat} {oi:Oper} {v:Value} {W:List Nat} (hi:ops[i]?=some oi) (hik:i≠k) (hsel:∀(j:Nat) (o:Oper) cs b,ops[j]?=some o→o.op≠.select cs b)
    (hQ:∀c a w,Q (.panic c) (a.put oi.dst v) w→Q (.panic c) a w) (hkW:k∈W) (hw:r1O md ops W i=true) :
    ∀ (fuel:Nat) (listed:Array Bool) (a:Act) (w:World),
      (∀j oj,ops[j]?=some oj→j≠i→listed.getD j true=false→(∀e∈oj.after,Region.binds md e=true→e.on≠i)→oi.apart ops oj=true) →
      i∈Region.ready md ops listed→(∀j∈W,listed.getD j true=false)→YieldsIf P ops S oi v a→S w →
      g0T P md ops Q S k fuel (listed.setIfInBounds i true) (a.put oi.dst v) w→g0T P md ops Q S k (fuel+1) listed a w:=by
  intro fuel
  induction fuel with
  | zero =>
    intro listed a w _ hr _ hy hS H;refine ⟨fun h=>(by rw [h] at hr;cases hr),fun j hj=>?_⟩
    by_cases hji:j=i
    · subst hji;exact hy.wpOp hi hS ⟨fun _=>hS,H⟩
    · have:=ready_mono hj hji
      rw [H.1] at this
      cases this
  | succ fuel ih =>
    intro listed a w hfree hr hWl hy hS H;refine ⟨fun h=>(by rw [h] at hr;cases hr),fun j hj=>?_⟩
    by_cases hji:j=i
    · subst hji;exact hy.wpOp hi hS ⟨fun _=>hS,H⟩
    · have h1:=H.2 j (ready_mono hj hji)
      obtain ⟨hjun,oj,hoj,hall⟩:=mem_ready.1 hj;have hlist:∀e∈oj.after,Region.binds md e=true→listed.getD e.on true=true:=fun e he hb=>by
       have h1:=hall e he hb
       rcases Nat.lt_or_ge e.on listed.size with h'|h'
       · simpa [h'] using h1
       · simp [Array.getElem?_eq_none h'] at h1 ⊢
      have hiun:listed.getD i true=false:=(mem_ready.1 hr).1;have hnot:∀e∈oj.after,Region.binds md e=true→e.on≠i:=fun e he hb heq=>by
       have h1:=hlist e he hb;rw [heq,hiun] at h1
       cases h1
      have hjW:j∉W:=fun hm=>by
       have h2:=List.all_eq_true.1 hw j hm;rw [hoj] at h2;simp only [Array.any_eq_true'] at h2
       obtain ⟨e,he,hb⟩:=h2;simp only [Bool.and_eq_true,Bool.or_eq_true,beq_iff_eq,List.contains_iff_mem] at hb
       have h3:=hlist e he hb.1
       rcases hb.2 with h4|h4
       · exact hnot e he hb.1 h4
       · rw [hWl _ h4] at h3;cases h3
      have hjk:j≠k:=fun e=>hjW (e ▸ hkW)
      have h2:=wpOp_putIf hoj (hfree j oj hoj hji hjun hnot) (fun cs b=>hsel i oi cs b hi) (fun cs b=>hsel j oj cs b hoj) hQ hy h1
      have hfree':∀k ok,ops[k]?=some ok→k≠i→(listed.setIfInBounds j true).getD k true=false →
          (∀e∈ok.after,Region.binds md e=true→e.on≠i)→oi.apart ops ok=true:=fun k ok hk hki hun hno=>by
        refine hfree k ok hk hki ?_ hno
        by_cases hjk:j=k
        · subst hjk;exact hjun
        · rw [getD_set_ne true hjk] at hun;exact hun
      have hWl':∀j'∈W,(listed.setIfInBounds j true).getD j' true=false:=fun j' hj'=>by
       have hne:j≠j':=fun e=>hjW (by rw [e];exact hj')
       rw [getD_set_ne true hne];exact hWl j' hj'
      have hc:((listed.setIfInBounds i true).setIfInBounds j true).getD k true=false:=by
       rw [Array.setIfInBounds_comm _ _ (Ne.symm hji),getD_set_ne true hik];exact hWl' k hkW
      refine wpOp_mono (fun a' w' h3=>⟨fun _=>h3.2.1 hc,ih (listed.setIfInBounds j true) a' w' hfree' (ready_mono hr (Ne.symm hji)) hWl' h3.1 (h3.2.1 hc) ?_⟩) h2;rw [Array.setIfInBounds_comm _ _ hji];exact h3.2.2
theorem z0M {i:Nat} {oi:Oper} {v:Value} (hi:ops[i]?=some oi) (hik:i≠k) (hsel:∀(j:Nat) (o:Oper) cs b,ops[j]?=some o→o.op≠.select cs b)
    (hQ:∀c a w,Q (.panic c) (a.put oi.dst v) w→Q (.panic c) a w) :
    ∀ (fuel:Nat) (listed:Array Bool) (a:Act) (w:World),
      (∀j oj,ops[j]?=some oj→j≠i→listed.getD j true=false→(∀e∈oj.after,Region.binds md e=true→e.on≠i)→oi.apart ops oj=true) →
      i∈Region.ready md ops listed→YieldsIf P ops (fun _=>True) oi v a→(listed.getD k true=false→S w) →
      g0T P md ops Q S k fuel (listed.setIfInBounds i true) (a.put oi.dst v) w→g0T P md ops Q S k (fuel+1) listed a w:=by
  intro fuel
  induction fuel with
  | zero =>
    intro listed a w _ hr hy hS H;refine ⟨fun h=>(by rw [h] at hr;cases hr),fun j hj=>?_⟩
    by_cases hji:j=i
    · subst hji;exact hy.wpOp hi trivial ⟨fun h=>hS (by rwa [getD_set_ne true hik] at h),H⟩
    · have:=ready_mono hj hji
      rw [H.1] at this
      cases this
  | succ fuel ih =>
    intro listed a w hfree hr hy hS H;refine ⟨fun h=>(by rw [h] at hr;cases hr),fun j hj=>?_⟩
    by_cases hji:j=i
    · subst hji;exact hy.wpOp hi trivial ⟨fun h=>hS (by rwa [getD_set_ne true hik] at h),H⟩
    · have h1:=H.2 j (ready_mono hj hji)
      obtain ⟨hjun,oj,hoj,hall⟩:=mem_ready.1 hj;have hnot:∀e∈oj.after,Region.binds md e=true→e.on≠i:=fun e he hb heq=>by
       have h1:=hall e he hb;have h0:=(mem_ready.1 hr).1;rw [heq] at h1
       rcases Nat.lt_or_ge i listed.size with h'|h'
       · simp [h'] at h0 h1;rw [h0] at h1;cases h1
       · simp [Array.getElem?_eq_none h'] at h1
      have h2:=wpOp_putIf hoj (hfree j oj hoj hji hjun hnot) (fun cs b=>hsel i oi cs b hi) (fun cs b=>hsel j oj cs b hoj) hQ hy h1
      have hfree':∀k ok,ops[k]?=some ok→k≠i→(listed.setIfInBounds j true).getD k true=false →
          (∀e∈ok.after,Region.binds md e=true→e.on≠i)→oi.apart ops ok=true:=fun k ok hk hki hun hno=>by
        refine hfree k ok hk hki ?_ hno
        by_cases hjk:j=k
        · subst hjk;exact hjun
        · rw [getD_set_ne true hjk] at hun;exact hun
      have hc:((listed.setIfInBounds i true).setIfInBounds j true).getD k true=(listed.setIfInBounds j true).getD k true:=by
       rw [Array.setIfInBounds_comm _ _ (Ne.symm hji),getD_set_ne true hik]
      refine wpOp_mono (fun a' w' h3=>⟨fun h=>h3.2.1 (hc.trans h),ih (listed.setIfInBounds j true) a' w' hfree' (ready_mono hr (Ne.symm hji)) h3.1 (fun h=>h3.2.1 (hc.trans h)) ?_⟩) h2;rw [Array.setIfInBounds_comm _ _ hji];exact h3.2.2
theorem b0Z {i:Nat} {oi:Oper} {v:Value} {fuel:Nat} {listed:Array Bool} {a:Act} {w:World} (hi:ops[i]?=some oi)
    (hs:Region.noSelect ops=true) (hf:Region.free md ops listed i=true) (hr:(Region.ready md ops listed).contains i=true) (hik:decide (i≠k)=true)
    (hQ:∀c a w,Q (.panic c) (a.put oi.dst v) w→Q (.panic c) a w) (hy:YieldsIf P ops (fun _=>True) oi v a) (hS:S w)
    (h:g0T P md ops Q S k fuel (listed.setIfInBounds i true) (a.put oi.dst v) w):g0T P md ops Q S k (fuel+1) listed a w :=
  z0M hi (of_decide_eq_true hik) (Region.noSelect_spec hs) hQ fuel listed a w (Region.free_spec hi hf) (by simpa using hr) hy (fun _=>hS) h
def r1Z (md:Region.Mode) (ops:Array Oper) (listed:Array Bool) (k i:Nat):Bool :=
 decide (i≠k) && (s0S md ops i).contains k && r1O md ops (s0S md ops i) i && (s0S md ops i).all fun j=>listed.getD j true == false
theorem a0L {i:Nat} {oi:Oper} {v:Value} {fuel:Nat} {listed:Array Bool} {a:Act} {w:World} (hi:ops[i]?=some oi)
    (hs:Region.noSelect ops=true) (hf:Region.free md ops listed i=true) (hr:(Region.ready md ops listed).contains i=true) (hw:r1Z md ops listed k i=true)
    (hQ:∀c a w,Q (.panic c) (a.put oi.dst v) w→Q (.panic c) a w) (hy:YieldsIf P ops S oi v a) (hS:S w)
    (h:g0T P md ops Q S k fuel (listed.setIfInBounds i true) (a.put oi.dst v) w):g0T P md ops Q S k (fuel+1) listed a w:=by
  simp only [r1Z,Bool.and_eq_true,decide_eq_true_eq,List.contains_iff_mem,List.all_eq_true,beq_iff_eq] at hw
  obtain ⟨⟨⟨h1,h2⟩,h3⟩,h4⟩:=hw;exact x0I hi h1 (Region.noSelect_spec hs) hQ h2 h3 fuel listed a w (Region.free_spec hi hf) (by simpa using hr) h4 hy hS h
theorem a0W {i:Nat} {o:Oper} {fuel:Nat} {listed:Array Bool} {a:Act} {w:World} (hr:Region.ready md ops listed=[i]) (ho:ops[i]?=some o)
    (h:∀K':Act→World→Prop,Shut (∀a w,((listed.setIfInBounds i true).getD k true=false→S w)→(((listed.setIfInBounds i true).getD k true=false→S w)→g0T P md ops Q S k fuel (listed.setIfInBounds i true) a w)→K' a w)→if Region.wanted o (yielded ops a.tmps)=true then Oper.wp P o a w K' Q else K' (a.put o.dst undef) w) :
    g0T P md ops Q S k (fuel+1) listed a w:=by
  refine ⟨fun h0=>(by rw [hr] at h0;cases h0),fun j hj=>?_⟩;rw [hr] at hj;obtain rfl:=List.mem_singleton.1 hj;have h2:=h (fun a' w'=>((listed.setIfInBounds j true).getD k true=false→S w')∧g0T P md ops Q S k fuel (listed.setIfInBounds j true) a' w') (fun a w h1 h2=>⟨h1,h2 h1⟩);unfold Go.wpOp;simp only [ho]
  split
  · rename_i hw
    rw [if_pos hw] at h2;exact Or.inl h2
  · rename_i hw
    rw [if_neg hw] at h2;exact h2
theorem d0F {listed:Array Bool} {a:Act} {w:World} (hr:Region.ready md ops listed=[]) (h:Q .normal a w) :
 ∀fuel,g0T P md ops Q S k fuel listed a w
 | 0=>⟨hr,h⟩
 | _+1=>⟨fun _=>h,by rw [hr];simp⟩
theorem d0E {id:Nat} {a:Act} {w:World} (k:Nat) (hm:P.follows .mixedOrders=true) (hS:S w.drew)
    (h:S w.drew→g0T P .any ops Q S k ops.size (Array.replicate ops.size false) a w.drew):(Code.region id ops true).wp P Q a w :=
  wp_region_any hm (r0E _ _ _ _ (h hS))
end
end
end
end Go.Proofs.YtmniiodpbebnmaaGreat
