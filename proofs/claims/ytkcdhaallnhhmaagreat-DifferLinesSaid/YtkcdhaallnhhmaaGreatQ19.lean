/- Part 19 of the proof: R18, NPast, WinM, Ctl, ShIter, Ref09. -/
import Derived.Shelf.SlIter.Nil
import Derived.Shelf.SortM.Plain
import Derived.Shelf.SortM.SortNone
import Derived.Test.YtkcdhaallnhhmaaGreatQ16
import Derived.Test.YtkcdhaallnhhmaaGreatQ17
namespace Go.Proofs.YtkcdhaallnhhmaaGreat
set_option linter.unusedSimpArgs false
set_option linter.unusedVariables false
set_option linter.unusedSectionVars false
set_option maxRecDepth 100000
set_option maxHeartbeats 16000000
section
open Go.RowKit Go.Lib Go.Sort
def absI (x:It):Ky × Nd:=(x.key,x.nd)
def Do18Says (P:Nat→Prop) (w:World) (l':List (Ky × Nd)) (e1 n more:Int) (e:Ending) (w':World):Prop :=
 ∃out A c,e=.returned (.tuple #[.slice A out.length c,.int .i64 e1,.int .i64 n,.int .i64 more])∧ItemsIn P w' (.slice A out.length c) out∧out.map absI=l'∧jB w w'
theorem Do18Says.same {P:Nat→Prop} {w w':World} {l:List It} {A:Option Addr} {c:Nat} (h:ItemsIn P w (.slice A l.length c) l) (hb:jB w w') (e1 n more:Int):Do18Says P w (l.map absI) e1 n more (.returned (.tuple #[.slice A l.length c,.int .i64 e1,.int .i64 n,.int .i64 more])) w' :=
 ⟨l,A,c,rfl,h.below hb,rfl,hb⟩
def act18C (k:Ky) (a:Act17):List Value:=[.int .u64 k.1,.int .u64 k.2,.int .i64 a.kind,.int .i64 a.smp.1,.int .i64 a.smp.2,.int .i64 a.pol.mn,.int .i64 a.pol.mx,.int .i64 a.pol.tg,.int .i64 a.pol.tol,.int .i64 a.pol.win,.int .i64 a.pol.hold,.int .i64 a.adv.tick,.int .i64 a.adv.load,.int .i64 a.adv.want,.int .i64 a.adv.repl,.int .i64 a.adv.why]
end
section
open Go.RowKit Go.Lib Go.Shelf
attribute [local go_sem] Oper.semAt_some
end
section
open Go.RowKit Go.Lib
theorem tdiv_pos {a b:Int} (ha:0≤a):a.tdiv b=a / b:=Int.tdiv_eq_ediv_of_nonneg ha
end
section
open Go.RowKit Go.Lib
theorem refClamp_any (n lo hi:Int) (w:World) :
 Calls Tryz.prog 176 #[.int .i64 n,.int .i64 lo,.int .i64 hi] w fun e w'=>e=.returned (.int .i64 (clampI n lo hi))∧w=w':=by
 go_enter Tryz.func176,Tryz.ntmps176
 go_wp2
 all_goals
   go_ret
   refine ⟨ret_int ?_,rfl⟩;unfold clampI
   repeat' split
   all_goals omega
theorem ceil_mid {a b:Int} (hb:1≤b) (ha:0<a):0≤(a - 1).tdiv b∧(a - 1).tdiv b≤a - 1:=by
 rw [tdiv_pos (by omega)];exact ⟨Int.ediv_nonneg (by omega) (by omega),Int.ediv_le_self _ (by omega)⟩
theorem refCeil_any (a b:Int) (w:World) (ha:I64 a) (hb:I64 b) :
 Calls Tryz.prog 209 #[.int .i64 a,.int .i64 b] w fun e w'=>e=.returned (.int .i64 (ceilI a b))∧w'=w:=by
 by_cases h1:b<1
 · have HC:=jH (show ceilI a b=0 by unfold ceilI;rw [if_pos h1])
   clear ha hb
   go_enter Tryz.func209,Tryz.ntmps209
   go_wp2
   go_ret
   exact ⟨by rw [HC.out];rfl,rfl⟩
 · have q0:(b == 0)=false:=by simp;omega
   have q1:¬b=0:=by omega
   by_cases h2:a≤0
   · have HC:=jH (show ceilI a b=a.tdiv b by unfold ceilI;rw [if_neg h1,if_pos h2])
     have HI:=jH (show I64 (a.tdiv b) by rw [←HC.out];exact ceilI_ok (b:=b) ha);clear ha hb
     go_enter Tryz.func209,Tryz.ntmps209
     go_wp2
     go_ret
     refine ⟨ret_int ?_,rfl⟩;rw [HC.out];have h7:=HI.out;generalize a.tdiv b=q at h7
     (try unfold wrap64)
     unfold I64 at h7;omega
   · have HC:=jH (show ceilI a b=(a - 1).tdiv b+1 by unfold ceilI;rw [if_neg h1,if_neg h2])
     have HI:=jH (ceil_mid (a:=a) (b:=b) (by omega) (by omega));have hw:IntKind.i64.wrap (a - 1)=a - 1:=by rw [IntKind.wrap_i64];unfold I64 at ha;omega
     have hw2:wrap64 (a - 1)=a - 1:=by unfold wrap64;unfold I64 at ha;omega
     have HA:=jH ha;clear ha hb
     go_enter Tryz.func209,Tryz.ntmps209
     go_wp2
     go_ret
     refine ⟨ret_int ?_,rfl⟩;rw [HC.out];have h7:=HI.out;have h8:=HA.out
     (try simp only [hw,hw2])
     generalize (a - 1).tdiv b=q at h7
     (try unfold wrap64)
     unfold I64 at h8;omega
theorem ref13Load_any (n:Int) (w:World) :
 Calls Tryz.prog 207 #[.int .i64 n] w fun e w'=>e=.returned (.int .i64 (max n 0))∧w'=w:=by
 go_enter Tryz.func207,Tryz.ntmps207
 go_wp2
 all_goals
   go_ret
   refine ⟨ret_int ?_,rfl⟩;omega
theorem ref13Bound_bad (p:Pol) (n:Int) (w:World) (hp:polB p=false) :
 Calls Tryz.prog 132 #[polV p,.int .i64 n] w (jP w (.int .i64 0)):=by
 have HC:=jH (r12right_any p);have HE:=jH ((show polB p=false from hp));clear hp;unfold polV;unfold polV at HC
 go_enter Tryz.func132,Tryz.ntmps132
 go_wp2_with (go_at_call 125;refine (HC.out _).mono ?_;rw [HE.out];rintro e w2 ⟨rfl,hb2⟩;have HB:=jH hb2;clear hb2)
 go_ret
 exact ⟨rfl,bthen (balloc jR _) HB.out⟩
theorem ref13Bound_ok (p:Pol) (n:Int) (w:World) (hp:polB p=true) :
 Calls Tryz.prog 132 #[polV p,.int .i64 n] w (jP w (.int .i64 (clampI n p.mn p.mx))):=by
 have HC:=jH (r12right_any p);have HE:=jH ((show polB p=true from hp));clear hp;unfold polV;unfold polV at HC
 go_enter Tryz.func132,Tryz.ntmps132
 go_wp2_with (first
  | (go_at_call 125
     refine calls_named ?_;intro W1 hW1;have hb1:jB w W1:=by rw [hW1];exact balloc jR _
     have hx1:W1.heap[w.heap.size]?=some (.cells #[.int .i64 p.mn,.int .i64 p.mx,.int .i64 p.tg,.int .i64 p.tol,.int .i64 p.win,.int .i64 p.hold] 46 (0,0)):=by rw [hW1];exact heap_alloc_new _ _
     clear hW1;refine (HC.out W1).mono ?_;rw [HE.out];rintro e w2 ⟨rfl,hb2⟩;have HB2:=jH (bthen hb1 hb2);have hx2:=(hb2.block w.heap.size (jL hx1)).trans hx1;obtain ⟨b1,b2,b3⟩:=box_cells jR hx2;clear hb1 hb2 hx1 hx2)
  | (go_at_call 176
     refine (refClamp_any n p.mn p.mx _).mono ?_;rintro e w5 ⟨rfl,rfl⟩))
 go_ret
 exact ⟨rfl,by repeat (first|exact HB2.out|refine below_drewN ?_ _|refine Below.drew ?_)⟩
theorem ref13Want_bad (p:Pol) (n:Int) (w:World) (hp:polB p=false) :
 Calls Tryz.prog 175 #[polV p,.int .i64 n] w (jP w (.int .i64 0)):=by
 have HC:=jH (r12right_any p);have HE:=jH ((show polB p=false from hp));clear hp;unfold polV;unfold polV at HC
 go_enter Tryz.func175,Tryz.ntmps175
 go_wp2_with (go_at_call 125;refine (HC.out _).mono ?_;rw [HE.out];rintro e w2 ⟨rfl,hb2⟩;have HB:=jH hb2;clear hb2)
 go_ret
 exact ⟨rfl,bthen (balloc jR _) HB.out⟩
theorem ref13Want_ok (p:Pol) (n:Int) (w:World) (hp:polB p=true) (hn:I64 n) (hq:I64 p.tg) :
 Calls Tryz.prog 175 #[polV p,.int .i64 n] w (jP w (.int .i64 (ceilI (max n 0) p.tg))):=by
 have HC:=jH (r12right_any p);have HE:=jH ((show polB p=true from hp));have hm:I64 (max n 0):=by unfold I64 at *;omega
 have C1:=jH (fun W=>refCeil_any (max n 0) p.tg W hm hq);clear hn hq hm;have C0:=jH (ref13Load_any n);clear hp;unfold polV;unfold polV at HC
 go_enter Tryz.func175,Tryz.ntmps175
 go_wp2_with (first
  | (go_at_call 125
     refine calls_named ?_;intro W1 hW1;have hb1:jB w W1:=by rw [hW1];exact balloc jR _
     have hx1:W1.heap[w.heap.size]?=some (.cells #[.int .i64 p.mn,.int .i64 p.mx,.int .i64 p.tg,.int .i64 p.tol,.int .i64 p.win,.int .i64 p.hold] 46 (0,0)):=by rw [hW1];exact heap_alloc_new _ _
     clear hW1;refine (HC.out W1).mono ?_;rw [HE.out];rintro e w2 ⟨rfl,hb2⟩;have HB2:=jH (bthen hb1 hb2);have hx2:=(hb2.block w.heap.size (jL hx1)).trans hx1;obtain ⟨b1,b2,b3⟩:=box_cells jR hx2;clear hb1 hb2 hx1 hx2))
 go_quiet ((first
  | (go_at_call 207;with_reducible exact Calls.quiet_of_same (C0.out _))
  | (go_at_call 209;with_reducible exact Calls.quiet_of_same (C1.out _))))
 go_wp2
 go_ret
 exact ⟨rfl,by repeat (first|exact HB2.out|refine below_drewN ?_ _|refine Below.drew ?_)⟩
theorem ref13Bound_any (p:Pol) (n:Int) (w:World) :
 Calls Tryz.prog 132 #[polV p,.int .i64 n] w (jP w (.int .i64 (boundI p n))):=by
 unfold boundI
 cases hp:polB p
 · exact ref13Bound_bad p n w hp
 · exact ref13Bound_ok p n w hp
theorem ref13Want_any (p:Pol) (n:Int) (w:World) (hn:I64 n) (hq:I64 p.tg) :
 Calls Tryz.prog 175 #[polV p,.int .i64 n] w (jP w (.int .i64 (wantP p n))):=by
 unfold wantP
 cases hp:polB p
 · exact ref13Want_bad p n w hp
 · exact ref13Want_ok p n w hp hn hq
end
section
open Go.Shelf
def keysM_ren:Go.Shelf.Ren:=⟨fun|7=>98|10=>146|n=>n,fun|23=>94|26=>9|3=>50|28=>167|0=>0|27=>166|33=>172|4=>4|n=>n,fun|n=>n⟩
theorem keysM:Go.Proofs.SlLaysZ.n7 Tryz.prog keysM_ren:={
  mixed:=by kernel_rfl
  f7:=⟨Tryz.f98.name,by decide,Tryz.func98.trans (congrArg some (by kernel_rfl))⟩
  f10:=⟨Tryz.f146.name,by decide,Tryz.func146.trans (congrArg some (by kernel_rfl))⟩
  t0:=Tryz.underlying0
  a0:=Tryz.isAgg0
  z0:=Tryz.sizeOf0
  v0:=Tryz.zeroValue0
  t4:=Tryz.underlying4
  a4:=Tryz.isAgg4
  z4:=Tryz.sizeOf4
  v4:=Tryz.zeroValue4
  t23:=Tryz.underlying94
  a23:=Tryz.isAgg94
  z23:=Tryz.sizeOf94
  v23:=Tryz.zeroValue94
  t26:=Tryz.underlying9
  a26:=Tryz.isAgg9
  z26:=Tryz.sizeOf9
  v26:=Tryz.zeroValue9
  t27:=Tryz.underlying166
  a27:=Tryz.isAgg166
  z27:=Tryz.sizeOf166
  v27:=Tryz.zeroValue166
  t28:=Tryz.underlying167
  a28:=Tryz.isAgg167
  z28:=Tryz.sizeOf167
  v28:=Tryz.zeroValue167
  t33:=Tryz.underlying172
  a33:=Tryz.isAgg172
  z33:=Tryz.sizeOf172
  v33:=Tryz.zeroValue172 }
def sortedM_ren:Go.Shelf.Ren:=⟨fun|6=>97|8=>145|9=>52|11=>186|13=>100|12=>99|23=>156|24=>157|14=>147|15=>148|16=>149|17=>150|18=>151|19=>152|20=>153|21=>154|22=>155|25=>187|26=>188|27=>189|28=>190|29=>191|30=>192|31=>216|n=>n,fun|26=>9|28=>167|24=>37|0=>0|3=>3|37=>171|48=>238|50=>128|4=>4|40=>231|39=>230|45=>235|5=>5|9=>9|51=>267|55=>271|57=>292|58=>293|33=>172|n=>n,fun|n=>n⟩
theorem sortedM:Go.Proofs.SlLaysZ.n6 Tryz.prog sortedM_ren:={
  mixed:=by kernel_rfl
  f6:=⟨Tryz.f97.name,by decide,Tryz.func97.trans (congrArg some (by kernel_rfl))⟩
  f8:=⟨Tryz.f145.name,by decide,Tryz.func145.trans (congrArg some (by kernel_rfl))⟩
  f11:=⟨Tryz.f186.name,by decide,Tryz.func186.trans (congrArg some (by kernel_rfl))⟩
  t0:=Tryz.underlying0
  a0:=Tryz.isAgg0
  z0:=Tryz.sizeOf0
  v0:=Tryz.zeroValue0
  t24:=Tryz.underlying37
  a24:=Tryz.isAgg37
  z24:=Tryz.sizeOf37
  v24:=Tryz.zeroValue37
  t26:=Tryz.underlying9
  a26:=Tryz.isAgg9
  z26:=Tryz.sizeOf9
  v26:=Tryz.zeroValue9
  t28:=Tryz.underlying167
  a28:=Tryz.isAgg167
  z28:=Tryz.sizeOf167
  v28:=Tryz.zeroValue167
  i26:=by kernel_rfl }
def sortM_ren:Go.Shelf.Ren:=⟨fun|6=>52|8=>100|9=>99|19=>156|20=>157|21=>147|22=>148|23=>149|24=>150|25=>151|26=>152|27=>153|28=>154|29=>155|36=>187|31=>188|32=>189|37=>190|38=>191|39=>192|41=>216|n=>n,fun|27=>37|29=>9|3=>3|32=>171|26=>37|0=>0|44=>238|46=>128|4=>4|36=>231|35=>230|41=>235|5=>5|9=>9|53=>267|57=>271|63=>292|64=>293|n=>n,fun|n=>n⟩
theorem sortM:Go.Proofs.SlLaysM.n6 Tryz.prog sortM_ren:={
  mixed:=by kernel_rfl
  f6:=⟨Tryz.f52.name,by decide,Tryz.func52.trans (congrArg some (by kernel_rfl))⟩
  f8:=Tryz.func100.trans (congrArg some (by kernel_rfl))
  f9:=⟨Tryz.f99.name,by decide,Tryz.func99.trans (congrArg some (by kernel_rfl))⟩
  f19:=Tryz.func156.trans (congrArg some (by kernel_rfl))
  f20:=Tryz.func157.trans (congrArg some (by kernel_rfl))
  f21:=⟨Tryz.f147.name,by decide,Tryz.func147.trans (congrArg some (by kernel_rfl))⟩
  f22:=⟨Tryz.f148.name,by decide,Tryz.func148.trans (congrArg some (by kernel_rfl))⟩
  f23:=⟨Tryz.f149.name,by decide,Tryz.func149.trans (congrArg some (by kernel_rfl))⟩
  f24:=⟨Tryz.f150.name,by decide,Tryz.func150.trans (congrArg some (by kernel_rfl))⟩
  f25:=⟨Tryz.f151.name,by decide,Tryz.func151.trans (congrArg some (by kernel_rfl))⟩
  f26:=⟨Tryz.f152.name,by decide,Tryz.func152.trans (congrArg some (by kernel_rfl))⟩
  f27:=⟨Tryz.f153.name,by decide,Tryz.func153.trans (congrArg some (by kernel_rfl))⟩
  f28:=⟨Tryz.f154.name,by decide,Tryz.func154.trans (congrArg some (by kernel_rfl))⟩
  f29:=⟨Tryz.f155.name,by decide,Tryz.func155.trans (congrArg some (by kernel_rfl))⟩
  f31:=Tryz.func188.trans (congrArg some (by kernel_rfl))
  f32:=Tryz.func189.trans (congrArg some (by kernel_rfl))
  f36:=⟨Tryz.f187.name,by decide,Tryz.func187.trans (congrArg some (by kernel_rfl))⟩
  f37:=⟨Tryz.f190.name,by decide,Tryz.func190.trans (congrArg some (by kernel_rfl))⟩
  f38:=⟨Tryz.f191.name,by decide,Tryz.func191.trans (congrArg some (by kernel_rfl))⟩
  f39:=⟨Tryz.f192.name,by decide,Tryz.func192.trans (congrArg some (by kernel_rfl))⟩
  f41:=⟨Tryz.f216.name,by decide,Tryz.func216.trans (congrArg some (by kernel_rfl))⟩
  t0:=Tryz.underlying0
  a0:=Tryz.isAgg0
  z0:=Tryz.sizeOf0
  v0:=Tryz.zeroValue0
  t3:=Tryz.underlying3
  a3:=Tryz.isAgg3
  z3:=Tryz.sizeOf3
  v3:=Tryz.zeroValue3
  t4:=Tryz.underlying4
  a4:=Tryz.isAgg4
  z4:=Tryz.sizeOf4
  v4:=Tryz.zeroValue4
  t5:=Tryz.underlying5
  a5:=Tryz.isAgg5
  z5:=Tryz.sizeOf5
  v5:=Tryz.zeroValue5
  t9:=Tryz.underlying9
  a9:=Tryz.isAgg9
  z9:=Tryz.sizeOf9
  v9:=Tryz.zeroValue9
  t26:=Tryz.underlying37
  a26:=Tryz.isAgg37
  z26:=Tryz.sizeOf37
  v26:=Tryz.zeroValue37
  t27:=Tryz.underlying37
  a27:=Tryz.isAgg37
  z27:=Tryz.sizeOf37
  v27:=Tryz.zeroValue37
  t29:=Tryz.underlying9
  a29:=Tryz.isAgg9
  z29:=Tryz.sizeOf9
  v29:=Tryz.zeroValue9
  t32:=Tryz.underlying171
  a32:=Tryz.isAgg171
  z32:=Tryz.sizeOf171
  v32:=Tryz.zeroValue171
  t35:=Tryz.underlying230
  a35:=Tryz.isAgg230
  z35:=Tryz.sizeOf230
  v35:=Tryz.zeroValue230
  t36:=Tryz.underlying231
  a36:=Tryz.isAgg231
  z36:=Tryz.sizeOf231
  v36:=Tryz.zeroValue231
  t41:=Tryz.underlying235
  a41:=Tryz.isAgg235
  z41:=Tryz.sizeOf235
  v41:=Tryz.zeroValue235
  t44:=Tryz.underlying238
  a44:=Tryz.isAgg238
  z44:=Tryz.sizeOf238
  v44:=Tryz.zeroValue238
  t46:=Tryz.underlying128
  a46:=Tryz.isAgg128
  z46:=Tryz.sizeOf128
  v46:=Tryz.zeroValue128
  t53:=Tryz.underlying267
  a53:=Tryz.isAgg267
  z53:=Tryz.sizeOf267
  v53:=Tryz.zeroValue267
  t57:=Tryz.underlying271
  a57:=Tryz.isAgg271
  z57:=Tryz.sizeOf271
  v57:=Tryz.zeroValue271
  t63:=Tryz.underlying292
  a63:=Tryz.isAgg292
  z63:=Tryz.sizeOf292
  v63:=Tryz.zeroValue292
  t64:=Tryz.underlying293
  a64:=Tryz.isAgg293
  z64:=Tryz.sizeOf293
  v64:=Tryz.zeroValue293 }
end
section
open Go.RowKit Go.Lib
theorem refFrom_any (a b:Int) (w:World) (ha:I64 a) (hb:I64 b) :
 Calls Tryz.prog 129 #[.int .i64 a,.int .i64 b] w fun e w'=>e=.returned (.int .i64 (fromW a b))∧w=w':=by
 have C1:=jH (refSub_any a b w ha hb);have C2:=jH (refAdd_any (endsI (a - b)) 1 w (endsI_i64 _) (by unfold I64;omega));unfold fromW;generalize endsI (a - b)=s at C1 C2 ⊢;generalize endsI (s+1)=t at C2 ⊢;clear ha hb
 go_enter Tryz.func129,Tryz.ntmps129
 go_wp2_with (first
  | (go_at_call 173
     refine C1.out.mono ?_;rintro e w1 ⟨rfl,rfl⟩)
  | (go_at_call 172
     refine C2.out.mono ?_;rintro e w1 ⟨rfl,rfl⟩))
 go_ret
 exact ⟨rfl,rfl⟩
theorem refSum_any (v:Value) (l:List Int) (w:World) (hv:RowIn 1 nmC w v l) (hl:l.length≤1000000) (hi:∀n∈l,I64 n) :
 Calls Tryz.prog 215 #[v] w fun e w'=>e=.returned (.int .i64 (sumE l 0))∧w=w':=by
 obtain ⟨A,c,rfl⟩:=hv.form;have HV:=jH hv;have HI:=jH hi;have hl9:l.length≤9223372036854775807:=by omega
 clear hv hi
 go_enter Tryz.func215,Tryz.ntmps215
 go_wp2
 go_loopg [3,4] l.length (fun g s3 s8 wr=>∃k:Nat,k≤l.length∧l.length - k≤g∧s8=.int .i64 k∧s3=.int .i64 (sumE (l.take k) 0)∧w=wr)
 case atStart=>exact ⟨0,Nat.zero_le _,Nat.le_refl _,rfl,by simp [sumE],rfl⟩
 case round =>
  obtain ⟨k,hk,hg,rfl,rfl,rfl⟩:=hrel
  by_cases hlt:k<l.length
  · obtain ⟨b1,o1,rfl,hb1,hc⟩:=HV.out.at_ hlt
    have z1:(0:Int)≤(k:Int):=by omega
    have z2:(k:Int)<(l.length:Int):=by omega
    have HS:=jH (show sumE (l.take (k+1)) 0=endsI (sumE (l.take k) 0+l[k]) by rw [List.take_succ_eq_append_getElem hlt,sumE_snoc]);have d0:=hc 0 _ rfl;rw [Nat.add_zero,Nat.mul_one] at d0;have HN:=jH (refAdd_any (sumE (l.take k) 0) l[k] w (sumE_i64 _ _ i64_0) (HI.out _ (List.getElem_mem hlt)));rw [←HS.out] at HN;generalize sumE (l.take k) 0=s at HN ⊢;generalize l[k]=x at HN d0;clear hc HS
    go_wp2_with (first
     | (go_at_call 172
        refine HN.out.mono ?_;rintro e w1 ⟨rfl,rfl⟩))
    go_roundg (l.length - (k+1))
    case measure=>omega
    case rel=>exact ⟨k+1,hlt,Nat.le_refl _,by go_num,rfl,rfl⟩
  · obtain rfl:k=l.length:=by omega
    rw [List.take_length];go_wp2
    go_ret
    exact ⟨rfl,rfl⟩
theorem refCut_any (v:Value) (l:List Smp) (a b:Int) (w:World) (hv:RowIn 2 smpC w v l) (hl:l.length≤1000000) :
 Calls Tryz.prog 128 #[v,.int .i64 a,.int .i64 b] w fun e w'=>∃A c,e=.returned (.slice A (winC l a b).length c)∧OwnL smpC 118 2 w.heap.size w' (.slice A (winC l a b).length c) (winC l a b)∧jB w w':=by
 obtain ⟨A,c,rfl⟩:=hv.form;have HV:=jH hv;have HL:=jH hl;have hl9:l.length≤9223372036854775807:=by omega
 clear hv hl
 go_enter Tryz.func128,Tryz.ntmps128
 go_wp2
 go_loopg [7,8] l.length (fun g s7 s12 wr=>∃k:Nat,k≤l.length∧l.length - k≤g∧s12=.int .i64 k∧OwnL smpC 118 2 w.heap.size wr s7 (winC (l.take k) a b)∧jB w wr)
 case atStart=>exact ⟨0,Nat.zero_le _,Nat.le_refl _,rfl,by simp [winC];exact OwnL.nil _ _,jR⟩
 case round =>
  obtain ⟨k,hk,hg,rfl,hown,hb⟩:=hrel;rename World=>wr
  obtain ⟨pre,hpre⟩:∃pre,pre=winC (l.take k) a b:=⟨_,rfl⟩;rw [←hpre] at hown;obtain ⟨A5,c5,rfl⟩:=hown.form;have HPL:=jH (show pre.length≤k by rw [hpre];exact Nat.le_trans (cut_len _ _ _) (by simp;omega));have HPRE:=jH hpre;have HO:=jH hown;have HB:=jH hb;clear hpre hown hb
  by_cases hlt:k<l.length
  · obtain ⟨b1,o1,rfl,hb1,hc⟩:=(HV.out.below HB.out).at_ hlt
    have z1:(0:Int)≤(k:Int):=by omega
    have z2:(k:Int)<(l.length:Int):=by omega
    have HTK:=jH (show winC (l.take (k+1)) a b=pre++if a≤l[k].1∧l[k].1≤b then [l[k]] else [] by rw [List.take_succ_eq_append_getElem hlt,winC_snoc,HPRE.out]);generalize l[k]=x at hc HTK;have d0:=hc 0 _ rfl;have d1:=hc 1 _ rfl;rw [Nat.add_zero] at d0;have HK:=jH hlt;clear hc
    by_cases h1:a≤x.1
    · by_cases h2:x.1≤b
      · as_aux_lemma =>
        go_wp2_with (first
         | (at_builtin
            refine wpList_appendL eSmp (by rfl) (by rfl) w.heap.size pre [x] (.slice A5 pre.length c5) _ (by rfl) (by rfl) (HO.out.below (balloc jR _)) (RowIn.lit _ x _ _ wr.heap.size rfl rfl) (by have:=HPL.out;have:=HL.out;have:=HK.out;simp;omega) (by have:=HB.out.size;simp;omega) ?_;intro out2 A9 c9 w13 hout2 hown2 hg2 _;have HO13:=jH hout2;have HW13:=jH hown2;have HB13:=jH (show jB w w13 from (balloc HB.out _).trans (grown_own hg2 HO.out (by have:=HB.out.size;simp;omega)))
            clear hout2 hown2 hg2))
        go_roundg (l.length - (k+1))
        case measure=>omega
        case rel=>exact ⟨k+1,HK.out,Nat.le_refl _,by go_num,by rw [HTK.out,if_pos ⟨h1,h2⟩,←HO13.out];exact HW13.out,HB13.out⟩
      · as_aux_lemma =>
        go_wp2_with fail
        go_roundg (l.length - (k+1))
        case measure=>omega
        case rel=>exact ⟨k+1,HK.out,Nat.le_refl _,by go_num,by rw [HTK.out,if_neg (by omega),List.append_nil];exact HO.out,HB.out⟩
    · as_aux_lemma =>
      go_wp2_with fail
      go_roundg (l.length - (k+1))
      case measure=>omega
      case rel=>exact ⟨k+1,HK.out,Nat.le_refl _,by go_num,by rw [HTK.out,if_neg (by omega),List.append_nil];exact HO.out,HB.out⟩
  · obtain rfl:k=l.length:=by omega
    have hp:=HPRE.out;rw [List.take_length] at hp;have HP:=jH hp;clear hp;go_wp2_with fail
    go_ret
    exact ⟨A5,c5,by rw [HP.out];rfl,by rw [←HP.out];exact HO.out,HB.out⟩
theorem refVals_any (v:Value) (l:List Smp) (w:World) (hv:RowIn 2 smpC w v l) (hl:l.length≤1000000) :
 Calls Tryz.prog 170 #[v] w fun e w'=>∃A c,e=.returned (.slice A (valsW l).length c)∧OwnL nmC 2 1 w.heap.size w' (.slice A (valsW l).length c) (valsW l)∧jB w w':=by
 obtain ⟨A,c,rfl⟩:=hv.form;have HV:=jH hv;have HL:=jH hl;have hl9:l.length≤9223372036854775807:=by omega
 clear hv hl
 go_enter Tryz.func170,Tryz.ntmps170
 go_wp2
 go_loopg [3,4] l.length (fun g s7 s12 wr=>∃k:Nat,k≤l.length∧l.length - k≤g∧s12=.int .i64 k∧OwnL nmC 2 1 w.heap.size wr s7 (valsW (l.take k))∧jB w wr)
 case atStart=>exact ⟨0,Nat.zero_le _,Nat.le_refl _,rfl,by simp [valsW];exact OwnL.nil _ _,jR⟩
 case round =>
  obtain ⟨k,hk,hg,rfl,hown,hb⟩:=hrel;rename World=>wr
  obtain ⟨pre,hpre⟩:∃pre,pre=valsW (l.take k):=⟨_,rfl⟩;rw [←hpre] at hown;obtain ⟨A5,c5,rfl⟩:=hown.form;have HPL:=jH (show pre.length≤k by rw [hpre,vals_len];simp;omega);have HPRE:=jH hpre;have HO:=jH hown;have HB:=jH hb;clear hpre hown hb
  by_cases hlt:k<l.length
  · obtain ⟨b1,o1,rfl,hb1,hc⟩:=(HV.out.below HB.out).at_ hlt
    have z1:(0:Int)≤(k:Int):=by omega
    have z2:(k:Int)<(l.length:Int):=by omega
    have HTK:=jH (show valsW (l.take (k+1))=pre++[max l[k].2 0] by rw [List.take_succ_eq_append_getElem hlt,valsW_snoc,HPRE.out]);generalize l[k]=x at hc HTK;have d0:=hc 0 _ rfl;have d1:=hc 1 _ rfl;rw [Nat.add_zero] at d0;have HK:=jH hlt;clear hc
    by_cases h0:x.2<0
    · rw [Int.max_eq_right (by omega)] at HTK
      as_aux_lemma =>
      go_wp2_with (first
       | (at_builtin
          refine wpList_appendL eNm (by rfl) (by rfl) w.heap.size pre [0] (.slice A5 pre.length c5) _ (by rfl) (by rfl) (HO.out.below (balloc jR _)) (RowIn.lit _ (0) _ _ wr.heap.size rfl (by simp [nmC])) (by have:=HPL.out;have:=HL.out;have:=HK.out;simp;omega) (by have:=HB.out.size;simp;omega) ?_;intro out2 A9 c9 w13 hout2 hown2 hg2 _;have HO13:=jH hout2;have HW13:=jH hown2;have HB13:=jH (show jB w w13 from (balloc HB.out _).trans (grown_own hg2 HO.out (by have:=HB.out.size;simp;omega)))
          clear hout2 hown2 hg2))
      go_roundg (l.length - (k+1))
      case measure=>omega
      case rel=>exact ⟨k+1,HK.out,Nat.le_refl _,by go_num,by rw [HTK.out,←HO13.out];exact HW13.out,HB13.out⟩
    · rw [Int.max_eq_left (by omega)] at HTK
      as_aux_lemma =>
      go_wp2_with (first
       | (at_builtin
          refine wpList_appendL eNm (by rfl) (by rfl) w.heap.size pre [x.2] (.slice A5 pre.length c5) _ (by rfl) (by rfl) (HO.out.below (balloc jR _)) (RowIn.lit _ (x.2) _ _ wr.heap.size rfl (by simp [nmC])) (by have:=HPL.out;have:=HL.out;have:=HK.out;simp;omega) (by have:=HB.out.size;simp;omega) ?_;intro out2 A9 c9 w13 hout2 hown2 hg2 _;have HO13:=jH hout2;have HW13:=jH hown2;have HB13:=jH (show jB w w13 from (balloc HB.out _).trans (grown_own hg2 HO.out (by have:=HB.out.size;simp;omega)))
          clear hout2 hown2 hg2))
      go_roundg (l.length - (k+1))
      case measure=>omega
      case rel=>exact ⟨k+1,HK.out,Nat.le_refl _,by go_num,by rw [HTK.out,←HO13.out];exact HW13.out,HB13.out⟩
  · obtain rfl:k=l.length:=by omega
    have hp:=HPRE.out;rw [List.take_length] at hp;have HP:=jH hp;clear hp;go_wp2_with fail
    go_ret
    exact ⟨A5,c5,by rw [HP.out];rfl,by rw [←HP.out];exact HO.out,HB.out⟩
end
end Go.Proofs.YtkcdhaallnhhmaaGreat
