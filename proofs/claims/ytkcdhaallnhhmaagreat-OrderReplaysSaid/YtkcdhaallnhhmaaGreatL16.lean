/- Part 16 of the proof: WinP, RIt4, R18, Win3, Win4, RefFnv, RefHome, TrP, TrOne. -/
import Derived.Test.YtkcdhaallnhhmaaGreatL13
import Derived.Test.YtkcdhaallnhhmaaGreatL14
import Derived.Test.YtkcdhaallnhhmaaGreatL15
namespace Go.Proofs.YtkcdhaallnhhmaaGreat
set_option linter.unusedSimpArgs false
set_option linter.unusedVariables false
set_option linter.unusedSectionVars false
set_option maxRecDepth 100000
set_option maxHeartbeats 16000000
section
open Go.RowKit Go.Lib
def fromW (til wd:Int):Int:=endsI (endsI (til - wd)+1)
def winC (l:List Smp) (a b:Int):List Smp:=l.filter fun s=>decide (a≤s.1) && decide (s.1≤b)
def valsW (l:List Smp):List Int:=l.map fun s=>max s.2 0
def minL:List Int→Int
  | []=>0
  | n::l=>l.foldl min n
def maxL:List Int→Int
  | []=>0
  | n::l=>l.foldl max n
structure StD where
 cnt:Int
 sum:Int
 least:Int
 most:Int
 mean:Int
def stV (s:StD):Value:=.agg #[.int .i64 s.cnt,.int .i64 s.sum,.int .i64 s.least,.int .i64 s.most,.int .i64 s.mean]
def st0:StD:=⟨0,0,0,0,0⟩
def statN (v:List Int):StD:=if v=[] then st0 else ⟨v.length,sumE v 0,minL v,maxL v,meanN v⟩
def statW (l:List Smp) (til wd:Int):StD:=statN (valsW (winC l (fromW til wd) til))
def smpI (l:List Smp):Prop:=∀s∈l,I64 s.1∧I64 s.2
theorem smpI.cut {l:List Smp} (h:smpI l) (a b:Int):smpI (winC l a b):=fun s hs=>h s (List.mem_filter.1 hs).1
theorem vals_i64 {l:List Smp} (h:smpI l):∀n∈valsW l,0≤n∧n≤9223372036854775807:=fun n hn=>by
 obtain ⟨s,hs,rfl⟩:=List.mem_map.1 hn;have:=(h s hs).2;unfold I64 at this;omega
theorem vals_len (l:List Smp):(valsW l).length=l.length:=by simp [valsW]
theorem cut_len (l:List Smp) (a b:Int):(winC l a b).length≤l.length:=List.length_filter_le _ _
theorem winC_snoc (l:List Smp) (a b:Int) (s:Smp):winC (l++[s]) a b=winC l a b++if a≤s.1∧s.1≤b then [s] else []:=by
 unfold winC;rw [List.filter_append]
 congr 1
 by_cases h1:a≤s.1 <;> by_cases h2:s.1≤b <;> simp [h1,h2]
theorem valsW_snoc (l:List Smp) (s:Smp):valsW (l++[s])=valsW l++[max s.2 0]:=by simp [valsW]
theorem minL_snoc {l:List Int} (h:l≠[]) (n:Int):minL (l++[n])=min (minL l) n:=by
 cases l with
 | nil=>exact absurd rfl h
 | cons a l=>simp [minL,List.foldl_append]
theorem maxL_snoc {l:List Int} (h:l≠[]) (n:Int):maxL (l++[n])=max (maxL l) n:=by
 cases l with
 | nil=>exact absurd rfl h
 | cons a l=>simp [maxL,List.foldl_append]
theorem totN_snoc (l:List Int) (n:Int):totN (l++[n])=totN l+n.toNat:=by rw [totN_append];simp [totN]
def StD.ok (s:StD):Prop:=I64 s.cnt∧I64 s.sum∧I64 s.least∧I64 s.most∧I64 s.mean
end
section
open Go.RowKit Go.Lib Go.Sort
def withI (l:List It) (k:Ky) (x:It):List It:=l.take (atI l k)++[{ x with key:=k }]++l.drop (if hasI l k=true then atI l k+1 else atI l k)
theorem hasI_lt {l:List It} {k:Ky} (h:hasI l k=true):atI l k<l.length:=(getL_has h).1
theorem iwith_any (v:Value) (l:List It) (k:Ky) (x:It) (w:World) (hv:RowIn 12 itC w v l) (hl:l.length≤1000000) (hok:∀x∈l,x.key.ok) (hk:k.ok) :
 Calls Tryz.prog 184 #[v,.agg #[.int .u64 k.1,.int .u64 k.2],.agg (loadC x).toArray] w (RSays 12 itC w (withI l k x)):=by
 obtain ⟨A,c,rfl⟩:=hv.form;have HH:=jH (fun (W:World) (hb:jB w W)=>ihas_any _ l k W (hv.below hb) hl hok hk);have HAT:=jH (fun (W:World) (hb:jB w W)=>iat_any _ l k W (hv.below hb) hl hok hk);have HV:=jH hv;have hle:=atI_le l k;have hlt:hasI l k=true→atI l k<l.length:=hasI_lt;have HX:Hid ((loadC x).toArray=#[.slice x.sA x.nd.smp.length x.sc,.slice x.pA x.nd.past.length x.pc,.int .i64 x.nd.pol.mn,.int .i64 x.nd.pol.mx,.int .i64 x.nd.pol.tg,.int .i64 x.nd.pol.tol,.int .i64 x.nd.pol.win,.int .i64 x.nd.pol.hold,.bool x.nd.ruled,.int .i64 (x.nd.ver:Nat)]):=jH rfl
 rw [HX.out];have HW:Hid (withI l k x=l.take (atI l k)++[{ x with key:=k }]++l.drop (if hasI l k=true then atI l k+1 else atI l k)):=jH rfl;obtain ⟨mt,At,ct,hmt,hrt,hrowt⟩:=row_to eIt hv (atI l k) hle;obtain ⟨mf,Af,cf,hmf,hrf,hrowf⟩:=row_from eIt hv (if hasI l k=true then atI l k+1 else atI l k) (by split;exact hlt (by assumption);exact hle);have hlmt:mt.length=atI l k:=by rw [hmt];simp;omega
 have hlmf:mf.length≤l.length:=by rw [hmf];simp
 have HMT:=jH hmt;have HMF:=jH hmf;have HRT:=jH hrowt;have HRF:=jH hrowf;have HLT:=jH hlmt;clear hv hok hlt hmt hmf hrowt hrowf hlmt;generalize ha:atI l k=a at *;generalize hh:hasI l k=h at *;obtain ⟨q,hq⟩:∃q,q=if h=true then a+1 else a:=⟨_,rfl⟩;rw [←hq] at hrf;have HQ:=jH hq;clear ha hh hq;have hrun1:h=true→∀w':World,(Instr.sliceAt 174 (.slice A l.length c) (some (.int .i64 ((a:Int)+1))) none none).run Tryz.prog w'=.ok (.slice Af mf.length cf) w':=fun he w'=>by
  have:=hrf w';rw [HQ.out,if_pos he,show ((a+1:Nat):Int)=(a:Int)+1 by omega] at this;exact this
 have hrun0:h=false→∀w':World,(Instr.sliceAt 174 (.slice A l.length c) (some (.int .i64 (a:Int))) none none).run Tryz.prog w'=.ok (.slice Af mf.length cf) w':=fun he w'=>by
  have:=hrf w';rw [HQ.out,if_neg (by rw [he];simp)] at this;exact this
 have HR1:=jH hrun1;have HR0:=jH hrun0;clear hrf hrun1 hrun0
 cases h with
 | true =>
   have hrun:=HR1.out rfl
   go_enter Tryz.func184,Tryz.ntmps184
   go_wp2_with (first
    | (go_at_call 214
       refine calls_named ?_;intro W1 hW1;obtain ⟨k0,k1,hs,hb⟩:=two_boxes w _ _ W1 hW1;clear hW1;refine (HAT.out W1 hb).mono ?_;rintro e w2 ⟨rfl,hb2⟩;have HK:=jH (And.intro (jK hb2 k0) (jK hb2 k1));have HB:=jH (bthen hb hb2);clear k0 k1 hs hb hb2)
    | (at_builtin;refine wpList_appendL eIt (by rfl) (by rfl) w2.heap.size [] mt (.slice (some ⟨w2.heap.size,0,none⟩) 0 0) _ (by rfl) (by rfl) (OwnL.lit0 _ _ _ _ rfl (Nat.le_refl _)) (HRT.out.below (balloc HB.out _)) (by have:=HLT.out;simp;omega) (by simp) ?_;intro out3 A3 c3 w3 hout3 hown3 hg3 _
       have hb3:jB w2 w3:=(balloc jR _).grown hg3 (by simp) (fun r hr=>by have hr':some w2.heap.size=some r:=hr;injection hr';omega);obtain ⟨a1,a2,a3⟩:=box_cells hb3 HK.out.1;obtain ⟨b1,b2,b3⟩:=box_cells hb3 HK.out.2;have HO3:=jH hown3;have HE3:=jH hout3;have HB3:=jH hb3;clear hout3 hown3 hg3 hb3)
    | (at_builtin;refine wpList_appendL eIt (by rfl) (by rfl) w2.heap.size out3 [{ x with key:=k }] _ _ (by rfl) (by rfl) (HO3.out.below (balloc jR _)) (RowIn.lit (n:=12) (f:=itC) w3 { x with key:=k } _ _ _ rfl rfl) (by have:=HLT.out;simp [HE3.out];omega) (by have:=HB3.out.size;simp;omega) ?_;intro out4 A4 c4 w4 hout4 hown4 hg4 _
       have hb4:jB w2 w4:=(balloc HB3.out _).trans (grown_own hg4 HO3.out (by have:=HB3.out.size;simp;omega));obtain ⟨a1,a2,a3⟩:=box_cells hb4 HK.out.1;have HO4:=jH hown4;have HE4:=jH hout4;have HB4:=jH hb4;clear hout4 hown4 hg4 hb4)
    | (go_at_call 183
       refine (HH.out w4 (bthen HB.out HB4.out)).mono ?_;rintro e w5 ⟨rfl,hb5⟩;have HB5:=jH (bthen HB4.out hb5);have HO5:=jH (HO4.out.below hb5);clear hb5)
    | (at_builtin;refine wpList_appendL eIt (by rfl) (by rfl) w2.heap.size out4 mf _ _ (by rfl) (by rfl) HO5.out (HRF.out.below (bthen HB.out HB5.out)) (by have:=HLT.out;simp [HE4.out,HE3.out];omega) HB5.out.size ?_;intro out6 A6 c6 w6 hout6 hown6 hg6 _
       have hb6:jB w2 w6:=HB5.out.trans (grown_own hg6 HO5.out HB5.out.size);have HO6:=jH hown6;have HE6:=jH hout6;have HB6:=jH hb6;clear hout6 hown6 hg6 hb6))
   go_ret
   have e:out6=withI l k x:=by rw [HE6.out,HE4.out,HE3.out,HW.out,HMT.out,HMF.out,List.nil_append]
   rw [←e];exact ⟨_,_,rfl,(RowG.own eIt HO6.out).imp (fun b hb=>Nat.le_trans HB.out.size hb),bthen HB.out HB6.out⟩
 | false =>
   have hrun:=HR0.out rfl
   go_enter Tryz.func184,Tryz.ntmps184
   go_wp2_with (first
    | (go_at_call 214
       refine calls_named ?_;intro W1 hW1;obtain ⟨k0,k1,hs,hb⟩:=two_boxes w _ _ W1 hW1;clear hW1;refine (HAT.out W1 hb).mono ?_;rintro e w2 ⟨rfl,hb2⟩;have HK:=jH (And.intro (jK hb2 k0) (jK hb2 k1));have HB:=jH (bthen hb hb2);clear k0 k1 hs hb hb2)
    | (at_builtin;refine wpList_appendL eIt (by rfl) (by rfl) w2.heap.size [] mt (.slice (some ⟨w2.heap.size,0,none⟩) 0 0) _ (by rfl) (by rfl) (OwnL.lit0 _ _ _ _ rfl (Nat.le_refl _)) (HRT.out.below (balloc HB.out _)) (by have:=HLT.out;simp;omega) (by simp) ?_;intro out3 A3 c3 w3 hout3 hown3 hg3 _
       have hb3:jB w2 w3:=(balloc jR _).grown hg3 (by simp) (fun r hr=>by have hr':some w2.heap.size=some r:=hr;injection hr';omega);obtain ⟨a1,a2,a3⟩:=box_cells hb3 HK.out.1;obtain ⟨b1,b2,b3⟩:=box_cells hb3 HK.out.2;have HO3:=jH hown3;have HE3:=jH hout3;have HB3:=jH hb3;clear hout3 hown3 hg3 hb3)
    | (at_builtin;refine wpList_appendL eIt (by rfl) (by rfl) w2.heap.size out3 [{ x with key:=k }] _ _ (by rfl) (by rfl) (HO3.out.below (balloc jR _)) (RowIn.lit (n:=12) (f:=itC) w3 { x with key:=k } _ _ _ rfl rfl) (by have:=HLT.out;simp [HE3.out];omega) (by have:=HB3.out.size;simp;omega) ?_;intro out4 A4 c4 w4 hout4 hown4 hg4 _
       have hb4:jB w2 w4:=(balloc HB3.out _).trans (grown_own hg4 HO3.out (by have:=HB3.out.size;simp;omega));obtain ⟨a1,a2,a3⟩:=box_cells hb4 HK.out.1;have HO4:=jH hown4;have HE4:=jH hout4;have HB4:=jH hb4;clear hout4 hown4 hg4 hb4)
    | (go_at_call 183
       refine (HH.out w4 (bthen HB.out HB4.out)).mono ?_;rintro e w5 ⟨rfl,hb5⟩;have HB5:=jH (bthen HB4.out hb5);have HO5:=jH (HO4.out.below hb5);clear hb5)
    | (at_builtin;refine wpList_appendL eIt (by rfl) (by rfl) w2.heap.size out4 mf _ _ (by rfl) (by rfl) HO5.out (HRF.out.below (bthen HB.out HB5.out)) (by have:=HLT.out;simp [HE4.out,HE3.out];omega) HB5.out.size ?_;intro out6 A6 c6 w6 hout6 hown6 hg6 _
       have hb6:jB w2 w6:=HB5.out.trans (grown_own hg6 HO5.out HB5.out.size);have HO6:=jH hown6;have HE6:=jH hout6;have HB6:=jH hb6;clear hout6 hown6 hg6 hb6))
   go_ret
   have e:out6=withI l k x:=by rw [HE6.out,HE4.out,HE3.out,HW.out,HMT.out,HMF.out,List.nil_append]
   rw [←e];exact ⟨_,_,rfl,(RowG.own eIt HO6.out).imp (fun b hb=>Nat.le_trans HB.out.size hb),bthen HB.out HB6.out⟩
end
section
open Go.RowKit Go.Lib Go.Sort
def absI (x:It):Ky × Nd:=(x.key,x.nd)
def Do18Says (P:Nat→Prop) (w:World) (l':List (Ky × Nd)) (e1 n more:Int) (e:Ending) (w':World):Prop :=
 ∃out A c,e=.returned (.tuple #[.slice A out.length c,.int .i64 e1,.int .i64 n,.int .i64 more])∧ItemsIn P w' (.slice A out.length c) out∧out.map absI=l'∧jB w w'
theorem Do18Says.same {P:Nat→Prop} {w w':World} {l:List It} {A:Option Addr} {c:Nat} (h:ItemsIn P w (.slice A l.length c) l) (hb:jB w w') (e1 n more:Int):Do18Says P w (l.map absI) e1 n more (.returned (.tuple #[.slice A l.length c,.int .i64 e1,.int .i64 n,.int .i64 more])) w' :=
 ⟨l,A,c,rfl,h.below hb,rfl,hb⟩
def act18C (k:Ky) (a:Act17):List Value:=[.int .u64 k.1,.int .u64 k.2,.int .i64 a.kind,.int .i64 a.smp.1,.int .i64 a.smp.2,.int .i64 a.pol.mn,.int .i64 a.pol.mx,.int .i64 a.pol.tg,.int .i64 a.pol.tol,.int .i64 a.pol.win,.int .i64 a.pol.hold,.int .i64 a.adv.tick,.int .i64 a.adv.load,.int .i64 a.adv.want,.int .i64 a.adv.repl,.int .i64 a.adv.why]
end
section
open Go.RowKit Go.Lib
theorem box_below {w wr w':World} {B:Nat} {cs:Array Value} {T:TypeId} (h:wr.heap[B]?=some (.cells cs T (0,0))) (hb:jB wr w'):w'.heap[B]?=some (.cells cs T (0,0)) :=
 jK hb h
theorem wideTotal_any (v:Value) (l:List Int) (w:World) (hv:RowIn 1 nmC w v l) (hl:l.length≤1000000) (hi:∀n∈l,0≤n∧n≤9223372036854775807) :
 Calls Tryz.prog 225 #[v] w (jP w (twoV (totN l))):=by
 obtain ⟨A,c,rfl⟩:=hv.form;have HV:=jH hv;have HI:=jH hi;have HL:=jH hl;have hl9:l.length≤9223372036854775807:=by omega
 clear hv hi hl
 go_enter Tryz.func225,Tryz.ntmps225
 go_wp2
 go_loopg [8] l.length (fun g s8 wr=>∃(k a b:Nat),k≤l.length∧l.length - k≤g∧s8=.int .i64 k∧Hid (a=totN (l.take k) / 18446744073709551616∧b=totN (l.take k) % 18446744073709551616)∧jB w wr∧wr.heap[w.heap.size]?=some (.cells #[.int .u64 0,.int .u64 0] 297 (0,0))∧wr.heap[w.heap.size+1]?=some (.cells #[.int .u64 a,.int .u64 b] 297 (0,0)))
 case atStart=>exact ⟨0,0,0,Nat.zero_le _,Nat.le_refl _,rfl,jH (by simp [totN]),balloc (balloc jR _) _,box_old _ _ _,box_new _ _ _⟩
 case round =>
  obtain ⟨k,a,b,hk,hg,rfl,HAB,hb,hz,hq⟩:=hrel;rename World=>wr
  have HB:=jH hb;have HZ:=jH hz;have HQ:=jH hq;obtain ⟨a1,a2,a3⟩:=box_cells jR hz;obtain ⟨c1,c2,c3⟩:=box_cells jR hq;clear hb hz hq
  by_cases hlt:k<l.length
  · obtain ⟨b1,o1,rfl,hb1,hc⟩:=(HV.out.below HB.out).at_ hlt
    have z1:(0:Int)≤(k:Int):=by omega
    have z2:(k:Int)<(l.length:Int):=by omega
    have HTK:=jH (show totN (l.take (k+1))=totN (l.take k)+l[k].toNat by rw [List.take_succ_eq_append_getElem hlt,totN_snoc]);have hx:=HI.out _ (List.getElem_mem hlt);have HTL:=jH (show totN (l.take k)≤1000000 * 9223372036854775807 from Nat.le_trans (totN_le (fun n hn=>(HI.out n (List.mem_of_mem_take hn)).2)) (Nat.mul_le_mul_right _ (by rw [List.length_take];have:=HL.out;omega)));generalize l[k]=x at hc HTK hx
    have d0:=hc 0 _ rfl;rw [Nat.add_zero,Nat.mul_one] at d0;have HK:=jH hlt;clear hc
    by_cases h0:0<x
    · obtain ⟨y,rfl⟩:∃y:Nat,x=y:=⟨x.toNat,by omega⟩
      have hy:y≤9223372036854775807:=by omega
      have q1:IntKind.u64.wrap (y:Int)=(y:Int):=u64_wrap y (by omega);obtain ⟨a',ha'⟩:∃a',a'=totN (l.take (k+1)) / 18446744073709551616:=⟨_,rfl⟩;obtain ⟨b',hb'⟩:∃b',b'=totN (l.take (k+1)) % 18446744073709551616:=⟨_,rfl⟩;have HAB2:=jH (And.intro ha' hb');have CA:=jH (fun W=>show Calls Tryz.prog 226 #[.agg #[.int .u64 a,.int .u64 b],.agg #[.int .u64 0,.int .u64 y]] W (jP W (.tuple #[.agg #[.int .u64 a',.int .u64 b'],.bool true])) from by
       have h:=wideAdd_any (totN (l.take k)) y (by have:=HTL.out;omega) W;have e1:y / 18446744073709551616=0:=Nat.div_eq_of_lt (by omega);have e2:y % 18446744073709551616=y:=Nat.mod_eq_of_lt (by omega);have e3:totN (l.take k)+y=totN (l.take (k+1)):=by rw [HTK.out];simp
       unfold twoV at h;rw [e3,e1,e2,←HAB.out.1,←HAB.out.2,←ha',←hb'] at h;exact h)
      have h0':(0:Int)<(y:Int):=h0;clear ha' hb' hx hy h0
      as_aux_lemma =>
      go_wp2_with (first
       | (go_at_call 226
          refine (CA.out wr).mono ?_;rintro e w3 ⟨rfl,hb3⟩;have HZ3:=jH (box_below (w:=w) HZ.out hb3);have HQ3:=jH (box_below (w:=w) HQ.out hb3);obtain ⟨e1,e2,e3⟩:=box_cells jR HQ3.out;have HB3:=jH (bthen HB.out hb3);clear hb3))
      go_roundg (l.length - (k+1))
      case measure=>omega
      case rel=>exact ⟨k+1,a',b',HK.out,Nat.le_refl _,by go_num,HAB2,(HB3.out.setCell (by simp) _).setCell (by simp) _,heap_set_ne (heap_set_ne HZ3.out (by omega)) (by omega),setCell_block (setCell_block HQ3.out)⟩
    · obtain rfl:x=0:=by omega
      have e3:totN (l.take (k+1))=totN (l.take k):=by rw [HTK.out];simp
      have HAB2:=jH (show a=totN (l.take (k+1)) / 18446744073709551616∧b=totN (l.take (k+1)) % 18446744073709551616 by rw [e3];exact HAB.out);clear e3 hx h0
      as_aux_lemma =>
      go_wp2_with fail
      go_roundg (l.length - (k+1))
      case measure=>omega
      case rel=>exact ⟨k+1,a,b,HK.out,Nat.le_refl _,by go_num,HAB2,HB.out,HZ.out,HQ.out⟩
  · obtain rfl:k=l.length:=by omega
    rw [List.take_length] at HAB;go_wp2_with fail
    have hz2:=setCell_block (i:=1) (v:=.int .u64 b) (setCell_block (i:=0) (v:=.int .u64 a) HZ.out);obtain ⟨f1,f2,f3⟩:=box_cells jR hz2;refine bodyPost_ret (v:=.agg #[.int .u64 a,.int .u64 b]) (by simp [results,Tryz.results225,go_sem,f1]) rfl ⟨?_,(HB.out.setCell (Nat.le_refl _) _).setCell (Nat.le_refl _) _⟩;unfold twoV;rw [HAB.out.1,HAB.out.2]
end
section
open Go.RowKit Go.Lib
theorem mean_law (t d:Nat) (hd:0<d):(t+(d - 1)) / d=if 0<t % d then t / d+1 else t / d:=by
 have h:=Nat.div_add_mod t d;have hm:=Nat.mod_lt t hd;generalize t / d=q at *;generalize t % d=r at *;subst h
 split
 · rw [Nat.add_assoc,Nat.mul_add_div hd]
   have:(r+(d - 1)) / d=1:=by
    rw [Nat.div_eq_iff hd];omega
   omega
 · rw [Nat.add_assoc,Nat.mul_add_div hd,Nat.div_eq_of_lt (by omega)]
   rfl
theorem wideMean_any (v:Value) (l:List Int) (w:World) (hv:RowIn 1 nmC w v l) (hl:l.length≤1000000) (hi:∀n∈l,0≤n∧n≤9223372036854775807) :
 Calls Tryz.prog 201 #[v] w (jP w (.int .i64 (meanN l:Nat))):=by
 obtain ⟨A,c,rfl⟩:=hv.form;have hl9:l.length≤9223372036854775807:=by omega
 by_cases hne:l=[]
 · have q1:(l.length:Int)=0:=by rw [hne];rfl
   have HM:=jH (show meanN l=0 by rw [hne];rfl);have q2:((l.length:Int) == 0)=true:=by simp [hne]
   clear hv hi hne
   go_enter Tryz.func201,Tryz.ntmps201
   go_wp2_with fail
   go_ret
   exact ⟨by rw [HM.out];rfl,jR⟩
 · have hp:0<l.length:=List.length_pos_iff.2 hne
   have CT:=jH (wideTotal_any _ l w hv hl hi);have htl:=totN_le (fun n hn=>(hi n hn).2);have hml:=meanN_le (fun n hn=>(hi n hn).2);have hmn:meanN l=if 0<totN l % l.length then totN l / l.length+1 else totN l / l.length:=by
    unfold meanN;rw [if_neg hne,mean_law _ _ hp]
   have q0:¬(l.length:Int)=0:=by omega
   have q1:((l.length:Int) == 0)=false:=by simpa using hne
   have q2:IntKind.u64.wrap (l.length:Int)=(l.length:Int):=u64_wrap _ (by omega);have htl2:totN l≤1000000 * 9223372036854775807:=Nat.le_trans htl (Nat.mul_le_mul_right _ hl);generalize totN l=t at CT hmn htl2;generalize hm:meanN l=m at hml hmn ⊢;obtain ⟨qa,hqa⟩:∃qa,qa=t / l.length / 18446744073709551616:=⟨_,rfl⟩;obtain ⟨qb,hqb⟩:∃qb,qb=t / l.length % 18446744073709551616:=⟨_,rfl⟩;obtain ⟨r,hr⟩:∃r,r=t % l.length:=⟨_,rfl⟩
   obtain ⟨n,hn⟩:∃n,n=l.length:=⟨_,rfl⟩;have hqle:t / l.length≤t:=Nat.div_le_self _ _;have CD:=jH (fun W=>show Calls Tryz.prog 224 #[twoV t,.int .u64 l.length] W (jP W (.tuple #[.agg #[.int .u64 qa,.int .u64 qb],.int .u64 r,.bool true])) from by
    have h:=wideDiv_any t l.length (by omega) hp (by omega) W;unfold twoV at h ⊢;rw [←hqa,←hqb,←hr] at h;exact h)
   by_cases hr0:0<r
   · rw [←hr,if_pos hr0] at hmn
     have CA:=jH (fun W=>show Calls Tryz.prog 226 #[.agg #[.int .u64 qa,.int .u64 qb],.agg #[.int .u64 0,.int .u64 1]] W (jP W (.tuple #[.agg #[.int .u64 0,.int .u64 m],.bool true])) from by
      have h:=wideAdd_any (t / l.length) 1 (by omega) W;unfold twoV at h;rw [←hqa,←hqb,←hmn,show m / 18446744073709551616=0 from Nat.div_eq_of_lt (by omega),show m % 18446744073709551616=m from Nat.mod_eq_of_lt (by omega)] at h;exact h)
     have CS:=jH (fun W=>show Calls Tryz.prog 227 #[.agg #[.int .u64 0,.int .u64 m]] W (jP W (.int .i64 m)) from by
      have h:=wideSmall_any m hml W;unfold twoV at h;rw [show m / 18446744073709551616=0 from Nat.div_eq_of_lt (by omega),show m % 18446744073709551616=m from Nat.mod_eq_of_lt (by omega)] at h;exact h)
     have q5:(0:Int)<(r:Int):=by omega
     clear hv hi hne hp htl hml hmn htl2 hqa hqb hr hn hqle hr0 hm n
     go_enter Tryz.func201,Tryz.ntmps201
     go_wp2_with (first
      | (go_at_call 225
         refine CT.out.mono ?_;rintro e w1 ⟨rfl,hb1⟩;have HB1:=jH hb1;clear hb1)
      | (go_at_call 224
         refine (CD.out w1).mono ?_;rintro e w2 ⟨rfl,hb2⟩;have HB2:=jH (bthen HB1.out hb2);clear hb2)
      | (go_at_call 226
         refine calls_named ?_;intro W3 hW3;have hb3:jB w2 W3:=by rw [hW3];exact balloc jR _
         have hx3:W3.heap[w2.heap.size]?=some (.cells #[.int .u64 qa,.int .u64 qb] 297 (0,0)):=by rw [hW3];exact heap_alloc_new _ _
         clear hW3;refine (CA.out W3).mono ?_;rintro e w4 ⟨rfl,hb4⟩;have HX4:=jH (box_below (w:=w) hx3 hb4);obtain ⟨e1,e2,e3⟩:=box_cells jR HX4.out;have HB4:=jH (bthen HB2.out (bthen hb3 hb4));have HS4:=jH (show w.heap.size≤w2.heap.size from HB2.out.size);clear hb3 hx3 hb4)
      | (go_at_call 227
         refine (CS.out _).mono ?_;rintro e w5 ⟨rfl,hb5⟩;have HB5:=jH (bthen ((HB4.out.setCell HS4.out _).setCell HS4.out _) hb5);clear hb5))
     go_ret
     exact ⟨rfl,HB5.out⟩
   · rw [←hr,if_neg hr0] at hmn
     have CS:=jH (fun W=>show Calls Tryz.prog 227 #[.agg #[.int .u64 qa,.int .u64 qb]] W (jP W (.int .i64 m)) from by
      have h:=wideSmall_any m hml W;unfold twoV at h;rw [hmn,←hqa,←hqb] at h;rw [hmn];exact h)
     obtain rfl:r=0:=by omega
     clear hv hi hne hp htl hml hmn htl2 hqa hqb hr hn hqle hr0 hm n
     go_enter Tryz.func201,Tryz.ntmps201
     go_wp2_with (first
      | (go_at_call 225
         refine CT.out.mono ?_;rintro e w1 ⟨rfl,hb1⟩;have HB1:=jH hb1;clear hb1)
      | (go_at_call 224
         refine (CD.out w1).mono ?_;rintro e w2 ⟨rfl,hb2⟩;have HB2:=jH (bthen HB1.out hb2);clear hb2)
      | (go_at_call 227
         refine (CS.out _).mono ?_;rintro e w5 ⟨rfl,hb5⟩;have HB5:=jH (bthen (balloc HB2.out _) hb5);clear hb5))
     go_ret
     exact ⟨rfl,HB5.out⟩
end
section
open Go.RowKit Go.Lib
theorem refStep_any (h c:Nat) (w:World) (hh:h<18446744073709551616) (hc:c<256) :
 Calls Tryz.prog 210 #[.int .u64 h,.int .u8 c] w fun e w'=>e=.returned (.int .u64 (stepH h c:Nat))∧w=w':=by
 have hx:=xor_byte h c hc;have hlt:h ^^^ c<2 ^ 64:=Nat.xor_lt_two_pow (by omega) (by omega);have hb:(h % 256) ^^^ c<2 ^ 8:=Nat.xor_lt_two_pow (by omega) (by omega);have hl:h % 256<256:=by omega
 have hd:((h:Int) % 256)=((h % 256:Nat):Int):=by simp
 have hs:((h:Int) - ((h % 256:Nat):Int))+((((h % 256) ^^^ c:Nat)):Int)=((h ^^^ c:Nat):Int):=by omega
 have hst:IntKind.u64.wrap (((h ^^^ c:Nat):Int) * 1099511628211)=(stepH h c:Nat):=by
  rw [show ((h ^^^ c:Nat):Int) * 1099511628211=(((h ^^^ c) * prime64:Nat):Int) by rw [Int.natCast_mul];rfl,u64_wrap_mod];rfl
 have hle:h % 256≤h:=by omega
 generalize hm:h % 256=m at *;generalize hX:m ^^^ c=X at *;generalize hY:h ^^^ c=Y at *;have Hm:=jH hm;have HX:=jH hX;have Hst:=jH hst;have Hs:=jH hs;have Hd:=jH hd;clear hm hX hY hst hs hd hx
 go_enter Tryz.func210,Tryz.ntmps210
 go_wp2_with fail
 rw [Hd.out];refine (unlike_any m c _ hl hc).mono ?_;rw [HX.out];rintro e w' ⟨rfl,rfl⟩;have hbd:(h:Int) - (m:Int)+(X:Int)≤18446744073709551615:=by have:=Hs.out;omega
 go_wp2
 go_ret
 refine ⟨ret_int ?_,rfl⟩;rw [←Hst.out,←Hs.out]
def hG (f:Nat→Nat→Nat) (x h0:Nat):Nat→Nat
  | 0=>h0
  | k+1=>f (hG f x h0 k) (x / (72057594037927936 / 256 ^ k) % 256)
def hF (x h0 k:Nat):Nat:=hG stepH x h0 k
theorem hF_succ (x h0 k:Nat):hF x h0 (k+1)=stepH (hF x h0 k) (x / (72057594037927936 / 256 ^ k) % 256):=rfl
theorem hF_lt (x h0 k:Nat) (h:h0<18446744073709551616):hF x h0 k<18446744073709551616:=by
 cases k with
 | zero=>exact h
 | succ k=>rw [hF_succ];exact stepH_lt _ _
theorem sumL_nums (l:List Int) (h:∀n∈l,0≤n∧n<256) (h0:Nat):(strOfNums l).data.toList.foldl (fun h b=>stepH h b.toNat) h0=l.foldl (fun h n=>stepH h n.toNat) h0:=by
 rw [strOfNums_data]
 induction l generalizing h0 with
 | nil=>rfl
 | cons a l ih =>
   have ha:=h a (by simp);rw [List.map_cons,List.foldl_cons,List.foldl_cons];have e:(UInt8.ofNat a.toNat).toNat=a.toNat:=by
    rw [UInt8.toNat_ofNat'];omega
   rw [e];exact ih (fun n hn=>h n (by simp [hn])) _
theorem byteI_bd (x k:Nat):0≤byteI x k∧byteI x k<256:=by unfold byteI;omega
theorem byteI_nat (x k:Nat):(byteI x k).toNat=x / k % 256:=by unfold byteI;omega
theorem keyNums_hG (f:Nat→Nat→Nat) (hi lo b:Nat):(keyNums hi lo).foldl (fun h n=>f h n.toNat) b=hG f lo (hG f hi b 8) 8:=by
 simp only [keyNums,List.foldl_cons,List.foldl_nil,byteI_nat,hG,Nat.reducePow,Nat.reduceDiv]
theorem fnvKey_hF (hi lo:Nat):fnvKey hi lo=hF lo (hF hi basis64 8) 8:=by
 have h:∀n∈keyNums hi lo,0≤n∧n<256:=by
  intro n hn;simp only [keyNums,List.mem_cons,List.not_mem_nil,or_false] at hn
  rcases hn with rfl|rfl|rfl|rfl|rfl|rfl|rfl|rfl|rfl|rfl|rfl|rfl|rfl|rfl|rfl|rfl <;> exact byteI_bd _ _
 unfold fnvKey keyStr sumL;rw [sumL_nums _ h];exact keyNums_hG stepH hi lo basis64
theorem refFnvKey_any (hi lo:Nat) (w:World) (h1:hi<18446744073709551616) (h2:lo<18446744073709551616) :
 Calls Tryz.prog 180 #[keyV hi lo] w (jP w (.int .u64 (fnvKey hi lo:Nat))):=by
 have hk:=jH (fnvKey_hF hi lo);unfold keyV
 go_enter Tryz.func180,Tryz.ntmps180
 go_wp2
 go_loop [3,4,5] (fun h d i=>∃k:Nat,k≤8∧i=.int .i64 k∧d=.int .u64 (72057594037927936 / 256 ^ k:Nat)∧h=.int .u64 (hF hi basis64 k:Nat)) (fun _ _ i=>8 - (intOf i).toNat)
 case atStart=>exact ⟨0,by omega,rfl,by simp,rfl⟩
 case round =>
  obtain ⟨k,hk8,rfl,rfl,rfl⟩:=hrel
  by_cases hlt:k<8
  · have hst:hF hi basis64 (k+1)=stepH (hF hi basis64 k) (hi / (72057594037927936 / 256 ^ k) % 256):=hF_succ _ _ _
    have hd:72057594037927936 / 256 ^ k / 256=72057594037927936 / 256 ^ (k+1):=by rw [Nat.div_div_eq_div_mul,Nat.pow_succ]
    have hp:1≤72057594037927936 / 256 ^ k:=by
     have h3:256 ^ k≤256 ^ 7:=Nat.pow_le_pow_right (by decide) (by omega);exact (Nat.le_div_iff_mul_le (Nat.pow_pos (by decide))).2 (by omega)
    have hpu:72057594037927936 / 256 ^ k≤72057594037927936:=Nat.div_le_self _ _;have hl:=hF_lt hi basis64 k basis_lt;have Hst:=jH hst;have Hd:=jH hd;clear hst hd;generalize hx:72057594037927936 / 256 ^ k=D at *;generalize hy:hF hi basis64 k=H at *;clear hx hy;have hc:hi / D % 256<256:=Nat.mod_lt _ (by decide);have hdv:hi / D≤hi:=Nat.div_le_self _ _;have hdi:(hi:Int) / (D:Int)=((hi / D:Nat):Int):=by simp
    have hb1:0≤(hi:Int) / (D:Int):=by rw [hdi];exact Int.natCast_nonneg _
    have hb2:(hi:Int) / (D:Int)≤18446744073709551615:=by rw [hdi];omega
    have hm:(hi:Int) / (D:Int) % 256=((hi / D % 256:Nat):Int):=by rw [hdi];simp
    have Hm:=jH hm;clear hdi hm;go_wp2_with fail
    rw [Hm.out];refine (refStep_any H (hi / D % 256) _ hl hc).mono ?_;rintro e w' ⟨rfl,rfl⟩;go_wp2
    go_round
    case rel=>exact ⟨k+1,hlt,by go_num,by rw [←Hd.out];simp,by rw [Hst.out]⟩
    case measure=>simp [intOf];omega
  · obtain rfl:k=8:=by omega
    have hB:=hF_lt hi basis64 8 basis_lt;generalize hF hi basis64 8=B0 at *;go_wp2
    go_loop [3,4,6] (fun h d i=>∃k:Nat,k≤8∧i=.int .i64 k∧d=.int .u64 (72057594037927936 / 256 ^ k:Nat)∧h=.int .u64 (hF lo B0 k:Nat)) (fun _ _ i=>8 - (intOf i).toNat)
    case atStart=>exact ⟨0,by omega,rfl,by simp,rfl⟩
    case round =>
     obtain ⟨k,hk8',rfl,rfl,rfl⟩:=hrel
     by_cases hlt:k<8
     · have hst:hF lo B0 (k+1)=stepH (hF lo B0 k) (lo / (72057594037927936 / 256 ^ k) % 256):=hF_succ _ _ _
       have hd:72057594037927936 / 256 ^ k / 256=72057594037927936 / 256 ^ (k+1):=by rw [Nat.div_div_eq_div_mul,Nat.pow_succ]
       have hp:1≤72057594037927936 / 256 ^ k:=by
        have h3:256 ^ k≤256 ^ 7:=Nat.pow_le_pow_right (by decide) (by omega);exact (Nat.le_div_iff_mul_le (Nat.pow_pos (by decide))).2 (by omega)
       have hpu:72057594037927936 / 256 ^ k≤72057594037927936:=Nat.div_le_self _ _;have hl:=hF_lt lo B0 k hB;have Hst:=jH hst;have Hd:=jH hd;clear hst hd;generalize hx:72057594037927936 / 256 ^ k=D at *;generalize hy:hF lo B0 k=H at *;clear hx hy;have hc:lo / D % 256<256:=Nat.mod_lt _ (by decide);have hdv:lo / D≤lo:=Nat.div_le_self _ _;have hdi:(lo:Int) / (D:Int)=((lo / D:Nat):Int):=by simp
       have hb1:0≤(lo:Int) / (D:Int):=by rw [hdi];exact Int.natCast_nonneg _
       have hb2:(lo:Int) / (D:Int)≤18446744073709551615:=by rw [hdi];omega
       have hm:(lo:Int) / (D:Int) % 256=((lo / D % 256:Nat):Int):=by rw [hdi];simp
       have Hm:=jH hm;clear hdi hm;go_wp2_with fail
       rw [Hm.out];refine (refStep_any H (lo / D % 256) _ hl hc).mono ?_;rintro e w' ⟨rfl,rfl⟩;go_wp2
       go_round
       case rel=>exact ⟨k+1,hlt,by go_num,by rw [←Hd.out];simp,by rw [Hst.out]⟩
       case measure=>simp [intOf];omega
     · obtain rfl:k=8:=by omega
       go_wp2
       go_ret
       exact ⟨ret_int (by rw [hk.out]),balloc jR _⟩
end
section
open Go.RowKit Go.Lib
theorem foldN_xor (h m:Nat) (h1:1≤m) (h2:m≤32):foldN h m=(h % 2 ^ m) ^^^ (h / 2 ^ m % 2 ^ m):=by
 rw [foldN,if_neg (by omega),Nat.xor_mod_two_pow]
theorem refFold_any (h m:Nat) (w:World) (hh:h<18446744073709551616) (hm:m≤6) :
 Calls Tryz.prog 179 #[.int .u64 h,.int .i64 m] w fun e w'=>e=.returned (.int .u64 (foldN h m:Nat))∧w=w':=by
 by_cases h0:m<1
 · obtain rfl:m=0:=by omega
   have hv:foldN h 0=0:=by simp [foldN]
   rw [hv];clear hv
   go_enter Tryz.func179,Tryz.ntmps179
   go_wp2
   go_ret
   exact ⟨rfl,rfl⟩
 · have hfin:=jH (foldN_xor h m (by omega) (by omega))
   have q0:(1:Int)≤(m:Int):=by omega
   go_enter Tryz.func179,Tryz.ntmps179
   go_wp2
   go_loop [5,6] (fun d i=>∃k:Nat,k≤m∧i=.int .i64 k∧d=.int .u64 (2 ^ k:Nat)) (fun _ i=>m - (intOf i).toNat)
   case atStart=>exact ⟨0,by omega,rfl,rfl⟩
   case round =>
    obtain ⟨k,hk,rfl,rfl⟩:=hrel;have hp:2 ^ k≤2 ^ 6:=Nat.pow_le_pow_right (by decide) (by omega);have hp1:1≤2 ^ k:=Nat.pow_pos (by decide)
    by_cases hlt:k<m
    · have s4:=jH (Nat.pow_succ 2 k)
      generalize hN:2 ^ k=N at *;clear hN;go_wp2
      go_round
      case rel=>exact ⟨k+1,hlt,by go_num,by rw [s4.out];simp⟩
      case measure=>simp [intOf];omega
    · obtain rfl:k=m:=by omega
      have hA:h % 2 ^ k<2 ^ k:=Nat.mod_lt _ hp1;have hB:h / 2 ^ k % 2 ^ k<2 ^ k:=Nat.mod_lt _ hp1;have hAi:(h:Int) % ((2 ^ k:Nat):Int)=((h % 2 ^ k:Nat):Int):=by simp
      have hBi:(h:Int) / ((2 ^ k:Nat):Int) % ((2 ^ k:Nat):Int)=((h / 2 ^ k % 2 ^ k:Nat):Int):=by simp
      have hd:h / 2 ^ k≤h:=Nat.div_le_self _ _;have hDi:(h:Int) / ((2 ^ k:Nat):Int)=((h / 2 ^ k:Nat):Int):=by simp
      have hb1:0≤(h:Int) / ((2 ^ k:Nat):Int):=by rw [hDi];exact Int.natCast_nonneg _
      have hb2:(h:Int) / ((2 ^ k:Nat):Int)≤18446744073709551615:=by rw [hDi];omega
      have HAi:=jH hAi;have HBi:=jH hBi;clear hAi hBi hDi hd;generalize hx:h % 2 ^ k=A at *;generalize hy:h / 2 ^ k % 2 ^ k=B at *;have Hp:Hid (∀j,j≤k→2 ^ j≤2 ^ 6):=jH (fun j hj=>Nat.pow_le_pow_right (by decide) (by omega));have HA:Hid (A<2 ^ k∧B<2 ^ k):=jH ⟨hA,hB⟩;clear hx hy;generalize hN:2 ^ k=N at HAi HBi hb1 hb2 hp hp1 hA hB ⊢;have HN:=jH hN;clear hN;go_wp2
      rw [HAi.out,HBi.out];have hk6:(k:Int)≤6:=by omega
      clear hb1 hb2 hlt hk
      go_loop [7,8,9,10,11] (fun x y o n i=>∃j:Nat,j≤k∧i=.int .i64 j∧x=.int .u64 (A / 2 ^ j:Nat)∧y=.int .u64 (B / 2 ^ j:Nat)∧o=.int .u64 ((A ^^^ B) % 2 ^ j:Nat)∧n=.int .u64 (2 ^ j:Nat)) (fun _ _ _ _ i=>k - (intOf i).toNat)
      case atStart=>exact ⟨0,by omega,rfl,by simp,by simp,by simp [Nat.mod_one],rfl⟩
      case round =>
       obtain ⟨j,hj,rfl,rfl,rfl,rfl,rfl⟩:=hrel
       by_cases hlt2:j<k
       · have hp:=Hp.out j hj
         have hx:(A ^^^ B) % 2 ^ j<2 ^ j:=Nat.mod_lt _ (Nat.pow_pos (by decide));have ha2:A / 2 ^ j≤A:=Nat.div_le_self _ _;have hb2:B / 2 ^ j≤B:=Nat.div_le_self _ _;have s1:=jH (xor_step A B j);have s4:=jH (Nat.pow_succ 2 j)
         by_cases he:A / 2 ^ j % 2=B / 2 ^ j % 2
         · have s2:=jH (half_step A j)
           have s3:=jH (half_step B j);have He:=jH he;clear he;generalize hA':A / 2 ^ j=A' at *;generalize hB':B / 2 ^ j=B' at *;generalize hX':(A ^^^ B) % 2 ^ j=X at *;generalize hM':2 ^ j=M at *;clear hA' hB' hX' hM';have hq:((A':Int) % 2 != (B':Int) % 2)=false:=by have:=He.out;simp;omega
           go_wp2
           go_round
           case rel=>exact ⟨j+1,hlt2,by go_num,by rw [←s2.out];simp,by rw [←s3.out];simp,by rw [s1.out,if_pos He.out];simp,by rw [s4.out];simp⟩
           case measure=>simp [intOf];omega
         · have s2:=jH (half_step A j)
           have s3:=jH (half_step B j);have He:=jH he;clear he;generalize hA':A / 2 ^ j=A' at *;generalize hB':B / 2 ^ j=B' at *;generalize hX':(A ^^^ B) % 2 ^ j=X at *;generalize hM':2 ^ j=M at *;clear hA' hB' hX' hM';have hq:((A':Int) % 2 != (B':Int) % 2)=true:=by have:=He.out;simp;omega
           go_wp2
           go_round
           case rel=>exact ⟨j+1,hlt2,by go_num,by rw [←s2.out];simp,by rw [←s3.out];simp,by rw [s1.out,if_neg He.out];simp,by rw [s4.out];simp⟩
           case measure=>simp [intOf];omega
       · obtain rfl:j=k:=by omega
         go_wp2
         go_ret
         refine ⟨ret_int ?_,rfl⟩;rw [hfin.out];have hv:A ^^^ B<2 ^ j:=Nat.xor_lt_two_pow HA.out.1 HA.out.2;have hv2:(A ^^^ B) % 2 ^ j=A ^^^ B:=Nat.mod_eq_of_lt hv;rw [show ((A ^^^ B:Nat):Int) % 2 ^ j=(((A ^^^ B) % 2 ^ j:Nat):Int) by simp,hv2]
theorem refOf_any (hi lo:Nat) (n:Int) (w:World) (h1:hi<18446744073709551616) (h2:lo<18446744073709551616) :
 Calls Tryz.prog 136 #[keyV hi lo,.int .i64 n] w (jP w (.int .i64 (routeI hi lo n))):=by
 cases hr:okSt n with
 | false =>
   have hv:routeI hi lo n = -1:=by simp [routeI,hr]
   have hb:(bitsI n<0):=by
    have:=bitsI_ok n;rw [hr] at this
    simpa using this
   rw [hv];clear hr hv;unfold keyV
   go_enter Tryz.func136,Tryz.ntmps136
   go_wp2_with (go_at_call 42;refine (ref05Bits_any n _).mono ?_;rintro e w' ⟨rfl,rfl⟩)
   go_ret
   exact ⟨rfl,balloc jR _⟩
 | true =>
   have hb:=bitsI_bd n hr;obtain ⟨m,hm⟩:=Int.eq_ofNat_of_zero_le hb.1;have hv:routeI hi lo n=(foldN (fnvKey hi lo) m:Nat):=by simp [routeI,hr,hm]
   have hf:=foldN_lt (fnvKey hi lo) m;have hk:=fnvKey_lt hi lo;have hm6:m≤6:=by omega
   rw [hv];have Hm:=jH hm;clear hr hv hm hb;unfold keyV
   go_enter Tryz.func136,Tryz.ntmps136
   go_wp2_with (first
    | (go_at_call 42;refine (ref05Bits_any n _).mono ?_;rw [Hm.out];rintro e w' ⟨rfl,rfl⟩)
    | (go_at_call 180;refine (refFnvKey_any hi lo _ h1 h2).mono ?_;rintro e w1 ⟨rfl,hb1⟩)
    | (go_at_call 179;refine (refFold_any _ m _ hk hm6).mono ?_;rintro e w' ⟨rfl,rfl⟩))
   go_ret
   exact ⟨rfl,bthen (balloc jR _) hb1⟩
end
section
open Go.RowKit Go.Lib
structure Trk where
 nth:Int
 last:Int
 hi:Nat
 lo:Nat
def trk0:Trk:=⟨0,0,0,0⟩
def mayK (k was:Int):Bool :=
 decide ((k=1∧(was=0∨was=3))∨(k=2∧was=1)∨(k=3∧was=2)∨(k=4∧(was=0∨was=7))∨(k=5∧was=4)∨(k=6∧was=5)∨(k=7∧(was=5∨was=6)))
def nthK (nth k was:Int):Int:=if k=1∧was=3 then nth+1 else nth
def trkN (t:Trk) (e:EvtD):Trk:=⟨nthK t.nth e.kind t.last,e.kind,if e.kind=4 then e.hi else t.hi,if e.kind=4 then e.lo else t.lo⟩
def trkB (t:Trk) (e:EvtD):Bool:=mayK e.kind t.last && decide (e.nth=(trkN t e).nth∧e.hi=(trkN t e).hi∧e.lo=(trkN t e).lo)
def oneT:Trk→List EvtD→Bool
  | _,[]=>true
  | t,e::l=>trkB t e && oneT (trkN t e) l
def oneB (nth was:Int) (hi lo:Nat) (e:EvtD):Bool :=
 decide (e.nth=nthK nth e.kind was∧(1≤e.kind∧e.kind≤3→e.hi=0∧e.lo=0)∧(5≤e.kind→e.hi=hi∧e.lo=lo)) && mayK e.kind was
def oneR:Int→Int→Nat→Nat→List EvtD→Bool
  | _,_,_,_,[]=>true
  | nth,was,hi,lo,e::l=>oneB nth was hi lo e && oneR (nthK nth e.kind was) e.kind e.hi e.lo l
structure TrkOk (t:Trk) (nth was:Int) (hi lo:Nat):Prop where
 nth:t.nth=nth
 last:t.last=was
 low:0≤was∧was≤7
 key:was≤3→t.hi=0∧t.lo=0
 key4:4≤was→t.hi=hi∧t.lo=lo
theorem trk_step {t:Trk} {nth was:Int} {hi lo:Nat} (h:TrkOk t nth was hi lo) (e:EvtD) :
 trkB t e=oneB nth was hi lo e∧(trkB t e=true→TrkOk (trkN t e) (nthK nth e.kind was) e.kind e.hi e.lo):=by
 obtain ⟨tn,tl,th,tlo⟩:=t;obtain ⟨h1,h2,h3,h4,h5⟩:=h;dsimp only at h1 h2 h4 h5;subst h1 h2;have key:trkB ⟨tn,tl,th,tlo⟩ e=true ↔ oneB tn tl hi lo e=true:=by
  unfold trkB oneB trkN mayK;dsimp only;simp only [Bool.and_eq_true,decide_eq_true_eq]
  constructor
  · rintro ⟨hm,e1,e2,e3⟩
    refine ⟨⟨e1,fun h9=>?_,fun h9=>?_⟩,hm⟩
    · rw [if_neg (by omega)] at e2 e3
      have:=h4 (by omega);omega
    · rw [if_neg (by omega)] at e2 e3
      have:=h5 (by omega);omega
  · rintro ⟨⟨e1,e2,e3⟩,hm⟩
    refine ⟨hm,e1,?_,?_⟩
    · by_cases k4:e.kind=4
      · rw [if_pos k4]
      · rw [if_neg k4]
        by_cases k3:e.kind≤3
        · have:=e2 (by omega);have:=h4 (by omega);omega
        · have:=e3 (by omega);have:=h5 (by omega);omega
    · by_cases k4:e.kind=4
      · rw [if_pos k4]
      · rw [if_neg k4]
        by_cases k3:e.kind≤3
        · have:=e2 (by omega);have:=h4 (by omega);omega
        · have:=e3 (by omega);have:=h5 (by omega);omega
 refine ⟨?_,fun hb=>?_⟩
 · cases hx:trkB ⟨tn,tl,th,tlo⟩ e with
   | true=>exact (key.1 hx).symm
   | false =>
     cases hy:oneB tn tl hi lo e with
     | true=>rw [key.2 hy] at hx;cases hx
     | false=>rfl
 · have hb2:=hb
   unfold trkB mayK at hb2;simp only [Bool.and_eq_true,decide_eq_true_eq] at hb2
   obtain ⟨hm,e1,e2,e3⟩:=hb2;unfold trkN at e1 e2 e3 ⊢;dsimp only at e1 e2 e3;refine ⟨rfl,rfl,by omega,fun h9=>?_,fun h9=>?_⟩
   · dsimp only
     rw [if_neg (by omega),if_neg (by omega)];exact h4 (by omega)
   · exact ⟨e2.symm,e3.symm⟩
theorem one_same:∀(l:List EvtD) {t:Trk} {nth was:Int} {hi lo:Nat},TrkOk t nth was hi lo→oneT t l=oneR nth was hi lo l
  | [],_,_,_,_,_,_=>rfl
  | e::l,t,nth,was,hi,lo,h=>by
    obtain ⟨h1,h2⟩:=trk_step h e;unfold oneT oneR;rw [←h1]
    cases hb:trkB t e with
    | false=>rfl
    | true=>rw [Bool.true_and,Bool.true_and];exact one_same l (h2 hb)
theorem trk0_ok:TrkOk trk0 0 0 0 0:=⟨rfl,rfl,by omega,fun _=>⟨rfl,rfl⟩,fun h=>by omega⟩
def rightT:(Int→Trk)→List EvtD→Bool
  | _,[]=>true
  | S,e::l=>decide (0≤e.task∧e.task<32) && trkB (S e.task) e && rightT (fun n=>if n=e.task then trkN (S e.task) e else S n) l
def ofE (t:Int) (l:List EvtD):List EvtD:=l.filter fun e=>decide (e.task=t)
def inE (l:List EvtD):Bool:=l.all fun e=>decide (0≤e.task∧e.task≤31)
def rightR (l:List EvtD):Bool:=inE l && (List.range 32).all fun t=>oneR 0 0 0 0 (ofE (t:Nat) l)
theorem rightT_iff:∀(l:List EvtD) (S:Int→Trk),rightT S l=true ↔ (inE l=true∧∀t:Nat,t<32→oneT (S t) (ofE (t:Nat) l)=true)
  | [],S=>by simp [rightT,inE,ofE,oneT]
  | e::l,S=>by
    have ih:=rightT_iff l (fun n=>if n=e.task then trkN (S e.task) e else S n);unfold rightT;rw [Bool.and_eq_true,Bool.and_eq_true,decide_eq_true_eq,ih];unfold inE;rw [List.all_cons,Bool.and_eq_true,decide_eq_true_eq]
    constructor
    · rintro ⟨⟨h1,h2⟩,h3,h4⟩
      refine ⟨⟨by omega,h3⟩,fun t ht=>?_⟩;have h5:=h4 t ht;unfold ofE
      by_cases he:e.task=(t:Int)
      · rw [List.filter_cons_of_pos (by simpa using he)]
        unfold oneT;rw [←he,h2,Bool.true_and];rw [if_pos he.symm,←he] at h5;exact h5
      · rw [List.filter_cons_of_neg (by simpa using he)]
        rw [if_neg (fun h=>he h.symm)] at h5;exact h5
    · rintro ⟨⟨h1,h3⟩,h4⟩
      obtain ⟨n,hn⟩:∃n:Nat,e.task=(n:Int):=⟨e.task.toNat,by omega⟩;have hn2:n<32:=by omega
      have h5:=h4 n hn2;unfold ofE at h5;rw [List.filter_cons_of_pos (by simpa using hn)] at h5;unfold oneT at h5;rw [Bool.and_eq_true,←hn] at h5;refine ⟨⟨by omega,h5.1⟩,h3,fun t ht=>?_⟩
      by_cases he:(t:Int)=e.task
      · rw [if_pos he,he]
        exact h5.2
      · rw [if_neg he]
        have h6:=h4 t ht;unfold ofE at h6;rw [List.filter_cons_of_neg (by simpa using fun h=>he h.symm)] at h6;exact h6
theorem right_law (l:List EvtD):rightT (fun _=>trk0) l=rightR l:=by
 have h1:=rightT_iff l (fun _=>trk0);have h2:rightR l=true ↔ (inE l=true∧∀t:Nat,t<32→oneT trk0 (ofE (t:Nat) l)=true):=by
  unfold rightR;rw [Bool.and_eq_true,List.all_eq_true]
  constructor
  · rintro ⟨h3,h4⟩
    exact ⟨h3,fun t ht=>by rw [one_same _ trk0_ok];exact h4 t (List.mem_range.2 ht)⟩
  · rintro ⟨h3,h4⟩
    exact ⟨h3,fun t ht=>by rw [←one_same _ trk0_ok];exact h4 t (List.mem_range.1 ht)⟩
 rw [Bool.eq_iff_iff,h1,h2]
end
section
open Go.RowKit Go.Lib
def wasE (es:List EvtD) (k:Nat):Int:=if k=0 then 0 else ((es[k - 1]?).map (·.kind)).getD 0
def hiE (es:List EvtD) (k:Nat):Nat:=if k=0 then 0 else ((es[k - 1]?).map (·.hi)).getD 0
def loE (es:List EvtD) (k:Nat):Nat:=if k=0 then 0 else ((es[k - 1]?).map (·.lo)).getD 0
theorem wasE_succ {es:List EvtD} {k:Nat} (h:k<es.length):wasE es (k+1)=es[k].kind∧hiE es (k+1)=es[k].hi∧loE es (k+1)=es[k].lo:=by
 unfold wasE hiE loE;simp [List.getElem?_eq_getElem h]
theorem oneR_drop {nth was:Int} {hi lo:Nat} {l:List EvtD} {k:Nat} (hk:k<l.length):oneR nth was hi lo (l.drop k)=(oneB nth was hi lo l[k] && oneR (nthK nth l[k].kind was) l[k].kind l[k].hi l[k].lo (l.drop (k+1))):=by
 rw [List.drop_eq_getElem_cons hk];rfl
def oneQ (n1 was:Int) (hi lo:Nat) (kd nt:Int) (eh el:Nat):Bool:=decide (nt=n1∧(1≤kd∧kd≤3→eh=0∧el=0)∧(5≤kd→eh=hi∧el=lo)) && mayK kd was
theorem oneQ_bad {n1 was:Int} {hi lo:Nat} {kd nt:Int} {eh el:Nat} {X ans:Bool} (hx:(oneQ n1 was hi lo kd nt eh el && X)=ans)
    (h:¬(nt=n1∧(1≤kd∧kd≤3→eh=0∧el=0)∧(5≤kd→eh=hi∧el=lo)∧mayK kd was=true)):false=ans:=by
  rw [←hx]
  cases hq:oneQ n1 was hi lo kd nt eh el with
  | false=>rfl
  | true =>
    unfold oneQ at hq;simp only [Bool.and_eq_true,decide_eq_true_eq] at hq
    exact absurd ⟨hq.1.1,hq.1.2.1,hq.1.2.2,hq.2⟩ h
theorem oneQ_ok {n1 was:Int} {hi lo:Nat} {kd nt:Int} {eh el:Nat} {X ans:Bool} (hx:(oneQ n1 was hi lo kd nt eh el && X)=ans)
    (h:nt=n1∧(1≤kd∧kd≤3→eh=0∧el=0)∧(5≤kd→eh=hi∧el=lo)∧mayK kd was=true):X=ans:=by
  rw [←hx];have hq:oneQ n1 was hi lo kd nt eh el=true:=by
   unfold oneQ;simp only [Bool.and_eq_true,decide_eq_true_eq]
   exact ⟨⟨h.1,h.2.1,h.2.2.1⟩,h.2.2.2⟩
  rw [hq,Bool.true_and]
theorem neKy (a b c d:Nat) (U:World):(binOp .neq 130 (.agg #[.int .u64 (a:Nat),.int .u64 (b:Nat)]) (.agg #[.int .u64 (c:Nat),.int .u64 (d:Nat)])).run Tryz.prog U=.ok (.bool (!decide (a=c∧b=d))) U:=by
 go_simp
 by_cases h1:a=c
 · by_cases h2:b=d
   · simp [h1,h2]
   · have h3:¬(b:Int)=(d:Int):=by omega
     simp [h1,h2,h3]
 · have h3:¬(a:Int)=(c:Int):=by omega
   simp [h1,h3]
theorem neKz (a b:Nat) (U:World):(binOp .neq 130 (.agg #[.int .u64 (a:Nat),.int .u64 (b:Nat)]) (.agg #[.int .u64 0,.int .u64 0])).run Tryz.prog U=.ok (.bool (!decide (a=0∧b=0))) U:=neKy a b 0 0 U
theorem stor2 {w:World} {X:Nat} {a b:Value} {Q:TypeId} (h:w.heap[X]?=some (.cells #[a,b] Q (0,0))) (c d:Value):((w.setCell ⟨X,0,none⟩ c).setCell ⟨X,1,none⟩ d).heap[X]?=some (.cells #[c,d] Q (0,0)) :=
 stor_one (i:=1) (v:=d) (stor_one (i:=0) (v:=c) h)
theorem one30_any (v:Value) (es:List EvtD) (w:World) (he:RowIn 34 evC w v es) (hel:es.length≤100) :
 Calls Tryz.prog 76 #[v] w (jP w (.bool (oneR 0 0 0 0 es))):=by
 obtain ⟨A,c,rfl,hAc,h0⟩:=id he;clear h0;have HE:=jH he;have q9:(es.length:Int)≤100:=by omega
 obtain ⟨ans,hans⟩:∃r,r=oneR 0 0 0 0 es:=⟨_,rfl⟩;rw [←hans];have HANS:=jH hans;clear he hAc hel hans
 go_enter Tryz.func76,Tryz.ntmps76
 go_wp2_with fail
 go_loopg [3,4] es.length (fun g s3 s4 wr=>∃(k:Nat) (nth:Int),k≤es.length∧es.length - k≤g∧s3=.int .i64 nth∧s4=.int .i64 k∧Hid (0≤nth∧nth≤(k:Int))∧Hid (oneR nth (wasE es k) (hiE es k) (loE es k) (es.drop k)=ans)∧Hid (jB w wr))
 case atStart=>exact ⟨0,0,Nat.zero_le _,Nat.le_refl _,rfl,rfl,jH (by omega),jH (by rw [HANS.out];rfl),jH jR⟩
 case round =>
  obtain ⟨k,nth,hk,hg,rfl,rfl,HNT,HR,HBr⟩:=hrel;rename World=>wr
  have hnt9:=HNT.out
  by_cases hlt:k<es.length
  · have z1:(k:Int)<(es.length:Int):=by omega
    have z2:(0:Int)≤(k:Int):=by omega
    obtain ⟨b1,o1,rfl,hb1,hc⟩:=(HE.out.below HBr.out).at_ hlt;have hcl:(evC es[k]).length=34:=rfl;have hone:∀v∈evC es[k],v.oneCell'=true:=evC_one _;have HWS:=jH (wasE_succ hlt);have HRR:=jH ((oneR_drop hlt).symm.trans HR.out);clear HR;have g0:(evC es[k])[0]?=some (.int .i64 es[k].kind):=rfl;have g2:(evC es[k])[2]?=some (.int .i64 es[k].nth):=rfl;have g27:(evC es[k])[27]?=some (.int .u64 (es[k].hi:Nat)):=rfl
    have g28:(evC es[k])[28]?=some (.int .u64 (es[k].lo:Nat)):=rfl;obtain ⟨cs,hcs⟩:∃cs,cs=evC es[k]:=⟨_,rfl⟩;rw [←hcs] at hc hcl hone g0 g2 g27 g28;unfold oneB at HRR;generalize es[k].kind=kd at g0 HRR HWS;generalize es[k].nth=nt at g2 HRR;generalize es[k].hi=eh at g27 HRR HWS;generalize es[k].lo=el at g28 HRR HWS;have hst:=store_new (P:=Tryz.prog) wr 137 cs 34 hcl (by kernel_rfl) hone;have HC:=jH hc
    have HCL:=jH hcl;clear hc hone hcs;have HG:=jH (show cs.toArray[0]?=some (.int .i64 kd)∧cs.toArray[2]?=some (.int .i64 nt)∧cs.toArray[27]?=some (.int .u64 (eh:Nat))∧cs.toArray[28]?=some (.int .u64 (el:Nat)) by simp only [List.getElem?_toArray];exact ⟨g0,g2,g27,g28⟩);clear g0 g2 g27 g28;have EZ:=neKz eh el
    by_cases h0:k=0
    · have z3:¬(0:Int)<(k:Int):=by omega
      have HRR:=jH (show (oneQ (nthK nth kd 0) 0 0 0 kd nt eh el && oneR (nthK nth kd 0) kd eh el (es.drop (k+1)))=ans from by have h9:=HRR.out;rw [show wasE es k=0 from by unfold wasE;rw [if_pos h0],show hiE es k=0 from by unfold hiE;rw [if_pos h0],show loE es k=0 from by unfold loE;rw [if_pos h0]] at h9;exact h9);clear h0;obtain ⟨kz,hkz⟩:∃b,b=decide (eh=0∧el=0):=⟨_,rfl⟩;rw [←hkz] at EZ;have HKZ:=jH hkz
      clear hkz
      go_upto_region 11 with (first
       | (refine wpList_load_list rfl 137 (.tmp 17) rfl b1 (o1+k * 34) cs HC.out (by rfl) _ Tryz.underlying137 (by rfl) (by rw [HCL.out];kernel_rfl) ?_))
      refine name_world ?_;intro W1 hW1;have HBW1:=jH (show jB wr W1 by rw [hW1];exact balloc (balloc jR _) _);have HX1:=jH (show W1.heap[wr.heap.size]?=some (.cells cs.toArray 137 (0,0)) by rw [hW1];exact box_old _ _ _);have HK1:=jH (show W1.heap[wr.heap.size+1]?=some (.cells #[.int .u64 0,.int .u64 0] 130 (0,0)) by rw [hW1];exact box_new _ _ _);clear hW1 hst hcl;obtain ⟨x1,x2,x3⟩:=box_cells jR HX1.out
      obtain ⟨u1,u2,u3⟩:=box_cells jR HK1.out;have d0:=(x1 0).trans HG.out.1;have d2:=(x1 2).trans HG.out.2.1;have d27:=(x1 27).trans HG.out.2.2.1;have d28:=(x1 28).trans HG.out.2.2.2;clear x1
      by_cases hk1:kd=1
      · subst hk1
        have HN1:nthK nth 1 0=nth:=by unfold nthK;rw [if_neg (by omega)]
        rw [HN1] at HRR;clear HN1;have HNT2:=jH (show 0≤nth∧nth≤((k+1:Nat):Int) by omega)
        by_cases hnt:nt=nth
        · have y9:(nt == nth)=true:=by simpa using hnt
          have y8:(nt != nth)=false:=by simpa using hnt
          cases kz with
          | false =>
            as_aux_lemma =>
             have HR2:=jH (oneQ_bad HRR.out (by
              rintro ⟨a1,a2,a3,a4⟩;have a5:=of_decide_eq_true a4
              (first|omega|(have a6:=of_decide_eq_false HKZ.out.symm;omega)|(have a6:=of_decide_eq_false HKQ.out.symm;omega))))
             clear HRR;go_wp2_with fail
             go_ret
             exact ⟨by rw [←HR2.out];rfl,bthen HBr.out HBW1.out⟩
          | true =>
            as_aux_lemma =>
             have HR2:=jH (oneQ_ok HRR.out ⟨hnt,by (first|omega|(intro _;exact of_decide_eq_true HKZ.out.symm)|(intro _;exact of_decide_eq_true HKQ.out.symm)),by (first|omega|(intro _;exact of_decide_eq_true HKZ.out.symm)|(intro _;exact of_decide_eq_true HKQ.out.symm)),decide_eq_true (by omega)⟩);clear HRR;go_wp2_with fail
             go_roundg (es.length - (k+1))
             case measure=>omega
             case rel=>exact ⟨k+1,_,hlt,Nat.le_refl _,rfl,by go_num,HNT2.out,by rw [HWS.out.1,HWS.out.2.1,HWS.out.2.2];exact HR2.out,bthen HBr.out HBW1.out⟩
        · have y9:(nt == nth)=false:=by simpa using hnt
          have y8:(nt != nth)=true:=by simpa using hnt
          as_aux_lemma =>
           have HR2:=jH (oneQ_bad HRR.out (by
            rintro ⟨a1,a2,a3,a4⟩;have a5:=of_decide_eq_true a4
            (first|omega|(have a6:=of_decide_eq_false HKZ.out.symm;omega)|(have a6:=of_decide_eq_false HKQ.out.symm;omega))))
           clear HRR;go_wp2_with fail
           go_ret
           exact ⟨by rw [←HR2.out];rfl,bthen HBr.out HBW1.out⟩
      · have yk1:(kd == 1)=false:=by simpa using hk1
        by_cases hk2:kd=2
        · subst hk2
          have HN1:nthK nth 2 0=nth:=by unfold nthK;rw [if_neg (by omega)]
          rw [HN1] at HRR;clear HN1;have HNT2:=jH (show 0≤nth∧nth≤((k+1:Nat):Int) by omega)
          by_cases hnt:nt=nth
          · have y9:(nt == nth)=true:=by simpa using hnt
            have y8:(nt != nth)=false:=by simpa using hnt
            cases kz with
            | false =>
              as_aux_lemma =>
               have HR2:=jH (oneQ_bad HRR.out (by
                rintro ⟨a1,a2,a3,a4⟩;have a5:=of_decide_eq_true a4
                (first|omega|(have a6:=of_decide_eq_false HKZ.out.symm;omega)|(have a6:=of_decide_eq_false HKQ.out.symm;omega))))
               clear HRR;go_wp2_with fail
               go_ret
               exact ⟨by rw [←HR2.out];rfl,bthen HBr.out HBW1.out⟩
            | true =>
              as_aux_lemma =>
               have HR2:=jH (oneQ_bad HRR.out (by
                rintro ⟨a1,a2,a3,a4⟩;have a5:=of_decide_eq_true a4
                (first|omega|(have a6:=of_decide_eq_false HKZ.out.symm;omega)|(have a6:=of_decide_eq_false HKQ.out.symm;omega))))
               clear HRR;go_wp2_with fail
               go_ret
               exact ⟨by rw [←HR2.out];rfl,bthen HBr.out HBW1.out⟩
          · have y9:(nt == nth)=false:=by simpa using hnt
            have y8:(nt != nth)=true:=by simpa using hnt
            as_aux_lemma =>
             have HR2:=jH (oneQ_bad HRR.out (by
              rintro ⟨a1,a2,a3,a4⟩;have a5:=of_decide_eq_true a4
              (first|omega|(have a6:=of_decide_eq_false HKZ.out.symm;omega)|(have a6:=of_decide_eq_false HKQ.out.symm;omega))))
             clear HRR;go_wp2_with fail
             go_ret
             exact ⟨by rw [←HR2.out];rfl,bthen HBr.out HBW1.out⟩
        · have yk2:(kd == 2)=false:=by simpa using hk2
          by_cases hk3:kd=3
          · subst hk3
            have HN1:nthK nth 3 0=nth:=by unfold nthK;rw [if_neg (by omega)]
            rw [HN1] at HRR;clear HN1;have HNT2:=jH (show 0≤nth∧nth≤((k+1:Nat):Int) by omega)
            by_cases hnt:nt=nth
            · have y9:(nt == nth)=true:=by simpa using hnt
              have y8:(nt != nth)=false:=by simpa using hnt
              cases kz with
              | false =>
                as_aux_lemma =>
                 have HR2:=jH (oneQ_bad HRR.out (by
                  rintro ⟨a1,a2,a3,a4⟩;have a5:=of_decide_eq_true a4
                  (first|omega|(have a6:=of_decide_eq_false HKZ.out.symm;omega)|(have a6:=of_decide_eq_false HKQ.out.symm;omega))))
                 clear HRR;go_wp2_with fail
                 go_ret
                 exact ⟨by rw [←HR2.out];rfl,bthen HBr.out HBW1.out⟩
              | true =>
                as_aux_lemma =>
                 have HR2:=jH (oneQ_bad HRR.out (by
                  rintro ⟨a1,a2,a3,a4⟩;have a5:=of_decide_eq_true a4
                  (first|omega|(have a6:=of_decide_eq_false HKZ.out.symm;omega)|(have a6:=of_decide_eq_false HKQ.out.symm;omega))))
                 clear HRR;go_wp2_with fail
                 go_ret
                 exact ⟨by rw [←HR2.out];rfl,bthen HBr.out HBW1.out⟩
            · have y9:(nt == nth)=false:=by simpa using hnt
              have y8:(nt != nth)=true:=by simpa using hnt
              as_aux_lemma =>
               have HR2:=jH (oneQ_bad HRR.out (by
                rintro ⟨a1,a2,a3,a4⟩;have a5:=of_decide_eq_true a4
                (first|omega|(have a6:=of_decide_eq_false HKZ.out.symm;omega)|(have a6:=of_decide_eq_false HKQ.out.symm;omega))))
               clear HRR;go_wp2_with fail
               go_ret
               exact ⟨by rw [←HR2.out];rfl,bthen HBr.out HBW1.out⟩
          · have yk3:(kd == 3)=false:=by simpa using hk3
            by_cases hk4:kd=4
            · subst hk4
              have HN1:nthK nth 4 0=nth:=by unfold nthK;rw [if_neg (by omega)]
              rw [HN1] at HRR;clear HN1;have HNT2:=jH (show 0≤nth∧nth≤((k+1:Nat):Int) by omega)
              by_cases hnt:nt=nth
              · have y9:(nt == nth)=true:=by simpa using hnt
                have y8:(nt != nth)=false:=by simpa using hnt
                as_aux_lemma =>
                 have HR2:=jH (oneQ_ok HRR.out ⟨hnt,by (first|omega|(intro _;exact of_decide_eq_true HKZ.out.symm)|(intro _;exact of_decide_eq_true HKQ.out.symm)),by (first|omega|(intro _;exact of_decide_eq_true HKZ.out.symm)|(intro _;exact of_decide_eq_true HKQ.out.symm)),decide_eq_true (by omega)⟩);clear HRR;go_wp2_with fail
                 go_roundg (es.length - (k+1))
                 case measure=>omega
                 case rel=>exact ⟨k+1,_,hlt,Nat.le_refl _,rfl,by go_num,HNT2.out,by rw [HWS.out.1,HWS.out.2.1,HWS.out.2.2];exact HR2.out,bthen HBr.out HBW1.out⟩
              · have y9:(nt == nth)=false:=by simpa using hnt
                have y8:(nt != nth)=true:=by simpa using hnt
                as_aux_lemma =>
                 have HR2:=jH (oneQ_bad HRR.out (by
                  rintro ⟨a1,a2,a3,a4⟩;have a5:=of_decide_eq_true a4
                  (first|omega|(have a6:=of_decide_eq_false HKZ.out.symm;omega)|(have a6:=of_decide_eq_false HKQ.out.symm;omega))))
                 clear HRR;go_wp2_with fail
                 go_ret
                 exact ⟨by rw [←HR2.out];rfl,bthen HBr.out HBW1.out⟩
            · have yk4:(kd == 4)=false:=by simpa using hk4
              by_cases hk5:kd=5
              · subst hk5
                have HN1:nthK nth 5 0=nth:=by unfold nthK;rw [if_neg (by omega)]
                rw [HN1] at HRR;clear HN1;have HNT2:=jH (show 0≤nth∧nth≤((k+1:Nat):Int) by omega)
                by_cases hnt:nt=nth
                · have y9:(nt == nth)=true:=by simpa using hnt
                  have y8:(nt != nth)=false:=by simpa using hnt
                  cases kz with
                  | false =>
                    as_aux_lemma =>
                     have HR2:=jH (oneQ_bad HRR.out (by
                      rintro ⟨a1,a2,a3,a4⟩;have a5:=of_decide_eq_true a4
                      (first|omega|(have a6:=of_decide_eq_false HKZ.out.symm;omega)|(have a6:=of_decide_eq_false HKQ.out.symm;omega))))
                     clear HRR;go_wp2_with fail
                     go_ret
                     exact ⟨by rw [←HR2.out];rfl,bthen HBr.out HBW1.out⟩
                  | true =>
                    as_aux_lemma =>
                     have HR2:=jH (oneQ_bad HRR.out (by
                      rintro ⟨a1,a2,a3,a4⟩;have a5:=of_decide_eq_true a4
                      (first|omega|(have a6:=of_decide_eq_false HKZ.out.symm;omega)|(have a6:=of_decide_eq_false HKQ.out.symm;omega))))
                     clear HRR;go_wp2_with fail
                     go_ret
                     exact ⟨by rw [←HR2.out];rfl,bthen HBr.out HBW1.out⟩
                · have y9:(nt == nth)=false:=by simpa using hnt
                  have y8:(nt != nth)=true:=by simpa using hnt
                  as_aux_lemma =>
                   have HR2:=jH (oneQ_bad HRR.out (by
                    rintro ⟨a1,a2,a3,a4⟩;have a5:=of_decide_eq_true a4
                    (first|omega|(have a6:=of_decide_eq_false HKZ.out.symm;omega)|(have a6:=of_decide_eq_false HKQ.out.symm;omega))))
                   clear HRR;go_wp2_with fail
                   go_ret
                   exact ⟨by rw [←HR2.out];rfl,bthen HBr.out HBW1.out⟩
              · have yk5:(kd == 5)=false:=by simpa using hk5
                by_cases hk6:kd=6
                · subst hk6
                  have HN1:nthK nth 6 0=nth:=by unfold nthK;rw [if_neg (by omega)]
                  rw [HN1] at HRR;clear HN1;have HNT2:=jH (show 0≤nth∧nth≤((k+1:Nat):Int) by omega)
                  by_cases hnt:nt=nth
                  · have y9:(nt == nth)=true:=by simpa using hnt
                    have y8:(nt != nth)=false:=by simpa using hnt
                    cases kz with
                    | false =>
                      as_aux_lemma =>
                       have HR2:=jH (oneQ_bad HRR.out (by
                        rintro ⟨a1,a2,a3,a4⟩;have a5:=of_decide_eq_true a4
                        (first|omega|(have a6:=of_decide_eq_false HKZ.out.symm;omega)|(have a6:=of_decide_eq_false HKQ.out.symm;omega))))
                       clear HRR;go_wp2_with fail
                       go_ret
                       exact ⟨by rw [←HR2.out];rfl,bthen HBr.out HBW1.out⟩
                    | true =>
                      as_aux_lemma =>
                       have HR2:=jH (oneQ_bad HRR.out (by
                        rintro ⟨a1,a2,a3,a4⟩;have a5:=of_decide_eq_true a4
                        (first|omega|(have a6:=of_decide_eq_false HKZ.out.symm;omega)|(have a6:=of_decide_eq_false HKQ.out.symm;omega))))
                       clear HRR;go_wp2_with fail
                       go_ret
                       exact ⟨by rw [←HR2.out];rfl,bthen HBr.out HBW1.out⟩
                  · have y9:(nt == nth)=false:=by simpa using hnt
                    have y8:(nt != nth)=true:=by simpa using hnt
                    as_aux_lemma =>
                     have HR2:=jH (oneQ_bad HRR.out (by
                      rintro ⟨a1,a2,a3,a4⟩;have a5:=of_decide_eq_true a4
                      (first|omega|(have a6:=of_decide_eq_false HKZ.out.symm;omega)|(have a6:=of_decide_eq_false HKQ.out.symm;omega))))
                     clear HRR;go_wp2_with fail
                     go_ret
                     exact ⟨by rw [←HR2.out];rfl,bthen HBr.out HBW1.out⟩
                · have yk6:(kd == 6)=false:=by simpa using hk6
                  by_cases hk7:kd=7
                  · subst hk7
                    have HN1:nthK nth 7 0=nth:=by unfold nthK;rw [if_neg (by omega)]
                    rw [HN1] at HRR;clear HN1;have HNT2:=jH (show 0≤nth∧nth≤((k+1:Nat):Int) by omega)
                    by_cases hnt:nt=nth
                    · have y9:(nt == nth)=true:=by simpa using hnt
                      have y8:(nt != nth)=false:=by simpa using hnt
                      cases kz with
                      | false =>
                        as_aux_lemma =>
                         have HR2:=jH (oneQ_bad HRR.out (by
                          rintro ⟨a1,a2,a3,a4⟩;have a5:=of_decide_eq_true a4
                          (first|omega|(have a6:=of_decide_eq_false HKZ.out.symm;omega)|(have a6:=of_decide_eq_false HKQ.out.symm;omega))))
                         clear HRR;go_wp2_with fail
                         go_ret
                         exact ⟨by rw [←HR2.out];rfl,bthen HBr.out HBW1.out⟩
                      | true =>
                        as_aux_lemma =>
                         have HR2:=jH (oneQ_bad HRR.out (by
                          rintro ⟨a1,a2,a3,a4⟩;have a5:=of_decide_eq_true a4
                          (first|omega|(have a6:=of_decide_eq_false HKZ.out.symm;omega)|(have a6:=of_decide_eq_false HKQ.out.symm;omega))))
                         clear HRR;go_wp2_with fail
                         go_ret
                         exact ⟨by rw [←HR2.out];rfl,bthen HBr.out HBW1.out⟩
                    · have y9:(nt == nth)=false:=by simpa using hnt
                      have y8:(nt != nth)=true:=by simpa using hnt
                      as_aux_lemma =>
                       have HR2:=jH (oneQ_bad HRR.out (by
                        rintro ⟨a1,a2,a3,a4⟩;have a5:=of_decide_eq_true a4
                        (first|omega|(have a6:=of_decide_eq_false HKZ.out.symm;omega)|(have a6:=of_decide_eq_false HKQ.out.symm;omega))))
                       clear HRR;go_wp2_with fail
                       go_ret
                       exact ⟨by rw [←HR2.out];rfl,bthen HBr.out HBW1.out⟩
                  · have yk7:(kd == 7)=false:=by simpa using hk7
                    have HN1:nthK nth kd 0=nth:=by unfold nthK;rw [if_neg (by omega)]
                    rw [HN1] at HRR;clear HN1
                    by_cases hnt:nt=nth
                    · have y9:(nt == nth)=true:=by simpa using hnt
                      have y8:(nt != nth)=false:=by simpa using hnt
                      by_cases h8:8≤kd
                      · have p1:(1:Int)≤kd:=by omega
                        have p2:¬kd≤3:=by omega
                        have p3:(5:Int)≤kd:=by omega
                        cases kz with
                        | false =>
                          as_aux_lemma =>
                           have HR2:=jH (oneQ_bad HRR.out (by
                            rintro ⟨a1,a2,a3,a4⟩;have a5:=of_decide_eq_true a4
                            (first|omega|(have a6:=of_decide_eq_false HKZ.out.symm;omega)|(have a6:=of_decide_eq_false HKQ.out.symm;omega))))
                           clear HRR;go_wp2_with fail
                           go_ret
                           exact ⟨by rw [←HR2.out];rfl,bthen HBr.out HBW1.out⟩
                        | true =>
                          as_aux_lemma =>
                           have HR2:=jH (oneQ_bad HRR.out (by
                            rintro ⟨a1,a2,a3,a4⟩;have a5:=of_decide_eq_true a4
                            (first|omega|(have a6:=of_decide_eq_false HKZ.out.symm;omega)|(have a6:=of_decide_eq_false HKQ.out.symm;omega))))
                           clear HRR;go_wp2_with fail
                           go_ret
                           exact ⟨by rw [←HR2.out];rfl,bthen HBr.out HBW1.out⟩
                      · have p1:¬(1:Int)≤kd:=by omega
                        have p3:¬(5:Int)≤kd:=by omega
                        as_aux_lemma =>
                         have HR2:=jH (oneQ_bad HRR.out (by
                          rintro ⟨a1,a2,a3,a4⟩;have a5:=of_decide_eq_true a4
                          (first|omega|(have a6:=of_decide_eq_false HKZ.out.symm;omega)|(have a6:=of_decide_eq_false HKQ.out.symm;omega))))
                         clear HRR;go_wp2_with fail
                         go_ret
                         exact ⟨by rw [←HR2.out];rfl,bthen HBr.out HBW1.out⟩
                    · have y9:(nt == nth)=false:=by simpa using hnt
                      have y8:(nt != nth)=true:=by simpa using hnt
                      as_aux_lemma =>
                       have HR2:=jH (oneQ_bad HRR.out (by
                        rintro ⟨a1,a2,a3,a4⟩;have a5:=of_decide_eq_true a4
                        (first|omega|(have a6:=of_decide_eq_false HKZ.out.symm;omega)|(have a6:=of_decide_eq_false HKQ.out.symm;omega))))
                       clear HRR;go_wp2_with fail
                       go_ret
                       exact ⟨by rw [←HR2.out];rfl,bthen HBr.out HBW1.out⟩
    · obtain ⟨j,hj⟩:∃j,k=j+1:=⟨k - 1,by omega⟩
      have HJ:=jH hj;have hjl:j<es.length:=by omega
      have z3:(0:Int)<(k:Int):=by omega
      have e1:(k:Int) - 1=(j:Int):=by omega
      have e2:wrap64 (j:Int)=(j:Int):=by unfold wrap64;omega
      have z4:(j:Int)<(es.length:Int):=by omega
      have z5:(0:Int)≤(j:Int):=by omega
      obtain ⟨b2,o2,he2,hb2,hc2⟩:=(HE.out.below HBr.out).at_ hjl;obtain ⟨rfl,rfl⟩:b1=b2∧o1=o2:=by simpa [eq_comm] using he2
      have HWJ:=jH (show wasE es k=es[j].kind∧hiE es k=es[j].hi∧loE es k=es[j].lo by rw [hj];exact wasE_succ hjl);have c0:=hc2 0 _ rfl;rw [Nat.add_zero] at c0;have c27:=hc2 27 _ rfl;have c28:=hc2 28 _ rfl;have HRR:=jH (show (oneQ (nthK nth kd es[j].kind) es[j].kind es[j].hi es[j].lo kd nt eh el && oneR (nthK nth kd es[j].kind) kd eh el (es.drop (k+1)))=ans from by have h9:=HRR.out;rw [HWJ.out.1,HWJ.out.2.1,HWJ.out.2.2] at h9;exact h9)
      clear HWJ he2 hc2 hj h0;generalize es[j].kind=was at c0 HRR;generalize es[j].hi=hi at c27 HRR;generalize es[j].lo=lo at c28 HRR;have EQ:=neKy eh el hi lo;obtain ⟨kz,hkz⟩:∃b,b=decide (eh=0∧el=0):=⟨_,rfl⟩;rw [←hkz] at EZ;have HKZ:=jH hkz;clear hkz;obtain ⟨kq,hkq⟩:∃b,b=decide (eh=hi∧el=lo):=⟨_,rfl⟩;rw [←hkq] at EQ;have HKQ:=jH hkq;clear hkq
      go_upto_region 11 with (first
       | (refine wpList_load_list rfl 137 (.tmp 17) rfl b1 (o1+k * 34) cs HC.out (by rfl) _ Tryz.underlying137 (by rfl) (by rw [HCL.out];kernel_rfl) ?_))
      refine name_world ?_;intro W1 hW1;have HBW1:=jH (show jB wr W1 by rw [hW1];repeat (first|exact jR|refine balloc ?_ _|refine Below.setCell ?_ (by simp) _));have HX1:=jH (show W1.heap[wr.heap.size]?=some (.cells cs.toArray 137 (0,0)) by rw [hW1];first|exact (stor_other (by simp)).trans ((stor_other (by simp)).trans (box_old _ _ _))|exact box_old _ _ _);have HK1:=jH (show W1.heap[wr.heap.size+1]?=some (.cells #[.int .u64 (hi:Nat),.int .u64 (lo:Nat)] 130 (0,0)) by rw [hW1];first|exact stor2 (box_new _ _ _) _ _|exact box_new _ _ _)
      clear hW1 hst hcl c0 c27 c28;obtain ⟨x1,x2,x3⟩:=box_cells jR HX1.out;obtain ⟨u1,u2,u3⟩:=box_cells jR HK1.out;have d0:=(x1 0).trans HG.out.1;have d2:=(x1 2).trans HG.out.2.1;have d27:=(x1 27).trans HG.out.2.2.1;have d28:=(x1 28).trans HG.out.2.2.2;clear x1
      by_cases hk1:kd=1
      · subst hk1
        by_cases hw3:was=3
        · subst hw3
          have HN1:nthK nth 1 3=nth+1:=rfl;rw [HN1] at HRR;clear HN1;obtain ⟨n2,hn2⟩:∃n2,n2=nth+1:=⟨_,rfl⟩;have HN2:=jH hn2;have HNT2:=jH (show 0≤n2∧n2≤((k+1:Nat):Int) by omega);have e8:nth+1=n2:=hn2.symm;have e9:wrap64 n2=n2:=by unfold wrap64;omega
          rw [←hn2] at HRR;clear hn2
          by_cases hnt:nt=n2
          · have y9:(nt == n2)=true:=by simpa using hnt
            have y8:(nt != n2)=false:=by simpa using hnt
            cases kz with
            | false =>
              as_aux_lemma =>
               have HR2:=jH (oneQ_bad HRR.out (by
                rintro ⟨a1,a2,a3,a4⟩;have a5:=of_decide_eq_true a4
                (first|omega|(have a6:=of_decide_eq_false HKZ.out.symm;omega)|(have a6:=of_decide_eq_false HKQ.out.symm;omega))))
               clear HRR;go_wp2_with fail
               go_ret
               exact ⟨by rw [←HR2.out];rfl,bthen HBr.out HBW1.out⟩
            | true =>
              as_aux_lemma =>
               have HR2:=jH (oneQ_ok HRR.out ⟨hnt,by (first|omega|(intro _;exact of_decide_eq_true HKZ.out.symm)|(intro _;exact of_decide_eq_true HKQ.out.symm)),by (first|omega|(intro _;exact of_decide_eq_true HKZ.out.symm)|(intro _;exact of_decide_eq_true HKQ.out.symm)),decide_eq_true (by omega)⟩);clear HRR;go_wp2_with fail
               go_roundg (es.length - (k+1))
               case measure=>omega
               case rel=>exact ⟨k+1,_,hlt,Nat.le_refl _,rfl,by go_num,HNT2.out,by rw [HWS.out.1,HWS.out.2.1,HWS.out.2.2];exact HR2.out,bthen HBr.out HBW1.out⟩
          · have y9:(nt == n2)=false:=by simpa using hnt
            have y8:(nt != n2)=true:=by simpa using hnt
            as_aux_lemma =>
             have HR2:=jH (oneQ_bad HRR.out (by
              rintro ⟨a1,a2,a3,a4⟩;have a5:=of_decide_eq_true a4
              (first|omega|(have a6:=of_decide_eq_false HKZ.out.symm;omega)|(have a6:=of_decide_eq_false HKQ.out.symm;omega))))
             clear HRR;go_wp2_with fail
             go_ret
             exact ⟨by rw [←HR2.out];rfl,bthen HBr.out HBW1.out⟩
        · have yw3:(was == 3)=false:=by simpa using hw3
          have HN1:nthK nth 1 was=nth:=by unfold nthK;rw [if_neg (by omega)]
          rw [HN1] at HRR;clear HN1;have HNT2:=jH (show 0≤nth∧nth≤((k+1:Nat):Int) by omega)
          by_cases hnt:nt=nth
          · have y9:(nt == nth)=true:=by simpa using hnt
            have y8:(nt != nth)=false:=by simpa using hnt
            cases kz with
            | false =>
              as_aux_lemma =>
               have HR2:=jH (oneQ_bad HRR.out (by
                rintro ⟨a1,a2,a3,a4⟩;have a5:=of_decide_eq_true a4
                (first|omega|(have a6:=of_decide_eq_false HKZ.out.symm;omega)|(have a6:=of_decide_eq_false HKQ.out.symm;omega))))
               clear HRR;go_wp2_with fail
               go_ret
               exact ⟨by rw [←HR2.out];rfl,bthen HBr.out HBW1.out⟩
            | true =>
              by_cases hw0:was=0
              · subst hw0
                as_aux_lemma =>
                 have HR2:=jH (oneQ_ok HRR.out ⟨hnt,by (first|omega|(intro _;exact of_decide_eq_true HKZ.out.symm)|(intro _;exact of_decide_eq_true HKQ.out.symm)),by (first|omega|(intro _;exact of_decide_eq_true HKZ.out.symm)|(intro _;exact of_decide_eq_true HKQ.out.symm)),decide_eq_true (by omega)⟩);clear HRR;go_wp2_with fail
                 go_roundg (es.length - (k+1))
                 case measure=>omega
                 case rel=>exact ⟨k+1,_,hlt,Nat.le_refl _,rfl,by go_num,HNT2.out,by rw [HWS.out.1,HWS.out.2.1,HWS.out.2.2];exact HR2.out,bthen HBr.out HBW1.out⟩
              · have yw0:(was == 0)=false:=by simpa using hw0
                as_aux_lemma =>
                 have HR2:=jH (oneQ_bad HRR.out (by
                  rintro ⟨a1,a2,a3,a4⟩;have a5:=of_decide_eq_true a4
                  (first|omega|(have a6:=of_decide_eq_false HKZ.out.symm;omega)|(have a6:=of_decide_eq_false HKQ.out.symm;omega))))
                 clear HRR;go_wp2_with fail
                 go_ret
                 exact ⟨by rw [←HR2.out];rfl,bthen HBr.out HBW1.out⟩
          · have y9:(nt == nth)=false:=by simpa using hnt
            have y8:(nt != nth)=true:=by simpa using hnt
            as_aux_lemma =>
             have HR2:=jH (oneQ_bad HRR.out (by
              rintro ⟨a1,a2,a3,a4⟩;have a5:=of_decide_eq_true a4
              (first|omega|(have a6:=of_decide_eq_false HKZ.out.symm;omega)|(have a6:=of_decide_eq_false HKQ.out.symm;omega))))
             clear HRR;go_wp2_with fail
             go_ret
             exact ⟨by rw [←HR2.out];rfl,bthen HBr.out HBW1.out⟩
      · have yk1:(kd == 1)=false:=by simpa using hk1
        by_cases hk2:kd=2
        · subst hk2
          have HN1:nthK nth 2 was=nth:=by unfold nthK;rw [if_neg (by omega)]
          rw [HN1] at HRR;clear HN1;have HNT2:=jH (show 0≤nth∧nth≤((k+1:Nat):Int) by omega)
          by_cases hnt:nt=nth
          · have y9:(nt == nth)=true:=by simpa using hnt
            have y8:(nt != nth)=false:=by simpa using hnt
            cases kz with
            | false =>
              as_aux_lemma =>
               have HR2:=jH (oneQ_bad HRR.out (by
                rintro ⟨a1,a2,a3,a4⟩;have a5:=of_decide_eq_true a4
                (first|omega|(have a6:=of_decide_eq_false HKZ.out.symm;omega)|(have a6:=of_decide_eq_false HKQ.out.symm;omega))))
               clear HRR;go_wp2_with fail
               go_ret
               exact ⟨by rw [←HR2.out];rfl,bthen HBr.out HBW1.out⟩
            | true =>
              by_cases hw1:was=1
              · subst hw1
                as_aux_lemma =>
                 have HR2:=jH (oneQ_ok HRR.out ⟨hnt,by (first|omega|(intro _;exact of_decide_eq_true HKZ.out.symm)|(intro _;exact of_decide_eq_true HKQ.out.symm)),by (first|omega|(intro _;exact of_decide_eq_true HKZ.out.symm)|(intro _;exact of_decide_eq_true HKQ.out.symm)),decide_eq_true (by omega)⟩);clear HRR;go_wp2_with fail
                 go_roundg (es.length - (k+1))
                 case measure=>omega
                 case rel=>exact ⟨k+1,_,hlt,Nat.le_refl _,rfl,by go_num,HNT2.out,by rw [HWS.out.1,HWS.out.2.1,HWS.out.2.2];exact HR2.out,bthen HBr.out HBW1.out⟩
              · have yw1:(was == 1)=false:=by simpa using hw1
                as_aux_lemma =>
                 have HR2:=jH (oneQ_bad HRR.out (by
                  rintro ⟨a1,a2,a3,a4⟩;have a5:=of_decide_eq_true a4
                  (first|omega|(have a6:=of_decide_eq_false HKZ.out.symm;omega)|(have a6:=of_decide_eq_false HKQ.out.symm;omega))))
                 clear HRR;go_wp2_with fail
                 go_ret
                 exact ⟨by rw [←HR2.out];rfl,bthen HBr.out HBW1.out⟩
          · have y9:(nt == nth)=false:=by simpa using hnt
            have y8:(nt != nth)=true:=by simpa using hnt
            as_aux_lemma =>
             have HR2:=jH (oneQ_bad HRR.out (by
              rintro ⟨a1,a2,a3,a4⟩;have a5:=of_decide_eq_true a4
              (first|omega|(have a6:=of_decide_eq_false HKZ.out.symm;omega)|(have a6:=of_decide_eq_false HKQ.out.symm;omega))))
             clear HRR;go_wp2_with fail
             go_ret
             exact ⟨by rw [←HR2.out];rfl,bthen HBr.out HBW1.out⟩
        · have yk2:(kd == 2)=false:=by simpa using hk2
          by_cases hk3:kd=3
          · subst hk3
            have HN1:nthK nth 3 was=nth:=by unfold nthK;rw [if_neg (by omega)]
            rw [HN1] at HRR;clear HN1;have HNT2:=jH (show 0≤nth∧nth≤((k+1:Nat):Int) by omega)
            by_cases hnt:nt=nth
            · have y9:(nt == nth)=true:=by simpa using hnt
              have y8:(nt != nth)=false:=by simpa using hnt
              cases kz with
              | false =>
                as_aux_lemma =>
                 have HR2:=jH (oneQ_bad HRR.out (by
                  rintro ⟨a1,a2,a3,a4⟩;have a5:=of_decide_eq_true a4
                  (first|omega|(have a6:=of_decide_eq_false HKZ.out.symm;omega)|(have a6:=of_decide_eq_false HKQ.out.symm;omega))))
                 clear HRR;go_wp2_with fail
                 go_ret
                 exact ⟨by rw [←HR2.out];rfl,bthen HBr.out HBW1.out⟩
              | true =>
                by_cases hw2:was=2
                · subst hw2
                  as_aux_lemma =>
                   have HR2:=jH (oneQ_ok HRR.out ⟨hnt,by (first|omega|(intro _;exact of_decide_eq_true HKZ.out.symm)|(intro _;exact of_decide_eq_true HKQ.out.symm)),by (first|omega|(intro _;exact of_decide_eq_true HKZ.out.symm)|(intro _;exact of_decide_eq_true HKQ.out.symm)),decide_eq_true (by omega)⟩);clear HRR;go_wp2_with fail
                   go_roundg (es.length - (k+1))
                   case measure=>omega
                   case rel=>exact ⟨k+1,_,hlt,Nat.le_refl _,rfl,by go_num,HNT2.out,by rw [HWS.out.1,HWS.out.2.1,HWS.out.2.2];exact HR2.out,bthen HBr.out HBW1.out⟩
                · have yw2:(was == 2)=false:=by simpa using hw2
                  as_aux_lemma =>
                   have HR2:=jH (oneQ_bad HRR.out (by
                    rintro ⟨a1,a2,a3,a4⟩;have a5:=of_decide_eq_true a4
                    (first|omega|(have a6:=of_decide_eq_false HKZ.out.symm;omega)|(have a6:=of_decide_eq_false HKQ.out.symm;omega))))
                   clear HRR;go_wp2_with fail
                   go_ret
                   exact ⟨by rw [←HR2.out];rfl,bthen HBr.out HBW1.out⟩
            · have y9:(nt == nth)=false:=by simpa using hnt
              have y8:(nt != nth)=true:=by simpa using hnt
              as_aux_lemma =>
               have HR2:=jH (oneQ_bad HRR.out (by
                rintro ⟨a1,a2,a3,a4⟩;have a5:=of_decide_eq_true a4
                (first|omega|(have a6:=of_decide_eq_false HKZ.out.symm;omega)|(have a6:=of_decide_eq_false HKQ.out.symm;omega))))
               clear HRR;go_wp2_with fail
               go_ret
               exact ⟨by rw [←HR2.out];rfl,bthen HBr.out HBW1.out⟩
          · have yk3:(kd == 3)=false:=by simpa using hk3
            by_cases hk4:kd=4
            · subst hk4
              have HN1:nthK nth 4 was=nth:=by unfold nthK;rw [if_neg (by omega)]
              rw [HN1] at HRR;clear HN1;have HNT2:=jH (show 0≤nth∧nth≤((k+1:Nat):Int) by omega)
              by_cases hnt:nt=nth
              · have y9:(nt == nth)=true:=by simpa using hnt
                have y8:(nt != nth)=false:=by simpa using hnt
                by_cases hw0:was=0
                · subst hw0
                  as_aux_lemma =>
                   have HR2:=jH (oneQ_ok HRR.out ⟨hnt,by (first|omega|(intro _;exact of_decide_eq_true HKZ.out.symm)|(intro _;exact of_decide_eq_true HKQ.out.symm)),by (first|omega|(intro _;exact of_decide_eq_true HKZ.out.symm)|(intro _;exact of_decide_eq_true HKQ.out.symm)),decide_eq_true (by omega)⟩);clear HRR;go_wp2_with fail
                   go_roundg (es.length - (k+1))
                   case measure=>omega
                   case rel=>exact ⟨k+1,_,hlt,Nat.le_refl _,rfl,by go_num,HNT2.out,by rw [HWS.out.1,HWS.out.2.1,HWS.out.2.2];exact HR2.out,bthen HBr.out HBW1.out⟩
                · have yw0:(was == 0)=false:=by simpa using hw0
                  by_cases hw7:was=7
                  · subst hw7
                    as_aux_lemma =>
                     have HR2:=jH (oneQ_ok HRR.out ⟨hnt,by (first|omega|(intro _;exact of_decide_eq_true HKZ.out.symm)|(intro _;exact of_decide_eq_true HKQ.out.symm)),by (first|omega|(intro _;exact of_decide_eq_true HKZ.out.symm)|(intro _;exact of_decide_eq_true HKQ.out.symm)),decide_eq_true (by omega)⟩);clear HRR;go_wp2_with fail
                     go_roundg (es.length - (k+1))
                     case measure=>omega
                     case rel=>exact ⟨k+1,_,hlt,Nat.le_refl _,rfl,by go_num,HNT2.out,by rw [HWS.out.1,HWS.out.2.1,HWS.out.2.2];exact HR2.out,bthen HBr.out HBW1.out⟩
                  · have yw7:(was == 7)=false:=by simpa using hw7
                    as_aux_lemma =>
                     have HR2:=jH (oneQ_bad HRR.out (by
                      rintro ⟨a1,a2,a3,a4⟩;have a5:=of_decide_eq_true a4
                      (first|omega|(have a6:=of_decide_eq_false HKZ.out.symm;omega)|(have a6:=of_decide_eq_false HKQ.out.symm;omega))))
                     clear HRR;go_wp2_with fail
                     go_ret
                     exact ⟨by rw [←HR2.out];rfl,bthen HBr.out HBW1.out⟩
              · have y9:(nt == nth)=false:=by simpa using hnt
                have y8:(nt != nth)=true:=by simpa using hnt
                as_aux_lemma =>
                 have HR2:=jH (oneQ_bad HRR.out (by
                  rintro ⟨a1,a2,a3,a4⟩;have a5:=of_decide_eq_true a4
                  (first|omega|(have a6:=of_decide_eq_false HKZ.out.symm;omega)|(have a6:=of_decide_eq_false HKQ.out.symm;omega))))
                 clear HRR;go_wp2_with fail
                 go_ret
                 exact ⟨by rw [←HR2.out];rfl,bthen HBr.out HBW1.out⟩
            · have yk4:(kd == 4)=false:=by simpa using hk4
              by_cases hk5:kd=5
              · subst hk5
                have HN1:nthK nth 5 was=nth:=by unfold nthK;rw [if_neg (by omega)]
                rw [HN1] at HRR;clear HN1;have HNT2:=jH (show 0≤nth∧nth≤((k+1:Nat):Int) by omega)
                by_cases hnt:nt=nth
                · have y9:(nt == nth)=true:=by simpa using hnt
                  have y8:(nt != nth)=false:=by simpa using hnt
                  cases kq with
                  | false =>
                    as_aux_lemma =>
                     have HR2:=jH (oneQ_bad HRR.out (by
                      rintro ⟨a1,a2,a3,a4⟩;have a5:=of_decide_eq_true a4
                      (first|omega|(have a6:=of_decide_eq_false HKZ.out.symm;omega)|(have a6:=of_decide_eq_false HKQ.out.symm;omega))))
                     clear HRR;go_wp2_with fail
                     go_ret
                     exact ⟨by rw [←HR2.out];rfl,bthen HBr.out HBW1.out⟩
                  | true =>
                    by_cases hw4:was=4
                    · subst hw4
                      as_aux_lemma =>
                       have HR2:=jH (oneQ_ok HRR.out ⟨hnt,by (first|omega|(intro _;exact of_decide_eq_true HKZ.out.symm)|(intro _;exact of_decide_eq_true HKQ.out.symm)),by (first|omega|(intro _;exact of_decide_eq_true HKZ.out.symm)|(intro _;exact of_decide_eq_true HKQ.out.symm)),decide_eq_true (by omega)⟩);clear HRR;go_wp2_with fail
                       go_roundg (es.length - (k+1))
                       case measure=>omega
                       case rel=>exact ⟨k+1,_,hlt,Nat.le_refl _,rfl,by go_num,HNT2.out,by rw [HWS.out.1,HWS.out.2.1,HWS.out.2.2];exact HR2.out,bthen HBr.out HBW1.out⟩
                    · have yw4:(was == 4)=false:=by simpa using hw4
                      as_aux_lemma =>
                       have HR2:=jH (oneQ_bad HRR.out (by
                        rintro ⟨a1,a2,a3,a4⟩;have a5:=of_decide_eq_true a4
                        (first|omega|(have a6:=of_decide_eq_false HKZ.out.symm;omega)|(have a6:=of_decide_eq_false HKQ.out.symm;omega))))
                       clear HRR;go_wp2_with fail
                       go_ret
                       exact ⟨by rw [←HR2.out];rfl,bthen HBr.out HBW1.out⟩
                · have y9:(nt == nth)=false:=by simpa using hnt
                  have y8:(nt != nth)=true:=by simpa using hnt
                  as_aux_lemma =>
                   have HR2:=jH (oneQ_bad HRR.out (by
                    rintro ⟨a1,a2,a3,a4⟩;have a5:=of_decide_eq_true a4
                    (first|omega|(have a6:=of_decide_eq_false HKZ.out.symm;omega)|(have a6:=of_decide_eq_false HKQ.out.symm;omega))))
                   clear HRR;go_wp2_with fail
                   go_ret
                   exact ⟨by rw [←HR2.out];rfl,bthen HBr.out HBW1.out⟩
              · have yk5:(kd == 5)=false:=by simpa using hk5
                by_cases hk6:kd=6
                · subst hk6
                  have HN1:nthK nth 6 was=nth:=by unfold nthK;rw [if_neg (by omega)]
                  rw [HN1] at HRR;clear HN1;have HNT2:=jH (show 0≤nth∧nth≤((k+1:Nat):Int) by omega)
                  by_cases hnt:nt=nth
                  · have y9:(nt == nth)=true:=by simpa using hnt
                    have y8:(nt != nth)=false:=by simpa using hnt
                    cases kq with
                    | false =>
                      as_aux_lemma =>
                       have HR2:=jH (oneQ_bad HRR.out (by
                        rintro ⟨a1,a2,a3,a4⟩;have a5:=of_decide_eq_true a4
                        (first|omega|(have a6:=of_decide_eq_false HKZ.out.symm;omega)|(have a6:=of_decide_eq_false HKQ.out.symm;omega))))
                       clear HRR;go_wp2_with fail
                       go_ret
                       exact ⟨by rw [←HR2.out];rfl,bthen HBr.out HBW1.out⟩
                    | true =>
                      by_cases hw5:was=5
                      · subst hw5
                        as_aux_lemma =>
                         have HR2:=jH (oneQ_ok HRR.out ⟨hnt,by (first|omega|(intro _;exact of_decide_eq_true HKZ.out.symm)|(intro _;exact of_decide_eq_true HKQ.out.symm)),by (first|omega|(intro _;exact of_decide_eq_true HKZ.out.symm)|(intro _;exact of_decide_eq_true HKQ.out.symm)),decide_eq_true (by omega)⟩);clear HRR;go_wp2_with fail
                         go_roundg (es.length - (k+1))
                         case measure=>omega
                         case rel=>exact ⟨k+1,_,hlt,Nat.le_refl _,rfl,by go_num,HNT2.out,by rw [HWS.out.1,HWS.out.2.1,HWS.out.2.2];exact HR2.out,bthen HBr.out HBW1.out⟩
                      · have yw5:(was == 5)=false:=by simpa using hw5
                        as_aux_lemma =>
                         have HR2:=jH (oneQ_bad HRR.out (by
                          rintro ⟨a1,a2,a3,a4⟩;have a5:=of_decide_eq_true a4
                          (first|omega|(have a6:=of_decide_eq_false HKZ.out.symm;omega)|(have a6:=of_decide_eq_false HKQ.out.symm;omega))))
                         clear HRR;go_wp2_with fail
                         go_ret
                         exact ⟨by rw [←HR2.out];rfl,bthen HBr.out HBW1.out⟩
                  · have y9:(nt == nth)=false:=by simpa using hnt
                    have y8:(nt != nth)=true:=by simpa using hnt
                    as_aux_lemma =>
                     have HR2:=jH (oneQ_bad HRR.out (by
                      rintro ⟨a1,a2,a3,a4⟩;have a5:=of_decide_eq_true a4
                      (first|omega|(have a6:=of_decide_eq_false HKZ.out.symm;omega)|(have a6:=of_decide_eq_false HKQ.out.symm;omega))))
                     clear HRR;go_wp2_with fail
                     go_ret
                     exact ⟨by rw [←HR2.out];rfl,bthen HBr.out HBW1.out⟩
                · have yk6:(kd == 6)=false:=by simpa using hk6
                  by_cases hk7:kd=7
                  · subst hk7
                    have HN1:nthK nth 7 was=nth:=by unfold nthK;rw [if_neg (by omega)]
                    rw [HN1] at HRR;clear HN1;have HNT2:=jH (show 0≤nth∧nth≤((k+1:Nat):Int) by omega)
                    by_cases hnt:nt=nth
                    · have y9:(nt == nth)=true:=by simpa using hnt
                      have y8:(nt != nth)=false:=by simpa using hnt
                      cases kq with
                      | false =>
                        as_aux_lemma =>
                         have HR2:=jH (oneQ_bad HRR.out (by
                          rintro ⟨a1,a2,a3,a4⟩;have a5:=of_decide_eq_true a4
                          (first|omega|(have a6:=of_decide_eq_false HKZ.out.symm;omega)|(have a6:=of_decide_eq_false HKQ.out.symm;omega))))
                         clear HRR;go_wp2_with fail
                         go_ret
                         exact ⟨by rw [←HR2.out];rfl,bthen HBr.out HBW1.out⟩
                      | true =>
                        by_cases hw5:was=5
                        · subst hw5
                          as_aux_lemma =>
                           have HR2:=jH (oneQ_ok HRR.out ⟨hnt,by (first|omega|(intro _;exact of_decide_eq_true HKZ.out.symm)|(intro _;exact of_decide_eq_true HKQ.out.symm)),by (first|omega|(intro _;exact of_decide_eq_true HKZ.out.symm)|(intro _;exact of_decide_eq_true HKQ.out.symm)),decide_eq_true (by omega)⟩);clear HRR;go_wp2_with fail
                           go_roundg (es.length - (k+1))
                           case measure=>omega
                           case rel=>exact ⟨k+1,_,hlt,Nat.le_refl _,rfl,by go_num,HNT2.out,by rw [HWS.out.1,HWS.out.2.1,HWS.out.2.2];exact HR2.out,bthen HBr.out HBW1.out⟩
                        · have yw5:(was == 5)=false:=by simpa using hw5
                          by_cases hw6:was=6
                          · subst hw6
                            as_aux_lemma =>
                             have HR2:=jH (oneQ_ok HRR.out ⟨hnt,by (first|omega|(intro _;exact of_decide_eq_true HKZ.out.symm)|(intro _;exact of_decide_eq_true HKQ.out.symm)),by (first|omega|(intro _;exact of_decide_eq_true HKZ.out.symm)|(intro _;exact of_decide_eq_true HKQ.out.symm)),decide_eq_true (by omega)⟩);clear HRR;go_wp2_with fail
                             go_roundg (es.length - (k+1))
                             case measure=>omega
                             case rel=>exact ⟨k+1,_,hlt,Nat.le_refl _,rfl,by go_num,HNT2.out,by rw [HWS.out.1,HWS.out.2.1,HWS.out.2.2];exact HR2.out,bthen HBr.out HBW1.out⟩
                          · have yw6:(was == 6)=false:=by simpa using hw6
                            as_aux_lemma =>
                             have HR2:=jH (oneQ_bad HRR.out (by
                              rintro ⟨a1,a2,a3,a4⟩;have a5:=of_decide_eq_true a4
                              (first|omega|(have a6:=of_decide_eq_false HKZ.out.symm;omega)|(have a6:=of_decide_eq_false HKQ.out.symm;omega))))
                             clear HRR;go_wp2_with fail
                             go_ret
                             exact ⟨by rw [←HR2.out];rfl,bthen HBr.out HBW1.out⟩
                    · have y9:(nt == nth)=false:=by simpa using hnt
                      have y8:(nt != nth)=true:=by simpa using hnt
                      as_aux_lemma =>
                       have HR2:=jH (oneQ_bad HRR.out (by
                        rintro ⟨a1,a2,a3,a4⟩;have a5:=of_decide_eq_true a4
                        (first|omega|(have a6:=of_decide_eq_false HKZ.out.symm;omega)|(have a6:=of_decide_eq_false HKQ.out.symm;omega))))
                       clear HRR;go_wp2_with fail
                       go_ret
                       exact ⟨by rw [←HR2.out];rfl,bthen HBr.out HBW1.out⟩
                  · have yk7:(kd == 7)=false:=by simpa using hk7
                    have HN1:nthK nth kd was=nth:=by unfold nthK;rw [if_neg (by omega)]
                    rw [HN1] at HRR;clear HN1
                    by_cases hnt:nt=nth
                    · have y9:(nt == nth)=true:=by simpa using hnt
                      have y8:(nt != nth)=false:=by simpa using hnt
                      by_cases h8:8≤kd
                      · have p1:(1:Int)≤kd:=by omega
                        have p2:¬kd≤3:=by omega
                        have p3:(5:Int)≤kd:=by omega
                        cases kq with
                        | false =>
                          as_aux_lemma =>
                           have HR2:=jH (oneQ_bad HRR.out (by
                            rintro ⟨a1,a2,a3,a4⟩;have a5:=of_decide_eq_true a4
                            (first|omega|(have a6:=of_decide_eq_false HKZ.out.symm;omega)|(have a6:=of_decide_eq_false HKQ.out.symm;omega))))
                           clear HRR;go_wp2_with fail
                           go_ret
                           exact ⟨by rw [←HR2.out];rfl,bthen HBr.out HBW1.out⟩
                        | true =>
                          as_aux_lemma =>
                           have HR2:=jH (oneQ_bad HRR.out (by
                            rintro ⟨a1,a2,a3,a4⟩;have a5:=of_decide_eq_true a4
                            (first|omega|(have a6:=of_decide_eq_false HKZ.out.symm;omega)|(have a6:=of_decide_eq_false HKQ.out.symm;omega))))
                           clear HRR;go_wp2_with fail
                           go_ret
                           exact ⟨by rw [←HR2.out];rfl,bthen HBr.out HBW1.out⟩
                      · have p1:¬(1:Int)≤kd:=by omega
                        have p3:¬(5:Int)≤kd:=by omega
                        as_aux_lemma =>
                         have HR2:=jH (oneQ_bad HRR.out (by
                          rintro ⟨a1,a2,a3,a4⟩;have a5:=of_decide_eq_true a4
                          (first|omega|(have a6:=of_decide_eq_false HKZ.out.symm;omega)|(have a6:=of_decide_eq_false HKQ.out.symm;omega))))
                         clear HRR;go_wp2_with fail
                         go_ret
                         exact ⟨by rw [←HR2.out];rfl,bthen HBr.out HBW1.out⟩
                    · have y9:(nt == nth)=false:=by simpa using hnt
                      have y8:(nt != nth)=true:=by simpa using hnt
                      as_aux_lemma =>
                       have HR2:=jH (oneQ_bad HRR.out (by
                        rintro ⟨a1,a2,a3,a4⟩;have a5:=of_decide_eq_true a4
                        (first|omega|(have a6:=of_decide_eq_false HKZ.out.symm;omega)|(have a6:=of_decide_eq_false HKQ.out.symm;omega))))
                       clear HRR;go_wp2_with fail
                       go_ret
                       exact ⟨by rw [←HR2.out];rfl,bthen HBr.out HBW1.out⟩
  · obtain rfl:k=es.length:=by omega
    have z1:¬(es.length:Int)<(es.length:Int):=by omega
    have HR2:=jH (show true=ans from by have h9:=HR.out;rw [List.drop_length] at h9;exact h9);clear HR;go_wp2_with fail
    go_ret
    exact ⟨by rw [←HR2.out];rfl,HBr.out⟩
end
end Go.Proofs.YtkcdhaallnhhmaaGreat
