/- Part 29 of the proof: Win4, Win5, FlF. -/
import Derived.Test.YtkcdhaallnhhmaaGreatP22
import Derived.Test.YtkcdhaallnhhmaaGreatP28
namespace Go.Proofs.YtkcdhaallnhhmaaGreat
set_option linter.unusedSimpArgs false
set_option linter.unusedVariables false
set_option linter.unusedSectionVars false
set_option maxRecDepth 100000
set_option maxHeartbeats 16000000
section
open Go.RowKit Go.Lib
theorem mean_law (t d:Nat) (hd:0<d):(t+(d - 1)) / d=if 0<t % d then t / d+1 else t / d:=by
 have h:=Nat.div_add_mod t d;have hm:=Nat.mod_lt t hd;generalize t / d=q at *;generalize t % d=r at *;subst h
 split
 · rw [Nat.add_assoc,Nat.mul_add_div hd]
   have:(r+(d - 1)) / d=1:=by
    rw [Nat.div_eq_iff hd];omega
   omega
 · rw [Nat.add_assoc,Nat.mul_add_div hd,Nat.div_eq_of_lt (by omega)]
   rfl
theorem wideMean_any (v:Value) (l:List Int) (w:World) (hv:RowIn 1 nmC w v l) (hl:l.length≤1000000) (hi:∀n∈l,0≤n∧n≤9223372036854775807) :
 Calls Tryz.prog 201 #[v] w (jP w (.int .i64 (meanN l:Nat))):=by
 obtain ⟨A,c,rfl⟩:=hv.form;have hl9:l.length≤9223372036854775807:=by omega
 by_cases hne:l=[]
 · have q1:(l.length:Int)=0:=by rw [hne];rfl
   have HM:=jH (show meanN l=0 by rw [hne];rfl);have q2:((l.length:Int) == 0)=true:=by simp [hne]
   clear hv hi hne
   go_enter Tryz.func201,Tryz.ntmps201
   go_wp2_with fail
   go_ret
   exact ⟨by rw [HM.out];rfl,jR⟩
 · have hp:0<l.length:=List.length_pos_iff.2 hne
   have CT:=jH (wideTotal_any _ l w hv hl hi);have htl:=totN_le (fun n hn=>(hi n hn).2);have hml:=meanN_le (fun n hn=>(hi n hn).2);have hmn:meanN l=if 0<totN l % l.length then totN l / l.length+1 else totN l / l.length:=by
    unfold meanN;rw [if_neg hne,mean_law _ _ hp]
   have q0:¬(l.length:Int)=0:=by omega
   have q1:((l.length:Int) == 0)=false:=by simpa using hne
   have q2:IntKind.u64.wrap (l.length:Int)=(l.length:Int):=u64_wrap _ (by omega);have htl2:totN l≤1000000 * 9223372036854775807:=Nat.le_trans htl (Nat.mul_le_mul_right _ hl);generalize totN l=t at CT hmn htl2;generalize hm:meanN l=m at hml hmn ⊢;obtain ⟨qa,hqa⟩:∃qa,qa=t / l.length / 18446744073709551616:=⟨_,rfl⟩;obtain ⟨qb,hqb⟩:∃qb,qb=t / l.length % 18446744073709551616:=⟨_,rfl⟩;obtain ⟨r,hr⟩:∃r,r=t % l.length:=⟨_,rfl⟩
   obtain ⟨n,hn⟩:∃n,n=l.length:=⟨_,rfl⟩;have hqle:t / l.length≤t:=Nat.div_le_self _ _;have CD:=jH (fun W=>show Calls Tryz.prog 224 #[twoV t,.int .u64 l.length] W (jP W (.tuple #[.agg #[.int .u64 qa,.int .u64 qb],.int .u64 r,.bool true])) from by
    have h:=wideDiv_any t l.length (by omega) hp (by omega) W;unfold twoV at h ⊢;rw [←hqa,←hqb,←hr] at h;exact h)
   by_cases hr0:0<r
   · rw [←hr,if_pos hr0] at hmn
     have CA:=jH (fun W=>show Calls Tryz.prog 226 #[.agg #[.int .u64 qa,.int .u64 qb],.agg #[.int .u64 0,.int .u64 1]] W (jP W (.tuple #[.agg #[.int .u64 0,.int .u64 m],.bool true])) from by
      have h:=wideAdd_any (t / l.length) 1 (by omega) W;unfold twoV at h;rw [←hqa,←hqb,←hmn,show m / 18446744073709551616=0 from Nat.div_eq_of_lt (by omega),show m % 18446744073709551616=m from Nat.mod_eq_of_lt (by omega)] at h;exact h)
     have CS:=jH (fun W=>show Calls Tryz.prog 227 #[.agg #[.int .u64 0,.int .u64 m]] W (jP W (.int .i64 m)) from by
      have h:=wideSmall_any m hml W;unfold twoV at h;rw [show m / 18446744073709551616=0 from Nat.div_eq_of_lt (by omega),show m % 18446744073709551616=m from Nat.mod_eq_of_lt (by omega)] at h;exact h)
     have q5:(0:Int)<(r:Int):=by omega
     clear hv hi hne hp htl hml hmn htl2 hqa hqb hr hn hqle hr0 hm n
     go_enter Tryz.func201,Tryz.ntmps201
     go_wp2_with (first
      | (go_at_call 225
         refine CT.out.mono ?_;rintro e w1 ⟨rfl,hb1⟩;have HB1:=jH hb1;clear hb1)
      | (go_at_call 224
         refine (CD.out w1).mono ?_;rintro e w2 ⟨rfl,hb2⟩;have HB2:=jH (bthen HB1.out hb2);clear hb2)
      | (go_at_call 226
         refine calls_named ?_;intro W3 hW3;have hb3:jB w2 W3:=by rw [hW3];exact balloc jR _
         have hx3:W3.heap[w2.heap.size]?=some (.cells #[.int .u64 qa,.int .u64 qb] 297 (0,0)):=by rw [hW3];exact heap_alloc_new _ _
         clear hW3;refine (CA.out W3).mono ?_;rintro e w4 ⟨rfl,hb4⟩;have HX4:=jH (box_below (w:=w) hx3 hb4);obtain ⟨e1,e2,e3⟩:=box_cells jR HX4.out;have HB4:=jH (bthen HB2.out (bthen hb3 hb4));have HS4:=jH (show w.heap.size≤w2.heap.size from HB2.out.size);clear hb3 hx3 hb4)
      | (go_at_call 227
         refine (CS.out _).mono ?_;rintro e w5 ⟨rfl,hb5⟩;have HB5:=jH (bthen ((HB4.out.setCell HS4.out _).setCell HS4.out _) hb5);clear hb5))
     go_ret
     exact ⟨rfl,HB5.out⟩
   · rw [←hr,if_neg hr0] at hmn
     have CS:=jH (fun W=>show Calls Tryz.prog 227 #[.agg #[.int .u64 qa,.int .u64 qb]] W (jP W (.int .i64 m)) from by
      have h:=wideSmall_any m hml W;unfold twoV at h;rw [hmn,←hqa,←hqb] at h;rw [hmn];exact h)
     obtain rfl:r=0:=by omega
     clear hv hi hne hp htl hml hmn htl2 hqa hqb hr hn hqle hr0 hm n
     go_enter Tryz.func201,Tryz.ntmps201
     go_wp2_with (first
      | (go_at_call 225
         refine CT.out.mono ?_;rintro e w1 ⟨rfl,hb1⟩;have HB1:=jH hb1;clear hb1)
      | (go_at_call 224
         refine (CD.out w1).mono ?_;rintro e w2 ⟨rfl,hb2⟩;have HB2:=jH (bthen HB1.out hb2);clear hb2)
      | (go_at_call 227
         refine (CS.out _).mono ?_;rintro e w5 ⟨rfl,hb5⟩;have HB5:=jH (bthen (balloc HB2.out _) hb5);clear hb5))
     go_ret
     exact ⟨rfl,HB5.out⟩
end
section
open Go.RowKit Go.Lib
theorem winOf_any (v:Value) (l:List Smp) (w:World) (hv:RowIn 2 smpC w v l) (hl:l.length≤1000000) (hi:smpI l) :
 Calls Tryz.prog 167 #[v] w (jP w (stV (statN (valsW l)))):=by
 have CV:=jH (fun W (hW:jB w W)=>winVals_any v l W (hv.below hW) hl);have hvi:=vals_i64 hi;have hvl:(valsW l).length≤1000000:=by rw [vals_len];exact hl
 have HLL:=jH hvl;have HVI:=jH hvi;have hl9:(valsW l).length≤9223372036854775807:=by omega
 clear hv hi hl hvi hvl;generalize valsW l=n at *
 by_cases hne:n=[]
 · subst hne
   have HST:=jH (show statN []=st0 from rfl);have q2:(((([]:List Int).length:Nat):Int) == 0)=true:=rfl;clear hl9
   go_enter Tryz.func167,Tryz.ntmps167
   go_wp2_with (first
    | (go_at_call 197
       refine calls_named ?_;intro W1 hW1;have hb1:jB w W1:=by rw [hW1];exact balloc jR _
       have hx1:W1.heap[w.heap.size]?=some (.cells #[.int .i64 0,.int .i64 0,.int .i64 0,.int .i64 0,.int .i64 0] 72 (0,0)):=by rw [hW1];exact heap_alloc_new _ _
       clear hW1;refine (CV.out W1 hb1).mono ?_;rintro e w2 ⟨A,c,rfl,ho,hb2⟩;have HX2:=jH (box_below (w:=w) hx1 hb2);obtain ⟨e1,e2,e3⟩:=box_cells jR HX2.out;have HB2:=jH (bthen hb1 hb2);clear hb1 hx1 ho hb2))
   have hz2:=setCell_block (i:=4) (v:=.int .i64 0) (setCell_block (i:=3) (v:=.int .i64 0) (setCell_block (i:=2) (v:=.int .i64 0) (setCell_block (i:=1) (v:=.int .i64 0) (setCell_block (i:=0) (v:=.int .i64 0) HX2.out))));obtain ⟨f1,f2,f3⟩:=box_cells jR hz2;refine bodyPost_ret (v:=.agg #[.int .i64 0,.int .i64 0,.int .i64 0,.int .i64 0,.int .i64 0]) (by simp [results,Tryz.results167,go_sem,f1]) rfl ⟨by rw [HST.out];rfl,((((HB2.out.setCell (Nat.le_refl _) _).setCell (Nat.le_refl _) _).setCell (Nat.le_refl _) _).setCell (Nat.le_refl _) _).setCell (Nat.le_refl _) _⟩
 · have hp:0<n.length:=List.length_pos_iff.2 hne
   have HST:=jH (show statN n=⟨n.length,sumE n 0,minL n,maxL n,meanN n⟩ by unfold statN;rw [if_neg hne]);have q0:¬(n.length:Int)=0:=by omega
   have q1:((n.length:Int) == 0)=false:=by simpa using hne
   have CS:=jH (fun v W (h:RowIn 1 nmC W v n)=>satSum_any v n W h HLL.out (fun m hm=>by have:=HVI.out m hm;unfold I64;omega));have CMi:=jH (fun v W (h:RowIn 1 nmC W v n)=>slMin_any v n W h HLL.out hne);have CMa:=jH (fun v W (h:RowIn 1 nmC W v n)=>slMax_any v n W h HLL.out hne);have CMe:=jH (fun v W (h:RowIn 1 nmC W v n)=>wideMean_any v n W h HLL.out HVI.out);generalize sumE n 0=s1 at CS HST;generalize minL n=s2 at CMi HST
   generalize maxL n=s3 at CMa HST;generalize meanN n=s4 at CMe HST;clear hne hp
   go_enter Tryz.func167,Tryz.ntmps167
   go_wp2_with (first
    | (go_at_call 197
       refine calls_named ?_;intro W1 hW1;have hb1:jB w W1:=by rw [hW1];exact balloc jR _
       have hx1:W1.heap[w.heap.size]?=some (.cells #[.int .i64 0,.int .i64 0,.int .i64 0,.int .i64 0,.int .i64 0] 72 (0,0)):=by rw [hW1];exact heap_alloc_new _ _
       clear hW1;refine (CV.out W1 hb1).mono ?_;rintro e w2 ⟨A,c,rfl,ho,hb2⟩;have HX2:=jH (box_below (w:=w) hx1 hb2);obtain ⟨e1,e2,e3⟩:=box_cells jR HX2.out;have HB2:=jH (bthen hb1 hb2);have HR2:=jH (ho.row eNm);clear hb1 hx1 ho hb2)
    | (go_at_call 198
       refine (CS.out _ w2 HR2.out).mono ?_;rintro e w3 ⟨rfl,rfl⟩)
    | (go_at_call 199
       refine (CMi.out _ w2 HR2.out).mono ?_;rintro e w3 ⟨rfl,rfl⟩)
    | (go_at_call 200
       refine (CMa.out _ w2 HR2.out).mono ?_;rintro e w3 ⟨rfl,rfl⟩)
    | (go_at_call 201
       refine (CMe.out _ w2 HR2.out).mono ?_;rintro e w3 ⟨rfl,hb3⟩;have HX3:=jH (box_below (w:=w) HX2.out hb3);obtain ⟨g1,g2,g3⟩:=box_cells jR HX3.out;have HB3:=jH (bthen HB2.out hb3);clear hb3))
   have hz2:=setCell_block (i:=4) (v:=.int .i64 s4) (setCell_block (i:=3) (v:=.int .i64 s3) (setCell_block (i:=2) (v:=.int .i64 s2) (setCell_block (i:=1) (v:=.int .i64 s1) (setCell_block (i:=0) (v:=.int .i64 n.length) HX3.out))));obtain ⟨f1,f2,f3⟩:=box_cells jR hz2;refine bodyPost_ret (v:=.agg #[.int .i64 n.length,.int .i64 s1,.int .i64 s2,.int .i64 s3,.int .i64 s4]) (by simp [results,Tryz.results167,go_sem,f1]) rfl ⟨by rw [HST.out];rfl,((((HB3.out.setCell (Nat.le_refl _) _).setCell (Nat.le_refl _) _).setCell (Nat.le_refl _) _).setCell (Nat.le_refl _) _).setCell (Nat.le_refl _) _⟩
theorem winAt_any (v:Value) (l:List Smp) (til wd:Int) (w:World) (hv:RowIn 2 smpC w v l) (hl:l.length≤1000000) (hi:smpI l) (ht:I64 til) (hw:I64 wd) :
 Calls Tryz.prog 123 #[v,.int .i64 til,.int .i64 wd] w (jP w (stV (statW l til wd))):=by
 have CF:=jH (fun W=>winFrom_any til wd W ht hw);have CC:=jH (fun W (hW:jB w W)=>winCut_any v l (fromW til wd) til W (hv.below hW) hl);have COf:=jH (fun v W (h:RowIn 2 smpC W v (winC l (fromW til wd) til))=>winOf_any v _ W h (Nat.le_trans (cut_len _ _ _) hl) (hi.cut _ _));unfold statW;generalize winC l (fromW til wd) til=m at CC COf ⊢;generalize fromW til wd=f at CF CC;generalize statN (valsW m)=s at COf ⊢
 obtain ⟨s0,s1,s2,s3,s4⟩:=s;unfold stV at COf ⊢;simp only at COf ⊢
 clear hv hl hi ht hw
 go_enter Tryz.func123,Tryz.ntmps123
 go_wp2_with (first
  | (go_at_call 169
     refine calls_named ?_;intro W1 hW1;have HB1:=jH (show jB w W1 by rw [hW1];exact balloc jR _);have HX1:=jH (show W1.heap[w.heap.size]?=some (.cells #[.int .i64 0,.int .i64 0,.int .i64 0,.int .i64 0,.int .i64 0] 72 (0,0)) by rw [hW1];exact heap_alloc_new _ _);clear hW1;refine (CF.out W1).mono ?_;rintro e w2 ⟨rfl,rfl⟩)
  | (go_at_call 168
     refine (CC.out W1 HB1.out).mono ?_;rintro e w2 ⟨A,c,rfl,ho,hb2⟩;have HX2:=jH (box_below (w:=w) HX1.out hb2);have HB2:=jH (bthen HB1.out hb2);have HR2:=jH (ho.row eSmp);clear ho hb2)
  | (go_at_call 167
     refine (COf.out _ w2 HR2.out).mono ?_;rintro e w3 ⟨rfl,hb3⟩;have HX3:=jH (box_below (w:=w) HX2.out hb3);obtain ⟨g1,g2,g3⟩:=box_cells jR HX3.out;have HB3:=jH (bthen HB2.out hb3);clear hb3))
 have hz2:=setCell_block (i:=4) (v:=.int .i64 s4) (setCell_block (i:=3) (v:=.int .i64 s3) (setCell_block (i:=2) (v:=.int .i64 s2) (setCell_block (i:=1) (v:=.int .i64 s1) (setCell_block (i:=0) (v:=.int .i64 s0) HX3.out))));obtain ⟨f1,f2,f3⟩:=box_cells jR hz2;exact bodyPost_ret (v:=.agg #[.int .i64 s0,.int .i64 s1,.int .i64 s2,.int .i64 s3,.int .i64 s4]) (by simp [results,Tryz.results123,go_sem,f1]) rfl ⟨rfl,((((HB3.out.setCell (Nat.le_refl _) _).setCell (Nat.le_refl _) _).setCell (Nat.le_refl _) _).setCell (Nat.le_refl _) _).setCell (Nat.le_refl _) _⟩
end
section
open Go.RowKit Go.Lib
theorem flFind_any {P:Nat→Prop} {M:Nat} {c:Cfg} {rs rh n:Nat} {wd:Wd} {d:FlatD} (k:Int) (w:World) (h:FlatAt P w M c rs rh n wd d) (hl:wd.cuts.length≤900000) (hep:∀q∈wd.cuts,0≤q.ep) :
 Calls Tryz.prog 122 #[.pointer (some ⟨M,0,none⟩),.int .i64 k] w fun e w'=>e=.returned (.int .i64 (findT (tabW wd) k))∧w'=w:=by
 obtain ⟨a1,a2,a3⟩:=box_cells jR h.cell;have htl:(tabW wd).length=d.cuts.length:=by rw [h.len];simp [tabW]
 by_cases hk:k<1∨((tabW wd).length:Nat)<k
 · rw [findT_out hk]
   rw [htl] at hk;clear h hl hep htl
   by_cases h1:k<1
   · go_enter Tryz.func122,Tryz.ntmps122
     go_wp2_with fail
     go_ret
     exact ⟨rfl,rfl⟩
   · have h2:(d.cuts.length:Int)<k:=by omega
     clear hk
     go_enter Tryz.func122,Tryz.ntmps122
     go_wp2_with fail
     go_ret
     exact ⟨rfl,rfl⟩
 · obtain ⟨j,hj,rfl⟩:∃j:Nat,j<d.cuts.length∧k=((j+1:Nat):Int):=⟨k.toNat - 1,by omega,by omega⟩
   have hjw:j<wd.cuts.length:=by rw [←h.len];exact hj
   obtain ⟨b,o,hA,hb,hc⟩:=h.row.1.at_ hj;have c2:=hc 2 _ rfl;have hct:=(h.cut j _ _ (List.getElem?_eq_getElem hj) (List.getElem?_eq_getElem hjw)).1;have hr:findT (tabW wd) ((j+1:Nat):Int)=if d.cuts[j].fr=true then 8 else 0:=by
    unfold findT;rw [if_neg (by rw [htl];omega),show ((j+1:Nat):Int).toNat - 1=j by omega];have:(tabW wd)[j]?=some (if wd.cuts[j].freed=true then -1 else wd.cuts[j].ep):=by
     unfold tabW;rw [List.getElem?_map,List.getElem?_eq_getElem hjw];rfl
    rw [this,hct];have:=hep _ (List.getElem_mem hjw)
    cases wd.cuts[j].freed with
    | true=>rfl
    | false =>
      show (if wd.cuts[j].ep<0 then (8:Int) else 0)=_
      rw [if_neg (by omega)];rfl
   rw [hr];generalize d.cuts[j].fr=fr at c2;rw [hA] at a1;have hjm:j≤900000:=by omega
   obtain ⟨cl,hcl⟩:∃n,n=d.cuts.length:=⟨_,rfl⟩;rw [←hcl] at a1;have z1:¬((j:Int)+1)<1:=by omega
   have z2:¬(cl:Int)<((j:Int)+1):=by omega
   have z3:(0:Int)≤(j:Int):=by omega
   have z4:(j:Int)<(cl:Int):=by omega
   have z5:((j:Int)+1) - 1=(j:Int):=by omega
   clear h hl hep htl hk hc hct hr hA hcl hj hjw
   cases fr
   all_goals
     go_enter Tryz.func122,Tryz.ntmps122
     go_wp2_with fail
     go_ret
     exact ⟨rfl,rfl⟩
end
end Go.Proofs.YtkcdhaallnhhmaaGreat
