/- Part 38 of the proof: Win5, FlN, FlNm, FlTw, W21N. -/
import Derived.Test.YtkcdhaallnhhmaaGreatQ29
import Derived.Test.YtkcdhaallnhhmaaGreatQ36
namespace Go.Proofs.YtkcdhaallnhhmaaGreat
set_option linter.unusedSimpArgs false
set_option linter.unusedVariables false
set_option linter.unusedSectionVars false
set_option maxRecDepth 100000
set_option maxHeartbeats 16000000
section
open Go.RowKit Go.Lib
theorem winOf_any (v:Value) (l:List Smp) (w:World) (hv:RowIn 2 smpC w v l) (hl:l.length≤1000000) (hi:smpI l) :
 Calls Tryz.prog 167 #[v] w (jP w (stV (statN (valsW l)))):=by
 have CV:=jH (fun W (hW:jB w W)=>winVals_any v l W (hv.below hW) hl);have hvi:=vals_i64 hi;have hvl:(valsW l).length≤1000000:=by rw [vals_len];exact hl
 have HLL:=jH hvl;have HVI:=jH hvi;have hl9:(valsW l).length≤9223372036854775807:=by omega
 clear hv hi hl hvi hvl;generalize valsW l=n at *
 by_cases hne:n=[]
 · subst hne
   have HST:=jH (show statN []=st0 from rfl);have q2:(((([]:List Int).length:Nat):Int) == 0)=true:=rfl;clear hl9
   go_enter Tryz.func167,Tryz.ntmps167
   go_wp2_with (first
    | (go_at_call 197
       refine calls_named ?_;intro W1 hW1;have hb1:jB w W1:=by rw [hW1];exact balloc jR _
       have hx1:W1.heap[w.heap.size]?=some (.cells #[.int .i64 0,.int .i64 0,.int .i64 0,.int .i64 0,.int .i64 0] 72 (0,0)):=by rw [hW1];exact heap_alloc_new _ _
       clear hW1;refine (CV.out W1 hb1).mono ?_;rintro e w2 ⟨A,c,rfl,ho,hb2⟩;have HX2:=jH (box_below (w:=w) hx1 hb2);obtain ⟨e1,e2,e3⟩:=box_cells jR HX2.out;have HB2:=jH (bthen hb1 hb2);clear hb1 hx1 ho hb2))
   have hz2:=setCell_block (i:=4) (v:=.int .i64 0) (setCell_block (i:=3) (v:=.int .i64 0) (setCell_block (i:=2) (v:=.int .i64 0) (setCell_block (i:=1) (v:=.int .i64 0) (setCell_block (i:=0) (v:=.int .i64 0) HX2.out))));obtain ⟨f1,f2,f3⟩:=box_cells jR hz2;refine bodyPost_ret (v:=.agg #[.int .i64 0,.int .i64 0,.int .i64 0,.int .i64 0,.int .i64 0]) (by simp [results,Tryz.results167,go_sem,f1]) rfl ⟨by rw [HST.out];rfl,((((HB2.out.setCell (Nat.le_refl _) _).setCell (Nat.le_refl _) _).setCell (Nat.le_refl _) _).setCell (Nat.le_refl _) _).setCell (Nat.le_refl _) _⟩
 · have hp:0<n.length:=List.length_pos_iff.2 hne
   have HST:=jH (show statN n=⟨n.length,sumE n 0,minL n,maxL n,meanN n⟩ by unfold statN;rw [if_neg hne]);have q0:¬(n.length:Int)=0:=by omega
   have q1:((n.length:Int) == 0)=false:=by simpa using hne
   have CS:=jH (fun v W (h:RowIn 1 nmC W v n)=>satSum_any v n W h HLL.out (fun m hm=>by have:=HVI.out m hm;unfold I64;omega));have CMi:=jH (fun v W (h:RowIn 1 nmC W v n)=>slMin_any v n W h HLL.out hne);have CMa:=jH (fun v W (h:RowIn 1 nmC W v n)=>slMax_any v n W h HLL.out hne);have CMe:=jH (fun v W (h:RowIn 1 nmC W v n)=>wideMean_any v n W h HLL.out HVI.out);generalize sumE n 0=s1 at CS HST;generalize minL n=s2 at CMi HST
   generalize maxL n=s3 at CMa HST;generalize meanN n=s4 at CMe HST;clear hne hp
   go_enter Tryz.func167,Tryz.ntmps167
   go_wp2_with (first
    | (go_at_call 197
       refine calls_named ?_;intro W1 hW1;have hb1:jB w W1:=by rw [hW1];exact balloc jR _
       have hx1:W1.heap[w.heap.size]?=some (.cells #[.int .i64 0,.int .i64 0,.int .i64 0,.int .i64 0,.int .i64 0] 72 (0,0)):=by rw [hW1];exact heap_alloc_new _ _
       clear hW1;refine (CV.out W1 hb1).mono ?_;rintro e w2 ⟨A,c,rfl,ho,hb2⟩;have HX2:=jH (box_below (w:=w) hx1 hb2);obtain ⟨e1,e2,e3⟩:=box_cells jR HX2.out;have HB2:=jH (bthen hb1 hb2);have HR2:=jH (ho.row eNm);clear hb1 hx1 ho hb2)
    | (go_at_call 198
       refine (CS.out _ w2 HR2.out).mono ?_;rintro e w3 ⟨rfl,rfl⟩)
    | (go_at_call 199
       refine (CMi.out _ w2 HR2.out).mono ?_;rintro e w3 ⟨rfl,rfl⟩)
    | (go_at_call 200
       refine (CMa.out _ w2 HR2.out).mono ?_;rintro e w3 ⟨rfl,rfl⟩)
    | (go_at_call 201
       refine (CMe.out _ w2 HR2.out).mono ?_;rintro e w3 ⟨rfl,hb3⟩;have HX3:=jH (box_below (w:=w) HX2.out hb3);obtain ⟨g1,g2,g3⟩:=box_cells jR HX3.out;have HB3:=jH (bthen HB2.out hb3);clear hb3))
   have hz2:=setCell_block (i:=4) (v:=.int .i64 s4) (setCell_block (i:=3) (v:=.int .i64 s3) (setCell_block (i:=2) (v:=.int .i64 s2) (setCell_block (i:=1) (v:=.int .i64 s1) (setCell_block (i:=0) (v:=.int .i64 n.length) HX3.out))));obtain ⟨f1,f2,f3⟩:=box_cells jR hz2;refine bodyPost_ret (v:=.agg #[.int .i64 n.length,.int .i64 s1,.int .i64 s2,.int .i64 s3,.int .i64 s4]) (by simp [results,Tryz.results167,go_sem,f1]) rfl ⟨by rw [HST.out];rfl,((((HB3.out.setCell (Nat.le_refl _) _).setCell (Nat.le_refl _) _).setCell (Nat.le_refl _) _).setCell (Nat.le_refl _) _).setCell (Nat.le_refl _) _⟩
theorem winAt_any (v:Value) (l:List Smp) (til wd:Int) (w:World) (hv:RowIn 2 smpC w v l) (hl:l.length≤1000000) (hi:smpI l) (ht:I64 til) (hw:I64 wd) :
 Calls Tryz.prog 123 #[v,.int .i64 til,.int .i64 wd] w (jP w (stV (statW l til wd))):=by
 have CF:=jH (fun W=>winFrom_any til wd W ht hw);have CC:=jH (fun W (hW:jB w W)=>winCut_any v l (fromW til wd) til W (hv.below hW) hl);have COf:=jH (fun v W (h:RowIn 2 smpC W v (winC l (fromW til wd) til))=>winOf_any v _ W h (Nat.le_trans (cut_len _ _ _) hl) (hi.cut _ _));unfold statW;generalize winC l (fromW til wd) til=m at CC COf ⊢;generalize fromW til wd=f at CF CC;generalize statN (valsW m)=s at COf ⊢
 obtain ⟨s0,s1,s2,s3,s4⟩:=s;unfold stV at COf ⊢;simp only at COf ⊢
 clear hv hl hi ht hw
 go_enter Tryz.func123,Tryz.ntmps123
 go_wp2_with (first
  | (go_at_call 169
     refine calls_named ?_;intro W1 hW1;have HB1:=jH (show jB w W1 by rw [hW1];exact balloc jR _);have HX1:=jH (show W1.heap[w.heap.size]?=some (.cells #[.int .i64 0,.int .i64 0,.int .i64 0,.int .i64 0,.int .i64 0] 72 (0,0)) by rw [hW1];exact heap_alloc_new _ _);clear hW1;refine (CF.out W1).mono ?_;rintro e w2 ⟨rfl,rfl⟩)
  | (go_at_call 168
     refine (CC.out W1 HB1.out).mono ?_;rintro e w2 ⟨A,c,rfl,ho,hb2⟩;have HX2:=jH (box_below (w:=w) HX1.out hb2);have HB2:=jH (bthen HB1.out hb2);have HR2:=jH (ho.row eSmp);clear ho hb2)
  | (go_at_call 167
     refine (COf.out _ w2 HR2.out).mono ?_;rintro e w3 ⟨rfl,hb3⟩;have HX3:=jH (box_below (w:=w) HX2.out hb3);obtain ⟨g1,g2,g3⟩:=box_cells jR HX3.out;have HB3:=jH (bthen HB2.out hb3);clear hb3))
 have hz2:=setCell_block (i:=4) (v:=.int .i64 s4) (setCell_block (i:=3) (v:=.int .i64 s3) (setCell_block (i:=2) (v:=.int .i64 s2) (setCell_block (i:=1) (v:=.int .i64 s1) (setCell_block (i:=0) (v:=.int .i64 s0) HX3.out))));obtain ⟨f1,f2,f3⟩:=box_cells jR hz2;exact bodyPost_ret (v:=.agg #[.int .i64 s0,.int .i64 s1,.int .i64 s2,.int .i64 s3,.int .i64 s4]) (by simp [results,Tryz.results123,go_sem,f1]) rfl ⟨rfl,((((HB3.out.setCell (Nat.le_refl _) _).setCell (Nat.le_refl _) _).setCell (Nat.le_refl _) _).setCell (Nat.le_refl _) _).setCell (Nat.le_refl _) _⟩
end
section
open Go.RowKit Go.Lib
theorem eFc:EltOf 95 108 3 24 (.agg #[.int .i64 0,.map none,.bool false]) fcC :=
 ⟨by kernel_rfl,by kernel_rfl,rfl,by decide,by decide,fun _=>rfl,fun x u hu=>by
  simp only [fcC,List.mem_cons,List.not_mem_nil,or_false] at hu
  rcases hu with rfl|rfl|rfl <;> rfl⟩
theorem cloneF_any (v:Value) (l:List FCut) (w:World) (hv:RowIn 3 fcC w v l) (hl:l.length≤1000000) :
 Calls Tryz.prog 50 #[v] w (CloneS fcC 108 3 w l):=by
 obtain ⟨A,c,rfl⟩:=hv.form
 cases A with
 | none =>
   have h0:l.length=0:=by
    obtain ⟨A1,c1,e1,_,hr⟩:=hv;injection e1 with e1 _ _
    rcases Nat.eq_zero_or_pos l.length with h|h
    · exact h
    · obtain ⟨_,_,hA,_⟩:=hr h;rw [hA] at e1;cases e1
   obtain rfl:l=[]:=List.eq_nil_of_length_eq_zero h0;have hq:∀W,(binOp .eql 95 (.slice none 0 c) (.slice none 0 0)).run Tryz.prog W=.ok (.bool true) W:=fun W=>Lib.run_eql_slice_nil W _ _ none 0 c 0 0 eFc.ht
   clear hv h0
   go_enter Tryz.func50,Tryz.ntmps50
   go_wp2
   go_ret
   exact ⟨none,0,[],rfl,SRow.nil _,fun k hk=>by simp at hk,jR⟩
 | some ad =>
   have HV:=jH hv;have hq:∀W,(binOp .eql 95 (.slice (some ad) l.length c) (.slice none 0 0)).run Tryz.prog W=.ok (.bool false) W:=fun W=>Lib.run_eql_slice_nil W _ _ (some ad) l.length c 0 0 eFc.ht
   clear hv
   go_enter Tryz.func50,Tryz.ntmps50
   go_wp2_with (at_builtin;refine wpList_appendL eFc (by rfl) (s:=.tmp 5) (x:=.tmp 6) (by rfl) w.heap.size [] l _ _ (by rfl) (by rfl) (OwnL.lit0 _ w _ _ rfl (Nat.le_refl _)) (HV.out.below (balloc jR _)) (by simp;omega) (by simp) ?_;intro out A2 c2 w2 hout hown hg _;have HOUT:=jH hout;have HO:=jH hown;have HG:=jH hg;clear hout hown hg)
   go_ret
   have e1:out=l:=by rw [HOUT.out];rfl
   subst e1;exact ⟨A2,c2,_,rfl,SRow.of _ HO.out,fun k hk=>(HO.out.lt (by simpa using hk)).1,(balloc jR _).trans (grown_below HG.out (by simp) (fun r hr=>by have hr':some w.heap.size=some r:=hr;injection hr';omega))⟩
section
variable {α:Type} {t e:TypeId} {n bytes:Nat} {z:Value} {f:α→List Value}
theorem run_appendC (E:EltOf t e n bytes z f) (w:World) (ty:TypeId) (l m:List α) (A:Option Addr) (v2:Value)
    (hl:RowIn n f w (.slice A l.length l.length) l) (hm:RowIn n f w v2 m) (hm0:0<m.length) (hlen:l.length+m.length≤100000000) :
    ∃c w',(Builtin.append_ #[t,t] ty #[.slice A l.length l.length,v2]).run Tryz.prog w=.ok (.slice (some ⟨w.heap.size,0,none⟩) (l++m).length c) w'∧OwnL f e n w.heap.size w' (.slice (some ⟨w.heap.size,0,none⟩) (l++m).length c) (l++m)∧jB w w':=by
  obtain ⟨i0,hi0,hz0,hz1,hz2⟩:=info_parts E.hi;have hby:=E.hb;have cells:∀(k:List α) (ad:Addr) (c:Nat),RowIn n f w (.slice (some ad) k.length c) k→∀j u,(cellsOfRow f k)[j]?=some u→w.cell? (ad.add j)=some u:=fun k ad c hr j u hu=>by
   obtain ⟨y,hy,hyu⟩:=cellsOfRow_split E.hn E.len k j u hu;have hml:0<k.length:=Nat.lt_of_le_of_lt (Nat.zero_le _) (List.getElem?_eq_some_iff.1 hy).1;obtain ⟨A2,c2,hv,_,hr⟩:=hr;obtain ⟨b,o',hA,hlt,hat⟩:=hr hml;injection hv with hA2 _ _
   rw [hA] at hA2;injection hA2 with hA2
   subst hA2;have h:=hat (j / n) y hy (j % n) u hyu;rw [add_at,←h];have hd:j / n * n+j % n=j:=by rw [Nat.mul_comm];exact Nat.div_add_mod j n
   rw [Nat.add_assoc,hd]
  obtain ⟨A2,c2,hv2,hc2,hr2⟩:=id hm;subst hv2;obtain ⟨b2,o2,hA2,_,_⟩:=hr2 hm0;subst hA2;have hlen2:(l++m).length=l.length+m.length:=by simp
  have hsm:l.length+m.length≤maxLen:=by simp only [maxLen];omega
  have hbig:(l.length+m.length) * bytes≤140737488355328:=Nat.le_trans (Nat.mul_le_mul (by omega:l.length+m.length≤100000000) hby) (by omega)
  have grown:∀(xs:List Value) (old:Nat),xs=cellsOfRow f l→old<l.length+m.length →
      OwnL f e n w.heap.size (w.drew.alloc (.cells (xs.toArray++(cellsOfRow f m).toArray++Builtin.zeroCells z.cells (grownCap w (l.length+m.length) old e - (l.length+m.length))) e)) (.slice (some ⟨w.heap.size,0,none⟩) (l++m).length (grownCap w (l.length+m.length) old e)) (l++m):=by
    intro xs old hxs ho;have hge:=grownCap_ge w (l.length+m.length) old e;have hcm:grownCap w (l.length+m.length) old e≤maxLen:=grownCap_le_maxLen w (l.length+m.length) old e hsm;have hl1:=cellsOfRow_len E.len l;have hl2:=cellsOfRow_len E.len m;subst hxs;refine ⟨cellsOfRow_len E.len (l++m),.inr ⟨w.heap.size,_,_,rfl,Nat.le_refl _,heap_alloc_new w.drew _,by omega,hcm,?_,?_⟩⟩
    · simp only [Array.size_append,List.size_toArray,size_zeroCells,E.hz,hl1,hl2,←Nat.add_mul]
      congr 1
      omega
    · simp only [Array.toList_append,List.append_assoc]
      rw [←List.append_assoc,←cellsOfRow_append,←cellsOfRow_len E.len (l++m)];exact List.take_left
  rw [hlen2];rw [hlen2] at grown
  cases A with
  | none =>
    have h0:l=[]:=by
     obtain ⟨A3,c3,hv3,_,hr3⟩:=hl
     rcases Nat.eq_zero_or_pos l.length with h|h
     · exact List.eq_nil_of_length_eq_zero h
     · obtain ⟨_,_,hA,_⟩:=hr3 h
       injection hv3 with hv3 _ _
       rw [hA] at hv3
       cases hv3
    subst h0;have hr:=Go.run_append_nil (P:=Tryz.prog) w t ty e i0 z E.ht hi0 hz0 ⟨b2,o2,none⟩ m.length c2 (cellsOfRow f m) (by rw [hz1];exact cellsOfRow_len E.len m) (cells m _ _ hm) hm0 (by simp only [List.length_nil,Nat.zero_add,maxLen] at hsm;omega) (by rw [hz2];simp only [List.length_nil,Nat.zero_add] at hbig;omega);have hg:=grown [] 0 rfl (by simp;omega);simp only [List.length_nil,Nat.zero_add,List.nil_append,Array.empty_append] at hg hr ⊢
    exact ⟨_,_,hr,hg,⟨rfl,rfl,rfl,by simp,fun k hk=>Below.heap_alloc w.drew _ k hk⟩⟩
  | some ad =>
    have hr:=run_append_grow (P:=Tryz.prog) w t ty e i0 z E.ht hi0 hz0 ad l.length l.length (cellsOfRow f l) (by rw [hz1];exact cellsOfRow_len E.len l) (cells l _ _ hl) ⟨b2,o2,none⟩ m.length c2 (cellsOfRow f m) (by rw [hz1];exact cellsOfRow_len E.len m) (cells m _ _ hm) (by omega) (by omega) (by rw [hz2];exact growslice_fits (by omega) hbig);exact ⟨_,_,hr,grown _ _ rfl (by omega),⟨rfl,rfl,rfl,by simp,fun k hk=>Below.heap_alloc w.drew _ k hk⟩⟩
theorem step_appendC (E:EltOf t e n bytes z f) {w:World} {ops:Array Oper} {o:Oper} {a:Act} {K:Act→World→Prop} {Q:Exit→Act→World→Prop} {X:Prop} (hgd:o.guard=none) (s x:Operand)
    (ho:o.op=.call { callee:=.builtin .append,args:=#[s,x],argTypes:=#[t,t] }) (l m:List α) (A:Option Addr) (v2:Value) (hs:a.eval s=.slice A l.length l.length) (hx:a.eval x=v2)
    (hl:RowIn n f w (.slice A l.length l.length) l) (hm:RowIn n f w v2 m) (hm0:0<m.length) (hlen:l.length+m.length≤100000000)
    (h:∀(out:List α) c w',out=l++m→OwnL f e n w.heap.size w' (.slice (some ⟨w.heap.size,0,none⟩) out.length c) out→jB w w'→K (a.put o.dst (.slice (some ⟨w.heap.size,0,none⟩) out.length c)) w') :
    if Region.wanted o (yielded ops a.tmps)=true then Oper.wp Tryz.prog o a w K Q else X:=by
  have hw:Region.wanted o (yielded ops a.tmps)=true:=by simp [Region.wanted,hgd]
  rw [if_pos hw];obtain ⟨c,w',hrun,h2,h3⟩:=run_appendC E w o.type l m A v2 hl hm hm0 hlen;unfold Oper.wp;simp [execOp,ho,resolve,invoke,builtin,hs,hx,hrun,Result.andThen]
  have h6:=h _ c w' rfl h2 h3;rw [List.length_append] at h6;exact h6
end
theorem flMapClone (L:Nat) (es:List (SK × It)) (w:World) (h:MapIn skV ldV w L es) :
 Calls Tryz.prog 49 #[.map (some L)] w fun e w'=>e=.returned (.map (some w.heap.size))∧MapIn skV ldV w' w.heap.size es∧jB w w':=by
 obtain ⟨ents,clock,hb,h2⟩:=h;refine (AnyW.maps_Clone cloneM L ents clock w hb).mono ?_;rintro e w' ⟨rfl,rfl⟩;exact ⟨rfl,⟨ents,clock,heap_alloc_new _ _,h2⟩,balloc jR _⟩
end
section
open Go.RowKit Go.Lib
theorem names22_any (v:Value) (l:List CallD) (w:World) (hv:RowIn 11 callCells w v l) (hl:l.length≤1000) :
 Calls Tryz.prog 16 #[v] w fun e w'=>∃v',e=.returned v'∧OwnL idC 9 1 w.heap.size w' v' (l.map (·.id))∧jB w w':=by
 obtain ⟨A,cp,rfl⟩:=hv.form;have HV:=jH hv;clear hv
 go_enter Tryz.func16,Tryz.ntmps16
 go_wp2_with fail
 go_loopg [3,4] l.length (fun g s3 s4 wr=>∃k:Nat,k≤l.length∧l.length - k≤g∧s4=.int .i64 k∧OwnL idC 9 1 w.heap.size wr s3 ((l.map (·.id)).take k)∧jB w wr)
 case atStart=>exact ⟨0,Nat.zero_le _,Nat.le_refl _,rfl,by rw [List.take_zero];exact OwnL.nil _ _,jR⟩
 case round =>
  obtain ⟨k,hk,hg,rfl,hown,hb⟩:=hrel;rename World=>wr
  obtain ⟨pre,hpre⟩:∃pre,pre=(l.map (·.id)).take k:=⟨_,rfl⟩;rw [←hpre] at hown;obtain ⟨A5,c5,rfl⟩:=hown.form;have hkl:pre.length=k:=by rw [hpre];simp;omega
  have HPRE:=jH hpre;have HO:=jH hown;have HKL:=jH hkl;have HB:=jH hb;clear hpre hown hkl hb
  by_cases hlt:k<l.length
  · obtain ⟨b1,o1,rfl,hb1,hc⟩:=calls_at HV.out hlt
    obtain ⟨d0,d1,d2,d3,d4,d5,d6,d7,d8,d9,d10⟩:=hc wr HB.out;have HTK:=jH (show (l.map (·.id)).take (k+1)=pre++[l[k].id] by rw [List.take_succ_eq_append_getElem (by simpa using hlt),HPRE.out];simp);have z1:(0:Int)≤(k:Int):=by omega
    have z2:(k:Int)<(l.length:Int):=by omega
    generalize l[k]=x at d0 d1 d2 d3 d4 d5 d6 d7 d8 d9 d10 HTK;clear hc d0 d2 d3 d4 d5 d6 d7 d8 d9 d10
    go_wp2_with (first
     | (at_builtin
        refine wpList_appendL eId (by rfl) (by rfl) w.heap.size pre [x.id] (.slice A5 pre.length c5) _ (by rfl) (by rfl) (HO.out.below (balloc jR _)) (RowIn.lit wr x.id _ _ _ rfl rfl) (by rw [HKL.out];simp;omega) (by have:=HB.out.size;simp;omega) ?_;intro out2 A2 c2 w2 hout2 hown2 hg2 _;have HO2:=jH hout2;have HW2:=jH hown2;have HB2:=jH (show jB w w2 from (balloc HB.out _).trans (grown_own hg2 HO.out (by have:=HB.out.size;simp;omega)))
        clear hout2 hown2 hg2))
    go_roundg (l.length - (k+1))
    case measure=>omega
    case rel=>exact ⟨k+1,hlt,Nat.le_refl _,by go_num,by rw [HTK.out,←HO2.out];exact HW2.out,HB2.out⟩
  · obtain rfl:k=l.length:=by omega
    have hp:=HPRE.out;rw [List.take_of_length_le (by simp)] at hp;have HP:=jH hp;clear hp;go_wp2_with fail
    go_ret
    exact ⟨_,rfl,by rw [←HP.out];exact HO.out,HB.out⟩
end
section
open Go.RowKit Go.Lib
def OffT (P:Nat→Prop) (T L b:Nat):Prop:=P b∧b≠T∧b≠L
theorem FW.twin {P:Nat→Prop} {w w':World} {M T L:Nat} {c:Cfg} {rs rh n:Nat} {wd:Wd} {d:FlatD} {A:Option Addr} {cp:Nat} (h:FW P w M c rs rh n wd d) (hb:jB w w') (hT:w.heap.size≤T) (hL:w.heap.size≤L) (hTL:T≠L)
    (hcell:w'.heap[T]?=some (.cells #[.int .i64 c.st,.int .i64 c.sa,.int .i64 c.lo,.int .i64 c.hi,.map (some L),.slice A d.cuts.length cp,.int .i64 wd.ep,.bool wd.over] 97 (0,0)))
    (hmap:MapIn skV ldV w' L d.es) (hrow:RowG (OffT P T L) 3 fcC w' (.slice A d.cuts.length cp) d.cuts) :
    FW (OffT P T L) w' M c rs rh n wd d∧FW (OffT P T L) w' T c rs rh n wd { d with L:=L,A:=A,cp:=cp }:=by
  have h1:FlatAt (OffT P T L) w' M c rs rh n wd d:=h.at_.keep hb.size (hb.block _ h.at_.lt) (hb.block _ h.at_.map.lt) (fun b hP hlt=>⟨hb.block b hlt,hP,by omega,by omega⟩) (fun b hb=>h.at_.off b hb.1);exact ⟨⟨h1,h.ok⟩,⟨⟨⟨hcell,hmap,hTL,fun b hb=>hb.2,h1.rows,h1.len,hrow,h1.cut⟩,h1.tells⟩,h.ok⟩⟩
theorem flTwin_any {P:Nat→Prop} {w:World} {M:Nat} {c:Cfg} {rs rh n:Nat} {wd:Wd} {d:FlatD} (h:FW P w M c rs rh n wd d) (hP:∀b,w.heap.size≤b→P b) (hl:d.cuts.length≤1000000) :
 Calls Tryz.prog 13 #[.pointer (some ⟨M,0,none⟩)] w fun e w'=>∃T d',e=.returned (.pointer (some ⟨T,0,none⟩))∧FW (OffT P T d'.L) w' M c rs rh n wd d∧FW (OffT P T d'.L) w' T c rs rh n wd d'∧w.heap.size≤T∧w.heap.size≤d'.L∧jB w w':=by
 have CM:=jH (flMade_any w h.at_);have CC:=jH (fun W (hW:jB w W)=>cloneF_any (.slice d.A d.cuts.length d.cp) d.cuts W (h.at_.row.1.below hW) hl);have CL:=jH (fun W (hW:jB w W)=>flMapClone d.L d.es W (h.at_.map.below hW));have HC:=jH h.at_.cell;have HLT:=jH h.at_.lt
 have HFIN:=jH (show ∀(W9:World) (T L:Nat) (A:Option Addr) (cp:Nat),jB w W9→w.heap.size≤T→w.heap.size≤L→T≠L→W9.heap[T]?=some (.cells #[.int .i64 c.st,.int .i64 c.sa,.int .i64 c.lo,.int .i64 c.hi,.map (some L),.slice A d.cuts.length cp,.int .i64 wd.ep,.bool wd.over] 97 (0,0))→MapIn skV ldV W9 L d.es→RowG (fun b=>w.heap.size≤b∧b≠T∧b≠L) 3 fcC W9 (.slice A d.cuts.length cp) d.cuts →
     ∃T' d',(Ending.returned (.pointer (some ⟨T,0,none⟩)))=.returned (.pointer (some ⟨T',0,none⟩))∧FW (OffT P T' d'.L) W9 M c rs rh n wd d∧FW (OffT P T' d'.L) W9 T' c rs rh n wd d'∧w.heap.size≤T'∧w.heap.size≤d'.L∧jB w W9 from fun W9 T L A cp hb h1 h2 h3 h4 h5 h6=>by
   obtain ⟨q1,q2⟩:=h.twin hb h1 h2 h3 h4 h5 (h6.imp (fun b hb=>⟨hP b hb.1,hb.2⟩));exact ⟨T,{ d with L:=L,A:=A,cp:=cp },rfl,q1,q2,h1,h2,hb⟩)
 obtain ⟨cuts,hcu⟩:∃l,l=d.cuts:=⟨_,rfl⟩;obtain ⟨A0,hA⟩:∃l,l=d.A:=⟨_,rfl⟩;obtain ⟨cp0,hcp⟩:∃l,l=d.cp:=⟨_,rfl⟩;obtain ⟨L0,hL⟩:∃l,l=d.L:=⟨_,rfl⟩;rw [←hcu] at HFIN CC HC;rw [←hA,←hcp] at CC HC;rw [←hL] at CL HC;obtain ⟨mn,hmn⟩:∃f:Ending→World→Prop,f=fun e w'=>∃T d',e=.returned (.pointer (some ⟨T,0,none⟩))∧FW (OffT P T d'.L) w' M c rs rh n wd d∧FW (OffT P T d'.L) w' T c rs rh n wd d'∧w.heap.size≤T∧w.heap.size≤d'.L∧jB w w':=⟨_,rfl⟩
 have HMN:=jH (show ∀e w',(∃T d',e=.returned (.pointer (some ⟨T,0,none⟩))∧FW (OffT P T d'.L) w' M c rs rh n wd d∧FW (OffT P T d'.L) w' T c rs rh n wd d'∧w.heap.size≤T∧w.heap.size≤d'.L∧jB w w')→mn e w' from fun e w' hh=>by rw [hmn];exact hh);rw [←hmn];obtain ⟨m1,m2,m3⟩:=box_cells jR HC.out;clear h hP hl hcu hA hcp hL hmn
 go_enter Tryz.func13,Tryz.ntmps13
 go_upto_region 4 with (first
  | (go_at_call 48
     refine CM.out.mono ?_;rintro e w1 ⟨rfl,rfl⟩))
 refine name_world ?_;intro W1 hW1;have hd1:jB w1 W1:=by rw [hW1];exact balloc jR _
 have HT1:=jH (show W1.heap[w1.heap.size]?=some (.cells #[.int .i64 c.st,.int .i64 c.sa,.int .i64 c.lo,.int .i64 c.hi,.map (some L0),.slice A0 cuts.length cp0,.int .i64 wd.ep,.bool wd.over] 97 (0,0)) by rw [hW1];exact heap_alloc_new _ _);have hs1:w1.heap.size<W1.heap.size:=by rw [hW1];simp
 have HS1:=jH hs1;have HD1:=jH hd1;have rm:∀U,jB w1 U→∀j,U.cell? ⟨M,j,none⟩=(#[.int .i64 c.st,.int .i64 c.sa,.int .i64 c.lo,.int .i64 c.hi,.map (some L0),.slice A0 cuts.length cp0,.int .i64 wd.ep,.bool wd.over]:Array Value)[j]?:=fun U hU j=>(box_cells hU HC.out).1 j
 have hS00:jB w1 W1:=hd1;have hS0:jB w1 W1.drew:=hd1.drew;clear hW1 hs1 hd1 m1 m2 m3
 go_region_held3 (fun U=>jB w1 U)
   (first
     | with_reducible exact hS0
     | with_reducible exact HB3.out
     | with_reducible exact HB2.out
     | (with_reducible refine Below.setCell ?_ (by exact Nat.le_refl _) _
        with_reducible exact HB3.out)
     | (with_reducible refine Below.setCell (Below.setCell ?_ (by exact Nat.le_refl _) _) (by exact Nat.le_refl _) _
        with_reducible exact HB3.out))
   (first
     | (go_at_call 49
        refine calls_named ?_;intro V hV;have hd:jB w1 V:=by rw [hV];first|exact hS0|exact hS00
        have hx:V.heap[w1.heap.size]?=some (.cells #[.int .i64 c.st,.int .i64 c.sa,.int .i64 c.lo,.int .i64 c.hi,.map (some L0),.slice A0 cuts.length cp0,.int .i64 wd.ep,.bool wd.over] 97 (0,0)):=by rw [hV];exact HT1.out
        have hlt:w1.heap.size<V.heap.size:=(jL hx);clear hV;refine (CL.out V hd).mono ?_;rintro e w2 ⟨rfl,hm,hb⟩;have HM2:=jH hm;have HB2:=jH (bthen hd hb);have HX2:=jH ((hb.block _ hlt).trans hx);have HV2:=jH (And.intro hlt hm.lt);clear hd hx hlt hm hb)
     | (go_at_call 50
        refine calls_named ?_;intro V3 hV3;have hd3:jB w2 V3:=by rw [hV3];first|exact jR|exact jR.drew
        clear hV3;refine (CC.out V3 (bthen HB2.out hd3)).mono ?_;rintro e w3 ⟨A9,c9,fp9,rfl,hq9,hf9,hb9⟩;have HQ3:=jH (own_srow (base:=V3.heap.size) hq9 hf9);have HB23:=jH (bthen hd3 hb9);have HB3:=jH (bthen HB2.out (bthen hd3 hb9));have HX3:=jH (jK HB23.out HX2.out);have HM3:=jH (HM2.out.below HB23.out);have HV3:=jH hd3.size;obtain ⟨y1,y2,y3⟩:=box_cells jR HX3.out;clear hq9 hf9 hb9 hd3))
 all_goals
   refine then_named ?_;intro W9 hW9;have hX9:W9.heap[w1.heap.size]?=some (.cells #[.int .i64 c.st,.int .i64 c.sa,.int .i64 c.lo,.int .i64 c.hi,.map (some V.heap.size),.slice A9 cuts.length c9,.int .i64 wd.ep,.bool wd.over] 97 (0,0)):=by rw [hW9];exact setCell_block (setCell_block HX3.out)
   have hk9:∀b,b≠w1.heap.size→W9.heap[b]?=w3.heap[b]?:=fun b hb=>by rw [hW9];exact (heap_set_ne rfl hb).trans (heap_set_ne rfl hb)
   have hB9:jB w1 W9:=by rw [hW9];exact Below.setCell (Below.setCell HB3.out (by exact Nat.le_refl _) _) (by exact Nat.le_refl _) _
   have hv:=HV2.out;have hv3:=HV3.out;have hne:V.heap.size≠w1.heap.size:=by omega
   have hM9:MapIn skV ldV W9 V.heap.size d.es:=HM3.out.block (hk9 _ hne);have hO9:OwnL fcC 108 3 V3.heap.size W9 (.slice A9 cuts.length c9) cuts:=HQ3.out.kept (fun r hr=>hk9 r (by have:=(HQ3.out.lt hr).1;omega));have hR9:RowG (fun b=>w1.heap.size≤b∧b≠w1.heap.size∧b≠V.heap.size) 3 fcC W9 (.slice A9 cuts.length c9) cuts:=RowG.ownQ eFc hO9 (fun r hr=>by have:=(hO9.lt hr).1;exact ⟨by omega,by omega,by omega⟩)
   have HEND:=jH (HMN.out _ _ (HFIN.out W9 w1.heap.size V.heap.size A9 c9 hB9 (Nat.le_refl _) (by omega) (fun e=>hne e.symm) hX9 hM9 hR9));clear hW9 hX9 hk9 hB9 hv hv3 hne hM9 hO9 hR9 y1 y2 y3;go_wp2_with fail
   exact HEND.out
end
section
open Go.RowKit Go.Lib
def srNil:SrH:=⟨none,0,[]⟩
structure NewW (w wr:World) (c:Cfg) (s:Value) (l:List SrH):Prop where
 b:jB w wr
 x0:wr.heap[w.heap.size]?=some (.cells #[.int .i64 c.st,.int .i64 c.sa,.int .i64 c.lo,.int .i64 c.hi] 23 (0,0))
 x1:wr.heap[w.heap.size+1]?=some (.cells #[.int .i64 0,.int .i64 0,.int .i64 0,.int .i64 0,.slice none 0 0,.slice none 0 0,.int .i64 0,.bool false] 32 (0,0))
 x2:wr.heap[w.heap.size+1+1]?=some (.cells #[.int .i64 c.st,.int .i64 c.sa,.int .i64 c.lo,.int .i64 c.hi,s,.slice none 0 0,.int .i64 0,.bool false] 32 (0,0))
 own:OwnL srC 174 1 (w.heap.size+3) wr s l
 sz:w.heap.size+3≤wr.heap.size
theorem NewW.put {w wr w2 w3:World} {c:Cfg} {s s2:Value} {l l2:List SrH} (h:NewW w wr c s l) (hb:Below (w.heap.size+3) wr w2) (ho:OwnL srC 174 1 (w.heap.size+3) w2 s2 l2) (h3:w3=w2.setCell ⟨w.heap.size+1+1,4,none⟩ s2):NewW w w3 c s2 l2:=by
 have hsz:=h.sz;have hb2:=hb.size;subst h3;refine ⟨h.b.trans ((hb.mono (by omega)).setCell (by simp;omega) _),?_,?_,?_,?_,?_⟩
 · exact heap_set_ne ((hb.block _ (by omega)).trans h.x0) (by omega)
 · exact heap_set_ne ((hb.block _ (by omega)).trans h.x1) (by omega)
 · exact setCell_block ((hb.block _ (by omega)).trans h.x2)
 · exact ho.kept (fun r hr=>heap_set_ne rfl (by have:=ho.lt hr;omega))
 · simp;omega
theorem new21_any (P:Nat→Prop) (c:Cfg) (k:Nat) (w:World) (hP:∀b,w.heap.size≤b→P b) (hk:(k:Int)=c.st) (hk64:k≤64) :
 Calls Tryz.prog 12 #[cfgV c] w (Wd21Says P w c (newW k)):=by
 have HP:=jH hP;have HK:=jH hk;unfold cfgV;obtain ⟨cs,ca,cl,ch⟩:=c;dsimp only at hk ⊢;subst hk;clear hP
 go_enter Tryz.func12,Tryz.ntmps12
 go_wp2_with fail
 refine name_world ?_;intro W hW;have HAT0:=jH (show NewW w W ⟨(k:Nat),ca,cl,ch⟩ (.slice none 0 0) [] by
  rw [hW];exact ⟨balloc (balloc (balloc jR _) _) _,box3_0 _ _ _ _,box3_1 _ _ _ _,box3_2 _ _ _ _,OwnL.nil _ _,by simp⟩)
 clear hW;go_wp2
 go_loopg [4] k (fun g s4 wr=>∃(i:Nat) (s:Value),i≤k∧k - i≤g∧s4=.int .i64 i∧NewW w wr ⟨(k:Nat),ca,cl,ch⟩ s (List.replicate i srNil))
 case atStart=>exact ⟨0,_,Nat.zero_le _,Nat.le_refl _,rfl,HAT0.out⟩
 case round =>
  obtain ⟨i,s,hi,hg,rfl,hat⟩:=hrel;rename World=>wr
  obtain ⟨A3,c3,rfl⟩:=hat.own.form;have HAT:=jH hat;have HO:=jH hat.own;have hsz:=hat.sz;obtain ⟨a1,a2,a3⟩:=box_cells jR hat.x0;obtain ⟨d1,d2,d3⟩:=box_cells jR hat.x2;dsimp only at a1 d1;clear hat;have HPL:=jH (show (List.replicate i srNil).length=i from List.length_replicate);obtain ⟨m,hm⟩:∃m,m=List.replicate i srNil:=⟨_,rfl⟩;have HM:=jH hm;rw [←hm] at HO HAT HPL d1;clear hm
  by_cases hlt:i<k
  · have z1:(i:Int)<(k:Int):=by omega
    go_wp2_with (at_builtin;refine wpList_appendL eSr (by rfl) (by rfl) (w.heap.size+3) m [srNil] _ _ (by rfl) (by rfl) (HO.out.below (balloc jR _)) (RowIn.lit wr srNil _ _ _ rfl rfl) (by have:=HPL.out;simp;omega) (by simp;omega) ?_;intro out2 A2 c2' w2 hout2 hown2 hg2 _
                 have hb2:Below (w.heap.size+3) wr w2:=(Below.mono (balloc (Below.refl wr.heap.size wr) _) hsz).trans (grown_own hg2 HO.out (by simp;omega));have HOWN:=jH hown2;have HOUT:=jH hout2;have HB4:=jH hb2;obtain ⟨e1,e2,e3⟩:=box_cells jR ((hb2.block (w.heap.size+1+1) (by omega)).trans HAT.out.x2);clear hown2 hout2 hg2 hb2)
    go_roundg (k - (i+1))
    case measure=>omega
    case rel=>exact ⟨i+1,_,hlt,Nat.le_refl _,by go_num,by rw [List.replicate_succ',←HM.out,←HOUT.out];exact HAT.out.put HB4.out HOWN.out rfl⟩
  · obtain rfl:i=k:=by omega
    have z1:¬(i:Int)<(i:Int):=by omega
    have hx1:=HAT.out.x1;obtain ⟨f1,f2,f3⟩:=box_cells jR hx1;go_wp2
    refine post_named ?_;intro W4 hW4;have hW4':W4=stor wr (w.heap.size+1) 0 [.int .i64 i,.int .i64 ca,.int .i64 cl,.int .i64 ch,.slice A3 m.length c3,.slice none 0 0,.int .i64 0,.bool false]:=hW4;obtain ⟨s1,s2,s3,s4⟩:=stor_at hx1 [.int .i64 i,.int .i64 ca,.int .i64 cl,.int .i64 ch,.slice A3 m.length c3,.slice none 0 0,.int .i64 0,.bool false] rfl W4 hW4';obtain ⟨a9,a8,a7⟩:=box_cells jR s1;have hb9:jB w W4:=HAT.out.b.trans (s4 _ (by omega))
    clear hW4 hW4';refine bodyPost_ret (v:=.agg #[.int .i64 i,.int .i64 ca,.int .i64 cl,.int .i64 ch,.slice A3 m.length c3,.slice none 0 0,.int .i64 0,.bool false]) (by simp [results,Tryz.results12,go_sem,a9]) rfl ⟨⟨A3,c3,m,none,0,[],0,false⟩,rfl,⟨?_,?_,⟨RowIn.nil,fun b o m c e hn=>by cases e⟩,fun y hy=>by cases hy⟩,?_,hb9⟩
    · exact ((RowG.own eSr HO.out).keepP (Nat.le_of_eq s3.symm) (fun b hb hlt=>s2 b (by omega))).imp (fun b hb=>HP.out b (by omega))
    · intro y hy
      rw [HM.out] at hy;rw [List.eq_of_mem_replicate hy];exact ⟨⟨RowIn.nil,fun b o m c e hn=>by cases e⟩,fun y hy=>by cases hy⟩
    · rw [HM.out]
      simp [absW,newW,srNil]
end
end Go.Proofs.YtkcdhaallnhhmaaGreat
