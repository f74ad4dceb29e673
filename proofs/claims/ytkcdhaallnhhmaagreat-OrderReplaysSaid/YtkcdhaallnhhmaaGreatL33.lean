/- Part 33 of the proof: FlF, FlN, OrdEq, TrLast, TrRt. -/
import Derived.Test.YtkcdhaallnhhmaaGreatL29
import Derived.Test.YtkcdhaallnhhmaaGreatL31
import Derived.Test.YtkcdhaallnhhmaaGreatL32
namespace Go.Proofs.YtkcdhaallnhhmaaGreat
set_option linter.unusedSimpArgs false
set_option linter.unusedVariables false
set_option linter.unusedSectionVars false
set_option maxRecDepth 100000
set_option maxHeartbeats 16000000
section
open Go.RowKit Go.Lib
theorem flFind_any {P:Nat→Prop} {M:Nat} {c:Cfg} {rs rh n:Nat} {wd:Wd} {d:FlatD} (k:Int) (w:World) (h:FlatAt P w M c rs rh n wd d) (hl:wd.cuts.length≤900000) (hep:∀q∈wd.cuts,0≤q.ep) :
 Calls Tryz.prog 122 #[.pointer (some ⟨M,0,none⟩),.int .i64 k] w fun e w'=>e=.returned (.int .i64 (findT (tabW wd) k))∧w'=w:=by
 obtain ⟨a1,a2,a3⟩:=box_cells jR h.cell;have htl:(tabW wd).length=d.cuts.length:=by rw [h.len];simp [tabW]
 by_cases hk:k<1∨((tabW wd).length:Nat)<k
 · rw [findT_out hk]
   rw [htl] at hk;clear h hl hep htl
   by_cases h1:k<1
   · go_enter Tryz.func122,Tryz.ntmps122
     go_wp2_with fail
     go_ret
     exact ⟨rfl,rfl⟩
   · have h2:(d.cuts.length:Int)<k:=by omega
     clear hk
     go_enter Tryz.func122,Tryz.ntmps122
     go_wp2_with fail
     go_ret
     exact ⟨rfl,rfl⟩
 · obtain ⟨j,hj,rfl⟩:∃j:Nat,j<d.cuts.length∧k=((j+1:Nat):Int):=⟨k.toNat - 1,by omega,by omega⟩
   have hjw:j<wd.cuts.length:=by rw [←h.len];exact hj
   obtain ⟨b,o,hA,hb,hc⟩:=h.row.1.at_ hj;have c2:=hc 2 _ rfl;have hct:=(h.cut j _ _ (List.getElem?_eq_getElem hj) (List.getElem?_eq_getElem hjw)).1;have hr:findT (tabW wd) ((j+1:Nat):Int)=if d.cuts[j].fr=true then 8 else 0:=by
    unfold findT;rw [if_neg (by rw [htl];omega),show ((j+1:Nat):Int).toNat - 1=j by omega];have:(tabW wd)[j]?=some (if wd.cuts[j].freed=true then -1 else wd.cuts[j].ep):=by
     unfold tabW;rw [List.getElem?_map,List.getElem?_eq_getElem hjw];rfl
    rw [this,hct];have:=hep _ (List.getElem_mem hjw)
    cases wd.cuts[j].freed with
    | true=>rfl
    | false =>
      show (if wd.cuts[j].ep<0 then (8:Int) else 0)=_
      rw [if_neg (by omega)];rfl
   rw [hr];generalize d.cuts[j].fr=fr at c2;rw [hA] at a1;have hjm:j≤900000:=by omega
   obtain ⟨cl,hcl⟩:∃n,n=d.cuts.length:=⟨_,rfl⟩;rw [←hcl] at a1;have z1:¬((j:Int)+1)<1:=by omega
   have z2:¬(cl:Int)<((j:Int)+1):=by omega
   have z3:(0:Int)≤(j:Int):=by omega
   have z4:(j:Int)<(cl:Int):=by omega
   have z5:((j:Int)+1) - 1=(j:Int):=by omega
   clear h hl hep htl hk hc hct hr hA hcl hj hjw
   cases fr
   all_goals
     go_enter Tryz.func122,Tryz.ntmps122
     go_wp2_with fail
     go_ret
     exact ⟨rfl,rfl⟩
end
section
open Go.RowKit Go.Lib
theorem eFc:EltOf 95 108 3 24 (.agg #[.int .i64 0,.map none,.bool false]) fcC :=
 ⟨by kernel_rfl,by kernel_rfl,rfl,by decide,by decide,fun _=>rfl,fun x u hu=>by
  simp only [fcC,List.mem_cons,List.not_mem_nil,or_false] at hu
  rcases hu with rfl|rfl|rfl <;> rfl⟩
theorem cloneF_any (v:Value) (l:List FCut) (w:World) (hv:RowIn 3 fcC w v l) (hl:l.length≤1000000) :
 Calls Tryz.prog 50 #[v] w (CloneS fcC 108 3 w l):=by
 obtain ⟨A,c,rfl⟩:=hv.form
 cases A with
 | none =>
   have h0:l.length=0:=by
    obtain ⟨A1,c1,e1,_,hr⟩:=hv;injection e1 with e1 _ _
    rcases Nat.eq_zero_or_pos l.length with h|h
    · exact h
    · obtain ⟨_,_,hA,_⟩:=hr h;rw [hA] at e1;cases e1
   obtain rfl:l=[]:=List.eq_nil_of_length_eq_zero h0;have hq:∀W,(binOp .eql 95 (.slice none 0 c) (.slice none 0 0)).run Tryz.prog W=.ok (.bool true) W:=fun W=>Lib.run_eql_slice_nil W _ _ none 0 c 0 0 eFc.ht
   clear hv h0
   go_enter Tryz.func50,Tryz.ntmps50
   go_wp2
   go_ret
   exact ⟨none,0,[],rfl,SRow.nil _,fun k hk=>by simp at hk,jR⟩
 | some ad =>
   have HV:=jH hv;have hq:∀W,(binOp .eql 95 (.slice (some ad) l.length c) (.slice none 0 0)).run Tryz.prog W=.ok (.bool false) W:=fun W=>Lib.run_eql_slice_nil W _ _ (some ad) l.length c 0 0 eFc.ht
   clear hv
   go_enter Tryz.func50,Tryz.ntmps50
   go_wp2_with (at_builtin;refine wpList_appendL eFc (by rfl) (s:=.tmp 5) (x:=.tmp 6) (by rfl) w.heap.size [] l _ _ (by rfl) (by rfl) (OwnL.lit0 _ w _ _ rfl (Nat.le_refl _)) (HV.out.below (balloc jR _)) (by simp;omega) (by simp) ?_;intro out A2 c2 w2 hout hown hg _;have HOUT:=jH hout;have HO:=jH hown;have HG:=jH hg;clear hout hown hg)
   go_ret
   have e1:out=l:=by rw [HOUT.out];rfl
   subst e1;exact ⟨A2,c2,_,rfl,SRow.of _ HO.out,fun k hk=>(HO.out.lt (by simpa using hk)).1,(balloc jR _).trans (grown_below HG.out (by simp) (fun r hr=>by have hr':some w.heap.size=some r:=hr;injection hr';omega))⟩
section
variable {α:Type} {t e:TypeId} {n bytes:Nat} {z:Value} {f:α→List Value}
theorem run_appendC (E:EltOf t e n bytes z f) (w:World) (ty:TypeId) (l m:List α) (A:Option Addr) (v2:Value)
    (hl:RowIn n f w (.slice A l.length l.length) l) (hm:RowIn n f w v2 m) (hm0:0<m.length) (hlen:l.length+m.length≤100000000) :
    ∃c w',(Builtin.append_ #[t,t] ty #[.slice A l.length l.length,v2]).run Tryz.prog w=.ok (.slice (some ⟨w.heap.size,0,none⟩) (l++m).length c) w'∧OwnL f e n w.heap.size w' (.slice (some ⟨w.heap.size,0,none⟩) (l++m).length c) (l++m)∧jB w w':=by
  obtain ⟨i0,hi0,hz0,hz1,hz2⟩:=info_parts E.hi;have hby:=E.hb;have cells:∀(k:List α) (ad:Addr) (c:Nat),RowIn n f w (.slice (some ad) k.length c) k→∀j u,(cellsOfRow f k)[j]?=some u→w.cell? (ad.add j)=some u:=fun k ad c hr j u hu=>by
   obtain ⟨y,hy,hyu⟩:=cellsOfRow_split E.hn E.len k j u hu;have hml:0<k.length:=Nat.lt_of_le_of_lt (Nat.zero_le _) (List.getElem?_eq_some_iff.1 hy).1;obtain ⟨A2,c2,hv,_,hr⟩:=hr;obtain ⟨b,o',hA,hlt,hat⟩:=hr hml;injection hv with hA2 _ _
   rw [hA] at hA2;injection hA2 with hA2
   subst hA2;have h:=hat (j / n) y hy (j % n) u hyu;rw [add_at,←h];have hd:j / n * n+j % n=j:=by rw [Nat.mul_comm];exact Nat.div_add_mod j n
   rw [Nat.add_assoc,hd]
  obtain ⟨A2,c2,hv2,hc2,hr2⟩:=id hm;subst hv2;obtain ⟨b2,o2,hA2,_,_⟩:=hr2 hm0;subst hA2;have hlen2:(l++m).length=l.length+m.length:=by simp
  have hsm:l.length+m.length≤maxLen:=by simp only [maxLen];omega
  have hbig:(l.length+m.length) * bytes≤140737488355328:=Nat.le_trans (Nat.mul_le_mul (by omega:l.length+m.length≤100000000) hby) (by omega)
  have grown:∀(xs:List Value) (old:Nat),xs=cellsOfRow f l→old<l.length+m.length →
      OwnL f e n w.heap.size (w.drew.alloc (.cells (xs.toArray++(cellsOfRow f m).toArray++Builtin.zeroCells z.cells (grownCap w (l.length+m.length) old e - (l.length+m.length))) e)) (.slice (some ⟨w.heap.size,0,none⟩) (l++m).length (grownCap w (l.length+m.length) old e)) (l++m):=by
    intro xs old hxs ho;have hge:=grownCap_ge w (l.length+m.length) old e;have hcm:grownCap w (l.length+m.length) old e≤maxLen:=grownCap_le_maxLen w (l.length+m.length) old e hsm;have hl1:=cellsOfRow_len E.len l;have hl2:=cellsOfRow_len E.len m;subst hxs;refine ⟨cellsOfRow_len E.len (l++m),.inr ⟨w.heap.size,_,_,rfl,Nat.le_refl _,heap_alloc_new w.drew _,by omega,hcm,?_,?_⟩⟩
    · simp only [Array.size_append,List.size_toArray,size_zeroCells,E.hz,hl1,hl2,←Nat.add_mul]
      congr 1
      omega
    · simp only [Array.toList_append,List.append_assoc]
      rw [←List.append_assoc,←cellsOfRow_append,←cellsOfRow_len E.len (l++m)];exact List.take_left
  rw [hlen2];rw [hlen2] at grown
  cases A with
  | none =>
    have h0:l=[]:=by
     obtain ⟨A3,c3,hv3,_,hr3⟩:=hl
     rcases Nat.eq_zero_or_pos l.length with h|h
     · exact List.eq_nil_of_length_eq_zero h
     · obtain ⟨_,_,hA,_⟩:=hr3 h
       injection hv3 with hv3 _ _
       rw [hA] at hv3
       cases hv3
    subst h0;have hr:=Go.run_append_nil (P:=Tryz.prog) w t ty e i0 z E.ht hi0 hz0 ⟨b2,o2,none⟩ m.length c2 (cellsOfRow f m) (by rw [hz1];exact cellsOfRow_len E.len m) (cells m _ _ hm) hm0 (by simp only [List.length_nil,Nat.zero_add,maxLen] at hsm;omega) (by rw [hz2];simp only [List.length_nil,Nat.zero_add] at hbig;omega);have hg:=grown [] 0 rfl (by simp;omega);simp only [List.length_nil,Nat.zero_add,List.nil_append,Array.empty_append] at hg hr ⊢
    exact ⟨_,_,hr,hg,⟨rfl,rfl,rfl,by simp,fun k hk=>Below.heap_alloc w.drew _ k hk⟩⟩
  | some ad =>
    have hr:=run_append_grow (P:=Tryz.prog) w t ty e i0 z E.ht hi0 hz0 ad l.length l.length (cellsOfRow f l) (by rw [hz1];exact cellsOfRow_len E.len l) (cells l _ _ hl) ⟨b2,o2,none⟩ m.length c2 (cellsOfRow f m) (by rw [hz1];exact cellsOfRow_len E.len m) (cells m _ _ hm) (by omega) (by omega) (by rw [hz2];exact growslice_fits (by omega) hbig);exact ⟨_,_,hr,grown _ _ rfl (by omega),⟨rfl,rfl,rfl,by simp,fun k hk=>Below.heap_alloc w.drew _ k hk⟩⟩
theorem step_appendC (E:EltOf t e n bytes z f) {w:World} {ops:Array Oper} {o:Oper} {a:Act} {K:Act→World→Prop} {Q:Exit→Act→World→Prop} {X:Prop} (hgd:o.guard=none) (s x:Operand)
    (ho:o.op=.call { callee:=.builtin .append,args:=#[s,x],argTypes:=#[t,t] }) (l m:List α) (A:Option Addr) (v2:Value) (hs:a.eval s=.slice A l.length l.length) (hx:a.eval x=v2)
    (hl:RowIn n f w (.slice A l.length l.length) l) (hm:RowIn n f w v2 m) (hm0:0<m.length) (hlen:l.length+m.length≤100000000)
    (h:∀(out:List α) c w',out=l++m→OwnL f e n w.heap.size w' (.slice (some ⟨w.heap.size,0,none⟩) out.length c) out→jB w w'→K (a.put o.dst (.slice (some ⟨w.heap.size,0,none⟩) out.length c)) w') :
    if Region.wanted o (yielded ops a.tmps)=true then Oper.wp Tryz.prog o a w K Q else X:=by
  have hw:Region.wanted o (yielded ops a.tmps)=true:=by simp [Region.wanted,hgd]
  rw [if_pos hw];obtain ⟨c,w',hrun,h2,h3⟩:=run_appendC E w o.type l m A v2 hl hm hm0 hlen;unfold Oper.wp;simp [execOp,ho,resolve,invoke,builtin,hs,hx,hrun,Result.andThen]
  have h6:=h _ c w' rfl h2 h3;rw [List.length_append] at h6;exact h6
end
theorem flMapClone (L:Nat) (es:List (SK × It)) (w:World) (h:MapIn skV ldV w L es) :
 Calls Tryz.prog 49 #[.map (some L)] w fun e w'=>e=.returned (.map (some w.heap.size))∧MapIn skV ldV w' w.heap.size es∧jB w w':=by
 obtain ⟨ents,clock,hb,h2⟩:=h;refine (AnyW.maps_Clone cloneM L ents clock w hb).mono ?_;rintro e w' ⟨rfl,rfl⟩;exact ⟨rfl,⟨ents,clock,heap_alloc_new _ _,h2⟩,balloc jR _⟩
end
section
open Go.RowKit Go.Lib
theorem ite_f {α:Type} (f:Bool→α) (p:Prop) [Decidable p] {A:α} {B:Bool} (h:A=f B):(if p then A else f false)=f (decide p && B):=by
 subst h
 by_cases hp:p
 · simp [hp]
 · simp [hp]
theorem eqRep (a b:RepD) (U:World):(binOp .eql 76 (repV a) (repV b)).run Tryz.prog U=.ok (.bool (sameRep a b)) U:=by
 obtain ⟨a0,a1,a2,⟨a3,a4,a5,a6,a7⟩,⟨a8,a9,a10,a11,a12⟩⟩:=a;obtain ⟨b0,b1,b2,⟨b3,b4,b5,b6,b7⟩,⟨b8,b9,b10,b11,b12⟩⟩:=b;unfold repV repC sameRep;dsimp only;go_simp
 repeat (refine ite_f (fun b=>Result.ok (Value.bool b) U) _ ?_)
 split <;> simp_all
end
section
open Go.RowKit Go.Lib
def isE (kd t n:Int) (e:EvtD):Bool:=decide (e.kind=kd∧e.task=t∧e.nth=n)
def lastE (kd t n:Int) (l:List EvtD):Option EvtD:=l.foldl (fun o e=>if isE kd t n e=true then some e else o) none
def lastP (kd t n:Int) (l:List EvtD):Int × Int:=l.foldl (fun p e=>(if isE kd t n e=true then p.2 else p.1,p.2+1)) (-1,0)
def lastN (kd t n:Int) (l:List EvtD):Int:=(lastP kd t n l).1
theorem lastE_snoc {kd t n:Int} {l:List EvtD} {e:EvtD}:lastE kd t n (l++[e])=if isE kd t n e=true then some e else lastE kd t n l:=by
 unfold lastE;rw [List.foldl_append];rfl
theorem lastP_snoc {kd t n:Int} {l:List EvtD} {e:EvtD}:lastP kd t n (l++[e])=(if isE kd t n e=true then (lastP kd t n l).2 else (lastP kd t n l).1,(lastP kd t n l).2+1):=by
 unfold lastP;rw [List.foldl_append];rfl
theorem lastP_len {kd t n:Int} {l:List EvtD}:(lastP kd t n l).2=(l.length:Nat):=by
 have h:∀(l:List EvtD) (p:Int × Int),(l.foldl (fun p e=>(if isE kd t n e=true then p.2 else p.1,p.2+1)) p).2=p.2+(l.length:Nat):=by
  intro l
  induction l with
  | nil=>intro p;simp
  | cons e l ih=>intro p;rw [List.foldl_cons,ih,List.length_cons];simp only [];omega
 unfold lastP;rw [h];simp
theorem lastN_snoc {kd t n:Int} {l:List EvtD} {e:EvtD}:lastN kd t n (l++[e])=if isE kd t n e=true then (l.length:Int) else lastN kd t n l:=by
 unfold lastN;rw [lastP_snoc,lastP_len]
theorem lastN_specL {kd t n:Int}:∀(m:Nat) (l:List EvtD),l.length=m→(lastN kd t n l = -1∧lastE kd t n l=none)∨∃(j:Nat) (h:j<l.length),lastN kd t n l=j∧lastE kd t n l=some l[j]:=by
 intro m
 induction m with
 | zero =>
   intro l hl;rw [List.length_eq_zero_iff] at hl;subst hl;exact .inl ⟨rfl,rfl⟩
 | succ m ih =>
   intro l hl
   rcases List.eq_nil_or_concat l with h0|⟨L,e,h0⟩
   · subst h0;simp at hl
   · have h0:l=L++[e]:=by simpa using h0
     subst h0;have hL:L.length=m:=by rw [List.length_append] at hl;simp at hl;exact hl
     rw [lastN_snoc,lastE_snoc]
     by_cases h:isE kd t n e=true
     · rw [if_pos h,if_pos h]
       exact .inr ⟨L.length,by simp,rfl,by simp⟩
     · rw [if_neg h,if_neg h]
       rcases ih L hL with ⟨h1,h2⟩|⟨j,hj,h1,h2⟩
       · exact .inl ⟨h1,h2⟩
       · exact .inr ⟨j,by simp;omega,h1,by rw [h2,List.getElem_append_left hj]⟩
theorem lastN_spec {kd t n:Int} (l:List EvtD):(lastN kd t n l = -1∧lastE kd t n l=none)∨∃(j:Nat) (h:j<l.length),lastN kd t n l=j∧lastE kd t n l=some l[j]:=lastN_specL _ l rfl
theorem last30_any (v:Value) (es:List EvtD) (kd t n:Int) (w:World) (he:RowIn 34 evC w v es) (hel:es.length≤100) :
 Calls Tryz.prog 74 #[v,.int .i64 kd,.int .i64 t,.int .i64 n] w fun e w'=>e=.returned (.int .i64 (lastN kd t n es))∧w'=w:=by
 obtain ⟨A,c,rfl,hAc,h0⟩:=id he;clear h0;have HE:=jH he;have q9:(es.length:Int)≤100:=by omega
 clear he hAc hel
 go_enter Tryz.func74,Tryz.ntmps74
 go_wp2_with fail
 go_loopg [9,10] es.length (fun g s9 s10 wr=>∃k:Nat,k≤es.length∧es.length - k≤g∧s9=.int .i64 (lastN kd t n (es.take k))∧s10=.int .i64 k∧wr=w)
 case atStart=>exact ⟨0,Nat.zero_le _,Nat.le_refl _,rfl,rfl,rfl⟩
 case round =>
  obtain ⟨k,hk,hg,rfl,rfl,rfl⟩:=hrel
  by_cases hlt:k<es.length
  · have z1:(k:Int)<(es.length:Int):=by omega
    have z2:(0:Int)≤(k:Int):=by omega
    obtain ⟨b1,o1,rfl,hb1,hc⟩:=HE.out.at_ hlt;have HT2:=jH (show lastN kd t n (es.take (k+1))=if isE kd t n es[k]=true then (k:Int) else lastN kd t n (es.take k) by
     rw [List.take_succ_eq_append_getElem hlt,lastN_snoc,List.length_take,Nat.min_eq_left hk])
    have c0:=hc 0 _ rfl;rw [Nat.add_zero] at c0;have c1:=hc 1 _ rfl;have c2:=hc 2 _ rfl;have HIS:=jH (show isE kd t n es[k]=decide (es[k].kind=kd∧es[k].task=t∧es[k].nth=n) from rfl);generalize lastN kd t n (es.take k)=y at HT2 ⊢;generalize es[k].kind=ek at c0 HIS;generalize es[k].task=et at c1 HIS;generalize es[k].nth=en at c2 HIS;generalize isE kd t n es[k]=is at HT2 HIS;clear hc
    by_cases h1:ek=kd
    · have y1:(ek == kd)=true:=by simpa using h1
      by_cases h2:et=t
      · have y2:(et == t)=true:=by simpa using h2
        by_cases h3:en=n
        · have y3:(en == n)=true:=by simpa using h3
          have HT3:=jH (HT2.out.trans (if_pos (by rw [HIS.out];exact decide_eq_true ⟨h1,h2,h3⟩)));clear h1 h2 h3;go_wp2_with fail
          go_roundg (es.length - (k+1))
          case measure=>omega
          case rel=>exact ⟨k+1,hlt,Nat.le_refl _,by rw [HT3.out],by go_num,rfl⟩
        · have y3:(en == n)=false:=by simpa using h3
          have HT3:=jH (HT2.out.trans (if_neg (by rw [HIS.out];simpa using fun _ _=>h3)));clear h1 h2 h3;go_wp2_with fail
          go_roundg (es.length - (k+1))
          case measure=>omega
          case rel=>exact ⟨k+1,hlt,Nat.le_refl _,by rw [HT3.out],by go_num,rfl⟩
      · have y2:(et == t)=false:=by simpa using h2
        have HT3:=jH (HT2.out.trans (if_neg (by rw [HIS.out];simpa using fun _ h=>absurd h h2)));clear h1 h2;go_wp2_with fail
        go_roundg (es.length - (k+1))
        case measure=>omega
        case rel=>exact ⟨k+1,hlt,Nat.le_refl _,by rw [HT3.out],by go_num,rfl⟩
    · have y1:(ek == kd)=false:=by simpa using h1
      have HT3:=jH (HT2.out.trans (if_neg (by rw [HIS.out];simpa using fun h=>absurd h h1)));clear h1;go_wp2_with fail
      go_roundg (es.length - (k+1))
      case measure=>omega
      case rel=>exact ⟨k+1,hlt,Nat.le_refl _,by rw [HT3.out],by go_num,rfl⟩
  · obtain rfl:k=es.length:=by omega
    have z1:¬(es.length:Int)<(es.length:Int):=by omega
    have HT:=jH (show lastN kd t n (es.take es.length)=lastN kd t n es by rw [List.take_length]);rw [HT.out];go_wp2_with fail
    go_ret
    exact ⟨rfl,rfl⟩
end
section
open Go.RowKit Go.Lib
theorem inE_drop {l:List EvtD} {k:Nat} (hk:k<l.length):inE (l.drop k)=(decide (0≤l[k].task∧l[k].task≤31) && inE (l.drop (k+1))):=by
 rw [List.drop_eq_getElem_cons hk];rfl
theorem rightR_out {l:List EvtD} (h:inE l=false):rightR l=false:=by unfold rightR;rw [h];rfl
theorem rightR_one {l:List EvtD} {t:Nat} (ht:t<32) (h:oneR 0 0 0 0 (ofE (t:Nat) l)=false):rightR l=false:=by
 rw [Bool.eq_false_iff];intro h9;unfold rightR at h9;rw [Bool.and_eq_true,List.all_eq_true] at h9;have:=h9.2 t (List.mem_range.2 ht);rw [h] at this
 cases this
theorem rightR_all {l:List EvtD} (hi:inE l=true) (h:∀t:Nat,t<32→oneR 0 0 0 0 (ofE (t:Nat) l)=true):rightR l=true:=by
 unfold rightR;rw [hi,Bool.true_and,List.all_eq_true];exact fun t ht=>h t (List.mem_range.1 ht)
theorem right30_any (v:Value) (es:List EvtD) (w:World) (he:RowIn 34 evC w v es) (hel:es.length≤100) :
 Calls Tryz.prog 39 #[v] w (jP w (.bool (rightR es))):=by
 have CO:=jH (fun (t:Int) W (hW:jB w W)=>of30_any v es t W (he.below hW) hel);obtain ⟨A,c,rfl,hAc,h0⟩:=id he;clear h0;have HE:=jH he;have q9:(es.length:Int)≤100:=by omega
 have HEL:=jH hel;obtain ⟨ans,hans⟩:∃r,r=rightR es:=⟨_,rfl⟩;rw [←hans];have HANS:=jH hans;clear he hAc hel hans
 go_enter Tryz.func39,Tryz.ntmps39
 go_wp2_with fail
 go_loopg [3] es.length (fun g s3 wr=>∃(k:Nat),k≤es.length∧es.length - k≤g∧s3=.int .i64 k∧Hid (inE es=inE (es.drop k))∧wr=w)
 case atStart=>exact ⟨0,Nat.zero_le _,Nat.le_refl _,rfl,jH rfl,rfl⟩
 case round =>
  obtain ⟨k,hk,hg,rfl,HR,rfl⟩:=hrel;rename World=>wr
  by_cases hlt:k<es.length
  · have z1:(k:Int)<(es.length:Int):=by omega
    have z2:(0:Int)≤(k:Int):=by omega
    obtain ⟨b1,o1,rfl,hb1,hc⟩:=HE.out.at_ hlt;have HRR:=jH (HR.out.trans (inE_drop hlt));clear HR;have c1:=hc 1 _ rfl;generalize es[k].task=tk at c1 HRR;clear hc
    by_cases h1:tk<0
    · have HR2:=jH (show false=ans from by rw [HANS.out,rightR_out (by rw [HRR.out,decide_eq_false (by omega),Bool.false_and])])
      clear HRR;go_wp2_with fail
      go_ret
      exact ⟨by rw [←HR2.out];rfl,jR⟩
    · by_cases h2:31<tk
      · have HR2:=jH (show false=ans from by rw [HANS.out,rightR_out (by rw [HRR.out,decide_eq_false (by omega),Bool.false_and])])
        clear HRR;go_wp2_with fail
        go_ret
        exact ⟨by rw [←HR2.out];rfl,jR⟩
      · have HR2:=jH (show inE es=inE (es.drop (k+1)) from by rw [HRR.out,decide_eq_true (by omega),Bool.true_and])
        clear HRR;go_wp2_with fail
        go_roundg (es.length - (k+1))
        case measure=>omega
        case rel=>exact ⟨k+1,hlt,Nat.le_refl _,by go_num,HR2,rfl⟩
  · obtain rfl:k=es.length:=by omega
    have z1:¬(es.length:Int)<(es.length:Int):=by omega
    have HIN:=jH (show inE es=true from by rw [HR.out,List.drop_length];rfl);clear HR;go_wp2_with fail
    go_loopg [4] 32 (fun g s4 wi=>∃(t:Nat),t≤32∧32 - t≤g∧s4=.int .i64 t∧Hid (∀t':Nat,t'<t→oneR 0 0 0 0 (ofE (t':Nat) es)=true)∧Hid (jB wr wi))
    case atStart=>exact ⟨0,Nat.zero_le _,Nat.le_refl _,rfl,jH (fun t' h=>absurd h (Nat.not_lt_zero _)),jH jR⟩
    case round =>
     obtain ⟨t,ht,hg,rfl,HT,HBi⟩:=hrel;rename World=>wi
     by_cases hlt:t<32
     · have y1:(t:Int)<32:=by omega
       have y2:(0:Int)≤(t:Int):=by omega
       have C1:=jH (CO.out t wi HBi.out);have HLN:=jH (show (ofE (t:Nat) es).length≤100 from Nat.le_trans (ofE_len _ _) HEL.out);have HTT:=jH (show oneR 0 0 0 0 (ofE (t:Nat) es)=false→rightR es=false from rightR_one hlt);have HT2:=jH (show oneR 0 0 0 0 (ofE (t:Nat) es)=true→∀t':Nat,t'<t+1→oneR 0 0 0 0 (ofE (t':Nat) es)=true from fun h9 t' h8=>by
        by_cases h7:t'<t
        · exact HT.out t' h7
        · obtain rfl:t'=t:=by omega
          exact h9)
       generalize ofE (t:Nat) es=ys at C1 HLN HTT HT2;obtain ⟨b,hb⟩:∃r,r=oneR 0 0 0 0 ys:=⟨_,rfl⟩;have C2:=jH (fun v W (hv:RowIn 34 evC W v ys)=>one30_any v ys W hv HLN.out);rw [←hb] at C2 HTT HT2;clear hb HT
       cases b with
       | false =>
         have HR2:=jH (show false=ans from by rw [HANS.out];exact (HTT.out rfl).symm)
         go_wp2_with (first
          | (go_at_call 77
             refine C1.out.mono ?_;rintro e w2 ⟨u,rfl,hu,hb⟩;have HU:=jH (hu.row eEvR);have HB2:=jH (bthen HBi.out hb);clear hu hb)
          | (go_at_call 76
             refine (C2.out _ w2 HU.out).mono ?_;rintro e w3 ⟨rfl,hb⟩;have HB3:=jH (bthen HB2.out hb);clear hb))
         go_ret
         exact ⟨by rw [←HR2.out];rfl,HB3.out⟩
       | true =>
         have HT3:=jH (HT2.out rfl)
         go_wp2_with (first
          | (go_at_call 77
             refine C1.out.mono ?_;rintro e w2 ⟨u,rfl,hu,hb⟩;have HU:=jH (hu.row eEvR);have HB2:=jH (bthen HBi.out hb);clear hu hb)
          | (go_at_call 76
             refine (C2.out _ w2 HU.out).mono ?_;rintro e w3 ⟨rfl,hb⟩;have HB3:=jH (bthen HB2.out hb);clear hb))
         go_roundg (32 - (t+1))
         case measure=>omega
         case rel=>exact ⟨t+1,hlt,Nat.le_refl _,by go_num,HT3,HB3⟩
     · obtain rfl:t=32:=by omega
       have HR2:=jH (show true=ans from by rw [HANS.out];exact (rightR_all HIN.out HT.out).symm);go_wp2_with fail
       go_ret
       exact ⟨by rw [←HR2.out];rfl,HBi.out⟩
end
end Go.Proofs.YtkcdhaallnhhmaaGreat
