/- Part 42 of the proof: FlDf, FlTr. -/
import Derived.Test.YtkcdhaallnhhmaaGreatQ29
import Derived.Test.YtkcdhaallnhhmaaGreatQ36
namespace Go.Proofs.YtkcdhaallnhhmaaGreat
set_option linter.unusedSimpArgs false
set_option linter.unusedVariables false
set_option linter.unusedSectionVars false
set_option maxRecDepth 100000
set_option maxHeartbeats 16000000
section
open Go.RowKit Go.Lib
def cutV (B:Nat):Value:=.func (.func 119) #[] #[.pointer (some ⟨B,0,none⟩)]
theorem trimFn_any (a b cut:Int) (B:Nat) (w:World) (hB:∀U,jB w U→U.cell? ⟨B,0,none⟩=some (.int .i64 cut)) :
 Calls Tryz.prog 119 #[.agg #[.int .i64 a,.int .i64 b],.pointer (some ⟨B,0,none⟩)] w (jP w (.bool (decide (a<cut)))):=by
 have q:=hB (w.alloc (.cells #[.int .i64 a,.int .i64 b] 118)) (balloc jR _);clear hB
 go_enter Tryz.func119,Tryz.ntmps119
 go_wp2_with fail
 go_ret
 exact ⟨rfl,balloc jR _⟩
theorem idxF_any (A:Option Addr) (c:Nat) (l:List Smp) (cut:Int) (B:Nat) (w:World) (hv:RowIn 2 smpC w (.slice A l.length c) l) (hr:risingS l) (hl:l.length≤1000000) (hB:∀U,jB w U→U.cell? ⟨B,0,none⟩=some (.int .i64 cut)) :
 Calls Tryz.prog 166 #[.slice A l.length c,cutV B] w (jP w (.int .i64 (if placeS l cut=0 then -1 else 0))):=by
 have HV:=jH hv;have HB:=jH hB;have HPL:=jH (placeS_lt hr cut);have HPE:=jH (placeS_le l cut);obtain ⟨p,hp⟩:∃p,p=placeS l cut:=⟨_,rfl⟩;rw [←hp] at HPL HPE ⊢;obtain ⟨r,hrr⟩:∃r:Int,r=if p=0 then -1 else 0:=⟨_,rfl⟩;rw [←hrr];have HR:=jH hrr;clear hv hr hB hp hrr;unfold cutV
 go_enter Tryz.func166,Tryz.ntmps166
 go_wp2_with fail
 go_loopg [5,8] l.length (fun g _ s8 wr=>∃k:Nat,k≤l.length∧l.length - k≤g∧s8=.int .i64 k∧jB w wr∧Hid (p=0∨k=0))
 case atStart=>exact ⟨0,Nat.zero_le _,Nat.le_refl _,rfl,jR,jH (.inr rfl)⟩
 case round =>
  obtain ⟨k,hk,hg,rfl,hbr,HK⟩:=hrel;have HBR:=jH hbr;clear hbr
  by_cases hlt:k<l.length
  · obtain ⟨b,o,rfl,hb,hc⟩:=HV.out.at_ hlt
    have c0:wr.cell? ⟨b,o+k * 2,none⟩=some (.int .i64 l[k].1):=(HBR.out.cell (p:=⟨b,_,none⟩) hb).trans (hc 0 _ rfl);have c1:wr.cell? ⟨b,o+k * 2+1,none⟩=some (.int .i64 l[k].2):=(HBR.out.cell (p:=⟨b,_,none⟩) hb).trans (hc 1 _ rfl);have HX:=jH (HPL.out k hlt);clear hc hb;generalize l[k]=x at c0 c1 HX;have HF:=jH (trimFn_any x.1 x.2 cut B wr (fun U hU=>HB.out U (bthen HBR.out hU)))
    by_cases hx:x.1<cut
    · have hx0:p≠0∧k=0:=by
       have h1:=HX.out.2 hx
       rcases HK.out with h|h
       · omega
       · exact ⟨by omega,h⟩
      have HZ:=jH hx0;clear hx0
      go_wp2_with (first
       | (go_at_call 119
          refine HF.out.mono ?_;rintro e w2 ⟨rfl,hb2⟩;have HB2:=jH (bthen HBR.out hb2);clear hb2))
      go_ret
      exact ⟨by rw [HR.out,if_neg HZ.out.1,HZ.out.2];rfl,HB2.out⟩
    · have hp0:p=0:=by
       have h1:=mt HX.out.1 hx
       rcases HK.out with h|h
       · exact h
       · omega
      have HZ:=jH hp0;clear hp0
      go_wp2_with (first
       | (go_at_call 119
          refine HF.out.mono ?_;rintro e w2 ⟨rfl,hb2⟩;have HB2:=jH (bthen HBR.out hb2);clear hb2))
      go_roundg (l.length - (k+1))
      case measure=>omega
      case rel=>exact ⟨k+1,hlt,Nat.le_refl _,by go_num,HB2.out,jH (.inl HZ.out)⟩
  · have hp0:p=0∨l.length=0:=by
     rcases HK.out with h|h
     · exact .inl h
     · exact .inr (by omega)
    have hp1:p=0:=by
     rcases hp0 with h|h
     · exact h
     · have:=HPE.out;omega
    have HZ:=jH hp1;clear hp0 hp1;go_wp2_with fail
    go_ret
    exact ⟨by rw [HR.out,if_pos HZ.out];rfl,HBR.out⟩
theorem drop_get {l m:List Smp} {j:Nat} (h:m.drop j=l.drop j) (hl:m.length=l.length) (hj:j<l.length):m[j]'(by omega)=l[j]:=by
 have h1:=congrArg (fun q:List Smp=>q[0]?) h;simp only [List.getElem?_drop,Nat.add_zero] at h1
 rw [List.getElem?_eq_getElem (by omega),List.getElem?_eq_getElem hj] at h1;injection h1
theorem delF_any (base:Nat) (v:Value) (l:List Smp) (cut:Int) (B:Nat) (w:World) (h:OwnL smpC 118 2 base w v l) (hr:risingS l) (hl:l.length≤1000000) (hB:∀U,w.grownBy U v.ownBlock→U.cell? ⟨B,0,none⟩=some (.int .i64 cut)) :
 Calls Tryz.prog 118 #[v,cutV B] w (RowSays base w v (l.drop (placeS l cut))):=by
 obtain ⟨A,c,rfl⟩:=h.form;have hcl:l.length≤c:=by obtain ⟨_,_,hv,hc,_⟩:=h.row eSmp;injection hv with _ _ e3;omega
 have CI:=jH (idxF_any A c l cut B w (h.row eSmp) hr hl (fun U hU=>hB U (grownBy_below hU)));have HPL:=jH (placeS_lt hr cut);have HPE:=jH (placeS_le l cut);obtain ⟨p,hp⟩:∃p,p=placeS l cut:=⟨_,rfl⟩;rw [←hp] at HPL HPE CI ⊢;have HOW:=jH h;have HB:=jH hB
 by_cases hp0:p=0
 · rw [if_pos hp0] at CI
   subst hp0;clear h hr hp hB;unfold cutV at CI ⊢
   go_enter Tryz.func118,Tryz.ntmps118
   go_wp2_with (first
    | (go_at_call 166
       refine CI.out.mono ?_;rintro e w2 ⟨rfl,hb2⟩;have HB2:=jH hb2;clear hb2))
   go_ret
   exact ⟨A,c,rfl,HOW.out.below HB2.out,grownBy_below HB2.out,.inl rfl⟩
 · rw [if_neg hp0] at CI
   rcases Go.Joins.ownsRow_forms h with ⟨hn,hz⟩|⟨g,c2,hn⟩
   · have:=HPE.out;omega
   injection hn with hA _ hc2
   subst hA;subst hc2;have hcm:c≤9223372036854775807:=by obtain ⟨_,_,_,_,hc,_⟩:=own_open h;exact hc
   obtain ⟨i0,hi0,hz0,hz1,hz2⟩:=info_parts eSmp.hi;have HP0:=jH hp0;have hps:1≤l.length:=by have:=HPE.out;omega
   have HI0:=jH (And.intro hi0 hz0);clear h hr hp hB hp0 hi0 hz0 hz1 hz2;unfold cutV at CI ⊢
   go_enter Tryz.func118,Tryz.ntmps118
   go_wp2_with (first
    | (go_at_call 166
       refine CI.out.mono ?_;rintro e w2 ⟨rfl,hb2⟩;have HB2:=jH hb2;clear hb2))
   go_loopg [5,6,7] l.length (fun q s5 s6 _ wr=>∃(j i:Nat) (m:List Smp),1≤j∧j≤l.length∧l.length - j≤q∧s5=.int .i64 i∧s6=.int .i64 j∧Hid (i=j - p)∧m.length=l.length∧OwnL smpC 118 2 base wr (.slice (some ⟨g,0,none⟩) m.length c) m∧Hid (m.drop j=l.drop j)∧Hid (m.take i=(l.drop p).take i)∧w.grownBy wr (some g))
   case atStart=>exact ⟨1,0,l,Nat.le_refl _,hps,by omega,rfl,rfl,jH (by have:=HP0.out;omega),rfl,HOW.out.below HB2.out,jH rfl,jH rfl,grownBy_below HB2.out⟩
   case round =>
    obtain ⟨j,i,m,hj1,hj,hg,rfl,rfl,HI,hml,hown,HD,HT,hgr⟩:=hrel;rename World=>wr
    have HO:=jH hown;have HG:=jH hgr;have HML:=jH hml;have hij:i≤j:=by have:=HI.out;omega
    clear hown hgr
    by_cases hlt:j<l.length
    · have hmj:j<m.length:=by omega
      obtain ⟨b,o,hbo,hb,hc⟩:=(HO.out.row eSmp).at_ hmj;injection hbo with hbo
      injection hbo with hb1 ho1 _
      subst hb1;subst ho1;have hget:=drop_get HD.out hml hlt;have c0:wr.cell? ⟨g,j * 2,none⟩=some (.int .i64 l[j].1):=by rw [←hget];have:=hc 0 _ rfl;simpa using this
      have c1:wr.cell? ⟨g,j * 2+1,none⟩=some (.int .i64 l[j].2):=by rw [←hget];have:=hc 1 _ rfl;simpa using this
      have HX:=jH (HPL.out j hlt);have HNX:=jH (show p≤j→(l.drop p).take (j - p+1)=(l.drop p).take (j - p)++[l[j]] from fun hpj=>by
       rw [List.take_succ_eq_append_getElem (by simp;omega)]
       congr 2
       rw [List.getElem_drop]
       congr 1
       omega)
      have HF:=jH (fun (W:World) (hW:jB wr W)=>trimFn_any l[j].1 l[j].2 cut B W (fun U hU=>HB.out U (grownBy_trans HG.out (grownBy_below (bthen hW hU)))));obtain ⟨x,hx0⟩:∃x,x=l[j]:=⟨_,rfl⟩;rw [←hx0] at c0 c1 HX HNX HF;clear hc hb hget hx0;have hgl:g<wr.heap.size:=(HO.out.lt rfl).2
      by_cases hx:x.1<cut
      · rw [decide_eq_true hx] at HF
        have hi0:i=0:=by have h1:=HX.out.2 hx;have:=HI.out;omega
        have HI1:=jH (show i=j+1 - p by have h1:=HX.out.2 hx;have:=HI.out;omega);clear hi0
        go_wp2_with (first
         | (go_at_call 119
            refine calls_named ?_;intro W2 hW2;have hb2:jB wr W2:=by rw [hW2];exact balloc jR _
            clear hW2;refine (HF.out W2 hb2).mono ?_;rintro e w4 ⟨rfl,hb4⟩;have HB4:=jH (bthen hb2 hb4);clear hb2 hb4))
        go_roundg (l.length - (j+1))
        case measure=>omega
        case rel=>exact ⟨j+1,i,m,by omega,hlt,Nat.le_refl _,rfl,by go_num,HI1,HML.out,HO.out.below HB4.out,jH (by have:=congrArg (List.drop 1) HD.out;simpa [List.drop_drop,Nat.add_comm] using this),HT,grownBy_trans HG.out (grownBy_below HB4.out)⟩
      · rw [decide_eq_false hx] at HF
        have hpj:p≤j:=by have h1:=mt HX.out.1 hx;omega
        have HPJ:=jH hpj;have him:i<m.length:=by have:=HI.out;have:=HP0.out;omega
        have hiz:(0:Int)≤(i:Int):=by omega
        have hil:(i:Int)<(l.length:Int):=by omega
        have HIM:=jH him;obtain ⟨cur,hcur,_,hmc,_,hcs,_⟩:=own_open HO.out;have e0:wr.cell? ⟨g,i * 2,none⟩=some (cur[i * 2]'(by omega)):=((box_cells jR hcur).1 (i * 2)).trans (Array.getElem?_eq_getElem (by omega));have e1:wr.cell? ⟨g,i * 2+1,none⟩=some (cur[i * 2+1]'(by omega)):=((box_cells jR hcur).1 (i * 2+1)).trans (Array.getElem?_eq_getElem (by omega));generalize cur[i * 2]'(by omega)=d0 at e0;generalize cur[i * 2+1]'(by omega)=d1 at e1
        have HCU:=jH hcur;have HE0:=jH (And.intro e0 e1);clear hpj him hcur e0 e1 hmc hcs
        go_wp2_with (first
         | (go_at_call 119
            refine calls_named ?_;intro W2 hW2;have hb2:jB wr W2:=by rw [hW2];exact balloc jR _
            have hv2:W2.heap[wr.heap.size]?=some (.cells #[.int .i64 x.1,.int .i64 x.2] 118 (0,0)):=by rw [hW2];exact heap_alloc_new _ _
            clear hW2;refine (HF.out W2 hb2).mono ?_;rintro e w4 ⟨rfl,hb4⟩;have HB4:=jH (bthen hb2 hb4);obtain ⟨v1,v2,v3⟩:=box_cells hb4 hv2;have e0:=(HB4.out.cell (p:=⟨g,i * 2,none⟩) hgl).trans HE0.out.1;have e1:=(HB4.out.cell (p:=⟨g,i * 2+1,none⟩) hgl).trans HE0.out.2;obtain ⟨u1,u2,u3⟩:=box_cells HB4.out HCU.out;clear hb2 hb4 hv2 u1))
        have HOS:=jH (own_set (HO.out.below HB4.out) i HIM.out x)
        go_roundg (l.length - (j+1))
        case measure=>omega
        case rel=>exact ⟨j+1,i+1,m.set i x,by omega,hlt,Nat.le_refl _,by go_num,by go_num,jH (by have:=HI.out;have:=HPJ.out;omega),by rw [List.length_set];exact HML.out,by rw [List.length_set];exact HOS.out.1,jH (by
                     rw [List.drop_set_of_lt (by omega)];have:=congrArg (List.drop 1) HD.out
                     simpa [List.drop_drop,Nat.add_comm] using this),jH (by
                     have h1:=HNX.out HPJ.out;rw [←HI.out] at h1;rw [h1,←HT.out,List.take_succ_eq_append_getElem (by rw [List.length_set];exact HIM.out),List.take_set_of_le (Nat.le_refl _),List.getElem_set_self]),grownBy_trans (grownBy_trans HG.out (grownBy_below HB4.out)) HOS.out.2⟩
    · obtain rfl:j=l.length:=by omega
      have hil:i+p=l.length:=by have:=HI.out;have:=HPE.out;omega
      have htk:m.take i=l.drop p:=by rw [HT.out];exact List.take_of_length_le (by simp;omega)
      have hdl:(l.drop p).length=i:=by simp;omega
      obtain ⟨cur,hG1,h1,h3,h4,h5,h6⟩:=own_open HO.out;have hip:i<l.length:=by have:=HP0.out;omega
      have hzc:(Builtin.zeroCells (Value.agg #[.int .i64 0,.int .i64 0]).cells (l.length - i)).size=(l.length - i) * 2:=by
       rw [size_zeroCells];rfl
      obtain ⟨W2,hW2⟩:∃W2,W2=wr.setRow g (cur.toList.take (i * 2)++(Builtin.zeroCells (Value.agg #[.int .i64 0,.int .i64 0]).cells (l.length - i)).toList++cur.toList.drop (i * 2+(Builtin.zeroCells (Value.agg #[.int .i64 0,.int .i64 0]).cells (l.length - i)).toList.length)).toArray:=⟨_,rfl⟩;have hclr:∀ty dc,(Builtin.clear_ #[43] ty #[.slice (some ⟨g,i * 2,none⟩) (l.length - i) dc]).run Tryz.prog wr=.ok (.tuple #[]) W2:=fun ty dc=>by
       rw [hW2];exact run_clearN wr 43 118 ty _ eSmp.ht (fun w=>by simp [zeroValue,typeInfo,HI0.out.1,HI0.out.2]) (fun u hu=>by simp [Value.cells] at hu;rcases hu with rfl|rfl <;> rfl) g _ _ dc cur _ (by omega) hG1 (by rw [hzc,h5];omega)
      have HFIN:RowSays base w (.slice (some ⟨g,0,none⟩) l.length c) (l.drop p) (.returned (.slice (some ⟨g,0,none⟩) i c)) W2:=by
       refine ⟨some ⟨g,0,none⟩,c,by rw [hdl],?_,?_,.inl rfl⟩
       · have hcl2:cur.toList.length=c * 2:=by simpa using h5
         have hzl:(Builtin.zeroCells (Value.agg #[.int .i64 0,.int .i64 0]).cells (l.length - i)).toList.length=(l.length - i) * 2:=by simpa using hzc
         refine own_close (cur:=(cur.toList.take (i * 2)++(Builtin.zeroCells (Value.agg #[.int .i64 0,.int .i64 0]).cells (l.length - i)).toList++cur.toList.drop (i * 2+(Builtin.zeroCells (Value.agg #[.int .i64 0,.int .i64 0]).cells (l.length - i)).toList.length)).toArray) ?_ h1 (by omega) h4 ?_ ?_
         · rw [hW2];exact setRow_heap wr g _ _ _ _ hG1
         · simp only [List.size_toArray,List.length_append,List.length_take,List.length_drop,hcl2,hzl];omega
         · show List.take _ (_++_++_)=_
           rw [hdl,List.append_assoc,List.take_append_of_le_length (by rw [List.length_take,hcl2];omega),List.take_take,Nat.min_self,←htk,smpRow_take,←h6,List.take_take,Nat.min_eq_left (by omega)]
       · rw [hW2]
         exact grownBy_trans HG.out (grown_setRow _ _ _)
      have HF:=jH HFIN;have hi0:(0:Int)≤(i:Int):=by omega
      have hi2:(i:Int)≤(l.length:Int):=by omega
      have hi3:i≤l.length:=by omega
      have hi4:i≤c:=by omega
      have hi5:(i:Int)≤(c:Int):=by omega
      have hne:¬c=i:=by omega
      have hc0:¬c=0:=by omega
      clear HFIN hW2 hzc h6 h5 hG1 h1 h3 h4 htk hdl hil;go_wp2_with fail
      go_ret
      exact HF.out
end
section
open Go.RowKit Go.Lib
open Go.ChangeMaps (setBlock)
theorem mem_idsF {es:List (SK × It)} {b:ByteArray}:b∈idsF es ↔ ∃p∈es,p.1.1=b:=by
 unfold idsF bytesK;rw [List.mem_map]
 constructor
 · rintro ⟨x,hx,rfl⟩
   obtain ⟨p,hp,rfl⟩:=List.mem_map.1 (List.mem_mergeSort.1 hx);exact ⟨p,hp,by cases p.1.1;simp⟩
 · rintro ⟨p,hp,rfl⟩
   exact ⟨p.1.1.data.toList,List.mem_mergeSort.2 (List.mem_map.2 ⟨p,hp,rfl⟩),by cases p.1.1;simp⟩
theorem idsF_nodup {es:List (SK × It)} (h:(es.map (·.1)).Nodup):(idsF es).Nodup:=by
 unfold idsF;have h1:(bytesK es).Nodup:=by
  unfold bytesK;have e:(es.map fun p=>p.1.1.data.toList)=(es.map (·.1)).map fun s=>s.1.data.toList:=by rw [List.map_map];rfl
  rw [e];exact List.pairwise_map.2 (h.imp (fun hne e=>hne (Subtype.ext (ByteArray.ext (Array.toList_inj.1 e)))))
 have h2:=(List.mergeSort_perm (bytesK es) fun x y=>decide (x≤y)).nodup_iff.2 h1;exact List.pairwise_map.2 (h2.imp (fun hne e=>hne (by have:=congrArg (fun b:ByteArray=>b.data.toList) e;simpa using this)))
theorem not_taken {α:Type} {l:List α} (h:l.Nodup) {k:Nat} (hk:k<l.length):l[k]∉l.take k:=by
 have h1:(l.take (k+1)).Nodup:=h.sublist (List.take_sublist _ _);rw [List.take_succ_eq_append_getElem hk,List.nodup_append] at h1;exact fun hm=>h1.2.2 _ hm _ (List.mem_singleton.2 rfl) rfl
theorem findM_self {es:List (SK × It)} (hn:(es.map (·.1)).Nodup) {p:SK × It} (hp:p∈es):findM es p.1=some p.2:=by
 have hh:hasM es p.1=true:=(hasM_iff _ _).2 (List.mem_map.2 ⟨p,hp,rfl⟩);obtain ⟨v,hv,hm⟩:=findM_some hh;obtain ⟨i,hi⟩:=List.getElem?_of_mem hp;obtain ⟨j,hj⟩:=List.getElem?_of_mem hm;have e:i=j:=nodup_inj hn (x:=p.1) (by simp [hi]) (by simp [hj]);subst e;rw [hi] at hj;injection hj with hj
 rw [hv,hj]
def Trimmed (cut:Int) (es es':List (SK × It)) (ids:List ByteArray):Prop :=
 es'.map (·.1)=es.map (·.1)∧∀s x,findM es s=some x→∃x',findM es' s=some x'∧(s.1∈ids→x'.nd=trimF cut x.nd)∧(s.1∉ids→x'.nd=x.nd)
theorem Trimmed.start (cut:Int) (es:List (SK × It)):Trimmed cut es es []:=⟨rfl,fun s x h=>⟨x,h,(fun h=>by cases h),fun _=>rfl⟩⟩
theorem Trimmed.step {cut:Int} {es es':List (SK × It)} {ids:List ByteArray} (h:Trimmed cut es es' ids) {s:SK} {x x'':It} (hf:findM es s=some x) (hx:x''.nd=trimF cut x.nd):Trimmed cut es (putM es' s x'') (ids++[s.1]):=by
 have hh:hasM es' s=true:=by
  obtain ⟨x',hx',_⟩:=h.2 s x hf;exact (hasM_iff _ _).2 (List.mem_map.2 ⟨_,find_mem hx',rfl⟩)
 refine ⟨by rw [keys_putM,if_pos hh];exact h.1,fun t y hy=>?_⟩;rw [find_putM]
 by_cases e:t=s
 · subst e
   rw [if_pos rfl];rw [hf] at hy;injection hy with hy
   subst hy;exact ⟨x'',rfl,fun _=>hx,fun hn=>absurd (by simp) hn⟩
 · rw [if_neg e]
   obtain ⟨x',hx',hnd1,hnd2⟩:=h.2 t y hy;have hne:t.1≠s.1:=fun e2=>e (Subtype.ext e2)
   exact ⟨x',hx',fun hm=>hnd1 ((List.mem_append.1 hm).elim id (fun h9=>absurd (List.mem_singleton.1 h9) hne)),fun hm=>hnd2 (fun h9=>hm (List.mem_append.2 (.inl h9)))⟩
theorem flTrim_bad (M:Nat) (tick:Int) (w:World) (ht:tick<0) :
 Calls Tryz.prog 80 #[.pointer (some ⟨M,0,none⟩),.int .i64 tick] w (jP w (repV (repF 3))):=by
 go_enter Tryz.func80,Tryz.ntmps80
 go_upto_region 1 with fail
 refine name_world ?_;intro W1 hW1;obtain ⟨HB1,HX0,HX1⟩:=boxesF w _ _ W1 hW1;clear hW1;obtain ⟨b1,b2,b3⟩:=box_cells jR HX0.out;obtain ⟨y1,y2,y3⟩:=box_cells jR HX1.out;go_wp2_with fail
 refine post_named ?_;intro W9 hW9;have hW9':W9=stor W1 (w.heap.size+1) 0 (repC (repF 3)):=hW9;obtain ⟨t1,t2,t3,t4⟩:=stor_at HX1.out (repC (repF 3)) rfl W9 hW9';obtain ⟨a9,a8,a7⟩:=box_cells jR t1;clear hW9 hW9';exact bodyPost_ret (v:=repV (repF 3)) (by simp [results,Tryz.results80,go_sem,a9,repV,repC,repF,st0,adv0]) rfl ⟨rfl,HB1.out.trans (t4 _ (Nat.le_succ _))⟩
structure TrAt (P:Nat→Prop) (w wr:World) (M:Nat) (c:Cfg) (wd:Wd) (d:FlatD) (tick:Int) (k:Nat) (es:List (SK × It)):Prop where
 mem:FlMem (fun b=>P b∧b≠w.heap.size+1) wr M c wd { d with es:=es }
 tr:Trimmed tick d.es es ((idsF d.es).take k)
 upd:Upd w wr [M,d.L] [M,d.L]
 bt:wr.heap[w.heap.size]?=some (.cells #[.int .i64 tick] 2 (0,0))
 br:wr.heap[w.heap.size+1]?=some (.cells #[.int .i64 0,.int .i64 0,.int .i64 0,.int .i64 0,.int .i64 0,.int .i64 0,.int .i64 0,.int .i64 0,.int .i64 0,.int .i64 0,.int .i64 0,.int .i64 0,.int .i64 0] 76 (0,0))
 row:∃A cc,OwnL idC 9 1 (w.heap.size+2) wr (.slice A (idsF d.es).length cc) (idsF d.es)
theorem flTrim_ok {P:Nat→Prop} {w:World} {M:Nat} {c:Cfg} {rs rh n:Nat} {wd:Wd} {d:FlatD} (tick:Int) (h:FW P w M c rs rh n wd d) (hP:∀b,w.heap.size≤b→P b) (hc:CfgOk c rs rh) (ht:¬tick<0) :
 Calls Tryz.prog 80 #[.pointer (some ⟨M,0,none⟩),.int .i64 tick] w (FWSays P w M c rs rh (n+1) d.L (repV (repF 0)) (trimW wd tick)):=by
 have hes:=h.many hc;have hav:=h.avoidX (X:=w.heap.size+1) (Nat.le_succ _) jR;have CI:=jH (fun W (hW:jB w W)=>flIds_any W (h.at_.toFlMem.below hW) hes);have HIT:=jH (show ∀p∈d.es,risingS p.2.nd.smp∧p.2.nd.smp.length≤256 from fun p hp=>by
  have h1:=h.at_.tells.it h.ok p hp;have h2:=h1.1.len;have h3:=hc.room.r2;exact ⟨h1.1.ris,by omega⟩)
 have HMEM:=jH (show ∀W,jB w W→FlMem (fun b=>P b∧b≠w.heap.size+1) W M c wd d from fun W hW=>hav.at_.toFlMem.below hW);have HLT:=jH (And.intro h.at_.lt h.at_.map.lt);have HND:=jH (idsF_nodup h.at_.tells.nod);have HNO:=jH h.at_.tells.nod;have HNE:=jH h.at_.ne;have HPN:=jH hP;have hil:(idsF d.es).length≤1000000:=by unfold idsF bytesK;rw [List.length_map,List.length_mergeSort,List.length_map];exact hes
 have HEND:=jH (show ∀(W8 W9:World) (es:List (SK × It)),FlMem (fun b=>P b∧b≠w.heap.size+1) W8 M c wd { d with es:=es }→Trimmed tick d.es es (idsF d.es)→Upd w W8 [M,d.L] [M,d.L]→(∀k,k≠w.heap.size+1→W9.heap[k]?=W8.heap[k]?)→W9.heap.size=W8.heap.size→(∀n,n≤w.heap.size+1→Below n W8 W9) →
     FWSays P w M c rs rh (n+1) d.L (repV (repF 0)) (trimW wd tick) (.returned (repV (repF 0))) W9 from fun W8 W9 es h1 h2 h3 h4 h5 h6=>by
   have ht:FlTells c es (trimW wd tick):=h.at_.tells.trim tick h2.1 (fun s x hf=>by
    obtain ⟨x',hx',hnd,_⟩:=h2.2 s x hf;exact ⟨x',hx',hnd (mem_idsF.2 ⟨_,find_mem hf,rfl⟩)⟩)
   have hfw:FW (fun b=>P b∧b≠w.heap.size+1) W8 M c rs rh (n+1) (trimW wd tick) { d with es:=es }:=⟨⟨h1.wd rfl rfl rfl,ht⟩,trimW_ok h.ok⟩;have h9:=hfw.fin h.at_.off h3 (Nat.le_succ _) h.at_.lt h.at_.map.lt h4 h5 h6;exact ⟨_,rfl,h9.1,rfl,h9.2⟩)
 clear h hP hc hav hes
 go_enter Tryz.func80,Tryz.ntmps80
 go_upto_region 1 with fail
 refine name_world ?_;intro W1 hW1;obtain ⟨HB1,HX0,HX1⟩:=boxesF w _ _ W1 hW1;have HS1:=jH (show W1.heap.size=w.heap.size+2 by rw [hW1];simp);clear hW1;obtain ⟨b1,b2,b3⟩:=box_cells jR HX0.out;obtain ⟨y1,y2,y3⟩:=box_cells jR HX1.out;obtain ⟨il,hill⟩:∃n,n=(idsF d.es).length:=⟨_,rfl⟩;rw [←hill] at hil;have HILL:=jH hill;clear hill
 go_wp2_with (first
  | (go_at_call 51
     refine (CI.out W1 HB1.out).mono ?_;rintro e w2 ⟨A2,c2,rfl,ho2,hb2⟩;rw [←HILL.out];obtain ⟨HB2,HX02,HX12⟩:=keepHF hb2 HB1 HX0 HX1;have HO2:=jH ho2;clear ho2 hb2 b1 b2 b3 y1 y2 y3))
 have HAT:=jH (show TrAt P w w2 M c wd d tick 0 d.es from ⟨HMEM.out w2 HB2.out,Trimmed.start _ _,Upd.of_below HB2.out _,HX02.out,HX12.out,⟨A2,c2,by have h9:=HO2.out;rw [HS1.out] at h9;exact h9⟩⟩)
 go_loopg [6,7,14] il (fun g _ _ s14 wr=>∃(k:Nat) (es:List (SK × It)),k≤il∧il - k≤g∧s14=.int .i64 k∧TrAt P w wr M c wd d tick k es∧OwnL idC 9 1 (w.heap.size+2) wr (.slice A2 (idsF d.es).length c2) (idsF d.es))
 case atStart=>exact ⟨0,d.es,Nat.zero_le _,Nat.le_refl _,rfl,HAT.out,by have h9:=HO2.out;rw [HS1.out] at h9;exact h9⟩
 case round =>
  obtain ⟨k,es,hk,hg,rfl,hat,hown⟩:=hrel;rename World=>wr
  have HA:=jH hat;have HO:=jH hown;clear hat hown
  by_cases hlt:k<il
  · have hlt2:k<(idsF d.es).length:=by rw [←HILL.out];exact hlt
    obtain ⟨b,o,rfl,hb,hcc⟩:=(HO.out.row eId).at_ hlt2;obtain ⟨p,hp,hpk⟩:=mem_idsF.1 (List.getElem_mem hlt2);have c0:=hcc 0 _ rfl;rw [←hpk,Nat.mul_one,Nat.add_zero] at c0;have hnt:=not_taken HND.out hlt2;rw [←hpk] at hnt;have htk:(idsF d.es).take (k+1)=(idsF d.es).take k++[p.1.1]:=by rw [List.take_succ_eq_append_getElem hlt2,hpk]
    have hpf:=findM_self HNO.out hp;have hit:=HIT.out p hp;obtain ⟨⟨sv,hsv⟩,p2⟩:=p;dsimp only at c0 hnt htk hpf hit;obtain ⟨x,hx,_,hnd⟩:=HA.out.tr.2 _ _ hpf;have hxn:=hnd hnt;rw [←hxn] at hit;have HHT:=jH hit;have HHX:=jH hx;have HPF:=jH hpf;have HXN:=jH hxn;have HTK:=jH htk;have q0:=fl_look HA.out.mem.map ⟨sv,hsv⟩ false (W:=wr) rfl;rw [hx] at q0;unfold ldV ldC at q0;simp only [Bool.false_eq_true,↓reduceIte,Option.getD_some] at q0
    have hrow:=HA.out.mem.rows _ (find_mem hx);have HRW:=jH hrow;have CC:=jH (fun W (hW:jB wr W)=>cloneS_any (.slice x.sA x.nd.smp.length x.sc) x.nd.smp W (hrow.1.1.below hW) (by omega));obtain ⟨m1,m2,m3⟩:=box_cells jR HA.out.mem.cell;have HBT:=jH (Array.getElem?_eq_some_iff.1 HA.out.br).1;clear hcc hb hp hpk hnt htk hpf hit hnd hxn hx hrow;obtain ⟨sm,hsm⟩:∃l,l=x.nd.smp.drop (placeS x.nd.smp tick):=⟨_,rfl⟩
    have HSM:=jH hsm;clear hsm
    go_upto_region 8 with (first
     | (go_at_call 116
        refine calls_named ?_;intro V hV;have hd:jB wr V:=by rw [hV];exact balloc jR _
        have hz:V.heap[wr.heap.size]?=some (.cells #[.slice x.sA x.nd.smp.length x.sc,.slice x.pA x.nd.past.length x.pc,.int .i64 x.nd.pol.mn,.int .i64 x.nd.pol.mx,.int .i64 x.nd.pol.tg,.int .i64 x.nd.pol.tol,.int .i64 x.nd.pol.win,.int .i64 x.nd.pol.hold,.bool x.nd.ruled] 50 (0,0)):=by rw [hV];exact heap_alloc_new _ _
        clear hV;refine (CC.out V hd).mono ?_;rintro e u2 ⟨A5,c5,fp5,rfl,hq,hf,hb⟩;have HO5:=jH (own_srow (base:=wr.heap.size+1) hq (fun r hr=>Nat.le_trans (Nat.succ_le_of_lt (jL hz)) (hf r hr)));have HD5:=jH (bthen hd hb);have HZ5:=jH (jK hb hz);have CD:=jH (delF_any (wr.heap.size+1) _ x.nd.smp tick w.heap.size u2 HO5.out HHT.out.1 (by have:=HHT.out.2;omega) (fun U hU=>by
         have hl:=HBT.out;have h9:=(hU.block w.heap.size (by have:=HD5.out.size;omega) (fun e=>by have:=(HO5.out.lt e.symm).1;omega)).trans ((HD5.out.block _ (by omega)).trans HA.out.bt);exact (box_cells jR h9).1 0))
        rw [←HSM.out] at CD;unfold cutV at CD;obtain ⟨z1,z2,z3⟩:=box_cells jR HZ5.out;clear hd hz hq hf hb)
     | (go_at_call 118
        refine CD.out.mono ?_;rintro e w5 ⟨A9,c9,rfl,ho9,hg9,hblk⟩;have HQ9:=jH ho9;have HD9:=jH (HD5.out.trans (grown_below hg9 HD5.out.size (fun r hr=>Nat.le_of_succ_le (HO5.out.lt hr).1)));have HZ9:=jH ((hg9.block wr.heap.size (jL HZ5.out) (fun e=>by have:=(HO5.out.lt e.symm).1;omega)).trans HZ5.out);clear ho9 hg9 hblk z1 z2 z3;obtain ⟨z1,z2,z3⟩:=box_cells jR HZ9.out))
    refine name_world ?_;intro W6 hW6;have HB6:=jH (show jB wr W6 by rw [hW6];exact Below.setCell HD9.out (by exact Nat.le_refl _) _);have HZ6:=jH (show W6.heap[wr.heap.size]?=some (.cells #[.slice A9 sm.length c9,.slice x.pA x.nd.past.length x.pc,.int .i64 x.nd.pol.mn,.int .i64 x.nd.pol.mx,.int .i64 x.nd.pol.tg,.int .i64 x.nd.pol.tol,.int .i64 x.nd.pol.win,.int .i64 x.nd.pol.hold,.bool x.nd.ruled] 50 (0,0)) by rw [hW6];exact setCell_block HZ9.out)
    have HQ6:=jH (show OwnL smpC 118 2 (wr.heap.size+1) W6 (.slice A9 sm.length c9) sm from HQ9.out.kept (fun r hr=>by rw [hW6];exact heap_set_ne rfl (by have:=(HQ9.out.lt hr).1;omega)));clear hW6 z1 z2 z3 m1 m2 m3 q0 c0;obtain ⟨z1,z2,z3⟩:=box_cells jR HZ6.out;obtain ⟨m1,m2,m3⟩:=box_cells HB6.out HA.out.mem.cell;have hbt:=HBT.out;obtain ⟨o9,hs9,hm9⟩:=fl_store ((HA.out.mem.map.below HB6.out).below jR.drew) ⟨sv,hsv⟩ ⟨x.key,A9,c9,x.pA,x.pc,{ x.nd with smp:=sm }⟩
    obtain ⟨hf1,hf2⟩:=HA.out.mem.put HB6.out.drew hm9 (x:=⟨x.key,A9,c9,x.pA,x.pc,{ x.nd with smp:=sm }⟩) ⟨((RowG.own eSmp HQ6.out).imp (fun b hb=>⟨HPN.out b (by omega),by omega⟩)).below jR.drew,(HRW.out.2.below HB6.out).below jR.drew⟩;have HF1:=jH hf1;have HF2:=jH hf2;have hs8:(Instr.mapUpdate 94 (.map (some d.L)) (.string sv) (.agg #[.slice A9 sm.length c9,.slice x.pA x.nd.past.length x.pc,.int .i64 x.nd.pol.mn,.int .i64 x.nd.pol.mx,.int .i64 x.nd.pol.tg,.int .i64 x.nd.pol.tol,.int .i64 x.nd.pol.win,.int .i64 x.nd.pol.hold,.bool x.nd.ruled])).run Tryz.prog W6.drew=.ok () (setBlock W6.drew d.L o9):=hs9
    clear hs9 hm9 hf1 hf2 hbt
    go_region
    generalize hW7r:setBlock W6.drew d.L o9=W7 at HF1 HF2 ⊢;have hW7:=hW7r.symm;clear hW7r;have hlt0:=HLT.out;have hoth:∀r,r≠d.L→r<wr.heap.size→W7.heap[r]?=wr.heap[r]?:=fun r hr hrl=>by rw [hW7];exact (setBlock_other hr).trans (HB6.out.block r hrl)
    have hbl:=HBT.out;obtain ⟨A3,cc3,h3⟩:=HA.out.row;have HNX:=jH (show TrAt P w W7 M c wd d tick (k+1) (putM es ⟨sv,hsv⟩ ⟨x.key,A9,c9,x.pA,x.pc,{ x.nd with smp:=sm }⟩)∧OwnL idC 9 1 (w.heap.size+2) W7 (.slice (some ⟨b,o,none⟩) (idsF d.es).length c2) (idsF d.es) from
     ⟨⟨HF1.out,by
      rw [HTK.out];exact HA.out.tr.step HPF.out (by show ({ x.nd with smp:=sm }:Nd)=trimF tick _;unfold trimF;rw [HSM.out,HXN.out]),HA.out.upd.trans HF2.out,(hoth _ (by omega) (by omega)).trans HA.out.bt,(hoth _ (by omega) (by omega)).trans HA.out.br,A3,cc3,h3.kept (fun r hr=>hoth r (by have:=(h3.lt hr).1;omega) (h3.lt hr).2)⟩,
      HO.out.kept (fun r hr=>hoth r (by have:=(HO.out.lt hr).1;omega) (HO.out.lt hr).2)⟩)
    clear hW7 hoth hbl h3 z1 z2 z3 m1 m2 m3 hs8 hlt0;go_wp2_with fail
    go_roundg (il - (k+1))
    case measure=>omega
    case rel=>exact ⟨k+1,_,hlt,Nat.le_refl _,by go_num,HNX.out.1,HNX.out.2⟩
  · obtain rfl:k=il:=by omega
    have htr:=HA.out.tr;rw [List.take_of_length_le (by rw [←HILL.out];exact Nat.le_refl _)] at htr;have HTR:=jH htr;clear htr;obtain ⟨y1,y2,y3⟩:=box_cells jR HA.out.br;go_wp2_with fail
    refine post_named ?_;intro W9 hW9;have hW9':W9=stor wr (w.heap.size+1) 0 (repC (repF 0)):=hW9;obtain ⟨t1,t2,t3,t4⟩:=stor_at HA.out.br (repC (repF 0)) rfl W9 hW9';obtain ⟨a9,a8,a7⟩:=box_cells jR t1;clear hW9 hW9';exact bodyPost_ret (v:=repV (repF 0)) (by simp [results,Tryz.results80,go_sem,a9,repV,repC,repF,st0,adv0]) rfl (HEND.out wr W9 es HA.out.mem HTR.out HA.out.upd t2 t3 t4)
theorem flTrim_any {P:Nat→Prop} {w:World} {M:Nat} {c:Cfg} {rs rh n:Nat} {wd:Wd} {d:FlatD} (tick:Int) (h:FW P w M c rs rh n wd d) (hP:∀b,w.heap.size≤b→P b) (hc:CfgOk c rs rh) :
 Calls Tryz.prog 80 #[.pointer (some ⟨M,0,none⟩),.int .i64 tick] w (FWSays P w M c rs rh (n+1) d.L (repV (repF (if tick<0 then 3 else 0))) (if tick<0 then wd else trimW wd tick)):=by
 by_cases ht:tick<0
 · rw [if_pos ht,if_pos ht]
   refine (flTrim_bad M tick w ht).mono ?_;rintro e w' ⟨rfl,hb⟩;exact h.same (Nat.le_succ _) hb
 · rw [if_neg ht,if_neg ht]
   exact flTrim_ok tick h hP hc ht
end
end Go.Proofs.YtkcdhaallnhhmaaGreat
