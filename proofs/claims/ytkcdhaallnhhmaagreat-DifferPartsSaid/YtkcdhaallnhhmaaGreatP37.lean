/- Part 37 of the proof: FlDf. -/
import Derived.Test.YtkcdhaallnhhmaaGreatP26
namespace Go.Proofs.YtkcdhaallnhhmaaGreat
set_option linter.unusedSimpArgs false
set_option linter.unusedVariables false
set_option linter.unusedSectionVars false
set_option maxRecDepth 100000
set_option maxHeartbeats 16000000
section
open Go.RowKit Go.Lib
def cutV (B:Nat):Value:=.func (.func 119) #[] #[.pointer (some ⟨B,0,none⟩)]
theorem trimFn_any (a b cut:Int) (B:Nat) (w:World) (hB:∀U,jB w U→U.cell? ⟨B,0,none⟩=some (.int .i64 cut)) :
 Calls Tryz.prog 119 #[.agg #[.int .i64 a,.int .i64 b],.pointer (some ⟨B,0,none⟩)] w (jP w (.bool (decide (a<cut)))):=by
 have q:=hB (w.alloc (.cells #[.int .i64 a,.int .i64 b] 118)) (balloc jR _);clear hB
 go_enter Tryz.func119,Tryz.ntmps119
 go_wp2_with fail
 go_ret
 exact ⟨rfl,balloc jR _⟩
theorem idxF_any (A:Option Addr) (c:Nat) (l:List Smp) (cut:Int) (B:Nat) (w:World) (hv:RowIn 2 smpC w (.slice A l.length c) l) (hr:risingS l) (hl:l.length≤1000000) (hB:∀U,jB w U→U.cell? ⟨B,0,none⟩=some (.int .i64 cut)) :
 Calls Tryz.prog 166 #[.slice A l.length c,cutV B] w (jP w (.int .i64 (if placeS l cut=0 then -1 else 0))):=by
 have HV:=jH hv;have HB:=jH hB;have HPL:=jH (placeS_lt hr cut);have HPE:=jH (placeS_le l cut);obtain ⟨p,hp⟩:∃p,p=placeS l cut:=⟨_,rfl⟩;rw [←hp] at HPL HPE ⊢;obtain ⟨r,hrr⟩:∃r:Int,r=if p=0 then -1 else 0:=⟨_,rfl⟩;rw [←hrr];have HR:=jH hrr;clear hv hr hB hp hrr;unfold cutV
 go_enter Tryz.func166,Tryz.ntmps166
 go_wp2_with fail
 go_loopg [5,8] l.length (fun g _ s8 wr=>∃k:Nat,k≤l.length∧l.length - k≤g∧s8=.int .i64 k∧jB w wr∧Hid (p=0∨k=0))
 case atStart=>exact ⟨0,Nat.zero_le _,Nat.le_refl _,rfl,jR,jH (.inr rfl)⟩
 case round =>
  obtain ⟨k,hk,hg,rfl,hbr,HK⟩:=hrel;have HBR:=jH hbr;clear hbr
  by_cases hlt:k<l.length
  · obtain ⟨b,o,rfl,hb,hc⟩:=HV.out.at_ hlt
    have c0:wr.cell? ⟨b,o+k * 2,none⟩=some (.int .i64 l[k].1):=(HBR.out.cell (p:=⟨b,_,none⟩) hb).trans (hc 0 _ rfl);have c1:wr.cell? ⟨b,o+k * 2+1,none⟩=some (.int .i64 l[k].2):=(HBR.out.cell (p:=⟨b,_,none⟩) hb).trans (hc 1 _ rfl);have HX:=jH (HPL.out k hlt);clear hc hb;generalize l[k]=x at c0 c1 HX;have HF:=jH (trimFn_any x.1 x.2 cut B wr (fun U hU=>HB.out U (bthen HBR.out hU)))
    by_cases hx:x.1<cut
    · have hx0:p≠0∧k=0:=by
       have h1:=HX.out.2 hx
       rcases HK.out with h|h
       · omega
       · exact ⟨by omega,h⟩
      have HZ:=jH hx0;clear hx0
      go_wp2_with (first
       | (go_at_call 119
          refine HF.out.mono ?_;rintro e w2 ⟨rfl,hb2⟩;have HB2:=jH (bthen HBR.out hb2);clear hb2))
      go_ret
      exact ⟨by rw [HR.out,if_neg HZ.out.1,HZ.out.2];rfl,HB2.out⟩
    · have hp0:p=0:=by
       have h1:=mt HX.out.1 hx
       rcases HK.out with h|h
       · exact h
       · omega
      have HZ:=jH hp0;clear hp0
      go_wp2_with (first
       | (go_at_call 119
          refine HF.out.mono ?_;rintro e w2 ⟨rfl,hb2⟩;have HB2:=jH (bthen HBR.out hb2);clear hb2))
      go_roundg (l.length - (k+1))
      case measure=>omega
      case rel=>exact ⟨k+1,hlt,Nat.le_refl _,by go_num,HB2.out,jH (.inl HZ.out)⟩
  · have hp0:p=0∨l.length=0:=by
     rcases HK.out with h|h
     · exact .inl h
     · exact .inr (by omega)
    have hp1:p=0:=by
     rcases hp0 with h|h
     · exact h
     · have:=HPE.out;omega
    have HZ:=jH hp1;clear hp0 hp1;go_wp2_with fail
    go_ret
    exact ⟨by rw [HR.out,if_pos HZ.out];rfl,HBR.out⟩
theorem drop_get {l m:List Smp} {j:Nat} (h:m.drop j=l.drop j) (hl:m.length=l.length) (hj:j<l.length):m[j]'(by omega)=l[j]:=by
 have h1:=congrArg (fun q:List Smp=>q[0]?) h;simp only [List.getElem?_drop,Nat.add_zero] at h1
 rw [List.getElem?_eq_getElem (by omega),List.getElem?_eq_getElem hj] at h1;injection h1
theorem delF_any (base:Nat) (v:Value) (l:List Smp) (cut:Int) (B:Nat) (w:World) (h:OwnL smpC 118 2 base w v l) (hr:risingS l) (hl:l.length≤1000000) (hB:∀U,w.grownBy U v.ownBlock→U.cell? ⟨B,0,none⟩=some (.int .i64 cut)) :
 Calls Tryz.prog 118 #[v,cutV B] w (RowSays base w v (l.drop (placeS l cut))):=by
 obtain ⟨A,c,rfl⟩:=h.form;have hcl:l.length≤c:=by obtain ⟨_,_,hv,hc,_⟩:=h.row eSmp;injection hv with _ _ e3;omega
 have CI:=jH (idxF_any A c l cut B w (h.row eSmp) hr hl (fun U hU=>hB U (grownBy_below hU)));have HPL:=jH (placeS_lt hr cut);have HPE:=jH (placeS_le l cut);obtain ⟨p,hp⟩:∃p,p=placeS l cut:=⟨_,rfl⟩;rw [←hp] at HPL HPE CI ⊢;have HOW:=jH h;have HB:=jH hB
 by_cases hp0:p=0
 · rw [if_pos hp0] at CI
   subst hp0;clear h hr hp hB;unfold cutV at CI ⊢
   go_enter Tryz.func118,Tryz.ntmps118
   go_wp2_with (first
    | (go_at_call 166
       refine CI.out.mono ?_;rintro e w2 ⟨rfl,hb2⟩;have HB2:=jH hb2;clear hb2))
   go_ret
   exact ⟨A,c,rfl,HOW.out.below HB2.out,grownBy_below HB2.out,.inl rfl⟩
 · rw [if_neg hp0] at CI
   rcases Go.Joins.ownsRow_forms h with ⟨hn,hz⟩|⟨g,c2,hn⟩
   · have:=HPE.out;omega
   injection hn with hA _ hc2
   subst hA;subst hc2;have hcm:c≤9223372036854775807:=by obtain ⟨_,_,_,_,hc,_⟩:=own_open h;exact hc
   obtain ⟨i0,hi0,hz0,hz1,hz2⟩:=info_parts eSmp.hi;have HP0:=jH hp0;have hps:1≤l.length:=by have:=HPE.out;omega
   have HI0:=jH (And.intro hi0 hz0);clear h hr hp hB hp0 hi0 hz0 hz1 hz2;unfold cutV at CI ⊢
   go_enter Tryz.func118,Tryz.ntmps118
   go_wp2_with (first
    | (go_at_call 166
       refine CI.out.mono ?_;rintro e w2 ⟨rfl,hb2⟩;have HB2:=jH hb2;clear hb2))
   go_loopg [5,6,7] l.length (fun q s5 s6 _ wr=>∃(j i:Nat) (m:List Smp),1≤j∧j≤l.length∧l.length - j≤q∧s5=.int .i64 i∧s6=.int .i64 j∧Hid (i=j - p)∧m.length=l.length∧OwnL smpC 118 2 base wr (.slice (some ⟨g,0,none⟩) m.length c) m∧Hid (m.drop j=l.drop j)∧Hid (m.take i=(l.drop p).take i)∧w.grownBy wr (some g))
   case atStart=>exact ⟨1,0,l,Nat.le_refl _,hps,by omega,rfl,rfl,jH (by have:=HP0.out;omega),rfl,HOW.out.below HB2.out,jH rfl,jH rfl,grownBy_below HB2.out⟩
   case round =>
    obtain ⟨j,i,m,hj1,hj,hg,rfl,rfl,HI,hml,hown,HD,HT,hgr⟩:=hrel;rename World=>wr
    have HO:=jH hown;have HG:=jH hgr;have HML:=jH hml;have hij:i≤j:=by have:=HI.out;omega
    clear hown hgr
    by_cases hlt:j<l.length
    · have hmj:j<m.length:=by omega
      obtain ⟨b,o,hbo,hb,hc⟩:=(HO.out.row eSmp).at_ hmj;injection hbo with hbo
      injection hbo with hb1 ho1 _
      subst hb1;subst ho1;have hget:=drop_get HD.out hml hlt;have c0:wr.cell? ⟨g,j * 2,none⟩=some (.int .i64 l[j].1):=by rw [←hget];have:=hc 0 _ rfl;simpa using this
      have c1:wr.cell? ⟨g,j * 2+1,none⟩=some (.int .i64 l[j].2):=by rw [←hget];have:=hc 1 _ rfl;simpa using this
      have HX:=jH (HPL.out j hlt);have HNX:=jH (show p≤j→(l.drop p).take (j - p+1)=(l.drop p).take (j - p)++[l[j]] from fun hpj=>by
       rw [List.take_succ_eq_append_getElem (by simp;omega)]
       congr 2
       rw [List.getElem_drop]
       congr 1
       omega)
      have HF:=jH (fun (W:World) (hW:jB wr W)=>trimFn_any l[j].1 l[j].2 cut B W (fun U hU=>HB.out U (grownBy_trans HG.out (grownBy_below (bthen hW hU)))));obtain ⟨x,hx0⟩:∃x,x=l[j]:=⟨_,rfl⟩;rw [←hx0] at c0 c1 HX HNX HF;clear hc hb hget hx0;have hgl:g<wr.heap.size:=(HO.out.lt rfl).2
      by_cases hx:x.1<cut
      · rw [decide_eq_true hx] at HF
        have hi0:i=0:=by have h1:=HX.out.2 hx;have:=HI.out;omega
        have HI1:=jH (show i=j+1 - p by have h1:=HX.out.2 hx;have:=HI.out;omega);clear hi0
        go_wp2_with (first
         | (go_at_call 119
            refine calls_named ?_;intro W2 hW2;have hb2:jB wr W2:=by rw [hW2];exact balloc jR _
            clear hW2;refine (HF.out W2 hb2).mono ?_;rintro e w4 ⟨rfl,hb4⟩;have HB4:=jH (bthen hb2 hb4);clear hb2 hb4))
        go_roundg (l.length - (j+1))
        case measure=>omega
        case rel=>exact ⟨j+1,i,m,by omega,hlt,Nat.le_refl _,rfl,by go_num,HI1,HML.out,HO.out.below HB4.out,jH (by have:=congrArg (List.drop 1) HD.out;simpa [List.drop_drop,Nat.add_comm] using this),HT,grownBy_trans HG.out (grownBy_below HB4.out)⟩
      · rw [decide_eq_false hx] at HF
        have hpj:p≤j:=by have h1:=mt HX.out.1 hx;omega
        have HPJ:=jH hpj;have him:i<m.length:=by have:=HI.out;have:=HP0.out;omega
        have hiz:(0:Int)≤(i:Int):=by omega
        have hil:(i:Int)<(l.length:Int):=by omega
        have HIM:=jH him;obtain ⟨cur,hcur,_,hmc,_,hcs,_⟩:=own_open HO.out;have e0:wr.cell? ⟨g,i * 2,none⟩=some (cur[i * 2]'(by omega)):=((box_cells jR hcur).1 (i * 2)).trans (Array.getElem?_eq_getElem (by omega));have e1:wr.cell? ⟨g,i * 2+1,none⟩=some (cur[i * 2+1]'(by omega)):=((box_cells jR hcur).1 (i * 2+1)).trans (Array.getElem?_eq_getElem (by omega));generalize cur[i * 2]'(by omega)=d0 at e0;generalize cur[i * 2+1]'(by omega)=d1 at e1
        have HCU:=jH hcur;have HE0:=jH (And.intro e0 e1);clear hpj him hcur e0 e1 hmc hcs
        go_wp2_with (first
         | (go_at_call 119
            refine calls_named ?_;intro W2 hW2;have hb2:jB wr W2:=by rw [hW2];exact balloc jR _
            have hv2:W2.heap[wr.heap.size]?=some (.cells #[.int .i64 x.1,.int .i64 x.2] 118 (0,0)):=by rw [hW2];exact heap_alloc_new _ _
            clear hW2;refine (HF.out W2 hb2).mono ?_;rintro e w4 ⟨rfl,hb4⟩;have HB4:=jH (bthen hb2 hb4);obtain ⟨v1,v2,v3⟩:=box_cells hb4 hv2;have e0:=(HB4.out.cell (p:=⟨g,i * 2,none⟩) hgl).trans HE0.out.1;have e1:=(HB4.out.cell (p:=⟨g,i * 2+1,none⟩) hgl).trans HE0.out.2;obtain ⟨u1,u2,u3⟩:=box_cells HB4.out HCU.out;clear hb2 hb4 hv2 u1))
        have HOS:=jH (own_set (HO.out.below HB4.out) i HIM.out x)
        go_roundg (l.length - (j+1))
        case measure=>omega
        case rel=>exact ⟨j+1,i+1,m.set i x,by omega,hlt,Nat.le_refl _,by go_num,by go_num,jH (by have:=HI.out;have:=HPJ.out;omega),by rw [List.length_set];exact HML.out,by rw [List.length_set];exact HOS.out.1,jH (by
                     rw [List.drop_set_of_lt (by omega)];have:=congrArg (List.drop 1) HD.out
                     simpa [List.drop_drop,Nat.add_comm] using this),jH (by
                     have h1:=HNX.out HPJ.out;rw [←HI.out] at h1;rw [h1,←HT.out,List.take_succ_eq_append_getElem (by rw [List.length_set];exact HIM.out),List.take_set_of_le (Nat.le_refl _),List.getElem_set_self]),grownBy_trans (grownBy_trans HG.out (grownBy_below HB4.out)) HOS.out.2⟩
    · obtain rfl:j=l.length:=by omega
      have hil:i+p=l.length:=by have:=HI.out;have:=HPE.out;omega
      have htk:m.take i=l.drop p:=by rw [HT.out];exact List.take_of_length_le (by simp;omega)
      have hdl:(l.drop p).length=i:=by simp;omega
      obtain ⟨cur,hG1,h1,h3,h4,h5,h6⟩:=own_open HO.out;have hip:i<l.length:=by have:=HP0.out;omega
      have hzc:(Builtin.zeroCells (Value.agg #[.int .i64 0,.int .i64 0]).cells (l.length - i)).size=(l.length - i) * 2:=by
       rw [size_zeroCells];rfl
      obtain ⟨W2,hW2⟩:∃W2,W2=wr.setRow g (cur.toList.take (i * 2)++(Builtin.zeroCells (Value.agg #[.int .i64 0,.int .i64 0]).cells (l.length - i)).toList++cur.toList.drop (i * 2+(Builtin.zeroCells (Value.agg #[.int .i64 0,.int .i64 0]).cells (l.length - i)).toList.length)).toArray:=⟨_,rfl⟩;have hclr:∀ty dc,(Builtin.clear_ #[43] ty #[.slice (some ⟨g,i * 2,none⟩) (l.length - i) dc]).run Tryz.prog wr=.ok (.tuple #[]) W2:=fun ty dc=>by
       rw [hW2];exact run_clearN wr 43 118 ty _ eSmp.ht (fun w=>by simp [zeroValue,typeInfo,HI0.out.1,HI0.out.2]) (fun u hu=>by simp [Value.cells] at hu;rcases hu with rfl|rfl <;> rfl) g _ _ dc cur _ (by omega) hG1 (by rw [hzc,h5];omega)
      have HFIN:RowSays base w (.slice (some ⟨g,0,none⟩) l.length c) (l.drop p) (.returned (.slice (some ⟨g,0,none⟩) i c)) W2:=by
       refine ⟨some ⟨g,0,none⟩,c,by rw [hdl],?_,?_,.inl rfl⟩
       · have hcl2:cur.toList.length=c * 2:=by simpa using h5
         have hzl:(Builtin.zeroCells (Value.agg #[.int .i64 0,.int .i64 0]).cells (l.length - i)).toList.length=(l.length - i) * 2:=by simpa using hzc
         refine own_close (cur:=(cur.toList.take (i * 2)++(Builtin.zeroCells (Value.agg #[.int .i64 0,.int .i64 0]).cells (l.length - i)).toList++cur.toList.drop (i * 2+(Builtin.zeroCells (Value.agg #[.int .i64 0,.int .i64 0]).cells (l.length - i)).toList.length)).toArray) ?_ h1 (by omega) h4 ?_ ?_
         · rw [hW2];exact setRow_heap wr g _ _ _ _ hG1
         · simp only [List.size_toArray,List.length_append,List.length_take,List.length_drop,hcl2,hzl];omega
         · show List.take _ (_++_++_)=_
           rw [hdl,List.append_assoc,List.take_append_of_le_length (by rw [List.length_take,hcl2];omega),List.take_take,Nat.min_self,←htk,smpRow_take,←h6,List.take_take,Nat.min_eq_left (by omega)]
       · rw [hW2]
         exact grownBy_trans HG.out (grown_setRow _ _ _)
      have HF:=jH HFIN;have hi0:(0:Int)≤(i:Int):=by omega
      have hi2:(i:Int)≤(l.length:Int):=by omega
      have hi3:i≤l.length:=by omega
      have hi4:i≤c:=by omega
      have hi5:(i:Int)≤(c:Int):=by omega
      have hne:¬c=i:=by omega
      have hc0:¬c=0:=by omega
      clear HFIN hW2 hzc h6 h5 hG1 h1 h3 h4 htk hdl hil;go_wp2_with fail
      go_ret
      exact HF.out
end
end Go.Proofs.YtkcdhaallnhhmaaGreat
