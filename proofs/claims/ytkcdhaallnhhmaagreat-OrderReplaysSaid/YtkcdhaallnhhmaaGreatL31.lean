/- Part 31 of the proof: Win2, FlJ, FlId, OrdP. -/
import Derived.IntWalk
import Derived.Deep.CutBlock
import Derived.Test.YtkcdhaallnhhmaaGreatL30
namespace Go.Proofs.YtkcdhaallnhhmaaGreat
set_option linter.unusedSimpArgs false
set_option linter.unusedVariables false
set_option linter.unusedSectionVars false
set_option maxRecDepth 100000
set_option maxHeartbeats 16000000
section
open Go.RowKit Go.Lib
theorem winCut_any (v:Value) (l:List Smp) (a b:Int) (w:World) (hv:RowIn 2 smpC w v l) (hl:l.length≤1000000) :
 Calls Tryz.prog 168 #[v,.int .i64 a,.int .i64 b] w fun e w'=>∃A c,e=.returned (.slice A (winC l a b).length c)∧OwnL smpC 118 2 w.heap.size w' (.slice A (winC l a b).length c) (winC l a b)∧jB w w':=by
 obtain ⟨A,c,rfl⟩:=hv.form;have HV:=jH hv;have HL:=jH hl;have hl9:l.length≤9223372036854775807:=by omega
 clear hv hl
 go_enter Tryz.func168,Tryz.ntmps168
 go_wp2
 go_loopg [7,12] l.length (fun g s7 s12 wr=>∃k:Nat,k≤l.length∧l.length - k≤g∧s12=.int .i64 k∧OwnL smpC 118 2 w.heap.size wr s7 (winC (l.take k) a b)∧jB w wr)
 case atStart=>exact ⟨0,Nat.zero_le _,Nat.le_refl _,rfl,by simp [winC];exact OwnL.nil _ _,jR⟩
 case round =>
  obtain ⟨k,hk,hg,rfl,hown,hb⟩:=hrel;rename World=>wr
  obtain ⟨pre,hpre⟩:∃pre,pre=winC (l.take k) a b:=⟨_,rfl⟩;rw [←hpre] at hown;obtain ⟨A5,c5,rfl⟩:=hown.form;have HPL:=jH (show pre.length≤k by rw [hpre];exact Nat.le_trans (cut_len _ _ _) (by simp;omega));have HPRE:=jH hpre;have HO:=jH hown;have HB:=jH hb;clear hpre hown hb
  by_cases hlt:k<l.length
  · obtain ⟨b1,o1,rfl,hb1,hc⟩:=(HV.out.below HB.out).at_ hlt
    have z1:(0:Int)≤(k:Int):=by omega
    have z2:(k:Int)<(l.length:Int):=by omega
    have HTK:=jH (show winC (l.take (k+1)) a b=pre++if a≤l[k].1∧l[k].1≤b then [l[k]] else [] by rw [List.take_succ_eq_append_getElem hlt,winC_snoc,HPRE.out]);generalize l[k]=x at hc HTK;have d0:=hc 0 _ rfl;have d1:=hc 1 _ rfl;rw [Nat.add_zero] at d0;have HK:=jH hlt;clear hc
    by_cases h1:a≤x.1
    · by_cases h2:x.1≤b
      · as_aux_lemma =>
        go_wp2_with (first
         | (at_builtin
            refine wpList_appendL eSmp (by rfl) (by rfl) w.heap.size pre [x] (.slice A5 pre.length c5) _ (by rfl) (by rfl) ((HO.out.below (balloc (balloc jR _) _))) (RowIn.lit _ x _ _ (wr.heap.size+1) (by simp) rfl) (by have:=HPL.out;have:=HL.out;have:=HK.out;simp;omega) (by have:=HB.out.size;simp;omega) ?_;intro out2 A9 c9 w13 hout2 hown2 hg2 _;have HO13:=jH hout2;have HW13:=jH hown2;have HB13:=jH (show jB w w13 from (balloc (balloc HB.out _) _).trans (grown_own hg2 HO.out (by have:=HB.out.size;simp;omega)))
            clear hout2 hown2 hg2))
        go_roundg (l.length - (k+1))
        case measure=>omega
        case rel=>exact ⟨k+1,HK.out,Nat.le_refl _,by go_num,by rw [HTK.out,if_pos ⟨h1,h2⟩,←HO13.out];exact HW13.out,HB13.out⟩
      · as_aux_lemma =>
        go_wp2_with fail
        go_roundg (l.length - (k+1))
        case measure=>omega
        case rel=>exact ⟨k+1,HK.out,Nat.le_refl _,by go_num,by rw [HTK.out,if_neg (by omega),List.append_nil];exact HO.out.below (balloc jR _),balloc HB.out _⟩
    · as_aux_lemma =>
      go_wp2_with fail
      go_roundg (l.length - (k+1))
      case measure=>omega
      case rel=>exact ⟨k+1,HK.out,Nat.le_refl _,by go_num,by rw [HTK.out,if_neg (by omega),List.append_nil];exact HO.out.below (balloc jR _),balloc HB.out _⟩
  · obtain rfl:k=l.length:=by omega
    have hp:=HPRE.out;rw [List.take_length] at hp;have HP:=jH hp;clear hp;go_wp2_with fail
    go_ret
    exact ⟨A5,c5,by rw [HP.out];rfl,by rw [←HP.out];exact HO.out,HB.out⟩
theorem winVals_any (v:Value) (l:List Smp) (w:World) (hv:RowIn 2 smpC w v l) (hl:l.length≤1000000) :
 Calls Tryz.prog 197 #[v] w fun e w'=>∃A c,e=.returned (.slice A (valsW l).length c)∧OwnL nmC 2 1 w.heap.size w' (.slice A (valsW l).length c) (valsW l)∧jB w w':=by
 obtain ⟨A,c,rfl⟩:=hv.form;have HV:=jH hv;have HL:=jH hl;have hl9:l.length≤9223372036854775807:=by omega
 clear hv hl
 go_enter Tryz.func197,Tryz.ntmps197
 go_wp2
 go_loopg [3,8] l.length (fun g s7 s12 wr=>∃k:Nat,k≤l.length∧l.length - k≤g∧s12=.int .i64 k∧OwnL nmC 2 1 w.heap.size wr s7 (valsW (l.take k))∧jB w wr)
 case atStart=>exact ⟨0,Nat.zero_le _,Nat.le_refl _,rfl,by simp [valsW];exact OwnL.nil _ _,jR⟩
 case round =>
  obtain ⟨k,hk,hg,rfl,hown,hb⟩:=hrel;rename World=>wr
  obtain ⟨pre,hpre⟩:∃pre,pre=valsW (l.take k):=⟨_,rfl⟩;rw [←hpre] at hown;obtain ⟨A5,c5,rfl⟩:=hown.form;have HPL:=jH (show pre.length≤k by rw [hpre,vals_len];simp;omega);have HPRE:=jH hpre;have HO:=jH hown;have HB:=jH hb;clear hpre hown hb
  by_cases hlt:k<l.length
  · obtain ⟨b1,o1,rfl,hb1,hc⟩:=(HV.out.below HB.out).at_ hlt
    have z1:(0:Int)≤(k:Int):=by omega
    have z2:(k:Int)<(l.length:Int):=by omega
    have HTK:=jH (show valsW (l.take (k+1))=pre++[max l[k].2 0] by rw [List.take_succ_eq_append_getElem hlt,valsW_snoc,HPRE.out]);generalize l[k]=x at hc HTK;have d0:=hc 0 _ rfl;have d1:=hc 1 _ rfl;rw [Nat.add_zero] at d0;have HK:=jH hlt;clear hc
    go_wp2_with (first
     | (at_builtin
        refine wpList_appendL eNm (by rfl) (by rfl) w.heap.size pre [max x.2 0] (.slice A5 pre.length c5) _ (by rfl) (by rfl) ((HO.out.below (balloc (balloc jR _) _))) (RowIn.lit _ (max x.2 0) _ _ (wr.heap.size+1) (by simp) (by simp [nmC])) (by have:=HPL.out;have:=HL.out;have:=HK.out;simp;omega) (by have:=HB.out.size;simp;omega) ?_;intro out2 A9 c9 w13 hout2 hown2 hg2 _;have HO13:=jH hout2;have HW13:=jH hown2
        have HB13:=jH (show jB w w13 from (balloc (balloc HB.out _) _).trans (grown_own hg2 HO.out (by have:=HB.out.size;simp;omega)));clear hout2 hown2 hg2))
    go_roundg (l.length - (k+1))
    case measure=>omega
    case rel=>exact ⟨k+1,HK.out,Nat.le_refl _,by go_num,by rw [HTK.out,←HO13.out];exact HW13.out,HB13.out⟩
  · obtain rfl:k=l.length:=by omega
    have hp:=HPRE.out;rw [List.take_length] at hp;have HP:=jH hp;clear hp;go_wp2_with fail
    go_ret
    exact ⟨A5,c5,by rw [HP.out];rfl,by rw [←HP.out];exact HO.out,HB.out⟩
theorem slMin_any (v:Value) (l:List Int) (w:World) (hv:RowIn 1 nmC w v l) (hl:l.length≤1000000) (hne:l≠[]) :
 Calls Tryz.prog 199 #[v] w fun e w'=>e=.returned (.int .i64 (minL l))∧w=w':=by
 obtain ⟨A,c,rfl⟩:=hv.form;have HV:=jH hv;have hl9:l.length≤9223372036854775807:=by omega
 have hp:0<l.length:=List.length_pos_iff.2 hne;have z0:¬(l.length:Int)<1:=by omega
 have z3:(0:Int)<(l.length:Int):=by omega
 obtain ⟨b1,o1,rfl,hb1,hc⟩:=HV.out.at_ hp;have d0:=hc 0 _ rfl;simp only [Nat.zero_mul,Nat.add_zero] at d0
 have HP:=jH hp;have HFST:=jH (show minL (l.take 1)=l[0] by
  rw [List.take_one]
  cases l with
  | nil=>exact absurd rfl hne
  | cons a l=>rfl)
 generalize l[0]=x0 at d0 HFST;clear hv hc hne hp
 go_enter Tryz.func199,Tryz.ntmps199
 go_wp2
 go_loopg [3,4] l.length (fun g s3 s8 wr=>∃k:Nat,1≤k∧k≤l.length∧l.length - k≤g∧s8=.int .i64 k∧s3=.int .i64 (minL (l.take k))∧w=wr)
 case atStart=>exact ⟨1,Nat.le_refl _,HP.out,by omega,rfl,by rw [HFST.out],rfl⟩
 case round =>
  obtain ⟨k,hk1,hk,hg,rfl,rfl,rfl⟩:=hrel
  by_cases hlt:k<l.length
  · obtain ⟨b2,o2,he,hb2,hc⟩:=HV.out.at_ hlt
    injection he with he
    injection he with e1 e2
    subst e1 e2;have z1:(0:Int)≤(k:Int):=by omega
    have z2:(k:Int)<(l.length:Int):=by omega
    have HS:=jH (show minL (l.take (k+1))=min (minL (l.take k)) l[k] by rw [List.take_succ_eq_append_getElem hlt,minL_snoc (by intro q;have:=congrArg List.length q;rw [List.length_take,List.length_nil] at this;omega)]);have d2:=hc 0 _ rfl;rw [Nat.add_zero,Nat.mul_one] at d2;generalize minL (l.take k)=s at HS ⊢;generalize l[k]=x at HS d2;clear hc d0;go_wp2
    go_roundg (l.length - (k+1))
    case measure=>omega
    case rel=>exact ⟨k+1,by omega,hlt,Nat.le_refl _,by go_num,by rw [HS.out],rfl⟩
  · obtain rfl:k=l.length:=by omega
    rw [List.take_length];go_wp2
    go_ret
    exact ⟨rfl,rfl⟩
theorem slMax_any (v:Value) (l:List Int) (w:World) (hv:RowIn 1 nmC w v l) (hl:l.length≤1000000) (hne:l≠[]) :
 Calls Tryz.prog 200 #[v] w fun e w'=>e=.returned (.int .i64 (maxL l))∧w=w':=by
 obtain ⟨A,c,rfl⟩:=hv.form;have HV:=jH hv;have hl9:l.length≤9223372036854775807:=by omega
 have hp:0<l.length:=List.length_pos_iff.2 hne;have z0:¬(l.length:Int)<1:=by omega
 have z3:(0:Int)<(l.length:Int):=by omega
 obtain ⟨b1,o1,rfl,hb1,hc⟩:=HV.out.at_ hp;have d0:=hc 0 _ rfl;simp only [Nat.zero_mul,Nat.add_zero] at d0
 have HP:=jH hp;have HFST:=jH (show maxL (l.take 1)=l[0] by
  rw [List.take_one]
  cases l with
  | nil=>exact absurd rfl hne
  | cons a l=>rfl)
 generalize l[0]=x0 at d0 HFST;clear hv hc hne hp
 go_enter Tryz.func200,Tryz.ntmps200
 go_wp2
 go_loopg [3,4] l.length (fun g s3 s8 wr=>∃k:Nat,1≤k∧k≤l.length∧l.length - k≤g∧s8=.int .i64 k∧s3=.int .i64 (maxL (l.take k))∧w=wr)
 case atStart=>exact ⟨1,Nat.le_refl _,HP.out,by omega,rfl,by rw [HFST.out],rfl⟩
 case round =>
  obtain ⟨k,hk1,hk,hg,rfl,rfl,rfl⟩:=hrel
  by_cases hlt:k<l.length
  · obtain ⟨b2,o2,he,hb2,hc⟩:=HV.out.at_ hlt
    injection he with he
    injection he with e1 e2
    subst e1 e2;have z1:(0:Int)≤(k:Int):=by omega
    have z2:(k:Int)<(l.length:Int):=by omega
    have HS:=jH (show maxL (l.take (k+1))=max (maxL (l.take k)) l[k] by rw [List.take_succ_eq_append_getElem hlt,maxL_snoc (by intro q;have:=congrArg List.length q;rw [List.length_take,List.length_nil] at this;omega)]);have d2:=hc 0 _ rfl;rw [Nat.add_zero,Nat.mul_one] at d2;generalize maxL (l.take k)=s at HS ⊢;generalize l[k]=x at HS d2;clear hc d0;go_wp2
    go_roundg (l.length - (k+1))
    case measure=>omega
    case rel=>exact ⟨k+1,by omega,hlt,Nat.le_refl _,by go_num,by rw [HS.out],rfl⟩
  · obtain rfl:k=l.length:=by omega
    rw [List.take_length];go_wp2
    go_ret
    exact ⟨rfl,rfl⟩
end
section
open Go.RowKit Go.Lib Go.Sort
theorem serOf_any (room:Nat) (A:Option Addr) (c:Nat) (l:List Smp) (w:World) (hv:RowIn 2 smpC w (.slice A l.length c) l) (hl:l.length≤1000000) (h1:1≤room) (h2:room≤256) (hpos:∀x∈l,0≤x.1∧0≤x.2) :
 Calls Tryz.prog 115 #[.int .i64 (room:Nat),.slice A l.length c] w (NewSer w (foldS (room:Nat) l) (room:Nat)):=by
 have CN:=jH (serNew_any (room:Nat) w (by omega) (by omega));have HV:=jH hv;have HP:=jH hpos;have HR:=jH (And.intro h1 h2);have HL:=jH hl;clear hv hpos h1 h2;unfold NewSer at CN ⊢
 go_enter Tryz.func115,Tryz.ntmps115
 go_wp2_with (first
  | (go_at_call 164
     refine CN.out.mono ?_;rintro e w1 ⟨S,fp,rfl,hs1,hf1,hb1⟩;have HS1:=jH hs1;have HF1:=jH hf1;have HB1:=jH hb1;clear hs1 hf1 hb1))
 go_loopg [7,12] l.length (fun g _ s12 wr=>∃k:Nat,k≤l.length∧l.length - k≤g∧s12=.int .i64 k∧jB w wr∧∃fp,SerIn wr S (foldS (room:Nat) (l.take k)) (room:Nat) fp∧∀x∈fp,w.heap.size≤x)
 case atStart=>exact ⟨0,Nat.zero_le _,Nat.le_refl _,rfl,HB1.out,_,HS1.out,HF1.out⟩
 case round =>
  obtain ⟨k,hk,hg,rfl,hbr,fp2,hs2,hf2⟩:=hrel;have HBR:=jH hbr;have HS2:=jH hs2;have HF2:=jH hf2;clear hbr hs2 hf2
  by_cases hlt:k<l.length
  · obtain ⟨b,o,rfl,hb,hc⟩:=HV.out.at_ hlt
    have hp:=HP.out _ (List.getElem_mem hlt);have hfo:=foldS_ok room (l.take k);have HPUT:=jH (fun W (hW:jB wr W)=>serPut_any S (foldS (room:Nat) (l.take k)) (room:Nat) fp2 l[k] W (HS2.out.kept (fun r hr=>hW.block r (HS2.out.lt r hr))) hfo.1 (by have:=HR.out.2;omega) (by have:=HR.out.1;omega) hp.1 hp.2);rw [←foldS_take (room:Nat) l k hlt] at HPUT;have c0:wr.cell? ⟨b,o+k * 2,none⟩=some (.int .i64 l[k].1):=(HBR.out.cell (p:=⟨b,_,none⟩) hb).trans (hc 0 _ rfl)
    have c1:wr.cell? ⟨b,o+k * 2+1,none⟩=some (.int .i64 l[k].2):=(HBR.out.cell (p:=⟨b,_,none⟩) hb).trans (hc 1 _ rfl);clear hc hfo hb;generalize l[k]=x at c0 c1 hp HPUT;clear hp
    go_wp2_with (first
     | (go_at_call 165
        refine calls_named ?_;intro W2 hW2;have hb2:jB wr W2:=by rw [hW2];exact balloc jR _
        clear hW2;refine (HPUT.out W2 hb2).mono ?_;rintro e w3 ⟨fp3,rfl,hs3,hu3⟩;have HS3:=jH hs3;have HF3:=jH (show ∀x∈fp3,w.heap.size≤x from fun x hx=>(hu3.fresh x hx).elim (HF2.out x) (fun h=>Nat.le_trans HBR.out.size (Nat.le_trans hb2.size h)));have HB3:=jH ((bthen HBR.out hb2).trans (hu3.below (Nat.le_trans HBR.out.size hb2.size) HF2.out));clear hs3 hu3 hb2))
    go_roundg (l.length - (k+1))
    case measure=>omega
    case rel=>exact ⟨k+1,hlt,Nat.le_refl _,by go_num,HB3.out,fp3,HS3.out,HF3.out⟩
  · obtain rfl:k=l.length:=by omega
    have hs3:=HS2.out;rw [List.take_length] at hs3;have HS3:=jH hs3;clear hs3;go_wp2
    go_ret
    exact ⟨S,fp2,rfl,HS3.out,HF2.out,HBR.out⟩
end
section
open Go.RowKit Go.Lib Go.Sort Go.Maps Go.Shelf
def idC (s:ByteArray):List Value:=[.string s]
theorem eId:EltOf 37 9 1 16 (.string ⟨#[]⟩) idC :=
 ⟨by kernel_rfl,by kernel_rfl,rfl,by decide,by decide,fun _=>rfl,fun x u hu=>by
  simp only [idC,List.mem_cons,List.not_mem_nil,or_false] at hu
  subst hu
  rfl⟩
def bytesK (es:List (SK × It)):List (List UInt8):=es.map fun p=>p.1.1.data.toList
def idsF (es:List (SK × It)):List ByteArray:=((bytesK es).mergeSort fun x y=>decide (x≤y)).map fun x=>⟨x.toArray⟩
def anyR (H:Type):Value→Option (DataW H × List MemPlace):=fun _=>some (.nil,[])
theorem owns_of_map {w:World} {L:Nat} {es:List (SK × It)} (h:MapIn skV ldV w L es) (hl:es.length≤1000000) :
 ∃D0:DataW Unit,w.ownsMap Tryz.prog 9 (anyR Unit) L es.length D0∧(strKeys D0).Perm (bytesK es)∧Maps.size D0=es.length:=by
 obtain ⟨ents,clock,hb,hkv,hbn,hcl,hn⟩:=h;have hsz:ents.size=es.length:=by simpa using congrArg List.length hkv
 have hkeys:ents.toList.map (·.key)=es.map fun p=>skV p.1:=by
  have:=congrArg (List.map Prod.fst) hkv;rw [List.map_map,List.map_map] at this;exact this
 have hrd:∀x∈ents.toList,∃s:SK,x.key=skV s∧Go.WideElems.rd Tryz.prog 9 (anyR Unit) x=some (.string s.1.data.toList,.nil):=fun x hx=>by
  obtain ⟨p,hp,hk,_⟩:=ents_mem hkv hx;refine ⟨p.1,hk,?_⟩;unfold Go.WideElems.rd;rw [hk]
  show (keyOf Tryz.prog 9 (.string p.1.1)).bind _=_
  rw [Go.WideMaps.keyOf_string_mk Tryz.underlying9 p.1.2];rfl
 have hnd:(ents.toList.map (·.key)).Nodup:=by
  rw [hkeys];have e:(es.map fun p=>skV p.1)=(es.map (·.1)).map skV:=by rw [List.map_map];rfl
  rw [e];exact List.pairwise_map.2 (hn.imp (fun hne e=>hne (keysSk.inj _ _ e)))
 refine ⟨_,⟨ents,clock,hb,⟨by rw [hsz];unfold maxLen;omega,⟨hcl,hbn,hnd⟩,fun x hx=>by obtain ⟨s,_,h1⟩:=hrd x hx;exact ⟨_,h1⟩⟩,Nat.le_of_eq hsz,rfl⟩,?_,?_⟩
 · show ((List.foldr DataW.insert [] (ents.toList.map (Go.WideElems.rg Tryz.prog 9 (anyR Unit)))).map fun p=>strOf p.1).Perm _
   refine ((Go.WideShapes.sorted_perm _).map _).trans (List.Perm.of_eq ?_);rw [List.map_map];have e:bytesK es=(es.map fun p=>skV p.1).map fun v=>match v with|.string s=>s.data.toList|_=>[]:=by
    unfold bytesK;rw [List.map_map];rfl
   rw [e,←hkeys,List.map_map];refine List.map_congr_left (fun x hx=>?_);obtain ⟨s,hk,h1⟩:=hrd x hx;simp only [Function.comp,Go.WideElems.rg,h1,hk,skV,Option.getD_some]
   rfl
 · show (List.foldr DataW.insert [] _).length=_
   rw [length_sorted,List.length_map,Array.length_toList,hsz]
theorem sortsM (m:Nat):AnyZ.SortsIn Tryz.prog sortedM_ren Fence.wide m :=
 ⟨fun blk off cap ss W hH hblk hsz=>callsIn_wide.2 (AnyM.slices_Sort_string sortM blk off cap ss W hH hblk hsz),
  fun p cap W=>callsIn_wide.2 (AnyM.slices_Sort_string_none sortM p cap W)⟩
theorem flKeys_any (mb:Option Nat) (W:World):Calls Tryz.prog 98 #[.map mb] W fun e w'=>e=.returned (.func (.func 146) #[] #[.pointer (some ⟨W.heap.size,0,none⟩)])∧w'=W.alloc (.cells #[.map mb] 94) :=
 callsIn_wide.1 (AnyZ.keys_in keysM Fence.wide 5 trivial rfl mb W)
theorem flSorted_any (b:Nat) (es:List (SK × It)) (w:World) (h:MapIn skV ldV w b es) (hl:es.length≤1000000) :
 Calls Tryz.prog 97 #[.func (.func 146) #[] #[.pointer (some ⟨w.heap.size,0,none⟩)]] (w.alloc (.cells #[.map (some b)] 94)) fun e w'=>∃A c,e=.returned (.slice A (idsF es).length c) ∧
   OwnL idC 9 1 w.heap.size w' (.slice A (idsF es).length c) (idsF es)∧jB w w':=by
 obtain ⟨D0,hown,hperm,hsize⟩:=owns_of_map h hl;have hbl:=hown.lt;have hseq:SeqGives Fence.wide 2 Tryz.prog 146 #[.pointer (some ⟨w.heap.size,0,none⟩)] encStr (fun ss=>ss.Perm (strKeys D0)) (Maps.size D0) (w.alloc (.cells #[.map (some b)] 94)) :=
  AnyZ.keys_gives (ρ:=keysM_ren) { keysM with } Fence.wide _ trivial rfl (by omega) w.heap.size b es.length D0 _ (by simp) (by simp) (by
   obtain ⟨es,clock,hb,Ft,hs,hD⟩:=hown;exact ⟨es,clock,(Below.heap_alloc _ _ b hbl).trans hb,Ft,hs,hD⟩)
 have h1:=callsIn_wide.1 (AnyZ.sorted_in sortedM Fence.wide 5 trivial trivial trivial trivial rfl (by omega) (sortsM _) (enters_of Tryz.func52 (by kernel_rfl) rfl) 146 #[.pointer (some ⟨w.heap.size,0,none⟩)] trivial (enters_of Tryz.func146 (by kernel_rfl) rfl) _ _ (by rw [hsize];unfold maxLen;omega) (by rw [hsize];omega) _ hseq);refine h1.mono ?_;rintro e w' ⟨v,ss,rfl,hS,hrow,_,hb⟩;have e1:(ss.mergeSort fun x y=>decide (x≤y)).map encStr=cellsOfRow idC (idsF es):=by
  unfold idsF;rw [←mergeSort_of_perm (hS.trans hperm)];generalize ss.mergeSort leB=l
  induction l with
  | nil=>rfl
  | cons a l ih =>
    rw [List.map_cons,List.map_cons,cellsOfRow_cons,ih];rfl
 have e2:ss.length=(idsF es).length:=by
  unfold idsF;rw [List.length_map,List.length_mergeSort,←(hS.trans hperm).length_eq]
 rw [e1,e2] at hrow;have hrow':OwnL idC 9 1 w.heap.size w' v (idsF es):=own_lower hrow (by simp);obtain ⟨A,c,rfl⟩:=hrow'.form;exact ⟨A,c,rfl,hrow',(balloc jR _).trans (hb.mono (by simp))⟩
theorem flMadeM_any {P:Nat→Prop} {M:Nat} {c:Cfg} {wd:Wd} {d:FlatD} (w:World) (h:FlMem P w M c wd d) :
 Calls Tryz.prog 48 #[.pointer (some ⟨M,0,none⟩)] w fun e w'=>e=.returned (.bool true)∧w'=w:=by
 obtain ⟨a1,a2,a3⟩:=box_cells jR h.cell;have hq:∀W,(binOp .neq 94 (.map (some d.L)) (.map none)).run Tryz.prog W=.ok (.bool true) W:=fun W=>run_neq_map_nil W _ _ _ (some d.L) Tryz.underlying94
 clear h
 go_enter Tryz.func48,Tryz.ntmps48
 go_wp2_with fail
 go_ret
 exact ⟨rfl,rfl⟩
theorem flIds_any {P:Nat→Prop} {M:Nat} {c:Cfg} {wd:Wd} {d:FlatD} (w:World) (h:FlMem P w M c wd d) (hl:d.es.length≤1000000) :
 Calls Tryz.prog 51 #[.pointer (some ⟨M,0,none⟩)] w fun e w'=>∃A c,e=.returned (.slice A (idsF d.es).length c)∧OwnL idC 9 1 w.heap.size w' (.slice A (idsF d.es).length c) (idsF d.es)∧jB w w':=by
 have CM:=jH (fun W (hW:jB w W)=>flMadeM_any W (h.below hW));have CS:=jH (flSorted_any d.L d.es w h.map hl);obtain ⟨a1,a2,a3⟩:=box_cells jR h.cell;clear h hl
 go_enter Tryz.func51,Tryz.ntmps51
 go_wp2_with (first
  | (go_at_call 48
     refine (CM.out w jR).mono ?_;rintro e w2 ⟨rfl,rfl⟩)
  | (go_at_call 98
     refine (flKeys_any _ _).mono ?_;rintro e w3 ⟨rfl,rfl⟩)
  | (go_at_call 97
     refine CS.out.mono ?_;rintro e w4 ⟨A,c9,rfl,ho4,hb4⟩;have HO4:=jH ho4;have HB4:=jH hb4;clear ho4 hb4))
 go_ret
 exact ⟨A,c9,rfl,HO4.out,HB4.out⟩
end
section
open Go.RowKit Go.Lib
def EvtD.rep' (e:EvtD):RepD:=⟨e.err,e.epoch,e.handle,⟨e.cnt,e.sum,e.least,e.most,e.mean⟩,⟨e.atick,e.aload,e.awant,e.arepl,e.awhy⟩⟩
def EvtD.adv' (e:EvtD):Adv:=⟨e.ntick,e.nload,e.nwant,e.nrepl,e.nwhy⟩
open Classical in
noncomputable def keyId (hi lo:Nat):Option ByteArray:=if h:∃s:ByteArray,IsKey hi lo s.data.toList then some (Classical.choose h) else none
theorem keyId_yes {hi lo:Nat} {s:ByteArray} (h:IsKey hi lo s.data.toList):keyId hi lo=some s:=by
 unfold keyId;have he:∃s:ByteArray,IsKey hi lo s.data.toList:=⟨s,h⟩;rw [dif_pos he];exact congrArg some (ByteArray.ext (Array.toList_inj.1 ((Classical.choose_spec he).one h)))
theorem keyId_no {hi lo:Nat} (h:∀l,¬IsKey hi lo l):keyId hi lo=none:=by
 unfold keyId;rw [dif_neg (fun ⟨s,hs⟩=>h _ hs)]
theorem keyId_is {hi lo:Nat} {s:ByteArray} (h:keyId hi lo=some s):IsKey hi lo s.data.toList:=by
 unfold keyId at h
 split at h
 · rename_i he
   have:=Option.some.inj h;rw [←this];exact Classical.choose_spec he
 · cases h
theorem keyId_none {hi lo:Nat} (h:keyId hi lo=none):∀l,¬IsKey hi lo l:=by
 intro l hl;have h9:=keyId_yes (hi:=hi) (lo:=lo) (s:=⟨l.toArray⟩) hl;rw [h] at h9
 cases h9
def sameRep (a b:RepD):Bool:=decide (a.err=b.err∧a.ep=b.ep∧a.hd=b.hd∧a.st.cnt=b.st.cnt∧a.st.sum=b.st.sum∧a.st.least=b.st.least∧a.st.most=b.st.most∧a.st.mean=b.st.mean∧a.adv.tick=b.adv.tick∧a.adv.load=b.adv.load∧a.adv.want=b.adv.want∧a.adv.repl=b.adv.repl∧a.adv.why=b.adv.why)
noncomputable def applyE (c:Cfg) (rs rh:Nat) (wd:Wd) (e:EvtD):Wd × Bool :=
 if e.kind=2 then ((doW c rs rh wd e.call).1,sameRep (doW c rs rh wd e.call).2 e.rep')
 else if e.kind=6 then (match keyId e.hi e.lo with|none=>(wd,false)|some id=>noteW c rs rh wd id e.adv')
 else (wd,true)
theorem applyE_2 {c:Cfg} {rs rh:Nat} {wd:Wd} {e:EvtD} (h:e.kind=2):applyE c rs rh wd e=((doW c rs rh wd e.call).1,sameRep (doW c rs rh wd e.call).2 e.rep'):=by unfold applyE;rw [if_pos h]
theorem applyE_6s {c:Cfg} {rs rh:Nat} {wd:Wd} {e:EvtD} {id:ByteArray} (h:e.kind=6) (hk:keyId e.hi e.lo=some id):applyE c rs rh wd e=noteW c rs rh wd id e.adv':=by
 unfold applyE;rw [if_neg (by omega),if_pos h,hk]
theorem applyE_6n {c:Cfg} {rs rh:Nat} {wd:Wd} {e:EvtD} (h:e.kind=6) (hk:keyId e.hi e.lo=none):applyE c rs rh wd e=(wd,false):=by
 unfold applyE;rw [if_neg (by omega),if_pos h,hk]
theorem applyE_no {c:Cfg} {rs rh:Nat} {wd:Wd} {e:EvtD} (h2:e.kind≠2) (h6:e.kind≠6):applyE c rs rh wd e=(wd,true):=by
 unfold applyE;rw [if_neg h2,if_neg h6]
theorem applyE_ok {c:Cfg} {rs rh n:Nat} {wd:Wd} {e:EvtD} (h:WdOk c rs rh n wd) (hst:c.st≤64) (hlo:c.lo≤256) (h1:1≤rh) (hx:e.ok):WdOk c rs rh (n+1) (applyE c rs rh wd e).1:=by
 by_cases k2:e.kind=2
 · rw [applyE_2 k2];exact doW_ok h hst hlo h1 hx.call
 · by_cases k6:e.kind=6
   · cases hk:keyId e.hi e.lo with
     | none=>rw [applyE_6n k6 hk];exact h.mono (Nat.le_succ _)
     | some id=>rw [applyE_6s k6 hk];exact noteW_ok h hlo h1
   · rw [applyE_no k2 k6];exact h.mono (Nat.le_succ _)
noncomputable def replayE (c:Cfg) (rs rh:Nat):Wd→Int→List EvtD→Int
  | _,_,[]=>-1
  | wd,i,e::l=>if (Go.Proofs.YtkcdhaallnhhmaaGreat.applyE c rs rh wd e).2=true then replayE c rs rh (Go.Proofs.YtkcdhaallnhhmaaGreat.applyE c rs rh wd e).1 (i+1) l else i
end
end Go.Proofs.YtkcdhaallnhhmaaGreat
