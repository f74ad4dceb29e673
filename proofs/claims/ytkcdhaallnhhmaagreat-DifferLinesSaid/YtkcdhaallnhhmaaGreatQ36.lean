/- Part 36 of the proof: FlF, FlJ, ShClone, FlO, FlId, CallsIn, FlPl, FlAw, StoDuo, FlKy, FlWd, DfSort. -/
import Derived.Shelf.SlMaps.Clone
import Derived.KernelRfl
import Derived.Test.YtkcdhaallnhhmaaGreatQ28
import Derived.Test.YtkcdhaallnhhmaaGreatQ35
namespace Go.Proofs.YtkcdhaallnhhmaaGreat
set_option linter.unusedSimpArgs false
set_option linter.unusedVariables false
set_option linter.unusedSectionVars false
set_option maxRecDepth 100000
set_option maxHeartbeats 16000000
section
open Go.RowKit Go.Lib
theorem flFind_any {P:Nat→Prop} {M:Nat} {c:Cfg} {rs rh n:Nat} {wd:Wd} {d:FlatD} (k:Int) (w:World) (h:FlatAt P w M c rs rh n wd d) (hl:wd.cuts.length≤900000) (hep:∀q∈wd.cuts,0≤q.ep) :
 Calls Tryz.prog 122 #[.pointer (some ⟨M,0,none⟩),.int .i64 k] w fun e w'=>e=.returned (.int .i64 (findT (tabW wd) k))∧w'=w:=by
 obtain ⟨a1,a2,a3⟩:=box_cells jR h.cell;have htl:(tabW wd).length=d.cuts.length:=by rw [h.len];simp [tabW]
 by_cases hk:k<1∨((tabW wd).length:Nat)<k
 · rw [findT_out hk]
   rw [htl] at hk;clear h hl hep htl
   by_cases h1:k<1
   · go_enter Tryz.func122,Tryz.ntmps122
     go_wp2_with fail
     go_ret
     exact ⟨rfl,rfl⟩
   · have h2:(d.cuts.length:Int)<k:=by omega
     clear hk
     go_enter Tryz.func122,Tryz.ntmps122
     go_wp2_with fail
     go_ret
     exact ⟨rfl,rfl⟩
 · obtain ⟨j,hj,rfl⟩:∃j:Nat,j<d.cuts.length∧k=((j+1:Nat):Int):=⟨k.toNat - 1,by omega,by omega⟩
   have hjw:j<wd.cuts.length:=by rw [←h.len];exact hj
   obtain ⟨b,o,hA,hb,hc⟩:=h.row.1.at_ hj;have c2:=hc 2 _ rfl;have hct:=(h.cut j _ _ (List.getElem?_eq_getElem hj) (List.getElem?_eq_getElem hjw)).1;have hr:findT (tabW wd) ((j+1:Nat):Int)=if d.cuts[j].fr=true then 8 else 0:=by
    unfold findT;rw [if_neg (by rw [htl];omega),show ((j+1:Nat):Int).toNat - 1=j by omega];have:(tabW wd)[j]?=some (if wd.cuts[j].freed=true then -1 else wd.cuts[j].ep):=by
     unfold tabW;rw [List.getElem?_map,List.getElem?_eq_getElem hjw];rfl
    rw [this,hct];have:=hep _ (List.getElem_mem hjw)
    cases wd.cuts[j].freed with
    | true=>rfl
    | false =>
      show (if wd.cuts[j].ep<0 then (8:Int) else 0)=_
      rw [if_neg (by omega)];rfl
   rw [hr];generalize d.cuts[j].fr=fr at c2;rw [hA] at a1;have hjm:j≤900000:=by omega
   obtain ⟨cl,hcl⟩:∃n,n=d.cuts.length:=⟨_,rfl⟩;rw [←hcl] at a1;have z1:¬((j:Int)+1)<1:=by omega
   have z2:¬(cl:Int)<((j:Int)+1):=by omega
   have z3:(0:Int)≤(j:Int):=by omega
   have z4:(j:Int)<(cl:Int):=by omega
   have z5:((j:Int)+1) - 1=(j:Int):=by omega
   clear h hl hep htl hk hc hct hr hA hcl hj hjw
   cases fr
   all_goals
     go_enter Tryz.func122,Tryz.ntmps122
     go_wp2_with fail
     go_ret
     exact ⟨rfl,rfl⟩
end
section
open Go.RowKit Go.Lib Go.Sort
theorem serOf_any (room:Nat) (A:Option Addr) (c:Nat) (l:List Smp) (w:World) (hv:RowIn 2 smpC w (.slice A l.length c) l) (hl:l.length≤1000000) (h1:1≤room) (h2:room≤256) (hpos:∀x∈l,0≤x.1∧0≤x.2) :
 Calls Tryz.prog 115 #[.int .i64 (room:Nat),.slice A l.length c] w (NewSer w (foldS (room:Nat) l) (room:Nat)):=by
 have CN:=jH (serNew_any (room:Nat) w (by omega) (by omega));have HV:=jH hv;have HP:=jH hpos;have HR:=jH (And.intro h1 h2);have HL:=jH hl;clear hv hpos h1 h2;unfold NewSer at CN ⊢
 go_enter Tryz.func115,Tryz.ntmps115
 go_wp2_with (first
  | (go_at_call 164
     refine CN.out.mono ?_;rintro e w1 ⟨S,fp,rfl,hs1,hf1,hb1⟩;have HS1:=jH hs1;have HF1:=jH hf1;have HB1:=jH hb1;clear hs1 hf1 hb1))
 go_loopg [7,12] l.length (fun g _ s12 wr=>∃k:Nat,k≤l.length∧l.length - k≤g∧s12=.int .i64 k∧jB w wr∧∃fp,SerIn wr S (foldS (room:Nat) (l.take k)) (room:Nat) fp∧∀x∈fp,w.heap.size≤x)
 case atStart=>exact ⟨0,Nat.zero_le _,Nat.le_refl _,rfl,HB1.out,_,HS1.out,HF1.out⟩
 case round =>
  obtain ⟨k,hk,hg,rfl,hbr,fp2,hs2,hf2⟩:=hrel;have HBR:=jH hbr;have HS2:=jH hs2;have HF2:=jH hf2;clear hbr hs2 hf2
  by_cases hlt:k<l.length
  · obtain ⟨b,o,rfl,hb,hc⟩:=HV.out.at_ hlt
    have hp:=HP.out _ (List.getElem_mem hlt);have hfo:=foldS_ok room (l.take k);have HPUT:=jH (fun W (hW:jB wr W)=>serPut_any S (foldS (room:Nat) (l.take k)) (room:Nat) fp2 l[k] W (HS2.out.kept (fun r hr=>hW.block r (HS2.out.lt r hr))) hfo.1 (by have:=HR.out.2;omega) (by have:=HR.out.1;omega) hp.1 hp.2);rw [←foldS_take (room:Nat) l k hlt] at HPUT;have c0:wr.cell? ⟨b,o+k * 2,none⟩=some (.int .i64 l[k].1):=(HBR.out.cell (p:=⟨b,_,none⟩) hb).trans (hc 0 _ rfl)
    have c1:wr.cell? ⟨b,o+k * 2+1,none⟩=some (.int .i64 l[k].2):=(HBR.out.cell (p:=⟨b,_,none⟩) hb).trans (hc 1 _ rfl);clear hc hfo hb;generalize l[k]=x at c0 c1 hp HPUT;clear hp
    go_wp2_with (first
     | (go_at_call 165
        refine calls_named ?_;intro W2 hW2;have hb2:jB wr W2:=by rw [hW2];exact balloc jR _
        clear hW2;refine (HPUT.out W2 hb2).mono ?_;rintro e w3 ⟨fp3,rfl,hs3,hu3⟩;have HS3:=jH hs3;have HF3:=jH (show ∀x∈fp3,w.heap.size≤x from fun x hx=>(hu3.fresh x hx).elim (HF2.out x) (fun h=>Nat.le_trans HBR.out.size (Nat.le_trans hb2.size h)));have HB3:=jH ((bthen HBR.out hb2).trans (hu3.below (Nat.le_trans HBR.out.size hb2.size) HF2.out));clear hs3 hu3 hb2))
    go_roundg (l.length - (k+1))
    case measure=>omega
    case rel=>exact ⟨k+1,hlt,Nat.le_refl _,by go_num,HB3.out,fp3,HS3.out,HF3.out⟩
  · obtain rfl:k=l.length:=by omega
    have hs3:=HS2.out;rw [List.take_length] at hs3;have HS3:=jH hs3;clear hs3;go_wp2
    go_ret
    exact ⟨S,fp2,rfl,HS3.out,HF2.out,HBR.out⟩
end
section
open Go.Shelf
def cloneM_ren:Go.Shelf.Ren:=⟨fun|5=>49|7=>96|n=>n,fun|23=>94|25=>9|3=>50|4=>4|20=>20|n=>n,fun|n=>n⟩
theorem cloneM:Go.Proofs.SlLaysW.n5 Tryz.prog cloneM_ren:={
  mixed:=by kernel_rfl
  f5:=⟨Tryz.f49.name,by decide,Tryz.func49.trans (congrArg some (by kernel_rfl))⟩
  f7:=Tryz.func96.trans (congrArg some (by kernel_rfl))
  t4:=Tryz.underlying4
  a4:=Tryz.isAgg4
  z4:=Tryz.sizeOf4
  v4:=Tryz.zeroValue4
  t20:=Tryz.underlying20
  a20:=Tryz.isAgg20
  z20:=Tryz.sizeOf20
  v20:=Tryz.zeroValue20
  t23:=Tryz.underlying94
  a23:=Tryz.isAgg94
  z23:=Tryz.sizeOf94
  v23:=Tryz.zeroValue94 }
end
section
open Go.RowKit Go.Lib
section
variable {P:Program} {ops:Array Oper} {Q:Exit→Act→World→Prop} {md:Region.Mode} {S:World→Prop} {k:Nat}
end
def liveF (l:List FCut):Nat:=l.countP fun x=>!x.fr
theorem liveF_law {P:Nat→Prop} {w:World} {M:Nat} {c:Cfg} {wd:Wd} {d:FlatD} (h:FlMem P w M c wd d) (hep:∀q∈wd.cuts,0≤q.ep):liveF d.cuts=liveT (tabW wd):=by
 have e:d.cuts.map (·.fr)=wd.cuts.map (·.freed):=by
  apply List.ext_getElem?
  intro i;rw [List.getElem?_map,List.getElem?_map]
  by_cases hi:i<d.cuts.length
  · have hj:i<wd.cuts.length:=by rw [←h.len];exact hi
    rw [List.getElem?_eq_getElem hi,List.getElem?_eq_getElem hj];exact congrArg some (h.cut i _ _ (List.getElem?_eq_getElem hi) (List.getElem?_eq_getElem hj)).1
  · rw [List.getElem?_eq_none (by omega),List.getElem?_eq_none (by have:=h.len;omega)]
    rfl
 have e1:liveF d.cuts=(d.cuts.map (·.fr)).countP fun b=>!b:=by unfold liveF;rw [List.countP_map];rfl
 rw [e1,e];unfold liveT tabW;rw [List.countP_map,List.countP_map];refine List.countP_congr (fun q hq=>?_);have:=hep q hq;simp only [Function.comp]
 by_cases hfq:q.freed=true
 · simp [hfq]
 · simp [hfq];omega
theorem liveF_take (l:List FCut) (k:Nat) (h:k<l.length):liveF (l.take (k+1))=liveF (l.take k)+(if l[k].fr=true then 0 else 1):=by
 unfold liveF;rw [List.take_succ_eq_append_getElem h,List.countP_append,List.countP_singleton]
 cases l[k].fr <;> rfl
theorem flLive_any {P:Nat→Prop} {M:Nat} {c:Cfg} {wd:Wd} {d:FlatD} (w:World) (h:FlMem P w M c wd d) (hl:d.cuts.length≤900000) :
 Calls Tryz.prog 120 #[.pointer (some ⟨M,0,none⟩)] w (jP w (.int .i64 (liveF d.cuts:Nat))):=by
 have HV:=jH h.row.1;obtain ⟨a1,a2,a3⟩:=box_cells jR h.cell;obtain ⟨l,hll⟩:∃l,l=d.cuts:=⟨_,rfl⟩;rw [←hll] at HV a1 hl ⊢;obtain ⟨A,hA⟩:∃A,A=d.A:=⟨_,rfl⟩;obtain ⟨cp,hcp⟩:∃A,A=d.cp:=⟨_,rfl⟩;rw [←hA,←hcp] at HV a1;clear h hll hA hcp
 go_enter Tryz.func120,Tryz.ntmps120
 go_wp2_with fail
 clear a1 a2 a3
 go_loopg [3,5,11] l.length (fun g s3 _ s11 wr=>∃(k m:Nat),k≤l.length∧l.length - k≤g∧s11=.int .i64 k∧s3=.int .i64 (m:Nat)∧Hid (m=liveF (l.take k))∧jB w wr)
 case atStart=>exact ⟨0,0,Nat.zero_le _,Nat.le_refl _,rfl,rfl,jH rfl,jR⟩
 case round =>
  obtain ⟨k,m,hk,hg,rfl,rfl,HM,hbr⟩:=hrel;have HBR:=jH hbr;clear hbr
  by_cases hlt:k<l.length
  · obtain ⟨b,o,rfl,hb,hc⟩:=HV.out.at_ hlt
    have c0:wr.cell? ⟨b,o+k * 3,none⟩=some (.int .i64 l[k].ep):=(HBR.out.cell (p:=⟨b,_,none⟩) hb).trans (hc 0 _ rfl);have c1:wr.cell? ⟨b,o+k * 3+1,none⟩=some (.map l[k].m):=(HBR.out.cell (p:=⟨b,_,none⟩) hb).trans (hc 1 _ rfl);have c2:wr.cell? ⟨b,o+k * 3+2,none⟩=some (.bool l[k].fr):=(HBR.out.cell (p:=⟨b,_,none⟩) hb).trans (hc 2 _ rfl);have HT:=jH (liveF_take l k hlt);have hmb:m≤900000:=by
     have h1:=HM.out;have h2:liveF (l.take k)≤(l.take k).length:=List.countP_le_length;rw [List.length_take] at h2;omega
    have hw:wrap64 ((m:Int)+1)=((m+1:Nat):Int):=by unfold wrap64;omega
    have HW:=jH hw;clear hc hb hw hmb;generalize l[k]=x at c0 c1 c2 HT;obtain ⟨xe,xm,xes,xf⟩:=x;dsimp only at c0 c1 c2 HT
    cases xf
    · go_wp2_with fail
      go_roundg (l.length - (k+1))
      case measure=>omega
      case rel=>exact ⟨k+1,m+1,hlt,Nat.le_refl _,by go_num,by rw [HW.out],jH (by rw [HT.out,←HM.out];rfl),balloc HBR.out _⟩
    · go_wp2_with fail
      go_roundg (l.length - (k+1))
      case measure=>omega
      case rel=>exact ⟨k+1,m,hlt,Nat.le_refl _,by go_num,rfl,jH (by rw [HT.out,←HM.out];rfl),balloc HBR.out _⟩
  · obtain rfl:k=l.length:=by omega
    have hm:=HM.out;rw [List.take_length] at hm;have HM2:=jH hm;clear hm;go_wp2_with fail
    go_ret
    exact ⟨by rw [HM2.out];rfl,HBR.out⟩
theorem flClip_any (A:Option Addr) (n c:Nat) (w:World) (hc:n≤c) :
 Calls Tryz.prog 121 #[.slice A n c] w fun e w'=>e=.returned (.slice A n n)∧w'=w:=by
 go_enter Tryz.func121,Tryz.ntmps121
 go_wp2_with fail
 go_ret
 exact ⟨rfl,rfl⟩
end
section
open Go.RowKit Go.Lib Go.Sort Go.Maps Go.Shelf
def idC (s:ByteArray):List Value:=[.string s]
theorem eId:EltOf 37 9 1 16 (.string ⟨#[]⟩) idC :=
 ⟨by kernel_rfl,by kernel_rfl,rfl,by decide,by decide,fun _=>rfl,fun x u hu=>by
  simp only [idC,List.mem_cons,List.not_mem_nil,or_false] at hu
  subst hu
  rfl⟩
def bytesK (es:List (SK × It)):List (List UInt8):=es.map fun p=>p.1.1.data.toList
def idsF (es:List (SK × It)):List ByteArray:=((bytesK es).mergeSort fun x y=>decide (x≤y)).map fun x=>⟨x.toArray⟩
def anyR (H:Type):Value→Option (DataW H × List MemPlace):=fun _=>some (.nil,[])
theorem owns_of_map {w:World} {L:Nat} {es:List (SK × It)} (h:MapIn skV ldV w L es) (hl:es.length≤1000000) :
 ∃D0:DataW Unit,w.ownsMap Tryz.prog 9 (anyR Unit) L es.length D0∧(strKeys D0).Perm (bytesK es)∧Maps.size D0=es.length:=by
 obtain ⟨ents,clock,hb,hkv,hbn,hcl,hn⟩:=h;have hsz:ents.size=es.length:=by simpa using congrArg List.length hkv
 have hkeys:ents.toList.map (·.key)=es.map fun p=>skV p.1:=by
  have:=congrArg (List.map Prod.fst) hkv;rw [List.map_map,List.map_map] at this;exact this
 have hrd:∀x∈ents.toList,∃s:SK,x.key=skV s∧Go.WideElems.rd Tryz.prog 9 (anyR Unit) x=some (.string s.1.data.toList,.nil):=fun x hx=>by
  obtain ⟨p,hp,hk,_⟩:=ents_mem hkv hx;refine ⟨p.1,hk,?_⟩;unfold Go.WideElems.rd;rw [hk]
  show (keyOf Tryz.prog 9 (.string p.1.1)).bind _=_
  rw [Go.WideMaps.keyOf_string_mk Tryz.underlying9 p.1.2];rfl
 have hnd:(ents.toList.map (·.key)).Nodup:=by
  rw [hkeys];have e:(es.map fun p=>skV p.1)=(es.map (·.1)).map skV:=by rw [List.map_map];rfl
  rw [e];exact List.pairwise_map.2 (hn.imp (fun hne e=>hne (keysSk.inj _ _ e)))
 refine ⟨_,⟨ents,clock,hb,⟨by rw [hsz];unfold maxLen;omega,⟨hcl,hbn,hnd⟩,fun x hx=>by obtain ⟨s,_,h1⟩:=hrd x hx;exact ⟨_,h1⟩⟩,Nat.le_of_eq hsz,rfl⟩,?_,?_⟩
 · show ((List.foldr DataW.insert [] (ents.toList.map (Go.WideElems.rg Tryz.prog 9 (anyR Unit)))).map fun p=>strOf p.1).Perm _
   refine ((Go.WideShapes.sorted_perm _).map _).trans (List.Perm.of_eq ?_);rw [List.map_map];have e:bytesK es=(es.map fun p=>skV p.1).map fun v=>match v with|.string s=>s.data.toList|_=>[]:=by
    unfold bytesK;rw [List.map_map];rfl
   rw [e,←hkeys,List.map_map];refine List.map_congr_left (fun x hx=>?_);obtain ⟨s,hk,h1⟩:=hrd x hx;simp only [Function.comp,Go.WideElems.rg,h1,hk,skV,Option.getD_some]
   rfl
 · show (List.foldr DataW.insert [] _).length=_
   rw [length_sorted,List.length_map,Array.length_toList,hsz]
theorem sortsM (m:Nat):AnyZ.SortsIn Tryz.prog sortedM_ren Fence.wide m :=
 ⟨fun blk off cap ss W hH hblk hsz=>callsIn_wide.2 (AnyM.slices_Sort_string sortM blk off cap ss W hH hblk hsz),
  fun p cap W=>callsIn_wide.2 (AnyM.slices_Sort_string_none sortM p cap W)⟩
theorem flKeys_any (mb:Option Nat) (W:World):Calls Tryz.prog 98 #[.map mb] W fun e w'=>e=.returned (.func (.func 146) #[] #[.pointer (some ⟨W.heap.size,0,none⟩)])∧w'=W.alloc (.cells #[.map mb] 94) :=
 callsIn_wide.1 (AnyZ.keys_in keysM Fence.wide 5 trivial rfl mb W)
theorem flSorted_any (b:Nat) (es:List (SK × It)) (w:World) (h:MapIn skV ldV w b es) (hl:es.length≤1000000) :
 Calls Tryz.prog 97 #[.func (.func 146) #[] #[.pointer (some ⟨w.heap.size,0,none⟩)]] (w.alloc (.cells #[.map (some b)] 94)) fun e w'=>∃A c,e=.returned (.slice A (idsF es).length c) ∧
   OwnL idC 9 1 w.heap.size w' (.slice A (idsF es).length c) (idsF es)∧jB w w':=by
 obtain ⟨D0,hown,hperm,hsize⟩:=owns_of_map h hl;have hbl:=hown.lt;have hseq:SeqGives Fence.wide 2 Tryz.prog 146 #[.pointer (some ⟨w.heap.size,0,none⟩)] encStr (fun ss=>ss.Perm (strKeys D0)) (Maps.size D0) (w.alloc (.cells #[.map (some b)] 94)) :=
  AnyZ.keys_gives (ρ:=keysM_ren) { keysM with } Fence.wide _ trivial rfl (by omega) w.heap.size b es.length D0 _ (by simp) (by simp) (by
   obtain ⟨es,clock,hb,Ft,hs,hD⟩:=hown;exact ⟨es,clock,(Below.heap_alloc _ _ b hbl).trans hb,Ft,hs,hD⟩)
 have h1:=callsIn_wide.1 (AnyZ.sorted_in sortedM Fence.wide 5 trivial trivial trivial trivial rfl (by omega) (sortsM _) (enters_of Tryz.func52 (by kernel_rfl) rfl) 146 #[.pointer (some ⟨w.heap.size,0,none⟩)] trivial (enters_of Tryz.func146 (by kernel_rfl) rfl) _ _ (by rw [hsize];unfold maxLen;omega) (by rw [hsize];omega) _ hseq);refine h1.mono ?_;rintro e w' ⟨v,ss,rfl,hS,hrow,_,hb⟩;have e1:(ss.mergeSort fun x y=>decide (x≤y)).map encStr=cellsOfRow idC (idsF es):=by
  unfold idsF;rw [←mergeSort_of_perm (hS.trans hperm)];generalize ss.mergeSort leB=l
  induction l with
  | nil=>rfl
  | cons a l ih =>
    rw [List.map_cons,List.map_cons,cellsOfRow_cons,ih];rfl
 have e2:ss.length=(idsF es).length:=by
  unfold idsF;rw [List.length_map,List.length_mergeSort,←(hS.trans hperm).length_eq]
 rw [e1,e2] at hrow;have hrow':OwnL idC 9 1 w.heap.size w' v (idsF es):=own_lower hrow (by simp);obtain ⟨A,c,rfl⟩:=hrow'.form;exact ⟨A,c,rfl,hrow',(balloc jR _).trans (hb.mono (by simp))⟩
theorem flMadeM_any {P:Nat→Prop} {M:Nat} {c:Cfg} {wd:Wd} {d:FlatD} (w:World) (h:FlMem P w M c wd d) :
 Calls Tryz.prog 48 #[.pointer (some ⟨M,0,none⟩)] w fun e w'=>e=.returned (.bool true)∧w'=w:=by
 obtain ⟨a1,a2,a3⟩:=box_cells jR h.cell;have hq:∀W,(binOp .neq 94 (.map (some d.L)) (.map none)).run Tryz.prog W=.ok (.bool true) W:=fun W=>run_neq_map_nil W _ _ _ (some d.L) Tryz.underlying94
 clear h
 go_enter Tryz.func48,Tryz.ntmps48
 go_wp2_with fail
 go_ret
 exact ⟨rfl,rfl⟩
theorem flIds_any {P:Nat→Prop} {M:Nat} {c:Cfg} {wd:Wd} {d:FlatD} (w:World) (h:FlMem P w M c wd d) (hl:d.es.length≤1000000) :
 Calls Tryz.prog 51 #[.pointer (some ⟨M,0,none⟩)] w fun e w'=>∃A c,e=.returned (.slice A (idsF d.es).length c)∧OwnL idC 9 1 w.heap.size w' (.slice A (idsF d.es).length c) (idsF d.es)∧jB w w':=by
 have CM:=jH (fun W (hW:jB w W)=>flMadeM_any W (h.below hW));have CS:=jH (flSorted_any d.L d.es w h.map hl);obtain ⟨a1,a2,a3⟩:=box_cells jR h.cell;clear h hl
 go_enter Tryz.func51,Tryz.ntmps51
 go_wp2_with (first
  | (go_at_call 48
     refine (CM.out w jR).mono ?_;rintro e w2 ⟨rfl,rfl⟩)
  | (go_at_call 98
     refine (flKeys_any _ _).mono ?_;rintro e w3 ⟨rfl,rfl⟩)
  | (go_at_call 97
     refine CS.out.mono ?_;rintro e w4 ⟨A,c9,rfl,ho4,hb4⟩;have HO4:=jH ho4;have HB4:=jH hb4;clear ho4 hb4))
 go_ret
 exact ⟨A,c9,rfl,HO4.out,HB4.out⟩
end
section
open Go.RowKit Go.Lib
def CallIn (w:World) (b o:Nat) (x:CallD):Prop :=
 w.cell? ⟨b,o,none⟩=some (.int .i64 x.kind)∧w.cell? ⟨b,o+1,none⟩=some (.string x.id)∧w.cell? ⟨b,o+2,none⟩=some (.int .i64 x.tick)∧w.cell? ⟨b,o+3,none⟩=some (.int .i64 x.val)∧w.cell? ⟨b,o+4,none⟩=some (.int .i64 x.handle) ∧
 w.cell? ⟨b,o+5,none⟩=some (.int .i64 x.pol.mn)∧w.cell? ⟨b,o+6,none⟩=some (.int .i64 x.pol.mx)∧w.cell? ⟨b,o+7,none⟩=some (.int .i64 x.pol.tg)∧w.cell? ⟨b,o+8,none⟩=some (.int .i64 x.pol.tol)∧w.cell? ⟨b,o+9,none⟩=some (.int .i64 x.pol.win)∧w.cell? ⟨b,o+10,none⟩=some (.int .i64 x.pol.hold)
theorem calls_at {w:World} {A:Option Addr} {m c:Nat} {l:List CallD} (h:RowIn 11 callCells w (.slice A m c) l) {k:Nat} (hk:k<l.length) :
 ∃b o,A=some ⟨b,o,none⟩∧b<w.heap.size∧∀W,jB w W→CallIn W b (o+k * 11) l[k]:=by
 obtain ⟨b,o,hA,hb,hc⟩:=h.at_ hk;have hW:∀W,jB w W→∀j u,(callCells l[k])[j]?=some u→W.cell? ⟨b,o+k * 11+j,none⟩=some u:=fun W hW j u hu=>(hW.cell (p:=⟨b,_,none⟩) hb).trans (hc j u hu)
 exact ⟨b,o,hA,hb,fun W h=>⟨hW W h 0 _ rfl,hW W h 1 _ rfl,hW W h 2 _ rfl,hW W h 3 _ rfl,hW W h 4 _ rfl,hW W h 5 _ rfl,hW W h 6 _ rfl,hW W h 7 _ rfl,hW W h 8 _ rfl,hW W h 9 _ rfl,hW W h 10 _ rfl⟩⟩
end
section
open Go.RowKit Go.Lib
theorem beforeL_lt:∀a b:List UInt8,beforeL a b=decide (a<b)
  | [],[]=>rfl
  | [],b::m=>by
    have:([]:List UInt8)<b::m:=List.nil_lt_cons b m;rw [decide_eq_true this];rfl
  | a::l,[]=>by
    have:¬(a::l)<([]:List UInt8):=List.not_lt_nil _;rw [decide_eq_false this];rfl
  | a::l,b::m=>by
    have ih:=beforeL_lt l m;rw [beforeL]
    by_cases e:a=b
    · subst e
      rw [if_pos rfl,ih];have:(a::l<a::m) ↔ l<m:=List.cons_lt_cons_self;simp only [this]
    · rw [if_neg e]
      have:(a::l<b::m) ↔ a<b:=by rw [List.cons_lt_cons_iff];simp [e]
      simp only [this,UInt8.lt_iff_toNat_lt]
theorem beforeS_irr (a:ByteArray):beforeS a a=false:=by
 unfold beforeS;rw [beforeL_lt];simp
theorem beforeS_trans {a b c:ByteArray} (h1:beforeS a b=true) (h2:beforeS b c=true):beforeS a c=true:=by
 unfold beforeS at *;rw [beforeL_lt,decide_eq_true_eq] at *;exact List.lt_trans h1 h2
theorem beforeS_tot {a b:ByteArray} (h:beforeS a b=false) (hne:a≠b):beforeS b a=true:=by
 unfold beforeS at *;rw [beforeL_lt,decide_eq_false_iff_not] at h;rw [beforeL_lt,decide_eq_true_eq];have h1:b.data.toList≤a.data.toList:=List.not_lt.1 h
 rcases Decidable.em (b.data.toList<a.data.toList) with h2|h2
 · exact h2
 · exact absurd (ByteArray.ext (Array.toList_inj.1 (List.le_antisymm (List.not_lt.1 h2) h1))) hne
def insB (id:ByteArray):List ByteArray→List ByteArray
  | []=>[id]
  | y::ys=>if beforeS y id=true then y::insB id ys else if y=id then y::ys else id::y::ys
def refI (ok:ByteArray→Bool) (l:List ByteArray):List ByteArray:=l.foldl (fun out id=>if ok id=true then insB id out else out) []
abbrev SrtB (l:List ByteArray):Prop:=l.Pairwise fun a b=>beforeS a b=true
theorem mem_insB {id x:ByteArray}:∀{l:List ByteArray},x∈insB id l ↔ x=id∨x∈l
  | []=>by simp [insB]
  | y::ys=>by
    have ih:=mem_insB (id:=id) (x:=x) (l:=ys);unfold insB
    split
    · rw [List.mem_cons,ih,List.mem_cons]
      constructor
      · rintro (h|h|h)
        · exact .inr (.inl h)
        · exact .inl h
        · exact .inr (.inr h)
      · rintro (h|h|h)
        · exact .inr (.inl h)
        · exact .inl h
        · exact .inr (.inr h)
    · split
      · rename_i _ he
        rw [List.mem_cons,he]
        constructor
        · exact .inr
        · rintro (h|h)
          · exact .inl h
          · exact h
      · rw [List.mem_cons]
theorem insB_srt {id:ByteArray}:∀{l:List ByteArray},SrtB l→SrtB (insB id l)
  | [],_=>by simp [insB]
  | y::ys,h=>by
    have h:=List.pairwise_cons.1 h;unfold insB
    split
    · rename_i hb
      refine List.pairwise_cons.2 ⟨fun z hz=>?_,insB_srt h.2⟩
      rcases mem_insB.1 hz with rfl|hz
      · exact hb
      · exact h.1 z hz
    · rename_i hb
      split
      · exact List.pairwise_cons.2 h
      · rename_i hne
        have hy:=beforeS_tot (by simpa using hb) hne;refine List.pairwise_cons.2 ⟨fun z hz=>?_,List.pairwise_cons.2 h⟩
        rcases List.mem_cons.1 hz with rfl|hz
        · exact hy
        · exact beforeS_trans hy (h.1 z hz)
theorem insB_at (id:ByteArray):∀(l:List ByteArray) (a:Nat),a≤l.length→(∀j (h:j<l.length),j<a→beforeS l[j] id=true)→(∀h:a<l.length,beforeS l[a] id=false) →
    insB id l=if l[a]?=some id then l else l.take a++(id::l.drop a)
  | [],a,ha,_,_=>by simp [insB]
  | y::ys,0,ha,_,h2=>by
    have h3:=h2 (by simp);simp only [List.getElem_cons_zero] at h3
    unfold insB;rw [if_neg (by rw [h3];decide)];simp only [List.getElem?_cons_zero,Option.some.injEq,List.take_zero,List.nil_append,List.drop_zero]
  | y::ys,a+1,ha,h1,h2=>by
    have h3:=h1 0 (by simp) (by omega);simp only [List.getElem_cons_zero] at h3
    have ih:=insB_at id ys a (by simpa using ha) (fun j h hj=>by have:=h1 (j+1) (by simp;exact h) (by omega);rwa [List.getElem_cons_succ] at this) (fun h=>by have:=h2 (by simp;exact h);rwa [List.getElem_cons_succ] at this);unfold insB;rw [if_pos h3,ih];simp only [List.getElem?_cons_succ,List.take_succ_cons,List.drop_succ_cons,List.cons_append]
    split <;> rfl
theorem refI_srt (ok:ByteArray→Bool) (l:List ByteArray):SrtB (refI ok l):=by
 unfold refI;have:∀(l out:List ByteArray),SrtB out→SrtB (l.foldl (fun out id=>if ok id=true then insB id out else out) out):=by
  intro l
  induction l with
  | nil=>intro out h;exact h
  | cons x l ih =>
    intro out h;rw [List.foldl_cons];refine ih _ ?_
    split
    · exact insB_srt h
    · exact h
 exact this l [] List.Pairwise.nil
theorem mem_refI {ok:ByteArray→Bool} {l:List ByteArray} {x:ByteArray}:x∈refI ok l ↔ x∈l∧ok x=true:=by
 unfold refI;have:∀(l out:List ByteArray),x∈l.foldl (fun out id=>if ok id=true then insB id out else out) out ↔ (x∈l∧ok x=true)∨x∈out:=by
  intro l
  induction l with
  | nil=>intro out;simp
  | cons y l ih =>
    intro out;rw [List.foldl_cons,ih]
    by_cases hy:ok y=true
    · rw [if_pos hy,mem_insB,List.mem_cons]
      constructor
      · rintro (h|h|h)
        · exact .inl ⟨.inr h.1,h.2⟩
        · subst h;exact .inl ⟨.inl rfl,hy⟩
        · exact .inr h
      · rintro (⟨h|h,h9⟩|h)
        · exact .inr (.inl h)
        · exact .inl ⟨h,h9⟩
        · exact .inr (.inr h)
    · rw [if_neg hy,List.mem_cons]
      constructor
      · rintro (h|h)
        · exact .inl ⟨.inr h.1,h.2⟩
        · exact .inr h
      · rintro (⟨h|h,h9⟩|h)
        · subst h;exact absurd h9 hy
        · exact .inl ⟨h,h9⟩
        · exact .inr h
 rw [this];simp
theorem srtB_eq:∀{l m:List ByteArray},SrtB l→SrtB m→(∀x,x∈l ↔ x∈m)→l=m
  | [],[],_,_,_=>rfl
  | [],b::m,_,_,h=>by have:=(h b).2 (by simp);cases this
  | a::l,[],_,_,h=>by have:=(h a).1 (by simp);cases this
  | a::l,b::m,hl,hm,h=>by
    have hl:=List.pairwise_cons.1 hl;have hm:=List.pairwise_cons.1 hm;have hasy:∀{x y:ByteArray},beforeS x y=true→beforeS y x=true→False:=fun h1 h2=>by
     have:=beforeS_trans h1 h2;rw [beforeS_irr] at this
     cases this
    have e:a=b:=by
     rcases List.mem_cons.1 ((h a).1 (by simp)) with h1|h1
     · exact h1
     · rcases List.mem_cons.1 ((h b).2 (by simp)) with h2|h2
       · exact h2.symm
       · exact (hasy (hm.1 a h1) (hl.1 b h2)).elim
    subst e;refine congrArg (a::·) (srtB_eq hl.2 hm.2 fun x=>⟨fun hx=>?_,fun hx=>?_⟩)
    · rcases List.mem_cons.1 ((h x).1 (List.mem_cons_of_mem _ hx)) with h1|h1
      · subst h1;exact absurd (hl.1 x hx) (by rw [beforeS_irr];decide)
      · exact h1
    · rcases List.mem_cons.1 ((h x).2 (List.mem_cons_of_mem _ hx)) with h1|h1
      · subst h1;exact absurd (hm.1 x hx) (by rw [beforeS_irr];decide)
      · exact h1
theorem insB_len (id:ByteArray):∀l:List ByteArray,(insB id l).length≤l.length+1
  | []=>by simp [insB]
  | y::ys=>by
    have:=insB_len id ys;unfold insB
    split
    · simp only [List.length_cons];omega
    · split <;> simp
theorem refI_len (ok:ByteArray→Bool) (l:List ByteArray):(refI ok l).length≤l.length:=by
 unfold refI;have:∀(l out:List ByteArray),(l.foldl (fun out id=>if ok id=true then insB id out else out) out).length≤out.length+l.length:=by
  intro l
  induction l with
  | nil=>intro out;simp
  | cons x l ih =>
    intro out;rw [List.foldl_cons];refine Nat.le_trans (ih _) ?_
    split
    · have:=insB_len x out;simp only [List.length_cons];omega
    · simp only [List.length_cons];omega
 have h:=this l []
 simpa using h
end
section
open Go.RowKit Go.Lib
theorem flNote_any {P:Nat→Prop} {w:World} {M:Nat} {c:Cfg} {rs rh n:Nat} {wd:Wd} {d:FlatD} (s:SK) (av:Adv) (h:FW P w M c rs rh n wd d) (hP:∀b,w.heap.size≤b→P b) (hc:CfgOk c rs rh) (hs:idS s.1=true) :
 Calls Tryz.prog 45 #[.pointer (some ⟨M,0,none⟩),.string s.1,.agg (advC av).toArray] w (FWSays P w M c rs rh (n+1) d.L (.bool (noteW c rs rh wd s.1 av).2) (noteW c rs rh wd s.1 av).1):=by
 cases hf:findM d.es s with
 | none =>
   have CL:=jH (fun W (hW:jB w W)=>flLoad_any s W (h.at_.below hW) (h.small hc));rw [hf] at CL;rw [h.at_.tells.note_no s hs av hf];refine (flNote_none _ _ av w CL).mono ?_;rintro e w' ⟨rfl,hb⟩;exact h.same (Nat.le_succ _) hb
 | some x =>
   rw [(h.at_.tells.note (rs:=rs) hc.st s hs av x hf ⟨x.key,x.sA,x.sc,x.pA,x.pc,noteF rh x.nd av⟩ rfl).1];exact flNote_some s av x h hP hc hs hf
theorem FlTells.none {c:Cfg} {es:List (SK × It)} {wd:Wd} (h:FlTells c es wd) (s:SK) (hs:idS s.1=false):findM es s=none:=by
 refine findM_none ?_
 cases hh:hasM es s with
 | false=>rfl
 | true =>
   obtain ⟨p,hp,rfl⟩:=List.mem_map.1 ((hasM_iff es s).1 hh);rw [h.has.1 p hp] at hs
   cases hs
theorem fw_new (c:Cfg) (rs rh k:Nat) (w:World) (hc:CfgOk c rs rh) (hk:(k:Int)=c.st) :
 Calls Tryz.prog 10 #[cfgV c] w fun e w'=>∃M d,e=.returned (.pointer (some ⟨M,0,none⟩))∧FW (fun b=>b≠M∧b≠d.L) w' M c rs rh 0 (newW k) d∧w.heap.size≤M∧w.heap.size≤d.L∧jB w w':=by
 refine (flNew_ok c rs rh k w hc.ok (by unfold cfgE;rw [if_pos hc.cfg]) hk).mono ?_;rintro e w' ⟨M,d,rfl,h,h1,h2,h3⟩;exact ⟨M,d,rfl,⟨h,newW_ok c rs rh k hk⟩,h1,h2,h3⟩
def cB22:Cfg:=⟨1,4,4,2⟩
def idB:ByteArray:={ data:=#[97] }
def advB:Adv:=⟨1,250,3,3,2⟩
def xB1:CallD:=⟨6,idB,0,0,0,⟨1,10,100,100,5,3⟩⟩
def xB2:CallD:=⟨1,idB,1,250,0,⟨0,0,0,0,0,0⟩⟩
def wB1:Wd:=(doW cB22 4 2 (newW 1) xB1).1
def wB2:Wd:=(doW cB22 4 2 wB1 xB2).1
theorem pB:planW wB2 idB=(advB,0):=by kernel_rfl
end
section
open Go.RowKit Go.Lib
def Off (B:Nat→Prop) (fp:List Nat) (n0 n1 b:Nat):Prop:=(b∉fp∧B b)∧(b<n0∨n1≤b)
theorem WdIn.off {B:Nat→Prop} {w W:World} {fp:List Nat} {x:WdH} (h:WdIn (fun b=>b∉fp∧B b) w x) (hb:jB w W):WdIn (Off B fp w.heap.size W.heap.size) W x :=
 (h.old.below hb).imp (fun b hb'=>⟨hb'.1,.inl hb'.2⟩)
end
section
open Go.RowKit Go.Lib
def NamedW (S:List ByteArray) (wd:Wd):Prop:=∀q∈allW wd,∃id∈S,idS id=true∧keyK id=q.1
theorem NamedW.same {S:List ByteArray} {wd wd':Wd} (h:NamedW S wd) (he:(allW wd').map (·.1)=(allW wd).map (·.1)):NamedW S wd':=fun q hq=>by
 have h1:q.1∈(allW wd).map (·.1):=by rw [←he];exact List.mem_map.2 ⟨q,hq,rfl⟩
 obtain ⟨q',hq',e⟩:=List.mem_map.1 h1;rw [←e];exact h q' hq'
theorem keys_oneP {c:Cfg} {rs rh:Nat} {R:List Itm} {k:Ky} {a:Act17}:∀q∈(oneP c rs rh R k a).1,q.1=k∨q∈R:=by
 intro q;unfold oneP;dsimp only
 split
 · exact .inr
 · split
   · exact .inr
   · split
     · exact .inr
     · unfold outP
       intro hq
       rcases List.mem_append.1 hq with hq|hq
       · rcases List.mem_append.1 hq with hq|hq
         · exact .inr (List.mem_of_mem_take hq)
         · exact .inl (by rw [List.mem_singleton.1 hq])
       · exact .inr (List.mem_of_mem_drop hq)
theorem keys_one {c:Cfg} {rs rh:Nat} {wd:Wd} {id:ByteArray} {a:Act17}:∀q∈allW (oneW c rs rh wd id a).1,q.1=keyK id∨q∈allW wd:=by
 intro q hq;obtain ⟨R,hR,hqR⟩:=List.mem_flatten.1 (show q∈(wd.st.set (atW c id) (oneP c rs rh (wd.st.getD (atW c id) []) (keyK id) a).1).flatten from hq)
 rcases List.mem_or_eq_of_mem_set hR with h1|h1
 · exact .inr (List.mem_flatten.2 ⟨R,h1,hqR⟩)
 · subst h1
   rcases keys_oneP q hqR with h2|h2
   · exact .inl h2
   · refine .inr (List.mem_flatten.2 ⟨wd.st.getD (atW c id) [],?_,h2⟩)
     rcases Nat.lt_or_ge (atW c id) wd.st.length with hl|hl
     · rw [List.getD_eq_getElem?_getD,List.getElem?_eq_getElem hl];exact List.getElem_mem hl
     · rw [List.getD_eq_getElem?_getD,List.getElem?_eq_none hl] at h2
       cases h2
theorem NamedW.one {S:List ByteArray} {c:Cfg} {rs rh:Nat} {wd:Wd} {id:ByteArray} {a:Act17} (h:NamedW S wd) (hid:idS id=true) (hm:id∈S):NamedW S (oneW c rs rh wd id a).1:=fun q hq=>by
 rcases keys_one q hq with h1|h1
 · exact ⟨id,hm,hid,h1.symm⟩
 · exact h q h1
theorem NamedW.note {S:List ByteArray} {c:Cfg} {rs rh:Nat} {wd:Wd} {id:ByteArray} {av:Adv} (h:NamedW S wd) (hid:idS id=true) (hm:id∈S):NamedW S (noteW c rs rh wd id av).1:=by
 unfold noteW
 split
 · exact h
 · exact h.one hid hm
theorem NamedW.do_ {S:List ByteArray} {c:Cfg} {rs rh:Nat} {wd:Wd} {x:CallD} (h:NamedW S wd) (hm:x.id∈S):NamedW S (doW c rs rh wd x).1:=by
 have hck:∀k:Int,x.kind=k→k=1∨k=6→chkC x=0→idS x.id=true:=fun k hk hk2 h0=>by
  unfold chkC at h0
  cases hid:idS x.id with
  | true=>rfl
  | false =>
    rw [hid] at h0
    rcases hk2 with rfl|rfl
    · simp [hk] at h0
    · simp [hk] at h0
 unfold doW
 split
 · exact h
 · rename_i h0
   have h0:chkC x=0:=Decidable.not_not.1 h0
   split
   · rename_i hk;exact h.one (hck 1 hk (.inl rfl) h0) hm
   · split
     · refine h.same ?_
       unfold allW trimW;simp [List.map_flatten,List.map_map,Function.comp_def]
     · split
       · unfold snapW
         split
         · exact h
         · exact h
       · split
         · unfold freeW
           split
           · exact h
           · exact h
         · split
           · exact h
           · split
             · rename_i hk;exact h.one (hck 6 hk (.inr rfl) h0) hm
             · split
               · exact h
               · split
                 · exact h
                 · exact h
theorem NamedW.new (S:List ByteArray) (k:Nat):NamedW S (newW k):=by
 intro q hq;have:=tot_new k;rw [List.length_eq_zero_iff] at this;rw [this] at hq
 cases hq
end
section
open Go.RowKit Go.Lib
structure FlWd (own:List Nat) (w:World) (M L X:Nat) (c:Cfg) (rs rh n:Nat) (wd:Wd) (d:FlatD) (x:WdH):Prop where
 fw:FW (fun b=>b∉own) w M c rs rh n wd d
 l:d.L=L
 wo:WdIn (fun b=>b∉own) w x
 abs:absW x=wd
 box:w.heap[X]?=some (.cells (wdC c x).toArray 32 (0,0))
 mem:M∈own∧L∈own∧X∈own
 ne:M≠X∧L≠X
 lt:∀b∈own,b<w.heap.size
theorem FlWd.below {own:List Nat} {w w':World} {M L X:Nat} {c:Cfg} {rs rh n:Nat} {wd:Wd} {d:FlatD} {x:WdH} (h:FlWd own w M L X c rs rh n wd d x) (hb:jB w w'):FlWd own w' M L X c rs rh n wd d x :=
 ⟨h.fw.below hb,h.l,h.wo.below hb,h.abs,(hb.block _ (h.lt X h.mem.2.2)).trans h.box,h.mem,h.ne,fun b hq=>Nat.lt_of_lt_of_le (h.lt b hq) hb.size⟩
theorem FlWd.new {own:List Nat} {w:World} {M L X:Nat} {c:Cfg} {rs rh n:Nat} {wd:Wd} {d:FlatD} {x:WdH} (h:FlWd own w M L X c rs rh n wd d x):∀b,w.heap.size≤b→b∉own:=fun b hb hq=>by have:=h.lt b hq;omega
theorem FlWd.keep {own:List Nat} {w w':World} {M L X:Nat} {c:Cfg} {rs rh n:Nat} {wd:Wd} {d:FlatD} {x:WdH} (h:FlWd own w M L X c rs rh n wd d x) (hs:w.heap.size≤w'.heap.size) (hM:w'.heap[M]?=w.heap[M]?) (hL:w'.heap[L]?=w.heap[L]?) (hX:w'.heap[X]?=w.heap[X]?) (hk:∀b,b∉own→b<w.heap.size→w'.heap[b]?=w.heap[b]?):FlWd own w' M L X c rs rh n wd d x :=
 ⟨⟨h.fw.at_.keep hs hM (by rw [h.l];exact hL) (fun b hb hlt=>⟨hk b hb hlt,hb⟩) h.fw.at_.off,h.fw.ok⟩,h.l,h.wo.keepP hs (fun b hb hlt=>hk b hb hlt),h.abs,hX.trans h.box,h.mem,h.ne,fun b hq=>Nat.lt_of_lt_of_le (h.lt b hq) hs⟩
theorem FlWd.put {own:List Nat} {w u W9:World} {M L X:Nat} {c:Cfg} {rs rh k m:Nat} {wd wd':Wd} {d d':FlatD} {x x':WdH} (h:FlWd own w M L X c rs rh k wd d x) (hu:Upd w u [M,L] [M,L]) (hf:FW (fun b=>b∉own) u M c rs rh m wd' d') (hl:d'.L=L) (hw:WdIn (fun b=>b∉own) u x') (ha:absW x'=wd') (h9:W9=stor u X 0 (wdC c x')) :
 FlWd own W9 M L X c rs rh m wd' d' x'∧W9.heap.size=u.heap.size∧(∀b,b<w.heap.size→b≠M→b≠L→b≠X→W9.heap[b]?=w.heap[b]?):=by
 have hx:=upd_at hu (fun hq=>by simp only [List.mem_cons,List.not_mem_nil,or_false] at hq;rcases hq with e|e;exact h.ne.1 e.symm;exact h.ne.2 e.symm) h.box;obtain ⟨t1,t2,t3,t4⟩:=stor_at hx (wdC c x') (by simp [wdC]) W9 h9;have hX:∀b,b∉own→b≠X:=fun b hb e=>hb (by rw [e];exact h.mem.2.2)
 refine ⟨⟨⟨hf.at_.keep (Nat.le_of_eq t3.symm) (t2 M h.ne.1) (by rw [hl];exact t2 L h.ne.2) (fun b hb hlt=>⟨t2 b (hX b hb),hb⟩) hf.at_.off,hf.ok⟩,hl,hw.keepP (Nat.le_of_eq t3.symm) (fun b hb hlt=>t2 b (hX b hb)),ha,t1,h.mem,h.ne,fun b hq=>by have:=h.lt b hq;have:=hu.size;omega⟩,t3,fun b hlt h1 h2 h3=>(t2 b h3).trans (hu.block b hlt (by simp only [List.mem_cons,List.not_mem_nil,or_false];rintro (e|e);exact h1 e;exact h2 e))⟩
end
section
open Go.RowKit Go.Lib Go.Sort Go.Shelf
def sortB (l:List ByteArray):List ByteArray:=((l.map (·.data.toList)).mergeSort fun x y=>decide (x≤y)).map fun x=>⟨x.toArray⟩
def compB (l:List ByteArray):List ByteArray:=compactUpTo l.toArray l.toArray.size
theorem below_growD (w:World) (os:Array Obj):jB w (grow w os) :=
 ⟨rfl,rfl,rfl,by simp [grow],fun k hk=>by simp [grow,Array.getElem?_append_left hk]⟩
theorem cells_ids (l:List ByteArray):cellsOfRow idC l=l.map Value.string:=by
 induction l with
 | nil=>rfl
 | cons a l ih=>rw [cellsOfRow_cons,ih];rfl
theorem cells_enc (l:List (List UInt8)):cellsOfRow idC (l.map fun x=>(⟨x.toArray⟩:ByteArray))=l.map encStr:=by
 rw [cells_ids,List.map_map];rfl
theorem ids_enc (l:List ByteArray):l.map Value.string=(l.map (·.data.toList)).map encStr:=by
 rw [List.map_map]
 apply List.map_congr_left
 intro x _;simp [encStr]
theorem size_putRow {α:Type} [Inhabited α] (enc:α→Value) (w:World) (b o n:Nat) (d:Array α):(putRow enc (Sort.ahead w n) b o d).heap.size=w.heap.size:=by simp [putRow,mapBlock,Sort.ahead]
theorem sortStr_any (base:Nat) (v:Value) (l:List ByteArray) (w:World) (h:OwnL idC 9 1 base w v l) (hl:l.length≤1000000) :
 Calls Tryz.prog 52 #[v] w fun e w'=>e=.returned (.tuple #[])∧OwnL idC 9 1 base w' v (sortB l)∧Below base w w':=by
 have hlen:(sortB l).length=l.length:=by unfold sortB;rw [List.length_map,List.length_mergeSort,List.length_map]
 by_cases hv:v=.slice none 0 0
 · subst hv
   have h0:l=[]:=by
    obtain ⟨A,c,e⟩:=h.form;injection e with _ e2 _
    exact List.eq_nil_of_length_eq_zero e2.symm
   subst h0;refine (AnyM.slices_Sort_string_none sortM none 0 w).mono ?_;rintro e w' ⟨rfl,rfl⟩;rw [show sortB []=[] from by simp [sortB]];exact ⟨rfl,OwnL.nil _ _,jR⟩
 · have h1:=h
   unfold OwnL at h1;rw [cells_ids,ids_enc] at h1;obtain ⟨g,cap,rfl,hb,hg,hn,hm,hz,hH⟩:=holds_of_ownsRow h1 hv;have hc:=AnyM.slices_Sort_string sortM g 0 cap (l.map (·.data.toList)) w hH hg (by rw [List.length_map];omega);rw [List.length_map] at hc;refine hc.mono ?_;rintro e w' ⟨rfl,n,os,rfl⟩;have hput:=ownsRow_putRow (q:=n) (k:=l.length) h1 (ys:=(l.map (·.data.toList)).mergeSort fun x y=>decide (x≤y)) (by rw [List.length_mergeSort,List.length_map]) (Nat.le_refl _)
   rw [List.take_of_length_le (by rw [List.length_mergeSort,List.length_map];exact Nat.le_refl _)] at hput;have hgrow:=below_growD (putRow encStr (Sort.ahead w n) g 0 ((l.map (·.data.toList)).mergeSort fun x y=>decide (x≤y)).toArray) os;refine ⟨rfl,?_,(below_putRow jR hb).trans (hgrow.mono (by rw [size_putRow];exact Nat.le_trans hb (Nat.le_of_lt hg)))⟩;have hown:OwnL idC 9 1 base (putRow encStr (Sort.ahead w n) g 0 ((l.map (·.data.toList)).mergeSort fun x y=>decide (x≤y)).toArray) (.slice (some ⟨g,0,none⟩) l.length cap) (sortB l):=by
    unfold OwnL sortB;rw [cells_enc,List.length_map,List.length_mergeSort,List.length_map];exact hput
   exact hown.below hgrow
theorem eqStr (T:TypeId):EqlAt Tryz.prog T Value.string (fun x y=>decide (x=y)):=⟨fun x y w=>by
 rw [(EqlAt.string Tryz.prog T).1 x y w];dsimp only;rw [ByteArray.toList_eq,ByteArray.toList_eq]
 by_cases h:x=y
 · simp [h]
 · have hd:¬x.data=y.data:=fun e=>h (by cases x;cases y;exact congrArg _ e)
   simp [h,hd],(EqlAt.string Tryz.prog T).2⟩
theorem neStr (T:TypeId):NeqAt Tryz.prog T Value.string (fun x y=>decide (x=y)):=⟨fun x y w=>by
 rw [(NeqAt.string Tryz.prog T).1 x y w];dsimp only;rw [ByteArray.toList_eq,ByteArray.toList_eq]
 by_cases h:x=y
 · simp [h]
 · have hd:¬x.data=y.data:=fun e=>h (by cases x;cases y;exact congrArg _ e)
   simp [h,hd],(NeqAt.string Tryz.prog T).2⟩
theorem compStr_nil (w:World):Calls Tryz.prog 53 #[.slice none 0 0] w fun e w'=>e=.returned (.slice none 0 0)∧w'=w:=by
 go_enter Tryz.func53,Tryz.ntmps53
 go_wp2_with fail
 go_ret
 exact ⟨rfl,rfl⟩
theorem compB_len (l:List ByteArray):(compB l).length≤l.length:=by
 unfold compB compactUpTo;rw [List.length_map];exact Nat.le_trans (List.length_filter_le _ _) (by simp)
theorem compStr_any (base:Nat) (v:Value) (l:List ByteArray) (w:World) (h:OwnL idC 9 1 base w v l) (hl:l.length≤1000000) :
 Calls Tryz.prog 53 #[v] w fun e w'=>∃A c,e=.returned (.slice A (compB l).length c)∧OwnL idC 9 1 base w' (.slice A (compB l).length c) (compB l)∧Below base w w':=by
 by_cases hv:v=.slice none 0 0
 · subst hv
   have h0:l=[]:=by
    obtain ⟨A,c,e⟩:=h.form;injection e with _ e2 _
    exact List.eq_nil_of_length_eq_zero e2.symm
   subst h0;refine (compStr_nil w).mono ?_;rintro e w' ⟨rfl,rfl⟩;exact ⟨none,0,rfl,OwnL.nil _ _,jR⟩
 · have h1:=h
   unfold OwnL at h1;rw [cells_ids] at h1;obtain ⟨g,cap,rfl,hb,hg,hn,hm,hz,hH⟩:=holds_of_ownsRow h1 hv;have hc:=AnyE.slices_Compact compactM Value.string (fun _=>rfl) (eqStr _) (neStr _) (⟨#[]⟩:ByteArray) (fun w=>Tryz.zeroValue9 w) g 0 cap l.toArray w hH (by simp;omega) (by simpa using hn);have hc2:Calls Tryz.prog 53 #[.slice (some ⟨g,0,none⟩) l.length cap] w fun e w'=>e=.returned (.slice (some ⟨g,0,none⟩) (compB l).length cap)∧∃q,w'=putRow Value.string (Sort.ahead w q) g 0 (compB l++List.replicate (l.length - (compB l).length) (⟨#[]⟩:ByteArray)).toArray:=by
    have e9:l.toArray.size=l.length:=by simp
    unfold compB;rw [←e9];exact hc
   refine hc2.mono ?_;rintro e w' ⟨rfl,n,rfl⟩;have hput:=ownsRow_putRow (q:=n) (k:=(compB l).length) h1 (ys:=compB l++List.replicate (l.length - (compB l).length) (⟨#[]⟩:ByteArray)) (by rw [List.length_append,List.length_replicate];have:=compB_len l;omega) (compB_len l);rw [List.take_left] at hput;refine ⟨_,_,rfl,?_,below_putRow jR hb⟩;unfold OwnL;rw [cells_ids];exact hput
end
end Go.Proofs.YtkcdhaallnhhmaaGreat
