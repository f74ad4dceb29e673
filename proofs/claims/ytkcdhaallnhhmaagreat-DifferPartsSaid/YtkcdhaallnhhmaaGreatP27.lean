/- Part 27 of the proof: FlJ, FlO, FlId, DfSort. -/
import Derived.Test.YtkcdhaallnhhmaaGreatP26
namespace Go.Proofs.YtkcdhaallnhhmaaGreat
set_option linter.unusedSimpArgs false
set_option linter.unusedVariables false
set_option linter.unusedSectionVars false
set_option maxRecDepth 100000
set_option maxHeartbeats 16000000
section
open Go.RowKit Go.Lib Go.Sort
theorem serOf_any (room:Nat) (A:Option Addr) (c:Nat) (l:List Smp) (w:World) (hv:RowIn 2 smpC w (.slice A l.length c) l) (hl:l.length≤1000000) (h1:1≤room) (h2:room≤256) (hpos:∀x∈l,0≤x.1∧0≤x.2) :
 Calls Tryz.prog 115 #[.int .i64 (room:Nat),.slice A l.length c] w (NewSer w (foldS (room:Nat) l) (room:Nat)):=by
 have CN:=jH (serNew_any (room:Nat) w (by omega) (by omega));have HV:=jH hv;have HP:=jH hpos;have HR:=jH (And.intro h1 h2);have HL:=jH hl;clear hv hpos h1 h2;unfold NewSer at CN ⊢
 go_enter Tryz.func115,Tryz.ntmps115
 go_wp2_with (first
  | (go_at_call 164
     refine CN.out.mono ?_;rintro e w1 ⟨S,fp,rfl,hs1,hf1,hb1⟩;have HS1:=jH hs1;have HF1:=jH hf1;have HB1:=jH hb1;clear hs1 hf1 hb1))
 go_loopg [7,12] l.length (fun g _ s12 wr=>∃k:Nat,k≤l.length∧l.length - k≤g∧s12=.int .i64 k∧jB w wr∧∃fp,SerIn wr S (foldS (room:Nat) (l.take k)) (room:Nat) fp∧∀x∈fp,w.heap.size≤x)
 case atStart=>exact ⟨0,Nat.zero_le _,Nat.le_refl _,rfl,HB1.out,_,HS1.out,HF1.out⟩
 case round =>
  obtain ⟨k,hk,hg,rfl,hbr,fp2,hs2,hf2⟩:=hrel;have HBR:=jH hbr;have HS2:=jH hs2;have HF2:=jH hf2;clear hbr hs2 hf2
  by_cases hlt:k<l.length
  · obtain ⟨b,o,rfl,hb,hc⟩:=HV.out.at_ hlt
    have hp:=HP.out _ (List.getElem_mem hlt);have hfo:=foldS_ok room (l.take k);have HPUT:=jH (fun W (hW:jB wr W)=>serPut_any S (foldS (room:Nat) (l.take k)) (room:Nat) fp2 l[k] W (HS2.out.kept (fun r hr=>hW.block r (HS2.out.lt r hr))) hfo.1 (by have:=HR.out.2;omega) (by have:=HR.out.1;omega) hp.1 hp.2);rw [←foldS_take (room:Nat) l k hlt] at HPUT;have c0:wr.cell? ⟨b,o+k * 2,none⟩=some (.int .i64 l[k].1):=(HBR.out.cell (p:=⟨b,_,none⟩) hb).trans (hc 0 _ rfl)
    have c1:wr.cell? ⟨b,o+k * 2+1,none⟩=some (.int .i64 l[k].2):=(HBR.out.cell (p:=⟨b,_,none⟩) hb).trans (hc 1 _ rfl);clear hc hfo hb;generalize l[k]=x at c0 c1 hp HPUT;clear hp
    go_wp2_with (first
     | (go_at_call 165
        refine calls_named ?_;intro W2 hW2;have hb2:jB wr W2:=by rw [hW2];exact balloc jR _
        clear hW2;refine (HPUT.out W2 hb2).mono ?_;rintro e w3 ⟨fp3,rfl,hs3,hu3⟩;have HS3:=jH hs3;have HF3:=jH (show ∀x∈fp3,w.heap.size≤x from fun x hx=>(hu3.fresh x hx).elim (HF2.out x) (fun h=>Nat.le_trans HBR.out.size (Nat.le_trans hb2.size h)));have HB3:=jH ((bthen HBR.out hb2).trans (hu3.below (Nat.le_trans HBR.out.size hb2.size) HF2.out));clear hs3 hu3 hb2))
    go_roundg (l.length - (k+1))
    case measure=>omega
    case rel=>exact ⟨k+1,hlt,Nat.le_refl _,by go_num,HB3.out,fp3,HS3.out,HF3.out⟩
  · obtain rfl:k=l.length:=by omega
    have hs3:=HS2.out;rw [List.take_length] at hs3;have HS3:=jH hs3;clear hs3;go_wp2
    go_ret
    exact ⟨S,fp2,rfl,HS3.out,HF2.out,HBR.out⟩
end
section
open Go.RowKit Go.Lib
section
variable {P:Program} {ops:Array Oper} {Q:Exit→Act→World→Prop} {md:Region.Mode} {S:World→Prop} {k:Nat}
end
def liveF (l:List FCut):Nat:=l.countP fun x=>!x.fr
theorem liveF_law {P:Nat→Prop} {w:World} {M:Nat} {c:Cfg} {wd:Wd} {d:FlatD} (h:FlMem P w M c wd d) (hep:∀q∈wd.cuts,0≤q.ep):liveF d.cuts=liveT (tabW wd):=by
 have e:d.cuts.map (·.fr)=wd.cuts.map (·.freed):=by
  apply List.ext_getElem?
  intro i;rw [List.getElem?_map,List.getElem?_map]
  by_cases hi:i<d.cuts.length
  · have hj:i<wd.cuts.length:=by rw [←h.len];exact hi
    rw [List.getElem?_eq_getElem hi,List.getElem?_eq_getElem hj];exact congrArg some (h.cut i _ _ (List.getElem?_eq_getElem hi) (List.getElem?_eq_getElem hj)).1
  · rw [List.getElem?_eq_none (by omega),List.getElem?_eq_none (by have:=h.len;omega)]
    rfl
 have e1:liveF d.cuts=(d.cuts.map (·.fr)).countP fun b=>!b:=by unfold liveF;rw [List.countP_map];rfl
 rw [e1,e];unfold liveT tabW;rw [List.countP_map,List.countP_map];refine List.countP_congr (fun q hq=>?_);have:=hep q hq;simp only [Function.comp]
 by_cases hfq:q.freed=true
 · simp [hfq]
 · simp [hfq];omega
theorem liveF_take (l:List FCut) (k:Nat) (h:k<l.length):liveF (l.take (k+1))=liveF (l.take k)+(if l[k].fr=true then 0 else 1):=by
 unfold liveF;rw [List.take_succ_eq_append_getElem h,List.countP_append,List.countP_singleton]
 cases l[k].fr <;> rfl
theorem flLive_any {P:Nat→Prop} {M:Nat} {c:Cfg} {wd:Wd} {d:FlatD} (w:World) (h:FlMem P w M c wd d) (hl:d.cuts.length≤900000) :
 Calls Tryz.prog 120 #[.pointer (some ⟨M,0,none⟩)] w (jP w (.int .i64 (liveF d.cuts:Nat))):=by
 have HV:=jH h.row.1;obtain ⟨a1,a2,a3⟩:=box_cells jR h.cell;obtain ⟨l,hll⟩:∃l,l=d.cuts:=⟨_,rfl⟩;rw [←hll] at HV a1 hl ⊢;obtain ⟨A,hA⟩:∃A,A=d.A:=⟨_,rfl⟩;obtain ⟨cp,hcp⟩:∃A,A=d.cp:=⟨_,rfl⟩;rw [←hA,←hcp] at HV a1;clear h hll hA hcp
 go_enter Tryz.func120,Tryz.ntmps120
 go_wp2_with fail
 clear a1 a2 a3
 go_loopg [3,5,11] l.length (fun g s3 _ s11 wr=>∃(k m:Nat),k≤l.length∧l.length - k≤g∧s11=.int .i64 k∧s3=.int .i64 (m:Nat)∧Hid (m=liveF (l.take k))∧jB w wr)
 case atStart=>exact ⟨0,0,Nat.zero_le _,Nat.le_refl _,rfl,rfl,jH rfl,jR⟩
 case round =>
  obtain ⟨k,m,hk,hg,rfl,rfl,HM,hbr⟩:=hrel;have HBR:=jH hbr;clear hbr
  by_cases hlt:k<l.length
  · obtain ⟨b,o,rfl,hb,hc⟩:=HV.out.at_ hlt
    have c0:wr.cell? ⟨b,o+k * 3,none⟩=some (.int .i64 l[k].ep):=(HBR.out.cell (p:=⟨b,_,none⟩) hb).trans (hc 0 _ rfl);have c1:wr.cell? ⟨b,o+k * 3+1,none⟩=some (.map l[k].m):=(HBR.out.cell (p:=⟨b,_,none⟩) hb).trans (hc 1 _ rfl);have c2:wr.cell? ⟨b,o+k * 3+2,none⟩=some (.bool l[k].fr):=(HBR.out.cell (p:=⟨b,_,none⟩) hb).trans (hc 2 _ rfl);have HT:=jH (liveF_take l k hlt);have hmb:m≤900000:=by
     have h1:=HM.out;have h2:liveF (l.take k)≤(l.take k).length:=List.countP_le_length;rw [List.length_take] at h2;omega
    have hw:wrap64 ((m:Int)+1)=((m+1:Nat):Int):=by unfold wrap64;omega
    have HW:=jH hw;clear hc hb hw hmb;generalize l[k]=x at c0 c1 c2 HT;obtain ⟨xe,xm,xes,xf⟩:=x;dsimp only at c0 c1 c2 HT
    cases xf
    · go_wp2_with fail
      go_roundg (l.length - (k+1))
      case measure=>omega
      case rel=>exact ⟨k+1,m+1,hlt,Nat.le_refl _,by go_num,by rw [HW.out],jH (by rw [HT.out,←HM.out];rfl),balloc HBR.out _⟩
    · go_wp2_with fail
      go_roundg (l.length - (k+1))
      case measure=>omega
      case rel=>exact ⟨k+1,m,hlt,Nat.le_refl _,by go_num,rfl,jH (by rw [HT.out,←HM.out];rfl),balloc HBR.out _⟩
  · obtain rfl:k=l.length:=by omega
    have hm:=HM.out;rw [List.take_length] at hm;have HM2:=jH hm;clear hm;go_wp2_with fail
    go_ret
    exact ⟨by rw [HM2.out];rfl,HBR.out⟩
theorem flClip_any (A:Option Addr) (n c:Nat) (w:World) (hc:n≤c) :
 Calls Tryz.prog 121 #[.slice A n c] w fun e w'=>e=.returned (.slice A n n)∧w'=w:=by
 go_enter Tryz.func121,Tryz.ntmps121
 go_wp2_with fail
 go_ret
 exact ⟨rfl,rfl⟩
end
section
open Go.RowKit Go.Lib Go.Sort Go.Maps Go.Shelf
def idC (s:ByteArray):List Value:=[.string s]
theorem eId:EltOf 37 9 1 16 (.string ⟨#[]⟩) idC :=
 ⟨by kernel_rfl,by kernel_rfl,rfl,by decide,by decide,fun _=>rfl,fun x u hu=>by
  simp only [idC,List.mem_cons,List.not_mem_nil,or_false] at hu
  subst hu
  rfl⟩
def bytesK (es:List (SK × It)):List (List UInt8):=es.map fun p=>p.1.1.data.toList
def idsF (es:List (SK × It)):List ByteArray:=((bytesK es).mergeSort fun x y=>decide (x≤y)).map fun x=>⟨x.toArray⟩
def anyR (H:Type):Value→Option (DataW H × List MemPlace):=fun _=>some (.nil,[])
theorem owns_of_map {w:World} {L:Nat} {es:List (SK × It)} (h:MapIn skV ldV w L es) (hl:es.length≤1000000) :
 ∃D0:DataW Unit,w.ownsMap Tryz.prog 9 (anyR Unit) L es.length D0∧(strKeys D0).Perm (bytesK es)∧Maps.size D0=es.length:=by
 obtain ⟨ents,clock,hb,hkv,hbn,hcl,hn⟩:=h;have hsz:ents.size=es.length:=by simpa using congrArg List.length hkv
 have hkeys:ents.toList.map (·.key)=es.map fun p=>skV p.1:=by
  have:=congrArg (List.map Prod.fst) hkv;rw [List.map_map,List.map_map] at this;exact this
 have hrd:∀x∈ents.toList,∃s:SK,x.key=skV s∧Go.WideElems.rd Tryz.prog 9 (anyR Unit) x=some (.string s.1.data.toList,.nil):=fun x hx=>by
  obtain ⟨p,hp,hk,_⟩:=ents_mem hkv hx;refine ⟨p.1,hk,?_⟩;unfold Go.WideElems.rd;rw [hk]
  show (keyOf Tryz.prog 9 (.string p.1.1)).bind _=_
  rw [Go.WideMaps.keyOf_string_mk Tryz.underlying9 p.1.2];rfl
 have hnd:(ents.toList.map (·.key)).Nodup:=by
  rw [hkeys];have e:(es.map fun p=>skV p.1)=(es.map (·.1)).map skV:=by rw [List.map_map];rfl
  rw [e];exact List.pairwise_map.2 (hn.imp (fun hne e=>hne (keysSk.inj _ _ e)))
 refine ⟨_,⟨ents,clock,hb,⟨by rw [hsz];unfold maxLen;omega,⟨hcl,hbn,hnd⟩,fun x hx=>by obtain ⟨s,_,h1⟩:=hrd x hx;exact ⟨_,h1⟩⟩,Nat.le_of_eq hsz,rfl⟩,?_,?_⟩
 · show ((List.foldr DataW.insert [] (ents.toList.map (Go.WideElems.rg Tryz.prog 9 (anyR Unit)))).map fun p=>strOf p.1).Perm _
   refine ((Go.WideShapes.sorted_perm _).map _).trans (List.Perm.of_eq ?_);rw [List.map_map];have e:bytesK es=(es.map fun p=>skV p.1).map fun v=>match v with|.string s=>s.data.toList|_=>[]:=by
    unfold bytesK;rw [List.map_map];rfl
   rw [e,←hkeys,List.map_map];refine List.map_congr_left (fun x hx=>?_);obtain ⟨s,hk,h1⟩:=hrd x hx;simp only [Function.comp,Go.WideElems.rg,h1,hk,skV,Option.getD_some]
   rfl
 · show (List.foldr DataW.insert [] _).length=_
   rw [length_sorted,List.length_map,Array.length_toList,hsz]
theorem sortsM (m:Nat):AnyZ.SortsIn Tryz.prog sortedM_ren Fence.wide m :=
 ⟨fun blk off cap ss W hH hblk hsz=>callsIn_wide.2 (AnyM.slices_Sort_string sortM blk off cap ss W hH hblk hsz),
  fun p cap W=>callsIn_wide.2 (AnyM.slices_Sort_string_none sortM p cap W)⟩
theorem flKeys_any (mb:Option Nat) (W:World):Calls Tryz.prog 98 #[.map mb] W fun e w'=>e=.returned (.func (.func 146) #[] #[.pointer (some ⟨W.heap.size,0,none⟩)])∧w'=W.alloc (.cells #[.map mb] 94) :=
 callsIn_wide.1 (AnyZ.keys_in keysM Fence.wide 5 trivial rfl mb W)
theorem flSorted_any (b:Nat) (es:List (SK × It)) (w:World) (h:MapIn skV ldV w b es) (hl:es.length≤1000000) :
 Calls Tryz.prog 97 #[.func (.func 146) #[] #[.pointer (some ⟨w.heap.size,0,none⟩)]] (w.alloc (.cells #[.map (some b)] 94)) fun e w'=>∃A c,e=.returned (.slice A (idsF es).length c) ∧
   OwnL idC 9 1 w.heap.size w' (.slice A (idsF es).length c) (idsF es)∧jB w w':=by
 obtain ⟨D0,hown,hperm,hsize⟩:=owns_of_map h hl;have hbl:=hown.lt;have hseq:SeqGives Fence.wide 2 Tryz.prog 146 #[.pointer (some ⟨w.heap.size,0,none⟩)] encStr (fun ss=>ss.Perm (strKeys D0)) (Maps.size D0) (w.alloc (.cells #[.map (some b)] 94)) :=
  AnyZ.keys_gives (ρ:=keysM_ren) { keysM with } Fence.wide _ trivial rfl (by omega) w.heap.size b es.length D0 _ (by simp) (by simp) (by
   obtain ⟨es,clock,hb,Ft,hs,hD⟩:=hown;exact ⟨es,clock,(Below.heap_alloc _ _ b hbl).trans hb,Ft,hs,hD⟩)
 have h1:=callsIn_wide.1 (AnyZ.sorted_in sortedM Fence.wide 5 trivial trivial trivial trivial rfl (by omega) (sortsM _) (enters_of Tryz.func52 (by kernel_rfl) rfl) 146 #[.pointer (some ⟨w.heap.size,0,none⟩)] trivial (enters_of Tryz.func146 (by kernel_rfl) rfl) _ _ (by rw [hsize];unfold maxLen;omega) (by rw [hsize];omega) _ hseq);refine h1.mono ?_;rintro e w' ⟨v,ss,rfl,hS,hrow,_,hb⟩;have e1:(ss.mergeSort fun x y=>decide (x≤y)).map encStr=cellsOfRow idC (idsF es):=by
  unfold idsF;rw [←mergeSort_of_perm (hS.trans hperm)];generalize ss.mergeSort leB=l
  induction l with
  | nil=>rfl
  | cons a l ih =>
    rw [List.map_cons,List.map_cons,cellsOfRow_cons,ih];rfl
 have e2:ss.length=(idsF es).length:=by
  unfold idsF;rw [List.length_map,List.length_mergeSort,←(hS.trans hperm).length_eq]
 rw [e1,e2] at hrow;have hrow':OwnL idC 9 1 w.heap.size w' v (idsF es):=own_lower hrow (by simp);obtain ⟨A,c,rfl⟩:=hrow'.form;exact ⟨A,c,rfl,hrow',(balloc jR _).trans (hb.mono (by simp))⟩
theorem flMadeM_any {P:Nat→Prop} {M:Nat} {c:Cfg} {wd:Wd} {d:FlatD} (w:World) (h:FlMem P w M c wd d) :
 Calls Tryz.prog 48 #[.pointer (some ⟨M,0,none⟩)] w fun e w'=>e=.returned (.bool true)∧w'=w:=by
 obtain ⟨a1,a2,a3⟩:=box_cells jR h.cell;have hq:∀W,(binOp .neq 94 (.map (some d.L)) (.map none)).run Tryz.prog W=.ok (.bool true) W:=fun W=>run_neq_map_nil W _ _ _ (some d.L) Tryz.underlying94
 clear h
 go_enter Tryz.func48,Tryz.ntmps48
 go_wp2_with fail
 go_ret
 exact ⟨rfl,rfl⟩
theorem flIds_any {P:Nat→Prop} {M:Nat} {c:Cfg} {wd:Wd} {d:FlatD} (w:World) (h:FlMem P w M c wd d) (hl:d.es.length≤1000000) :
 Calls Tryz.prog 51 #[.pointer (some ⟨M,0,none⟩)] w fun e w'=>∃A c,e=.returned (.slice A (idsF d.es).length c)∧OwnL idC 9 1 w.heap.size w' (.slice A (idsF d.es).length c) (idsF d.es)∧jB w w':=by
 have CM:=jH (fun W (hW:jB w W)=>flMadeM_any W (h.below hW));have CS:=jH (flSorted_any d.L d.es w h.map hl);obtain ⟨a1,a2,a3⟩:=box_cells jR h.cell;clear h hl
 go_enter Tryz.func51,Tryz.ntmps51
 go_wp2_with (first
  | (go_at_call 48
     refine (CM.out w jR).mono ?_;rintro e w2 ⟨rfl,rfl⟩)
  | (go_at_call 98
     refine (flKeys_any _ _).mono ?_;rintro e w3 ⟨rfl,rfl⟩)
  | (go_at_call 97
     refine CS.out.mono ?_;rintro e w4 ⟨A,c9,rfl,ho4,hb4⟩;have HO4:=jH ho4;have HB4:=jH hb4;clear ho4 hb4))
 go_ret
 exact ⟨A,c9,rfl,HO4.out,HB4.out⟩
end
section
open Go.RowKit Go.Lib Go.Sort Go.Shelf
def sortB (l:List ByteArray):List ByteArray:=((l.map (·.data.toList)).mergeSort fun x y=>decide (x≤y)).map fun x=>⟨x.toArray⟩
def compB (l:List ByteArray):List ByteArray:=compactUpTo l.toArray l.toArray.size
theorem below_growD (w:World) (os:Array Obj):jB w (grow w os) :=
 ⟨rfl,rfl,rfl,by simp [grow],fun k hk=>by simp [grow,Array.getElem?_append_left hk]⟩
theorem cells_ids (l:List ByteArray):cellsOfRow idC l=l.map Value.string:=by
 induction l with
 | nil=>rfl
 | cons a l ih=>rw [cellsOfRow_cons,ih];rfl
theorem cells_enc (l:List (List UInt8)):cellsOfRow idC (l.map fun x=>(⟨x.toArray⟩:ByteArray))=l.map encStr:=by
 rw [cells_ids,List.map_map];rfl
theorem ids_enc (l:List ByteArray):l.map Value.string=(l.map (·.data.toList)).map encStr:=by
 rw [List.map_map]
 apply List.map_congr_left
 intro x _;simp [encStr]
theorem size_putRow {α:Type} [Inhabited α] (enc:α→Value) (w:World) (b o n:Nat) (d:Array α):(putRow enc (Sort.ahead w n) b o d).heap.size=w.heap.size:=by simp [putRow,mapBlock,Sort.ahead]
theorem sortStr_any (base:Nat) (v:Value) (l:List ByteArray) (w:World) (h:OwnL idC 9 1 base w v l) (hl:l.length≤1000000) :
 Calls Tryz.prog 52 #[v] w fun e w'=>e=.returned (.tuple #[])∧OwnL idC 9 1 base w' v (sortB l)∧Below base w w':=by
 have hlen:(sortB l).length=l.length:=by unfold sortB;rw [List.length_map,List.length_mergeSort,List.length_map]
 by_cases hv:v=.slice none 0 0
 · subst hv
   have h0:l=[]:=by
    obtain ⟨A,c,e⟩:=h.form;injection e with _ e2 _
    exact List.eq_nil_of_length_eq_zero e2.symm
   subst h0;refine (AnyM.slices_Sort_string_none sortM none 0 w).mono ?_;rintro e w' ⟨rfl,rfl⟩;rw [show sortB []=[] from by simp [sortB]];exact ⟨rfl,OwnL.nil _ _,jR⟩
 · have h1:=h
   unfold OwnL at h1;rw [cells_ids,ids_enc] at h1;obtain ⟨g,cap,rfl,hb,hg,hn,hm,hz,hH⟩:=holds_of_ownsRow h1 hv;have hc:=AnyM.slices_Sort_string sortM g 0 cap (l.map (·.data.toList)) w hH hg (by rw [List.length_map];omega);rw [List.length_map] at hc;refine hc.mono ?_;rintro e w' ⟨rfl,n,os,rfl⟩;have hput:=ownsRow_putRow (q:=n) (k:=l.length) h1 (ys:=(l.map (·.data.toList)).mergeSort fun x y=>decide (x≤y)) (by rw [List.length_mergeSort,List.length_map]) (Nat.le_refl _)
   rw [List.take_of_length_le (by rw [List.length_mergeSort,List.length_map];exact Nat.le_refl _)] at hput;have hgrow:=below_growD (putRow encStr (Sort.ahead w n) g 0 ((l.map (·.data.toList)).mergeSort fun x y=>decide (x≤y)).toArray) os;refine ⟨rfl,?_,(below_putRow jR hb).trans (hgrow.mono (by rw [size_putRow];exact Nat.le_trans hb (Nat.le_of_lt hg)))⟩;have hown:OwnL idC 9 1 base (putRow encStr (Sort.ahead w n) g 0 ((l.map (·.data.toList)).mergeSort fun x y=>decide (x≤y)).toArray) (.slice (some ⟨g,0,none⟩) l.length cap) (sortB l):=by
    unfold OwnL sortB;rw [cells_enc,List.length_map,List.length_mergeSort,List.length_map];exact hput
   exact hown.below hgrow
theorem eqStr (T:TypeId):EqlAt Tryz.prog T Value.string (fun x y=>decide (x=y)):=⟨fun x y w=>by
 rw [(EqlAt.string Tryz.prog T).1 x y w];dsimp only;rw [ByteArray.toList_eq,ByteArray.toList_eq]
 by_cases h:x=y
 · simp [h]
 · have hd:¬x.data=y.data:=fun e=>h (by cases x;cases y;exact congrArg _ e)
   simp [h,hd],(EqlAt.string Tryz.prog T).2⟩
theorem neStr (T:TypeId):NeqAt Tryz.prog T Value.string (fun x y=>decide (x=y)):=⟨fun x y w=>by
 rw [(NeqAt.string Tryz.prog T).1 x y w];dsimp only;rw [ByteArray.toList_eq,ByteArray.toList_eq]
 by_cases h:x=y
 · simp [h]
 · have hd:¬x.data=y.data:=fun e=>h (by cases x;cases y;exact congrArg _ e)
   simp [h,hd],(NeqAt.string Tryz.prog T).2⟩
theorem compStr_nil (w:World):Calls Tryz.prog 53 #[.slice none 0 0] w fun e w'=>e=.returned (.slice none 0 0)∧w'=w:=by
 go_enter Tryz.func53,Tryz.ntmps53
 go_wp2_with fail
 go_ret
 exact ⟨rfl,rfl⟩
theorem compB_len (l:List ByteArray):(compB l).length≤l.length:=by
 unfold compB compactUpTo;rw [List.length_map];exact Nat.le_trans (List.length_filter_le _ _) (by simp)
theorem compStr_any (base:Nat) (v:Value) (l:List ByteArray) (w:World) (h:OwnL idC 9 1 base w v l) (hl:l.length≤1000000) :
 Calls Tryz.prog 53 #[v] w fun e w'=>∃A c,e=.returned (.slice A (compB l).length c)∧OwnL idC 9 1 base w' (.slice A (compB l).length c) (compB l)∧Below base w w':=by
 by_cases hv:v=.slice none 0 0
 · subst hv
   have h0:l=[]:=by
    obtain ⟨A,c,e⟩:=h.form;injection e with _ e2 _
    exact List.eq_nil_of_length_eq_zero e2.symm
   subst h0;refine (compStr_nil w).mono ?_;rintro e w' ⟨rfl,rfl⟩;exact ⟨none,0,rfl,OwnL.nil _ _,jR⟩
 · have h1:=h
   unfold OwnL at h1;rw [cells_ids] at h1;obtain ⟨g,cap,rfl,hb,hg,hn,hm,hz,hH⟩:=holds_of_ownsRow h1 hv;have hc:=AnyE.slices_Compact compactM Value.string (fun _=>rfl) (eqStr _) (neStr _) (⟨#[]⟩:ByteArray) (fun w=>Tryz.zeroValue9 w) g 0 cap l.toArray w hH (by simp;omega) (by simpa using hn);have hc2:Calls Tryz.prog 53 #[.slice (some ⟨g,0,none⟩) l.length cap] w fun e w'=>e=.returned (.slice (some ⟨g,0,none⟩) (compB l).length cap)∧∃q,w'=putRow Value.string (Sort.ahead w q) g 0 (compB l++List.replicate (l.length - (compB l).length) (⟨#[]⟩:ByteArray)).toArray:=by
    have e9:l.toArray.size=l.length:=by simp
    unfold compB;rw [←e9];exact hc
   refine hc2.mono ?_;rintro e w' ⟨rfl,n,rfl⟩;have hput:=ownsRow_putRow (q:=n) (k:=(compB l).length) h1 (ys:=compB l++List.replicate (l.length - (compB l).length) (⟨#[]⟩:ByteArray)) (by rw [List.length_append,List.length_replicate];have:=compB_len l;omega) (compB_len l);rw [List.take_left] at hput;refine ⟨_,_,rfl,?_,below_putRow jR hb⟩;unfold OwnL;rw [cells_ids];exact hput
end
end Go.Proofs.YtkcdhaallnhhmaaGreat
