/- Part 41 of the proof. -/
import Derived.Shelf.SlIter.Nil
import Derived.Shelf.SortM.Plain
import Derived.Shelf.SortM.SortNone
import Derived.Test.YtmniiodpbebnmaaGreatJ40
namespace Go.Proofs.YtmniiodpbebnmaaGreat
set_option linter.unusedSimpArgs false
set_option linter.unusedVariables false
set_option linter.unusedSectionVars false
set_option maxRecDepth 100000
set_option maxHeartbeats 16000000
section
open Go.Shelf
def s0F:Go.Shelf.Ren:=⟨fun|7=>77|10=>148|n=>n,fun|23=>100|26=>9|3=>60|28=>142|0=>0|27=>141|33=>56|4=>4|n=>n,fun|n=>n⟩
theorem keysM:Go.Proofs.SlLaysZ.n7 Tryz.prog s0F:={
  mixed:=by kernel_rfl
  f7:=⟨Tryz.f77.name,by decide,Tryz.func77.trans (congrArg some (by kernel_rfl))⟩
  f10:=⟨Tryz.f148.name,by decide,Tryz.func148.trans (congrArg some (by kernel_rfl))⟩
  t0:=Tryz.underlying0
  a0:=Tryz.isAgg0
  z0:=Tryz.sizeOf0
  v0:=Tryz.zeroValue0
  t4:=Tryz.underlying4
  a4:=Tryz.isAgg4
  z4:=Tryz.sizeOf4
  v4:=Tryz.zeroValue4
  t23:=Tryz.underlying100
  a23:=Tryz.isAgg100
  z23:=Tryz.sizeOf100
  v23:=Tryz.zeroValue100
  t26:=Tryz.underlying9
  a26:=Tryz.isAgg9
  z26:=Tryz.sizeOf9
  v26:=Tryz.zeroValue9
  t27:=Tryz.underlying141
  a27:=Tryz.isAgg141
  z27:=Tryz.sizeOf141
  v27:=Tryz.zeroValue141
  t28:=Tryz.underlying142
  a28:=Tryz.isAgg142
  z28:=Tryz.sizeOf142
  v28:=Tryz.zeroValue142
  t33:=Tryz.underlying56
  a33:=Tryz.isAgg56
  z33:=Tryz.sizeOf56
  v33:=Tryz.zeroValue56 }
def m0M:Go.Shelf.Ren:=⟨fun|6=>76|8=>146|9=>147|11=>204|13=>206|12=>205|23=>253|24=>254|14=>244|15=>245|16=>246|17=>247|18=>248|19=>249|20=>250|21=>251|22=>252|25=>288|26=>289|27=>290|28=>291|29=>292|30=>293|31=>306|n=>n,fun|26=>9|28=>142|24=>51|0=>0|3=>3|37=>233|48=>316|50=>72|4=>4|40=>310|39=>309|45=>251|5=>5|9=>9|51=>355|55=>359|57=>370|58=>371|33=>56|n=>n,fun|n=>n⟩
theorem p1Q:Go.Proofs.SlLaysZ.n6 Tryz.prog m0M:={
  mixed:=by kernel_rfl
  f6:=⟨Tryz.f76.name,by decide,Tryz.func76.trans (congrArg some (by kernel_rfl))⟩
  f8:=⟨Tryz.f146.name,by decide,Tryz.func146.trans (congrArg some (by kernel_rfl))⟩
  f11:=⟨Tryz.f204.name,by decide,Tryz.func204.trans (congrArg some (by kernel_rfl))⟩
  t0:=Tryz.underlying0
  a0:=Tryz.isAgg0
  z0:=Tryz.sizeOf0
  v0:=Tryz.zeroValue0
  t24:=Tryz.underlying51
  a24:=Tryz.isAgg51
  z24:=Tryz.sizeOf51
  v24:=Tryz.zeroValue51
  t26:=Tryz.underlying9
  a26:=Tryz.isAgg9
  z26:=Tryz.sizeOf9
  v26:=Tryz.zeroValue9
  t28:=Tryz.underlying142
  a28:=Tryz.isAgg142
  z28:=Tryz.sizeOf142
  v28:=Tryz.zeroValue142
  i26:=by kernel_rfl }
def i1S:Go.Shelf.Ren:=⟨fun|6=>147|8=>206|9=>205|19=>253|20=>254|21=>244|22=>245|23=>246|24=>247|25=>248|26=>249|27=>250|28=>251|29=>252|36=>288|31=>289|32=>290|37=>291|38=>292|39=>293|41=>306|n=>n,fun|27=>51|29=>9|3=>3|32=>233|26=>51|0=>0|44=>316|46=>72|4=>4|36=>310|35=>309|41=>251|5=>5|9=>9|53=>355|57=>359|63=>370|64=>371|n=>n,fun|n=>n⟩
theorem sortM:Go.Proofs.SlLaysM.n6 Tryz.prog i1S:={
  mixed:=by kernel_rfl
  f6:=⟨Tryz.f147.name,by decide,Tryz.func147.trans (congrArg some (by kernel_rfl))⟩
  f8:=Tryz.func206.trans (congrArg some (by kernel_rfl))
  f9:=⟨Tryz.f205.name,by decide,Tryz.func205.trans (congrArg some (by kernel_rfl))⟩
  f19:=Tryz.func253.trans (congrArg some (by kernel_rfl))
  f20:=Tryz.func254.trans (congrArg some (by kernel_rfl))
  f21:=⟨Tryz.f244.name,by decide,Tryz.func244.trans (congrArg some (by kernel_rfl))⟩
  f22:=⟨Tryz.f245.name,by decide,Tryz.func245.trans (congrArg some (by kernel_rfl))⟩
  f23:=⟨Tryz.f246.name,by decide,Tryz.func246.trans (congrArg some (by kernel_rfl))⟩
  f24:=⟨Tryz.f247.name,by decide,Tryz.func247.trans (congrArg some (by kernel_rfl))⟩
  f25:=⟨Tryz.f248.name,by decide,Tryz.func248.trans (congrArg some (by kernel_rfl))⟩
  f26:=⟨Tryz.f249.name,by decide,Tryz.func249.trans (congrArg some (by kernel_rfl))⟩
  f27:=⟨Tryz.f250.name,by decide,Tryz.func250.trans (congrArg some (by kernel_rfl))⟩
  f28:=⟨Tryz.f251.name,by decide,Tryz.func251.trans (congrArg some (by kernel_rfl))⟩
  f29:=⟨Tryz.f252.name,by decide,Tryz.func252.trans (congrArg some (by kernel_rfl))⟩
  f31:=Tryz.func289.trans (congrArg some (by kernel_rfl))
  f32:=Tryz.func290.trans (congrArg some (by kernel_rfl))
  f36:=⟨Tryz.f288.name,by decide,Tryz.func288.trans (congrArg some (by kernel_rfl))⟩
  f37:=⟨Tryz.f291.name,by decide,Tryz.func291.trans (congrArg some (by kernel_rfl))⟩
  f38:=⟨Tryz.f292.name,by decide,Tryz.func292.trans (congrArg some (by kernel_rfl))⟩
  f39:=⟨Tryz.f293.name,by decide,Tryz.func293.trans (congrArg some (by kernel_rfl))⟩
  f41:=⟨Tryz.f306.name,by decide,Tryz.func306.trans (congrArg some (by kernel_rfl))⟩
  t0:=Tryz.underlying0
  a0:=Tryz.isAgg0
  z0:=Tryz.sizeOf0
  v0:=Tryz.zeroValue0
  t3:=Tryz.underlying3
  a3:=Tryz.isAgg3
  z3:=Tryz.sizeOf3
  v3:=Tryz.zeroValue3
  t4:=Tryz.underlying4
  a4:=Tryz.isAgg4
  z4:=Tryz.sizeOf4
  v4:=Tryz.zeroValue4
  t5:=Tryz.underlying5
  a5:=Tryz.isAgg5
  z5:=Tryz.sizeOf5
  v5:=Tryz.zeroValue5
  t9:=Tryz.underlying9
  a9:=Tryz.isAgg9
  z9:=Tryz.sizeOf9
  v9:=Tryz.zeroValue9
  t26:=Tryz.underlying51
  a26:=Tryz.isAgg51
  z26:=Tryz.sizeOf51
  v26:=Tryz.zeroValue51
  t27:=Tryz.underlying51
  a27:=Tryz.isAgg51
  z27:=Tryz.sizeOf51
  v27:=Tryz.zeroValue51
  t29:=Tryz.underlying9
  a29:=Tryz.isAgg9
  z29:=Tryz.sizeOf9
  v29:=Tryz.zeroValue9
  t32:=Tryz.underlying233
  a32:=Tryz.isAgg233
  z32:=Tryz.sizeOf233
  v32:=Tryz.zeroValue233
  t35:=Tryz.underlying309
  a35:=Tryz.isAgg309
  z35:=Tryz.sizeOf309
  v35:=Tryz.zeroValue309
  t36:=Tryz.underlying310
  a36:=Tryz.isAgg310
  z36:=Tryz.sizeOf310
  v36:=Tryz.zeroValue310
  t41:=Tryz.underlying251
  a41:=Tryz.isAgg251
  z41:=Tryz.sizeOf251
  v41:=Tryz.zeroValue251
  t44:=Tryz.underlying316
  a44:=Tryz.isAgg316
  z44:=Tryz.sizeOf316
  v44:=Tryz.zeroValue316
  t46:=Tryz.underlying72
  a46:=Tryz.isAgg72
  z46:=Tryz.sizeOf72
  v46:=Tryz.zeroValue72
  t53:=Tryz.underlying355
  a53:=Tryz.isAgg355
  z53:=Tryz.sizeOf355
  v53:=Tryz.zeroValue355
  t57:=Tryz.underlying359
  a57:=Tryz.isAgg359
  z57:=Tryz.sizeOf359
  v57:=Tryz.zeroValue359
  t63:=Tryz.underlying370
  a63:=Tryz.isAgg370
  z63:=Tryz.sizeOf370
  v63:=Tryz.zeroValue370
  t64:=Tryz.underlying371
  a64:=Tryz.isAgg371
  z64:=Tryz.sizeOf371
  v64:=Tryz.zeroValue371 }
end
section
open Go.RowKit Go.Lib Go.Sort Go.Maps Go.Shelf
def idC (s:ByteArray):List Value:=[.string s]
theorem eId:g0Y 51 9 1 16 (.string ⟨#[]⟩) idC :=
 ⟨by kernel_rfl,by kernel_rfl,rfl,by decide,by decide,fun _=>rfl,fun x u hu=>by
  simp only [idC,List.mem_cons,List.not_mem_nil,or_false] at hu
  subst hu
  rfl⟩
def j0Y (es:List (SK × It)):List (List UInt8):=es.map fun p=>p.1.1.data.toList
def k0F (es:List (SK × It)):List ByteArray:=((j0Y es).mergeSort fun x y=>decide (x≤y)).map fun x=>⟨x.toArray⟩
def anyR (H:Type):Value→Option (DataW H × List MemPlace):=fun _=>some (.nil,[])
theorem u0P {w:World} {L:Nat} {es:List (SK × It)} (h:a0V skV ldV w L es) (hl:es.length≤1000000) :
 ∃D0:DataW Unit,w.ownsMap Tryz.prog 9 (anyR Unit) L es.length D0∧(strKeys D0).Perm (j0Y es)∧Maps.size D0=es.length:=by
 obtain ⟨ents,clock,hb,hkv,hbn,hcl,hn⟩:=h;have hsz:ents.size=es.length:=by simpa using congrArg List.length hkv
 have hkeys:ents.toList.map (·.key)=es.map fun p=>skV p.1:=by
  have:=congrArg (List.map Prod.fst) hkv;rw [List.map_map,List.map_map] at this;exact this
 have hrd:∀x∈ents.toList,∃s:SK,x.key=skV s∧Go.WideElems.rd Tryz.prog 9 (anyR Unit) x=some (.string s.1.data.toList,.nil):=fun x hx=>by
  obtain ⟨p,hp,hk,_⟩:=r0E hkv hx;refine ⟨p.1,hk,?_⟩;unfold Go.WideElems.rd;rw [hk]
  show (keyOf Tryz.prog 9 (.string p.1.1)).bind _=_
  rw [Go.WideMaps.keyOf_string_mk Tryz.underlying9 p.1.2];rfl
 have hnd:(ents.toList.map (·.key)).Nodup:=by
  rw [hkeys];have e:(es.map fun p=>skV p.1)=(es.map (·.1)).map skV:=by rw [List.map_map];rfl
  rw [e];exact List.pairwise_map.2 (hn.imp (fun hne e=>hne (z0I.inj _ _ e)))
 refine ⟨_,⟨ents,clock,hb,⟨by rw [hsz];unfold maxLen;omega,⟨hcl,hbn,hnd⟩,fun x hx=>by obtain ⟨s,_,h1⟩:=hrd x hx;exact ⟨_,h1⟩⟩,Nat.le_of_eq hsz,rfl⟩,?_,?_⟩
 · show ((List.foldr DataW.insert [] (ents.toList.map (Go.WideElems.rg Tryz.prog 9 (anyR Unit)))).map fun p=>strOf p.1).Perm _
   refine ((Go.WideShapes.sorted_perm _).map _).trans (List.Perm.of_eq ?_);rw [List.map_map];have e:j0Y es=(es.map fun p=>skV p.1).map fun v=>match v with|.string s=>s.data.toList|_=>[]:=by
    unfold j0Y;rw [List.map_map];rfl
   rw [e,←hkeys,List.map_map];refine List.map_congr_left (fun x hx=>?_);obtain ⟨s,hk,h1⟩:=hrd x hx;simp only [Function.comp,Go.WideElems.rg,h1,hk,skV,Option.getD_some]
   rfl
 · show (List.foldr DataW.insert [] _).length=_
   rw [length_sorted,List.length_map,Array.length_toList,hsz]
theorem sortsM (m:Nat):AnyZ.SortsIn Tryz.prog m0M Fence.wide m :=
 ⟨fun blk off cap ss W hH hblk hsz=>callsIn_wide.2 (AnyM.slices_Sort_string sortM blk off cap ss W hH hblk hsz),
  fun p cap W=>callsIn_wide.2 (AnyM.slices_Sort_string_none sortM p cap W)⟩
theorem z0S (mb:Option Nat) (W:World):Calls Tryz.prog 77 #[.map mb] W fun e w'=>e=.returned (.func (.func 148) #[] #[.pointer (some ⟨W.heap.size,0,none⟩)])∧w'=W.alloc (.cells #[.map mb] 100) :=
 callsIn_wide.1 (AnyZ.keys_in keysM Fence.wide 5 trivial rfl mb W)
theorem t0W (b:Nat) (es:List (SK × It)) (w:World) (h:a0V skV ldV w b es) (hl:es.length≤1000000) :
 Calls Tryz.prog 76 #[.func (.func 148) #[] #[.pointer (some ⟨w.heap.size,0,none⟩)]] (w.alloc (.cells #[.map (some b)] 100)) fun e w'=>∃A c,e=.returned (.slice A (k0F es).length c) ∧
   b0Q idC 9 1 w.heap.size w' (.slice A (k0F es).length c) (k0F es)∧jB w w':=by
 obtain ⟨D0,hown,hperm,hsize⟩:=u0P h hl;have hbl:=hown.lt;have hseq:SeqGives Fence.wide 2 Tryz.prog 148 #[.pointer (some ⟨w.heap.size,0,none⟩)] encStr (fun ss=>ss.Perm (strKeys D0)) (Maps.size D0) (w.alloc (.cells #[.map (some b)] 100)) :=
  AnyZ.keys_gives (ρ:=s0F) { keysM with } Fence.wide _ trivial rfl (by omega) w.heap.size b es.length D0 _ (by simp) (by simp) (by
   obtain ⟨es,clock,hb,Ft,hs,hD⟩:=hown;exact ⟨es,clock,(Below.heap_alloc _ _ b hbl).trans hb,Ft,hs,hD⟩)
 have h1:=callsIn_wide.1 (AnyZ.sorted_in p1Q Fence.wide 5 trivial trivial trivial trivial rfl (by omega) (sortsM _) (enters_of Tryz.func147 (by kernel_rfl) rfl) 148 #[.pointer (some ⟨w.heap.size,0,none⟩)] trivial (enters_of Tryz.func148 (by kernel_rfl) rfl) _ _ (by rw [hsize];unfold maxLen;omega) (by rw [hsize];omega) _ hseq);refine h1.mono ?_;rintro e w' ⟨v,ss,rfl,hS,hrow,_,hb⟩;have e1:(ss.mergeSort fun x y=>decide (x≤y)).map encStr=a0F idC (k0F es):=by
  unfold k0F;rw [←mergeSort_of_perm (hS.trans hperm)];generalize ss.mergeSort leB=l
  induction l with
  | nil=>rfl
  | cons a l ih =>
    rw [List.map_cons,List.map_cons,a0U,ih];rfl
 have e2:ss.length=(k0F es).length:=by
  unfold k0F;rw [List.length_map,List.length_mergeSort,←(hS.trans hperm).length_eq]
 rw [e1,e2] at hrow;have hrow':b0Q idC 9 1 w.heap.size w' v (k0F es):=m0V hrow (by simp);obtain ⟨A,c,rfl⟩:=hrow'.form;exact ⟨A,c,rfl,hrow',(a0C jR _).trans (hb.mono (by simp))⟩
theorem v0N {P:Nat→Prop} {M:Nat} {c:Cfg} {wd:Wd} {d:b0J} (w:World) (h:f0O P w M c wd d) :
 Calls Tryz.prog 57 #[.pointer (some ⟨M,0,none⟩)] w fun e w'=>e=.returned (.bool true)∧w'=w:=by
 obtain ⟨a1,a2,a3⟩:=a0A jR h.cell;have hq:∀W,(binOp .neq 100 (.map (some d.L)) (.map none)).run Tryz.prog W=.ok (.bool true) W:=fun W=>run_neq_map_nil W _ _ _ (some d.L) Tryz.underlying100
 clear h
 go_enter Tryz.func57,Tryz.ntmps57
 go_wp2_with fail
 go_ret
 exact ⟨rfl,rfl⟩
theorem g1A {P:Nat→Prop} {M:Nat} {c:Cfg} {wd:Wd} {d:b0J} (w:World) (h:f0O P w M c wd d) (hl:d.es.length≤1000000) :
 Calls Tryz.prog 25 #[.pointer (some ⟨M,0,none⟩)] w fun e w'=>∃A c,e=.returned (.slice A (k0F d.es).length c)∧b0Q idC 9 1 w.heap.size w' (.slice A (k0F d.es).length c) (k0F d.es)∧jB w w':=by
 have CM:=jH (fun W (hW:jB w W)=>v0N W (h.below hW));have CS:=jH (t0W d.L d.es w h.map hl);obtain ⟨a1,a2,a3⟩:=a0A jR h.cell;clear h hl
 go_enter Tryz.func25,Tryz.ntmps25
 go_wp2_with (first
  | (go_at_call 57
     refine (CM.out w jR).mono ?_;rintro e w2 ⟨rfl,rfl⟩)
  | (go_at_call 77
     refine (z0S _ _).mono ?_;rintro e w3 ⟨rfl,rfl⟩)
  | (go_at_call 76
     refine CS.out.mono ?_;rintro e w4 ⟨A,c9,rfl,ho4,hb4⟩;have HO4:=jH ho4;have HB4:=jH hb4;clear ho4 hb4))
 go_ret
 exact ⟨A,c9,rfl,HO4.out,HB4.out⟩
end
section
open Go.RowKit Go.Lib
def cutV (B:Nat):Value:=.func (.func 130) #[] #[.pointer (some ⟨B,0,none⟩)]
theorem p0V (a b cut:Int) (B:Nat) (w:World) (hB:∀U,jB w U→U.cell? ⟨B,0,none⟩=some (.int .i64 cut)) :
 Calls Tryz.prog 130 #[.agg #[.int .i64 a,.int .i64 b],.pointer (some ⟨B,0,none⟩)] w (jP w (.bool (decide (a<cut)))):=by
 have q:=hB (w.alloc (.cells #[.int .i64 a,.int .i64 b] 111)) (a0C jR _);clear hB
 go_enter Tryz.func130,Tryz.ntmps130
 go_wp2_with fail
 go_ret
 exact ⟨rfl,a0C jR _⟩
theorem k1K (A:Option Addr) (c:Nat) (l:List Smp) (cut:Int) (B:Nat) (w:World) (hv:a0Q 2 c0B w (.slice A l.length c) l) (hr:b0K l) (hl:l.length≤1000000) (hB:∀U,jB w U→U.cell? ⟨B,0,none⟩=some (.int .i64 cut)) :
 Calls Tryz.prog 195 #[.slice A l.length c,cutV B] w (jP w (.int .i64 (if a0N l cut=0 then -1 else 0))):=by
 have HV:=jH hv;have HB:=jH hB;have HPL:=jH (g0F hr cut);have HPE:=jH (f0N l cut);obtain ⟨p,hp⟩:∃p,p=a0N l cut:=⟨_,rfl⟩;rw [←hp] at HPL HPE ⊢;obtain ⟨r,hrr⟩:∃r:Int,r=if p=0 then -1 else 0:=⟨_,rfl⟩;rw [←hrr];have HR:=jH hrr;clear hv hr hB hp hrr;unfold cutV
 go_enter Tryz.func195,Tryz.ntmps195
 go_wp2_with fail
 go_loopg [5,8] l.length (fun g _ s8 wr=>∃k:Nat,k≤l.length∧l.length - k≤g∧s8=.int .i64 k∧jB w wr∧Hid (p=0∨k=0))
 case atStart=>exact ⟨0,Nat.zero_le _,Nat.le_refl _,rfl,jR,jH (.inr rfl)⟩
 case round =>
  obtain ⟨k,hk,hg,rfl,hbr,HK⟩:=hrel;have HBR:=jH hbr;clear hbr
  by_cases hlt:k<l.length
  · obtain ⟨b,o,rfl,hb,hc⟩:=HV.out.at_ hlt
    have c0:wr.cell? ⟨b,o+k * 2,none⟩=some (.int .i64 l[k].1):=(HBR.out.cell (p:=⟨b,_,none⟩) hb).trans (hc 0 _ rfl);have c1:wr.cell? ⟨b,o+k * 2+1,none⟩=some (.int .i64 l[k].2):=(HBR.out.cell (p:=⟨b,_,none⟩) hb).trans (hc 1 _ rfl);have HX:=jH (HPL.out k hlt);clear hc hb;generalize l[k]=x at c0 c1 HX;have HF:=jH (p0V x.1 x.2 cut B wr (fun U hU=>HB.out U (a0D HBR.out hU)))
    by_cases hx:x.1<cut
    · have hx0:p≠0∧k=0:=by
       have h1:=HX.out.2 hx
       rcases HK.out with h|h
       · omega
       · exact ⟨by omega,h⟩
      have HZ:=jH hx0;clear hx0
      go_wp2_with (first
       | (go_at_call 130
          refine HF.out.mono ?_;rintro e w2 ⟨rfl,hb2⟩;have HB2:=jH (a0D HBR.out hb2);clear hb2))
      go_ret
      exact ⟨by rw [HR.out,if_neg HZ.out.1,HZ.out.2];rfl,HB2.out⟩
    · have hp0:p=0:=by
       have h1:=mt HX.out.1 hx
       rcases HK.out with h|h
       · exact h
       · omega
      have HZ:=jH hp0;clear hp0
      go_wp2_with (first
       | (go_at_call 130
          refine HF.out.mono ?_;rintro e w2 ⟨rfl,hb2⟩;have HB2:=jH (a0D HBR.out hb2);clear hb2))
      go_roundg (l.length - (k+1))
      case measure=>omega
      case rel=>exact ⟨k+1,hlt,Nat.le_refl _,by go_num,HB2.out,jH (.inl HZ.out)⟩
  · have hp0:p=0∨l.length=0:=by
     rcases HK.out with h|h
     · exact .inl h
     · exact .inr (by omega)
    have hp1:p=0:=by
     rcases hp0 with h|h
     · exact h
     · have:=HPE.out;omega
    have HZ:=jH hp1;clear hp0 hp1;go_wp2_with fail
    go_ret
    exact ⟨by rw [HR.out,if_pos HZ.out];rfl,HBR.out⟩
theorem l1J {l m:List Smp} {j:Nat} (h:m.drop j=l.drop j) (hl:m.length=l.length) (hj:j<l.length):m[j]'(by omega)=l[j]:=by
 have h1:=congrArg (fun q:List Smp=>q[0]?) h;simp only [List.getElem?_drop,Nat.add_zero] at h1
 rw [List.getElem?_eq_getElem (by omega),List.getElem?_eq_getElem hj] at h1;injection h1
theorem l1Z (base:Nat) (v:Value) (l:List Smp) (cut:Int) (B:Nat) (w:World) (h:b0Q c0B 111 2 base w v l) (hr:b0K l) (hl:l.length≤1000000) (hB:∀U,w.grownBy U v.ownBlock→U.cell? ⟨B,0,none⟩=some (.int .i64 cut)) :
 Calls Tryz.prog 129 #[v,cutV B] w (e0T base w v (l.drop (a0N l cut))):=by
 obtain ⟨A,c,rfl⟩:=h.form;have hcl:l.length≤c:=by obtain ⟨_,_,hv,hc,_⟩:=h.row d0C;injection hv with _ _ e3;omega
 have CI:=jH (k1K A c l cut B w (h.row d0C) hr hl (fun U hU=>hB U (b0X hU)));have HPL:=jH (g0F hr cut);have HPE:=jH (f0N l cut);obtain ⟨p,hp⟩:∃p,p=a0N l cut:=⟨_,rfl⟩;rw [←hp] at HPL HPE CI ⊢;have HOW:=jH h;have HB:=jH hB
 by_cases hp0:p=0
 · rw [if_pos hp0] at CI
   subst hp0;clear h hr hp hB;unfold cutV at CI ⊢
   go_enter Tryz.func129,Tryz.ntmps129
   go_wp2_with (first
    | (go_at_call 195
       refine CI.out.mono ?_;rintro e w2 ⟨rfl,hb2⟩;have HB2:=jH hb2;clear hb2))
   go_ret
   exact ⟨A,c,rfl,HOW.out.below HB2.out,b0X HB2.out,.inl rfl⟩
 · rw [if_neg hp0] at CI
   rcases Go.Joins.ownsRow_forms h with ⟨hn,hz⟩|⟨g,c2,hn⟩
   · have:=HPE.out;omega
   injection hn with hA _ hc2
   subst hA;subst hc2;have hcm:c≤9223372036854775807:=by obtain ⟨_,_,_,_,hc,_⟩:=e0B h;exact hc
   obtain ⟨i0,hi0,hz0,hz1,hz2⟩:=info_parts d0C.hi;have HP0:=jH hp0;have hps:1≤l.length:=by have:=HPE.out;omega
   have HI0:=jH (And.intro hi0 hz0);clear h hr hp hB hp0 hi0 hz0 hz1 hz2;unfold cutV at CI ⊢
   go_enter Tryz.func129,Tryz.ntmps129
   go_wp2_with (first
    | (go_at_call 195
       refine CI.out.mono ?_;rintro e w2 ⟨rfl,hb2⟩;have HB2:=jH hb2;clear hb2))
   go_loopg [5,6,7] l.length (fun q s5 s6 _ wr=>∃(j i:Nat) (m:List Smp),1≤j∧j≤l.length∧l.length - j≤q∧s5=.int .i64 i∧s6=.int .i64 j∧Hid (i=j - p)∧m.length=l.length∧b0Q c0B 111 2 base wr (.slice (some ⟨g,0,none⟩) m.length c) m∧Hid (m.drop j=l.drop j)∧Hid (m.take i=(l.drop p).take i)∧w.grownBy wr (some g))
   case atStart=>exact ⟨1,0,l,Nat.le_refl _,hps,by omega,rfl,rfl,jH (by have:=HP0.out;omega),rfl,HOW.out.below HB2.out,jH rfl,jH rfl,b0X HB2.out⟩
   case round =>
    obtain ⟨j,i,m,hj1,hj,hg,rfl,rfl,HI,hml,hown,HD,HT,hgr⟩:=hrel;rename World=>wr
    have HO:=jH hown;have HG:=jH hgr;have HML:=jH hml;have hij:i≤j:=by have:=HI.out;omega
    clear hown hgr
    by_cases hlt:j<l.length
    · have hmj:j<m.length:=by omega
      obtain ⟨b,o,hbo,hb,hc⟩:=(HO.out.row d0C).at_ hmj;injection hbo with hbo
      injection hbo with hb1 ho1 _
      subst hb1;subst ho1;have hget:=l1J HD.out hml hlt;have c0:wr.cell? ⟨g,j * 2,none⟩=some (.int .i64 l[j].1):=by rw [←hget];have:=hc 0 _ rfl;simpa using this
      have c1:wr.cell? ⟨g,j * 2+1,none⟩=some (.int .i64 l[j].2):=by rw [←hget];have:=hc 1 _ rfl;simpa using this
      have HX:=jH (HPL.out j hlt);have HNX:=jH (show p≤j→(l.drop p).take (j - p+1)=(l.drop p).take (j - p)++[l[j]] from fun hpj=>by
       rw [List.take_succ_eq_append_getElem (by simp;omega)]
       congr 2
       rw [List.getElem_drop]
       congr 1
       omega)
      have HF:=jH (fun (W:World) (hW:jB wr W)=>p0V l[j].1 l[j].2 cut B W (fun U hU=>HB.out U (b0D HG.out (b0X (a0D hW hU)))));obtain ⟨x,hx0⟩:∃x,x=l[j]:=⟨_,rfl⟩;rw [←hx0] at c0 c1 HX HNX HF;clear hc hb hget hx0;have hgl:g<wr.heap.size:=(HO.out.lt rfl).2
      by_cases hx:x.1<cut
      · rw [decide_eq_true hx] at HF
        have hi0:i=0:=by have h1:=HX.out.2 hx;have:=HI.out;omega
        have HI1:=jH (show i=j+1 - p by have h1:=HX.out.2 hx;have:=HI.out;omega);clear hi0
        go_wp2_with (first
         | (go_at_call 130
            refine a0B ?_;intro W2 hW2;have hb2:jB wr W2:=by rw [hW2];exact a0C jR _
            clear hW2;refine (HF.out W2 hb2).mono ?_;rintro e w4 ⟨rfl,hb4⟩;have HB4:=jH (a0D hb2 hb4);clear hb2 hb4))
        go_roundg (l.length - (j+1))
        case measure=>omega
        case rel=>exact ⟨j+1,i,m,by omega,hlt,Nat.le_refl _,rfl,by go_num,HI1,HML.out,HO.out.below HB4.out,jH (by have:=congrArg (List.drop 1) HD.out;simpa [List.drop_drop,Nat.add_comm] using this),HT,b0D HG.out (b0X HB4.out)⟩
      · rw [decide_eq_false hx] at HF
        have hpj:p≤j:=by have h1:=mt HX.out.1 hx;omega
        have HPJ:=jH hpj;have him:i<m.length:=by have:=HI.out;have:=HP0.out;omega
        have hiz:(0:Int)≤(i:Int):=by omega
        have hil:(i:Int)<(l.length:Int):=by omega
        have HIM:=jH him;obtain ⟨cur,hcur,_,hmc,_,hcs,_⟩:=e0B HO.out;have e0:wr.cell? ⟨g,i * 2,none⟩=some (cur[i * 2]'(by omega)):=((a0A jR hcur).1 (i * 2)).trans (Array.getElem?_eq_getElem (by omega));have e1:wr.cell? ⟨g,i * 2+1,none⟩=some (cur[i * 2+1]'(by omega)):=((a0A jR hcur).1 (i * 2+1)).trans (Array.getElem?_eq_getElem (by omega));generalize cur[i * 2]'(by omega)=d0 at e0;generalize cur[i * 2+1]'(by omega)=d1 at e1
        have HCU:=jH hcur;have HE0:=jH (And.intro e0 e1);clear hpj him hcur e0 e1 hmc hcs
        go_wp2_with (first
         | (go_at_call 130
            refine a0B ?_;intro W2 hW2;have hb2:jB wr W2:=by rw [hW2];exact a0C jR _
            have hv2:W2.heap[wr.heap.size]?=some (.cells #[.int .i64 x.1,.int .i64 x.2] 111 (0,0)):=by rw [hW2];exact heap_alloc_new _ _
            clear hW2;refine (HF.out W2 hb2).mono ?_;rintro e w4 ⟨rfl,hb4⟩;have HB4:=jH (a0D hb2 hb4);obtain ⟨v1,v2,v3⟩:=a0A hb4 hv2;have e0:=(HB4.out.cell (p:=⟨g,i * 2,none⟩) hgl).trans HE0.out.1;have e1:=(HB4.out.cell (p:=⟨g,i * 2+1,none⟩) hgl).trans HE0.out.2;obtain ⟨u1,u2,u3⟩:=a0A HB4.out HCU.out;clear hb2 hb4 hv2 u1))
        have HOS:=jH (g1G (HO.out.below HB4.out) i HIM.out x)
        go_roundg (l.length - (j+1))
        case measure=>omega
        case rel=>exact ⟨j+1,i+1,m.set i x,by omega,hlt,Nat.le_refl _,by go_num,by go_num,jH (by have:=HI.out;have:=HPJ.out;omega),by rw [List.length_set];exact HML.out,by rw [List.length_set];exact HOS.out.1,jH (by
                     rw [List.drop_set_of_lt (by omega)];have:=congrArg (List.drop 1) HD.out
                     simpa [List.drop_drop,Nat.add_comm] using this),jH (by
                     have h1:=HNX.out HPJ.out;rw [←HI.out] at h1;rw [h1,←HT.out,List.take_succ_eq_append_getElem (by rw [List.length_set];exact HIM.out),List.take_set_of_le (Nat.le_refl _),List.getElem_set_self]),b0D (b0D HG.out (b0X HB4.out)) HOS.out.2⟩
    · obtain rfl:j=l.length:=by omega
      have hil:i+p=l.length:=by have:=HI.out;have:=HPE.out;omega
      have htk:m.take i=l.drop p:=by rw [HT.out];exact List.take_of_length_le (by simp;omega)
      have hdl:(l.drop p).length=i:=by simp;omega
      obtain ⟨cur,hG1,h1,h3,h4,h5,h6⟩:=e0B HO.out;have hip:i<l.length:=by have:=HP0.out;omega
      have hzc:(Builtin.zeroCells (Value.agg #[.int .i64 0,.int .i64 0]).cells (l.length - i)).size=(l.length - i) * 2:=by
       rw [size_zeroCells];rfl
      obtain ⟨W2,hW2⟩:∃W2,W2=wr.setRow g (cur.toList.take (i * 2)++(Builtin.zeroCells (Value.agg #[.int .i64 0,.int .i64 0]).cells (l.length - i)).toList++cur.toList.drop (i * 2+(Builtin.zeroCells (Value.agg #[.int .i64 0,.int .i64 0]).cells (l.length - i)).toList.length)).toArray:=⟨_,rfl⟩;have hclr:∀ty dc,(Builtin.clear_ #[57] ty #[.slice (some ⟨g,i * 2,none⟩) (l.length - i) dc]).run Tryz.prog wr=.ok (.tuple #[]) W2:=fun ty dc=>by
       rw [hW2];exact p0S wr 57 111 ty _ d0C.ht (fun w=>by simp [zeroValue,typeInfo,HI0.out.1,HI0.out.2]) (fun u hu=>by simp [Value.cells] at hu;rcases hu with rfl|rfl <;> rfl) g _ _ dc cur _ (by omega) hG1 (by rw [hzc,h5];omega)
      have HFIN:e0T base w (.slice (some ⟨g,0,none⟩) l.length c) (l.drop p) (.returned (.slice (some ⟨g,0,none⟩) i c)) W2:=by
       refine ⟨some ⟨g,0,none⟩,c,by rw [hdl],?_,?_,.inl rfl⟩
       · have hcl2:cur.toList.length=c * 2:=by simpa using h5
         have hzl:(Builtin.zeroCells (Value.agg #[.int .i64 0,.int .i64 0]).cells (l.length - i)).toList.length=(l.length - i) * 2:=by simpa using hzc
         refine j0N (cur:=(cur.toList.take (i * 2)++(Builtin.zeroCells (Value.agg #[.int .i64 0,.int .i64 0]).cells (l.length - i)).toList++cur.toList.drop (i * 2+(Builtin.zeroCells (Value.agg #[.int .i64 0,.int .i64 0]).cells (l.length - i)).toList.length)).toArray) ?_ h1 (by omega) h4 ?_ ?_
         · rw [hW2];exact setRow_heap wr g _ _ _ _ hG1
         · simp only [List.size_toArray,List.length_append,List.length_take,List.length_drop,hcl2,hzl];omega
         · show List.take _ (_++_++_)=_
           rw [hdl,List.append_assoc,List.take_append_of_le_length (by rw [List.length_take,hcl2];omega),List.take_take,Nat.min_self,←htk,i0V,←h6,List.take_take,Nat.min_eq_left (by omega)]
       · rw [hW2]
         exact b0D HG.out (e0P _ _ _)
      have HF:=jH HFIN;have hi0:(0:Int)≤(i:Int):=by omega
      have hi2:(i:Int)≤(l.length:Int):=by omega
      have hi3:i≤l.length:=by omega
      have hi4:i≤c:=by omega
      have hi5:(i:Int)≤(c:Int):=by omega
      have hne:¬c=i:=by omega
      have hc0:¬c=0:=by omega
      clear HFIN hW2 hzc h6 h5 hG1 h1 h3 h4 htk hdl hil;go_wp2_with fail
      go_ret
      exact HF.out
end
end Go.Proofs.YtmniiodpbebnmaaGreat
