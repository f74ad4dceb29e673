/- Part 28 of the proof: SFreeze, FlM, FlJ, FlId, W21F, StoJ, W21N. -/
import Derived.Test.YtpmfcpdelkchaaaGreatL24
import Derived.Test.YtpmfcpdelkchaaaGreatL26
import Derived.Test.YtpmfcpdelkchaaaGreatL27
namespace Go.Proofs.YtpmfcpdelkchaaaGreat
set_option linter.unusedSimpArgs false
set_option linter.unusedVariables false
set_option linter.unusedSectionVars false
set_option maxRecDepth 100000
set_option maxHeartbeats 16000000
section
open Go.RowKit Go.Lib Go.Sort
open Go.ChangeMaps (setBlock)
def frz (x:Nd):Nd:={ x with frz:=true }
end
section
open Go.RowKit Go.Lib Go.Sort
theorem putS_snoc {l:List Smp} {x:Smp} {room:Int} (hr:risingS (l++[x])) (h:((l.length+1:Nat):Int)≤room):putS l room x=l++[x]:=by
 have hp:placeS l x.1=l.length:=by
  unfold placeS;rw [List.countP_eq_length];intro y hy;have:=(List.pairwise_append.1 hr).2.2 y hy x (by simp);simp
  omega
 unfold putS hitS insS cutS;rw [hp,List.getElem?_eq_none (Nat.le_refl _),List.take_length,List.drop_length];rw [if_neg (by simp)];simp only [List.length_append,List.length_singleton]
 rw [if_neg (by omega)]
def foldS (room:Int) (l:List Smp):List Smp:=l.foldl (fun a x=>putS a room x) []
theorem foldS_snoc (room:Int) (l:List Smp) (x:Smp):foldS room (l++[x])=putS (foldS room l) room x:=by
 unfold foldS;rw [List.foldl_append];rfl
theorem foldS_take (room:Int) (l:List Smp) (k:Nat) (h:k<l.length):foldS room (l.take (k+1))=putS (foldS room (l.take k)) room l[k]:=by
 rw [List.take_succ_eq_append_getElem h,foldS_snoc]
theorem foldS_self (room:Int) (l:List Smp) (hr:risingS l) (hl:(l.length:Int)≤room):∀k,k≤l.length→foldS room (l.take k)=l.take k
  | 0,_=>rfl
  | k+1,h=>by
    rw [foldS_take room l k (by omega),foldS_self room l hr hl k (by omega),List.take_succ_eq_append_getElem (by omega)];refine putS_snoc ?_ ?_
    · rw [←List.take_succ_eq_append_getElem (by omega)]
      exact hr.sublist (List.take_sublist _ _)
    · rw [List.length_take]
      omega
theorem foldS_one (room:Int) (l:List Smp) (x:Smp) (hr:risingS l) (hl:(l.length:Int)≤room):foldS room (l++[x])=putS l room x:=by
 rw [foldS_snoc];have:=foldS_self room l hr hl l.length (Nat.le_refl _);rw [List.take_length] at this;rw [this]
theorem foldS_ok (room:Nat):∀l:List Smp,risingS (foldS (room:Nat) l)∧(foldS (room:Nat) l).length≤room:=by
 intro l
 induction hn:l.length generalizing l with
 | zero =>
   rw [List.eq_nil_of_length_eq_zero hn];exact ⟨List.Pairwise.nil,Nat.zero_le _⟩
 | succ n ih =>
   rcases List.eq_nil_or_concat l with rfl|⟨m,x,rfl⟩
   · cases hn
   · rw [List.concat_eq_append] at hn ⊢
     obtain ⟨a,b⟩:=ih m (by simpa using hn);rw [foldS_snoc];exact ⟨rising_put a _ x,putS_len b x⟩
end
section
open Go.RowKit Go.Lib Go.Sort
theorem serOf_any (room:Nat) (A:Option Addr) (c:Nat) (l:List Smp) (w:World) (hv:RowIn 2 smpC w (.slice A l.length c) l) (hl:l.length≤1000000) (h1:1≤room) (h2:room≤256) (hpos:∀x∈l,0≤x.1∧0≤x.2) :
 Calls Tryz.prog 158 #[.int .i64 (room:Nat),.slice A l.length c] w (NewSer w (foldS (room:Nat) l) (room:Nat)):=by
 have CN:=jH (serNew_any (room:Nat) w (by omega) (by omega));have HV:=jH hv;have HP:=jH hpos;have HR:=jH (And.intro h1 h2);have HL:=jH hl;clear hv hpos h1 h2;unfold NewSer at CN ⊢
 go_enter Tryz.func158,Tryz.ntmps158
 go_wp2_with (first
  | (go_at_call 213
     refine CN.out.mono ?_;rintro e w1 ⟨S,fp,rfl,hs1,hf1,hb1⟩;have HS1:=jH hs1;have HF1:=jH hf1;have HB1:=jH hb1;clear hs1 hf1 hb1))
 go_loopg [7,12] l.length (fun g _ s12 wr=>∃k:Nat,k≤l.length∧l.length - k≤g∧s12=.int .i64 k∧jB w wr∧∃fp,SerIn wr S (foldS (room:Nat) (l.take k)) (room:Nat) fp∧∀x∈fp,w.heap.size≤x)
 case atStart=>exact ⟨0,Nat.zero_le _,Nat.le_refl _,rfl,HB1.out,_,HS1.out,HF1.out⟩
 case round =>
  obtain ⟨k,hk,hg,rfl,hbr,fp2,hs2,hf2⟩:=hrel;have HBR:=jH hbr;have HS2:=jH hs2;have HF2:=jH hf2;clear hbr hs2 hf2
  by_cases hlt:k<l.length
  · obtain ⟨b,o,rfl,hb,hc⟩:=HV.out.at_ hlt
    have hp:=HP.out _ (List.getElem_mem hlt);have hfo:=foldS_ok room (l.take k);have HPUT:=jH (fun W (hW:jB wr W)=>serPut_any S (foldS (room:Nat) (l.take k)) (room:Nat) fp2 l[k] W (HS2.out.kept (fun r hr=>hW.block r (HS2.out.lt r hr))) hfo.1 (by have:=HR.out.2;omega) (by have:=HR.out.1;omega) hp.1 hp.2);rw [←foldS_take (room:Nat) l k hlt] at HPUT;have c0:wr.cell? ⟨b,o+k * 2,none⟩=some (.int .i64 l[k].1):=(HBR.out.cell (p:=⟨b,_,none⟩) hb).trans (hc 0 _ rfl)
    have c1:wr.cell? ⟨b,o+k * 2+1,none⟩=some (.int .i64 l[k].2):=(HBR.out.cell (p:=⟨b,_,none⟩) hb).trans (hc 1 _ rfl);clear hc hfo hb;generalize l[k]=x at c0 c1 hp HPUT;clear hp
    go_wp2_with (first
     | (go_at_call 214
        refine calls_named ?_;intro W2 hW2;have hb2:jB wr W2:=by rw [hW2];exact balloc jR _
        clear hW2;refine (HPUT.out W2 hb2).mono ?_;rintro e w3 ⟨fp3,rfl,hs3,hu3⟩;have HS3:=jH hs3;have HF3:=jH (show ∀x∈fp3,w.heap.size≤x from fun x hx=>(hu3.fresh x hx).elim (HF2.out x) (fun h=>Nat.le_trans HBR.out.size (Nat.le_trans hb2.size h)));have HB3:=jH ((bthen HBR.out hb2).trans (hu3.below (Nat.le_trans HBR.out.size hb2.size) HF2.out));clear hs3 hu3 hb2))
    go_roundg (l.length - (k+1))
    case measure=>omega
    case rel=>exact ⟨k+1,hlt,Nat.le_refl _,by go_num,HB3.out,fp3,HS3.out,HF3.out⟩
  · obtain rfl:k=l.length:=by omega
    have hs3:=HS2.out;rw [List.take_length] at hs3;have HS3:=jH hs3;clear hs3;go_wp2
    go_ret
    exact ⟨S,fp2,rfl,HS3.out,HF2.out,HBR.out⟩
end
section
open Go.RowKit Go.Lib Go.Sort Go.Maps Go.Shelf
def idC (s:ByteArray):List Value:=[.string s]
theorem eId:EltOf 37 9 1 16 (.string ⟨#[]⟩) idC :=
 ⟨by kernel_rfl,by kernel_rfl,rfl,by decide,by decide,fun _=>rfl,fun x u hu=>by
  simp only [idC,List.mem_cons,List.not_mem_nil,or_false] at hu
  subst hu
  rfl⟩
def bytesK (es:List (SK × It)):List (List UInt8):=es.map fun p=>p.1.1.data.toList
def idsF (es:List (SK × It)):List ByteArray:=((bytesK es).mergeSort fun x y=>decide (x≤y)).map fun x=>⟨x.toArray⟩
def anyR (H:Type):Value→Option (DataW H × List MemPlace):=fun _=>some (.nil,[])
theorem owns_of_map {w:World} {L:Nat} {es:List (SK × It)} (h:MapIn skV ldV w L es) (hl:es.length≤1000000) :
 ∃D0:DataW Unit,w.ownsMap Tryz.prog 9 (anyR Unit) L es.length D0∧(strKeys D0).Perm (bytesK es)∧Maps.size D0=es.length:=by
 obtain ⟨ents,clock,hb,hkv,hbn,hcl,hn⟩:=h;have hsz:ents.size=es.length:=by simpa using congrArg List.length hkv
 have hkeys:ents.toList.map (·.key)=es.map fun p=>skV p.1:=by
  have:=congrArg (List.map Prod.fst) hkv;rw [List.map_map,List.map_map] at this;exact this
 have hrd:∀x∈ents.toList,∃s:SK,x.key=skV s∧Go.WideElems.rd Tryz.prog 9 (anyR Unit) x=some (.string s.1.data.toList,.nil):=fun x hx=>by
  obtain ⟨p,hp,hk,_⟩:=ents_mem hkv hx;refine ⟨p.1,hk,?_⟩;unfold Go.WideElems.rd;rw [hk]
  show (keyOf Tryz.prog 9 (.string p.1.1)).bind _=_
  rw [Go.WideMaps.keyOf_string_mk Tryz.underlying9 p.1.2];rfl
 have hnd:(ents.toList.map (·.key)).Nodup:=by
  rw [hkeys];have e:(es.map fun p=>skV p.1)=(es.map (·.1)).map skV:=by rw [List.map_map];rfl
  rw [e];exact List.pairwise_map.2 (hn.imp (fun hne e=>hne (keysSk.inj _ _ e)))
 refine ⟨_,⟨ents,clock,hb,⟨by rw [hsz];unfold maxLen;omega,⟨hcl,hbn,hnd⟩,fun x hx=>by obtain ⟨s,_,h1⟩:=hrd x hx;exact ⟨_,h1⟩⟩,Nat.le_of_eq hsz,rfl⟩,?_,?_⟩
 · show ((List.foldr DataW.insert [] (ents.toList.map (Go.WideElems.rg Tryz.prog 9 (anyR Unit)))).map fun p=>strOf p.1).Perm _
   refine ((Go.WideShapes.sorted_perm _).map _).trans (List.Perm.of_eq ?_);rw [List.map_map];have e:bytesK es=(es.map fun p=>skV p.1).map fun v=>match v with|.string s=>s.data.toList|_=>[]:=by
    unfold bytesK;rw [List.map_map];rfl
   rw [e,←hkeys,List.map_map];refine List.map_congr_left (fun x hx=>?_);obtain ⟨s,hk,h1⟩:=hrd x hx;simp only [Function.comp,Go.WideElems.rg,h1,hk,skV,Option.getD_some]
   rfl
 · show (List.foldr DataW.insert [] _).length=_
   rw [length_sorted,List.length_map,Array.length_toList,hsz]
theorem sortsM (m:Nat):AnyZ.SortsIn Tryz.prog sortedM_ren Fence.wide m :=
 ⟨fun blk off cap ss W hH hblk hsz=>callsIn_wide.2 (AnyM.slices_Sort_string sortM blk off cap ss W hH hblk hsz),
  fun p cap W=>callsIn_wide.2 (AnyM.slices_Sort_string_none sortM p cap W)⟩
theorem flKeys_any (mb:Option Nat) (W:World):Calls Tryz.prog 127 #[.map mb] W fun e w'=>e=.returned (.func (.func 179) #[] #[.pointer (some ⟨W.heap.size,0,none⟩)])∧w'=W.alloc (.cells #[.map mb] 117) :=
 callsIn_wide.1 (AnyZ.keys_in keysM Fence.wide 5 trivial rfl mb W)
theorem flSorted_any (b:Nat) (es:List (SK × It)) (w:World) (h:MapIn skV ldV w b es) (hl:es.length≤1000000) :
 Calls Tryz.prog 126 #[.func (.func 179) #[] #[.pointer (some ⟨w.heap.size,0,none⟩)]] (w.alloc (.cells #[.map (some b)] 117)) fun e w'=>∃A c,e=.returned (.slice A (idsF es).length c) ∧
   OwnL idC 9 1 w.heap.size w' (.slice A (idsF es).length c) (idsF es)∧jB w w':=by
 obtain ⟨D0,hown,hperm,hsize⟩:=owns_of_map h hl;have hbl:=hown.lt;have hseq:SeqGives Fence.wide 2 Tryz.prog 179 #[.pointer (some ⟨w.heap.size,0,none⟩)] encStr (fun ss=>ss.Perm (strKeys D0)) (Maps.size D0) (w.alloc (.cells #[.map (some b)] 117)) :=
  AnyZ.keys_gives (ρ:=keysM_ren) { keysM with } Fence.wide _ trivial rfl (by omega) w.heap.size b es.length D0 _ (by simp) (by simp) (by
   obtain ⟨es,clock,hb,Ft,hs,hD⟩:=hown;exact ⟨es,clock,(Below.heap_alloc _ _ b hbl).trans hb,Ft,hs,hD⟩)
 have h1:=callsIn_wide.1 (AnyZ.sorted_in sortedM Fence.wide 5 trivial trivial trivial trivial rfl (by omega) (sortsM _) (enters_of Tryz.func70 (by kernel_rfl) rfl) 179 #[.pointer (some ⟨w.heap.size,0,none⟩)] trivial (enters_of Tryz.func179 (by kernel_rfl) rfl) _ _ (by rw [hsize];unfold maxLen;omega) (by rw [hsize];omega) _ hseq);refine h1.mono ?_;rintro e w' ⟨v,ss,rfl,hS,hrow,_,hb⟩;have e1:(ss.mergeSort fun x y=>decide (x≤y)).map encStr=cellsOfRow idC (idsF es):=by
  unfold idsF;rw [←mergeSort_of_perm (hS.trans hperm)];generalize ss.mergeSort leB=l
  induction l with
  | nil=>rfl
  | cons a l ih =>
    rw [List.map_cons,List.map_cons,cellsOfRow_cons,ih];rfl
 have e2:ss.length=(idsF es).length:=by
  unfold idsF;rw [List.length_map,List.length_mergeSort,←(hS.trans hperm).length_eq]
 rw [e1,e2] at hrow;have hrow':OwnL idC 9 1 w.heap.size w' v (idsF es):=own_lower hrow (by simp);obtain ⟨A,c,rfl⟩:=hrow'.form;exact ⟨A,c,rfl,hrow',(balloc jR _).trans (hb.mono (by simp))⟩
theorem flMadeM_any {P:Nat→Prop} {M:Nat} {c:Cfg} {wd:Wd} {d:FlatD} (w:World) (h:FlMem P w M c wd d) :
 Calls Tryz.prog 66 #[.pointer (some ⟨M,0,none⟩)] w fun e w'=>e=.returned (.bool true)∧w'=w:=by
 obtain ⟨a1,a2,a3⟩:=box_cells jR h.cell;have hq:∀W,(binOp .neq 117 (.map (some d.L)) (.map none)).run Tryz.prog W=.ok (.bool true) W:=fun W=>run_neq_map_nil W _ _ _ (some d.L) Tryz.underlying117
 clear h
 go_enter Tryz.func66,Tryz.ntmps66
 go_wp2_with fail
 go_ret
 exact ⟨rfl,rfl⟩
theorem flIds_any {P:Nat→Prop} {M:Nat} {c:Cfg} {wd:Wd} {d:FlatD} (w:World) (h:FlMem P w M c wd d) (hl:d.es.length≤1000000) :
 Calls Tryz.prog 69 #[.pointer (some ⟨M,0,none⟩)] w fun e w'=>∃A c,e=.returned (.slice A (idsF d.es).length c)∧OwnL idC 9 1 w.heap.size w' (.slice A (idsF d.es).length c) (idsF d.es)∧jB w w':=by
 have CM:=jH (fun W (hW:jB w W)=>flMadeM_any W (h.below hW));have CS:=jH (flSorted_any d.L d.es w h.map hl);obtain ⟨a1,a2,a3⟩:=box_cells jR h.cell;clear h hl
 go_enter Tryz.func69,Tryz.ntmps69
 go_wp2_with (first
  | (go_at_call 66
     refine (CM.out w jR).mono ?_;rintro e w2 ⟨rfl,rfl⟩)
  | (go_at_call 127
     refine (flKeys_any _ _).mono ?_;rintro e w3 ⟨rfl,rfl⟩)
  | (go_at_call 126
     refine CS.out.mono ?_;rintro e w4 ⟨A,c9,rfl,ho4,hb4⟩;have HO4:=jH ho4;have HB4:=jH hb4;clear ho4 hb4))
 go_ret
 exact ⟨A,c9,rfl,HO4.out,HB4.out⟩
end
section
open Go.RowKit Go.Lib
theorem wd_facts {c:Cfg} {rs rh n:Nat} {x:WdH} (hk:WdOk c rs rh n (absW x)) (hst:c.st≤64):x.st.length≤64∧(allX x).length≤16384∧∀z∈allX x,ItOk rs rh n (absI z):=by
 refine ⟨?_,?_,fun z hz=>?_⟩
 · have:=hk.len
   simp [absW] at this
   omega
 · have:=allW_len hk hst
   rw [←allX_abs,List.length_map] at this;exact this
 · exact allW_it hk _ (by rw [←allX_abs];exact List.mem_map.2 ⟨z,hz,rfl⟩)
theorem load21_at (P:Nat→Prop) (c:Cfg) (rs rh n:Nat) (x:WdH) (id:ByteArray) (w:World) (hP:∀b,w.heap.size≤b→P b) (hx:WdIn P w x) (hst:c.st≤64) (hk:WdOk c rs rh n (absW x)) (hm:id.size≤maxLen) :
 ∃ (y:It) (b:Bool),loadW (absW x) id=(if b=true then some y.nd else none)∧(b=true→RowIn 2 smpC w (.slice y.sA y.nd.smp.length y.sc) y.nd.smp∧RowIn 5 advC w (.slice y.pA y.nd.past.length y.pc) y.nd.past∧ItOk rs rh n (absI y)) ∧
   ∀W,jB w W→Calls Tryz.prog 75 #[.agg #[.int .i64 c.st,.int .i64 c.sa,.int .i64 c.lo,.int .i64 c.hi,.slice x.sA x.st.length x.sc,.slice x.cA x.cuts.length x.cc,.int .i64 x.ep,.bool x.over],.string id] W (jP W (.tuple #[.agg #[.slice y.sA y.nd.smp.length y.sc,.slice y.pA y.nd.past.length y.pc,.int .i64 y.nd.pol.mn,.int .i64 y.nd.pol.mx,.int .i64 y.nd.pol.tg,.int .i64 y.nd.pol.tol,.int .i64 y.nd.pol.win,.int .i64 y.nd.pol.hold,.bool y.nd.ruled,.int .i64 (y.nd.ver:Nat)],.bool b])):=by
 obtain ⟨h1,h2,h3⟩:=wd_facts hk hst;refine ⟨(loadX x id).getD it0,(loadX x id).isSome,?_,fun hb=>?_,fun W hW=>load21_any P c x id W (fun b hb=>hP b (Nat.le_trans hW.size hb)) (hx.below hW) h1 (by omega) (fun z hz=>(h3 z hz).key) hm⟩
 · rw [←loadX_abs]
   cases loadX x id <;> rfl
 · cases hl:loadX x id with
   | none=>rw [hl] at hb;cases hb
   | some y =>
     obtain ⟨h4,h5⟩:=loadX_in hx hl;exact ⟨h4.1.1,h4.2.1,h3 y h5⟩
theorem plan21_any (P:Nat→Prop) (c:Cfg) (rs rh n:Nat) (x:WdH) (id:ByteArray) (w:World) (hP:∀b,w.heap.size≤b→P b) (hx:WdIn P w x) (hst:c.st≤64) (hk:WdOk c rs rh n (absW x)) (hr:rs≤1000000∧rh≤1000000) (hm:id.size≤maxLen) :
 Calls Tryz.prog 63 #[.agg (wdC c x).toArray,.string id] w (jP w (.tuple #[.agg (advC (planW (absW x) id).1).toArray,.int .i64 (planW (absW x) id).2])):=by
 obtain ⟨y,b,hy,hin,hcl⟩:=load21_at P c rs rh n x id w hP hx hst hk hm;have CL:=jH hcl;obtain ⟨a,ha⟩:∃a,a=planW (absW x) id:=⟨_,rfl⟩;rw [←ha];unfold planW at ha;rw [hy] at ha;clear hP hx hst hk hm hcl hy;unfold wdC
 cases b
 · rw [if_neg (by decide)] at ha
   dsimp only at ha;rw [ha];clear ha hin
   go_enter Tryz.func63,Tryz.ntmps63
   go_wp2_with (first
   | (go_at_call 75
      refine calls_named ?_;intro W1 hW1;obtain ⟨k0,k1,hs,hb⟩:=two_boxes w _ _ W1 hW1;clear hW1;refine (CL.out W1 hb).mono ?_;rintro e w2 ⟨rfl,hb2⟩;have HY2:=jH (jK hb2 k1);have HB2:=jH (bthen hb hb2);have HX2:=jH (jK hb2 k0);obtain ⟨b1,b2,b3⟩:=box_cells jR HY2.out;obtain ⟨bx1,bx2,bx3⟩:=box_cells jR HX2.out;clear k0 k1 hs hb hb2))
   refine post_named ?_;intro W4 hW4;have hW4':W4=(stor w2 (w.heap.size+1) 0 [.int .i64 0,.int .i64 0,.int .i64 0,.int .i64 0,.int .i64 0]).alloc (.cells #[.slice y.sA y.nd.smp.length y.sc,.slice y.pA y.nd.past.length y.pc,.int .i64 y.nd.pol.mn,.int .i64 y.nd.pol.mx,.int .i64 y.nd.pol.tg,.int .i64 y.nd.pol.tol,.int .i64 y.nd.pol.win,.int .i64 y.nd.pol.hold,.bool y.nd.ruled,.int .i64 (y.nd.ver:Nat)] 48 (0,0)):=hW4
   obtain ⟨S,hS⟩:∃S,S=stor w2 (w.heap.size+1) 0 [.int .i64 0,.int .i64 0,.int .i64 0,.int .i64 0,.int .i64 0]:=⟨_,rfl⟩;rw [←hS] at hW4';obtain ⟨s1,s2,s3,s4⟩:=stor_at HY2.out [.int .i64 0,.int .i64 0,.int .i64 0,.int .i64 0,.int .i64 0] rfl S hS;obtain ⟨a9,a8,a7⟩:=box_cells (w1:=W4) (by rw [hW4'];exact balloc jR _) s1;have hb5:jB w W4:=by rw [hW4'];exact balloc (HB2.out.trans (s4 w.heap.size (by omega))) _
   clear hW4 hW4';exact bodyPost_ret (v:=.tuple #[.agg #[.int .i64 0,.int .i64 0,.int .i64 0,.int .i64 0,.int .i64 0],.int .i64 5]) (by simp [results,Tryz.results63,go_sem,a9]) rfl ⟨rfl,hb5⟩
 · rw [if_pos rfl] at ha
   dsimp only at ha;obtain ⟨h1,h2,h3⟩:=hin rfl
   cases hru:y.nd.ruled
   · rw [hru,if_neg (by decide)] at ha
     rw [ha];have HRU:=jH hru;clear ha hin h1 h2 h3;rw [hru] at CL;clear hru
     go_enter Tryz.func63,Tryz.ntmps63
     go_wp2_with (first
   | (go_at_call 75
      refine calls_named ?_;intro W1 hW1;obtain ⟨k0,k1,hs,hb⟩:=two_boxes w _ _ W1 hW1;clear hW1;refine (CL.out W1 hb).mono ?_;rintro e w2 ⟨rfl,hb2⟩;have HY2:=jH (jK hb2 k1);have HB2:=jH (bthen hb hb2);have HX2:=jH (jK hb2 k0);obtain ⟨b1,b2,b3⟩:=box_cells jR HY2.out;obtain ⟨bx1,bx2,bx3⟩:=box_cells jR HX2.out;clear k0 k1 hs hb hb2))
     refine post_named ?_;intro W4 hW4;have hW4':W4=(stor w2 (w.heap.size+1) 0 [.int .i64 0,.int .i64 0,.int .i64 0,.int .i64 0,.int .i64 0]).alloc (.cells #[.slice y.sA y.nd.smp.length y.sc,.slice y.pA y.nd.past.length y.pc,.int .i64 y.nd.pol.mn,.int .i64 y.nd.pol.mx,.int .i64 y.nd.pol.tg,.int .i64 y.nd.pol.tol,.int .i64 y.nd.pol.win,.int .i64 y.nd.pol.hold,.bool false,.int .i64 (y.nd.ver:Nat)] 48 (0,0)):=hW4
     obtain ⟨S,hS⟩:∃S,S=stor w2 (w.heap.size+1) 0 [.int .i64 0,.int .i64 0,.int .i64 0,.int .i64 0,.int .i64 0]:=⟨_,rfl⟩;rw [←hS] at hW4';obtain ⟨s1,s2,s3,s4⟩:=stor_at HY2.out [.int .i64 0,.int .i64 0,.int .i64 0,.int .i64 0,.int .i64 0] rfl S hS;obtain ⟨a9,a8,a7⟩:=box_cells (w1:=W4) (by rw [hW4'];exact balloc jR _) s1;have hb5:jB w W4:=by rw [hW4'];exact balloc (HB2.out.trans (s4 w.heap.size (by omega))) _
     clear hW4 hW4';exact bodyPost_ret (v:=.tuple #[.agg #[.int .i64 0,.int .i64 0,.int .i64 0,.int .i64 0,.int .i64 0],.int .i64 5]) (by simp [results,Tryz.results63,go_sem,a9]) rfl ⟨rfl,hb5⟩
   · rw [hru,if_pos rfl] at ha
     rw [hru] at CL;clear hru hin;obtain ⟨p,hp⟩:∃p,p=y.nd.pol:=⟨_,rfl⟩;have CO:=jH (fun (W:World) (hW:jB w W)=>show Calls Tryz.prog 124 #[.agg #[.int .i64 y.nd.pol.mn,.int .i64 y.nd.pol.mx,.int .i64 y.nd.pol.tg,.int .i64 y.nd.pol.tol,.int .i64 y.nd.pol.win,.int .i64 y.nd.pol.hold],.slice y.sA y.nd.smp.length y.sc,.slice y.pA y.nd.past.length y.pc] W (jP W (.tuple #[.agg #[.int .i64 a.1.tick,.int .i64 a.1.load,.int .i64 a.1.want,.int .i64 a.1.repl,.int .i64 a.1.why],.int .i64 a.2])) from by
      have h9:=ref16Of_any y.nd.pol y.nd.smp y.nd.past _ _ W (h1.below hW) (h2.below hW) (by have:=h3.nd.len;dsimp only [absI] at this;omega) (by have:=h3.nd.past;dsimp only [absI] at this;omega) h3.smp h3.pol;rw [←ha] at h9;exact h9)
     clear ha h1 h2 h3 hp;dsimp only [advC]
     go_enter Tryz.func63,Tryz.ntmps63
     go_wp2_with (first
   | (go_at_call 75
      refine calls_named ?_;intro W1 hW1;obtain ⟨k0,k1,hs,hb⟩:=two_boxes w _ _ W1 hW1;clear hW1;refine (CL.out W1 hb).mono ?_;rintro e w2 ⟨rfl,hb2⟩;have HY2:=jH (jK hb2 k1);have HB2:=jH (bthen hb hb2);have HX2:=jH (jK hb2 k0);obtain ⟨b1,b2,b3⟩:=box_cells jR HY2.out;obtain ⟨bx1,bx2,bx3⟩:=box_cells jR HX2.out;clear k0 k1 hs hb hb2)
   | (go_at_call 124
      refine calls_named ?_;intro W4 hW4;have hb4:jB w2 W4:=by rw [hW4];exact balloc jR _
      clear hW4;refine (CO.out W4 (bthen HB2.out hb4)).mono ?_;rintro e w5 ⟨rfl,hb5⟩;have HY5:=jH (jK (bthen hb4 hb5) HY2.out);have HB5:=jH (bthen HB2.out (bthen hb4 hb5));obtain ⟨d1,d2,d3⟩:=box_cells jR HY5.out;clear hb4 hb5 b1 b2 b3))
     refine post_named ?_;intro W4 hW4;have hW4':W4=stor w5 (w.heap.size+1) 0 [.int .i64 a.1.tick,.int .i64 a.1.load,.int .i64 a.1.want,.int .i64 a.1.repl,.int .i64 a.1.why]:=hW4;obtain ⟨s1,s2,s3,s4⟩:=stor_at HY5.out [.int .i64 a.1.tick,.int .i64 a.1.load,.int .i64 a.1.want,.int .i64 a.1.repl,.int .i64 a.1.why] rfl W4 hW4';obtain ⟨a9,a8,a7⟩:=box_cells jR s1;have hb5:=HB5.out.trans (s4 w.heap.size (by omega))
     clear hW4 hW4';exact bodyPost_ret (v:=.tuple #[.agg #[.int .i64 a.1.tick,.int .i64 a.1.load,.int .i64 a.1.want,.int .i64 a.1.repl,.int .i64 a.1.why],.int .i64 a.2]) (by simp [results,Tryz.results63,go_sem,a9]) rfl ⟨rfl,hb5⟩
theorem read21_any (P:Nat→Prop) (c:Cfg) (rs rh n:Nat) (x:WdH) (id:ByteArray) (w:World) (hP:∀b,w.heap.size≤b→P b) (hx:WdIn P w x) (hst:c.st≤64) (hk:WdOk c rs rh n (absW x)) (hr:rs≤1000000∧rh≤1000000) (hm:id.size≤maxLen) :
 Calls Tryz.prog 107 #[.agg (wdC c x).toArray,.string id] w (jP w (repV (readW (absW x) id))):=by
 obtain ⟨y,b,hy,hin,hcl⟩:=load21_at P c rs rh n x id w hP hx hst hk hm;have CL:=jH hcl;obtain ⟨a,ha⟩:∃a,a=readW (absW x) id:=⟨_,rfl⟩;rw [←ha];unfold readW at ha;rw [hy] at ha;clear hP hx hst hk hm hcl hy;unfold wdC
 cases b
 · rw [if_neg (by decide)] at ha
   dsimp only at ha;rw [ha];clear ha hin
   go_enter Tryz.func107,Tryz.ntmps107
   go_wp2_with (first
   | (go_at_call 75
      refine calls_named ?_;intro W1 hW1;obtain ⟨k0,k1,hs,hb⟩:=two_boxes w _ _ W1 hW1;clear hW1;refine (CL.out W1 hb).mono ?_;rintro e w2 ⟨rfl,hb2⟩;have HY2:=jH (jK hb2 k1);have HB2:=jH (bthen hb hb2);have HX2:=jH (jK hb2 k0);obtain ⟨b1,b2,b3⟩:=box_cells jR HY2.out;obtain ⟨bx1,bx2,bx3⟩:=box_cells jR HX2.out;clear k0 k1 hs hb hb2))
   refine post_named ?_;intro W4 hW4;have hW4':W4=(stor w2 (w.heap.size+1) 0 [.int .i64 5,.int .i64 0,.int .i64 0,.int .i64 0,.int .i64 0,.int .i64 0,.int .i64 0,.int .i64 0,.int .i64 0,.int .i64 0,.int .i64 0,.int .i64 0,.int .i64 0]).alloc (.cells #[.slice y.sA y.nd.smp.length y.sc,.slice y.pA y.nd.past.length y.pc,.int .i64 y.nd.pol.mn,.int .i64 y.nd.pol.mx,.int .i64 y.nd.pol.tg,.int .i64 y.nd.pol.tol,.int .i64 y.nd.pol.win,.int .i64 y.nd.pol.hold,.bool y.nd.ruled,.int .i64 (y.nd.ver:Nat)] 48 (0,0)):=hW4
   obtain ⟨S,hS⟩:∃S,S=stor w2 (w.heap.size+1) 0 [.int .i64 5,.int .i64 0,.int .i64 0,.int .i64 0,.int .i64 0,.int .i64 0,.int .i64 0,.int .i64 0,.int .i64 0,.int .i64 0,.int .i64 0,.int .i64 0,.int .i64 0]:=⟨_,rfl⟩;rw [←hS] at hW4';obtain ⟨s1,s2,s3,s4⟩:=stor_at HY2.out [.int .i64 5,.int .i64 0,.int .i64 0,.int .i64 0,.int .i64 0,.int .i64 0,.int .i64 0,.int .i64 0,.int .i64 0,.int .i64 0,.int .i64 0,.int .i64 0,.int .i64 0] rfl S hS
   obtain ⟨a9,a8,a7⟩:=box_cells (w1:=W4) (by rw [hW4'];exact balloc jR _) s1;have hb5:jB w W4:=by rw [hW4'];exact balloc (HB2.out.trans (s4 w.heap.size (by omega))) _
   clear hW4 hW4';exact bodyPost_ret (v:=.agg #[.int .i64 5,.int .i64 0,.int .i64 0,.int .i64 0,.int .i64 0,.int .i64 0,.int .i64 0,.int .i64 0,.int .i64 0,.int .i64 0,.int .i64 0,.int .i64 0,.int .i64 0]) (by simp [results,Tryz.results107,go_sem,a9]) rfl ⟨rfl,hb5⟩
 · rw [if_pos rfl] at ha
   dsimp only at ha;obtain ⟨h1,h2,h3⟩:=hin rfl;have hpl:y.nd.past.length≤1000000:=by have:=h3.nd.past;dsimp only [absI] at this;omega
   clear hin h1 h3;obtain ⟨m,hm⟩:∃m,m=y.nd.past.length:=⟨_,rfl⟩
   by_cases h0:m=0
   · have he:y.nd.past=[]:=List.length_eq_zero_iff.1 (by omega)
     rw [he] at ha;have ha:a=repF 0:=ha;rw [ha];rw [←hm] at CL;subst h0;clear hm h2 ha he hpl
     go_enter Tryz.func107,Tryz.ntmps107
     go_wp2_with (first
   | (go_at_call 75
      refine calls_named ?_;intro W1 hW1;obtain ⟨k0,k1,hs,hb⟩:=two_boxes w _ _ W1 hW1;clear hW1;refine (CL.out W1 hb).mono ?_;rintro e w2 ⟨rfl,hb2⟩;have HY2:=jH (jK hb2 k1);have HB2:=jH (bthen hb hb2);have HX2:=jH (jK hb2 k0);obtain ⟨b1,b2,b3⟩:=box_cells jR HY2.out;obtain ⟨bx1,bx2,bx3⟩:=box_cells jR HX2.out;clear k0 k1 hs hb hb2))
     refine post_named ?_;intro W4 hW4;have hW4':W4=(stor w2 (w.heap.size+1) 0 [.int .i64 0,.int .i64 0,.int .i64 0,.int .i64 0,.int .i64 0,.int .i64 0,.int .i64 0,.int .i64 0,.int .i64 0,.int .i64 0,.int .i64 0,.int .i64 0,.int .i64 0]).alloc (.cells #[.slice y.sA y.nd.smp.length y.sc,.slice y.pA 0 y.pc,.int .i64 y.nd.pol.mn,.int .i64 y.nd.pol.mx,.int .i64 y.nd.pol.tg,.int .i64 y.nd.pol.tol,.int .i64 y.nd.pol.win,.int .i64 y.nd.pol.hold,.bool y.nd.ruled,.int .i64 (y.nd.ver:Nat)] 48 (0,0)):=hW4
     obtain ⟨S,hS⟩:∃S,S=stor w2 (w.heap.size+1) 0 [.int .i64 0,.int .i64 0,.int .i64 0,.int .i64 0,.int .i64 0,.int .i64 0,.int .i64 0,.int .i64 0,.int .i64 0,.int .i64 0,.int .i64 0,.int .i64 0,.int .i64 0]:=⟨_,rfl⟩;rw [←hS] at hW4';obtain ⟨s1,s2,s3,s4⟩:=stor_at HY2.out [.int .i64 0,.int .i64 0,.int .i64 0,.int .i64 0,.int .i64 0,.int .i64 0,.int .i64 0,.int .i64 0,.int .i64 0,.int .i64 0,.int .i64 0,.int .i64 0,.int .i64 0] rfl S hS
     obtain ⟨a9,a8,a7⟩:=box_cells (w1:=W4) (by rw [hW4'];exact balloc jR _) s1;have hb5:jB w W4:=by rw [hW4'];exact balloc (HB2.out.trans (s4 w.heap.size (by omega))) _
     clear hW4 hW4';exact bodyPost_ret (v:=.agg #[.int .i64 0,.int .i64 0,.int .i64 0,.int .i64 0,.int .i64 0,.int .i64 0,.int .i64 0,.int .i64 0,.int .i64 0,.int .i64 0,.int .i64 0,.int .i64 0,.int .i64 0]) (by simp [results,Tryz.results107,go_sem,a9]) rfl ⟨rfl,hb5⟩
   · have hlt:m - 1<y.nd.past.length:=by omega
     have hgl:y.nd.past.getLast?=some y.nd.past[m - 1]:=by rw [List.getLast?_eq_getElem?,List.getElem?_eq_getElem (by omega)];congr 2;omega
     rw [hgl] at ha;dsimp only at ha;obtain ⟨pb,po,hpA,hpb,hpc⟩:=h2.at_ hlt;rw [←hm,hpA] at CL;obtain ⟨v,hv⟩:∃v,v=y.nd.past[m - 1]:=⟨_,rfl⟩;rw [←hv] at ha hpc;have HPC:=jH hpc;obtain ⟨k,hk9⟩:∃k,k=m - 1:=⟨_,rfl⟩;rw [←hk9] at HPC;have z0:((m:Int) == 0)=false:=by simp;omega
     have z0b:decide ((m:Int)=0)=false:=by simp;omega
     have z1:IntKind.i64.wrap ((m:Int) - 1)=(k:Int):=by rw [IntKind.wrap_i64];omega
     have z1b:wrap64 ((m:Int) - 1)=(k:Int):=by unfold wrap64;omega
     have z2:(0:Int)≤(k:Int):=by omega
     have z3:(k:Int)<(m:Int):=by omega
     have HPB:=jH hpb;rw [ha];clear ha hpc hv hgl hlt hm h2 hk9 h0 hpb hpA;unfold repV repC;dsimp only [st0];obtain ⟨vt,vl,vw,vr,vy⟩:=v;dsimp only at HPC ⊢
     go_enter Tryz.func107,Tryz.ntmps107
     go_wp2_with (first
   | (go_at_call 75
      refine calls_named ?_;intro W1 hW1;obtain ⟨k0,k1,hs,hb⟩:=two_boxes w _ _ W1 hW1;clear hW1;refine (CL.out W1 hb).mono ?_;rintro e w2 ⟨rfl,hb2⟩;have HY2:=jH (jK hb2 k1);have HB2:=jH (bthen hb hb2);have HX2:=jH (jK hb2 k0);obtain ⟨b1,b2,b3⟩:=box_cells jR HY2.out;obtain ⟨bx1,bx2,bx3⟩:=box_cells jR HX2.out;have c0:=(HB2.out.cell (p:=⟨pb,_,none⟩) HPB.out).trans (HPC.out 0 _ rfl);have c1:=(HB2.out.cell (p:=⟨pb,_,none⟩) HPB.out).trans (HPC.out 1 _ rfl)
      have c2:=(HB2.out.cell (p:=⟨pb,_,none⟩) HPB.out).trans (HPC.out 2 _ rfl);have c3:=(HB2.out.cell (p:=⟨pb,_,none⟩) HPB.out).trans (HPC.out 3 _ rfl);have c4:=(HB2.out.cell (p:=⟨pb,_,none⟩) HPB.out).trans (HPC.out 4 _ rfl);clear k0 k1 hs hb hb2;dsimp only at c0 c1 c2 c3 c4;have c9:pb<w2.heap.size:=Nat.lt_of_lt_of_le HPB.out HB2.out.size;rw [Nat.add_zero] at c0))
     refine post_named ?_;intro W4 hW4;have hW4':W4=(stor w2 (w.heap.size+1) 0 [.int .i64 0,.int .i64 0,.int .i64 0,.int .i64 0,.int .i64 0,.int .i64 0,.int .i64 0,.int .i64 0,.int .i64 vt,.int .i64 vl,.int .i64 vw,.int .i64 vr,.int .i64 vy]).alloc (.cells #[.slice y.sA y.nd.smp.length y.sc,.slice (some ⟨pb,po,none⟩) m y.pc,.int .i64 y.nd.pol.mn,.int .i64 y.nd.pol.mx,.int .i64 y.nd.pol.tg,.int .i64 y.nd.pol.tol,.int .i64 y.nd.pol.win,.int .i64 y.nd.pol.hold,.bool y.nd.ruled,.int .i64 (y.nd.ver:Nat)] 48 (0,0)):=hW4
     obtain ⟨S,hS⟩:∃S,S=stor w2 (w.heap.size+1) 0 [.int .i64 0,.int .i64 0,.int .i64 0,.int .i64 0,.int .i64 0,.int .i64 0,.int .i64 0,.int .i64 0,.int .i64 vt,.int .i64 vl,.int .i64 vw,.int .i64 vr,.int .i64 vy]:=⟨_,rfl⟩;rw [←hS] at hW4';obtain ⟨s1,s2,s3,s4⟩:=stor_at HY2.out [.int .i64 0,.int .i64 0,.int .i64 0,.int .i64 0,.int .i64 0,.int .i64 0,.int .i64 0,.int .i64 0,.int .i64 vt,.int .i64 vl,.int .i64 vw,.int .i64 vr,.int .i64 vy] rfl S hS
     obtain ⟨a9,a8,a7⟩:=box_cells (w1:=W4) (by rw [hW4'];exact balloc jR _) s1;have hb5:jB w W4:=by rw [hW4'];exact balloc (HB2.out.trans (s4 w.heap.size (by omega))) _
     clear hW4 hW4';exact bodyPost_ret (v:=.agg #[.int .i64 0,.int .i64 0,.int .i64 0,.int .i64 0,.int .i64 0,.int .i64 0,.int .i64 0,.int .i64 0,.int .i64 vt,.int .i64 vl,.int .i64 vw,.int .i64 vr,.int .i64 vy]) (by simp [results,Tryz.results107,go_sem,a9]) rfl ⟨rfl,hb5⟩
end
section
open Go.RowKit Go.Lib Go.Sort
open Go.ChangeMaps (setBlock)
section
variable {B:Nat→Prop} {S:Nat} {c:Cfg} {rs rh n:Nat} {wd:Wd} {d:StoD}
theorem upd_at {w w':World} {fp fp':List Nat} {X:Nat} (hu:Upd w w' fp fp') (hX:X∉fp) {o:Obj} (h:w.heap[X]?=some o):w'.heap[X]?=some o:=(hu.block X (jL h) hX).trans h
end
end
section
open Go.RowKit Go.Lib
def srNil:SrH:=⟨none,0,[]⟩
structure NewW (w wr:World) (c:Cfg) (s:Value) (l:List SrH):Prop where
 b:jB w wr
 x0:wr.heap[w.heap.size]?=some (.cells #[.int .i64 c.st,.int .i64 c.sa,.int .i64 c.lo,.int .i64 c.hi] 23 (0,0))
 x1:wr.heap[w.heap.size+1]?=some (.cells #[.int .i64 0,.int .i64 0,.int .i64 0,.int .i64 0,.slice none 0 0,.slice none 0 0,.int .i64 0,.bool false] 32 (0,0))
 x2:wr.heap[w.heap.size+1+1]?=some (.cells #[.int .i64 c.st,.int .i64 c.sa,.int .i64 c.lo,.int .i64 c.hi,s,.slice none 0 0,.int .i64 0,.bool false] 32 (0,0))
 own:OwnL srC 203 1 (w.heap.size+3) wr s l
 sz:w.heap.size+3≤wr.heap.size
theorem NewW.put {w wr w2 w3:World} {c:Cfg} {s s2:Value} {l l2:List SrH} (h:NewW w wr c s l) (hb:Below (w.heap.size+3) wr w2) (ho:OwnL srC 203 1 (w.heap.size+3) w2 s2 l2) (h3:w3=w2.setCell ⟨w.heap.size+1+1,4,none⟩ s2):NewW w w3 c s2 l2:=by
 have hsz:=h.sz;have hb2:=hb.size;subst h3;refine ⟨h.b.trans ((hb.mono (by omega)).setCell (by simp;omega) _),?_,?_,?_,?_,?_⟩
 · exact heap_set_ne ((hb.block _ (by omega)).trans h.x0) (by omega)
 · exact heap_set_ne ((hb.block _ (by omega)).trans h.x1) (by omega)
 · exact setCell_block ((hb.block _ (by omega)).trans h.x2)
 · exact ho.kept (fun r hr=>heap_set_ne rfl (by have:=ho.lt hr;omega))
 · simp;omega
theorem new21_any (P:Nat→Prop) (c:Cfg) (k:Nat) (w:World) (hP:∀b,w.heap.size≤b→P b) (hk:(k:Int)=c.st) (hk64:k≤64) :
 Calls Tryz.prog 16 #[cfgV c] w (Wd21Says P w c (newW k)):=by
 have HP:=jH hP;have HK:=jH hk;unfold cfgV;obtain ⟨cs,ca,cl,ch⟩:=c;dsimp only at hk ⊢;subst hk;clear hP
 go_enter Tryz.func16,Tryz.ntmps16
 go_wp2_with fail
 refine name_world ?_;intro W hW;have HAT0:=jH (show NewW w W ⟨(k:Nat),ca,cl,ch⟩ (.slice none 0 0) [] by
  rw [hW];exact ⟨balloc (balloc (balloc jR _) _) _,box3_0 _ _ _ _,box3_1 _ _ _ _,box3_2 _ _ _ _,OwnL.nil _ _,by simp⟩)
 clear hW;go_wp2
 go_loopg [4] k (fun g s4 wr=>∃(i:Nat) (s:Value),i≤k∧k - i≤g∧s4=.int .i64 i∧NewW w wr ⟨(k:Nat),ca,cl,ch⟩ s (List.replicate i srNil))
 case atStart=>exact ⟨0,_,Nat.zero_le _,Nat.le_refl _,rfl,HAT0.out⟩
 case round =>
  obtain ⟨i,s,hi,hg,rfl,hat⟩:=hrel;rename World=>wr
  obtain ⟨A3,c3,rfl⟩:=hat.own.form;have HAT:=jH hat;have HO:=jH hat.own;have hsz:=hat.sz;obtain ⟨a1,a2,a3⟩:=box_cells jR hat.x0;obtain ⟨d1,d2,d3⟩:=box_cells jR hat.x2;dsimp only at a1 d1;clear hat;have HPL:=jH (show (List.replicate i srNil).length=i from List.length_replicate);obtain ⟨m,hm⟩:∃m,m=List.replicate i srNil:=⟨_,rfl⟩;have HM:=jH hm;rw [←hm] at HO HAT HPL d1;clear hm
  by_cases hlt:i<k
  · have z1:(i:Int)<(k:Int):=by omega
    go_wp2_with (at_builtin;refine wpList_appendL eSr (by rfl) (by rfl) (w.heap.size+3) m [srNil] _ _ (by rfl) (by rfl) (HO.out.below (balloc jR _)) (RowIn.lit wr srNil _ _ _ rfl rfl) (by have:=HPL.out;simp;omega) (by simp;omega) ?_;intro out2 A2 c2' w2 hout2 hown2 hg2 _
                 have hb2:Below (w.heap.size+3) wr w2:=(Below.mono (balloc (Below.refl wr.heap.size wr) _) hsz).trans (grown_own hg2 HO.out (by simp;omega));have HOWN:=jH hown2;have HOUT:=jH hout2;have HB4:=jH hb2;obtain ⟨e1,e2,e3⟩:=box_cells jR ((hb2.block (w.heap.size+1+1) (by omega)).trans HAT.out.x2);clear hown2 hout2 hg2 hb2)
    go_roundg (k - (i+1))
    case measure=>omega
    case rel=>exact ⟨i+1,_,hlt,Nat.le_refl _,by go_num,by rw [List.replicate_succ',←HM.out,←HOUT.out];exact HAT.out.put HB4.out HOWN.out rfl⟩
  · obtain rfl:i=k:=by omega
    have z1:¬(i:Int)<(i:Int):=by omega
    have hx1:=HAT.out.x1;obtain ⟨f1,f2,f3⟩:=box_cells jR hx1;go_wp2
    refine post_named ?_;intro W4 hW4;have hW4':W4=stor wr (w.heap.size+1) 0 [.int .i64 i,.int .i64 ca,.int .i64 cl,.int .i64 ch,.slice A3 m.length c3,.slice none 0 0,.int .i64 0,.bool false]:=hW4;obtain ⟨s1,s2,s3,s4⟩:=stor_at hx1 [.int .i64 i,.int .i64 ca,.int .i64 cl,.int .i64 ch,.slice A3 m.length c3,.slice none 0 0,.int .i64 0,.bool false] rfl W4 hW4';obtain ⟨a9,a8,a7⟩:=box_cells jR s1;have hb9:jB w W4:=HAT.out.b.trans (s4 _ (by omega))
    clear hW4 hW4';refine bodyPost_ret (v:=.agg #[.int .i64 i,.int .i64 ca,.int .i64 cl,.int .i64 ch,.slice A3 m.length c3,.slice none 0 0,.int .i64 0,.bool false]) (by simp [results,Tryz.results16,go_sem,a9]) rfl ⟨⟨A3,c3,m,none,0,[],0,false⟩,rfl,⟨?_,?_,⟨RowIn.nil,fun b o m c e hn=>by cases e⟩,fun y hy=>by cases hy⟩,?_,hb9⟩
    · exact ((RowG.own eSr HO.out).keepP (Nat.le_of_eq s3.symm) (fun b hb hlt=>s2 b (by omega))).imp (fun b hb=>HP.out b (by omega))
    · intro y hy
      rw [HM.out] at hy;rw [List.eq_of_mem_replicate hy];exact ⟨⟨RowIn.nil,fun b o m c e hn=>by cases e⟩,fun y hy=>by cases hy⟩
    · rw [HM.out]
      simp [absW,newW,srNil]
end
end Go.Proofs.YtpmfcpdelkchaaaGreat
