/- Part 28 of the proof: FlC, FlE, FlL, FlG, FlH. -/
import Derived.Maps.RangeWalk
import Derived.Test.YtkcdhaallnhhmaaGreatQ25
import Derived.Test.YtkcdhaallnhhmaaGreatQ26
namespace Go.Proofs.YtkcdhaallnhhmaaGreat
set_option linter.unusedSimpArgs false
set_option linter.unusedVariables false
set_option linter.unusedSectionVars false
set_option maxRecDepth 100000
set_option maxHeartbeats 16000000
section
open Go.RowKit Go.Lib
def it00:It:=⟨(0,0),none,0,none,0,nd0⟩
def LoadS (w:World) (o:Option It) (e:Ending) (w':World):Prop :=
 ∃y:It,e=.returned (.tuple #[ldV y,.bool o.isSome])∧y.nd=(o.getD it00).nd∧LoadOwn w.heap.size w' y∧jB w w'
theorem fl_look {w:World} {L:Nat} {es:List (SK × It)} (h:MapIn skV ldV w L es) (s:SK) (cm:Bool) {W:World} (hW:W.heap[L]?=w.heap[L]?) :
 (Instr.lookup 94 (.map (some L)) (.string s.1) cm).run Tryz.prog W=.ok (if cm then .tuple #[ldV ((findM es s).getD it00),.bool (hasM es s)] else ldV ((findM es s).getD it00)) W:=by
 have h1:=MapIn.look (V:=ldV) (h.block hW) keysSk Tryz.underlying94 (Tryz.zeroValue50 W) cm s;have h2:((findM es s).map ldV).getD (ldV it00)=ldV ((findM es s).getD it00):=by cases findM es s <;> rfl
 rw [←h2];exact h1
theorem isSome_has (es:List (SK × It)) (s:SK):(findM es s).isSome=hasM es s:=by
 cases h:hasM es s with
 | false=>rw [findM_none h];rfl
 | true=>obtain ⟨v,hv,_⟩:=findM_some h;rw [hv];rfl
theorem flLoad_any {P:Nat→Prop} {M:Nat} {c:Cfg} {rs rh n:Nat} {wd:Wd} {d:FlatD} (s:SK) (w:World) (h:FlatAt P w M c rs rh n wd d) (hl:∀p∈d.es,p.2.nd.smp.length≤1000000∧p.2.nd.past.length≤1000000) :
 Calls Tryz.prog 88 #[.pointer (some ⟨M,0,none⟩),.string s.1] w (LoadS w (findM d.es s)):=by
 obtain ⟨o,ho⟩:∃o,o=findM d.es s:=⟨_,rfl⟩;rw [←ho];have hx:LoadIn (fun b=>P b∨False) w (o.getD it00)∧(o.getD it00).nd.smp.length≤1000000∧(o.getD it00).nd.past.length≤1000000:=by
  cases hf:o with
  | none=>exact ⟨⟨RowG.nil,RowG.nil⟩,by decide,by decide⟩
  | some x =>
    rw [hf] at ho;have hm:=find_mem ho.symm;exact ⟨(h.rows _ hm).imp (fun b hb=>.inl hb),(hl _ hm).1,(hl _ hm).2⟩
 have CM:=jH (fun W (hW:jB w W)=>flMade_any W (h.below hW));have CC:=jH (fun W (hW:jB w W)=>flCopied_any _ (o.getD it00) W (hx.1.below hW) hx.2.1 hx.2.2);have hlk:=fun (W:World) (hW:jB w W)=>fl_look h.map s true (hW.block d.L h.map.lt)
 rw [←ho,←isSome_has,←ho] at hlk;have HC:=jH h.cell;have HLM:=jH h.lt;obtain ⟨x,hxx⟩:∃x,x=o.getD it00:=⟨_,rfl⟩;rw [←hxx] at CC hlk;unfold ldV ldC at CC hlk;simp only [↓reduceIte] at hlk
 have HXX:=jH hxx;obtain ⟨ob,hob⟩:∃b,b=o.isSome:=⟨_,rfl⟩;rw [←hob] at hlk;have HOB:=jH hob.symm;clear hob;have HLK:=jH hlk;clear h hl hx ho hlk hxx
 go_enter Tryz.func88,Tryz.ntmps88
 go_upto_region 4 with (first
  | (go_at_call 48
     refine calls_named ?_;intro W1 hW1;have hb1:jB w W1:=by rw [hW1];exact balloc jR _
     have HR1:=jH (show W1.heap[w.heap.size]?=some (.cells #[.slice none 0 0,.slice none 0 0,.int .i64 0,.int .i64 0,.int .i64 0,.int .i64 0,.int .i64 0,.int .i64 0,.bool false] 50 (0,0)) by rw [hW1];exact heap_alloc_new _ _);have HB1:=jH hb1;clear hW1 hb1;refine (CM.out W1 HB1.out).mono ?_;rintro e w2 ⟨rfl,rfl⟩;obtain ⟨a1,a2,a3⟩:=box_cells HB1.out HC.out;have hq:=HLK.out w2 HB1.out))
 refine name_world ?_;intro W3 hW3;have hd3:jB w2 W3:=by rw [hW3];exact balloc jR _
 have HX3:=jH (show W3.heap[w2.heap.size]?=some (.cells #[.slice x.sA x.nd.smp.length x.sc,.slice x.pA x.nd.past.length x.pc,.int .i64 x.nd.pol.mn,.int .i64 x.nd.pol.mx,.int .i64 x.nd.pol.tg,.int .i64 x.nd.pol.tol,.int .i64 x.nd.pol.win,.int .i64 x.nd.pol.hold,.bool x.nd.ruled] 50 (0,0)) by rw [hW3];exact heap_alloc_new _ _);have HR3:=jH (jK hd3 HR1.out);have HB3:=jH (bthen HB1.out hd3);clear hW3 hd3 a1 a2 a3 hq
 obtain ⟨b1,b2,b3⟩:=box_cells jR HX3.out
 go_wp2_with (first
  | (go_at_call 135
     refine (CC.out W3 HB3.out).mono ?_;rintro e w4 ⟨y,rfl,hy1,hy2,hy3,hb4⟩;unfold ldV ldC;have HR4:=jH (jK hb4 HR3.out);have HB4:=jH (bthen HB3.out hb4);have HY1:=jH hy1;have HY3:=jH hy3;have HS3:=jH (show w.heap.size<W3.heap.size from (jL HR3.out));obtain ⟨r1,r2,r3⟩:=box_cells jR HR4.out;clear hy1 hy2 hy3 hb4 b1 b2 b3))
 refine post_named ?_;intro W9 hW9;have hW9':W9=stor w4 w.heap.size 0 [.slice y.sA y.nd.smp.length y.sc,.slice y.pA y.nd.past.length y.pc,.int .i64 y.nd.pol.mn,.int .i64 y.nd.pol.mx,.int .i64 y.nd.pol.tg,.int .i64 y.nd.pol.tol,.int .i64 y.nd.pol.win,.int .i64 y.nd.pol.hold,.bool y.nd.ruled]:=hW9;obtain ⟨t1,t2,t3,t4⟩:=stor_at HR4.out [.slice y.sA y.nd.smp.length y.sc,.slice y.pA y.nd.past.length y.pc,.int .i64 y.nd.pol.mn,.int .i64 y.nd.pol.mx,.int .i64 y.nd.pol.tg,.int .i64 y.nd.pol.tol,.int .i64 y.nd.pol.win,.int .i64 y.nd.pol.hold,.bool y.nd.ruled] rfl W9 hW9'
 obtain ⟨a9,a8,a7⟩:=box_cells jR t1;clear hW9 hW9';have hs3:=HS3.out;have hk:∀b,W3.heap.size≤b→b<w4.heap.size→W9.heap[b]?=w4.heap[b]?:=fun b hb _=>t2 b (by omega)
 exact bodyPost_ret (v:=.tuple #[.agg #[.slice y.sA y.nd.smp.length y.sc,.slice y.pA y.nd.past.length y.pc,.int .i64 y.nd.pol.mn,.int .i64 y.nd.pol.mx,.int .i64 y.nd.pol.tg,.int .i64 y.nd.pol.tol,.int .i64 y.nd.pol.win,.int .i64 y.nd.pol.hold,.bool y.nd.ruled],.bool ob]) (by simp [results,Tryz.results88,go_sem,a9]) rfl
   ⟨y,by rw [HOB.out];rfl,by rw [HY1.out,HXX.out],(HY3.out.kept hk).lower (by omega),HB4.out.trans (t4 _ (Nat.le_refl _))⟩
end
section
open Go.RowKit Go.Lib
def readF (o:Option It):RepD:=match o with
 | none=>repF 5
 | some x=>match x.nd.past.getLast? with
   | none=>repF 0
   | some a=>⟨0,0,0,st0,a⟩
theorem flRead_any {P:Nat→Prop} {M:Nat} {c:Cfg} {rs rh n:Nat} {wd:Wd} {d:FlatD} (s:SK) (w:World) (h:FlatAt P w M c rs rh n wd d) (hl:∀p∈d.es,p.2.nd.past.length≤1000000) :
 Calls Tryz.prog 85 #[.pointer (some ⟨M,0,none⟩),.string s.1] w (jP w (repV (readF (findM d.es s)))):=by
 obtain ⟨o,ho⟩:∃o,o=findM d.es s:=⟨_,rfl⟩;rw [←ho];have hx:LoadIn (fun b=>P b∨False) w (o.getD it00)∧(o.getD it00).nd.past.length≤1000000:=by
  cases hf:o with
  | none=>exact ⟨⟨RowG.nil,RowG.nil⟩,by decide⟩
  | some x =>
    rw [hf] at ho;have hm:=find_mem ho.symm;exact ⟨(h.rows _ hm).imp (fun b hb=>.inl hb),hl _ hm⟩
 have hlk:=fun (W:World) (hW:jB w W)=>fl_look h.map s true (hW.block d.L h.map.lt)
 rw [←ho,←isSome_has,←ho] at hlk;have HC:=jH h.cell;obtain ⟨r,hr⟩:∃r,r=readF o:=⟨_,rfl⟩;rw [←hr];obtain ⟨x,hxx⟩:∃x,x=o.getD it00:=⟨_,rfl⟩;rw [←hxx] at hx hlk;unfold ldV ldC at hlk;simp only [↓reduceIte] at hlk
 obtain ⟨ob,hob⟩:∃b,b=o.isSome:=⟨_,rfl⟩;rw [←hob] at hlk;have HRR:=jH (show (ob=false→r=repF 5)∧(ob=true→r=match x.nd.past.getLast? with|none=>repF 0|some a=>⟨0,0,0,st0,a⟩) by
  rw [hob,hr,hxx]
  cases o with
  | none=>exact ⟨fun _=>rfl,(fun h=>nomatch h)⟩
  | some z=>exact ⟨(fun h=>nomatch h),fun _=>rfl⟩)
 have HLK:=jH hlk;have HP:=jH hx.1.2.1;have HPL:=jH hx.2;clear h hl hx ho hlk hxx hob hr
 go_enter Tryz.func85,Tryz.ntmps85
 go_upto_region 1 with fail
 refine name_world ?_;intro W1 hW1;have HB1:=jH (show jB w W1 by rw [hW1];exact balloc jR _);have HR1:=jH (show W1.heap[w.heap.size]?=some (.cells #[.int .i64 0,.int .i64 0,.int .i64 0,.int .i64 0,.int .i64 0,.int .i64 0,.int .i64 0,.int .i64 0,.int .i64 0,.int .i64 0,.int .i64 0,.int .i64 0,.int .i64 0] 76 (0,0)) by rw [hW1];exact heap_alloc_new _ _);clear hW1;obtain ⟨a1,a2,a3⟩:=box_cells HB1.out HC.out
 have hq:=HLK.out W1 HB1.out
 go_upto_region 2 with fail
 refine name_world ?_;intro W3 hW3;have hd3:jB W1 W3:=by rw [hW3];exact balloc jR _
 have hx3:W3.heap[W1.heap.size]?=some (.cells #[.slice x.sA x.nd.smp.length x.sc,.slice x.pA x.nd.past.length x.pc,.int .i64 x.nd.pol.mn,.int .i64 x.nd.pol.mx,.int .i64 x.nd.pol.tg,.int .i64 x.nd.pol.tol,.int .i64 x.nd.pol.win,.int .i64 x.nd.pol.hold,.bool x.nd.ruled] 50 (0,0)):=by rw [hW3];exact heap_alloc_new _ _
 have HR3:=jH (jK hd3 HR1.out);have HB3:=jH (bthen HB1.out hd3);clear hW3 hd3 a1 a2 a3 hq;obtain ⟨b1,b2,b3⟩:=box_cells jR hx3;obtain ⟨r1,r2,r3⟩:=box_cells jR HR3.out;clear hx3;have fin:∀(rp:RepD) (W9:World),W9=stor W3 w.heap.size 0 (repC rp)→W9.heap[w.heap.size]?=some (.cells (repC rp).toArray 76 (0,0))∧jB w W9:=fun rp W9 hW9=>by
  obtain ⟨t1,t2,t3,t4⟩:=stor_at HR3.out (repC rp) rfl W9 hW9;exact ⟨t1,HB3.out.trans (t4 _ (Nat.le_refl _))⟩
 have HFIN:=jH fin;clear fin
 cases ob
 · have HR:=jH (HRR.out.1 rfl)
   go_wp2_with fail
   refine post_named ?_;intro W9 hW9;obtain ⟨t1,hb9⟩:=HFIN.out (repF 5) W9 hW9;obtain ⟨a9,a8,a7⟩:=box_cells jR t1;clear hW9;exact bodyPost_ret (v:=repV (repF 5)) (by simp [results,Tryz.results85,go_sem,a9,repV,repC,repF,st0,adv0]) rfl ⟨by rw [HR.out],hb9⟩
 · have HR:=jH (HRR.out.2 rfl)
   by_cases h0:x.nd.past.length=0
   · have hnil:x.nd.past=[]:=List.eq_nil_of_length_eq_zero h0
     have HR2:=jH (show r=repF 0 by rw [HR.out,hnil];rfl);rw [h0] at b1;clear hnil;go_wp2_with fail
     refine post_named ?_;intro W9 hW9;obtain ⟨t1,hb9⟩:=HFIN.out (repF 0) W9 hW9;obtain ⟨a9,a8,a7⟩:=box_cells jR t1;clear hW9;exact bodyPost_ret (v:=repV (repF 0)) (by simp [results,Tryz.results85,go_sem,a9,repV,repC,repF,st0,adv0]) rfl ⟨by rw [HR2.out],hb9⟩
   · have hpos:0<x.nd.past.length:=by omega
     obtain ⟨m,hm⟩:∃m,m=x.nd.past.length - 1:=⟨_,rfl⟩;have hlt:m<x.nd.past.length:=by omega
     obtain ⟨bb,o2,hA,hbb,hcc⟩:=HP.out.at_ hlt;have HR2:=jH (show r=⟨0,0,0,st0,x.nd.past[m]⟩ by
      rw [HR.out,getLast_nth hpos];simp only [hm])
     have c0:=(HB3.out.cell (p:=⟨bb,_,none⟩) hbb).trans (hcc 0 _ rfl);have c1:=(HB3.out.cell (p:=⟨bb,_,none⟩) hbb).trans (hcc 1 _ rfl);have c2:=(HB3.out.cell (p:=⟨bb,_,none⟩) hbb).trans (hcc 2 _ rfl);have c3:=(HB3.out.cell (p:=⟨bb,_,none⟩) hbb).trans (hcc 3 _ rfl);have c4:=(HB3.out.cell (p:=⟨bb,_,none⟩) hbb).trans (hcc 4 _ rfl);rw [Nat.add_zero] at c0;generalize x.nd.past[m]=a at c0 c1 c2 c3 c4 HR2
     rw [hA] at b1;have hpl:=HPL.out;have z9:¬((x.nd.past.length:Nat):Int)=0:=by omega
     have z7:(((x.nd.past.length:Nat):Int) == 0)=false:=beq_eq_false_iff_ne.2 z9;have hw:wrap64 ((m:Nat):Int)=(m:Nat):=by unfold wrap64;omega
     have hw2:((x.nd.past.length:Nat) - 1:Int)=(m:Nat):=by omega
     have z1:(0:Int)≤(m:Int):=by omega
     have z2:(m:Int)<(x.nd.past.length:Int):=by omega
     generalize x.nd.past.length=pl at b1 z9 z7 hw2 z2;clear hA hcc hm hlt hpos h0 hpl;go_wp2_with fail
     refine post_named ?_;intro W9 hW9;obtain ⟨t1,hb9⟩:=HFIN.out ⟨0,0,0,st0,a⟩ W9 hW9;obtain ⟨a9,a8,a7⟩:=box_cells jR t1;clear hW9;exact bodyPost_ret (v:=repV ⟨0,0,0,st0,a⟩) (by simp [results,Tryz.results85,go_sem,a9,repV,repC,repF,st0,adv0]) rfl ⟨by rw [HR2.out],hb9⟩
end
section
open Go.RowKit Go.Lib Go.Sort
theorem keyK_inj {s t:ByteArray} (hs:idS s=true) (ht:idS t=true) (h:keyK s=keyK t):s=t:=by
 unfold keyK at h;rw [if_pos hs,if_pos ht] at h;injection h with h1 h2
 have a:IsKey (hiN s.data.toList) (loN s.data.toList) s.data.toList:=⟨hs,rfl,rfl⟩;have b:IsKey (hiN s.data.toList) (loN s.data.toList) t.data.toList:=⟨ht,h1.symm,h2.symm⟩;exact ByteArray.ext (Array.toList_inj.1 (a.one b))
theorem findIt_none_iff {l:List Itm} {k:Ky} (h:findIt l k=none):∀p∈l,p.1≠k:=by
 intro p hp e;unfold findIt at h;rw [Option.map_eq_none_iff,List.find?_eq_none] at h;exact h p hp (by simpa using e)
theorem keys_mk (R:List Itm):keysI (R.map mkIt)=R.map (·.1):=by
 unfold keysI;rw [List.map_map];rfl
theorem hasP_iff {R:List Itm} (hs:SrtR R) (k:Ky):hasP R k=true ↔ k∈R.map (·.1):=by
 have h1:=hasP_abs (R.map mkIt) k;rw [mkIt_abs] at h1;have h2:=hasI_iff (l:=R.map mkIt) (by rw [keys_mk];exact hs) k;rw [←h1,keys_mk] at h2;exact h2
theorem hasP_find {R:List Itm} (hs:SrtR R) (k:Ky):hasP R k=(findIt R k).isSome:=by
 rw [Bool.eq_iff_iff,hasP_iff hs]
 constructor
 · intro h
   obtain ⟨p,hp,rfl⟩:=List.mem_map.1 h;rw [findIt_sorted hs (k:=p.1) (y:=p.2) hp];rfl
 · intro h
   obtain ⟨y,hy⟩:=Option.isSome_iff_exists.1 h;exact List.mem_map.2 ⟨_,findIt_mem hy,rfl⟩
theorem getP_find {R:List Itm} (hs:SrtR R) (k:Ky):getP R k=(findIt R k).getD nd0:=by
 cases hh:hasP R k with
 | true =>
   have h1:=hasP_abs (R.map mkIt) k;have h2:=getP_abs (R.map mkIt) k;rw [mkIt_abs] at h1 h2;have h3:=getL_mem (h1.symm.trans hh);rw [mkIt_abs,←h2] at h3;rw [findIt_sorted hs h3];rfl
 | false =>
   have h1:=hasP_find hs k;rw [hh] at h1;have h2:findIt R k=none:=by cases hf:findIt R k with|none=>rfl|some y=>rw [hf] at h1;cases h1
   rw [h2];unfold hasP at hh;unfold getP
   cases hx:R[atP R k]? with
   | none=>rfl
   | some x =>
     rw [hx] at hh;exact if_neg (of_decide_eq_false hh)
theorem mem_outP {R:List Itm} (hs:SrtR R) (k:Ky) (y:Nd) (q:Ky) (z:Nd):(q,z)∈outP R k y ↔ (q=k∧z=y)∨((q,z)∈R∧q≠k):=by
 have h1:=mem_outI (l:=R.map mkIt) (by rw [keys_mk];exact hs) k y q z;rw [←outP_abs,mkIt_abs] at h1;exact h1
theorem outP_sorted {R:List Itm} (hs:SrtR R) (k:Ky) (y:Nd):SrtR (outP R k y):=by
 have h1:=outI_sorted (l:=R.map mkIt) (by rw [keys_mk];exact hs) k y;rw [←outP_abs,mkIt_abs] at h1;exact h1
theorem find_outP {R:List Itm} (hs:SrtR R) (k:Ky) (y:Nd) (q:Ky):findIt (outP R k y) q=if q=k then some y else findIt R q:=by
 split
 · rename_i e
   rw [e];exact findIt_sorted (outP_sorted hs k y) ((mem_outP hs k y k y).2 (.inl ⟨rfl,rfl⟩))
 · rename_i e
   cases hf:findIt R q with
   | some z=>exact findIt_sorted (outP_sorted hs k y) ((mem_outP hs k y q z).2 (.inr ⟨findIt_mem hf,e⟩))
   | none =>
     refine findIt_none (fun p hp e2=>?_);obtain ⟨a,b⟩:=p;simp only at e2
     subst e2
     rcases (mem_outP hs k y a b).1 hp with ⟨h9,_⟩|⟨h9,_⟩
     · exact e h9
     · exact findIt_none_iff hf _ h9 rfl
theorem len_outP (R:List Itm) (k:Ky) (y:Nd):(outP R k y).length=if hasP R k=true then R.length else R.length+1:=by
 unfold outP;have hat:atP R k≤R.length:=by
  unfold atP;exact (List.takeWhile_sublist _).length_le
 cases hh:hasP R k with
 | true =>
   have:atP R k<R.length:=by
    unfold hasP at hh
    split at hh
    · cases hh
    · rename_i x hx
      exact (List.getElem?_eq_some_iff.1 hx).1
   simp
   omega
 | false =>
   simp
   omega
theorem find_all {c:Cfg} {wd:Wd} (h:HomeOk c wd) (hst:okSt c.st=true) (hl:(wd.st.length:Int)=c.st) (id:ByteArray):findIt (allW wd) (keyK id)=findIt (wd.st.getD (atW c id) []) (keyK id):=by
 obtain ⟨h1,h2⟩:=atW_lt (id:=id) hst hl;rw [List.getD_eq_getElem?_getD,List.getElem?_eq_getElem h1];exact load_home h (List.getElem?_eq_getElem h1) h2
theorem srt_at {c:Cfg} {es:List (SK × It)} {wd:Wd} (h:FlTells c es wd) (i:Nat):SrtR (wd.st.getD i []):=by
 rw [List.getD_eq_getElem?_getD]
 cases hx:wd.st[i]? with
 | none=>exact List.Pairwise.nil
 | some R=>exact h.srt R (List.mem_of_getElem? hx)
theorem FlTells.load {c:Cfg} {es:List (SK × It)} {wd:Wd} (h:FlTells c es wd) (s:SK) (hs:idS s.1=true):match findM es s with|none=>loadW wd s.1=none|some x=>∃y,loadW wd s.1=some y∧sameN x.nd y:=h.has.2 s hs
theorem FlTells.is {c:Cfg} {es:List (SK × It)} {wd:Wd} (h:FlTells c es wd) (s:SK) (hs:idS s.1=true):hasM es s=(loadW wd s.1).isSome:=by
 have h1:=h.load s hs
 cases hh:hasM es s with
 | false =>
   rw [findM_none hh] at h1;rw [h1];rfl
 | true =>
   obtain ⟨v,hv,_⟩:=findM_some hh;rw [hv] at h1;obtain ⟨y,hy,_⟩:=h1;rw [hy];rfl
theorem FlTells.here {c:Cfg} {es:List (SK × It)} {wd:Wd} (h:FlTells c es wd) (hst:okSt c.st=true) (s:SK) (hs:idS s.1=true) :
 hasP (wd.st.getD (atW c s.1) []) (keyK s.1)=hasM es s∧sameN (((findM es s).map (·.nd)).getD nd0) (getP (wd.st.getD (atW c s.1) []) (keyK s.1)):=by
 have hr:=srt_at h (atW c s.1);have hf:=find_all h.home hst h.lst s.1;have h1:=h.load s hs;have h2:=h.is s hs;unfold loadW at h1 h2;rw [hf] at h1 h2;refine ⟨(hasP_find hr _).trans h2.symm,?_⟩;rw [getP_find hr]
 cases hh:findM es s with
 | none =>
   rw [hh] at h1;simp only at h1
   rw [h1];exact sameN.refl _
 | some x =>
   rw [hh] at h1;obtain ⟨y,hy,hxy⟩:=h1;rw [hy];exact hxy
theorem FlTells.many {c:Cfg} {es:List (SK × It)} {wd:Wd} (h:FlTells c es wd) (hst:okSt c.st=true) (id:ByteArray) :
 (wd.st.getD (atW c id) []).length=(es.map (·.1)).countP fun s=>decide (routeI (keyK s.1).1 (keyK s.1).2 c.st=routeI (keyK id).1 (keyK id).2 c.st):=by
 obtain ⟨h1,h2⟩:=atW_lt (id:=id) hst h.lst;rw [List.getD_eq_getElem?_getD,List.getElem?_eq_getElem h1,h2];exact h.cnt _ _ (List.getElem?_eq_getElem h1)
theorem FlTells.put {c:Cfg} {es:List (SK × It)} {wd:Wd} (h:FlTells c es wd) (hst:okSt c.st=true) (s:SK) (hs:idS s.1=true) (x:It) (y:Nd) (hxy:sameN x.nd y) :
 FlTells c (putM es s x) { wd with st:=wd.st.set (atW c s.1) (outP (wd.st.getD (atW c s.1) []) (keyK s.1) y) }:=by
 obtain ⟨h1,h2⟩:=atW_lt (id:=s.1) hst h.lst;have hr:=srt_at h (atW c s.1);have hRm:wd.st.getD (atW c s.1) []∈wd.st:=by
  rw [List.getD_eq_getElem?_getD,List.getElem?_eq_getElem h1];exact List.getElem_mem h1
 have hRa:wd.st[atW c s.1]?=some (wd.st.getD (atW c s.1) []):=by rw [List.getD_eq_getElem?_getD,List.getElem?_eq_getElem h1];rfl
 have hhas:=(h.here hst s hs).1;generalize hR:wd.st.getD (atW c s.1) []=R at *;have hmem:∀p∈outP R (keyK s.1) y,p∈R∨p.1=keyK s.1:=fun p hp=>(outP_mem hp).imp id (fun e=>by rw [e])
 have hhome:HomeOk c { wd with st:=wd.st.set (atW c s.1) (outP R (keyK s.1) y) }:=h.home.set (fun p hp=>by
  rcases hmem p hp with h9|h9
  · exact h.home _ _ hRa p h9
  · rw [h9];exact h2)
 have hlst:((({ wd with st:=wd.st.set (atW c s.1) (outP R (keyK s.1) y) }:Wd).st.length:Nat):Int)=c.st:=by
  show (((wd.st.set (atW c s.1) (outP R (keyK s.1) y)).length:Nat):Int)=c.st
  rw [List.length_set];exact h.lst
 refine ⟨⟨fun p hp=>?_,fun t ht=>?_⟩,fun p hp=>?_,fun i Q hQ=>?_,fun Q hQ=>?_,hhome,hlst,nodup_putM h.nod s x⟩
 · have:p.1∈(putM es s x).map (·.1):=List.mem_map.2 ⟨p,hp,rfl⟩
   rw [keys_putM] at this;have h9:p.1∈es.map (·.1)∨p.1=s:=by
    split at this
    · exact .inl this
    · rcases List.mem_append.1 this with h|h
      · exact .inl h
      · exact .inr (List.mem_singleton.1 h)
   rcases h9 with h9|h9
   · obtain ⟨q,hq,e⟩:=List.mem_map.1 h9
     rw [←e];exact h.has.1 q hq
   · rw [h9];exact hs
 · have hq:=find_all hhome hst hlst t.1
   have hq0:=find_all h.home hst h.lst t.1;have hset:({ wd with st:=wd.st.set (atW c s.1) (outP R (keyK s.1) y) }:Wd).st.getD (atW c t.1) []=if atW c s.1=atW c t.1 then outP R (keyK s.1) y else wd.st.getD (atW c t.1) []:=by
    show (wd.st.set (atW c s.1) (outP R (keyK s.1) y)).getD (atW c t.1) []=_
    rw [List.getD_eq_getElem?_getD,List.getElem?_set]
    split
    · rfl
    · rw [List.getD_eq_getElem?_getD]
   rw [hset] at hq;have hkey:findIt (allW { wd with st:=wd.st.set (atW c s.1) (outP R (keyK s.1) y) }) (keyK t.1)=if t=s then some y else findIt (allW wd) (keyK t.1):=by
    rw [hq]
    by_cases e:t=s
    · subst e
      rw [if_pos rfl,if_pos rfl,find_outP hr,if_pos rfl]
    · have hk:keyK t.1≠keyK s.1:=fun e2=>e (Subtype.ext (keyK_inj ht hs e2))
      rw [if_neg e,hq0]
      split
      · rename_i e3
        rw [find_outP hr,if_neg hk,←e3,hR]
      · rfl
   rw [hkey,find_putM]
   by_cases e:t=s
   · rw [if_pos e,if_pos e]
     exact ⟨y,rfl,hxy⟩
   · rw [if_neg e,if_neg e]
     exact h.has.2 t ht
 · obtain ⟨Q,hQ,hp⟩:=List.mem_flatten.1 hp
   rcases List.mem_or_eq_of_mem_set hQ with hQ|rfl
   · exact h.keys p (List.mem_flatten.2 ⟨Q,hQ,hp⟩)
   · rcases hmem p hp with h9|h9
     · exact h.keys p (List.mem_flatten.2 ⟨R,hRm,h9⟩)
     · exact ⟨s,hs,h9.symm⟩
 · have hQ:(wd.st.set (atW c s.1) (outP R (keyK s.1) y))[i]?=some Q:=hQ
   rw [List.getElem?_set] at hQ;rw [keys_putM]
   split at hQ
   · rename_i e
     injection hQ with hQ
     subst hQ;rw [len_outP,hhas];have hc:=h.cnt _ _ hRa;rw [e] at hc h2
     cases hasM es s with
     | true =>
       simp only [if_true]
       exact hc
     | false =>
       simp only [Bool.false_eq_true,if_false]
       rw [List.countP_append,List.countP_singleton,if_pos (by simpa using h2),hc]
   · rename_i e
     have hc:=h.cnt i Q hQ
     cases hasM es s with
     | true =>
       simp only [if_true]
       exact hc
     | false =>
       simp only [Bool.false_eq_true,if_false]
       rw [List.countP_append,List.countP_singleton,if_neg (by simp only [decide_eq_true_eq];omega),hc,Nat.add_zero]
 · rcases List.mem_or_eq_of_mem_set hQ with hQ|rfl
   · exact h.srt Q hQ
   · exact outP_sorted hr _ _
def setF (x:Nd) (p:Pol):Nd:={ x with pol:=p,ruled:=true }
def noteF (rh:Nat) (x:Nd) (a:Adv):Nd:={ x with past:=pushL x.past rh a }
def trimF (cut:Int) (x:Nd):Nd:={ x with smp:=x.smp.drop (placeS x.smp cut) }
def fullF (c:Cfg) (es:List (SK × It)) (s:SK):Bool:=!hasM es s && decide (c.lo≤(((es.map (·.1)).countP fun t=>decide (routeI (keyK t.1).1 (keyK t.1).2 c.st=routeI (keyK s.1).1 (keyK s.1).2 c.st):Nat):Int))
theorem oneW_eq (c:Cfg) (rs rh:Nat) (wd:Wd) (id:ByteArray) (a:Act17):oneW c rs rh wd id a=({ wd with st:=wd.st.set (atW c id) (oneP c rs rh (wd.st.getD (atW c id) []) (keyK id) a).1 },(oneP c rs rh (wd.st.getD (atW c id) []) (keyK id) a).2):=rfl
theorem wd_same {wd:Wd} {i:Nat}:({ wd with st:=wd.st.set i (wd.st.getD i []) }:Wd)=wd:=by
 have:wd.st.set i (wd.st.getD i [])=wd.st:=by
  rw [List.getD_eq_getElem?_getD]
  apply List.ext_getElem?
  intro j;rw [List.getElem?_set]
  split
  · rename_i e
    subst e
    split
    · rename_i hl
      rw [List.getElem?_eq_getElem hl];rfl
    · rename_i hl
      rw [List.getElem?_eq_none (by omega)]
  · rfl
 cases wd
 simp only at this ⊢
 rw [this]
theorem FlTells.one {c:Cfg} {rs rh:Nat} {es:List (SK × It)} {wd:Wd} (h:FlTells c es wd) (hst:okSt c.st=true) (s:SK) (hs:idS s.1=true) (a:Act17) (h3:a.kind≠3)
    (he:(do17 rs rh (getP (wd.st.getD (atW c s.1) []) (keyK s.1)) a).2.1=0) :
    (fullF c es s=true→oneW c rs rh wd s.1 a=(wd,6)) ∧
    (fullF c es s=false→(oneW c rs rh wd s.1 a).2=0∧∀x:It,sameN x.nd (do17 rs rh (getP (wd.st.getD (atW c s.1) []) (keyK s.1)) a).1→FlTells c (putM es s x) (oneW c rs rh wd s.1 a).1):=by
  have hm:=h.many hst s.1;have hh:=(h.here hst s hs).1;rw [oneW_eq];unfold oneP fullF;rw [←hm,hh];dsimp only;rw [if_neg (not_not_intro he),if_neg (fun e=>h3 e.2)]
  constructor
  · intro hf
    rw [Bool.and_eq_true,Bool.not_eq_true',decide_eq_true_eq] at hf;rw [if_pos hf,wd_same]
  · intro hf
    have hn:¬(hasM es s=false∧c.lo≤(((wd.st.getD (atW c s.1) []).length:Nat):Int)):=fun e=>by
     rw [e.1,decide_eq_true e.2] at hf
     cases hf
    rw [if_neg hn];exact ⟨rfl,fun x hx=>h.put hst s hs x _ hx⟩
theorem FlTells.note {c:Cfg} {rs rh:Nat} {es:List (SK × It)} {wd:Wd} (h:FlTells c es wd) (hst:okSt c.st=true) (s:SK) (hs:idS s.1=true) (a:Adv) (x0:It) (hx0:findM es s=some x0) (x:It) (hx:x.nd=noteF rh x0.nd a) :
 (noteW c rs rh wd s.1 a).2=true∧FlTells c (putM es s x) (noteW c rs rh wd s.1 a).1:=by
 have h1:=h.load s hs;rw [hx0] at h1;obtain ⟨y,hy,_⟩:=h1;obtain ⟨hh,hsame⟩:=h.here hst s hs;have hhas:hasM es s=true:=by
  rw [h.is s hs,hy];rfl
 unfold noteW;rw [hy];refine ⟨rfl,?_⟩
 show FlTells c (putM es s x) (oneW c rs rh wd s.1 ⟨3,(0,0),pol0,a⟩).1
 rw [oneW_eq];unfold oneP;rw [hh,hhas];have hd:do17 rs rh (getP (wd.st.getD (atW c s.1) []) (keyK s.1)) ⟨3,(0,0),pol0,a⟩=({ getP (wd.st.getD (atW c s.1) []) (keyK s.1) with past:=pushL (getP (wd.st.getD (atW c s.1) []) (keyK s.1)).past rh a,ver:=(getP (wd.st.getD (atW c s.1) []) (keyK s.1)).ver+1 },0,0):=rfl;rw [hd];dsimp only;rw [if_neg (by simp),if_neg (by simp),if_neg (by simp)];refine h.put hst s hs x _ ?_
 rw [hx0] at hsame;rw [hx];obtain ⟨a1,a2,a3,a4⟩:=hsame;exact ⟨a1,by show pushL x0.nd.past rh a=pushL _ rh a;rw [show x0.nd.past=_ from a2],a3,a4⟩
theorem FlTells.note_no {c:Cfg} {rs rh:Nat} {es:List (SK × It)} {wd:Wd} (h:FlTells c es wd) (s:SK) (hs:idS s.1=true) (a:Adv) (hx0:findM es s=none):noteW c rs rh wd s.1 a=(wd,false):=by
 have h1:=h.load s hs;rw [hx0] at h1;unfold noteW;rw [show loadW wd s.1=none from h1]
theorem sameN_trim {x y:Nd} (h:sameN x y) (cut:Int):sameN (trimF cut x) (trimR cut y):=by
 obtain ⟨a1,a2,a3,a4⟩:=h;unfold trimF trimR;rw [a1]
 split
 · rename_i e
   rw [e];exact ⟨by simp,a2,a3,a4⟩
 · exact ⟨rfl,a2,a3,a4⟩
theorem findIt_mapV (f:Nd→Nd) (l:List Itm) (k:Ky):findIt (l.map fun p=>(p.1,f p.2)) k=(findIt l k).map f:=by
 induction l with
 | nil=>rfl
 | cons p l ih =>
   unfold findIt at ih ⊢;rw [List.map_cons,List.find?_cons,List.find?_cons]
   by_cases e:p.1=k
   · simp [e]
   · simp only [e,decide_false]
     exact ih
theorem all_trim (wd:Wd) (cut:Int):allW (trimW wd cut)=(allW wd).map fun p=>(p.1,trimR cut p.2):=by
 unfold allW trimW;rw [List.map_flatten]
theorem FlTells.trim {c:Cfg} {es es':List (SK × It)} {wd:Wd} (h:FlTells c es wd) (cut:Int) (hk:es'.map (·.1)=es.map (·.1)) (hv:∀s x,findM es s=some x→∃x',findM es' s=some x'∧x'.nd=trimF cut x.nd):FlTells c es' (trimW wd cut):=by
 have hn:∀s,findM es s=none→findM es' s=none:=fun s hs=>by
  refine findM_none ?_
  cases hh:hasM es' s with
  | false=>rfl
  | true =>
    rw [hasM_iff,hk,←hasM_iff] at hh;obtain ⟨v,hv,_⟩:=findM_some hh;rw [hs] at hv
    cases hv
 refine ⟨⟨fun p hp=>?_,fun s hs=>?_⟩,fun p hp=>?_,fun i R hR=>?_,fun R hR=>?_,homeOk_trim h.home,?_,by rw [hk];exact h.nod⟩
 · have:p.1∈es.map (·.1):=by rw [←hk];exact List.mem_map.2 ⟨p,hp,rfl⟩
   obtain ⟨q,hq,e⟩:=List.mem_map.1 this;rw [←e];exact h.has.1 q hq
 · rw [all_trim,findIt_mapV]
   have h1:=h.has.2 s hs
   cases hf:findM es s with
   | none =>
     rw [hf] at h1;rw [hn s hf];simp only at h1 ⊢
     rw [h1];rfl
   | some x =>
     rw [hf] at h1;obtain ⟨x',hx',hnd⟩:=hv s x hf;rw [hx'];obtain ⟨y,hy,hxy⟩:=h1;refine ⟨trimR cut y,by rw [hy];rfl,?_⟩;rw [hnd];exact sameN_trim hxy cut
 · rw [all_trim] at hp
   obtain ⟨q,hq,rfl⟩:=List.mem_map.1 hp;exact h.keys q hq
 · have hR:(wd.st.map fun l=>l.map fun p=>(p.1,trimR cut p.2))[i]?=some R:=hR
   rw [List.getElem?_map] at hR;obtain ⟨Q,hQ,rfl⟩:=Option.map_eq_some_iff.1 hR;rw [List.length_map,hk];exact h.cnt i Q hQ
 · have hR:R∈wd.st.map fun l=>l.map fun p=>(p.1,trimR cut p.2):=hR
   obtain ⟨Q,hQ,rfl⟩:=List.mem_map.1 hR
   show (List.map _ _).Pairwise _
   rw [List.map_map];exact h.srt Q hQ
 · show (((wd.st.map fun l=>l.map fun p=>(p.1,trimR cut p.2)).length:Nat):Int)=c.st
   rw [List.length_map];exact h.lst
theorem FlTells.same {c:Cfg} {es:List (SK × It)} {wd wd':Wd} (h:FlTells c es wd) (hs:wd'.st=wd.st):FlTells c es wd':=by
 have ha:allW wd'=allW wd:=by unfold allW;rw [hs]
 refine ⟨by rw [ha];exact h.has,by rw [ha];exact h.keys,by rw [hs];exact h.cnt,by rw [hs];exact h.srt,?_,by rw [hs];exact h.lst,h.nod⟩;intro i R hR;rw [hs] at hR;exact h.home i R hR
theorem readF_law {c:Cfg} {es:List (SK × It)} {wd:Wd} (h:FlTells c es wd) (s:SK) (hs:idS s.1=true):readF (findM es s)=readW wd s.1:=by
 have h1:=h.load s hs;unfold readW readF
 cases hf:findM es s with
 | none =>
   rw [hf] at h1;rw [show loadW wd s.1=none from h1]
 | some x =>
   rw [hf] at h1;obtain ⟨y,hy,a1,a2,a3,a4⟩:=h1;rw [hy];simp only [a2]
   cases y.past.getLast? <;> rfl
theorem FlTells.it {c:Cfg} {rs rh n:Nat} {es:List (SK × It)} {wd:Wd} (h:FlTells c es wd) (hk:WdOk c rs rh n wd):∀p∈es,NdOk rs rh p.2.nd∧smpI p.2.nd.smp∧(∀s∈p.2.nd.smp,0≤s.1∧0≤s.2)∧p.2.nd.pol.ok:=by
 intro p hp;have hf:findM es p.1=some p.2:=by
  have hh:hasM es p.1=true:=(hasM_iff _ _).2 (List.mem_map.2 ⟨p,hp,rfl⟩);obtain ⟨v,hv,hm⟩:=findM_some hh;obtain ⟨i,hi⟩:=List.getElem?_of_mem hp;obtain ⟨j,hj⟩:=List.getElem?_of_mem hm;have e:i=j:=nodup_inj h.nod (x:=p.1) (by simp [hi]) (by simp [hj]);subst e;rw [hi] at hj;injection hj with hj
  rw [hv,hj]
 have h1:=h.has.2 p.1 (h.has.1 p hp);rw [hf] at h1;obtain ⟨y,hy,a1,a2,a3,a4⟩:=h1;have ho:=allW_it hk _ (findIt_mem hy);refine ⟨⟨by rw [a1];exact ho.nd.ris,by rw [a1];exact ho.nd.len,by rw [a2];exact ho.nd.past⟩,by rw [a1];exact ho.smp,by rw [a1];exact ho.val,by rw [a3];exact ho.pol⟩
end
section
open Go.RowKit Go.Lib
open Go.ChangeMaps (setBlock)
theorem fl_store {w:World} {L:Nat} {es:List (SK × It)} (h:MapIn skV ldV w L es) (s:SK) (x:It) :
 ∃o,(Instr.mapUpdate 94 (.map (some L)) (.string s.1) (ldV x)).run Tryz.prog w=.ok () (setBlock w L o)∧MapIn skV ldV (setBlock w L o) L (putM es s x) :=
 MapIn.store (V:=ldV) h keysSk Tryz.underlying94 s x
theorem FlMem.put {P:Nat→Prop} {w w1:World} {M:Nat} {c:Cfg} {wd:Wd} {d:FlatD} {s:SK} {x:It} {o:Obj} (h:FlMem P w M c wd d) (hb:jB w w1) (hm:MapIn skV ldV (setBlock w1 d.L o) d.L (putM d.es s x)) (hx:LoadIn P w1 x) :
 FlMem P (setBlock w1 d.L o) M c wd { d with es:=putM d.es s x }∧Upd w (setBlock w1 d.L o) [M,d.L] [M,d.L]:=by
 have h1:=h.below hb;have hk:∀b,b≠d.L→(setBlock w1 d.L o).heap[b]?=w1.heap[b]?:=fun b hb=>setBlock_other hb
 have hsz:w1.heap.size≤(setBlock w1 d.L o).heap.size:=by rw [setBlock_size];exact Nat.le_refl _
 have hkP:∀b,P b→b<w1.heap.size→(setBlock w1 d.L o).heap[b]?=w1.heap[b]?∧P b:=fun b hP _=>⟨hk b (h.off b hP).2,hP⟩
 refine ⟨⟨(hk M h.ne).trans h1.cell,hm,h.ne,h.off,fun p hp=>?_,h.len,h1.row.keepG hsz hkP,fun i y q hy hq=>⟨(h1.cut i y q hy hq).1,fun hf=>?_⟩⟩,hb.os,hb.tape,hb.output,?_,fun k hlt hn=>?_,fun k hk=>.inl hk⟩
 · rcases mem_putM hp with rfl|⟨h9,_⟩
   · exact hx.keepG hsz hkP
   · exact (h1.rows p h9).keepG hsz hkP
 · obtain ⟨h2,l,h3,h4,h5,h6,h7⟩:=(h1.cut i y q hy hq).2 hf
   exact ⟨h2,l,h3,h4,h5.block (hk l (h.off l h4).2),fun p hp=>(h6 p hp).keepG hsz hkP,h7⟩
 · rw [setBlock_size];exact hb.size
 · simp only [List.mem_cons,List.mem_nil_iff,or_false,not_or] at hn
   exact (hk k hn.2).trans (hb.block k hlt)
theorem FlMem.wd {P:Nat→Prop} {w:World} {M:Nat} {c:Cfg} {wd wd':Wd} {d:FlatD} (h:FlMem P w M c wd d) (hc:wd'.cuts=wd.cuts) (he:wd'.ep=wd.ep) (ho:wd'.over=wd.over):FlMem P w M c wd' d :=
 ⟨by rw [he,ho];exact h.cell,h.map,h.ne,h.off,h.rows,by rw [hc];exact h.len,h.row,by rw [hc];exact h.cut⟩
structure FW (P:Nat→Prop) (w:World) (M:Nat) (c:Cfg) (rs rh n:Nat) (wd:Wd) (d:FlatD):Prop where
 at_:FlatAt P w M c rs rh n wd d
 ok:WdOk c rs rh n wd
theorem FW.below {P:Nat→Prop} {w w':World} {M:Nat} {c:Cfg} {rs rh n:Nat} {wd:Wd} {d:FlatD} (h:FW P w M c rs rh n wd d) (hb:jB w w'):FW P w' M c rs rh n wd d:=⟨h.at_.below hb,h.ok⟩
theorem FlatAt.any {P:Nat→Prop} {w:World} {M:Nat} {c:Cfg} {rs rh n m:Nat} {wd:Wd} {d:FlatD} (h:FlatAt P w M c rs rh n wd d):FlatAt P w M c rs rh m wd d:=⟨h.toFlMem,h.tells⟩
theorem FW.mono {P:Nat→Prop} {w:World} {M:Nat} {c:Cfg} {rs rh n m:Nat} {wd:Wd} {d:FlatD} (h:FW P w M c rs rh n wd d) (hm:n≤m):FW P w M c rs rh m wd d:=⟨h.at_.any,h.ok.mono hm⟩
def FWSays (P:Nat→Prop) (w:World) (M:Nat) (c:Cfg) (rs rh n L:Nat) (v:Value) (wd:Wd) (e:Ending) (w':World):Prop:=∃d',e=.returned v∧FW P w' M c rs rh n wd d'∧d'.L=L∧Upd w w' [M,L] [M,L]
theorem FW.same {P:Nat→Prop} {w w':World} {M:Nat} {c:Cfg} {rs rh n m:Nat} {wd:Wd} {d:FlatD} {v:Value} (h:FW P w M c rs rh n wd d) (hm:n≤m) (hb:jB w w'):FWSays P w M c rs rh m d.L v wd (.returned v) w' :=
 ⟨d,rfl,(h.below hb).mono hm,rfl,Upd.of_below hb _⟩
theorem CfgOk.st {c:Cfg} {rs rh:Nat} (h:CfgOk c rs rh):okSt c.st=true:=by
 have hc:=h.cfg;unfold cfgB at hc;simp only [Bool.and_eq_true,decide_eq_true_eq] at hc
 exact hc.1
theorem FW.small {P:Nat→Prop} {w:World} {M:Nat} {c:Cfg} {rs rh n:Nat} {wd:Wd} {d:FlatD} (h:FW P w M c rs rh n wd d) (hc:CfgOk c rs rh):∀p∈d.es,p.2.nd.smp.length≤1000000∧p.2.nd.past.length≤1000000:=fun p hp=>by
 have h1:=(h.at_.tells.it h.ok p hp).1;have h2:=h1.len;have h3:=h1.past;have h4:=hc.room.r2;have h5:=hc.room.h2;omega
theorem own_apart {α β:Type} {e e':TypeId} {n n' b b':Nat} {f:α→List Value} {g:β→List Value} {w:World} {v v':Value} {l:List α} {l':List β} (h:OwnL f e n b w v l) (h':OwnL g e' n' b' w v' l') (hne:e≠e'):∀r,v.ownBlock=some r→v'.ownBlock≠some r:=by
 intro r hr hr'
 rcases h.2 with ⟨hv,_⟩|⟨x,cp,cur,hv,_,hx,_⟩
 · rw [hv] at hr;cases hr
 · rcases h'.2 with ⟨hv',_⟩|⟨y,cp',cur',hv',_,hy,_⟩
   · rw [hv'] at hr';cases hr'
   · rw [hv] at hr
     rw [hv'] at hr';have e1:x=r:=by simpa [Value.ownBlock] using hr
     have e2:y=r:=by simpa [Value.ownBlock] using hr'
     rw [e1] at hx;rw [e2,hx] at hy;simp only [Option.some.injEq,Obj.cells.injEq] at hy
     exact hne hy.2.1
theorem RowG.ownQ {α:Type} {t e:TypeId} {n bytes:Nat} {z:Value} {f:α→List Value} (E:EltOf t e n bytes z f) {base:Nat} {w:World} {v:Value} {l:List α} {Q:Nat→Prop} (h:OwnL f e n base w v l) (hQ:∀r,v.ownBlock=some r→Q r):RowG Q n f w v l :=
 ⟨h.row E,fun b o m c hv _=>hQ b (by rw [hv];rfl)⟩
theorem flNote_none (M:Option Addr) (id:ByteArray) (av:Adv) (w:World)
    (CL:Hid (∀W,jB w W→Calls Tryz.prog 88 #[.pointer M,.string id] W (LoadS W none))) :
    Calls Tryz.prog 45 #[.pointer M,.string id,.agg (advC av).toArray] w (jP w (.bool false)):=by
  unfold LoadS at CL;simp only [Option.isSome_none] at CL
  unfold advC
  go_enter Tryz.func45,Tryz.ntmps45
  go_wp2_with (first
   | (go_at_call 88
      refine calls_named ?_;intro W1 hW1;have HB1:=jH (show jB w W1 by rw [hW1];exact balloc jR _);clear hW1;refine (CL.out W1 HB1.out).mono ?_;rintro e w2 ⟨y,rfl,hy1,hy3,hb2⟩;have HB2:=jH (bthen HB1.out hb2);unfold ldV ldC;clear hb2 hy3 hy1))
  go_ret
  exact ⟨rfl,balloc HB2.out _⟩
theorem flNote_some {P:Nat→Prop} {w:World} {M:Nat} {c:Cfg} {rs rh n:Nat} {wd:Wd} {d:FlatD} (s:SK) (av:Adv) (x0:It) (h:FW P w M c rs rh n wd d) (hP:∀b,w.heap.size≤b→P b) (hc:CfgOk c rs rh) (hs:idS s.1=true) (hx0:findM d.es s=some x0) :
 Calls Tryz.prog 45 #[.pointer (some ⟨M,0,none⟩),.string s.1,.agg (advC av).toArray] w (FWSays P w M c rs rh (n+1) d.L (.bool true) (noteW c rs rh wd s.1 av).1):=by
 have hl:=h.small hc;have hx:=(h.at_.tells.it h.ok _ (find_mem hx0)).1;have hpl:=And.intro hx.past hc.room.h1;have hr2:=hc.room.h2;have CL:=jH (fun W (hW:jB w W)=>flLoad_any s W (h.at_.below hW) hl);rw [hx0] at CL;unfold LoadS at CL;simp only [Option.isSome_some,Option.getD_some] at CL
 have hci:=hc.hi
 have HFIN:=jH (show ∀(x:It) (W8:World) (o:Obj),x.nd=noteF rh x0.nd av→jB w W8→MapIn skV ldV (setBlock W8 d.L o) d.L (putM d.es s x)→LoadIn P W8 x →
     ∃d',FW P (setBlock W8 d.L o) M c rs rh (n+1) (noteW c rs rh wd s.1 av).1 d'∧d'.L=d.L∧Upd w (setBlock W8 d.L o) [M,d.L] [M,d.L] from fun x W8 o hn hb hm hi=>by
   obtain ⟨h1,h2⟩:=h.at_.toFlMem.put hb hm hi;have hn2:=h.at_.tells.note (rs:=rs) hc.st s hs av x0 hx0 x hn;refine ⟨_,⟨⟨h1.wd ?_ ?_ ?_,hn2.2⟩,?_⟩,rfl,h2⟩
   · unfold noteW;split <;> rfl
   · unfold noteW;split <;> rfl
   · unfold noteW;split <;> rfl
   · have hcb:=hc.cfg
     unfold cfgB at hcb;simp only [Bool.and_eq_true,decide_eq_true_eq] at hcb
     exact noteW_ok h.ok (by omega) hc.room.h1)
 have HMP:=jH (show ∀W,jB w W→MapIn skV ldV W d.L d.es from fun W hW=>h.at_.map.below hW);have hcell:=h.at_.cell;rw [hci] at hcell;have HC:=jH hcell;have HP:=jH hP;have HPL:=jH hpl;have HLT:=jH (And.intro h.at_.lt h.at_.map.lt);generalize (noteW c rs rh wd s.1 av).1=wd9 at HFIN ⊢;unfold advC;clear h hl hx hP hc hs hx0 hcell hci hpl
 go_enter Tryz.func45,Tryz.ntmps45
 go_upto_region 2 with (first
  | (go_at_call 88
     refine calls_named ?_;intro W1 hW1;have hb1:jB w W1:=by rw [hW1];exact balloc jR _
     have HR1:=jH (show W1.heap[w.heap.size]?=some (.cells #[.int .i64 av.tick,.int .i64 av.load,.int .i64 av.want,.int .i64 av.repl,.int .i64 av.why] 74 (0,0)) by rw [hW1];exact heap_alloc_new _ _);have HS1:=jH (show W1.heap.size=w.heap.size+1 by rw [hW1];simp);have HB1:=jH hb1;clear hW1 hb1;refine (CL.out W1 HB1.out).mono ?_;rintro e w2 ⟨y,rfl,hy1,hy3,hb2⟩;have HA2:=jH (jK hb2 HR1.out);have HB2:=jH (bthen HB1.out hb2)
     have HY1:=jH hy1;have HY3:=jH hy3;have HS2:=jH hb2.size;unfold ldV ldC;clear hb2 hy3 hy1))
 refine name_world ?_;intro W3 hW3;have hd3:jB w2 W3:=by rw [hW3];exact balloc jR _
 have HX3:=jH (show W3.heap[w2.heap.size]?=some (.cells #[.slice y.sA y.nd.smp.length y.sc,.slice y.pA y.nd.past.length y.pc,.int .i64 y.nd.pol.mn,.int .i64 y.nd.pol.mx,.int .i64 y.nd.pol.tg,.int .i64 y.nd.pol.tol,.int .i64 y.nd.pol.win,.int .i64 y.nd.pol.hold,.bool y.nd.ruled] 50 (0,0)) by rw [hW3];exact heap_alloc_new _ _);have HS3:=jH (show W3.heap.size=w2.heap.size+1 by rw [hW3];simp);have HA3:=jH (jK hd3 HA2.out)
 have HB3:=jH (bthen HB2.out hd3);have HY4:=jH (HY3.out.below hd3);clear hW3 hd3;obtain ⟨b1,b2,b3⟩:=box_cells jR HX3.out;obtain ⟨a1,a2,a3⟩:=box_cells jR HA3.out;have HAP:=jH (own_apart HY4.out.1 HY4.out.2 (show (118:TypeId)≠74 by decide));have HY5:=jH (HY4.out.1.below (balloc (Below.refl W3.heap.size W3) (.cells #[.int .i64 av.tick,.int .i64 av.load,.int .i64 av.want,.int .i64 av.repl,.int .i64 av.why] 74)))
 have HPY:=jH (show y.nd.past.length≤64 by rw [HY1.out];have:=HPL.out.1;omega)
 go_upto_region 5 with (first
  | (at_builtin
     refine wpList_appendL eAdv (by rfl) (by rfl) W1.heap.size y.nd.past [av] (.slice y.pA y.nd.past.length y.pc) _ (by rfl) (by rfl) (HY4.out.2.below (balloc jR _)) (RowIn.lit W3 av _ _ _ rfl rfl) (by have:=HPY.out;simp;omega) (by have:=HS2.out;have:=HS3.out;simp;omega) ?_;intro out A5 c5 w5 hout hown hg hor;have HX5:=jH ((hg.block w2.heap.size (by have:=HS3.out;simp;omega) (fun e=>by have:=(HY3.out.2.lt e.symm).2;omega)).trans ((Below.heap_alloc _ _ _ (by have:=HS3.out;omega)).trans HX3.out))
     have HB5:=jH ((balloc HB3.out _).trans (grown_own hg (HY4.out.2.lower (base':=w.heap.size) (by have:=HS1.out;omega)) (by have:=HB3.out.size;simp;omega)));have HSM5:=jH (HY5.out.kept (fun r hr=>hg.block r (HY5.out.lt hr).2 (fun e=>HAP.out r hr e.symm)));have HO5:=jH hown;have HE5:=jH hout;have HN5:=jH (show ∀r,(Value.slice A5 out.length c5).ownBlock=some r→r≠w2.heap.size from fun r hr e=>by
      rcases hor with h9|h9
      · rw [h9] at hr;have:=(HY3.out.2.lt hr).2;omega
      · rw [h9] at hr;injection hr with hr;have:=HS3.out;simp at hr;omega)
     obtain ⟨x1,x2,x3⟩:=box_cells jR HX5.out;clear hg hown hout hor b1 b2 b3 a1 a2 a3))
 refine name_world ?_;intro W6 hW6;have HX6:=jH (show W6.heap[w2.heap.size]?=some (.cells #[.slice y.sA y.nd.smp.length y.sc,.slice A5 out.length c5,.int .i64 y.nd.pol.mn,.int .i64 y.nd.pol.mx,.int .i64 y.nd.pol.tg,.int .i64 y.nd.pol.tol,.int .i64 y.nd.pol.win,.int .i64 y.nd.pol.hold,.bool y.nd.ruled] 50 (0,0)) by rw [hW6];exact setCell_block HX5.out);have HB6:=jH (show jB w W6 by rw [hW6];exact Below.setCell HB5.out (by have:=HB2.out.size;exact this) _)
 have HO6:=jH (show OwnL advC 74 5 W1.heap.size W6 (.slice A5 out.length c5) out from HO5.out.kept (fun r hr=>by rw [hW6];exact heap_set_ne rfl (HN5.out r hr)));have HSM6:=jH (show OwnL smpC 118 2 W1.heap.size W6 (.slice y.sA y.nd.smp.length y.sc) y.nd.smp from HSM5.out.kept (fun r hr=>by rw [hW6];exact heap_set_ne rfl (by have:=(HY3.out.1.lt hr).2;omega)));clear hW6 x1 x2 x3;have hlen5:out.length=y.nd.past.length+1:=by rw [HE5.out];simp
 have HL5:=jH hlen5;obtain ⟨ol,hol⟩:∃k,k=out.length:=⟨_,rfl⟩;have HOL:=jH hol;rw [←hol] at HX6;obtain ⟨b1,b2,b3⟩:=box_cells jR HX6.out;obtain ⟨m1,m2,m3⟩:=box_cells HB6.out HC.out
 have hend:∀(W8:World) (past':List Adv) (A:Option Addr) (cc:Nat),past'=pushL x0.nd.past rh av→jB w W8→RowG (fun b=>W1.heap.size≤b) 5 advC W8 (.slice A past'.length cc) past'→RowG (fun b=>W1.heap.size≤b) 2 smpC W8 (.slice y.sA y.nd.smp.length y.sc) y.nd.smp →
     ∃x:It,x.nd=noteF rh x0.nd av∧LoadIn P W8 x∧ldC x=[.slice y.sA y.nd.smp.length y.sc,.slice A past'.length cc,.int .i64 y.nd.pol.mn,.int .i64 y.nd.pol.mx,.int .i64 y.nd.pol.tg,.int .i64 y.nd.pol.tol,.int .i64 y.nd.pol.win,.int .i64 y.nd.pol.hold,.bool y.nd.ruled]:=fun W8 past' A cc hp hb hr1 hr2=>by
   have hs1:=HS1.out;exact ⟨⟨y.key,y.sA,y.sc,A,cc,{ y.nd with past:=past' }⟩,by unfold noteF;rw [hp,HY1.out],⟨hr2.imp (fun b hb=>HP.out b (by omega)),hr1.imp (fun b hb=>HP.out b (by omega))⟩,rfl⟩
 have HEND:=jH hend;clear hend hlen5 hol
 by_cases hcmp:(rh:Int)<(ol:Int)
 · obtain ⟨m,A4,c4,hm,hA,hrun,hrow⟩:=row_from2 eAdv (HO6.out.row eAdv) 1 (by have:=HL5.out;omega)
   rw [HOL.out.symm] at hrun;simp only [show ((1:Nat):Int)=1 from rfl] at hrun
   have hrow6:RowG (fun b=>W1.heap.size≤b∧b≠w2.heap.size) 5 advC W6 (.slice A4 m.length c4) m:=RowG.part (RowG.ownQ eAdv HO6.out (fun r hr=>⟨(HO6.out.lt hr).1,HN5.out r hr⟩)) hA (by rw [hm];simp) hrow;have HM:=jH hm;have HRW:=jH hrow6;clear hm hrow hA hrow6
   go_region
   refine then_named ?_;intro W7 hW7;have HB7:=jH (show jB w W7 by rw [hW7];exact HB6.out.drew);have hb67:jB W6 W7:=by rw [hW7];exact jR.drew
   have HX7:=jH (jK hb67 HX6.out);have HSM7:=jH (HSM6.out.below hb67);have HO7:=jH (HO6.out.below hb67);have HB67:=jH hb67;have HN6:=jH (show ∀r,(Value.slice A5 out.length c5).ownBlock=some r→r≠w2.heap.size from HN5.out);clear hb67 hW7 b1 b2 b3 m1 m2 m3;obtain ⟨b1,b2,b3⟩:=box_cells jR HX7.out
   go_upto_region 7 with fail
   refine name_world ?_;intro W8 hW8;have HX8:=jH (show W8.heap[w2.heap.size]?=some (.cells #[.slice y.sA y.nd.smp.length y.sc,.slice A4 m.length c4,.int .i64 y.nd.pol.mn,.int .i64 y.nd.pol.mx,.int .i64 y.nd.pol.tg,.int .i64 y.nd.pol.tol,.int .i64 y.nd.pol.win,.int .i64 y.nd.pol.hold,.bool y.nd.ruled] 50 (0,0)) by rw [hW8];exact setCell_block HX7.out);have HB8:=jH (show jB w W8 by rw [hW8];exact Below.setCell HB7.out (by have:=HB2.out.size;exact this) _)
   have hr8:RowG (fun b=>W1.heap.size≤b) 5 advC W8 (.slice A4 m.length c4) m:=HRW.out.keepG (by rw [hW8];exact Nat.le_trans HB67.out.size (Nat.le_of_eq (by simp [World.setCell]))) (fun b hb hlt=>⟨by rw [hW8];exact (heap_set_ne rfl hb.2).trans (HB67.out.block b hlt),hb.1⟩);have hs8:OwnL smpC 118 2 W1.heap.size W8 (.slice y.sA y.nd.smp.length y.sc) y.nd.smp:=HSM7.out.kept (fun r hr=>by rw [hW8];exact heap_set_ne rfl (by have:=(HY3.out.1.lt hr).2;omega))
   have hm8:m=pushL x0.nd.past rh av:=by
    have h1:=HL5.out;have h2:=HOL.out;have h3:=HPL.out;rw [HM.out,HE5.out,HY1.out];rw [HY1.out] at h1;unfold pushL;rw [if_neg (by omega)]
    cases hx:x0.nd.past with
    | nil=>rw [hx] at h1;simp at h1;omega
    | cons a l=>simp
   obtain ⟨x,hx1,hx2,hx3⟩:=HEND.out W8 m A4 c4 hm8 HB8.out hr8 (RowG.own eSmp hs8);obtain ⟨o9,hs9,hm9⟩:=fl_store (HMP.out W8.drew HB8.out.drew) s x;clear hW8 b1 b2 b3 hr8 hs8 hm8;have hs9':(Instr.mapUpdate 94 (.map (some d.L)) (.string s.1) (.agg #[.slice y.sA y.nd.smp.length y.sc,.slice A4 m.length c4,.int .i64 y.nd.pol.mn,.int .i64 y.nd.pol.mx,.int .i64 y.nd.pol.tg,.int .i64 y.nd.pol.tol,.int .i64 y.nd.pol.win,.int .i64 y.nd.pol.hold,.bool y.nd.ruled])).run Tryz.prog W8.drew=.ok () (setBlock W8.drew d.L o9):=by
    unfold ldV at hs9;rw [hx3] at hs9;exact hs9
   obtain ⟨d9,hd1,hd2,hd3⟩:=HFIN.out x W8.drew o9 hx1 HB8.out.drew hm9 (hx2.below jR.drew);have HD1:=jH hd1;have HD2:=jH hd2;have HD3:=jH hd3;clear hs9 hx1 hx2 hx3 hm9 hd1 hd2 hd3;obtain ⟨b1,b2,b3⟩:=box_cells jR HX8.out;obtain ⟨m1,m2,m3⟩:=box_cells HB8.out HC.out
   go_region
   go_wp2_with fail
   go_ret
   unfold FWSays;exact ⟨d9,rfl,HD1.out,HD2.out,HD3.out⟩
 · go_region
   refine then_named ?_;intro W7 hW7;have HB7:=jH (show jB w W7 by rw [hW7];exact HB6.out.drew);have hb67:jB W6 W7:=by rw [hW7];exact jR.drew
   have HX7:=jH (jK hb67 HX6.out);have HSM7:=jH (HSM6.out.below hb67);have HO7:=jH (HO6.out.below hb67);have HB67:=jH hb67;have HN6:=jH (show ∀r,(Value.slice A5 out.length c5).ownBlock=some r→r≠w2.heap.size from HN5.out);clear hb67 hW7 b1 b2 b3 m1 m2 m3;obtain ⟨b1,b2,b3⟩:=box_cells jR HX7.out
   go_upto_region 7 with fail
   refine name_world ?_;intro W8 hW8;subst hW8;have HX8:=HX7;have HB8:=HB7;have hm8:out=pushL x0.nd.past rh av:=by
    have h1:=HL5.out;have h2:=HOL.out;have h3:=HPL.out;rw [HY1.out] at h1;rw [HE5.out,HY1.out];unfold pushL;rw [if_pos (by omega)]
   obtain ⟨x,hx1,hx2,hx3⟩:=HEND.out W8 out A5 c5 hm8 HB8.out (RowG.own eAdv HO7.out) (RowG.own eSmp HSM7.out);rw [HOL.out.symm] at hx3;obtain ⟨o9,hs9,hm9⟩:=fl_store (HMP.out W8.drew HB8.out.drew) s x;clear b1 b2 b3 hm8;have hs9':(Instr.mapUpdate 94 (.map (some d.L)) (.string s.1) (.agg #[.slice y.sA y.nd.smp.length y.sc,.slice A5 ol c5,.int .i64 y.nd.pol.mn,.int .i64 y.nd.pol.mx,.int .i64 y.nd.pol.tg,.int .i64 y.nd.pol.tol,.int .i64 y.nd.pol.win,.int .i64 y.nd.pol.hold,.bool y.nd.ruled])).run Tryz.prog W8.drew=.ok () (setBlock W8.drew d.L o9):=by
    unfold ldV at hs9;rw [hx3] at hs9;exact hs9
   obtain ⟨d9,hd1,hd2,hd3⟩:=HFIN.out x W8.drew o9 hx1 HB8.out.drew hm9 (hx2.below jR.drew);have HD1:=jH hd1;have HD2:=jH hd2;have HD3:=jH hd3;clear hs9 hx1 hx2 hx3 hm9 hd1 hd2 hd3;obtain ⟨b1,b2,b3⟩:=box_cells jR HX8.out;obtain ⟨m1,m2,m3⟩:=box_cells HB8.out HC.out
   go_region
   go_wp2_with fail
   go_ret
   unfold FWSays;exact ⟨d9,rfl,HD1.out,HD2.out,HD3.out⟩
end
section
open Go.RowKit Go.Lib
theorem sum_addN {α:Type} (l:List α) (f g:α→Nat):(l.map fun i=>f i+g i).sum=(l.map f).sum+(l.map g).sum:=by
 induction l with
 | nil=>rfl
 | cons a l ih=>simp only [List.map_cons,List.sum_cons,ih];omega
theorem sum_zeroN {α:Type} (l:List α):(l.map fun _=>0).sum=0:=by
 induction l with
 | nil=>rfl
 | cons a l ih=>simp only [List.map_cons,List.sum_cons,ih]
theorem ind_sum (j:Nat):∀N,((List.range N).map fun i=>if j=i then 1 else 0).sum=if j<N then 1 else 0
  | 0=>rfl
  | N+1=>by
    rw [List.range_succ,List.map_append,List.sum_append,ind_sum j N];simp only [List.map_cons,List.map_nil,List.sum_cons,List.sum_nil,Nat.add_zero]
    by_cases h1:j<N
    · rw [if_pos h1,if_neg (by omega),if_pos (by omega)]
    · by_cases h2:j=N
      · rw [if_neg h1,if_pos h2,if_pos (by omega)]
      · rw [if_neg h1,if_neg h2,if_neg (by omega)]
theorem count_sum {α:Type} (f:α→Int) (N:Nat):∀ks:List α,(∀k∈ks,0≤f k∧f k<(N:Int))→((List.range N).map fun i:Nat=>ks.countP fun k=>decide (f k=(i:Int))).sum=ks.length
  | [],_=>by simp only [List.countP_nil,List.length_nil];exact sum_zeroN _
  | a::ks,h=>by
    have ih:=count_sum f N ks (fun k hk=>h k (List.mem_cons_of_mem _ hk));have ha:=h a (List.mem_cons_self ..);have e:(fun i:Nat=>(a::ks).countP fun k=>decide (f k=(i:Int)))=fun i:Nat=>(ks.countP fun k=>decide (f k=(i:Int)))+if (f a).toNat=i then 1 else 0:=by
     funext i
     rw [List.countP_cons]
     congr 1
     by_cases h1:f a=(i:Int)
     · rw [if_pos (by simpa using h1),if_pos (by omega)]
     · rw [if_neg (by simpa using h1),if_neg (by omega)]
    rw [e,sum_addN,ih,ind_sum,if_pos (by omega),List.length_cons]
theorem FlTells.len {c:Cfg} {es:List (SK × It)} {wd:Wd} (h:FlTells c es wd) (hst:okSt c.st=true):es.length=(allW wd).length:=by
 have h1:=count_sum (fun s:SK=>routeI (keyK s.1).1 (keyK s.1).2 c.st) wd.st.length (es.map (·.1)) (fun k _=>by
  have:=route_lt (hi:=(keyK k.1).1) (lo:=(keyK k.1).2) hst;have h2:=h.lst;omega)
 rw [List.length_map] at h1;rw [←h1];unfold allW;rw [List.length_flatten]
 congr 1
 apply List.ext_getElem?
 intro i;rw [List.getElem?_map,List.getElem?_map]
 by_cases hi:i<wd.st.length
 · rw [List.getElem?_eq_getElem (l:=wd.st) hi,List.getElem?_range hi]
   have:=h.cnt i _ (List.getElem?_eq_getElem hi);simp only [Option.map_some]
   rw [this]
 · rw [List.getElem?_eq_none (l:=wd.st) (by omega),List.getElem?_eq_none (by simp;omega)]
   rfl
section
variable {P:Program} {ops:Array Oper} {rest:List Oper} {o:Oper} {a:Act} {w:World} {Q:Exit→Act→World→Prop}
variable {α β:Type} [DecidableEq α] {K:α→Value} {V:β→Value} {b r:Nat} {es pre:List (α × β)} {cnt:Nat}
theorem wpList_rangeM (hg:o.guard=none) (m:Operand) (t:TypeId) (hop:o.op=Op.range t m) (k e:TypeId) (ht:P.underlying t=some (.map k e)) (hm:a.eval m=.map (some b)) (hown:MapIn K V w b es)
    (hK:∀w',RangeIn K V w' b w.heap.size es [] es.length→w.grownBy w' none→w'.heap.size=w.heap.size+1→wpList P ops Q rest (a.put o.dst (.pointer (some ⟨w.heap.size,0,none⟩))) w') :
    wpList P ops Q (o::rest) a w:=by
  refine wpList_plain hg fun K' hK'=>?_
  obtain ⟨w',hrun,r1,r2,r3⟩:=MapIn.range hown ht;unfold Oper.wp;simp [execOp,hop,hm,hrun,Result.andThen]
  exact hK' _ _ (hK w' r1 r2 r3)
theorem wpList_nextM (hg:o.guard=none) (it:Operand) (hop:o.op=Op.next it false) (inj:∀x y,K x=K y→x=y) (hit:a.eval it=.pointer (some ⟨r,0,none⟩)) (h:RangeIn K V w b r es pre cnt)
    (hDone:cnt=0→(pre.map (·.1)).Perm (es.map (·.1))→wpList P ops Q rest (a.put o.dst (.tuple #[.bool false])) w)
    (hMore:∀(p:α × β) (w':World) (cnt':Nat),p∈es→p.1∉pre.map (·.1)→RangeIn K V w' b r es (pre++[p]) cnt'→cnt'<cnt→w.grownBy w' (some r)→w'.heap.size=w.heap.size →
      (Instr.entry (.pointer (some ⟨r,0,none⟩))).run P w'=.ok (.tuple #[K p.1,V p.2]) w'→wpList P ops Q rest (a.put o.dst (.tuple #[.bool true,K p.1,V p.2])) w') :
    wpList P ops Q (o::rest) a w:=by
  refine wpList_plain hg fun K' hK'=>?_
  unfold Oper.wp
  rcases h.next (P:=P) inj o.type with ⟨h0,hl,hrun⟩|⟨p,w',cnt',h1,h2,hrun,hrg,hlt,hgr,hsz,hen⟩
  · simp [execOp,hop,hit,hrun,Result.andThen]
    exact hK' _ _ (hDone h0 hl)
  · simp [execOp,hop,hit,hrun,Result.andThen]
    exact hK' _ _ (hMore p w' cnt' h1 h2 hrg hlt hgr hsz hen)
end
theorem flFull_any {P:Nat→Prop} {w:World} {M:Nat} {c:Cfg} {rs rh n:Nat} {wd:Wd} {d:FlatD} (s:SK) (h:FlatAt P w M c rs rh n wd d) (hst:okSt c.st=true) (hlen:d.es.length≤1000000) :
 Calls Tryz.prog 114 #[.pointer (some ⟨M,0,none⟩),.string s.1] w (jP w (.bool (fullF c d.es s))):=by
 have hlk:=fun (W:World) (hW:jB w W)=>fl_look h.map s true (hW.block d.L h.map.lt)
 have CH:=jH (fun (W:World) (hW:jB w W) (t:SK)=>show Calls Tryz.prog 163 #[.pointer (some ⟨M,0,none⟩),.string t.1] W (jP W (.int .i64 (routeI (keyK t.1).1 (keyK t.1).2 c.st))) from
  flHome_any M c t.1 W ((hW.block M h.lt).trans h.cell) rfl hst t.2)
 have HC:=jH h.cell;have HM:=jH (fun (W:World) (hW:jB w W)=>h.map.below hW);have HL:=jH hlen;have rm0:∀U,jB w U→U.cell? ⟨M,4,none⟩=some (.map (some d.L)):=fun U hU=>(box_cells hU HC.out).1 4
 have rm1:∀U,jB w U→U.cell? ⟨M,2,none⟩=some (.int .i64 c.lo):=fun U hU=>(box_cells hU HC.out).1 2
 have HR0:=jH rm0;have HR1:=jH rm1;obtain ⟨x,hx⟩:∃x,x=(findM d.es s).getD it00:=⟨_,rfl⟩;rw [←hx] at hlk;unfold ldV ldC at hlk;simp only [↓reduceIte] at hlk
 unfold fullF;obtain ⟨q,hq⟩:∃q:SK→Bool,q=fun t=>decide (routeI (keyK t.1).1 (keyK t.1).2 c.st=routeI (keyK s.1).1 (keyK s.1).2 c.st):=⟨_,rfl⟩
 rw [←hq];have HQ:=jH hq;clear hq;have HLK:=jH hlk;clear h hst hlen hlk hx rm0 rm1
 cases hh:hasM d.es s
 · rw [hh] at HLK
   clear hh;simp only [Bool.not_false,Bool.true_and]
   have q0:=HLK.out w jR;have q1:=HR0.out w jR
   go_enter Tryz.func114,Tryz.ntmps114
   go_upto_region 5 with fail
   refine name_world ?_;intro W hW;have HB:=jH (show jB w W by rw [hW];exact balloc jR _);clear hW q0 q1;have q1:=HR0.out W HB.out;have hmp:=HM.out W HB.out
   go_wp2_with (first
    | (at_range;refine wpList_rangeM rfl _ 94 rfl 9 50 Tryz.underlying94 rfl hmp ?_;intro w0 hrg0 hg0 hs0)
    | go_in)
   clear q1 hmp
   go_frame
   go_loopw [7,8] (fun s7 _ wr=>∃(cnt:Nat) (pre:List (SK × It)),RangeIn skV ldV wr d.L W.heap.size d.es pre cnt∧pre.length+cnt≤d.es.length∧∃m:Nat,s7=.int .i64 (m:Nat)∧Hid (m=(pre.map (·.1)).countP q)∧jB w wr)
     (fun _ _ wr=>wr.rangeLeft d.L W.heap.size)
   case atStart =>
    exact ⟨_,[],hrg0,by simp,0,rfl,jH rfl,bthen HB.out (grown_below hg0 (Nat.le_refl _) (fun r e=>by cases e))⟩
   case round =>
    obtain ⟨cnt,pre,hrg,hcs,m,rfl,HMC,hbr⟩:=hrel;have HBR:=jH hbr;clear hbr
    go_upto_region 9 with (first
     | (at_next;refine wpList_nextM rfl _ rfl keysSk.inj rfl hrg ?_ (fun p w2 cnt2 hx hnew hrg2 hlt hg2 hs2 hen=>?_)
        rotate_left
        obtain ⟨t,y⟩:=p;have HRG2:=jH hrg2;have HB2:=jH (HBR.out.trans (grown_below hg2 (by have:=HBR.out.size;have:=HB.out.size;omega) (fun r e=>by cases e;exact HB.out.size)));have HME:=jH (show w2.rangeLeft d.L W.heap.size<wr.rangeLeft d.L W.heap.size by rw [hrg2.left_eq,hrg.left_eq];exact hlt);have HCS:=jH (show (pre++[(t,y)]).length+cnt2≤d.es.length by have:=hcs;have:=hlt;rw [List.length_append,List.length_singleton];omega)
        have HCL:=jH (show m≤d.es.length by rw [HMC.out];exact Nat.le_trans List.countP_le_length (by rw [List.length_map];omega));have HCQ:=jH (show ((pre++[(t,y)]).map (·.1)).countP q=m+(if q t=true then 1 else 0) by
         rw [List.map_append,List.countP_append,List.map_cons,List.map_nil,List.countP_singleton,HMC.out])
        simp only [skV] at hen
        unfold ldV ldC at hen;clear hrg2 hg2 hlt hx hnew
        rotate_left)
     | (go_at_call 163
        first
         | (refine (CH.out w3 HB3.out s).mono ?_
            rintro e w4 ⟨rfl,hb4⟩;have HB4:=jH (bthen HB3.out hb4);have HK4:=jH (bthen HK3.out hb4);clear hb4)
         | (refine (CH.out w2 HB2.out t).mono ?_
            rintro e w3 ⟨rfl,hb3⟩;have HB3:=jH (bthen HB2.out hb3);have HK3:=jH hb3;clear hb3 hen))
     | go_in)
    · intro hc0 hp
      have e9:m=(d.es.map (·.1)).countP q:=HMC.out.trans (hp.countP_eq q);have q2:=HR1.out wr HBR.out;have HE9:=jH e9;clear hp e9 hrg hrg0 hg0;go_wp2
      go_ret
      exact ⟨by rw [HE9.out];rfl,HBR.out⟩
    · rename_i heq
      have hq1:q t=true:=by rw [HQ.out];exact decide_eq_true (by simpa using heq)
      have hw:wrap64 ((m:Int)+1)=((m+1:Nat):Int):=by have:=HCL.out;have:=HL.out;unfold wrap64;omega
      have hrg4:=HRG2.out.kept (HK4.out.block _ (MapIn.lt HRG2.out.map_)) (HK4.out.block _ HRG2.out.lt);have hcq:=HCQ.out;rw [if_pos hq1] at hcq;have HRG4:=jH hrg4;have HCQ4:=jH hcq;have HWR:=jH hw;clear hrg hrg4 hcq heq hq1 hrg0 hg0 hw;go_wp2
      exact ⟨⟨cnt2,pre++[(t,y)],HRG4.out,HCS.out,m+1,by rw [HWR.out],jH HCQ4.out.symm,HB4.out⟩,by rw [HRG4.out.left_eq,←HRG2.out.left_eq];exact HME.out⟩
    · rename_i heq
      have hq1:¬q t=true:=by rw [HQ.out];simpa using heq
      have hrg4:=HRG2.out.kept (HK4.out.block _ (MapIn.lt HRG2.out.map_)) (HK4.out.block _ HRG2.out.lt);have hcq:=HCQ.out;rw [if_neg hq1] at hcq;exact ⟨⟨cnt2,pre++[(t,y)],hrg4,HCS.out,m,rfl,jH hcq.symm,HB4.out⟩,by rw [hrg4.left_eq,←HRG2.out.left_eq];exact HME.out⟩
 · rw [hh] at HLK
   clear hh;simp only [Bool.not_true,Bool.false_and]
   have q0:=HLK.out w jR;have q1:=HR0.out w jR
   go_enter Tryz.func114,Tryz.ntmps114
   go_wp2_with fail
   go_ret
   exact ⟨rfl,balloc jR _⟩
end
end Go.Proofs.YtkcdhaallnhhmaaGreat
