/- Part 20 of the proof: SSame, StoQ, FlA, StoB, StoH, FlF, W21M, W21A, W21B, Unlike. -/
import Derived.Test.YtpmfcpdelkchaaaGreatL19
namespace Go.Proofs.YtpmfcpdelkchaaaGreat
set_option linter.unusedSimpArgs false
set_option linter.unusedVariables false
set_option linter.unusedSectionVars false
set_option maxRecDepth 100000
set_option maxHeartbeats 16000000
section
open Go.RowKit Go.Lib
theorem r8same_any (v u:Value) (l:List Smp) (w:World) (hv:RowIn 2 smpC w v l) (hu:RowIn 2 smpC w u l) (hl:l.length≤1000000) :
 Calls Tryz.prog 25 #[v,u] w (jP w (.bool true)):=by
 obtain ⟨A,c,rfl⟩:=hv.form;obtain ⟨B,d,rfl⟩:=hu.form;have HV:=jH hv;have HU:=jH hu;clear hv hu
 go_enter Tryz.func25,Tryz.ntmps25
 go_wp2
 go_loopg [5] l.length (fun g s5 wr=>∃k n:Nat,k≤l.length∧l.length - k≤g∧s5=.int .i64 k∧wr=w.drewN n)
 case atStart=>exact ⟨0,0,Nat.zero_le _,Nat.le_refl _,rfl,rfl⟩
 case round =>
  obtain ⟨k,n,hk,hg,rfl,rfl⟩:=hrel
  by_cases hlt:k<l.length
  · obtain ⟨b1,o1,rfl,hb1,h1⟩:=HV.out.at_ hlt
    obtain ⟨b2,o2,rfl,hb2,h2⟩:=HU.out.at_ hlt;have c1:=h1 0 _ rfl;have c2:=h1 1 _ rfl;have c3:=h2 0 _ rfl;have c4:=h2 1 _ rfl;rw [Nat.add_zero] at c1 c3;clear h1 h2;generalize l[k]=x at c1 c2 c3 c4;obtain ⟨x1,x2⟩:=x;go_wp2_with fail
    go_quiet (fail)
    go_wp2
    go_roundg (l.length - (k+1))
    case measure=>omega
    case rel=>exact ⟨k+1,_,hlt,Nat.le_refl _,by go_num,rfl⟩
  · obtain rfl:k=l.length:=by omega
    go_wp2
    go_ret
    exact ⟨rfl,below_drewN jR _⟩
theorem r14same_any (v u:Value) (l:List Adv) (w:World) (hv:RowIn 5 advC w v l) (hu:RowIn 5 advC w u l) (hl:l.length≤1000000) :
 Calls Tryz.prog 78 #[v,u] w (jP w (.bool true)):=by
 obtain ⟨A,c,rfl⟩:=hv.form;obtain ⟨B,d,rfl⟩:=hu.form;have HV:=jH hv;have HU:=jH hu;clear hv hu
 go_enter Tryz.func78,Tryz.ntmps78
 go_wp2
 go_loopg [5] l.length (fun g s5 wr=>∃k n:Nat,k≤l.length∧l.length - k≤g∧s5=.int .i64 k∧wr=w.drewN n)
 case atStart=>exact ⟨0,0,Nat.zero_le _,Nat.le_refl _,rfl,rfl⟩
 case round =>
  obtain ⟨k,n,hk,hg,rfl,rfl⟩:=hrel
  by_cases hlt:k<l.length
  · obtain ⟨b1,o1,rfl,hb1,h1⟩:=HV.out.at_ hlt
    obtain ⟨b2,o2,rfl,hb2,h2⟩:=HU.out.at_ hlt;have c1:=h1 0 _ rfl;have c2:=h1 1 _ rfl;have c3:=h1 2 _ rfl;have c4:=h1 3 _ rfl;have c5:=h1 4 _ rfl;have d1:=h2 0 _ rfl;have d2:=h2 1 _ rfl;have d3:=h2 2 _ rfl;have d4:=h2 3 _ rfl;have d5:=h2 4 _ rfl;rw [Nat.add_zero] at c1 d1;clear h1 h2;generalize l[k]=x at c1 c2 c3 c4 c5 d1 d2 d3 d4 d5;obtain ⟨x1,x2,x3,x4,x5⟩:=x;go_wp2_with fail
    go_quiet (fail)
    go_wp2
    go_roundg (l.length - (k+1))
    case measure=>omega
    case rel=>exact ⟨k+1,_,hlt,Nat.le_refl _,by go_num,rfl⟩
  · obtain rfl:k=l.length:=by omega
    go_wp2
    go_ret
    exact ⟨rfl,below_drewN jR _⟩
end
section
open Go.RowKit Go.Lib Go.Sort
theorem findIt_mem {l:List Itm} {k:Ky} {y:Nd} (h:findIt l k=some y):(k,y)∈l:=by
 unfold findIt at h;obtain ⟨q,hq,rfl⟩:=Option.map_eq_some_iff.1 h;have h1:=List.find?_some hq;simp at h1
 rw [←h1];exact List.mem_of_find?_eq_some hq
theorem findIt_none {l:List Itm} {k:Ky} (h:∀p∈l,p.1≠k):findIt l k=none:=by
 unfold findIt;rw [List.find?_eq_none.2 (fun p hp=>by simpa using h p hp)];rfl
theorem findIt_append (a b:List Itm) (k:Ky):findIt (a++b) k=(findIt a k).or (findIt b k):=by
 unfold findIt;rw [List.find?_append]
 cases List.find? (fun p=>decide (p.1=k)) a <;> rfl
theorem findIt_sorted {R:List Itm} (hs:(R.map (·.1)).Pairwise (fun a b=>ltK a b=true)) {k:Ky} {y:Nd} (h:(k,y)∈R):findIt R k=some y:=by
 unfold findIt
 cases hf:R.find? (fun p=>decide (p.1=k)) with
 | none=>exact absurd (List.find?_eq_none.1 hf (k,y) h) (by simp)
 | some q =>
   have h1:=List.find?_some hf;simp at h1
   have h2:=List.mem_of_find?_eq_some hf;obtain ⟨a,b⟩:=q;obtain rfl:a=k:=h1;rw [sorted_at_unique hs h2 h];rfl
theorem flat_none {ll:List (List Itm)} {k:Ky} (h:∀l∈ll,findIt l k=none):findIt ll.flatten k=none:=by
 induction ll with
 | nil=>rfl
 | cons l ll ih =>
   rw [List.flatten_cons,findIt_append,h l (by simp),Option.none_or];exact ih (fun m hm=>h m (by simp [hm]))
theorem flat_at {ll:List (List Itm)} {k:Ky} {i:Nat} {R:List Itm} (hi:ll[i]?=some R) (h:∀j l,ll[j]?=some l→j≠i→findIt l k=none):findIt ll.flatten k=findIt R k:=by
 induction ll generalizing i with
 | nil=>simp at hi
 | cons l ll ih =>
   rw [List.flatten_cons,findIt_append]
   cases i with
   | zero =>
     simp at hi
     subst hi;rw [flat_none (fun m hm=>by
      obtain ⟨j,hj⟩:=List.getElem?_of_mem hm;exact h (j+1) m (by simpa using hj) (by omega))]
     exact Option.or_none
   | succ i =>
     rw [h 0 l (by simp) (by omega),Option.none_or];exact ih (by simpa using hi) (fun j m hm hj=>h (j+1) m (by simpa using hm) (by omega))
theorem load_home {c:Cfg} {wd:Wd} (h:HomeOk c wd) {k:Ky} {i:Nat} {R:List Itm} (hi:wd.st[i]?=some R) (hk:routeI k.1 k.2 c.st=(i:Int)):findIt (allW wd) k=findIt R k :=
 flat_at hi (fun j l hl hj=>findIt_none (fun p hp e=>hj (by
  have:=h j l hl p hp;rw [e,hk] at this;omega)))
theorem HomeOk.set {c:Cfg} {wd:Wd} (h:HomeOk c wd) {i:Nat} {R:List Itm} (hR:∀p∈R,routeI p.1.1 p.1.2 c.st=(i:Int)):HomeOk c { wd with st:=wd.st.set i R }:=by
 intro j Q hQ p hp;have hQ:(wd.st.set i R)[j]?=some Q:=hQ;rw [List.getElem?_set] at hQ
 split at hQ
 · rename_i e
   split at hQ
   · injection hQ with hQ
     subst hQ;rw [←e];exact hR p hp
   · cases hQ
 · exact h j Q hQ p hp
theorem atW_lt {c:Cfg} {wd:Wd} {id:ByteArray} (hst:okSt c.st=true) (hl:(wd.st.length:Int)=c.st):atW c id<wd.st.length∧routeI (keyK id).1 (keyK id).2 c.st=(atW c id:Int):=by
 obtain ⟨h0,h1⟩:=route_lt (hi:=(keyK id).1) (lo:=(keyK id).2) hst;unfold atW;omega
theorem homeOk_trim {c:Cfg} {wd:Wd} {cut:Int} (h:HomeOk c wd):HomeOk c (trimW wd cut):=by
 intro i R hR p hp;have hR:(wd.st.map fun l=>l.map fun p=>(p.1,trimR cut p.2))[i]?=some R:=hR;rw [List.getElem?_map] at hR;obtain ⟨Q,hQ,rfl⟩:=Option.map_eq_some_iff.1 hR;obtain ⟨q,hq,rfl⟩:=List.mem_map.1 hp;exact h i Q hQ q hq
theorem homeOk_new (c:Cfg) (n:Nat):HomeOk c (newW n):=by
 intro i R hR p hp;have:=List.mem_of_getElem? hR;rw [List.eq_of_mem_replicate this] at hp
 cases hp
theorem tot_new (n:Nat):(allW (newW n)).length=0:=by simp [allW,newW]
end
section
open Go.RowKit Go.Lib
theorem flNew_bad (c:Cfg) (w:World) (hc:c.ok) (hb:cfgE c≠0) :
 Calls Tryz.prog 14 #[cfgV c] w (jP w (.pointer none)):=by
 have CR:=jH (fun W=>nodeRight_any c W hc);have z0:(cfgE c == 0)=false:=by simpa using hb
 have z1:(cfgE c != 0)=true:=by simpa using hb
 generalize cfgE c=er at *;unfold cfgV at CR ⊢;clear hc hb
 go_enter Tryz.func14,Tryz.ntmps14
 go_wp2_with (first
  | (go_at_call 62
     refine calls_named ?_;intro W1 hW1;have hb1:jB w W1:=by rw [hW1];exact balloc jR _
     clear hW1;refine (CR.out W1).mono ?_;rintro e w2 ⟨rfl,hb2⟩;have HB2:=jH (bthen hb1 hb2);clear hb1 hb2))
 go_ret
 exact ⟨rfl,HB2.out⟩
theorem flTells_new (c:Cfg) (k:Nat) (hk:(k:Int)=c.st):FlTells c [] (newW k):=by
 have hall:allW (newW k)=[]:=by
  have:=tot_new k;exact List.eq_nil_of_length_eq_zero this
 refine ⟨⟨(fun p hp=>by cases hp),fun s _=>?_⟩,fun p hp=>?_,fun i R hR=>?_,fun R hR=>?_,homeOk_new c k,?_,List.nodup_nil⟩
 · show findIt (allW (newW k)) (keyK s.1)=none
   rw [hall];rfl
 · rw [hall] at hp
   cases hp
 · have:=List.eq_of_mem_replicate (List.mem_of_getElem? hR)
   rw [this];rfl
 · rw [List.eq_of_mem_replicate hR]
   exact List.Pairwise.nil
 · rw [←hk]
   simp [newW]
theorem flNew_ok (c:Cfg) (rs rh k:Nat) (w:World) (hc:c.ok) (hb:cfgE c=0) (hk:(k:Int)=c.st) :
 Calls Tryz.prog 14 #[cfgV c] w fun e w'=>∃M d,e=.returned (.pointer (some ⟨M,0,none⟩))∧FlatAt (fun b=>b≠M∧b≠d.L) w' M c rs rh 0 (newW k) d∧w.heap.size≤M∧w.heap.size≤d.L∧jB w w':=by
 have CR:=jH (fun W=>nodeRight_any c W hc);rw [hb] at CR;have hmm:=@run_makeMap Tryz.prog;have HTL:=jH (flTells_new c k hk);unfold cfgV at CR ⊢;clear hc hb hk
 go_enter Tryz.func14,Tryz.ntmps14
 go_wp2_with (first
  | (go_at_call 62
     refine calls_named ?_;intro W1 hW1;have hb1:jB w W1:=by rw [hW1];exact balloc jR _
     have hx1:W1.heap[w.heap.size]?=some (.cells #[.int .i64 c.st,.int .i64 c.sa,.int .i64 c.lo,.int .i64 c.hi] 23 (0,0)):=by rw [hW1];exact heap_alloc_new _ _
     clear hW1;refine (CR.out W1).mono ?_;rintro e w2 ⟨rfl,hb2⟩;have HB2:=jH (bthen hb1 hb2);obtain ⟨a1,a2,a3⟩:=box_cells hb2 hx1;clear hb1 hb2 hx1))
 refine post_named ?_;intro W9 hW9;have hW9':W9=(w2.alloc (.map #[] 0)).alloc (.cells #[.int .i64 c.st,.int .i64 c.sa,.int .i64 c.lo,.int .i64 c.hi,.map (some w2.heap.size),.slice none 0 0,.int .i64 0,.bool false] 120 (0,0)):=hW9;have hd9:jB w2 W9:=by rw [hW9'];exact balloc (balloc jR _) _
 have hm9:MapIn skV ldV W9 w2.heap.size ([]:List (SK × It)):=by
  rw [hW9'];exact (MapIn.made w2).below (balloc jR _)
 have hc9:W9.heap[w2.heap.size+1]?=some (.cells #[.int .i64 c.st,.int .i64 c.sa,.int .i64 c.lo,.int .i64 c.hi,.map (some w2.heap.size),.slice none 0 0,.int .i64 0,.bool false] 120 (0,0)):=by rw [hW9'];exact box_new _ _ _
 clear hW9 hW9';have hs2:=HB2.out.size;have hf9:FlatAt (fun b=>b≠w2.heap.size+1∧b≠w2.heap.size) W9 (w2.heap.size+1) c rs rh 0 (newW k) ⟨w2.heap.size,[],none,0,[]⟩ :=
  ⟨⟨hc9,hm9,by show w2.heap.size+1≠w2.heap.size;omega,fun b hb=>hb,(fun p hp=>by cases hp),rfl,RowG.nil,(fun i x q hx hq=>by cases hx)⟩,HTL.out⟩
 exact bodyPost_ret (v:=.pointer (some ⟨w2.heap.size+1,0,none⟩)) (by simp [results,Tryz.results14,go_sem]) rfl ⟨w2.heap.size+1,⟨w2.heap.size,[],none,0,[]⟩,rfl,hf9,by omega,hs2,bthen HB2.out hd9⟩
theorem flHome_any (M:Nat) (c:Cfg) {cs:Array Value} {T:TypeId} (id:ByteArray) (w:World) (h:w.heap[M]?=some (.cells cs T (0,0))) (h0:cs[0]?=some (.int .i64 c.st)) (hst:okSt c.st=true) (hm:id.size≤maxLen) :
 Calls Tryz.prog 212 #[.pointer (some ⟨M,0,none⟩),.string id] w (jP w (.int .i64 (routeI (keyK id).1 (keyK id).2 c.st))):=by
 have hbd:=okSt_bd _ hst;obtain ⟨pe,hpe⟩:∃pe:Int,packV id=.tuple #[.agg #[.int .u64 (keyK id).1,.int .u64 (keyK id).2],.int .i64 pe]:=by
  unfold packV keyK
  cases idS id with
  | true=>exact ⟨0,rfl⟩
  | false=>exact ⟨2,rfl⟩
 have CP:=jH (fun W=>show Calls Tryz.prog 120 #[.string id] W (jP W (.tuple #[.agg #[.int .u64 (keyK id).1,.int .u64 (keyK id).2],.int .i64 pe])) from hpe ▸ pack_any id W hm);have hk:=keyK_ok id;have CR:=jH (fun W=>routeOf_any (keyK id).1 (keyK id).2 c.st W hk.1 hk.2 (by unfold I64;omega));generalize keyK id=k at *;have HM:=jH h;have rm:∀U,jB w U→U.cell? ⟨M,0,none⟩=some (.int .i64 c.st):=fun U hU=>((box_cells hU h).1 0).trans h0
 have hlt:M<w.heap.size:=(jL h);clear h h0 hpe hk hbd hst hm
 go_enter Tryz.func212,Tryz.ntmps212
 go_upto_region 2 with (first
  | (go_at_call 120
     refine (CP.out w).mono ?_;rintro e w2 ⟨rfl,hb2⟩;have HB2:=jH hb2;clear hb2))
 refine name_world ?_;intro W hW;have hdW:jB w2 W:=by rw [hW];exact balloc jR _
 have hk9:W.heap[w2.heap.size]?=some (.cells #[.int .u64 k.1,.int .u64 k.2] 95 (0,0)):=by rw [hW];exact heap_alloc_new _ _
 have HB:=jH (bthen HB2.out hdW);have HK:=jH hk9;clear hW hdW hk9;have rk:∀U,jB W U→∀j,U.cell? ⟨w2.heap.size,j,none⟩=(#[.int .u64 k.1,.int .u64 k.2]:Array Value)[j]?:=fun U hU j=>(box_cells hU HK.out).1 j
 have rn:∀U,jB W U→U.cell? ⟨M,0,none⟩=some (.int .i64 c.st):=fun U hU=>rm U (bthen HB.out hU)
 clear rm;have hS00:jB W W:=jR;have hS0:jB W W.drew:=hS00.drew
 go_region_held3 (fun U=>jB W U)
   (first
     | with_reducible exact hS0
     | with_reducible exact hS00
     | with_reducible exact HB5.out)
   (first
     | (go_at_call 250
        refine calls_named ?_;intro V hV;have hd:jB W V:=by rw [hV];first|assumption|exact jR|exact jR.drew
        clear hV;refine (CR.out V).mono ?_;rintro e w5 ⟨rfl,hb5⟩;have HB5:=jH (bthen hd hb5);clear hb5 hd))
 all_goals go_wp2
 all_goals go_ret
 all_goals exact ⟨rfl,bthen HB.out HB5.out⟩
end
section
open Go.RowKit Go.Lib Go.Sort
open Go.ChangeMaps (setBlock)
section
variable {B:Nat→Prop} {S:Nat} {c:Cfg} {rs rh n:Nat} {wd:Wd} {d:StoD}
theorem findT_out {t:List Int} {k:Int} (h:k<1∨(t.length:Nat)<k):findT t k=5:=by
 unfold findT;rw [if_pos h]
end
end
section
open Go.RowKit Go.Lib Go.Sort
section
variable {B:Nat→Prop} {S:Nat} {c:Cfg} {rs rh n:Nat} {wd:Wd} {d:StoD}
theorem getLast_nth {α:Type} {l:List α} (h:0<l.length):l.getLast?=some (l[l.length - 1]'(by omega)):=by
 rw [List.getLast?_eq_getElem?,List.getElem?_eq_getElem (by omega)]
end
end
section
open Go.RowKit Go.Lib
theorem flFind_any {P:Nat→Prop} {M:Nat} {c:Cfg} {rs rh n:Nat} {wd:Wd} {d:FlatD} (k:Int) (w:World) (h:FlatAt P w M c rs rh n wd d) (hl:wd.cuts.length≤900000) (hep:∀q∈wd.cuts,0≤q.ep) :
 Calls Tryz.prog 165 #[.pointer (some ⟨M,0,none⟩),.int .i64 k] w fun e w'=>e=.returned (.int .i64 (findT (tabW wd) k))∧w'=w:=by
 obtain ⟨a1,a2,a3⟩:=box_cells jR h.cell;have htl:(tabW wd).length=d.cuts.length:=by rw [h.len];simp [tabW]
 by_cases hk:k<1∨((tabW wd).length:Nat)<k
 · rw [findT_out hk]
   rw [htl] at hk;clear h hl hep htl
   by_cases h1:k<1
   · go_enter Tryz.func165,Tryz.ntmps165
     go_wp2_with fail
     go_ret
     exact ⟨rfl,rfl⟩
   · have h2:(d.cuts.length:Int)<k:=by omega
     clear hk
     go_enter Tryz.func165,Tryz.ntmps165
     go_wp2_with fail
     go_ret
     exact ⟨rfl,rfl⟩
 · obtain ⟨j,hj,rfl⟩:∃j:Nat,j<d.cuts.length∧k=((j+1:Nat):Int):=⟨k.toNat - 1,by omega,by omega⟩
   have hjw:j<wd.cuts.length:=by rw [←h.len];exact hj
   obtain ⟨b,o,hA,hb,hc⟩:=h.row.1.at_ hj;have c2:=hc 2 _ rfl;have hct:=(h.cut j _ _ (List.getElem?_eq_getElem hj) (List.getElem?_eq_getElem hjw)).1;have hr:findT (tabW wd) ((j+1:Nat):Int)=if d.cuts[j].fr=true then 8 else 0:=by
    unfold findT;rw [if_neg (by rw [htl];omega),show ((j+1:Nat):Int).toNat - 1=j by omega];have:(tabW wd)[j]?=some (if wd.cuts[j].freed=true then -1 else wd.cuts[j].ep):=by
     unfold tabW;rw [List.getElem?_map,List.getElem?_eq_getElem hjw];rfl
    rw [this,hct];have:=hep _ (List.getElem_mem hjw)
    cases wd.cuts[j].freed with
    | true=>rfl
    | false =>
      show (if wd.cuts[j].ep<0 then (8:Int) else 0)=_
      rw [if_neg (by omega)];rfl
   rw [hr];generalize d.cuts[j].fr=fr at c2;rw [hA] at a1;have hjm:j≤900000:=by omega
   obtain ⟨cl,hcl⟩:∃n,n=d.cuts.length:=⟨_,rfl⟩;rw [←hcl] at a1;have z1:¬((j:Int)+1)<1:=by omega
   have z2:¬(cl:Int)<((j:Int)+1):=by omega
   have z3:(0:Int)≤(j:Int):=by omega
   have z4:(j:Int)<(cl:Int):=by omega
   have z5:((j:Int)+1) - 1=(j:Int):=by omega
   clear h hl hep htl hk hc hct hr hA hcl hj hjw
   cases fr
   all_goals
     go_enter Tryz.func165,Tryz.ntmps165
     go_wp2_with fail
     go_ret
     exact ⟨rfl,rfl⟩
end
section
open Go.RowKit Go.Lib
structure SrH where
 A:Option Addr
 c:Nat
 l:List It
def SrH.v (s:SrH):Value:=.slice s.A s.l.length s.c
def srC (s:SrH):List Value:=[.slice s.A s.l.length s.c]
theorem eSr:EltOf 29 203 1 24 (.slice none 0 0) srC :=
 ⟨by kernel_rfl,by kernel_rfl,rfl,by decide,by decide,fun _=>rfl,fun x u hu=>by
  simp only [srC,List.mem_cons,List.not_mem_nil,or_false] at hu
  subst hu
  rfl⟩
structure CuH where
 ep:Int
 A:Option Addr
 c:Nat
 l:List It
 fr:Bool
def cuC (s:CuH):List Value:=[.int .i64 s.ep,.slice s.A s.l.length s.c,.bool s.fr]
theorem eCu:EltOf 30 234 3 40 (.agg #[.int .i64 0,.slice none 0 0,.bool false]) cuC :=
 ⟨by kernel_rfl,by kernel_rfl,rfl,by decide,by decide,fun _=>rfl,fun x u hu=>by
  simp only [cuC,List.mem_cons,List.not_mem_nil,or_false] at hu
  rcases hu with rfl|rfl|rfl <;> rfl⟩
structure WdH where
 sA:Option Addr
 sc:Nat
 st:List SrH
 cA:Option Addr
 cc:Nat
 cuts:List CuH
 ep:Int
 over:Bool
def wdC (c:Cfg) (x:WdH):List Value:=[.int .i64 c.st,.int .i64 c.sa,.int .i64 c.lo,.int .i64 c.hi,.slice x.sA x.st.length x.sc,.slice x.cA x.cuts.length x.cc,.int .i64 x.ep,.bool x.over]
structure WdIn (P:Nat→Prop) (w:World) (x:WdH):Prop where
 sr:RowG P 1 srC w (.slice x.sA x.st.length x.sc) x.st
 it:∀s∈x.st,ItemsIn P w (.slice s.A s.l.length s.c) s.l
 cr:RowG P 3 cuC w (.slice x.cA x.cuts.length x.cc) x.cuts
 ct:∀s∈x.cuts,ItemsIn P w (.slice s.A s.l.length s.c) s.l
theorem WdIn.below {P:Nat→Prop} {w w':World} {x:WdH} (h:WdIn P w x) (hb:jB w w'):WdIn P w' x :=
 ⟨h.sr.below hb,fun s hs=>(h.it s hs).below hb,h.cr.below hb,fun s hs=>(h.ct s hs).below hb⟩
theorem WdIn.imp {P Q:Nat→Prop} {w:World} {x:WdH} (h:WdIn P w x) (hi:∀b,P b→Q b):WdIn Q w x :=
 ⟨h.sr.imp hi,fun s hs=>(h.it s hs).imp hi,h.cr.imp hi,fun s hs=>(h.ct s hs).imp hi⟩
def absC (s:CuH):CutD:=⟨s.ep,s.l.map absI,s.fr⟩
def absW (x:WdH):Wd:=⟨x.st.map fun s=>s.l.map absI,x.cuts.map absC,x.ep,x.over⟩
theorem put21_any (v:Value) (l:List SrH) (at_:Nat) (x:SrH) (w:World) (hv:RowIn 1 srC w v l) (hl:l.length≤1000) (ha:at_≤1000000) :
 Calls Tryz.prog 147 #[v,.int .i64 at_,.slice x.A x.l.length x.c] w (RSays 1 srC w (l.set at_ x)):=by
 obtain ⟨A,c,rfl⟩:=hv.form;have HV:=jH hv;have HS:=jH (show ∀k (hk:k<l.length),(l.set at_ x).take (k+1)=(l.set at_ x).take k++[if at_=k then x else l[k]] from fun k hk=>by
  rw [List.take_succ_eq_append_getElem (by simpa using hk),List.getElem_set])
 have HN:=jH (show (l.set at_ x).take l.length=l.set at_ x by rw [List.take_of_length_le (by simp)]);have HL:=jH (show (l.set at_ x).length=l.length by simp);generalize l.set at_ x=m at HS HN HL ⊢;clear hv
 go_enter Tryz.func147,Tryz.ntmps147
 go_wp2
 go_loopg [7,8] l.length (fun g s7 s8 wr=>∃k:Nat,k≤l.length∧l.length - k≤g∧s8=.int .i64 k∧OwnL srC 203 1 w.heap.size wr s7 (m.take k)∧jB w wr)
 case atStart=>exact ⟨0,Nat.zero_le _,Nat.le_refl _,rfl,by rw [List.take_zero];exact OwnL.nil _ _,jR⟩
 case round =>
  obtain ⟨k,hk,hg,rfl,hown,hb⟩:=hrel;obtain ⟨A7,c7,rfl⟩:=hown.form;have HO:=jH hown;clear hown
  by_cases hlt:k<l.length
  · obtain ⟨b,o,rfl,hbw,hc⟩:=HV.out.at_ hlt
    have c1:wr.cell? ⟨b,o+k,none⟩=some (.slice l[k].A l[k].l.length l[k].c):=by
     have:=(hb.cell (p:=⟨b,o+k * 1+0,none⟩) hbw).trans (hc 0 _ rfl)
     simpa using this
    have HT:=jH (HS.out k hlt);clear hc;generalize l[k]=y at c1 HT;have z1:(k:Int)<(l.length:Int):=by omega
    by_cases e:at_=k
    · have HT2:=jH (show m.take (k+1)=m.take k++[x] by rw [HT.out,if_pos e])
      subst e
      go_wp2_with (at_builtin;refine wpList_appendL eSr (by rfl) (by rfl) w.heap.size (m.take at_) [x] _ _ (by rfl) (by rfl) (HO.out.below (balloc jR _)) (RowIn.lit wr x _ _ _ rfl rfl) (by simp;omega) (by have:=hb.size;simp;omega) ?_;intro out2 A2 c2' w2 hout2 hown2 hg2 _
                   have hb2:jB w w2:=(balloc hb _).trans (grown_own hg2 HO.out (by have:=hb.size;simp;omega));have HW2:=jH hown2;have HO2:=jH hout2;clear hown2 hout2 hg2)
      go_roundg (l.length - (at_+1))
      case measure=>omega
      case rel=>exact ⟨at_+1,hlt,Nat.le_refl _,by go_num,by rw [HT2.out,←HO2.out];exact HW2.out,hb2⟩
    · have HT2:=jH (show m.take (k+1)=m.take k++[y] by rw [HT.out,if_neg e])
      have q1:((k:Int) == (at_:Int))=false:=by simp;omega
      have q2:¬k=at_:=fun h=>e h.symm
      have q3:(0:Int)≤(k:Int):=by omega
      clear e
      go_wp2_with (at_builtin;refine wpList_appendL eSr (by rfl) (by rfl) w.heap.size (m.take k) [y] _ _ (by rfl) (by rfl) (HO.out.below (balloc jR _)) (RowIn.lit wr y _ _ _ rfl rfl) (by simp;omega) (by have:=hb.size;simp;omega) ?_;intro out2 A2 c2' w2 hout2 hown2 hg2 _
                   have hb2:jB w w2:=(balloc hb _).trans (grown_own hg2 HO.out (by have:=hb.size;simp;omega));have HW2:=jH hown2;have HO2:=jH hout2;clear hown2 hout2 hg2)
      go_roundg (l.length - (k+1))
      case measure=>omega
      case rel=>exact ⟨k+1,hlt,Nat.le_refl _,by go_num,by rw [HT2.out,←HO2.out];exact HW2.out,hb2⟩
  · obtain rfl:k=l.length:=by omega
    rw [HN.out] at HO;have z1:¬(l.length:Int)<(l.length:Int):=by omega
    have HF:=jH (show RSays 1 srC w m (.returned (.slice A7 m.length c7)) wr from ⟨_,_,rfl,RowG.own eSr HO.out,hb⟩);rw [HL.out] at HF;go_wp2
    go_ret
    first
     | exact HF.out
     | (have h9:=HF.out
        simpa [HN.out,HL.out] using h9)
def allX (x:WdH):List It:=(x.st.map (·.l)).flatten
theorem allX_abs (x:WdH):(allX x).map absI=allW (absW x):=by
 unfold allX allW absW;simp only [List.map_flatten,List.map_map]
 rfl
def AllSays (P:Nat→Prop) (w:World) (l:List It) (e:Ending) (w':World):Prop :=
 ∃A c,e=.returned (.slice A l.length c)∧ItemsIn P w' (.slice A l.length c) l∧jB w w'
end
section
open Go.RowKit Go.Lib
theorem flat_take {α β:Type} (f:α→List β) (l:List α) (k:Nat):((l.take k).map f).flatten.length≤(l.map f).flatten.length:=by
 have h:(l.map f).flatten=((l.take k).map f).flatten++((l.drop k).map f).flatten:=by
  rw [←List.flatten_append,←List.map_append,List.take_append_drop]
 rw [h,List.length_append];omega
theorem all21_any (P:Nat→Prop) (c:Cfg) (x:WdH) (w:World) (hP:∀b,w.heap.size≤b→P b) (hx:WdIn P w x) (hl:x.st.length≤64) (hn:(allX x).length≤1000000) :
 Calls Tryz.prog 131 #[.agg (wdC c x).toArray] w (AllSays P w (allX x)):=by
 obtain ⟨sA,sc,st,cA,cc,cuts,ep,over⟩:=x;unfold allX at hn ⊢;dsimp only at hn hl ⊢;have HV:=jH (show RowIn 1 srC w (.slice sA st.length sc) st from hx.sr.1);have HI:=jH (show ∀s∈st,ItemsIn P w (.slice s.A s.l.length s.c) s.l from hx.it);have HP:=jH hP;have HN:=jH (fun k=>Nat.le_trans (flat_take (·.l) st k) hn);obtain ⟨L,hL⟩:∃L,L=(st.map (·.l)).flatten:=⟨_,rfl⟩;rw [←hL];have HL:=jH hL;clear hL;clear hx hP hn
 unfold wdC;dsimp only
 go_enter Tryz.func131,Tryz.ntmps131
 go_wp2_with fail
 refine name_world ?_;intro W hW;have HX0:=jH (show W.heap[w.heap.size]?=some (.cells #[.int .i64 c.st,.int .i64 c.sa,.int .i64 c.lo,.int .i64 c.hi,.slice sA st.length sc,.slice cA cuts.length cc,.int .i64 ep,.bool over] 32 (0,0)) by rw [hW];exact heap_alloc_new _ _);have HB0:=jH (show jB w W by rw [hW];exact balloc jR _);clear hW;go_wp2
 go_loopg [3,4] st.length (fun g s3 s4 wr=>∃k:Nat,k≤st.length∧st.length - k≤g∧s4=.int .i64 k∧OwnL itC 273 12 W.heap.size wr s3 ((st.take k).map (·.l)).flatten∧jB W wr)
 case atStart=>exact ⟨0,Nat.zero_le _,Nat.le_refl _,rfl,by rw [List.take_zero];exact OwnL.nil _ _,jR⟩
 case round =>
  obtain ⟨k,hk,hg,rfl,hown,hb⟩:=hrel;obtain ⟨A3,c3,rfl⟩:=hown.form;have HO:=jH hown;have HB:=jH hb;obtain ⟨a1,a2,a3,a4⟩:=box_at hb HX0.out;clear hown a4
  by_cases hlt:k<st.length
  · have z1:(k:Int)<(st.length:Int):=by omega
    have z2:(0:Int)≤(k:Int):=by omega
    have hbb:=bthen HB0.out hb;obtain ⟨b,o,rfl,hbw,hc⟩:=HV.out.at_ hlt;have c1:wr.cell? ⟨b,o+k,none⟩=some (.slice st[k].A st[k].l.length st[k].c):=by
     have:=(hbb.cell (p:=⟨b,o+k * 1+0,none⟩) hbw).trans (hc 0 _ rfl)
     simpa using this
    have HT:=jH (show ((st.take (k+1)).map (·.l)).flatten=((st.take k).map (·.l)).flatten++st[k].l by
     rw [List.take_succ_eq_append_getElem hlt,List.map_append,List.flatten_append];simp)
    have HIK:=jH ((HI.out _ (List.getElem_mem hlt)).1.1.below hbb);have HNK:=jH (HN.out (k+1));rw [HT.out,List.length_append] at HNK;clear hc hbb;generalize st[k]=y at c1 HT HIK HNK;generalize ((st.take k).map (·.l)).flatten=pre at HO HT HNK
    go_wp2_with (at_builtin;refine wpList_appendL eIt (by rfl) (by rfl) W.heap.size pre y.l _ _ (by rfl) (by rfl) HO.out HIK.out (by have:=HNK.out;omega) (by have:=HB.out.size;omega) ?_;intro out2 A2 c2' w2 hout2 hown2 hg2 _
                 have hb2:jB W w2:=HB.out.trans (grown_own hg2 HO.out (by have:=HB.out.size;omega));have HW2:=jH hown2;have HO2:=jH hout2;clear hown2 hout2 hg2)
    go_roundg (st.length - (k+1))
    case measure=>omega
    case rel=>exact ⟨k+1,hlt,Nat.le_refl _,by go_num,by rw [HT.out,←HO2.out];exact HW2.out,hb2⟩
  · obtain rfl:k=st.length:=by omega
    have e9:((st.take st.length).map (·.l)).flatten=L:=by rw [List.take_length];exact HL.out.symm
    rw [e9] at HO ⊢;clear e9;have z1:¬(st.length:Int)<(st.length:Int):=by omega
    have HF:=jH (show AllSays P w L (.returned (.slice A3 L.length c3)) wr from
     ⟨A3,c3,rfl,⟨(RowG.own eIt HO.out).imp (fun b hb'=>HP.out b (Nat.le_trans HB0.out.size hb')),fun z hz=>by
      rw [HL.out] at hz;obtain ⟨q,hq,hz2⟩:=List.mem_flatten.1 hz;obtain ⟨s,hs,rfl⟩:=List.mem_map.1 hq;exact ((HI.out s hs).2 z hz2).below (bthen HB0.out HB.out)⟩,bthen HB0.out HB.out⟩)
    go_wp2
    go_ret
    exact HF.out
def findX (l:List It) (k:Ky):Option It:=l.find? fun x=>decide (x.key=k)
theorem findX_append (l m:List It) (k:Ky):findX (l++m) k=(findX l k).or (findX m k):=List.find?_append ..
theorem findX_abs (l:List It) (k:Ky):(findX l k).map (·.nd)=findIt (l.map absI) k:=by
 unfold findX findIt;rw [List.find?_map,Option.map_map];rfl
theorem find21_any (v:Value) (l:List It) (k:Ky) (w:World) (hv:RowIn 12 itC w v l) (hl:l.length≤1000000) (hok:∀x∈l,x.key.ok) (hk:k.ok) :
 Calls Tryz.prog 130 #[v,.agg #[.int .u64 k.1,.int .u64 k.2]] w (jP w (.tuple #[.agg (loadC ((findX l k).getD it0)).toArray,.bool (findX l k).isSome])):=by
 obtain ⟨A,c,rfl⟩:=hv.form;have HV:=jH hv;have HOK:=jH hok;clear hv hok
 go_enter Tryz.func130,Tryz.ntmps130
 go_wp2_with fail
 refine name_world ?_;intro W hW;obtain ⟨k0,k1,hs,hb0⟩:=two_boxes w _ _ W hW;have HK0:=jH k0;have HK1:=jH k1;have HB0:=jH hb0;clear hW k0 k1 hs hb0;go_wp2
 go_loopg [6] l.length (fun g s6 wr=>∃i:Nat,i≤l.length∧l.length - i≤g∧s6=.int .i64 i∧Hid (findX (l.take i) k=none)∧jB W wr)
 case atStart=>exact ⟨0,Nat.zero_le _,Nat.le_refl _,rfl,jH rfl,jR⟩
 case round =>
  obtain ⟨i,hi,hg,rfl,HNO,hb⟩:=hrel;rename World=>wr
  have HB:=jH hb;have HBB:=jH (bthen HB0.out hb);obtain ⟨a1,a2,a3,a4⟩:=box_at hb HK0.out;have HR4:=jH (jK hb HK1.out);obtain ⟨b1,b2,b3⟩:=box_cells jR HR4.out;clear hb a4
  by_cases hlt:i<l.length
  · have z1:(i:Int)<(l.length:Int):=by omega
    have z2:(0:Int)≤(i:Int):=by omega
    obtain ⟨b,o,rfl,hbw,hc⟩:=HV.out.at_ hlt;have HDR:=jH (show l=l.take i++l[i]::l.drop (i+1) by rw [List.getElem_cons_drop hlt,List.take_append_drop]);have HXE:=jH (show ∀q,findX [l[i]] q=if decide (l[i].key=q)=true then some l[i] else none from fun q=>by unfold findX;rw [List.find?_cons];cases decide (l[i].key=q) <;> rfl);have hyok:=HOK.out _ (List.getElem_mem hlt);have HC:=jH (show ∀j u,(itC l[i])[j]?=some u→w.cell? ⟨b,o+i * 12+j,none⟩=some u from hc)
    have HTK:=jH (List.take_succ_eq_append_getElem hlt);generalize l[i]=x at HC HDR HXE hyok HTK;have c0:wr.cell? ⟨b,o+i * 12,none⟩=some (.int .u64 x.key.1):=(HBB.out.cell (p:=⟨b,_,none⟩) hbw).trans (HC.out 0 _ rfl);have c1:wr.cell? ⟨b,o+i * 12+1,none⟩=some (.int .u64 x.key.2):=(HBB.out.cell (p:=⟨b,_,none⟩) hbw).trans (HC.out 1 _ rfl);have HNXT:=jH (show ¬x.key=k→findX (l.take (i+1)) k=none from fun hne=>by
     rw [HTK.out,findX_append,HNO.out,HXE.out,if_neg (by simpa using hne)];rfl)
    clear hc
    by_cases hkk:x.key=k
    · have HKE:=jH hkk
      have e1:x.key.1=k.1:=by rw [hkk]
      have e2:x.key.2=k.2:=by rw [hkk]
      rw [e1] at c0;rw [e2] at c1;clear hkk e1 e2;have HFX:=jH (show findX l k=some x by
       have h9:=HNO.out;rw [HDR.out,findX_append,h9,Option.none_or];unfold findX;rw [List.find?_cons,decide_eq_true HKE.out])
      go_wp2_with fail
      go_quiet (fail)
      refine then_named ?_;intro W3 hW3;have hh3:W3.heap=wr.heap:=by rw [hW3];rfl
      have hb3:jB w W3:=by rw [hW3];first|exact HBB.out|exact HBB.out.drew|exact below_drewN HBB.out _
      have HR3:=jH ((show W3.heap[w.heap.size+1]?=wr.heap[w.heap.size+1]? by rw [hh3]).trans HR4.out);clear hW3 hh3 b1 b2 b3 c0 c1 a1 a2 a3;obtain ⟨b1,b2,b3⟩:=box_cells jR HR3.out;have q0:W3.cell? ⟨b,o+i * 12+2,none⟩=some (.slice x.sA x.nd.smp.length x.sc):=(hb3.cell (p:=⟨b,_,none⟩) hbw).trans (HC.out 2 _ rfl);have q1:W3.cell? ⟨b,o+i * 12+3,none⟩=some (.slice x.pA x.nd.past.length x.pc):=(hb3.cell (p:=⟨b,_,none⟩) hbw).trans (HC.out 3 _ rfl)
      have q2:W3.cell? ⟨b,o+i * 12+4,none⟩=some (.int .i64 x.nd.pol.mn):=(hb3.cell (p:=⟨b,_,none⟩) hbw).trans (HC.out 4 _ rfl);have q3:W3.cell? ⟨b,o+i * 12+5,none⟩=some (.int .i64 x.nd.pol.mx):=(hb3.cell (p:=⟨b,_,none⟩) hbw).trans (HC.out 5 _ rfl);have q4:W3.cell? ⟨b,o+i * 12+6,none⟩=some (.int .i64 x.nd.pol.tg):=(hb3.cell (p:=⟨b,_,none⟩) hbw).trans (HC.out 6 _ rfl);have q5:W3.cell? ⟨b,o+i * 12+7,none⟩=some (.int .i64 x.nd.pol.tol):=(hb3.cell (p:=⟨b,_,none⟩) hbw).trans (HC.out 7 _ rfl)
      have q6:W3.cell? ⟨b,o+i * 12+8,none⟩=some (.int .i64 x.nd.pol.win):=(hb3.cell (p:=⟨b,_,none⟩) hbw).trans (HC.out 8 _ rfl);have q7:W3.cell? ⟨b,o+i * 12+9,none⟩=some (.int .i64 x.nd.pol.hold):=(hb3.cell (p:=⟨b,_,none⟩) hbw).trans (HC.out 9 _ rfl);have q8:W3.cell? ⟨b,o+i * 12+10,none⟩=some (.bool x.nd.ruled):=(hb3.cell (p:=⟨b,_,none⟩) hbw).trans (HC.out 10 _ rfl);have q9:W3.cell? ⟨b,o+i * 12+11,none⟩=some (.int .i64 (x.nd.ver:Nat)):=(hb3.cell (p:=⟨b,_,none⟩) hbw).trans (HC.out 11 _ rfl)
      go_wp2
      refine post_named ?_;intro W4 hW4;obtain ⟨h4,h5,h6,h7⟩:=set10 HR3.out _ _ _ _ _ _ _ _ _ _ W4 hW4;obtain ⟨d1,d2,d3⟩:=box_cells jR h4;have hb4:=hb3.trans (h7 w.heap.size (by omega));clear hW4;exact bodyPost_ret (v:=.tuple #[.agg #[.slice x.sA x.nd.smp.length x.sc,.slice x.pA x.nd.past.length x.pc,.int .i64 x.nd.pol.mn,.int .i64 x.nd.pol.mx,.int .i64 x.nd.pol.tg,.int .i64 x.nd.pol.tol,.int .i64 x.nd.pol.win,.int .i64 x.nd.pol.hold,.bool x.nd.ruled,.int .i64 (x.nd.ver:Nat)],.bool true]) (by simp [results,Tryz.results130,go_sem,d1]) rfl ⟨by rw [HFX.out];rfl,hb4⟩
    · by_cases h1:x.key.1=k.1
      · have hh:((x.key.2:Int) == (k.2:Int))=false:=by
         have:x.key.2≠k.2:=fun h2=>hkk (Prod.ext h1 h2)
         simp;omega
        have HNX:=jH (HNXT.out hkk);rw [h1] at c0;clear hkk h1 HNXT;go_wp2_with fail
        go_quiet (fail)
        go_wp2
        go_roundg (l.length - (i+1))
        case measure=>omega
        case rel=>exact ⟨i+1,hlt,Nat.le_refl _,by go_num,HNX,by repeat (first|exact HB.out|refine below_drewN ?_ _|refine Below.drew ?_)⟩
      · have hh:((x.key.1:Int) == (k.1:Int))=false:=by simp;omega
        have HNX:=jH (HNXT.out hkk);clear hkk h1 HNXT;go_wp2_with fail
        go_quiet (fail)
        go_wp2
        go_roundg (l.length - (i+1))
        case measure=>omega
        case rel=>exact ⟨i+1,hlt,Nat.le_refl _,by go_num,HNX,by repeat (first|exact HB.out|refine below_drewN ?_ _|refine Below.drew ?_)⟩
  · obtain rfl:i=l.length:=by omega
    rw [List.take_length] at HNO;have z1:¬(l.length:Int)<(l.length:Int):=by omega
    go_wp2
    refine post_named ?_;intro W4 hW4;obtain ⟨h4,h5,h6,h7⟩:=set10 HR4.out _ _ _ _ _ _ _ _ _ _ W4 hW4;obtain ⟨d1,d2,d3⟩:=box_cells jR h4;have hb4:=HBB.out.trans (h7 w.heap.size (by omega));clear hW4;exact bodyPost_ret (v:=.tuple #[.agg #[.slice none 0 0,.slice none 0 0,.int .i64 0,.int .i64 0,.int .i64 0,.int .i64 0,.int .i64 0,.int .i64 0,.bool false,.int .i64 0],.bool false]) (by simp [results,Tryz.results130,go_sem,d1]) rfl ⟨by rw [HNO.out];rfl,hb4⟩
end
section
open Go.RowKit Go.Lib
theorem refKeyK_any (s:ByteArray) (w:World) (hm:s.size≤maxLen) :
 Calls Tryz.prog 132 #[.string s] w (jP w (.agg #[.int .u64 (keyK s).1,.int .u64 (keyK s).2])):=by
 cases hid:idS s with
 | true =>
   have e:keyK s=(hiN s.data.toList,loN s.data.toList):=by unfold keyK;rw [if_pos hid]
   rw [e];exact refKey_any s w hm hid
 | false =>
   have e:keyK s=(0,0):=by unfold keyK;rw [if_neg (by rw [hid];simp)]
   rw [e];have HID:=jH hid;clear hid e
   go_enter Tryz.func132,Tryz.ntmps132
   go_wp2_with (go_at_call 100;refine (id_any _ _ hm).mono ?_;rw [HID.out];rintro e w' ⟨rfl,rfl⟩)
   exact bodyPost_ret (v:=.agg #[.int .u64 0,.int .u64 0]) (by simp [results,Tryz.results132,go_sem]) rfl ⟨rfl,by repeat (first|exact jR|refine balloc ?_ _|refine Below.setCell ?_ (by simp) _)⟩
def loadX (x:WdH) (id:ByteArray):Option It:=findX (allX x) (keyK id)
theorem loadX_abs (x:WdH) (id:ByteArray):(loadX x id).map (·.nd)=loadW (absW x) id:=by
 unfold loadX loadW;rw [←allX_abs,findX_abs]
theorem allX_mem {x:WdH} {z:It} (h:z∈allX x):∃s∈x.st,z∈s.l:=by
 obtain ⟨q,hq,hz⟩:=List.mem_flatten.1 h;obtain ⟨s,hs,rfl⟩:=List.mem_map.1 hq;exact ⟨s,hs,hz⟩
theorem loadX_in {P:Nat→Prop} {w:World} {x:WdH} {id:ByteArray} {y:It} (hx:WdIn P w x) (h:loadX x id=some y):LoadIn P w y∧y∈allX x:=by
 have hm:=List.mem_of_find?_eq_some h;obtain ⟨s,hs,hz⟩:=allX_mem hm;exact ⟨(hx.it s hs).2 y hz,hm⟩
theorem load21_any (P:Nat→Prop) (c:Cfg) (x:WdH) (id:ByteArray) (w:World) (hP:∀b,w.heap.size≤b→P b) (hx:WdIn P w x) (hl:x.st.length≤64) (hn:(allX x).length≤1000000) (hok:∀z∈allX x,z.key.ok) (hm:id.size≤maxLen) :
 Calls Tryz.prog 75 #[.agg (wdC c x).toArray,.string id] w (jP w (.tuple #[.agg (loadC ((loadX x id).getD it0)).toArray,.bool (loadX x id).isSome])):=by
 have CA:=jH (fun (W:World) (hW:jB w W)=>show Calls Tryz.prog 131 #[.agg #[.int .i64 c.st,.int .i64 c.sa,.int .i64 c.lo,.int .i64 c.hi,.slice x.sA x.st.length x.sc,.slice x.cA x.cuts.length x.cc,.int .i64 x.ep,.bool x.over]] W (AllSays P W (allX x)) from all21_any P c x W (fun b hb=>hP b (Nat.le_trans hW.size hb)) (hx.below hW) hl hn);have CK:=jH (fun W=>refKeyK_any id W hm);have CF:=jH (fun (W:World) (A:Option Addr) (cc:Nat) (h:RowIn 12 itC W (.slice A (allX x).length cc) (allX x))=>find21_any _ (allX x) (keyK id) W h hn hok (keyK_ok id))
 unfold loadX;generalize allX x=l at CA CF ⊢;generalize keyK id=k at CK CF ⊢;generalize (findX l k).isSome=fb at CF ⊢;generalize (findX l k).getD it0=y at CF ⊢;have CF2:=jH (fun (W:World) (A:Option Addr) (cc:Nat) (h:RowIn 12 itC W (.slice A l.length cc) l)=>show Calls Tryz.prog 130 #[.slice A l.length cc,.agg #[.int .u64 k.1,.int .u64 k.2]] W (jP W (.tuple #[.agg #[.slice y.sA y.nd.smp.length y.sc,.slice y.pA y.nd.past.length y.pc,.int .i64 y.nd.pol.mn,.int .i64 y.nd.pol.mx,.int .i64 y.nd.pol.tg,.int .i64 y.nd.pol.tol,.int .i64 y.nd.pol.win,.int .i64 y.nd.pol.hold,.bool y.nd.ruled,.int .i64 (y.nd.ver:Nat)],.bool fb])) from CF.out W A cc h)
 clear CF hP hx hl hn hok hm;unfold wdC
 go_enter Tryz.func75,Tryz.ntmps75
 go_wp2_with (first
  | (go_at_call 131
     refine calls_named ?_;intro W1 hW1;obtain ⟨k0,k1,hs,hb⟩:=two_boxes w _ _ W1 hW1;clear hW1;refine (CA.out W1 hb).mono ?_;rintro e w2 ⟨A3,c3,rfl,hit,hb2⟩;have HI2:=jH hit.1.1;have HY2:=jH (jK hb2 k1);have HB2:=jH (bthen hb hb2);clear k0 k1 hs hb hb2 hit)
  | (go_at_call 132
     refine (CK.out w2).mono ?_;rintro e w3 ⟨rfl,hb3⟩;have HI3:=jH (HI2.out.below hb3);have HY3:=jH (jK hb3 HY2.out);have HB3:=jH (bthen HB2.out hb3);clear hb3)
  | (go_at_call 130
     refine (CF2.out w3 A3 c3 HI3.out).mono ?_;rintro e w4 ⟨rfl,hb4⟩;have HY4:=jH (jK hb4 HY3.out);have HB4:=jH (bthen HB3.out hb4);obtain ⟨b1,b2,b3⟩:=box_cells jR HY4.out;clear hb4))
 refine post_named ?_;intro W4 hW4;obtain ⟨h4,h5,h6,h7⟩:=set10 HY4.out _ _ _ _ _ _ _ _ _ _ W4 hW4;obtain ⟨d1,d2,d3⟩:=box_cells jR h4;have hb5:=HB4.out.trans (h7 w.heap.size (by omega));clear hW4;exact bodyPost_ret (v:=.tuple #[.agg (loadC y).toArray,.bool fb]) (by simp [results,Tryz.results75,go_sem,loadC,d1]) rfl ⟨rfl,hb5⟩
end
section
open Go.RowKit Go.Lib
theorem xor_step (a b k:Nat):(a ^^^ b) % 2 ^ (k+1)=(a ^^^ b) % 2 ^ k+if a / 2 ^ k % 2=b / 2 ^ k % 2 then 0 else 2 ^ k:=by
 have h1:(a ^^^ b) / 2 ^ k % 2=if a / 2 ^ k % 2=b / 2 ^ k % 2 then 0 else 1:=by
  rw [←Nat.shiftRight_eq_div_pow,Nat.shiftRight_xor_distrib,Nat.shiftRight_eq_div_pow,Nat.shiftRight_eq_div_pow];have h2:=Nat.xor_mod_two_eq_one (a:=a / 2 ^ k) (b:=b / 2 ^ k);have h3:=Nat.mod_lt ((a / 2 ^ k) ^^^ (b / 2 ^ k)) (show 0<2 by decide);have h4:=Nat.mod_lt (a / 2 ^ k) (show 0<2 by decide);have h5:=Nat.mod_lt (b / 2 ^ k) (show 0<2 by decide)
  split <;> omega
 have h2:(a ^^^ b) % 2 ^ (k+1)=(a ^^^ b) % 2 ^ k+2 ^ k * ((a ^^^ b) / 2 ^ k % 2):=by
  rw [Nat.pow_succ,Nat.mod_mul]
 rw [h2,h1]
 split <;> simp
theorem half_step (a k:Nat):a / 2 ^ k / 2=a / 2 ^ (k+1):=by rw [Nat.div_div_eq_div_mul,Nat.pow_succ]
theorem unlike_any (a b:Nat) (w:World) (ha:a<256) (hb:b<256) :
 Calls Tryz.prog 273 #[.int .u64 a,.int .u64 b] w fun e w'=>e=.returned (.int .u64 ((a ^^^ b:Nat):Int))∧w=w':=by
 go_enter Tryz.func273,Tryz.ntmps273
 go_wp2
 go_loop [0,1,5,6,7] (fun x y o n i=>∃k:Nat,k≤8∧i=.int .i64 k∧x=.int .u64 (a / 2 ^ k:Nat)∧y=.int .u64 (b / 2 ^ k:Nat)∧o=.int .u64 ((a ^^^ b) % 2 ^ k:Nat)∧n=.int .u64 (2 ^ k:Nat)) (fun _ _ _ _ i=>8 - (intOf i).toNat)
 case atStart=>exact ⟨0,by omega,rfl,by simp,by simp,by simp [Nat.mod_one],rfl⟩
 case round =>
  obtain ⟨k,hk,rfl,rfl,rfl,rfl,rfl⟩:=hrel
  by_cases hlt:k<8
  · have hp:2 ^ k≤2 ^ 7:=Nat.pow_le_pow_right (by decide) (by omega)
    have hx:(a ^^^ b) % 2 ^ k<2 ^ k:=Nat.mod_lt _ (Nat.pow_pos (by decide));have ha2:a / 2 ^ k≤a:=Nat.div_le_self _ _;have hb2:b / 2 ^ k≤b:=Nat.div_le_self _ _;have s1:=jH (xor_step a b k);have s2:=jH (half_step a k);have s3:=jH (half_step b k);have s4:=jH (Nat.pow_succ 2 k)
    by_cases he:a / 2 ^ k % 2=b / 2 ^ k % 2
    · have He:=jH he
      clear he;generalize hA:a / 2 ^ k=A at *;generalize hB:b / 2 ^ k=B at *;generalize hX:(a ^^^ b) % 2 ^ k=X at *;generalize hN:2 ^ k=N at *;clear hA hB hX hN;have hq:((A:Int) % 2 != (B:Int) % 2)=false:=by have:=He.out;simp;omega
      go_wp2
      go_round
      case rel=>exact ⟨k+1,hlt,by go_num,by rw [←s2.out];simp,by rw [←s3.out];simp,by rw [s1.out,if_pos He.out];simp,by rw [s4.out];simp⟩
      case measure=>simp [intOf];omega
    · have He:=jH he
      clear he;generalize hA:a / 2 ^ k=A at *;generalize hB:b / 2 ^ k=B at *;generalize hX:(a ^^^ b) % 2 ^ k=X at *;generalize hN:2 ^ k=N at *;clear hA hB hX hN;have hq:((A:Int) % 2 != (B:Int) % 2)=true:=by have:=He.out;simp;omega
      go_wp2
      go_round
      case rel=>exact ⟨k+1,hlt,by go_num,by rw [←s2.out];simp,by rw [←s3.out];simp,by rw [s1.out,if_neg He.out];simp,by rw [s4.out];simp⟩
      case measure=>simp [intOf];omega
  · obtain rfl:k=8:=by omega
    go_wp2
    go_ret
    have hv:a ^^^ b<2 ^ 8:=Nat.xor_lt_two_pow (by omega) (by omega);exact ⟨ret_int (by omega),rfl⟩
theorem xor_byte (h c:Nat) (hc:c<256):h - h % 256+((h % 256) ^^^ c)=h ^^^ c:=by
 have h1:(h ^^^ c) / 256=h / 256:=by
  have:=Nat.shiftRight_xor_distrib (a:=h) (b:=c) (i:=8);rw [Nat.shiftRight_eq_div_pow,Nat.shiftRight_eq_div_pow,Nat.shiftRight_eq_div_pow] at this;have h2:c / 2 ^ 8=0:=Nat.div_eq_of_lt hc;rw [h2,Nat.xor_zero] at this;exact this
 have h2:(h ^^^ c) % 256=(h % 256) ^^^ c:=by
  have:=Nat.xor_mod_two_pow (a:=h) (b:=c) (n:=8);rw [show (2:Nat) ^ 8=256 from rfl,Nat.mod_eq_of_lt hc] at this;exact this
 omega
end
end Go.Proofs.YtpmfcpdelkchaaaGreat
