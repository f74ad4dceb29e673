/- Part 23 of the proof: Win3, StoQ, FlA, StoH, ShIter, FlPl. -/
import Derived.Shelf.SlIter.Nil
import Derived.Shelf.SortM.Plain
import Derived.Shelf.SortM.SortNone
import Derived.Maps.RangeWalk
import Derived.Shelf.SlMaps.Clone
import Derived.Shelf.SlLaysW
import Derived.Test.YtkcdhaallnhhmaaGreatP11
import Derived.Test.YtkcdhaallnhhmaaGreatP20
import Derived.Test.YtkcdhaallnhhmaaGreatP21
namespace Go.Proofs.YtkcdhaallnhhmaaGreat
set_option linter.unusedSimpArgs false
set_option linter.unusedVariables false
set_option linter.unusedSectionVars false
set_option maxRecDepth 100000
set_option maxHeartbeats 16000000
section
open Go.RowKit Go.Lib
theorem box_below {w wr w':World} {B:Nat} {cs:Array Value} {T:TypeId} (h:wr.heap[B]?=some (.cells cs T (0,0))) (hb:jB wr w'):w'.heap[B]?=some (.cells cs T (0,0)) :=
 jK hb h
theorem wideTotal_any (v:Value) (l:List Int) (w:World) (hv:RowIn 1 nmC w v l) (hl:l.length≤1000000) (hi:∀n∈l,0≤n∧n≤9223372036854775807) :
 Calls Tryz.prog 225 #[v] w (jP w (twoV (totN l))):=by
 obtain ⟨A,c,rfl⟩:=hv.form;have HV:=jH hv;have HI:=jH hi;have HL:=jH hl;have hl9:l.length≤9223372036854775807:=by omega
 clear hv hi hl
 go_enter Tryz.func225,Tryz.ntmps225
 go_wp2
 go_loopg [8] l.length (fun g s8 wr=>∃(k a b:Nat),k≤l.length∧l.length - k≤g∧s8=.int .i64 k∧Hid (a=totN (l.take k) / 18446744073709551616∧b=totN (l.take k) % 18446744073709551616)∧jB w wr∧wr.heap[w.heap.size]?=some (.cells #[.int .u64 0,.int .u64 0] 297 (0,0))∧wr.heap[w.heap.size+1]?=some (.cells #[.int .u64 a,.int .u64 b] 297 (0,0)))
 case atStart=>exact ⟨0,0,0,Nat.zero_le _,Nat.le_refl _,rfl,jH (by simp [totN]),balloc (balloc jR _) _,box_old _ _ _,box_new _ _ _⟩
 case round =>
  obtain ⟨k,a,b,hk,hg,rfl,HAB,hb,hz,hq⟩:=hrel;rename World=>wr
  have HB:=jH hb;have HZ:=jH hz;have HQ:=jH hq;obtain ⟨a1,a2,a3⟩:=box_cells jR hz;obtain ⟨c1,c2,c3⟩:=box_cells jR hq;clear hb hz hq
  by_cases hlt:k<l.length
  · obtain ⟨b1,o1,rfl,hb1,hc⟩:=(HV.out.below HB.out).at_ hlt
    have z1:(0:Int)≤(k:Int):=by omega
    have z2:(k:Int)<(l.length:Int):=by omega
    have HTK:=jH (show totN (l.take (k+1))=totN (l.take k)+l[k].toNat by rw [List.take_succ_eq_append_getElem hlt,totN_snoc]);have hx:=HI.out _ (List.getElem_mem hlt);have HTL:=jH (show totN (l.take k)≤1000000 * 9223372036854775807 from Nat.le_trans (totN_le (fun n hn=>(HI.out n (List.mem_of_mem_take hn)).2)) (Nat.mul_le_mul_right _ (by rw [List.length_take];have:=HL.out;omega)));generalize l[k]=x at hc HTK hx
    have d0:=hc 0 _ rfl;rw [Nat.add_zero,Nat.mul_one] at d0;have HK:=jH hlt;clear hc
    by_cases h0:0<x
    · obtain ⟨y,rfl⟩:∃y:Nat,x=y:=⟨x.toNat,by omega⟩
      have hy:y≤9223372036854775807:=by omega
      have q1:IntKind.u64.wrap (y:Int)=(y:Int):=u64_wrap y (by omega);obtain ⟨a',ha'⟩:∃a',a'=totN (l.take (k+1)) / 18446744073709551616:=⟨_,rfl⟩;obtain ⟨b',hb'⟩:∃b',b'=totN (l.take (k+1)) % 18446744073709551616:=⟨_,rfl⟩;have HAB2:=jH (And.intro ha' hb');have CA:=jH (fun W=>show Calls Tryz.prog 226 #[.agg #[.int .u64 a,.int .u64 b],.agg #[.int .u64 0,.int .u64 y]] W (jP W (.tuple #[.agg #[.int .u64 a',.int .u64 b'],.bool true])) from by
       have h:=wideAdd_any (totN (l.take k)) y (by have:=HTL.out;omega) W;have e1:y / 18446744073709551616=0:=Nat.div_eq_of_lt (by omega);have e2:y % 18446744073709551616=y:=Nat.mod_eq_of_lt (by omega);have e3:totN (l.take k)+y=totN (l.take (k+1)):=by rw [HTK.out];simp
       unfold twoV at h;rw [e3,e1,e2,←HAB.out.1,←HAB.out.2,←ha',←hb'] at h;exact h)
      have h0':(0:Int)<(y:Int):=h0;clear ha' hb' hx hy h0
      as_aux_lemma =>
      go_wp2_with (first
       | (go_at_call 226
          refine (CA.out wr).mono ?_;rintro e w3 ⟨rfl,hb3⟩;have HZ3:=jH (box_below (w:=w) HZ.out hb3);have HQ3:=jH (box_below (w:=w) HQ.out hb3);obtain ⟨e1,e2,e3⟩:=box_cells jR HQ3.out;have HB3:=jH (bthen HB.out hb3);clear hb3))
      go_roundg (l.length - (k+1))
      case measure=>omega
      case rel=>exact ⟨k+1,a',b',HK.out,Nat.le_refl _,by go_num,HAB2,(HB3.out.setCell (by simp) _).setCell (by simp) _,heap_set_ne (heap_set_ne HZ3.out (by omega)) (by omega),setCell_block (setCell_block HQ3.out)⟩
    · obtain rfl:x=0:=by omega
      have e3:totN (l.take (k+1))=totN (l.take k):=by rw [HTK.out];simp
      have HAB2:=jH (show a=totN (l.take (k+1)) / 18446744073709551616∧b=totN (l.take (k+1)) % 18446744073709551616 by rw [e3];exact HAB.out);clear e3 hx h0
      as_aux_lemma =>
      go_wp2_with fail
      go_roundg (l.length - (k+1))
      case measure=>omega
      case rel=>exact ⟨k+1,a,b,HK.out,Nat.le_refl _,by go_num,HAB2,HB.out,HZ.out,HQ.out⟩
  · obtain rfl:k=l.length:=by omega
    rw [List.take_length] at HAB;go_wp2_with fail
    have hz2:=setCell_block (i:=1) (v:=.int .u64 b) (setCell_block (i:=0) (v:=.int .u64 a) HZ.out);obtain ⟨f1,f2,f3⟩:=box_cells jR hz2;refine bodyPost_ret (v:=.agg #[.int .u64 a,.int .u64 b]) (by simp [results,Tryz.results225,go_sem,f1]) rfl ⟨?_,(HB.out.setCell (Nat.le_refl _) _).setCell (Nat.le_refl _) _⟩;unfold twoV;rw [HAB.out.1,HAB.out.2]
end
section
open Go.RowKit Go.Lib Go.Sort
theorem findIt_mem {l:List Itm} {k:Ky} {y:Nd} (h:findIt l k=some y):(k,y)∈l:=by
 unfold findIt at h;obtain ⟨q,hq,rfl⟩:=Option.map_eq_some_iff.1 h;have h1:=List.find?_some hq;simp at h1
 rw [←h1];exact List.mem_of_find?_eq_some hq
theorem findIt_none {l:List Itm} {k:Ky} (h:∀p∈l,p.1≠k):findIt l k=none:=by
 unfold findIt;rw [List.find?_eq_none.2 (fun p hp=>by simpa using h p hp)];rfl
theorem findIt_append (a b:List Itm) (k:Ky):findIt (a++b) k=(findIt a k).or (findIt b k):=by
 unfold findIt;rw [List.find?_append]
 cases List.find? (fun p=>decide (p.1=k)) a <;> rfl
theorem findIt_sorted {R:List Itm} (hs:(R.map (·.1)).Pairwise (fun a b=>ltK a b=true)) {k:Ky} {y:Nd} (h:(k,y)∈R):findIt R k=some y:=by
 unfold findIt
 cases hf:R.find? (fun p=>decide (p.1=k)) with
 | none=>exact absurd (List.find?_eq_none.1 hf (k,y) h) (by simp)
 | some q =>
   have h1:=List.find?_some hf;simp at h1
   have h2:=List.mem_of_find?_eq_some hf;obtain ⟨a,b⟩:=q;obtain rfl:a=k:=h1;rw [sorted_at_unique hs h2 h];rfl
theorem flat_none {ll:List (List Itm)} {k:Ky} (h:∀l∈ll,findIt l k=none):findIt ll.flatten k=none:=by
 induction ll with
 | nil=>rfl
 | cons l ll ih =>
   rw [List.flatten_cons,findIt_append,h l (by simp),Option.none_or];exact ih (fun m hm=>h m (by simp [hm]))
theorem flat_at {ll:List (List Itm)} {k:Ky} {i:Nat} {R:List Itm} (hi:ll[i]?=some R) (h:∀j l,ll[j]?=some l→j≠i→findIt l k=none):findIt ll.flatten k=findIt R k:=by
 induction ll generalizing i with
 | nil=>simp at hi
 | cons l ll ih =>
   rw [List.flatten_cons,findIt_append]
   cases i with
   | zero =>
     simp at hi
     subst hi;rw [flat_none (fun m hm=>by
      obtain ⟨j,hj⟩:=List.getElem?_of_mem hm;exact h (j+1) m (by simpa using hj) (by omega))]
     exact Option.or_none
   | succ i =>
     rw [h 0 l (by simp) (by omega),Option.none_or];exact ih (by simpa using hi) (fun j m hm hj=>h (j+1) m (by simpa using hm) (by omega))
theorem load_home {c:Cfg} {wd:Wd} (h:HomeOk c wd) {k:Ky} {i:Nat} {R:List Itm} (hi:wd.st[i]?=some R) (hk:routeI k.1 k.2 c.st=(i:Int)):findIt (allW wd) k=findIt R k :=
 flat_at hi (fun j l hl hj=>findIt_none (fun p hp e=>hj (by
  have:=h j l hl p hp;rw [e,hk] at this;omega)))
theorem HomeOk.set {c:Cfg} {wd:Wd} (h:HomeOk c wd) {i:Nat} {R:List Itm} (hR:∀p∈R,routeI p.1.1 p.1.2 c.st=(i:Int)):HomeOk c { wd with st:=wd.st.set i R }:=by
 intro j Q hQ p hp;have hQ:(wd.st.set i R)[j]?=some Q:=hQ;rw [List.getElem?_set] at hQ
 split at hQ
 · rename_i e
   split at hQ
   · injection hQ with hQ
     subst hQ;rw [←e];exact hR p hp
   · cases hQ
 · exact h j Q hQ p hp
theorem atW_lt {c:Cfg} {wd:Wd} {id:ByteArray} (hst:okSt c.st=true) (hl:(wd.st.length:Int)=c.st):atW c id<wd.st.length∧routeI (keyK id).1 (keyK id).2 c.st=(atW c id:Int):=by
 obtain ⟨h0,h1⟩:=route_lt (hi:=(keyK id).1) (lo:=(keyK id).2) hst;unfold atW;omega
theorem homeOk_trim {c:Cfg} {wd:Wd} {cut:Int} (h:HomeOk c wd):HomeOk c (trimW wd cut):=by
 intro i R hR p hp;have hR:(wd.st.map fun l=>l.map fun p=>(p.1,trimR cut p.2))[i]?=some R:=hR;rw [List.getElem?_map] at hR;obtain ⟨Q,hQ,rfl⟩:=Option.map_eq_some_iff.1 hR;obtain ⟨q,hq,rfl⟩:=List.mem_map.1 hp;exact h i Q hQ q hq
theorem homeOk_new (c:Cfg) (n:Nat):HomeOk c (newW n):=by
 intro i R hR p hp;have:=List.mem_of_getElem? hR;rw [List.eq_of_mem_replicate this] at hp
 cases hp
theorem tot_new (n:Nat):(allW (newW n)).length=0:=by simp [allW,newW]
end
section
open Go.RowKit Go.Lib
theorem flTells_new (c:Cfg) (k:Nat) (hk:(k:Int)=c.st):FlTells c [] (newW k):=by
 have hall:allW (newW k)=[]:=by
  have:=tot_new k;exact List.eq_nil_of_length_eq_zero this
 refine ⟨⟨(fun p hp=>by cases hp),fun s _=>?_⟩,fun p hp=>?_,fun i R hR=>?_,fun R hR=>?_,homeOk_new c k,?_,List.nodup_nil⟩
 · show findIt (allW (newW k)) (keyK s.1)=none
   rw [hall];rfl
 · rw [hall] at hp
   cases hp
 · have:=List.eq_of_mem_replicate (List.mem_of_getElem? hR)
   rw [this];rfl
 · rw [List.eq_of_mem_replicate hR]
   exact List.Pairwise.nil
 · rw [←hk]
   simp [newW]
theorem flNew_ok (c:Cfg) (rs rh k:Nat) (w:World) (hc:c.ok) (hb:cfgE c=0) (hk:(k:Int)=c.st) :
 Calls Tryz.prog 10 #[cfgV c] w fun e w'=>∃M d,e=.returned (.pointer (some ⟨M,0,none⟩))∧FlatAt (fun b=>b≠M∧b≠d.L) w' M c rs rh 0 (newW k) d∧w.heap.size≤M∧w.heap.size≤d.L∧jB w w':=by
 have CR:=jH (fun W=>nodeRight_any c W hc);rw [hb] at CR;have hmm:=@run_makeMap Tryz.prog;have HTL:=jH (flTells_new c k hk);unfold cfgV at CR ⊢;clear hc hb hk
 go_enter Tryz.func10,Tryz.ntmps10
 go_wp2_with (first
  | (go_at_call 43
     refine calls_named ?_;intro W1 hW1;have hb1:jB w W1:=by rw [hW1];exact balloc jR _
     have hx1:W1.heap[w.heap.size]?=some (.cells #[.int .i64 c.st,.int .i64 c.sa,.int .i64 c.lo,.int .i64 c.hi] 23 (0,0)):=by rw [hW1];exact heap_alloc_new _ _
     clear hW1;refine (CR.out W1).mono ?_;rintro e w2 ⟨rfl,hb2⟩;have HB2:=jH (bthen hb1 hb2);obtain ⟨a1,a2,a3⟩:=box_cells hb2 hx1;clear hb1 hb2 hx1))
 refine post_named ?_;intro W9 hW9;have hW9':W9=(w2.alloc (.map #[] 0)).alloc (.cells #[.int .i64 c.st,.int .i64 c.sa,.int .i64 c.lo,.int .i64 c.hi,.map (some w2.heap.size),.slice none 0 0,.int .i64 0,.bool false] 97 (0,0)):=hW9;have hd9:jB w2 W9:=by rw [hW9'];exact balloc (balloc jR _) _
 have hm9:MapIn skV ldV W9 w2.heap.size ([]:List (SK × It)):=by
  rw [hW9'];exact (MapIn.made w2).below (balloc jR _)
 have hc9:W9.heap[w2.heap.size+1]?=some (.cells #[.int .i64 c.st,.int .i64 c.sa,.int .i64 c.lo,.int .i64 c.hi,.map (some w2.heap.size),.slice none 0 0,.int .i64 0,.bool false] 97 (0,0)):=by rw [hW9'];exact box_new _ _ _
 clear hW9 hW9';have hs2:=HB2.out.size;have hf9:FlatAt (fun b=>b≠w2.heap.size+1∧b≠w2.heap.size) W9 (w2.heap.size+1) c rs rh 0 (newW k) ⟨w2.heap.size,[],none,0,[]⟩ :=
  ⟨⟨hc9,hm9,by show w2.heap.size+1≠w2.heap.size;omega,fun b hb=>hb,(fun p hp=>by cases hp),rfl,RowG.nil,(fun i x q hx hq=>by cases hx)⟩,HTL.out⟩
 exact bodyPost_ret (v:=.pointer (some ⟨w2.heap.size+1,0,none⟩)) (by simp [results,Tryz.results10,go_sem]) rfl ⟨w2.heap.size+1,⟨w2.heap.size,[],none,0,[]⟩,rfl,hf9,by omega,hs2,bthen HB2.out hd9⟩
theorem flHome_any (M:Nat) (c:Cfg) {cs:Array Value} {T:TypeId} (id:ByteArray) (w:World) (h:w.heap[M]?=some (.cells cs T (0,0))) (h0:cs[0]?=some (.int .i64 c.st)) (hst:okSt c.st=true) (hm:id.size≤maxLen) :
 Calls Tryz.prog 163 #[.pointer (some ⟨M,0,none⟩),.string id] w (jP w (.int .i64 (routeI (keyK id).1 (keyK id).2 c.st))):=by
 have hbd:=okSt_bd _ hst;obtain ⟨pe,hpe⟩:∃pe:Int,packV id=.tuple #[.agg #[.int .u64 (keyK id).1,.int .u64 (keyK id).2],.int .i64 pe]:=by
  unfold packV keyK
  cases idS id with
  | true=>exact ⟨0,rfl⟩
  | false=>exact ⟨2,rfl⟩
 have CP:=jH (fun W=>show Calls Tryz.prog 108 #[.string id] W (jP W (.tuple #[.agg #[.int .u64 (keyK id).1,.int .u64 (keyK id).2],.int .i64 pe])) from hpe ▸ pack_any id W hm);have hk:=keyK_ok id;have CR:=jH (fun W=>routeOf_any (keyK id).1 (keyK id).2 c.st W hk.1 hk.2 (by unfold I64;omega));generalize keyK id=k at *;have HM:=jH h;have rm:∀U,jB w U→U.cell? ⟨M,0,none⟩=some (.int .i64 c.st):=fun U hU=>((box_cells hU h).1 0).trans h0
 have hlt:M<w.heap.size:=(jL h);clear h h0 hpe hk hbd hst hm
 go_enter Tryz.func163,Tryz.ntmps163
 go_upto_region 2 with (first
  | (go_at_call 108
     refine (CP.out w).mono ?_;rintro e w2 ⟨rfl,hb2⟩;have HB2:=jH hb2;clear hb2))
 refine name_world ?_;intro W hW;have hdW:jB w2 W:=by rw [hW];exact balloc jR _
 have hk9:W.heap[w2.heap.size]?=some (.cells #[.int .u64 k.1,.int .u64 k.2] 130 (0,0)):=by rw [hW];exact heap_alloc_new _ _
 have HB:=jH (bthen HB2.out hdW);have HK:=jH hk9;clear hW hdW hk9;have rk:∀U,jB W U→∀j,U.cell? ⟨w2.heap.size,j,none⟩=(#[.int .u64 k.1,.int .u64 k.2]:Array Value)[j]?:=fun U hU j=>(box_cells hU HK.out).1 j
 have rn:∀U,jB W U→U.cell? ⟨M,0,none⟩=some (.int .i64 c.st):=fun U hU=>rm U (bthen HB.out hU)
 clear rm;have hS00:jB W W:=jR;have hS0:jB W W.drew:=hS00.drew
 go_region_held3 (fun U=>jB W U)
   (first
     | with_reducible exact hS0
     | with_reducible exact hS00
     | with_reducible exact HB5.out)
   (first
     | (go_at_call 193
        refine calls_named ?_;intro V hV;have hd:jB W V:=by rw [hV];first|assumption|exact jR|exact jR.drew
        clear hV;refine (CR.out V).mono ?_;rintro e w5 ⟨rfl,hb5⟩;have HB5:=jH (bthen hd hb5);clear hb5 hd))
 all_goals go_wp2
 all_goals go_ret
 all_goals exact ⟨rfl,bthen HB.out HB5.out⟩
end
section
open Go.RowKit Go.Lib Go.Sort
section
variable {B:Nat→Prop} {S:Nat} {c:Cfg} {rs rh n:Nat} {wd:Wd} {d:StoD}
theorem getLast_nth {α:Type} {l:List α} (h:0<l.length):l.getLast?=some (l[l.length - 1]'(by omega)):=by
 rw [List.getLast?_eq_getElem?,List.getElem?_eq_getElem (by omega)]
end
end
section
open Go.Shelf
def keysM_ren:Go.Shelf.Ren:=⟨fun|7=>98|10=>146|n=>n,fun|23=>94|26=>9|3=>50|28=>167|0=>0|27=>166|33=>172|4=>4|n=>n,fun|n=>n⟩
theorem keysM:Go.Proofs.SlLaysZ.n7 Tryz.prog keysM_ren:={
  mixed:=by kernel_rfl
  f7:=⟨Tryz.f98.name,by decide,Tryz.func98.trans (congrArg some (by kernel_rfl))⟩
  f10:=⟨Tryz.f146.name,by decide,Tryz.func146.trans (congrArg some (by kernel_rfl))⟩
  t0:=Tryz.underlying0
  a0:=Tryz.isAgg0
  z0:=Tryz.sizeOf0
  v0:=Tryz.zeroValue0
  t4:=Tryz.underlying4
  a4:=Tryz.isAgg4
  z4:=Tryz.sizeOf4
  v4:=Tryz.zeroValue4
  t23:=Tryz.underlying94
  a23:=Tryz.isAgg94
  z23:=Tryz.sizeOf94
  v23:=Tryz.zeroValue94
  t26:=Tryz.underlying9
  a26:=Tryz.isAgg9
  z26:=Tryz.sizeOf9
  v26:=Tryz.zeroValue9
  t27:=Tryz.underlying166
  a27:=Tryz.isAgg166
  z27:=Tryz.sizeOf166
  v27:=Tryz.zeroValue166
  t28:=Tryz.underlying167
  a28:=Tryz.isAgg167
  z28:=Tryz.sizeOf167
  v28:=Tryz.zeroValue167
  t33:=Tryz.underlying172
  a33:=Tryz.isAgg172
  z33:=Tryz.sizeOf172
  v33:=Tryz.zeroValue172 }
def sortedM_ren:Go.Shelf.Ren:=⟨fun|6=>97|8=>145|9=>52|11=>186|13=>100|12=>99|23=>156|24=>157|14=>147|15=>148|16=>149|17=>150|18=>151|19=>152|20=>153|21=>154|22=>155|25=>187|26=>188|27=>189|28=>190|29=>191|30=>192|31=>216|n=>n,fun|26=>9|28=>167|24=>37|0=>0|3=>3|37=>171|48=>238|50=>128|4=>4|40=>231|39=>230|45=>235|5=>5|9=>9|51=>267|55=>271|57=>292|58=>293|33=>172|n=>n,fun|n=>n⟩
theorem sortedM:Go.Proofs.SlLaysZ.n6 Tryz.prog sortedM_ren:={
  mixed:=by kernel_rfl
  f6:=⟨Tryz.f97.name,by decide,Tryz.func97.trans (congrArg some (by kernel_rfl))⟩
  f8:=⟨Tryz.f145.name,by decide,Tryz.func145.trans (congrArg some (by kernel_rfl))⟩
  f11:=⟨Tryz.f186.name,by decide,Tryz.func186.trans (congrArg some (by kernel_rfl))⟩
  t0:=Tryz.underlying0
  a0:=Tryz.isAgg0
  z0:=Tryz.sizeOf0
  v0:=Tryz.zeroValue0
  t24:=Tryz.underlying37
  a24:=Tryz.isAgg37
  z24:=Tryz.sizeOf37
  v24:=Tryz.zeroValue37
  t26:=Tryz.underlying9
  a26:=Tryz.isAgg9
  z26:=Tryz.sizeOf9
  v26:=Tryz.zeroValue9
  t28:=Tryz.underlying167
  a28:=Tryz.isAgg167
  z28:=Tryz.sizeOf167
  v28:=Tryz.zeroValue167
  i26:=by kernel_rfl }
def sortM_ren:Go.Shelf.Ren:=⟨fun|6=>52|8=>100|9=>99|19=>156|20=>157|21=>147|22=>148|23=>149|24=>150|25=>151|26=>152|27=>153|28=>154|29=>155|36=>187|31=>188|32=>189|37=>190|38=>191|39=>192|41=>216|n=>n,fun|27=>37|29=>9|3=>3|32=>171|26=>37|0=>0|44=>238|46=>128|4=>4|36=>231|35=>230|41=>235|5=>5|9=>9|53=>267|57=>271|63=>292|64=>293|n=>n,fun|n=>n⟩
theorem sortM:Go.Proofs.SlLaysM.n6 Tryz.prog sortM_ren:={
  mixed:=by kernel_rfl
  f6:=⟨Tryz.f52.name,by decide,Tryz.func52.trans (congrArg some (by kernel_rfl))⟩
  f8:=Tryz.func100.trans (congrArg some (by kernel_rfl))
  f9:=⟨Tryz.f99.name,by decide,Tryz.func99.trans (congrArg some (by kernel_rfl))⟩
  f19:=Tryz.func156.trans (congrArg some (by kernel_rfl))
  f20:=Tryz.func157.trans (congrArg some (by kernel_rfl))
  f21:=⟨Tryz.f147.name,by decide,Tryz.func147.trans (congrArg some (by kernel_rfl))⟩
  f22:=⟨Tryz.f148.name,by decide,Tryz.func148.trans (congrArg some (by kernel_rfl))⟩
  f23:=⟨Tryz.f149.name,by decide,Tryz.func149.trans (congrArg some (by kernel_rfl))⟩
  f24:=⟨Tryz.f150.name,by decide,Tryz.func150.trans (congrArg some (by kernel_rfl))⟩
  f25:=⟨Tryz.f151.name,by decide,Tryz.func151.trans (congrArg some (by kernel_rfl))⟩
  f26:=⟨Tryz.f152.name,by decide,Tryz.func152.trans (congrArg some (by kernel_rfl))⟩
  f27:=⟨Tryz.f153.name,by decide,Tryz.func153.trans (congrArg some (by kernel_rfl))⟩
  f28:=⟨Tryz.f154.name,by decide,Tryz.func154.trans (congrArg some (by kernel_rfl))⟩
  f29:=⟨Tryz.f155.name,by decide,Tryz.func155.trans (congrArg some (by kernel_rfl))⟩
  f31:=Tryz.func188.trans (congrArg some (by kernel_rfl))
  f32:=Tryz.func189.trans (congrArg some (by kernel_rfl))
  f36:=⟨Tryz.f187.name,by decide,Tryz.func187.trans (congrArg some (by kernel_rfl))⟩
  f37:=⟨Tryz.f190.name,by decide,Tryz.func190.trans (congrArg some (by kernel_rfl))⟩
  f38:=⟨Tryz.f191.name,by decide,Tryz.func191.trans (congrArg some (by kernel_rfl))⟩
  f39:=⟨Tryz.f192.name,by decide,Tryz.func192.trans (congrArg some (by kernel_rfl))⟩
  f41:=⟨Tryz.f216.name,by decide,Tryz.func216.trans (congrArg some (by kernel_rfl))⟩
  t0:=Tryz.underlying0
  a0:=Tryz.isAgg0
  z0:=Tryz.sizeOf0
  v0:=Tryz.zeroValue0
  t3:=Tryz.underlying3
  a3:=Tryz.isAgg3
  z3:=Tryz.sizeOf3
  v3:=Tryz.zeroValue3
  t4:=Tryz.underlying4
  a4:=Tryz.isAgg4
  z4:=Tryz.sizeOf4
  v4:=Tryz.zeroValue4
  t5:=Tryz.underlying5
  a5:=Tryz.isAgg5
  z5:=Tryz.sizeOf5
  v5:=Tryz.zeroValue5
  t9:=Tryz.underlying9
  a9:=Tryz.isAgg9
  z9:=Tryz.sizeOf9
  v9:=Tryz.zeroValue9
  t26:=Tryz.underlying37
  a26:=Tryz.isAgg37
  z26:=Tryz.sizeOf37
  v26:=Tryz.zeroValue37
  t27:=Tryz.underlying37
  a27:=Tryz.isAgg37
  z27:=Tryz.sizeOf37
  v27:=Tryz.zeroValue37
  t29:=Tryz.underlying9
  a29:=Tryz.isAgg9
  z29:=Tryz.sizeOf9
  v29:=Tryz.zeroValue9
  t32:=Tryz.underlying171
  a32:=Tryz.isAgg171
  z32:=Tryz.sizeOf171
  v32:=Tryz.zeroValue171
  t35:=Tryz.underlying230
  a35:=Tryz.isAgg230
  z35:=Tryz.sizeOf230
  v35:=Tryz.zeroValue230
  t36:=Tryz.underlying231
  a36:=Tryz.isAgg231
  z36:=Tryz.sizeOf231
  v36:=Tryz.zeroValue231
  t41:=Tryz.underlying235
  a41:=Tryz.isAgg235
  z41:=Tryz.sizeOf235
  v41:=Tryz.zeroValue235
  t44:=Tryz.underlying238
  a44:=Tryz.isAgg238
  z44:=Tryz.sizeOf238
  v44:=Tryz.zeroValue238
  t46:=Tryz.underlying128
  a46:=Tryz.isAgg128
  z46:=Tryz.sizeOf128
  v46:=Tryz.zeroValue128
  t53:=Tryz.underlying267
  a53:=Tryz.isAgg267
  z53:=Tryz.sizeOf267
  v53:=Tryz.zeroValue267
  t57:=Tryz.underlying271
  a57:=Tryz.isAgg271
  z57:=Tryz.sizeOf271
  v57:=Tryz.zeroValue271
  t63:=Tryz.underlying292
  a63:=Tryz.isAgg292
  z63:=Tryz.sizeOf292
  v63:=Tryz.zeroValue292
  t64:=Tryz.underlying293
  a64:=Tryz.isAgg293
  z64:=Tryz.sizeOf293
  v64:=Tryz.zeroValue293 }
end
section
open Go.RowKit Go.Lib
theorem beforeL_lt:∀a b:List UInt8,beforeL a b=decide (a<b)
  | [],[]=>rfl
  | [],b::m=>by
    have:([]:List UInt8)<b::m:=List.nil_lt_cons b m;rw [decide_eq_true this];rfl
  | a::l,[]=>by
    have:¬(a::l)<([]:List UInt8):=List.not_lt_nil _;rw [decide_eq_false this];rfl
  | a::l,b::m=>by
    have ih:=beforeL_lt l m;rw [beforeL]
    by_cases e:a=b
    · subst e
      rw [if_pos rfl,ih];have:(a::l<a::m) ↔ l<m:=List.cons_lt_cons_self;simp only [this]
    · rw [if_neg e]
      have:(a::l<b::m) ↔ a<b:=by rw [List.cons_lt_cons_iff];simp [e]
      simp only [this,UInt8.lt_iff_toNat_lt]
theorem beforeS_irr (a:ByteArray):beforeS a a=false:=by
 unfold beforeS;rw [beforeL_lt];simp
theorem beforeS_trans {a b c:ByteArray} (h1:beforeS a b=true) (h2:beforeS b c=true):beforeS a c=true:=by
 unfold beforeS at *;rw [beforeL_lt,decide_eq_true_eq] at *;exact List.lt_trans h1 h2
theorem beforeS_tot {a b:ByteArray} (h:beforeS a b=false) (hne:a≠b):beforeS b a=true:=by
 unfold beforeS at *;rw [beforeL_lt,decide_eq_false_iff_not] at h;rw [beforeL_lt,decide_eq_true_eq];have h1:b.data.toList≤a.data.toList:=List.not_lt.1 h
 rcases Decidable.em (b.data.toList<a.data.toList) with h2|h2
 · exact h2
 · exact absurd (ByteArray.ext (Array.toList_inj.1 (List.le_antisymm (List.not_lt.1 h2) h1))) hne
abbrev SrtB (l:List ByteArray):Prop:=l.Pairwise fun a b=>beforeS a b=true
theorem srtB_eq:∀{l m:List ByteArray},SrtB l→SrtB m→(∀x,x∈l ↔ x∈m)→l=m
  | [],[],_,_,_=>rfl
  | [],b::m,_,_,h=>by have:=(h b).2 (by simp);cases this
  | a::l,[],_,_,h=>by have:=(h a).1 (by simp);cases this
  | a::l,b::m,hl,hm,h=>by
    have hl:=List.pairwise_cons.1 hl;have hm:=List.pairwise_cons.1 hm;have hasy:∀{x y:ByteArray},beforeS x y=true→beforeS y x=true→False:=fun h1 h2=>by
     have:=beforeS_trans h1 h2;rw [beforeS_irr] at this
     cases this
    have e:a=b:=by
     rcases List.mem_cons.1 ((h a).1 (by simp)) with h1|h1
     · exact h1
     · rcases List.mem_cons.1 ((h b).2 (by simp)) with h2|h2
       · exact h2.symm
       · exact (hasy (hm.1 a h1) (hl.1 b h2)).elim
    subst e;refine congrArg (a::·) (srtB_eq hl.2 hm.2 fun x=>⟨fun hx=>?_,fun hx=>?_⟩)
    · rcases List.mem_cons.1 ((h x).1 (List.mem_cons_of_mem _ hx)) with h1|h1
      · subst h1;exact absurd (hl.1 x hx) (by rw [beforeS_irr];decide)
      · exact h1
    · rcases List.mem_cons.1 ((h x).2 (List.mem_cons_of_mem _ hx)) with h1|h1
      · subst h1;exact absurd (hm.1 x hx) (by rw [beforeS_irr];decide)
      · exact h1
end
end Go.Proofs.YtkcdhaallnhhmaaGreat
