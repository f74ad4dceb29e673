/- Part 25 of the proof: Win3, Win4, StoQ, FlA, Stead, StoB, StoH, ShComp. -/
import Derived.Shelf.SlicesE.Compact
import Derived.Test.YtkcdhaallnhhmaaGreatQ07
import Derived.Test.YtkcdhaallnhhmaaGreatQ24
namespace Go.Proofs.YtkcdhaallnhhmaaGreat
set_option linter.unusedSimpArgs false
set_option linter.unusedVariables false
set_option linter.unusedSectionVars false
set_option maxRecDepth 100000
set_option maxHeartbeats 16000000
section
open Go.RowKit Go.Lib
theorem box_below {w wr w':World} {B:Nat} {cs:Array Value} {T:TypeId} (h:wr.heap[B]?=some (.cells cs T (0,0))) (hb:jB wr w'):w'.heap[B]?=some (.cells cs T (0,0)) :=
 jK hb h
theorem wideTotal_any (v:Value) (l:List Int) (w:World) (hv:RowIn 1 nmC w v l) (hl:l.length≤1000000) (hi:∀n∈l,0≤n∧n≤9223372036854775807) :
 Calls Tryz.prog 225 #[v] w (jP w (twoV (totN l))):=by
 obtain ⟨A,c,rfl⟩:=hv.form;have HV:=jH hv;have HI:=jH hi;have HL:=jH hl;have hl9:l.length≤9223372036854775807:=by omega
 clear hv hi hl
 go_enter Tryz.func225,Tryz.ntmps225
 go_wp2
 go_loopg [8] l.length (fun g s8 wr=>∃(k a b:Nat),k≤l.length∧l.length - k≤g∧s8=.int .i64 k∧Hid (a=totN (l.take k) / 18446744073709551616∧b=totN (l.take k) % 18446744073709551616)∧jB w wr∧wr.heap[w.heap.size]?=some (.cells #[.int .u64 0,.int .u64 0] 297 (0,0))∧wr.heap[w.heap.size+1]?=some (.cells #[.int .u64 a,.int .u64 b] 297 (0,0)))
 case atStart=>exact ⟨0,0,0,Nat.zero_le _,Nat.le_refl _,rfl,jH (by simp [totN]),balloc (balloc jR _) _,box_old _ _ _,box_new _ _ _⟩
 case round =>
  obtain ⟨k,a,b,hk,hg,rfl,HAB,hb,hz,hq⟩:=hrel;rename World=>wr
  have HB:=jH hb;have HZ:=jH hz;have HQ:=jH hq;obtain ⟨a1,a2,a3⟩:=box_cells jR hz;obtain ⟨c1,c2,c3⟩:=box_cells jR hq;clear hb hz hq
  by_cases hlt:k<l.length
  · obtain ⟨b1,o1,rfl,hb1,hc⟩:=(HV.out.below HB.out).at_ hlt
    have z1:(0:Int)≤(k:Int):=by omega
    have z2:(k:Int)<(l.length:Int):=by omega
    have HTK:=jH (show totN (l.take (k+1))=totN (l.take k)+l[k].toNat by rw [List.take_succ_eq_append_getElem hlt,totN_snoc]);have hx:=HI.out _ (List.getElem_mem hlt);have HTL:=jH (show totN (l.take k)≤1000000 * 9223372036854775807 from Nat.le_trans (totN_le (fun n hn=>(HI.out n (List.mem_of_mem_take hn)).2)) (Nat.mul_le_mul_right _ (by rw [List.length_take];have:=HL.out;omega)));generalize l[k]=x at hc HTK hx
    have d0:=hc 0 _ rfl;rw [Nat.add_zero,Nat.mul_one] at d0;have HK:=jH hlt;clear hc
    by_cases h0:0<x
    · obtain ⟨y,rfl⟩:∃y:Nat,x=y:=⟨x.toNat,by omega⟩
      have hy:y≤9223372036854775807:=by omega
      have q1:IntKind.u64.wrap (y:Int)=(y:Int):=u64_wrap y (by omega);obtain ⟨a',ha'⟩:∃a',a'=totN (l.take (k+1)) / 18446744073709551616:=⟨_,rfl⟩;obtain ⟨b',hb'⟩:∃b',b'=totN (l.take (k+1)) % 18446744073709551616:=⟨_,rfl⟩;have HAB2:=jH (And.intro ha' hb');have CA:=jH (fun W=>show Calls Tryz.prog 226 #[.agg #[.int .u64 a,.int .u64 b],.agg #[.int .u64 0,.int .u64 y]] W (jP W (.tuple #[.agg #[.int .u64 a',.int .u64 b'],.bool true])) from by
       have h:=wideAdd_any (totN (l.take k)) y (by have:=HTL.out;omega) W;have e1:y / 18446744073709551616=0:=Nat.div_eq_of_lt (by omega);have e2:y % 18446744073709551616=y:=Nat.mod_eq_of_lt (by omega);have e3:totN (l.take k)+y=totN (l.take (k+1)):=by rw [HTK.out];simp
       unfold twoV at h;rw [e3,e1,e2,←HAB.out.1,←HAB.out.2,←ha',←hb'] at h;exact h)
      have h0':(0:Int)<(y:Int):=h0;clear ha' hb' hx hy h0
      as_aux_lemma =>
      go_wp2_with (first
       | (go_at_call 226
          refine (CA.out wr).mono ?_;rintro e w3 ⟨rfl,hb3⟩;have HZ3:=jH (box_below (w:=w) HZ.out hb3);have HQ3:=jH (box_below (w:=w) HQ.out hb3);obtain ⟨e1,e2,e3⟩:=box_cells jR HQ3.out;have HB3:=jH (bthen HB.out hb3);clear hb3))
      go_roundg (l.length - (k+1))
      case measure=>omega
      case rel=>exact ⟨k+1,a',b',HK.out,Nat.le_refl _,by go_num,HAB2,(HB3.out.setCell (by simp) _).setCell (by simp) _,heap_set_ne (heap_set_ne HZ3.out (by omega)) (by omega),setCell_block (setCell_block HQ3.out)⟩
    · obtain rfl:x=0:=by omega
      have e3:totN (l.take (k+1))=totN (l.take k):=by rw [HTK.out];simp
      have HAB2:=jH (show a=totN (l.take (k+1)) / 18446744073709551616∧b=totN (l.take (k+1)) % 18446744073709551616 by rw [e3];exact HAB.out);clear e3 hx h0
      as_aux_lemma =>
      go_wp2_with fail
      go_roundg (l.length - (k+1))
      case measure=>omega
      case rel=>exact ⟨k+1,a,b,HK.out,Nat.le_refl _,by go_num,HAB2,HB.out,HZ.out,HQ.out⟩
  · obtain rfl:k=l.length:=by omega
    rw [List.take_length] at HAB;go_wp2_with fail
    have hz2:=setCell_block (i:=1) (v:=.int .u64 b) (setCell_block (i:=0) (v:=.int .u64 a) HZ.out);obtain ⟨f1,f2,f3⟩:=box_cells jR hz2;refine bodyPost_ret (v:=.agg #[.int .u64 a,.int .u64 b]) (by simp [results,Tryz.results225,go_sem,f1]) rfl ⟨?_,(HB.out.setCell (Nat.le_refl _) _).setCell (Nat.le_refl _) _⟩;unfold twoV;rw [HAB.out.1,HAB.out.2]
end
section
open Go.RowKit Go.Lib
theorem mean_law (t d:Nat) (hd:0<d):(t+(d - 1)) / d=if 0<t % d then t / d+1 else t / d:=by
 have h:=Nat.div_add_mod t d;have hm:=Nat.mod_lt t hd;generalize t / d=q at *;generalize t % d=r at *;subst h
 split
 · rw [Nat.add_assoc,Nat.mul_add_div hd]
   have:(r+(d - 1)) / d=1:=by
    rw [Nat.div_eq_iff hd];omega
   omega
 · rw [Nat.add_assoc,Nat.mul_add_div hd,Nat.div_eq_of_lt (by omega)]
   rfl
theorem wideMean_any (v:Value) (l:List Int) (w:World) (hv:RowIn 1 nmC w v l) (hl:l.length≤1000000) (hi:∀n∈l,0≤n∧n≤9223372036854775807) :
 Calls Tryz.prog 201 #[v] w (jP w (.int .i64 (meanN l:Nat))):=by
 obtain ⟨A,c,rfl⟩:=hv.form;have hl9:l.length≤9223372036854775807:=by omega
 by_cases hne:l=[]
 · have q1:(l.length:Int)=0:=by rw [hne];rfl
   have HM:=jH (show meanN l=0 by rw [hne];rfl);have q2:((l.length:Int) == 0)=true:=by simp [hne]
   clear hv hi hne
   go_enter Tryz.func201,Tryz.ntmps201
   go_wp2_with fail
   go_ret
   exact ⟨by rw [HM.out];rfl,jR⟩
 · have hp:0<l.length:=List.length_pos_iff.2 hne
   have CT:=jH (wideTotal_any _ l w hv hl hi);have htl:=totN_le (fun n hn=>(hi n hn).2);have hml:=meanN_le (fun n hn=>(hi n hn).2);have hmn:meanN l=if 0<totN l % l.length then totN l / l.length+1 else totN l / l.length:=by
    unfold meanN;rw [if_neg hne,mean_law _ _ hp]
   have q0:¬(l.length:Int)=0:=by omega
   have q1:((l.length:Int) == 0)=false:=by simpa using hne
   have q2:IntKind.u64.wrap (l.length:Int)=(l.length:Int):=u64_wrap _ (by omega);have htl2:totN l≤1000000 * 9223372036854775807:=Nat.le_trans htl (Nat.mul_le_mul_right _ hl);generalize totN l=t at CT hmn htl2;generalize hm:meanN l=m at hml hmn ⊢;obtain ⟨qa,hqa⟩:∃qa,qa=t / l.length / 18446744073709551616:=⟨_,rfl⟩;obtain ⟨qb,hqb⟩:∃qb,qb=t / l.length % 18446744073709551616:=⟨_,rfl⟩;obtain ⟨r,hr⟩:∃r,r=t % l.length:=⟨_,rfl⟩
   obtain ⟨n,hn⟩:∃n,n=l.length:=⟨_,rfl⟩;have hqle:t / l.length≤t:=Nat.div_le_self _ _;have CD:=jH (fun W=>show Calls Tryz.prog 224 #[twoV t,.int .u64 l.length] W (jP W (.tuple #[.agg #[.int .u64 qa,.int .u64 qb],.int .u64 r,.bool true])) from by
    have h:=wideDiv_any t l.length (by omega) hp (by omega) W;unfold twoV at h ⊢;rw [←hqa,←hqb,←hr] at h;exact h)
   by_cases hr0:0<r
   · rw [←hr,if_pos hr0] at hmn
     have CA:=jH (fun W=>show Calls Tryz.prog 226 #[.agg #[.int .u64 qa,.int .u64 qb],.agg #[.int .u64 0,.int .u64 1]] W (jP W (.tuple #[.agg #[.int .u64 0,.int .u64 m],.bool true])) from by
      have h:=wideAdd_any (t / l.length) 1 (by omega) W;unfold twoV at h;rw [←hqa,←hqb,←hmn,show m / 18446744073709551616=0 from Nat.div_eq_of_lt (by omega),show m % 18446744073709551616=m from Nat.mod_eq_of_lt (by omega)] at h;exact h)
     have CS:=jH (fun W=>show Calls Tryz.prog 227 #[.agg #[.int .u64 0,.int .u64 m]] W (jP W (.int .i64 m)) from by
      have h:=wideSmall_any m hml W;unfold twoV at h;rw [show m / 18446744073709551616=0 from Nat.div_eq_of_lt (by omega),show m % 18446744073709551616=m from Nat.mod_eq_of_lt (by omega)] at h;exact h)
     have q5:(0:Int)<(r:Int):=by omega
     clear hv hi hne hp htl hml hmn htl2 hqa hqb hr hn hqle hr0 hm n
     go_enter Tryz.func201,Tryz.ntmps201
     go_wp2_with (first
      | (go_at_call 225
         refine CT.out.mono ?_;rintro e w1 ⟨rfl,hb1⟩;have HB1:=jH hb1;clear hb1)
      | (go_at_call 224
         refine (CD.out w1).mono ?_;rintro e w2 ⟨rfl,hb2⟩;have HB2:=jH (bthen HB1.out hb2);clear hb2)
      | (go_at_call 226
         refine calls_named ?_;intro W3 hW3;have hb3:jB w2 W3:=by rw [hW3];exact balloc jR _
         have hx3:W3.heap[w2.heap.size]?=some (.cells #[.int .u64 qa,.int .u64 qb] 297 (0,0)):=by rw [hW3];exact heap_alloc_new _ _
         clear hW3;refine (CA.out W3).mono ?_;rintro e w4 ⟨rfl,hb4⟩;have HX4:=jH (box_below (w:=w) hx3 hb4);obtain ⟨e1,e2,e3⟩:=box_cells jR HX4.out;have HB4:=jH (bthen HB2.out (bthen hb3 hb4));have HS4:=jH (show w.heap.size≤w2.heap.size from HB2.out.size);clear hb3 hx3 hb4)
      | (go_at_call 227
         refine (CS.out _).mono ?_;rintro e w5 ⟨rfl,hb5⟩;have HB5:=jH (bthen ((HB4.out.setCell HS4.out _).setCell HS4.out _) hb5);clear hb5))
     go_ret
     exact ⟨rfl,HB5.out⟩
   · rw [←hr,if_neg hr0] at hmn
     have CS:=jH (fun W=>show Calls Tryz.prog 227 #[.agg #[.int .u64 qa,.int .u64 qb]] W (jP W (.int .i64 m)) from by
      have h:=wideSmall_any m hml W;unfold twoV at h;rw [hmn,←hqa,←hqb] at h;rw [hmn];exact h)
     obtain rfl:r=0:=by omega
     clear hv hi hne hp htl hml hmn htl2 hqa hqb hr hn hqle hr0 hm n
     go_enter Tryz.func201,Tryz.ntmps201
     go_wp2_with (first
      | (go_at_call 225
         refine CT.out.mono ?_;rintro e w1 ⟨rfl,hb1⟩;have HB1:=jH hb1;clear hb1)
      | (go_at_call 224
         refine (CD.out w1).mono ?_;rintro e w2 ⟨rfl,hb2⟩;have HB2:=jH (bthen HB1.out hb2);clear hb2)
      | (go_at_call 227
         refine (CS.out _).mono ?_;rintro e w5 ⟨rfl,hb5⟩;have HB5:=jH (bthen (balloc HB2.out _) hb5);clear hb5))
     go_ret
     exact ⟨rfl,HB5.out⟩
end
section
open Go.RowKit Go.Lib Go.Sort
theorem findIt_mem {l:List Itm} {k:Ky} {y:Nd} (h:findIt l k=some y):(k,y)∈l:=by
 unfold findIt at h;obtain ⟨q,hq,rfl⟩:=Option.map_eq_some_iff.1 h;have h1:=List.find?_some hq;simp at h1
 rw [←h1];exact List.mem_of_find?_eq_some hq
theorem findIt_none {l:List Itm} {k:Ky} (h:∀p∈l,p.1≠k):findIt l k=none:=by
 unfold findIt;rw [List.find?_eq_none.2 (fun p hp=>by simpa using h p hp)];rfl
theorem findIt_append (a b:List Itm) (k:Ky):findIt (a++b) k=(findIt a k).or (findIt b k):=by
 unfold findIt;rw [List.find?_append]
 cases List.find? (fun p=>decide (p.1=k)) a <;> rfl
theorem findIt_sorted {R:List Itm} (hs:(R.map (·.1)).Pairwise (fun a b=>ltK a b=true)) {k:Ky} {y:Nd} (h:(k,y)∈R):findIt R k=some y:=by
 unfold findIt
 cases hf:R.find? (fun p=>decide (p.1=k)) with
 | none=>exact absurd (List.find?_eq_none.1 hf (k,y) h) (by simp)
 | some q =>
   have h1:=List.find?_some hf;simp at h1
   have h2:=List.mem_of_find?_eq_some hf;obtain ⟨a,b⟩:=q;obtain rfl:a=k:=h1;rw [sorted_at_unique hs h2 h];rfl
theorem flat_none {ll:List (List Itm)} {k:Ky} (h:∀l∈ll,findIt l k=none):findIt ll.flatten k=none:=by
 induction ll with
 | nil=>rfl
 | cons l ll ih =>
   rw [List.flatten_cons,findIt_append,h l (by simp),Option.none_or];exact ih (fun m hm=>h m (by simp [hm]))
theorem flat_at {ll:List (List Itm)} {k:Ky} {i:Nat} {R:List Itm} (hi:ll[i]?=some R) (h:∀j l,ll[j]?=some l→j≠i→findIt l k=none):findIt ll.flatten k=findIt R k:=by
 induction ll generalizing i with
 | nil=>simp at hi
 | cons l ll ih =>
   rw [List.flatten_cons,findIt_append]
   cases i with
   | zero =>
     simp at hi
     subst hi;rw [flat_none (fun m hm=>by
      obtain ⟨j,hj⟩:=List.getElem?_of_mem hm;exact h (j+1) m (by simpa using hj) (by omega))]
     exact Option.or_none
   | succ i =>
     rw [h 0 l (by simp) (by omega),Option.none_or];exact ih (by simpa using hi) (fun j m hm hj=>h (j+1) m (by simpa using hm) (by omega))
theorem load_home {c:Cfg} {wd:Wd} (h:HomeOk c wd) {k:Ky} {i:Nat} {R:List Itm} (hi:wd.st[i]?=some R) (hk:routeI k.1 k.2 c.st=(i:Int)):findIt (allW wd) k=findIt R k :=
 flat_at hi (fun j l hl hj=>findIt_none (fun p hp e=>hj (by
  have:=h j l hl p hp;rw [e,hk] at this;omega)))
theorem HomeOk.set {c:Cfg} {wd:Wd} (h:HomeOk c wd) {i:Nat} {R:List Itm} (hR:∀p∈R,routeI p.1.1 p.1.2 c.st=(i:Int)):HomeOk c { wd with st:=wd.st.set i R }:=by
 intro j Q hQ p hp;have hQ:(wd.st.set i R)[j]?=some Q:=hQ;rw [List.getElem?_set] at hQ
 split at hQ
 · rename_i e
   split at hQ
   · injection hQ with hQ
     subst hQ;rw [←e];exact hR p hp
   · cases hQ
 · exact h j Q hQ p hp
theorem atW_lt {c:Cfg} {wd:Wd} {id:ByteArray} (hst:okSt c.st=true) (hl:(wd.st.length:Int)=c.st):atW c id<wd.st.length∧routeI (keyK id).1 (keyK id).2 c.st=(atW c id:Int):=by
 obtain ⟨h0,h1⟩:=route_lt (hi:=(keyK id).1) (lo:=(keyK id).2) hst;unfold atW;omega
theorem homeOk_trim {c:Cfg} {wd:Wd} {cut:Int} (h:HomeOk c wd):HomeOk c (trimW wd cut):=by
 intro i R hR p hp;have hR:(wd.st.map fun l=>l.map fun p=>(p.1,trimR cut p.2))[i]?=some R:=hR;rw [List.getElem?_map] at hR;obtain ⟨Q,hQ,rfl⟩:=Option.map_eq_some_iff.1 hR;obtain ⟨q,hq,rfl⟩:=List.mem_map.1 hp;exact h i Q hQ q hq
theorem homeOk_new (c:Cfg) (n:Nat):HomeOk c (newW n):=by
 intro i R hR p hp;have:=List.mem_of_getElem? hR;rw [List.eq_of_mem_replicate this] at hp
 cases hp
theorem tot_new (n:Nat):(allW (newW n)).length=0:=by simp [allW,newW]
end
section
open Go.RowKit Go.Lib
theorem flTells_new (c:Cfg) (k:Nat) (hk:(k:Int)=c.st):FlTells c [] (newW k):=by
 have hall:allW (newW k)=[]:=by
  have:=tot_new k;exact List.eq_nil_of_length_eq_zero this
 refine ⟨⟨(fun p hp=>by cases hp),fun s _=>?_⟩,fun p hp=>?_,fun i R hR=>?_,fun R hR=>?_,homeOk_new c k,?_,List.nodup_nil⟩
 · show findIt (allW (newW k)) (keyK s.1)=none
   rw [hall];rfl
 · rw [hall] at hp
   cases hp
 · have:=List.eq_of_mem_replicate (List.mem_of_getElem? hR)
   rw [this];rfl
 · rw [List.eq_of_mem_replicate hR]
   exact List.Pairwise.nil
 · rw [←hk]
   simp [newW]
theorem flNew_ok (c:Cfg) (rs rh k:Nat) (w:World) (hc:c.ok) (hb:cfgE c=0) (hk:(k:Int)=c.st) :
 Calls Tryz.prog 10 #[cfgV c] w fun e w'=>∃M d,e=.returned (.pointer (some ⟨M,0,none⟩))∧FlatAt (fun b=>b≠M∧b≠d.L) w' M c rs rh 0 (newW k) d∧w.heap.size≤M∧w.heap.size≤d.L∧jB w w':=by
 have CR:=jH (fun W=>nodeRight_any c W hc);rw [hb] at CR;have hmm:=@run_makeMap Tryz.prog;have HTL:=jH (flTells_new c k hk);unfold cfgV at CR ⊢;clear hc hb hk
 go_enter Tryz.func10,Tryz.ntmps10
 go_wp2_with (first
  | (go_at_call 43
     refine calls_named ?_;intro W1 hW1;have hb1:jB w W1:=by rw [hW1];exact balloc jR _
     have hx1:W1.heap[w.heap.size]?=some (.cells #[.int .i64 c.st,.int .i64 c.sa,.int .i64 c.lo,.int .i64 c.hi] 23 (0,0)):=by rw [hW1];exact heap_alloc_new _ _
     clear hW1;refine (CR.out W1).mono ?_;rintro e w2 ⟨rfl,hb2⟩;have HB2:=jH (bthen hb1 hb2);obtain ⟨a1,a2,a3⟩:=box_cells hb2 hx1;clear hb1 hb2 hx1))
 refine post_named ?_;intro W9 hW9;have hW9':W9=(w2.alloc (.map #[] 0)).alloc (.cells #[.int .i64 c.st,.int .i64 c.sa,.int .i64 c.lo,.int .i64 c.hi,.map (some w2.heap.size),.slice none 0 0,.int .i64 0,.bool false] 97 (0,0)):=hW9;have hd9:jB w2 W9:=by rw [hW9'];exact balloc (balloc jR _) _
 have hm9:MapIn skV ldV W9 w2.heap.size ([]:List (SK × It)):=by
  rw [hW9'];exact (MapIn.made w2).below (balloc jR _)
 have hc9:W9.heap[w2.heap.size+1]?=some (.cells #[.int .i64 c.st,.int .i64 c.sa,.int .i64 c.lo,.int .i64 c.hi,.map (some w2.heap.size),.slice none 0 0,.int .i64 0,.bool false] 97 (0,0)):=by rw [hW9'];exact box_new _ _ _
 clear hW9 hW9';have hs2:=HB2.out.size;have hf9:FlatAt (fun b=>b≠w2.heap.size+1∧b≠w2.heap.size) W9 (w2.heap.size+1) c rs rh 0 (newW k) ⟨w2.heap.size,[],none,0,[]⟩ :=
  ⟨⟨hc9,hm9,by show w2.heap.size+1≠w2.heap.size;omega,fun b hb=>hb,(fun p hp=>by cases hp),rfl,RowG.nil,(fun i x q hx hq=>by cases hx)⟩,HTL.out⟩
 exact bodyPost_ret (v:=.pointer (some ⟨w2.heap.size+1,0,none⟩)) (by simp [results,Tryz.results10,go_sem]) rfl ⟨w2.heap.size+1,⟨w2.heap.size,[],none,0,[]⟩,rfl,hf9,by omega,hs2,bthen HB2.out hd9⟩
theorem flHome_any (M:Nat) (c:Cfg) {cs:Array Value} {T:TypeId} (id:ByteArray) (w:World) (h:w.heap[M]?=some (.cells cs T (0,0))) (h0:cs[0]?=some (.int .i64 c.st)) (hst:okSt c.st=true) (hm:id.size≤maxLen) :
 Calls Tryz.prog 163 #[.pointer (some ⟨M,0,none⟩),.string id] w (jP w (.int .i64 (routeI (keyK id).1 (keyK id).2 c.st))):=by
 have hbd:=okSt_bd _ hst;obtain ⟨pe,hpe⟩:∃pe:Int,packV id=.tuple #[.agg #[.int .u64 (keyK id).1,.int .u64 (keyK id).2],.int .i64 pe]:=by
  unfold packV keyK
  cases idS id with
  | true=>exact ⟨0,rfl⟩
  | false=>exact ⟨2,rfl⟩
 have CP:=jH (fun W=>show Calls Tryz.prog 108 #[.string id] W (jP W (.tuple #[.agg #[.int .u64 (keyK id).1,.int .u64 (keyK id).2],.int .i64 pe])) from hpe ▸ pack_any id W hm);have hk:=keyK_ok id;have CR:=jH (fun W=>routeOf_any (keyK id).1 (keyK id).2 c.st W hk.1 hk.2 (by unfold I64;omega));generalize keyK id=k at *;have HM:=jH h;have rm:∀U,jB w U→U.cell? ⟨M,0,none⟩=some (.int .i64 c.st):=fun U hU=>((box_cells hU h).1 0).trans h0
 have hlt:M<w.heap.size:=(jL h);clear h h0 hpe hk hbd hst hm
 go_enter Tryz.func163,Tryz.ntmps163
 go_upto_region 2 with (first
  | (go_at_call 108
     refine (CP.out w).mono ?_;rintro e w2 ⟨rfl,hb2⟩;have HB2:=jH hb2;clear hb2))
 refine name_world ?_;intro W hW;have hdW:jB w2 W:=by rw [hW];exact balloc jR _
 have hk9:W.heap[w2.heap.size]?=some (.cells #[.int .u64 k.1,.int .u64 k.2] 130 (0,0)):=by rw [hW];exact heap_alloc_new _ _
 have HB:=jH (bthen HB2.out hdW);have HK:=jH hk9;clear hW hdW hk9;have rk:∀U,jB W U→∀j,U.cell? ⟨w2.heap.size,j,none⟩=(#[.int .u64 k.1,.int .u64 k.2]:Array Value)[j]?:=fun U hU j=>(box_cells hU HK.out).1 j
 have rn:∀U,jB W U→U.cell? ⟨M,0,none⟩=some (.int .i64 c.st):=fun U hU=>rm U (bthen HB.out hU)
 clear rm;have hS00:jB W W:=jR;have hS0:jB W W.drew:=hS00.drew
 go_region_held3 (fun U=>jB W U)
   (first
     | with_reducible exact hS0
     | with_reducible exact hS00
     | with_reducible exact HB5.out)
   (first
     | (go_at_call 193
        refine calls_named ?_;intro V hV;have hd:jB W V:=by rw [hV];first|assumption|exact jR|exact jR.drew
        clear hV;refine (CR.out V).mono ?_;rintro e w5 ⟨rfl,hb5⟩;have HB5:=jH (bthen hd hb5);clear hb5 hd))
 all_goals go_wp2
 all_goals go_ret
 all_goals exact ⟨rfl,bthen HB.out HB5.out⟩
end
section
open Go.RowKit Go.Lib
theorem ref15_any (p:Pol) (tick want:Int) (v:Value) (l:List Adv) (w:World) (hv:RowIn 5 advC w v l) (hl:l.length≤1000000) (h1:I64 tick) (h2:I64 p.hold) :
 Calls Tryz.prog 133 #[polV p,.int .i64 tick,.int .i64 want,v] w (jP w (.tuple #[.int .i64 (steadyI p tick want l).1,.bool (steadyI p tick want l).2])):=by
 have C1:=jH (fun W (h:RowIn 5 advC W v l)=>refHigh_any v l tick p.hold W h hl h1 h2);have HR:=jH (hv.below (balloc (Below.refl w.heap.size w) (.cells #[.int .i64 p.mn,.int .i64 p.mx,.int .i64 p.tg,.int .i64 p.tol,.int .i64 p.win,.int .i64 p.hold] 46)));obtain ⟨s,hs⟩:∃s,s=steadyI p tick want l:=⟨_,rfl⟩;rw [←hs];unfold steadyI at hs;generalize highI l tick p.hold=st at C1 hs;obtain ⟨best,is⟩:=st;dsimp only at hs C1
 clear hv hl h1 h2;unfold polV
 cases is
 · have HN:=jH (show s=(want,false) by rw [hs];exact if_neg (fun q=>absurd q.1 (by simp)))
   clear hs
   go_enter Tryz.func133,Tryz.ntmps133
   go_wp2_with (go_at_call 177;refine (C1.out _ HR.out).mono ?_;rintro e w2 ⟨rfl,hb2⟩;have HB:=jH hb2;clear hb2)
   exact bodyPost_ret (v:=.tuple #[.int .i64 want,.bool false]) (by simp [results,Tryz.results133,go_sem]) rfl ⟨by rw [HN.out],bthen (balloc jR _) HB.out⟩
 · by_cases q:want<best
   · have HN:=jH (show s=(best,true) by rw [hs];exact if_pos ⟨rfl,q⟩)
     clear hs
     go_enter Tryz.func133,Tryz.ntmps133
     go_wp2_with (go_at_call 177;refine (C1.out _ HR.out).mono ?_;rintro e w2 ⟨rfl,hb2⟩;have HB:=jH hb2;clear hb2)
     exact bodyPost_ret (v:=.tuple #[.int .i64 best,.bool true]) (by simp [results,Tryz.results133,go_sem]) rfl ⟨by rw [HN.out],bthen (balloc jR _) HB.out⟩
   · have HN:=jH (show s=(want,false) by rw [hs];exact if_neg (fun e=>q e.2))
     clear hs
     go_enter Tryz.func133,Tryz.ntmps133
     go_wp2_with (go_at_call 177;refine (C1.out _ HR.out).mono ?_;rintro e w2 ⟨rfl,hb2⟩;have HB:=jH hb2;clear hb2)
     exact bodyPost_ret (v:=.tuple #[.int .i64 want,.bool false]) (by simp [results,Tryz.results133,go_sem]) rfl ⟨by rw [HN.out],bthen (balloc jR _) HB.out⟩
end
section
open Go.RowKit Go.Lib Go.Sort
open Go.ChangeMaps (setBlock)
section
variable {B:Nat→Prop} {S:Nat} {c:Cfg} {rs rh n:Nat} {wd:Wd} {d:StoD}
theorem findT_out {t:List Int} {k:Int} (h:k<1∨(t.length:Nat)<k):findT t k=5:=by
 unfold findT;rw [if_pos h]
end
end
section
open Go.RowKit Go.Lib Go.Sort
section
variable {B:Nat→Prop} {S:Nat} {c:Cfg} {rs rh n:Nat} {wd:Wd} {d:StoD}
theorem getLast_nth {α:Type} {l:List α} (h:0<l.length):l.getLast?=some (l[l.length - 1]'(by omega)):=by
 rw [List.getLast?_eq_getElem?,List.getElem?_eq_getElem (by omega)]
end
end
section
open Go.Shelf
def compactM_ren:Go.Shelf.Ren:=⟨fun|43=>53|n=>n,fun|22=>37|23=>9|3=>3|4=>4|0=>0|n=>n,fun|n=>n⟩
theorem compactM:Go.Proofs.SlLaysE.n43 Tryz.prog compactM_ren:={
  mixed:=by kernel_rfl
  f43:=⟨Tryz.f53.name,by decide,Tryz.func53.trans (congrArg some (by kernel_rfl))⟩
  t0:=Tryz.underlying0
  a0:=Tryz.isAgg0
  z0:=Tryz.sizeOf0
  v0:=Tryz.zeroValue0
  t3:=Tryz.underlying3
  a3:=Tryz.isAgg3
  z3:=Tryz.sizeOf3
  v3:=Tryz.zeroValue3
  t4:=Tryz.underlying4
  a4:=Tryz.isAgg4
  z4:=Tryz.sizeOf4
  v4:=Tryz.zeroValue4
  t22:=Tryz.underlying37
  a22:=Tryz.isAgg37
  z22:=Tryz.sizeOf37
  v22:=Tryz.zeroValue37
  a23:=Tryz.isAgg9
  z23:=Tryz.sizeOf9 }
end
end Go.Proofs.YtkcdhaallnhhmaaGreat
