/- Part 23 of the proof. -/
import Derived.Test.YtmniiodpbebnmaaGreatJ22
namespace Go.Proofs.YtmniiodpbebnmaaGreat
set_option linter.unusedSimpArgs false
set_option linter.unusedVariables false
set_option linter.unusedSectionVars false
set_option maxRecDepth 100000
set_option maxHeartbeats 16000000
section
open Go.RowKit Go.Lib Go.Sort
def m1M (l:List En) (k:Ky):Nat:=(l.takeWhile fun x=>ltK x.1 k).length
def c0W (l:List En) (k:Ky):Option Nat:=(l.find? fun x=>decide (x.1=k)).map (·.2)
def Ris (l:List En):Prop:=∀i j (h1:i<l.length) (h2:j<l.length),i<j→ltK l[j].1 l[i].1=false
theorem m1F (l:List En):Ris (d0Q l):=by
 intro i j h1 h2 hij;have hp:(d0Q l).Pairwise (fun x y=>leS ltE x y=true):=List.pairwise_mergeSort (m0L j1B) (o0A j1B) l;have:=List.pairwise_iff_getElem.1 hp i j h1 h2 hij
 simpa [leS,ltE] using this
theorem u0X (k:Ky):∀(l:List En) (i:Nat),i≤l.length→(∀t (h:t<l.length),t<i→ltK l[t].1 k=true)→(∀h:i<l.length,ltK l[i].1 k=false)→m1M l k=i
  | [],i,h,_,_=>by simp at h;simp [m1M,h]
  | x::l,0,_,_,h=>by
    have:=h (by simp);simp at this
    simp [m1M,this]
  | x::l,i+1,hi,h1,h2=>by
    have hx:=h1 0 (by simp) (by omega);simp at hx
    have ih:=u0X k l i (by simpa using hi) (fun t ht hti=>by have:=h1 (t+1) (by simpa using ht) (by omega);simpa using this) (fun h=>by have:=h2 (by simpa using h);simpa using this);unfold m1M at ih ⊢;rw [List.takeWhile_cons,if_pos hx,List.length_cons,ih]
theorem n1E (k:Ky):∀l:List En,∃i,i≤l.length∧(∀t (h:t<l.length),t<i→ltK l[t].1 k=true)∧(∀h:i<l.length,ltK l[i].1 k=false)
  | []=>⟨0,Nat.le_refl _,fun t h=>absurd h (by simp),fun h=>absurd h (by simp)⟩
  | x::l=>by
    cases hx:ltK x.1 k with
    | false=>exact ⟨0,Nat.zero_le _,fun t _ h=>absurd h (by omega),fun _=>hx⟩
    | true =>
      obtain ⟨i,h1,h2,h3⟩:=n1E k l;refine ⟨i+1,by simpa using h1,fun t ht hti=>?_,fun h=>?_⟩
      · cases t with
        | zero=>exact hx
        | succ t=>simpa using h2 t (by simpa using ht) (by omega)
      · simpa using h3 (by simpa using h)
theorem n0Y (k:Ky):∀(l:List En) (i:Nat),Ris l→i≤l.length→(∀t (h:t<l.length),t<i→ltK l[t].1 k=true)→(∀h:i<l.length,ltK l[i].1 k=false) →
    c0W l k=if h:i<l.length then (if l[i].1=k then some l[i].2 else none) else none
  | [],i,_,h,_,_=>by simp [c0W]
  | x::l,0,hr,_,_,h=>by
    have h0:=h (by simp);simp at h0
    by_cases e:x.1=k
    · simp [c0W,e]
    · have hk:∀y∈l,y.1≠k:=by
       intro y hy e2;obtain ⟨j,hj,rfl⟩:=List.getElem_of_mem hy;have:=hr 0 (j+1) (by simp) (by simpa using hj) (by omega);simp at this
       rw [e2] at this;exact e (d0P h0 this)
      have hn:l.find? (fun x=>decide (x.1=k))=none:=by
       rw [List.find?_eq_none];intro y hy
       simpa using hk y hy
      simp [c0W,e,hn]
  | x::l,i+1,hr,hi,h1,h2=>by
    have hx:=h1 0 (by simp) (by omega);simp at hx
    have e:¬x.1=k:=by intro e;rw [e,c0H] at hx;cases hx
    have ih:=n0Y k l i (fun a b ha hb hab=>by have:=hr (a+1) (b+1) (by simpa using ha) (by simpa using hb) (by omega);simpa using this) (by simpa using hi) (fun t ht hti=>by have:=h1 (t+1) (by simpa using ht) (by omega);simpa using this) (fun h=>by have:=h2 (by simpa using h);simpa using this);have:c0W (x::l) k=c0W l k:=by simp [c0W,e]
    rw [this,ih];simp
theorem w0H (x:En) (k:Ky) (W:World):Calls Tryz.prog 171 #[.agg #[.int .u64 x.1.1,.int .u64 x.1.2,.pointer (some ⟨x.2,0,none⟩)],.agg #[.int .u64 k.1,.int .u64 k.2]] W fun e w'=>e=.returned (.int .i64 (h0B x.1.1 x.1.2 k.1 k.2))∧∃q os',w'=grow (W.drewN q) os':=by
 have HC:=jH (fun W=>q0O x.1 k W)
 go_enter Tryz.func171,Tryz.ntmps171
 go_wp2_with (first
  | (go_at_call 168
     refine (HC.out _).mono ?_;rintro e w1 ⟨rfl,q,os,rfl⟩))
 go_ret
 exact ⟨rfl,q,#[_]++(#[_]++os),by rw [←grow_grow,←grow_grow,←alloc_eq_grow,←alloc_eq_grow];rfl⟩
theorem s0S (x k:Ky):h0B x.1 x.2 k.1 k.2=0 ↔ x=k:=by
 obtain ⟨a,b⟩:=x;obtain ⟨c,d⟩:=k;unfold h0B
 constructor
 · intro h
   split at h
   · rename_i e;simpa using e
   · split at h <;> simp at h
 · intro h
   simp only [Prod.mk.injEq] at h
   rw [if_pos (by simpa using h)]
theorem o1T (x k:Ky):h0B x.1 x.2 k.1 k.2<0 ↔ ltK x k=true:=by
 have h:=congrFun (congrFun h0Z x) k;rw [←h];exact (decide_eq_true_iff ..).symm
theorem n1P {B:Nat} {w0 w:World} (h:Below B w0 w) (hB:B≤w.heap.size) (os:Array Obj):Below B w0 (grow w os) :=
 ⟨h.os,h.tape,h.output,Nat.le_trans h.size (by rw [size_grow];omega),fun k hk=>(Sort.heap_grow_old w os (by omega)).trans (h.block k hk)⟩
theorem f0D {w wr:World} {b o:Nat} {v:Value} (hb:jB w wr) (hl:b<w.heap.size) (h:w.cell? ⟨b,o,none⟩=some v) (n:Nat) (os:Array Obj):(grow (wr.drewN n) os).cell? ⟨b,o,none⟩=some v :=
 ((p1I (n1P (a0G hb n) (a0G hb n).size os)).1 b o hl).trans h
theorem l0B {w wr:World} (hb:jB w wr) (n:Nat) (os:Array Obj):jB w (grow (wr.drewN n) os):=n1P (a0G hb n) (a0G hb n).size os
theorem w0V (k:Ky) (A:Option Addr) (c:Nat) (l:List En) (w:World) (hv:a0Q 3 enC w (.slice A l.length c) l) (hr:Ris l) (hl:l.length≤1000) :
 Calls Tryz.prog 170 #[.slice A l.length c,.agg #[.int .u64 k.1,.int .u64 k.2],.func (.func 171) #[] #[]] w (jP w (.tuple #[.int .i64 (m1M l k:Nat),.bool (c0W l k).isSome])):=by
 have HV:=jH hv;have HR:=jH hr;have HGC:=jH (fun (x:En) W=>w0H x k W);have mixed:Tryz.prog.follows .mixedOrders=true:=by kernel_rfl
 clear hv hr
 go_enter Tryz.func170,Tryz.ntmps170
 go_wp2_with fail
 go_loopg [9,10] l.length (fun g s9 s10 wr=>∃i j:Nat,i≤j∧j≤l.length∧j - i≤g∧s9=.int .i64 i∧s10=.int .i64 j∧Hid (∀t (h:t<l.length),t<i→ltK l[t].1 k=true)∧Hid (∀t (h:t<l.length),j≤t→ltK l[t].1 k=false)∧wr.heap[w.heap.size]?=some (.cells #[.int .u64 k.1,.int .u64 k.2] 74 (0,0))∧jB w wr)
 case atStart=>exact ⟨0,l.length,Nat.zero_le _,Nat.le_refl _,Nat.le_refl _,rfl,rfl,jH (fun t h h2=>absurd h2 (by omega)),jH (fun t h h2=>absurd h2 (by omega)),heap_alloc_new _ _,a0C jR _⟩
 case round =>
  obtain ⟨i,j,hij,hj,hg,rfl,rfl,H1,H2,hx,hbw⟩:=hrel;rename World=>wr
  have HX:=jH hx;have HBr:=jH hbw;have hwz:=(jL hx);have HBX:=jH (fun n os=>(show (grow (wr.drewN n) os).heap[w.heap.size]?=some (.cells #[.int .u64 k.1,.int .u64 k.2] 74 (0,0)) from ((l0B (Below.refl wr.heap.size wr) n os).block _ hwz).trans HX.out));have e1:=fun n os=>((a0A jR (HBX.out n os)).1 0)
  have e2:=fun n os=>((a0A jR (HBX.out n os)).1 1)
  clear hx hbw hwz
  by_cases hlt:i<j
  · obtain ⟨h,hh⟩:∃h,h=(i+j) / 2:=⟨_,rfl⟩
    have um:((i:Int)+(j:Int)) / 2=(h:Int):=by omega
    have b1':i≤h:=by omega
    have b2':h<j:=by omega
    have hhl:h<l.length:=by omega
    have z1:(0:Int)≤(h:Int):=by omega
    have z2:(h:Int)<(l.length:Int):=by omega
    clear hh;obtain ⟨b1,o1,rfl,hb1,hc⟩:=HV.out.at_ hhl;have d0:=f0D HBr.out hb1 (hc 0 _ rfl);have d1:=f0D HBr.out hb1 (hc 1 _ rfl);have d2:=f0D HBr.out hb1 (hc 2 _ rfl);rw [Nat.add_zero] at d0;obtain ⟨cv,hcv⟩:∃cv,h0B l[h].1.1 l[h].1.2 k.1 k.2=cv:=⟨_,rfl⟩;have HG:=jH (show ∀n' os',Calls Tryz.prog 171 #[.agg #[.int .u64 l[h].1.1,.int .u64 l[h].1.2,.pointer (some ⟨l[h].2,0,none⟩)],.agg #[.int .u64 k.1,.int .u64 k.2]] (grow (wr.drewN n') os') fun e w'=>e=.returned (.int .i64 cv)∧∃q os'',w'=grow ((grow (wr.drewN n') os').drewN q) os'' from fun n' os'=>by rw [←hcv];exact HGC.out l[h] _)
    have HLT:=jH (show cv<0 ↔ ltK l[h].1 k=true by rw [←hcv];exact o1T _ _);have HRH:=jH (fun t (ht:t<l.length) (hth:t≤h)=>(show ltK l[h].1 k=true→ltK l[t].1 k=true from fun q=>by
     by_cases e:t=h
     · subst e;exact q
     · have r:=HR.out t h ht hhl (by omega)
       cases q2:ltK l[t].1 k with
       | true=>rfl
       | false =>
         cases q3:ltK k l[t].1 with
         | true=>rw [d0A q q3] at r;cases r
         | false=>rw [d0P q2 q3] at r;rw [r] at q;cases q))
    have HRG:=jH (fun t (ht:t<l.length) (hth:h≤t)=>(show ltK l[h].1 k=false→ltK l[t].1 k=false from fun q=>by
     by_cases e:t=h
     · subst e;exact q
     · have r:=HR.out h t hhl ht (by omega)
       cases q2:ltK l[t].1 k with
       | false=>rfl
       | true =>
         cases q3:ltK k l[h].1 with
         | true=>rw [d0A q2 q3] at r;cases r
         | false=>rw [d0P q q3] at r;rw [r] at q2;cases q2))
    clear hc hcv hb1;generalize l[h]=x at d0 d1 d2 HG HLT HRH HRG
    by_cases hlv:cv<0
    · have hld:decide (cv<0)=true:=decide_eq_true hlv
      go_wp2_with fail
      go_quiet_grown (first|(go_at_call 171;refine Calls.grown_of (HG.out _ _)))
      go_wp2_with fail
      go_roundg (j - (h+1))
      case measure=>omega
      case rel=>exact ⟨h+1,j,by omega,hj,Nat.le_refl _,by go_num,rfl,jH (fun t ht hti=>HRH.out t ht (by omega) (HLT.out.1 hlv)),H2,HBX.out _ _,l0B HBr.out _ _⟩
    · have hld:decide (cv<0)=false:=decide_eq_false hlv
      go_wp2_with fail
      go_quiet_grown (first|(go_at_call 171;refine Calls.grown_of (HG.out _ _)))
      go_wp2_with fail
      go_roundg (h - i)
      case measure=>omega
      case rel=>exact ⟨i,h,by omega,by omega,Nat.le_refl _,rfl,rfl,H1,jH (fun t ht hti=>HRG.out t ht hti (Bool.eq_false_iff.2 (fun q=>absurd (HLT.out.2 q) (by omega)))),HBX.out _ _,l0B HBr.out _ _⟩
  · obtain rfl:i=j:=by omega
    have HLW:=jH (u0X k l i hj H1.out (fun h=>H2.out i h (Nat.le_refl _)));have HFE:=jH (n0Y k l i HR.out hj H1.out (fun h=>H2.out i h (Nat.le_refl _)))
    by_cases hil:i<l.length
    · have z1:(0:Int)≤(i:Int):=by omega
      have z2:(i:Int)<(l.length:Int):=by omega
      obtain ⟨b1,o1,rfl,hb1,hc⟩:=HV.out.at_ hil;have d0:=f0D HBr.out hb1 (hc 0 _ rfl);have d1:=f0D HBr.out hb1 (hc 1 _ rfl);have d2:=f0D HBr.out hb1 (hc 2 _ rfl);rw [Nat.add_zero] at d0;obtain ⟨cv,hcv⟩:∃cv,h0B l[i].1.1 l[i].1.2 k.1 k.2=cv:=⟨_,rfl⟩;have HG:=jH (show ∀n' os',Calls Tryz.prog 171 #[.agg #[.int .u64 l[i].1.1,.int .u64 l[i].1.2,.pointer (some ⟨l[i].2,0,none⟩)],.agg #[.int .u64 k.1,.int .u64 k.2]] (grow (wr.drewN n') os') fun e w'=>e=.returned (.int .i64 cv)∧∃q os'',w'=grow ((grow (wr.drewN n') os').drewN q) os'' from fun n' os'=>by rw [←hcv];exact HGC.out l[i] _)
      have HF2:=jH (show (c0W l k).isSome=decide (cv=0) by
       rw [HFE.out,dif_pos hil,←hcv]
       by_cases e:l[i].1=k
       · rw [if_pos e,(s0S _ _).2 e];rfl
       · rw [if_neg e]
         symm
         rw [Option.isSome_none];exact decide_eq_false (fun q=>e ((s0S _ _).1 q)))
      clear hc hcv hb1;generalize l[i]=x at d0 d1 d2 HG
      by_cases hc0:cv=0
      · subst hc0
        go_wp2_with fail
        go_quiet_grown (first|(go_at_call 171;refine Calls.grown_of (HG.out _ _)))
        go_wp2_with fail
        go_ret2
        exact ⟨by rw [HLW.out,HF2.out];rfl,l0B HBr.out _ _⟩
      · have hq:(cv == 0)=false:=by simpa using hc0
        have hq2:decide (cv=0)=false:=decide_eq_false hc0;go_wp2_with fail
        go_quiet_grown (first|(go_at_call 171;refine Calls.grown_of (HG.out _ _)))
        go_wp2_with fail
        go_ret2
        exact ⟨by rw [HLW.out,HF2.out,decide_eq_false hc0];rfl,l0B HBr.out _ _⟩
    · obtain rfl:i=l.length:=by omega
      have hq:decide ((l.length:Int)<(l.length:Int))=false:=decide_eq_false (by omega);go_wp2_with fail
      go_quiet_grown (fail)
      go_wp2_with fail
      go_ret2
      exact ⟨by rw [HLW.out,HFE.out,dif_neg hil];rfl,l0B HBr.out _ _⟩
def x0D (w:World) (C:Nat) (ep:Int) (l:List En):Prop:=∃A c,w.heap[C]?=some (.cells #[.int .i64 ep,.slice A l.length c] 167 (0,0))∧a0Q 3 enC w (.slice A l.length c) l
theorem x0D.below {w w':World} {C:Nat} {ep:Int} {l:List En} (h:x0D w C ep l) (hb:jB w w'):x0D w' C ep l:=by
 obtain ⟨A,c,h1,h2⟩:=h;exact ⟨A,c,jK hb h1,h2.below hb⟩
def ptr (o:Option Nat):Value:=.pointer (o.map fun n=>⟨n,0,none⟩)
theorem a1Z (C:Nat) (ep:Int) (l:List En) (k:Ky) (w:World) (h:x0D w C ep l) (hr:Ris l) (hl:l.length≤1000) :
 Calls Tryz.prog 100 #[.pointer (some ⟨C,0,none⟩),.agg #[.int .u64 k.1,.int .u64 k.2]] w (jP w (.tuple #[ptr (c0W l k),.bool (c0W l k).isSome])):=by
 obtain ⟨A,c,h1,h2⟩:=h;have CB:=jH (show ∀W,jB w W→Calls Tryz.prog 170 #[.slice A l.length c,.agg #[.int .u64 k.1,.int .u64 k.2],.func (.func 171) #[] #[]] W (jP W (.tuple #[.int .i64 (m1M l k:Nat),.bool (c0W l k).isSome])) from fun W hW=>w0V k A c l W (h2.below hW) hr hl);have HX:=jH h1;have HRW:=jH h2;have HLO:=jH (show (c0W l k=none∨∃(h:m1M l k<l.length),c0W l k=some l[m1M l k].2) by
  obtain ⟨i,hi,e1,e2⟩:=n1E k l;have hlow:=u0X k l i hi e1 e2;rw [n0Y k l i hr hi e1 e2,hlow]
  by_cases hil:i<l.length
  · rw [dif_pos hil]
    by_cases e:l[i].1=k
    · exact Or.inr ⟨hil,by rw [if_pos e]⟩
    · exact Or.inl (by rw [if_neg e])
  · exact Or.inl (by rw [dif_neg hil]))
 have q0:(l.length:Int)≤1000:=by omega
 clear h1 h2 hr
 go_enter Tryz.func100,Tryz.ntmps100
 go_upto_region 3 with fail
 refine a0J ?_;intro W hW;have HBW:=jH (show jB w W by rw [hW];exact a0C jR _);have HXC:=jH (show W.heap[C]?=some (.cells #[.int .i64 ep,.slice A l.length c] 167 (0,0)) by rw [hW];exact (Below.heap_alloc _ _ _ (jL HX.out)).trans HX.out);have HXK:=jH (show W.heap[w.heap.size]?=some (.cells #[.int .u64 k.1,.int .u64 k.2] 74 (0,0)) by rw [hW];exact heap_alloc_new _ _);have HBr:=jH (Below.refl W.heap.size W)
 clear hW;refine wp_region_held_drew (S:=(fun U:World=>jB W U)) (by kernel_rfl) ?hS1 (fun hHeld=>?_)
 case hS1=>first|with_reducible exact HBr.out|exact HBr.out.drew|with_reducible exact HB5.out
 refine wpAnyH_take (i:=0) (v:=?v2) rfl (by kernel_rfl) (by kernel_rfl) (by kernel_rfl) (fun _ _ _ h=>h) (Or.inl ⟨by rfl,?hy2⟩) (by assumption) ?_
 case hy2 =>
  intro w' hSw
  (try dsimp only at hSw)
  go_simp
  try (with_reducible rfl)
 try simp only [Act.put,jA]
 refine wpAnyH_take (i:=1) (v:=?v3) rfl (by kernel_rfl) (by kernel_rfl) (by kernel_rfl) (fun _ _ _ h=>h) (Or.inl ⟨by rfl,?hy3⟩) (by assumption) ?_
 case hy3 =>
  intro w' hSw
  (try dsimp only at hSw)
  go_simp
  try (with_reducible rfl)
 try simp only [Act.put,jA]
 refine wpAnyH_take (i:=2) (v:=?v4) rfl (by kernel_rfl) (by kernel_rfl) (by kernel_rfl) (fun _ _ _ h=>h) (Or.inl ⟨by rfl,?hy4⟩) (by assumption) ?_
 case hy4 =>
  intro w' hSw
  (try dsimp only at hSw)
  go_simp
  try (with_reducible rfl)
 try simp only [Act.put,jA]
 refine wpAnyH_take (i:=3) (v:=?v5) rfl (by kernel_rfl) (by kernel_rfl) (by kernel_rfl) (fun _ _ _ h=>h) (Or.inl ⟨by rfl,?hy5⟩) (by assumption) ?_
 case hy5 =>
  intro w' hSw
  (try dsimp only at hSw)
  have q1:=(a0A hSw HXC.out).1;go_simp
  try (with_reducible rfl)
 try simp only [Act.put,jA]
 refine wpAnyH_take (i:=4) (v:=?v6) rfl (by kernel_rfl) (by kernel_rfl) (by kernel_rfl) (fun _ _ _ h=>h) (Or.inl ⟨by rfl,?hy6⟩) (by assumption) ?_
 case hy6 =>
  intro w' hSw
  (try dsimp only at hSw)
  have q1:=(a0A hSw HXK.out).1;go_simp
  try (with_reducible rfl)
 try simp only [Act.put,jA]
 refine wpAnyH_ready (rs:=[5]) (by kernel_rfl) (by simp) ?_;refine AllReadyH.cons rfl (fun K hK=>?_) AllReadyH.nil;go_simp
 go_at_call 170
 refine a0B ?_;intro W5 hW5;have hb5:jB W W5:=by rw [hW5];first|exact jR|exact jR.drew
 clear hW5
 with_reducible refine (CB.out W5 (a0D HBW.out hb5)).mono ?_
 rintro e w5 ⟨rfl,hb6⟩;have HB5:=jH (a0D hb5 hb6);clear hb5 hb6
 try go_simp
 refine hK.out _ _ ?hS7 (fun hHeld2=>?_)
 case hS7=>first|with_reducible exact HBr.out|exact HBr.out.drew|with_reducible exact HB5.out
 clear hK K hHeld;have hHeld:=hHeld2;clear hHeld2
 try simp only [Act.put,jA]
 refine wpAnyH_take (i:=6) (v:=?v8) rfl (by kernel_rfl) (by kernel_rfl) (by kernel_rfl) (fun _ _ _ h=>h) (Or.inl ⟨by rfl,?hy8⟩) (by assumption) ?_
 case hy8 =>
  intro w' hSw
  (try dsimp only at hSw)
  go_simp
  try (with_reducible rfl)
 try simp only [Act.put,jA]
 refine wpAnyH_take (i:=7) (v:=?v9) rfl (by kernel_rfl) (by kernel_rfl) (by kernel_rfl) (fun _ _ _ h=>h) (Or.inl ⟨by rfl,?hy9⟩) (by assumption) ?_
 case hy9 =>
  intro w' hSw
  (try dsimp only at hSw)
  go_simp
  try (with_reducible rfl)
 try simp only [Act.put,jA]
 refine wpAnyH_take (i:=8) (v:=?v10) rfl (by kernel_rfl) (by kernel_rfl) (by kernel_rfl) (fun _ _ _ h=>h) (Or.inl ⟨by rfl,?hy10⟩) (by assumption) ?_
 case hy10 =>
  intro w' hSw
  (try dsimp only at hSw)
  go_simp
  try (with_reducible rfl)
 try simp only [Act.put,jA]
 refine wpAnyH_take (i:=9) (v:=?v11) rfl (by kernel_rfl) (by kernel_rfl) (by kernel_rfl) (fun _ _ _ h=>h) (Or.inl ⟨by rfl,?hy11⟩) (by assumption) ?_
 case hy11 =>
  intro w' hSw
  (try dsimp only at hSw)
  go_simp
  try (with_reducible rfl)
 try simp only [Act.put,jA]
 refine wpAnyH_take (i:=10) (v:=?v12) rfl (by kernel_rfl) (by kernel_rfl) (by kernel_rfl) (fun _ _ _ h=>h) (Or.inl ⟨by rfl,?hy12⟩) (by assumption) ?_
 case hy12 =>
  intro w' hSw
  (try dsimp only at hSw)
  go_simp
  try (with_reducible rfl)
 try simp only [Act.put,jA]
 refine wpAnyH_done (by kernel_rfl) ?_ _;have HRW5:=jH (HRW.out.below (a0D HBW.out HB5.out));obtain ⟨y1,y2,y3,y4⟩:=j0T HB5.out HXC.out;clear y2 y4
 rcases HLO.out with hn|⟨hlow,hs⟩
 · rw [hn]
   have HN:=jH hn;clear hn;go_wp2_with fail
   go_ret2
   exact ⟨by rw [HN.out];rfl,a0D HBW.out HB5.out⟩
 · obtain ⟨b1,o1,rfl,hb1,hc⟩:=HRW5.out.at_ hlow
   have d2:=hc 2 _ rfl;rw [hs];have HSS:=jH hs;generalize m1M l k=i at hlow hc d2 HSS ⊢;generalize l[i].2=n at d2 HSS ⊢;clear hs hc;go_wp2_with fail
   go_ret2
   exact ⟨by rw [HSS.out];rfl,a0D HBW.out HB5.out⟩
end
end Go.Proofs.YtmniiodpbebnmaaGreat
