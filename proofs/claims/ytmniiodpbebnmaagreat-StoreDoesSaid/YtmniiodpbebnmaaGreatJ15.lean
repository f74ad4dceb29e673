/- Part 15 of the proof. -/
import Derived.Test.YtmniiodpbebnmaaGreatJ14
namespace Go.Proofs.YtmniiodpbebnmaaGreat
set_option linter.unusedSimpArgs false
set_option linter.unusedVariables false
set_option linter.unusedSectionVars false
set_option maxRecDepth 100000
set_option maxHeartbeats 16000000
section
open Go.RowKit Go.Lib Go.Sort
def j0R (x y:Nd):Prop:=x.smp=y.smp∧x.past=y.past∧x.pol=y.pol∧x.ruled=y.ruled
theorem j0R.refl (x:Nd):j0R x x:=⟨rfl,rfl,rfl,rfl⟩
def h0I (l:List It):List Ky:=l.map (·.key)
def c0T (S:List (KO × Nd)):List Ky:=S.map (·.1.1)
structure b0M (S:List (KO × Nd)) (R:List (Ky × Nd)):Prop where
 nodup:(S.map (·.1)).Nodup
 sorted:(R.map (·.1)).Pairwise (fun a b=>ltK a b=true)
 keys:∀q,q∈R.map (·.1) ↔ q∈c0T S
 vals:∀k x,a0V S k=some x→∃y,(k.1,y)∈R∧j0R x y
theorem b0M.nil:b0M [] []:=⟨List.nodup_nil,List.Pairwise.nil,fun q=>by simp [c0T],fun k x h=>by simp [a0V] at h⟩
theorem b0M.risL {S:List (KO × Nd)} {R:List (Ky × Nd)} (h:b0M S R):risL (c0T S)=R.map (·.1) :=
 k0I (v0U _) h.sorted (fun q=>by rw [i0C,h.keys])
theorem k0G {S:List (KO × Nd)} (h:(S.map (·.1)).Nodup):(c0T S).Nodup:=by
 have:=p0E h
 simpa [kys,c0T,List.map_map,Function.comp_def] using this
theorem b0M.len {S:List (KO × Nd)} {R:List (Ky × Nd)} (h:b0M S R):S.length=R.length:=by
 have h1:=congrArg List.length h.risL;rw [e0K (k0G h.nodup)] at h1
 simpa [c0T] using h1
theorem e0F {R:List (Ky × Nd)} (hs:(R.map (·.1)).Pairwise (fun a b=>ltK a b=true)) {q:Ky} {y z:Nd} (hy:(q,y)∈R) (hz:(q,z)∈R):y=z:=by
 induction R with
 | nil=>cases hy
 | cons a R ih =>
   rw [List.map_cons,List.pairwise_cons] at hs
   rcases List.mem_cons.1 hy with hy|hy
   · rcases List.mem_cons.1 hz with hz|hz
     · rw [←hy] at hz;injection hz with _ hz;exact hz.symm
     · have:=hs.1 q (List.mem_map.2 ⟨_,hz,rfl⟩)
       rw [←hy] at this;exact absurd this (by rw [c0Q q];simp)
   · rcases List.mem_cons.1 hz with hz|hz
     · have:=hs.1 q (List.mem_map.2 ⟨_,hy,rfl⟩)
       rw [←hz] at this;exact absurd this (by rw [c0Q q];simp)
     · exact ih hs.2 hy hz
theorem r1S {l:List It} {i:Nat} (h:i<l.length):(h0I l)[i]?=some l[i].key:=by simp [h0I,h]
theorem m0S {l:List It} (hs:(h0I l).Pairwise (fun a b=>ltK a b=true)) {i j:Nat} (hj:j<l.length) (hij:i<j):ltK (l[i]'(by omega)).key l[j].key=true:=by
 have:=(List.pairwise_iff_getElem.1 hs) i j (by simp [h0I];omega) (by simp [h0I];omega) hij
 simpa [h0I] using this
theorem b1Z {l:List It} (hs:(h0I l).Pairwise (fun a b=>ltK a b=true)) (k:Ky):h0U l k=true ↔ k∈h0I l:=by
 constructor
 · intro h
   unfold h0U at h
   split at h
   · rename_i hl
     rw [←of_decide_eq_true h];exact List.mem_map.2 ⟨_,List.getElem_mem hl,rfl⟩
   · cases h
 · intro h
   obtain ⟨x,hx,hk⟩:=List.mem_map.1 h;obtain ⟨i,hi,rfl⟩:=List.getElem_of_mem hx;have h1:atI l k≤i:=by
    rcases Nat.lt_or_ge i (atI l k) with h'|h'
    · have:=b1W hi h'
      rw [hk,c0Q] at this
      cases this
    · exact h'
   have h2:atI l k=i:=by
    rcases Nat.lt_or_ge (atI l k) i with h'|h'
    · have h3:=m0S hs hi h'
      rw [hk] at h3;rw [l1F (by omega)] at h3
      cases h3
    · omega
   unfold h0U;rw [dif_pos (by omega)];simp only [h2,hk,decide_true]
theorem d1S {l:List It} (hs:(h0I l).Pairwise (fun a b=>ltK a b=true)) {k:Ky} {j:Nat} (hj:j<l.length) (h:(if h0U l k=true then atI l k+1 else atI l k)≤j):ltK k l[j].key=true:=by
 cases hh:h0U l k with
 | true =>
   rw [hh,if_pos rfl] at h;have h1:∃hl:atI l k<l.length,l[atI l k].key=k:=by
    unfold h0U at hh
    split at hh
    · rename_i hl
      exact ⟨hl,of_decide_eq_true hh⟩
    · cases hh
   obtain ⟨hl,hk⟩:=h1;have:=m0S hs hj (show atI l k<j by omega);rw [hk] at this;exact this
 | false =>
   rw [hh,if_neg (by simp)] at h;have hne:l[j].key≠k:=fun e=>by
    have:=(b1Z hs k).2 (List.mem_map.2 ⟨_,List.getElem_mem hj,e⟩);rw [hh] at this
    cases this
   have hn:ltK l[j].key k=false:=by
    have h0:=l1F (l:=l) (k:=k) (by omega)
    cases hx:ltK l[j].key k with
    | false=>rfl
    | true =>
      rcases Nat.lt_or_ge (atI l k) j with h'|h'
      · rw [d0T (m0S hs hj h') hx] at h0
        cases h0
      · have:atI l k=j:=by omega
        simp only [this] at h0
        rw [h0] at hx
        cases hx
   cases hx:ltK k l[j].key with
   | true=>rfl
   | false=>exact absurd (e0D hn hx) hne
theorem k0Y {l:List It} (hs:(h0I l).Pairwise (fun a b=>ltK a b=true)) (k:Ky) (y:Nd) (q:Ky) (z:Nd):(q,z)∈i1B l k y ↔ (q=k∧z=y)∨((q,z)∈l.map c0X∧q≠k):=by
 unfold i1B;rw [List.mem_append,List.mem_append,List.mem_singleton]
 constructor
 · rintro ((h|h)|h)
   · obtain ⟨i,hi⟩:=List.getElem?_of_mem h
     rw [List.getElem?_take] at hi
     split at hi
     · rename_i hlt
       obtain ⟨hil,he⟩:=List.getElem?_eq_some_iff.1 hi;simp only [List.length_map] at hil
       simp only [List.getElem_map,c0X,Prod.mk.injEq] at he
       refine .inr ⟨List.mem_of_mem_take h,fun e=>?_⟩;have:=b1W hil hlt;rw [he.1,e,c0Q] at this
       cases this
     · cases hi
   · injection h with h1 h2
     exact .inl ⟨h1,h2⟩
   · obtain ⟨i,hi⟩:=List.getElem?_of_mem h
     rw [List.getElem?_drop] at hi;obtain ⟨hil,he⟩:=List.getElem?_eq_some_iff.1 hi;simp only [List.length_map] at hil
     simp only [List.getElem_map,c0X,Prod.mk.injEq] at he
     refine .inr ⟨List.mem_of_mem_drop h,fun e=>?_⟩;have:=d1S hs hil (Nat.le_add_right _ i);rw [he.1,e,c0Q] at this
     cases this
 · rintro (⟨rfl,rfl⟩|⟨h,hq⟩)
   · exact .inl (.inr rfl)
   · obtain ⟨x,hx,he⟩:=List.mem_map.1 h
     obtain ⟨i,hi,rfl⟩:=List.getElem_of_mem hx;simp only [c0X,Prod.mk.injEq] at he
     by_cases h1:i<atI l k
     · refine .inl (.inl ?_)
       refine List.mem_of_getElem? (i:=i) ?_;rw [List.getElem?_take,if_pos h1];simp [hi,c0X,he]
     · by_cases h2:(if h0U l k=true then atI l k+1 else atI l k)≤i
       · refine .inr ?_
         refine List.mem_of_getElem? (i:=i - (if h0U l k=true then atI l k+1 else atI l k)) ?_;rw [List.getElem?_drop,Nat.add_sub_cancel' h2];simp [hi,c0X,he]
       · exfalso
         split at h2
         · rename_i hh
           have h3:i=atI l k:=by omega
           subst h3;obtain ⟨hl,hg⟩:=n0R hh;unfold h0U at hh;rw [dif_pos hl] at hh;exact hq (he.1.symm.trans (of_decide_eq_true hh))
         · omega
theorem z0A {l:List It} (hs:(h0I l).Pairwise (fun a b=>ltK a b=true)) (k:Ky) (y:Nd):((i1B l k y).map (·.1)).Pairwise (fun a b=>ltK a b=true):=by
 unfold i1B;simp only [List.map_append,List.map_cons,List.map_nil,List.map_take,List.map_drop,List.map_map]
 have e:(Prod.fst ∘ c0X:It→Ky)=(·.key):=rfl;rw [show List.map ((fun x:Ky × Nd=>x.1) ∘ c0X) l=h0I l from rfl];have hlow:∀q∈(h0I l).take (atI l k),ltK q k=true:=fun q hq=>by
  obtain ⟨i,hi⟩:=List.getElem?_of_mem hq;rw [List.getElem?_take] at hi
  split at hi
  · rename_i hlt
    have hil:i<l.length:=by have:=(List.getElem?_eq_some_iff.1 hi).1;simpa [h0I] using this
    rw [r1S hil] at hi;injection hi with hi
    rw [←hi];exact b1W hil hlt
  · cases hi
 have hhigh:∀q∈(h0I l).drop (if h0U l k=true then atI l k+1 else atI l k),ltK k q=true:=fun q hq=>by
  obtain ⟨i,hi⟩:=List.getElem?_of_mem hq;rw [List.getElem?_drop] at hi;have hil:(if h0U l k=true then atI l k+1 else atI l k)+i<l.length:=by have:=(List.getElem?_eq_some_iff.1 hi).1;simpa [h0I] using this
  rw [r1S hil] at hi;injection hi with hi
  rw [←hi];exact d1S hs hil (Nat.le_add_right _ i)
 rw [List.pairwise_append,List.pairwise_append];refine ⟨⟨hs.sublist (List.take_sublist _ _),List.pairwise_singleton _ _,fun a ha b hb=>?_⟩,hs.sublist (List.drop_sublist _ _),fun a ha b hb=>?_⟩
 · rw [List.mem_singleton.1 hb];exact hlow a ha
 · rcases List.mem_append.1 ha with ha|ha
   · exact d0T (hlow a ha) (hhigh b hb)
   · rw [List.mem_singleton.1 ha];exact hhigh b hb
theorem k0S (l:List It):(l.map c0X).map (·.1)=h0I l:=by simp [h0I,c0X,List.map_map,Function.comp_def]
theorem b0M.put {S:List (KO × Nd)} {l:List It} (h:b0M S (l.map c0X)) (k:KO) {x y:Nd} (hxy:j0R x y):b0M (f0A S k x) (i1B l k.1 y):=by
 have hs:(h0I l).Pairwise (fun a b=>ltK a b=true):=by rw [←k0S];exact h.sorted
 refine ⟨m0N h.nodup k x,z0A hs k.1 y,fun q=>?_,fun k' x' hf=>?_⟩
 · have hk:q∈c0T (f0A S k x) ↔ q=k.1∨q∈c0T S:=by
    have e:c0T (f0A S k x)=((f0A S k x).map (·.1)).map (·.1):=by simp [c0T,List.map_map,Function.comp_def]
    have e2:c0T S=(S.map (·.1)).map (·.1):=by simp [c0T,List.map_map,Function.comp_def]
    rw [e,e2,u0H]
    split
    · rename_i hh
      constructor
      · exact .inr
      · rintro (rfl|h')
        · exact List.mem_map.2 ⟨k,(d0W S k).1 hh,rfl⟩
        · exact h'
    · rw [List.map_append,List.mem_append]
      simp only [List.map_cons,List.map_nil,List.mem_singleton]
      exact or_comm
   rw [hk,←h.keys]
   constructor
   · intro hq
     obtain ⟨⟨q',z⟩,hm,rfl⟩:=List.mem_map.1 hq
     rcases (k0Y hs k.1 y q' z).1 hm with ⟨h1,_⟩|⟨h1,_⟩
     · exact .inl h1
     · exact .inr (List.mem_map.2 ⟨_,h1,rfl⟩)
   · intro hq
     by_cases e:q=k.1
     · exact List.mem_map.2 ⟨(q,y),(k0Y hs k.1 y q y).2 (.inl ⟨e,rfl⟩),rfl⟩
     · rcases hq with hq|hq
       · exact absurd hq e
       · obtain ⟨⟨q',z⟩,hm,rfl⟩:=List.mem_map.1 hq
         exact List.mem_map.2 ⟨(q',z),(k0Y hs k.1 y q' z).2 (.inr ⟨hm,e⟩),rfl⟩
 · rw [w0N] at hf
   split at hf
   · rename_i e
     injection hf with hf
     subst hf e;exact ⟨y,(k0Y hs _ y _ y).2 (.inl ⟨rfl,rfl⟩),hxy⟩
   · rename_i e
     obtain ⟨z,hz,hsame⟩:=h.vals k' x' hf;exact ⟨z,(k0Y hs k.1 y k'.1 z).2 (.inr ⟨hz,fun e'=>e (Subtype.ext e')⟩),hsame⟩
theorem l1T {S:List (KO × Nd)} {k:KO} (h:a0V S k=none):g0A S k=false:=by
 cases hh:g0A S k with
 | false=>rfl
 | true=>obtain ⟨v,hv,_⟩:=e0M hh;rw [hv] at h;cases h
theorem b0M.sortedI {S:List (KO × Nd)} {l:List It} (h:b0M S (l.map c0X)):(h0I l).Pairwise (fun a b=>ltK a b=true):=by rw [←k0S];exact h.sorted
theorem b0M.has {S:List (KO × Nd)} {l:List It} (h:b0M S (l.map c0X)) (k:KO):g0A S k=h0U l k.1:=by
 rw [Bool.eq_iff_iff,b1Z h.sortedI,d0W,←k0S,h.keys];unfold c0T
 constructor
 · intro hk
   obtain ⟨p,hp,rfl⟩:=List.mem_map.1 hk;exact List.mem_map.2 ⟨p,hp,rfl⟩
 · intro hk
   obtain ⟨p,hp,he⟩:=List.mem_map.1 hk;exact List.mem_map.2 ⟨p,hp,Subtype.ext he⟩
theorem n1P {l:List It} {k:Ky} (h:h0U l k=true):(k,(i0Q l k).nd)∈l.map c0X:=by
 obtain ⟨hl,hg⟩:=n0R h;unfold h0U at h;rw [dif_pos hl] at h;have hk:=of_decide_eq_true h;exact List.mem_map.2 ⟨l[atI l k],List.getElem_mem hl,by rw [hg,c0X,hk]⟩
theorem b0M.get {S:List (KO × Nd)} {l:List It} (h:b0M S (l.map c0X)) (k:KO):j0R (n0J S k) (i0Q l k.1).nd:=by
 unfold n0J
 cases hf:a0V S k with
 | none =>
   have hh:=l1T hf;rw [h.has k] at hh;rw [v0I hh];exact j0R.refl _
 | some x =>
   obtain ⟨y,hy,hs⟩:=h.vals k x hf;have hh:h0U l k.1=true:=by rw [←h.has k];exact n0Q hf
   have:=e0F h.sorted hy (n1P hh);rw [←this];exact hs
theorem j0R.trim {x y:Nd} (h:j0R x y) (cut:Int):j0R (q0R cut x) (g0R cut y):=by
 obtain ⟨h1,h2,h3,h4⟩:=h;unfold q0R g0R;rw [h1]
 split
 · exact ⟨h1,h2,h3,h4⟩
 · exact ⟨by simp,by simpa [h0T] using h2,by simpa [h0T] using h3,by simpa [h0T] using h4⟩
theorem b0M.trim {S:List (KO × Nd)} {R:List (Ky × Nd)} (h:b0M S R) (cut:Int) {K:List Ky} (hK:∀q∈c0T S,q∈K):b0M (g0X S cut K) (R.map fun p=>(p.1,g0R cut p.2)):=by
 have hk:c0T (g0X S cut K)=c0T S:=by
  unfold c0T g0X;rw [List.map_map];rfl
 have hr:(R.map fun p=>(p.1,g0R cut p.2)).map (·.1)=R.map (·.1):=by rw [List.map_map];rfl
 refine ⟨by rw [r0P];exact h.nodup,by rw [hr];exact h.sorted,fun q=>by rw [hr,hk];exact h.keys q,fun k x hf=>?_⟩;rw [q0Z] at hf;obtain ⟨z,hz,rfl⟩:=Option.map_eq_some_iff.1 hf;obtain ⟨y,hy,hs⟩:=h.vals k z hz;have:k.1∈K:=hK _ (List.mem_map.2 ⟨_,b0U hz,rfl⟩);rw [if_pos this];exact ⟨g0R cut y,List.mem_map.2 ⟨_,hy,rfl⟩,hs.trim cut⟩
theorem u0K {S:List (KO × Nd)} {R:List (Ky × Nd)} (h:b0M S R) (K:List Ky):b0M (S.map fun p=>(p.1,if p.1.1∈K then frz p.2 else p.2)) R:=by
 have e1:(S.map fun p=>(p.1,if p.1.1∈K then frz p.2 else p.2)).map (·.1)=S.map (·.1):=by rw [List.map_map];rfl
 have e2:c0T (S.map fun p=>(p.1,if p.1.1∈K then frz p.2 else p.2))=c0T S:=by unfold c0T;rw [List.map_map];rfl
 refine ⟨by rw [e1];exact h.nodup,h.sorted,fun q=>by rw [e2];exact h.keys q,fun k x hf=>?_⟩;rw [v0N (fun (k:KO) (x:Nd)=>if k.1∈K then frz x else x) S k] at hf;obtain ⟨z,hz,rfl⟩:=Option.map_eq_some_iff.1 hf;obtain ⟨y,hy,hs⟩:=h.vals k z hz;refine ⟨y,hy,?_⟩
 split
 · exact hs
 · exact hs
theorem e1V {S:List (KO × Nd)} {l:List It} (h:b0M S (l.map c0X)) (cut:Int):h0S S cut (risL (c0T S))=j0A l cut∧i0D S cut (risL (c0T S))=k0H l cut:=by
 have hg:∀x∈l,s0N S cut x.key=a0Q x.nd.smp cut:=by
  intro x hx;have hm:x.key∈c0T S:=(h.keys x.key).1 (List.mem_map.2 ⟨c0X x,List.mem_map.2 ⟨x,hx,rfl⟩,rfl⟩);obtain ⟨p,hp,he⟩:=List.mem_map.1 hm;have hf:=f0H h.nodup (show (p.1,p.2)∈S from hp);obtain ⟨y,hy,hs⟩:=h.vals p.1 p.2 hf;have:=k0V cut hf;rw [he] at this hy;rw [this,hs.1,e0F h.sorted hy (List.mem_map.2 ⟨x,hx,rfl⟩:(x.key,x.nd)∈l.map c0X)]
 rw [h.risL,k0S];unfold h0S i0D j0A k0H h0I;rw [List.map_map,List.countP_map]
 constructor
 · congr 1
   exact List.map_congr_left fun x hx=>hg x hx
 · exact List.countP_congr fun x hx=>by simp only [Function.comp,hg x hx]
end
section
open Go.RowKit Go.Lib Go.Sort
open Go.ChangeMaps (setBlock)
def nptr (o:Option NE):Option Addr:=o.map fun b=>⟨b.1,0,none⟩
theorem q1E (o:Option NE):(o.map neV).getD (.pointer none)=.pointer (nptr o):=by cases o <;> rfl
theorem h0Z (T M:Nat) (c:Cfg) (ver:Nat) (es:List (KO × NE)) (rs rh:Nat) (k:KO) (w:World) (h:SAt w T M c ver es rs rh) :
 Calls Tryz.prog 105 #[.pointer (some ⟨T,0,none⟩),.agg #[.int .u64 k.1.1,.int .u64 k.1.2]] w (jP w (.pointer (nptr (a0V es k)))):=by
 have H:=jH h;clear h
 go_enter Tryz.func105,Tryz.ntmps105
 go_wp2_with (first
  | (go_at_call 149
     refine a0B ?_;intro W1 hW1;have hb1:jB w W1:=by rw [hW1];exact a0C jR _
     have hx1:W1.heap[w.heap.size]?=some (.cells #[.int .u64 k.1.1,.int .u64 k.1.2] 74 (0,0)):=by rw [hW1];exact heap_alloc_new _ _
     clear hW1;refine (h0R T c ver es rs rh _ W1 ((H.out.below hb1).in_)).mono ?_;rintro e w2 ⟨rfl,hb2⟩;obtain ⟨a1,a2,a3⟩:=a0A hb2 hx1;have hb3:=a0D hb1 hb2;have h3:=H.out.below hb3;have s1:∀W,jB w2 W→W.cell? ⟨T,0,none⟩=some (.map (some M)):=h3.cells (j:=0) rfl;have hlt1:=h3.ltT;have r4:∀n,(Instr.lookup 230 (.map (some M)) (.agg #[.int .u64 k.1.1,.int .u64 k.1.2]) false).run Tryz.prog (w2.drewN n)=.ok (.pointer (nptr (a0V es k))) (w2.drewN n):=fun n=>by
      have:=m0K (h3.map.below (a0F jR n)) k false;rw [q1E] at this;exact this
     have HB3:=jH hb3;clear hb1 hb2 hx1 hb3 h3))
 go_quiet (fail)
 go_wp2
 go_ret
 exact ⟨rfl,a0F HB3.out _⟩
theorem l0O (w:World) (o1 o2:Obj):∀W,W=(w.alloc o1).alloc o2→W.heap[w.heap.size]?=some o1∧W.heap[w.heap.size+1]?=some o2∧jB w W:=by
 rintro W rfl;refine ⟨(Below.heap_alloc _ _ _ (by simp)).trans (heap_alloc_new _ _),?_,a0C (a0C jR _) _⟩;have:=heap_alloc_new (w.alloc o1) o2;rw [World.size_alloc] at this;exact this
theorem s1W (T M:Nat) (c:Cfg) (ver:Nat) (es:List (KO × NE)) (rs rh:Nat) (k:KO) (p:Pol) (w:World) (h:SAt w T M c ver es rs rh) (hp:d0G p=true) (hl:¬(g0A es k=false∧c.lo≤(es.length:Nat))) (hc:i0L c=true) (hrs:c.sa=(rs:Nat)) (hrh:c.hi=(rh:Nat)) (hok:c.ok)
    (hv:ver≤1000000) (hvn:∀p∈ab es,p.2.ver≤1000000) :
    Calls Tryz.prog 86 #[.pointer (some ⟨T,0,none⟩),.agg #[.int .u64 k.1.1,.int .u64 k.1.2],b0W p] w (g0Z w T M c es rs rh (.int .i64 0) (ver+1) (f0A (ab es) k { h0T (n0J (ab es) k) with pol:=p,ruled:=true })):=by
  have hNN:∀W,Calls Tryz.prog 156 #[.agg #[.int .i64 1,.int .i64 1,.int .i64 1,.int .i64 1]] W (p0P W nd0 1 1):=fun W=>h0V cfg1 1 1 W (by decide) rfl rfl (by simp [Cfg.ok,cfg1,I64])
  have HNN:=jH hNN;have hb0:1≤rs∧rs≤256∧rh≤64:=by
   unfold i0L at hc;simp only [Bool.and_eq_true,decide_eq_true_eq] at hc
   omega
  have hvx:(n0J (ab es) k).ver≤1000000:=by
   unfold n0J
   cases hf:a0V (ab es) k with
   | none=>simp [nd0]
   | some x=>exact hvn _ (b0U hf)
  have HS1:=jH (fun (N:Nat) (fp:List Nat) (W:World) (h:b0B W N nd0 1 1 fp)=>j0Y N nd0 1 1 fp p W h (by omega) (by omega) (by simp [nd0]) hp);have HS2:=jH (fun (N:Nat) (x:Nd) (fp:List Nat) (W:World) (h:b0B W N x rs rh fp) (hxv:x.ver≤1000000)=>j0Y N x rs rh fp p W h hb0.2.1 hb0.2.2 hxv hp);have H:=jH h;have HRoom:=jH (fun (W:World) (hb:jB w W)=>b1U T M c ver es rs rh k w W h hb hl hc hrs hrh hok)
  have HVX:=jH hvx;have HV:=jH hv;unfold b0W;unfold b0W at HS1 HS2;clear h hl hc hrs hrh hok hvn hvx hv hNN hp
  go_enter Tryz.func86,Tryz.ntmps86
  go_upto_region 1 with fail
  refine a0I ?_;intro W1 hW1;obtain ⟨k0,k1,hb1⟩:=l0O w _ _ W1 hW1;clear hW1;obtain ⟨a1,a2,a3⟩:=a0A jR k1;have HX0:=jH k0;have HX1:=jH k1;have HB1:=jH hb1;clear k0 k1 hb1
  go_cut [7,8] (fun s7 s8 wx=>∃N,s7=.pointer (some ⟨N,0,none⟩)∧s8=.int .i64 0∧jB W1 wx)
  case first =>
   go_region_with (first
    | (go_at_call 156
       refine a0B ?_;intro W2 hW2;have hb2:jB W1 W2:=by rw [hW2];repeat (first|exact jR|refine a0C ?_ _|refine Below.drew ?_)
       clear hW2;refine (HNN.out W2).mono ?_;rintro e w3 ⟨N,fp,rfl,h1,h2,h3⟩;have hb3:=a0D hb2 h3;obtain ⟨b1,b2,b3⟩:=a0A hb3 HX1.out;have h2':∀k∈fp,W1.heap.size≤k:=fun k hk=>by have:=h2 k hk;have:=hb2.size;omega
       have HN:=jH h1;have HF:=jH h2';have HB3:=jH hb3;clear h1 h2 h3 h2' hb2 hb3)
    | (go_at_call 157
       refine a0B ?_;intro W4 hW4;have hb4:jB w3 W4:=by rw [hW4];repeat (first|exact jR|refine a0C ?_ _|refine Below.drew ?_)
       clear hW4;refine (HS1.out N fp W4 (HN.out.below hb4)).mono ?_;rintro e w5 ⟨N5,fp5,rfl,_,hu5⟩;have HB5:=jH ((a0D HB3.out hb4).trans (hu5.below (B:=W1.heap.size) (a0D HB3.out hb4).size (fun k hk=>HF.out k hk)));clear hu5 hb4))
   all_goals
     go_wp2_with fail
     go_meet
     exact ⟨N5,rfl,rfl,HB5.out⟩
  case rest =>
   obtain ⟨N0,rfl,rfl,hbc⟩:=hcut;have HBC:=jH (a0D HB1.out hbc);have HC0:=jH (jK hbc HX0.out);have HC1:=jH (jK hbc HX1.out);clear hbc a1 a2 a3
   go_wp2_with (first
    | (go_at_call 149
       refine (h0R T c ver es rs rh _ wc ((H.out.below HBC.out).in_)).mono ?_;rintro e w2 ⟨rfl,hb2⟩;obtain ⟨a1,a2,a3,a4⟩:=b0F hb2 HC0.out;have HY0:=jH a4;have HY1:=jH (jK hb2 HC1.out);have HB2:=jH (a0D HBC.out hb2);clear hb2 a4)
    | (go_at_call 150
       refine (HRoom.out w2 HB2.out).mono ?_;rintro e w3 ⟨N,x,fq,rfl,hg,hfq,hb3⟩;obtain ⟨b1,b2,b3,b4⟩:=b0F hb3 HY0.out;obtain ⟨d1,d2,d3,d4⟩:=b0F hb3 HY1.out;have hnb:w.heap.size∉fq:=fun hr=>by have:=(jL HY0.out);rcases hfq _ hr with h'|h' <;> omega
       have HX3:=jH (And.intro b4 hnb);have HG:=jH hg;clear hg hb3 b4 d4 hfq hnb)
    | (go_at_call 157
       refine (HS2.out N x fq w3 HG.out.1 (by rw [HG.out.2.1];exact HVX.out)).mono ?_;rintro e w4 ⟨N4,fr,rfl,hn4,hu4⟩;have hhole:=HG.out.2.2 w4 fr hu4;have hbox:w4.heap[w.heap.size]?=_:=l0U hu4 HX3.out.1 (fun hr=>HX3.out.2 (f0G _ _ _ hr));obtain ⟨c1,c2,c3⟩:=a0A jR hbox;have HN4:=jH hn4;have HH:=jH hhole;clear hn4 hu4 hhole hbox)
    | (go_at_call 152
       obtain ⟨hH,mf,hU,hmf⟩:=HH.out;refine (n0N T M c ver es rs rh k N4 _ fr w4 hH HN4.out HV.out).mono ?_;rintro e w5 ⟨rfl,h5,hu5⟩;have HF:=jH (m0O (v:=.int .i64 0) hU hmf h5 hu5);clear h5 hu5))
   go_ret
   have hf:=HF.out;rw [HG.out.2.1] at hf;exact hf
theorem l1D (T M:Nat) (c:Cfg) (ver:Nat) (es:List (KO × NE)) (rs rh:Nat) (k:KO) (p:Pol) (w:World) (h:SAt w T M c ver es rs rh) (hp:d0G p=true) (hf:a0V es k=none) (hl:c.lo≤(es.length:Nat)) :
 Calls Tryz.prog 86 #[.pointer (some ⟨T,0,none⟩),.agg #[.int .u64 k.1.1,.int .u64 k.1.2],b0W p] w (g0Z w T M c es rs rh (.int .i64 6) ver (ab es)):=by
 have hNN:∀W,Calls Tryz.prog 156 #[.agg #[.int .i64 1,.int .i64 1,.int .i64 1,.int .i64 1]] W (p0P W nd0 1 1):=fun W=>h0V cfg1 1 1 W (by decide) rfl rfl (by simp [Cfg.ok,cfg1,I64])
 have HNN:=jH hNN;have HS1:=jH (fun (N:Nat) (fp:List Nat) (W:World) (h:b0B W N nd0 1 1 fp)=>j0Y N nd0 1 1 fp p W h (by omega) (by omega) (by simp [nd0]) hp);have H:=jH h;have HE:=jH (fun w'=>g0Z.of_below (w':=w') (.int .i64 6) h);have HRoom:=jH (fun (W:World) (hb:jB w W)=>x0R T M c ver es rs rh k W (h.below hb) hf hl);unfold b0W;unfold b0W at HS1;clear h hl hNN hp hf
 go_enter Tryz.func86,Tryz.ntmps86
 go_upto_region 1 with fail
 refine a0I ?_;intro W1 hW1;obtain ⟨k0,k1,hb1⟩:=l0O w _ _ W1 hW1;clear hW1;obtain ⟨a1,a2,a3⟩:=a0A jR k1;have HX0:=jH k0;have HX1:=jH k1;have HB1:=jH hb1;clear k0 k1 hb1
 go_cut [7,8] (fun s7 s8 wx=>∃N,s7=.pointer (some ⟨N,0,none⟩)∧s8=.int .i64 0∧jB W1 wx)
 case first =>
  go_region_with (first
   | (go_at_call 156
      refine a0B ?_;intro W2 hW2;have hb2:jB W1 W2:=by rw [hW2];repeat (first|exact jR|refine a0C ?_ _|refine Below.drew ?_)
      clear hW2;refine (HNN.out W2).mono ?_;rintro e w3 ⟨N,fp,rfl,h1,h2,h3⟩;have hb3:=a0D hb2 h3;obtain ⟨b1,b2,b3⟩:=a0A hb3 HX1.out;have h2':∀k∈fp,W1.heap.size≤k:=fun k hk=>by have:=h2 k hk;have:=hb2.size;omega
      have HN:=jH h1;have HF:=jH h2';have HB3:=jH hb3;clear h1 h2 h3 h2' hb2 hb3)
   | (go_at_call 157
      refine a0B ?_;intro W4 hW4;have hb4:jB w3 W4:=by rw [hW4];repeat (first|exact jR|refine a0C ?_ _|refine Below.drew ?_)
      clear hW4;refine (HS1.out N fp W4 (HN.out.below hb4)).mono ?_;rintro e w5 ⟨N5,fp5,rfl,_,hu5⟩;have HB5:=jH ((a0D HB3.out hb4).trans (hu5.below (B:=W1.heap.size) (a0D HB3.out hb4).size (fun k hk=>HF.out k hk)));clear hu5 hb4))
  all_goals
    go_wp2_with fail
    go_meet
    exact ⟨N5,rfl,rfl,HB5.out⟩
 case rest =>
  obtain ⟨N0,rfl,rfl,hbc⟩:=hcut;have HBC:=jH (a0D HB1.out hbc);have HC0:=jH (jK hbc HX0.out);have HC1:=jH (jK hbc HX1.out);clear hbc a1 a2 a3
  go_wp2_with (first
   | (go_at_call 149
      refine (h0R T c ver es rs rh _ wc ((H.out.below HBC.out).in_)).mono ?_;rintro e w2 ⟨rfl,hb2⟩;obtain ⟨a1,a2,a3,a4⟩:=b0F hb2 HC0.out;have HB2:=jH (a0D HBC.out hb2);clear hb2 a4)
   | (go_at_call 150
      refine (HRoom.out w2 HB2.out).mono ?_;rintro e w3 ⟨rfl,hb3⟩;have HB3:=jH (a0D HB2.out hb3);clear hb3))
  go_ret
  exact HE.out _ HB3.out
theorem p1K (T M:Nat) (c:Cfg) (ver:Nat) (es:List (KO × NE)) (rs rh:Nat) (k:KO) (p:Pol) (w:World) (h:SAt w T M c ver es rs rh) (hp:d0G p=false) :
 Calls Tryz.prog 86 #[.pointer (some ⟨T,0,none⟩),.agg #[.int .u64 k.1.1,.int .u64 k.1.2],b0W p] w (g0Z w T M c es rs rh (.int .i64 7) ver (ab es)):=by
 have hNN:∀W,Calls Tryz.prog 156 #[.agg #[.int .i64 1,.int .i64 1,.int .i64 1,.int .i64 1]] W (p0P W nd0 1 1):=fun W=>h0V cfg1 1 1 W (by decide) rfl rfl (by simp [Cfg.ok,cfg1,I64])
 have HNN:=jH hNN;have HS1:=jH (fun (N:Nat) (W:World)=>b1C N p W hp);have HE:=jH (fun w'=>g0Z.of_below (w':=w') (.int .i64 7) h);unfold b0W;unfold b0W at HS1;clear h hNN hp
 go_enter Tryz.func86,Tryz.ntmps86
 go_upto_region 1 with fail
 refine a0I ?_;intro W1 hW1;obtain ⟨k0,k1,hb1⟩:=l0O w _ _ W1 hW1;clear hW1;obtain ⟨a1,a2,a3⟩:=a0A jR k1;have HX0:=jH k0;have HX1:=jH k1;have HB1:=jH hb1;clear k0 k1 hb1
 go_cut [7,8] (fun s7 s8 wx=>∃N,s7=.pointer (some ⟨N,0,none⟩)∧s8=.int .i64 7∧jB W1 wx)
 case first =>
  go_region_with (first
   | (go_at_call 156
      refine a0B ?_;intro W2 hW2;have hb2:jB W1 W2:=by rw [hW2];repeat (first|exact jR|refine a0C ?_ _|refine Below.drew ?_)
      clear hW2;refine (HNN.out W2).mono ?_;rintro e w3 ⟨N,fp,rfl,h1,h2,h3⟩;have hb3:=a0D hb2 h3;obtain ⟨b1,b2,b3⟩:=a0A hb3 HX1.out;have h2':∀k∈fp,W1.heap.size≤k:=fun k hk=>by have:=h2 k hk;have:=hb2.size;omega
      have HN:=jH h1;have HF:=jH h2';have HB3:=jH hb3;clear h1 h2 h3 h2' hb2 hb3)
   | (go_at_call 157
      refine a0B ?_;intro W4 hW4;have hb4:jB w3 W4:=by rw [hW4];repeat (first|exact jR|refine a0C ?_ _|refine Below.drew ?_)
      clear hW4;refine (HS1.out N W4).mono ?_;rintro e w5 ⟨rfl,hu5⟩;have HB5:=jH (a0D (a0D HB3.out hb4) hu5);clear hu5 hb4))
  all_goals
    go_wp2_with fail
    go_meet
    exact ⟨N,rfl,rfl,HB5.out⟩
 case rest =>
  obtain ⟨N0,rfl,rfl,hbc⟩:=hcut;have HBC:=jH (a0D HB1.out hbc);have HC0:=jH (jK hbc HX0.out);have HC1:=jH (jK hbc HX1.out);clear hbc a1 a2 a3;go_wp2
  go_ret
  exact HE.out _ HBC.out
theorem f1B (T M:Nat) (c:Cfg) (ver:Nat) (es:List (KO × NE)) (rs rh:Nat) (k:KO) (a:Adv) (w:World) (h:SAt w T M c ver es rs rh) (hb:a0V es k=none) :
 Calls Tryz.prog 109 #[.pointer (some ⟨T,0,none⟩),.agg #[.int .u64 k.1.1,.int .u64 k.1.2],.agg (c0V a).toArray] w (g0Z w T M c es rs rh (.int .i64 5) ver (ab es)):=by
 rw [show (c0V a).toArray=#[.int .i64 a.tick,.int .i64 a.load,.int .i64 a.want,.int .i64 a.repl,.int .i64 a.why] from rfl];have hg:=fun (W:World) (hbw:jB w W)=>h0Z T M c ver es rs rh k W (h.below hbw)
 rw [hb] at hg;have HG:=jH hg;have HE:=jH (fun w'=>g0Z.of_below (w':=w') (.int .i64 5) h);clear h hb hg
 go_enter Tryz.func109,Tryz.ntmps109
 go_wp2_with (first
  | (go_at_call 105
     refine a0B ?_;intro W1 hW1;obtain ⟨k0,k1,hb1⟩:=l0O w _ _ W1 hW1;clear hW1;refine (HG.out W1 hb1).mono ?_;rintro e w2 ⟨rfl,hb2⟩;have HB2:=jH (a0D hb1 hb2);unfold nptr;simp only [Option.map_none]
     clear k0 k1 hb1 hb2))
 go_ret
 exact HE.out _ HB2.out
theorem r1C (T M:Nat) (c:Cfg) (ver:Nat) (es:List (KO × NE)) (rs rh:Nat) (k:KO) (a:Adv) (w:World) (h:SAt w T M c ver es rs rh) (b:NE) (hb:a0V es k=some b) (hrs:rs≤256) (hrh:rh≤64) (hv:ver≤1000000) (hvn:b.2.1.ver≤1000000) :
 Calls Tryz.prog 109 #[.pointer (some ⟨T,0,none⟩),.agg #[.int .u64 k.1.1,.int .u64 k.1.2],.agg (c0V a).toArray] w (g0Z w T M c es rs rh (.int .i64 0) (ver+1) (f0A (ab es) k { h0T b.2.1 with past:=f0K b.2.1.past rh a })):=by
 have hnn:=fun (W:World) (hw:jB w W)=>x0B b.1 b.2.1 rs rh b.2.2 a W ((h.node _ (b0U hb)).below hw) hrs hrh hvn
 rw [show (c0V a).toArray=#[.int .i64 a.tick,.int .i64 a.load,.int .i64 a.want,.int .i64 a.repl,.int .i64 a.why] from rfl] at hnn ⊢;have hg:=fun (W:World) (hbw:jB w W)=>h0Z T M c ver es rs rh k W (h.below hbw)
 rw [hb] at hg;have HG:=jH hg;have HNN:=jH hnn;have H:=jH h;have HFB:=jH hb;have HV:=jH hv;clear h hb hg hnn hv hvn
 go_enter Tryz.func109,Tryz.ntmps109
 go_wp2_with (first
  | (go_at_call 105
     refine a0B ?_;intro W1 hW1;obtain ⟨k0,k1,hb1⟩:=l0O w _ _ W1 hW1;clear hW1;refine (HG.out W1 hb1).mono ?_;rintro e w2 ⟨rfl,hb2⟩;obtain ⟨a1,a2,a3,a4⟩:=b0F hb2 k0;obtain ⟨d1,d2,d3,d4⟩:=b0F hb2 k1;have HK0:=jH a4;have HB2:=jH (a0D hb1 hb2);unfold nptr;simp only [Option.map_some]
     clear k0 k1 hb1 hb2 a4 d4))
 go_cut [] (fun wx=>g0Z w T M c es rs rh (.int .i64 0) (ver+1) (f0A (ab es) k { h0T b.2.1 with past:=f0K b.2.1.past rh a }) (.returned (.int .i64 0)) wx)
 case first =>
  go_region_with (first
   | (go_at_call 176
      refine a0B ?_;intro W3 hW3;have hb3:jB w2 W3:=by rw [hW3];repeat (first|exact jR|refine a0C ?_ _|refine Below.drew ?_)
      clear hW3;have hbw:=a0D HB2.out hb3;refine (HNN.out W3 hbw).mono ?_;rintro e w4 ⟨N4,fr,rfl,hn4,hu4⟩;have hm:=b0U HFB.out;have hbx:=jK hb3 HK0.out;have hb4:=l0U hu4 hbx (fun hr=>by have:=(H.out.node _ hm).lt _ (f0G _ _ _ hr);omega);obtain ⟨q1,q2,q3⟩:=a0A jR hb4;have hole:=(H.out.below hbw).hole hm hu4;have hU:Upd w w4 (mfp b.2.1 b.2.2) fr:=(Upd.of_below hbw _).trans hu4;have HN4:=jH hn4
      have HH:=jH hole;have HU:=jH hU;clear hb3 hbw hn4 hu4 hm hbx hb4 hole hU)
   | (go_at_call 152
      refine (n0N T M c ver es rs rh k N4 _ fr w4 HH.out HN4.out HV.out).mono ?_;rintro e w5 ⟨rfl,h5,hu5⟩;have HF:=jH (m0O (v:=.int .i64 0) HU.out (fun r hr=>e0G.2 ⟨_,b0U HFB.out,hr⟩) h5 hu5);clear h5 hu5))
  all_goals
    go_wp2_with fail
    go_meet
    exact HF.out
 case rest =>
  have HC:=jH hcut;clear hcut;go_wp2
  go_ret
  exact HC.out
end
section
open Go.RowKit Go.Lib
abbrev En:=Ky × Nat
def enC (x:En):List Value:=[.int .u64 x.1.1,.int .u64 x.1.2,.pointer (some ⟨x.2,0,none⟩)]
theorem eEn:i0N 164 246 3 24 (.agg #[.int .u64 0,.int .u64 0,.pointer none]) enC :=
 ⟨by kernel_rfl,by kernel_rfl,rfl,by decide,by decide,fun _=>rfl,fun x u hu=>by
  simp only [enC,List.mem_cons,List.not_mem_nil,or_false] at hu
  rcases hu with rfl|rfl|rfl <;> rfl⟩
end
section
open Go.RowKit Go.Lib Go.Sort
open Go.ChangeMaps (setBlock)
def j0O (es:List (KO × NE)) (q:Ky):Nat:=((es.find? (fun p=>p.1.1=q)).map (fun p=>p.2.1)).getD 0
theorem p1Q {es:List (KO × NE)} {k:KO} {b:NE} (h:a0V es k=some b):j0O es k.1=b.1:=by
 unfold j0O;have e:(fun p:KO × NE=>decide (p.1.1=k.1))=(fun p:KO × NE=>decide (p.1=k)):=by
  funext p
  rw [decide_eq_decide];exact ⟨fun h=>Subtype.ext h,fun h=>by rw [h]⟩
 rw [e];unfold a0V at h;obtain ⟨q,hq,rfl⟩:=Option.map_eq_some_iff.1 h;rw [hq];rfl
def m1Z (w:World) (T M:Nat) (c:Cfg) (ver:Nat) (es:List (KO × NE)) (rs rh:Nat) (e:Ending) (w':World):Prop :=
 ∃ A cc,e=.returned (.slice A (risL (kyN es)).length cc)∧b0Q enC 246 3 w.heap.size w' (.slice A (risL (kyN es)).length cc) ((risL (kyN es)).map fun q=>(q,j0O es q)) ∧
   SAt w' T M c ver (g0Y es (risL (kyN es))) rs rh∧Upd w w' (sfp T M es) (sfp T M (g0Y es (risL (kyN es))))
def q1V (w:World) (T M:Nat) (c:Cfg) (ver:Nat) (es:List (KO × NE)) (rs rh:Nat) (K:List Ky) (e:Ending) (w':World):Prop :=
 ∃ A cc,e=.returned (.slice A K.length cc)∧b0Q enC 246 3 w.heap.size w' (.slice A K.length cc) (K.map fun q=>(q,j0O es q)) ∧
   SAt w' T M c ver (g0Y es K) rs rh∧Upd w w' (sfp T M es) (sfp T M (g0Y es K))
theorem SAt.keptB {w w':World} {T M:Nat} {c:Cfg} {ver:Nat} {es:List (KO × NE)} {rs rh:Nat} (h:SAt w T M c ver es rs rh) {n:Nat} (hT:T<n) (hM:M<n) (hn:∀p∈es,∀r∈p.2.2.2,r<n) (hb:Below n w w'):SAt w' T M c ver es rs rh :=
 ⟨(hb.block T hT).trans h.cell,h.map.block (hb.block M hM),fun p hp=>(h.node p hp).kept (fun r hr=>hb.block r (hn p hp r hr)),h.pair,h.off,h.ne⟩
theorem Upd.thenB {w a b:World} {fp fq:List Nat} (h:Upd w a fp fq) (hb:Below w.heap.size a b):Upd w b fp fq :=
 ⟨hb.os.trans h.os,hb.tape.trans h.tape,hb.output.trans h.output,Nat.le_trans h.size hb.size,fun k hk hn=>(hb.block k hk).trans (h.block k hk hn),h.fresh⟩
theorem k1X {w:World} {T M:Nat} {c:Cfg} {ver:Nat} {es:List (KO × NE)} {rs rh:Nat} (h:SAt w T M c ver es rs rh) (ks:List Ky):∀p∈g0Y es ks,∀r∈p.2.2.2,r<w.heap.size:=by
 intro p hp r hr;obtain ⟨q,hq,rfl⟩:=n0Y hp;exact (h.node q hq).lt r hr
theorem b1I (T M:Nat) (c:Cfg) (ver:Nat) (es:List (KO × NE)) (rs rh:Nat) (w:World) (h:SAt w T M c ver es rs rh) (hl:es.length≤1000) :
 Calls Tryz.prog 97 #[.pointer (some ⟨T,0,none⟩)] w (m1Z w T M c ver es rs rh):=by
 have hnd:(kyN es).Nodup:=l0C h.map;have hnod:(es.map (·.1)).Nodup:=h.nodup;obtain ⟨K,hK⟩:∃K,K=risL (kyN es):=⟨_,rfl⟩;have hKl:K.length≤1000:=by rw [hK,e0K hnd];simp [kyN];exact hl
 have hk0:=p0O T c ver es rs rh _ w h.in_ (by omega);unfold m1Z;rw [←hK] at hk0 ⊢;have HK:=jH hk0;have H:=jH h;have HKK:=jH hK;have HND:=jH hnd;clear h hnd hnod hk0 hK
 go_enter Tryz.func97,Tryz.ntmps97
 go_wp2_with (first
  | (go_at_call 153
     refine HK.out.mono ?_;rintro e w2 ⟨v,rfl,hrow,hb2⟩;obtain ⟨A,cc,rfl⟩:=h0X hrow;have hri:a0O 2 m0E w2 (.slice A K.length cc) K:=a0O.own (n:=2) (f:=m0E) (fun _=>rfl) hrow;have hblk:∀b o m c',(Value.slice A K.length cc)=.slice (some ⟨b,o,none⟩) m c'→0<K.length→w.heap.size≤b∧b<w2.heap.size:=fun b o m c' e hn=>by
      rcases hrow.2 with ⟨hv',h0⟩|⟨g,cap,cur,hv',_⟩
      · omega
      · have hlt:=hrow.lt g (by rw [hv'];rfl)
        rw [e] at hv';injection hv' with e1 _ _
        injection e1 with e1
        injection e1 with e1
        rw [e1];exact hlt
     have HRI:=jH hri;have HBL:=jH hblk;have HB2:=jH hb2;clear hrow hri hblk hb2))
 go_loopg [3,9] K.length (fun g s3 s9 wr=>∃k,k≤K.length∧K.length - k≤g∧s9=.int .i64 (k:Nat)∧b0Q enC 246 3 w2.heap.size wr s3 ((K.take k).map fun q=>(q,j0O es q))∧SAt wr T M c ver (g0Y es (K.take k)) rs rh∧Upd w wr (sfp T M es) (sfp T M (g0Y es (K.take k)))∧a0O 2 m0E wr (.slice A K.length cc) K∧w2.heap.size≤wr.heap.size)
 case atStart =>
  refine ⟨0,Nat.zero_le _,Nat.le_refl _,rfl,b0Q.nil _ _,?_,?_,HRI.out,Nat.le_refl _⟩
  · rw [List.take_zero,c1C];exact H.out.below HB2.out
  · rw [List.take_zero,c1C];exact Upd.of_below HB2.out _
 case round =>
  obtain ⟨k,hk,hg,rfl,hown,hS,hU,hrow,hsz⟩:=hrel
  by_cases hlt:k<K.length
  · have hm:K[k]∈kyN es:=by have:=HKK.out;subst this;exact w0C _ _ (List.getElem_mem hlt)
    obtain ⟨pp,hp,he⟩:=List.mem_map.1 hm;obtain ⟨ko,b⟩:=pp;have hn:K.Nodup:=by have:=HKK.out;subst this;exact q0V HND.out
    have hnk:K[k]∉K.take k:=fun hmem=>by
     obtain ⟨i,hi⟩:=List.getElem?_of_mem hmem;have hil:i<k:=by
      have:=(List.getElem?_eq_some_iff.1 hi).1;simp at this;omega
     rw [List.getElem?_take_of_lt hil] at hi;have:=f0Z hn hi (List.getElem?_eq_getElem hlt);omega
    have hfb:=f0H H.out.nodup hp;have hff:a0V (g0Y es (K.take k)) ko=some b:=by
     rw [i1G,hfb];have:ko.1∉K.take k:=by show ko.1∉_;rw [show ko.1=K[k] from he];exact hnk
     simp [this]
    have HTK:=jH (show K.take (k+1)=K.take k++[ko.1] by rw [List.take_succ_eq_append_getElem hlt,←he]);have HBK:=jH (p1Q hfb);obtain ⟨bb,o,rfl,hbw,hc⟩:=hrow.at_ hlt;have c1:wr.cell? ⟨bb,o+k * 2,none⟩=some (.int .u64 K[k].1):=hc 0 _ rfl;have c2:wr.cell? ⟨bb,o+k * 2+1,none⟩=some (.int .u64 K[k].2):=hc 1 _ rfl;rw [←show ko.1=K[k] from he] at c1 c2;obtain ⟨A3,c3,rfl⟩:=hown.form;have hol:((K.take k).map fun q=>(q,j0O es q)).length=k:=by simp;omega
    have HOL:=jH hol;have HOW:=jH hown;have HN:=jH (hS.node _ (b0U hff));have HSS:=jH hS;have HUU:=jH hU;have HRW:=jH hrow;have HFF:=jH hff;have HSZ:=jH hsz;clear hm hp he hn hnk hfb hff hol hown hS hU hrow hc hsz;generalize hout:((K.take k).map fun q=>(q,j0O es q))=out at *;have HOUT:=jH hout;clear hout;go_wp2_with fail
    refine a0I ?_;intro W1 hW1;have hb1:jB wr W1:=by rw [hW1];exact a0C jR _
    have hx1:W1.heap[wr.heap.size]?=some (.cells #[.int .u64 ko.1.1,.int .u64 ko.1.2] 74 (0,0)):=by rw [hW1];exact heap_alloc_new _ _
    clear hW1 c1 c2;have a1:W1.cell? ⟨wr.heap.size,0,none⟩=some (.int .u64 ko.1.1):=by simp [World.cell?,hx1]
    have a2:W1.cell? ⟨wr.heap.size,1,none⟩=some (.int .u64 ko.1.2):=by simp [World.cell?,hx1]
    have h1:=HSS.out.below hb1;have hltT:=h1.ltT;have z0:W1.cell? ⟨T,0,none⟩=some (.map (some M)):=by simp only [World.cell?,h1.cell];rfl
    have r4:(Instr.lookup 230 (.map (some M)) (.agg #[.int .u64 ko.1.1,.int .u64 ko.1.2]) false).run Tryz.prog W1.drew=.ok (.pointer (some ⟨b.1,0,none⟩)) W1.drew:=by
     have:=m0K (h1.map.below ((Below.refl _ W1).drew)) ko false;rw [HFF.out] at this;exact this
    have HX1:=jH hx1;have HB1:=jH hb1;clear hx1 hb1 h1
    go_region_law (first
     | (refine d0B eEn (by rfl) (.tmp 13) (.tmp 23) (by rfl) w2.heap.size out [(ko.1,b.1)] (.slice A3 out.length c3) _ (by rfl) (by rfl) (HO4.out.below (by repeat (first|exact jR|refine a0C ?_ _|refine Below.drew ?_|refine a0F ?_ _))) (a0O.lit (n:=3) (f:=enC) _ (ko.1,b.1) _ _ _ (by first|rfl|simp) rfl) (by have:=HOL.out;simp;omega) (by have:=HZ4.out;simp;omega) ?_
        intro out6 A6 c6 w6 hout6 hown6 hg6 hblk6;have hb6:Below w2.heap.size w4 w6:=((by repeat (first|exact jR|refine a0C ?_ _|refine Below.drew ?_|refine a0F ?_ _):jB w4 _).mono HZ4.out).trans (a0Z hg6 HO4.out (by have:=HZ4.out;simp;omega));have HB6:=jH hb6;have HO6:=jH hown6;have HE6:=jH hout6;clear hout6 hown6 hg6 hblk6 hb6)
     | (go_simp
        go_at_call 165
        refine a0B ?_;intro W2 hW2;have hb2:jB W1 W2:=by rw [hW2];repeat (first|exact jR|refine a0C ?_ _|refine Below.drew ?_)
        clear hW2;have hbw2:=a0D HB1.out hb2;refine (q0K b.1 b.2.1 rs rh b.2.2 W2 (HN.out.below hbw2)).mono ?_;rintro e w4 ⟨rfl,hn4,hu4⟩;have hsz:=HSZ.out;have hfl:∀r∈mfp b.2.1 b.2.2,r<w.heap.size:=fun r hr=>k1X H.out _ _ (b0U HFF.out) r (f0G _ _ r hr)
        have hx4:=l0U hu4 (jK hb2 HX1.out) (fun hr=>by have:=hfl _ hr;have:=HB2.out.size;omega);obtain ⟨q1,q2,q3⟩:=a0A jR hx4;have hu0:Upd wr w4 (mfp b.2.1 b.2.2) []:=(Upd.of_below hbw2 _).trans hu4;have hfz:=HSS.out.freeze HFF.out hn4 hu0;have HO4:=jH (HOW.out.kept (fun r hr=>hu0.block r (HOW.out.lt hr).2 (fun hk=>by have:=hfl r hk;have:=(HOW.out.lt hr).1;have:=HB2.out.size;omega)));have HR4:=jH (HRW.out.keepB hu0.size (fun b' o' m' c' e hn=>hu0.block b' (by injection e with e1 _ _;injection e1 with e1;injection e1 with e1;omega) (fun hk=>by
         have h1:=hfl b' hk;have h2:=(HBL.out b' o' m' c' e hn).1;omega)))
        have HZ4:=jH (show w2.heap.size≤w4.heap.size from Nat.le_trans hsz hu0.size);have HS4:=jH hfz.1;have HU4:=jH (HUU.out.trans hfz.2);clear hb2 hbw2 hn4 hu4 hx4 hu0 hfz hfl hsz))
    all_goals
      have hw:=HB2.out.size;have H3:Hid (b0Q enC 246 3 w2.heap.size w6 (.slice A6 out6.length c6) (out++[(ko.1,b.1)])):=jH (by rw [←HE6.out];exact HO6.out);have H4:=jH (HS4.out.keptB (n:=w2.heap.size) (Nat.lt_of_lt_of_le H.out.ltT hw) (Nat.lt_of_lt_of_le H.out.map.lt hw) (fun p hp r hr=>Nat.lt_of_lt_of_le (k1X H.out _ p hp r hr) hw) HB6.out);have H5:=jH (HU4.out.thenB (HB6.out.mono hw));have H6:=jH (HR4.out.keepB HB6.out.size (fun b' o' m' c' e hn=>HB6.out.block b' (HBL.out b' o' m' c' e hn).2))
      have H7:=jH (Nat.le_trans HZ4.out HB6.out.size);clear hw;go_wp2
      go_roundg (K.length - (k+1))
      case measure=>omega
      case rel =>
       refine ⟨k+1,hlt,Nat.le_refl _,by go_num,?_,?_,?_,H6.out,H7.out⟩
       · rw [HTK.out,List.map_append,HOUT.out,List.map_cons,List.map_nil,HBK.out]
         exact H3.out
       · rw [HTK.out];exact H4.out
       · rw [HTK.out];exact H5.out
  · obtain rfl:k=K.length:=by omega
    obtain ⟨A3,c3,rfl⟩:=hown.form;rw [List.take_length] at hown hS hU;have HOW:=jH hown;have HSS:=jH hS;have HUU:=jH hU;clear hown hS hU hrow;have hf:q1V w T M c ver es rs rh K (.returned (.slice A3 (((K.take K.length).map fun q=>(q,j0O es q))).length c3)) wr:=by
     have h9:=HOW.out.lower HB2.out.size;rw [show ((K.take K.length).map fun q=>(q,j0O es q)).length=K.length by simp];rw [show (K.map fun q=>(q,j0O es q)).length=K.length by simp] at h9;exact ⟨A3,c3,rfl,by simpa using h9,HSS.out,HUU.out⟩
    have HF:=jH hf;clear hf;go_wp2
    go_ret
    exact HF.out
end
end Go.Proofs.YtmniiodpbebnmaaGreat
