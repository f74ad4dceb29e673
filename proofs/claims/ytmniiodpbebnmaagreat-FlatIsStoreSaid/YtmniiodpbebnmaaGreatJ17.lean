/- Part 17 of the proof. -/
import Derived.Test.YtmniiodpbebnmaaGreatJ16
namespace Go.Proofs.YtmniiodpbebnmaaGreat
set_option linter.unusedSimpArgs false
set_option linter.unusedVariables false
set_option linter.unusedSectionVars false
set_option maxRecDepth 100000
set_option maxHeartbeats 16000000
section
open Go.RowKit Go.Lib Go.Sort
open Go.ChangeMaps (setBlock)
def frz (x:Nd):Nd:={ x with frz:=true }
theorem o0O (N:Nat) (x:Nd) (rs rh:Nat) (fp:List Nat) (w:World) (h:b0G w N x rs rh fp) :
 Calls Tryz.prog 165 #[.pointer (some ⟨N,0,none⟩)] w fun e w'=>e=.returned (.pointer (some ⟨N,0,none⟩))∧b0G w' N (frz x) rs rh fp∧Upd w w' (mfp x fp) []:=by
 have HM:=jH (e0M N x rs rh fp w h);have HN:=jH h;obtain ⟨S,fs,H,fh,h1,_⟩:=id h;have H1:=jH h1;clear h h1
 go_enter Tryz.func165,Tryz.ntmps165
 go_wp2_with (first
  | (go_at_call 174
     refine HM.out.mono ?_;rintro e w2 ⟨rfl,hb2⟩;obtain ⟨a1,a2,a3⟩:=a0A hb2 H1.out;have hx2:=(hb2.block N (jL H1.out)).trans H1.out;have HX2:=jH hx2;have HB2:=jH hb2;clear hb2 hx2))
 go_ret
 have hn2:=HN.out.below HB2.out;refine ⟨rfl,e0X (i:=10) (v:=.bool true) (y:=frz x) hn2 (fun S H=>rfl) rfl rfl,HB2.out.os,HB2.out.tape,HB2.out.output,by simp [World.setCell];exact HB2.out.size,fun k hk hn=>?_,fun r hr=>by cases hr⟩
 by_cases e:k=N
 · subst e
   have hf:x.frz=true:=by
    cases hx:x.frz with
    | true=>rfl
    | false =>
      exfalso
      apply hn
      unfold mfp;rw [hx];exact HN.out.mem
   have hb:=a0E (i:=10) (v:=.bool true) HX2.out;rw [hb,H1.out];have:(ndC x S H).setIfInBounds 10 (.bool true)=ndC x S H:=by
    unfold ndC;rw [hf];rfl
   rw [this]
 · exact (Below.heap_setCell _ _ _ _ e).trans (HB2.out.block k hk)
def f0P (es:List (KO × NE)) (ks:List Ky):List (KO × NE):=es.map fun p=>(p.1,(p.2.1,(if p.1.1∈ks then frz p.2.2.1 else p.2.2.1),p.2.2.2))
theorem x0N (es:List (KO × NE)):f0P es []=es:=by
 unfold f0P
 conv=>rhs;rw [←List.map_id es]
 exact List.map_congr_left fun p _=>rfl
theorem m0B {es:List (KO × NE)} {ks:List Ky} {p:KO × NE} (h:p∈f0P es ks):∃q∈es,p=(q.1,(q.2.1,(if q.1.1∈ks then frz q.2.2.1 else q.2.2.1),q.2.2.2)):=by
 obtain ⟨q,hq,rfl⟩:=List.mem_map.1 h;exact ⟨q,hq,rfl⟩
theorem i1N (es:List (KO × NE)) (ks:List Ky) (k:KO):a0L (f0P es ks) k=(a0L es k).map (fun b=>(b.1,(if k.1∈ks then frz b.2.1 else b.2.1),b.2.2)):=by
 unfold a0L f0P;rw [List.find?_map];simp only [Function.comp_def]
 cases h:es.find? (fun p=>decide (p.1=k)) with
 | none=>simp
 | some q =>
   have:=List.find?_some h;simp at this
   simp [this]
theorem d1P (es:List (KO × NE)) (ks:List Ky):ab (f0P es ks)=(ab es).map (fun p=>(p.1,if p.1.1∈ks then frz p.2 else p.2)):=by
 simp [ab,f0P,List.map_map,Function.comp_def]
theorem SAt.freeze {w w':World} {T M:Nat} {c:Cfg} {ver:Nat} {es:List (KO × NE)} {rs rh:Nat} {ks:List Ky} {k:KO} {b:NE} (h:SAt w T M c ver (f0P es ks) rs rh) (hb:a0L (f0P es ks) k=some b)
    (hn:b0G w' b.1 (frz b.2.1) rs rh b.2.2) (hu:Upd w w' (mfp b.2.1 b.2.2) []):SAt w' T M c ver (f0P es (ks++[k.1])) rs rh∧Upd w w' (sfp T M (f0P es ks)) (sfp T M (f0P es (ks++[k.1]))):=by
  have hm:=b0B hb;have hnd:=h.nodup;have ho:=h.off _ hm;have hsub:=e0L b.2.1 b.2.2;have hole:=h.hole hm hu;have hent:∀p∈f0P es (ks++[k.1]),∃q∈f0P es ks,q.1=p.1∧q.2.1=p.2.1∧q.2.2.2=p.2.2.2∧((p.1=k∧p.2.2.1=frz q.2.2.1)∨(p.1≠k∧p.2.2.1=q.2.2.1)):=by
   intro p hp;obtain ⟨q,hq,rfl⟩:=m0B hp;refine ⟨_,List.mem_map.2 ⟨q,hq,rfl⟩,rfl,rfl,rfl,?_⟩
   by_cases e:q.1=k
   · refine .inl ⟨e,?_⟩
     have e1:q.1.1=k.1:=by rw [e]
     simp only [e1,List.mem_append,List.mem_singleton,or_true,if_true]
     split
     · rfl
     · rfl
   · refine .inr ⟨e,?_⟩
     have:¬q.1.1=k.1:=fun h=>e (Subtype.ext h)
     simp [this]
  have hat:∀q∈f0P es ks,q.1=k→q.2=b:=fun q hq e=>by
   have:=f0H hnd (show (k,q.2)∈f0P es ks by rw [←e];exact hq);rw [hb] at this;injection this with this
   exact this.symm
  refine ⟨⟨hole.cell,?_,fun p hp=>?_,fun p hp q hq hpq=>?_,fun p hp=>?_,h.ne⟩,⟨hu.os,hu.tape,hu.output,hu.size,fun r hr hnr=>hu.block r hr (fun hk=>hnr ?_),fun r hr=>?_⟩⟩
  · have h1:=hole.map
    unfold f0P at h1 ⊢;obtain ⟨ents,clock,g1,g2,g3,g4,g5⟩:=h1;refine ⟨ents,clock,g1,g2.trans ?_,g3,g4,?_⟩
    · rw [List.map_map,List.map_map];rfl
    · rw [List.map_map] at g5 ⊢;exact g5
  · obtain ⟨q,hq,e1,e2,e3,e4⟩:=hent p hp
    rw [←e2,←e3]
    rcases e4 with ⟨ek,e5⟩|⟨ek,e5⟩
    · have:=hat q hq (e1.trans ek)
      rw [e5,this];exact hn
    · rw [e5]
      exact hole.node q hq (by rw [e1];exact ek)
  · obtain ⟨p',hp',e1,_,e3,_⟩:=hent p hp
    obtain ⟨q',hq',f1,_,f3,_⟩:=hent q hq;rw [←e3,←f3];exact h.pair p' hp' q' hq' (by rw [e1,f1];exact hpq)
  · obtain ⟨p',hp',e1,_,e3,_⟩:=hent p hp
    rw [←e3];exact h.off p' hp'
  · simp only [sfp,List.mem_cons]
    exact .inr (.inr (d0S.2 ⟨_,hm,hk⟩))
  · simp only [sfp,List.mem_cons] at hr ⊢
    rcases hr with rfl|rfl|hr
    · exact .inl (.inl rfl)
    · exact .inl (.inr (.inl rfl))
    · obtain ⟨p,hp,hr⟩:=d0S.1 hr
      obtain ⟨q,hq,e1,_,e3,e4⟩:=hent p hp;refine .inl (.inr (.inr (d0S.2 ⟨q,hq,?_⟩)))
      rcases e4 with ⟨_,e5⟩|⟨_,e5⟩
      · rw [e5] at hr
        unfold mfp frz at hr;simp at hr
      · rw [←e5,e3]
        exact hr
end
section
open Go.RowKit Go.Lib Go.Sort
def f0U (x y:Nd):Prop:=x.smp=y.smp∧x.past=y.past∧x.pol=y.pol∧x.ruled=y.ruled
theorem f0U.refl (x:Nd):f0U x x:=⟨rfl,rfl,rfl,rfl⟩
def f0K (l:List It):List Ky:=l.map (·.key)
def c0M (S:List (KO × Nd)):List Ky:=S.map (·.1.1)
structure b0N (S:List (KO × Nd)) (R:List (Ky × Nd)):Prop where
 nodup:(S.map (·.1)).Nodup
 sorted:(R.map (·.1)).Pairwise (fun a b=>ltK a b=true)
 keys:∀q,q∈R.map (·.1) ↔ q∈c0M S
 vals:∀k x,a0L S k=some x→∃y,(k.1,y)∈R∧f0U x y
theorem b0N.nil:b0N [] []:=⟨List.nodup_nil,List.Pairwise.nil,fun q=>by simp [c0M],fun k x h=>by simp [a0L] at h⟩
theorem b0N.risL {S:List (KO × Nd)} {R:List (Ky × Nd)} (h:b0N S R):risL (c0M S)=R.map (·.1) :=
 i0X (u0C _) h.sorted (fun q=>by rw [g0X,h.keys])
theorem j0B {S:List (KO × Nd)} (h:(S.map (·.1)).Nodup):(c0M S).Nodup:=by
 have:=n0L h
 simpa [kys,c0M,List.map_map,Function.comp_def] using this
theorem b0N.len {S:List (KO × Nd)} {R:List (Ky × Nd)} (h:b0N S R):S.length=R.length:=by
 have h1:=congrArg List.length h.risL;rw [e0G (j0B h.nodup)] at h1
 simpa [c0M] using h1
theorem e0W {R:List (Ky × Nd)} (hs:(R.map (·.1)).Pairwise (fun a b=>ltK a b=true)) {q:Ky} {y z:Nd} (hy:(q,y)∈R) (hz:(q,z)∈R):y=z:=by
 induction R with
 | nil=>cases hy
 | cons a R ih =>
   rw [List.map_cons,List.pairwise_cons] at hs
   rcases List.mem_cons.1 hy with hy|hy
   · rcases List.mem_cons.1 hz with hz|hz
     · rw [←hy] at hz;injection hz with _ hz;exact hz.symm
     · have:=hs.1 q (List.mem_map.2 ⟨_,hz,rfl⟩)
       rw [←hy] at this;exact absurd this (by rw [c0H q];simp)
   · rcases List.mem_cons.1 hz with hz|hz
     · have:=hs.1 q (List.mem_map.2 ⟨_,hy,rfl⟩)
       rw [←hz] at this;exact absurd this (by rw [c0H q];simp)
     · exact ih hs.2 hy hz
theorem o1E {l:List It} {i:Nat} (h:i<l.length):(f0K l)[i]?=some l[i].key:=by simp [f0K,h]
theorem k0Y {l:List It} (hs:(f0K l).Pairwise (fun a b=>ltK a b=true)) {i j:Nat} (hj:j<l.length) (hij:i<j):ltK (l[i]'(by omega)).key l[j].key=true:=by
 have:=(List.pairwise_iff_getElem.1 hs) i j (by simp [f0K];omega) (by simp [f0K];omega) hij
 simpa [f0K] using this
theorem r0B {l:List It} (hs:(f0K l).Pairwise (fun a b=>ltK a b=true)) (k:Ky):j0H l k=true ↔ k∈f0K l:=by
 constructor
 · intro h
   unfold j0H at h
   split at h
   · rename_i hl
     rw [←of_decide_eq_true h];exact List.mem_map.2 ⟨_,List.getElem_mem hl,rfl⟩
   · cases h
 · intro h
   obtain ⟨x,hx,hk⟩:=List.mem_map.1 h;obtain ⟨i,hi,rfl⟩:=List.getElem_of_mem hx;have h1:atI l k≤i:=by
    rcases Nat.lt_or_ge i (atI l k) with h'|h'
    · have:=h1R hi h'
      rw [hk,c0H] at this
      cases this
    · exact h'
   have h2:atI l k=i:=by
    rcases Nat.lt_or_ge (atI l k) i with h'|h'
    · have h3:=k0Y hs hi h'
      rw [hk] at h3;rw [n1T (by omega)] at h3
      cases h3
    · omega
   unfold j0H;rw [dif_pos (by omega)];simp only [h2,hk,decide_true]
theorem z0L {l:List It} (hs:(f0K l).Pairwise (fun a b=>ltK a b=true)) {k:Ky} {j:Nat} (hj:j<l.length) (h:(if j0H l k=true then atI l k+1 else atI l k)≤j):ltK k l[j].key=true:=by
 cases hh:j0H l k with
 | true =>
   rw [hh,if_pos rfl] at h;have h1:∃hl:atI l k<l.length,l[atI l k].key=k:=by
    unfold j0H at hh
    split at hh
    · rename_i hl
      exact ⟨hl,of_decide_eq_true hh⟩
    · cases hh
   obtain ⟨hl,hk⟩:=h1;have:=k0Y hs hj (show atI l k<j by omega);rw [hk] at this;exact this
 | false =>
   rw [hh,if_neg (by simp)] at h;have hne:l[j].key≠k:=fun e=>by
    have:=(r0B hs k).2 (List.mem_map.2 ⟨_,List.getElem_mem hj,e⟩);rw [hh] at this
    cases this
   have hn:ltK l[j].key k=false:=by
    have h0:=n1T (l:=l) (k:=k) (by omega)
    cases hx:ltK l[j].key k with
    | false=>rfl
    | true =>
      rcases Nat.lt_or_ge (atI l k) j with h'|h'
      · rw [d0A (k0Y hs hj h') hx] at h0
        cases h0
      · have:atI l k=j:=by omega
        simp only [this] at h0
        rw [h0] at hx
        cases hx
   cases hx:ltK k l[j].key with
   | true=>rfl
   | false=>exact absurd (d0P hn hx) hne
theorem i0C {l:List It} (hs:(f0K l).Pairwise (fun a b=>ltK a b=true)) (k:Ky) (y:Nd) (q:Ky) (z:Nd):(q,z)∈j1A l k y ↔ (q=k∧z=y)∨((q,z)∈l.map g0O∧q≠k):=by
 unfold j1A;rw [List.mem_append,List.mem_append,List.mem_singleton]
 constructor
 · rintro ((h|h)|h)
   · obtain ⟨i,hi⟩:=List.getElem?_of_mem h
     rw [List.getElem?_take] at hi
     split at hi
     · rename_i hlt
       obtain ⟨hil,he⟩:=List.getElem?_eq_some_iff.1 hi;simp only [List.length_map] at hil
       simp only [List.getElem_map,g0O,Prod.mk.injEq] at he
       refine .inr ⟨List.mem_of_mem_take h,fun e=>?_⟩;have:=h1R hil hlt;rw [he.1,e,c0H] at this
       cases this
     · cases hi
   · injection h with h1 h2
     exact .inl ⟨h1,h2⟩
   · obtain ⟨i,hi⟩:=List.getElem?_of_mem h
     rw [List.getElem?_drop] at hi;obtain ⟨hil,he⟩:=List.getElem?_eq_some_iff.1 hi;simp only [List.length_map] at hil
     simp only [List.getElem_map,g0O,Prod.mk.injEq] at he
     refine .inr ⟨List.mem_of_mem_drop h,fun e=>?_⟩;have:=z0L hs hil (Nat.le_add_right _ i);rw [he.1,e,c0H] at this
     cases this
 · rintro (⟨rfl,rfl⟩|⟨h,hq⟩)
   · exact .inl (.inr rfl)
   · obtain ⟨x,hx,he⟩:=List.mem_map.1 h
     obtain ⟨i,hi,rfl⟩:=List.getElem_of_mem hx;simp only [g0O,Prod.mk.injEq] at he
     by_cases h1:i<atI l k
     · refine .inl (.inl ?_)
       refine List.mem_of_getElem? (i:=i) ?_;rw [List.getElem?_take,if_pos h1];simp [hi,g0O,he]
     · by_cases h2:(if j0H l k=true then atI l k+1 else atI l k)≤i
       · refine .inr ?_
         refine List.mem_of_getElem? (i:=i - (if j0H l k=true then atI l k+1 else atI l k)) ?_;rw [List.getElem?_drop,Nat.add_sub_cancel' h2];simp [hi,g0O,he]
       · exfalso
         split at h2
         · rename_i hh
           have h3:i=atI l k:=by omega
           subst h3;obtain ⟨hl,hg⟩:=y0U hh;unfold j0H at hh;rw [dif_pos hl] at hh;exact hq (he.1.symm.trans (of_decide_eq_true hh))
         · omega
theorem m0Q {l:List It} (hs:(f0K l).Pairwise (fun a b=>ltK a b=true)) (k:Ky) (y:Nd):((j1A l k y).map (·.1)).Pairwise (fun a b=>ltK a b=true):=by
 unfold j1A;simp only [List.map_append,List.map_cons,List.map_nil,List.map_take,List.map_drop,List.map_map]
 have e:(Prod.fst ∘ g0O:It→Ky)=(·.key):=rfl;rw [show List.map ((fun x:Ky × Nd=>x.1) ∘ g0O) l=f0K l from rfl];have hlow:∀q∈(f0K l).take (atI l k),ltK q k=true:=fun q hq=>by
  obtain ⟨i,hi⟩:=List.getElem?_of_mem hq;rw [List.getElem?_take] at hi
  split at hi
  · rename_i hlt
    have hil:i<l.length:=by have:=(List.getElem?_eq_some_iff.1 hi).1;simpa [f0K] using this
    rw [o1E hil] at hi;injection hi with hi
    rw [←hi];exact h1R hil hlt
  · cases hi
 have hhigh:∀q∈(f0K l).drop (if j0H l k=true then atI l k+1 else atI l k),ltK k q=true:=fun q hq=>by
  obtain ⟨i,hi⟩:=List.getElem?_of_mem hq;rw [List.getElem?_drop] at hi;have hil:(if j0H l k=true then atI l k+1 else atI l k)+i<l.length:=by have:=(List.getElem?_eq_some_iff.1 hi).1;simpa [f0K] using this
  rw [o1E hil] at hi;injection hi with hi
  rw [←hi];exact z0L hs hil (Nat.le_add_right _ i)
 rw [List.pairwise_append,List.pairwise_append];refine ⟨⟨hs.sublist (List.take_sublist _ _),List.pairwise_singleton _ _,fun a ha b hb=>?_⟩,hs.sublist (List.drop_sublist _ _),fun a ha b hb=>?_⟩
 · rw [List.mem_singleton.1 hb];exact hlow a ha
 · rcases List.mem_append.1 ha with ha|ha
   · exact d0A (hlow a ha) (hhigh b hb)
   · rw [List.mem_singleton.1 ha];exact hhigh b hb
theorem j0R (l:List It):(l.map g0O).map (·.1)=f0K l:=by simp [f0K,g0O,List.map_map,Function.comp_def]
theorem b0N.put {S:List (KO × Nd)} {l:List It} (h:b0N S (l.map g0O)) (k:KO) {x y:Nd} (hxy:f0U x y):b0N (d0F S k x) (j1A l k.1 y):=by
 have hs:(f0K l).Pairwise (fun a b=>ltK a b=true):=by rw [←j0R];exact h.sorted
 refine ⟨h0U h.nodup k x,m0Q hs k.1 y,fun q=>?_,fun k' x' hf=>?_⟩
 · have hk:q∈c0M (d0F S k x) ↔ q=k.1∨q∈c0M S:=by
    have e:c0M (d0F S k x)=((d0F S k x).map (·.1)).map (·.1):=by simp [c0M,List.map_map,Function.comp_def]
    have e2:c0M S=(S.map (·.1)).map (·.1):=by simp [c0M,List.map_map,Function.comp_def]
    rw [e,e2,h0L]
    split
    · rename_i hh
      constructor
      · exact .inr
      · rintro (rfl|h')
        · exact List.mem_map.2 ⟨k,(c0D S k).1 hh,rfl⟩
        · exact h'
    · rw [List.map_append,List.mem_append]
      simp only [List.map_cons,List.map_nil,List.mem_singleton]
      exact or_comm
   rw [hk,←h.keys]
   constructor
   · intro hq
     obtain ⟨⟨q',z⟩,hm,rfl⟩:=List.mem_map.1 hq
     rcases (i0C hs k.1 y q' z).1 hm with ⟨h1,_⟩|⟨h1,_⟩
     · exact .inl h1
     · exact .inr (List.mem_map.2 ⟨_,h1,rfl⟩)
   · intro hq
     by_cases e:q=k.1
     · exact List.mem_map.2 ⟨(q,y),(i0C hs k.1 y q y).2 (.inl ⟨e,rfl⟩),rfl⟩
     · rcases hq with hq|hq
       · exact absurd hq e
       · obtain ⟨⟨q',z⟩,hm,rfl⟩:=List.mem_map.1 hq
         exact List.mem_map.2 ⟨(q',z),(i0C hs k.1 y q' z).2 (.inr ⟨hm,e⟩),rfl⟩
 · rw [j0U] at hf
   split at hf
   · rename_i e
     injection hf with hf
     subst hf e;exact ⟨y,(i0C hs _ y _ y).2 (.inl ⟨rfl,rfl⟩),hxy⟩
   · rename_i e
     obtain ⟨z,hz,hsame⟩:=h.vals k' x' hf;exact ⟨z,(i0C hs k.1 y k'.1 z).2 (.inr ⟨hz,fun e'=>e (Subtype.ext e')⟩),hsame⟩
theorem f1O {S:List (KO × Nd)} {k:KO} (h:a0L S k=none):d0B S k=false:=by
 cases hh:d0B S k with
 | false=>rfl
 | true=>obtain ⟨v,hv,_⟩:=c0F hh;rw [hv] at h;cases h
theorem b0N.sortedI {S:List (KO × Nd)} {l:List It} (h:b0N S (l.map g0O)):(f0K l).Pairwise (fun a b=>ltK a b=true):=by rw [←j0R];exact h.sorted
theorem b0N.has {S:List (KO × Nd)} {l:List It} (h:b0N S (l.map g0O)) (k:KO):d0B S k=j0H l k.1:=by
 rw [Bool.eq_iff_iff,r0B h.sortedI,c0D,←j0R,h.keys];unfold c0M
 constructor
 · intro hk
   obtain ⟨p,hp,rfl⟩:=List.mem_map.1 hk;exact List.mem_map.2 ⟨p,hp,rfl⟩
 · intro hk
   obtain ⟨p,hp,he⟩:=List.mem_map.1 hk;exact List.mem_map.2 ⟨p,hp,Subtype.ext he⟩
theorem z0A {l:List It} {k:Ky} (h:j0H l k=true):(k,(k0H l k).nd)∈l.map g0O:=by
 obtain ⟨hl,hg⟩:=y0U h;unfold j0H at h;rw [dif_pos hl] at h;have hk:=of_decide_eq_true h;exact List.mem_map.2 ⟨l[atI l k],List.getElem_mem hl,by rw [hg,g0O,hk]⟩
theorem b0N.get {S:List (KO × Nd)} {l:List It} (h:b0N S (l.map g0O)) (k:KO):f0U (l0R S k) (k0H l k.1).nd:=by
 unfold l0R
 cases hf:a0L S k with
 | none =>
   have hh:=f1O hf;rw [h.has k] at hh;rw [h1C hh];exact f0U.refl _
 | some x =>
   obtain ⟨y,hy,hs⟩:=h.vals k x hf;have hh:j0H l k.1=true:=by rw [←h.has k];exact m0H hf
   have:=e0W h.sorted hy (z0A hh);rw [←this];exact hs
theorem f0U.trim {x y:Nd} (h:f0U x y) (cut:Int):f0U (o0Q cut x) (f0T cut y):=by
 obtain ⟨h1,h2,h3,h4⟩:=h;unfold o0Q f0T;rw [h1]
 split
 · exact ⟨h1,h2,h3,h4⟩
 · exact ⟨by simp,by simpa [g0N] using h2,by simpa [g0N] using h3,by simpa [g0N] using h4⟩
theorem b0N.trim {S:List (KO × Nd)} {R:List (Ky × Nd)} (h:b0N S R) (cut:Int) {K:List Ky} (hK:∀q∈c0M S,q∈K):b0N (f0Q S cut K) (R.map fun p=>(p.1,f0T cut p.2)):=by
 have hk:c0M (f0Q S cut K)=c0M S:=by
  unfold c0M f0Q;rw [List.map_map];rfl
 have hr:(R.map fun p=>(p.1,f0T cut p.2)).map (·.1)=R.map (·.1):=by rw [List.map_map];rfl
 refine ⟨by rw [o0Y];exact h.nodup,by rw [hr];exact h.sorted,fun q=>by rw [hr,hk];exact h.keys q,fun k x hf=>?_⟩;rw [p0K] at hf;obtain ⟨z,hz,rfl⟩:=Option.map_eq_some_iff.1 hf;obtain ⟨y,hy,hs⟩:=h.vals k z hz;have:k.1∈K:=hK _ (List.mem_map.2 ⟨_,b0B hz,rfl⟩);rw [if_pos this];exact ⟨f0T cut y,List.mem_map.2 ⟨_,hy,rfl⟩,hs.trim cut⟩
theorem r0Z {S:List (KO × Nd)} {R:List (Ky × Nd)} (h:b0N S R) (K:List Ky):b0N (S.map fun p=>(p.1,if p.1.1∈K then frz p.2 else p.2)) R:=by
 have e1:(S.map fun p=>(p.1,if p.1.1∈K then frz p.2 else p.2)).map (·.1)=S.map (·.1):=by rw [List.map_map];rfl
 have e2:c0M (S.map fun p=>(p.1,if p.1.1∈K then frz p.2 else p.2))=c0M S:=by unfold c0M;rw [List.map_map];rfl
 refine ⟨by rw [e1];exact h.nodup,h.sorted,fun q=>by rw [e2];exact h.keys q,fun k x hf=>?_⟩;rw [r0T (fun (k:KO) (x:Nd)=>if k.1∈K then frz x else x) S k] at hf;obtain ⟨z,hz,rfl⟩:=Option.map_eq_some_iff.1 hf;obtain ⟨y,hy,hs⟩:=h.vals k z hz;refine ⟨y,hy,?_⟩
 split
 · exact hs
 · exact hs
theorem b1F {S:List (KO × Nd)} {l:List It} (h:b0N S (l.map g0O)) (cut:Int):g0M S cut (risL (c0M S))=k1C l cut∧g0R S cut (risL (c0M S))=l1M l cut:=by
 have hg:∀x∈l,q0S S cut x.key=a0N x.nd.smp cut:=by
  intro x hx;have hm:x.key∈c0M S:=(h.keys x.key).1 (List.mem_map.2 ⟨g0O x,List.mem_map.2 ⟨x,hx,rfl⟩,rfl⟩);obtain ⟨p,hp,he⟩:=List.mem_map.1 hm;have hf:=f0H h.nodup (show (p.1,p.2)∈S from hp);obtain ⟨y,hy,hs⟩:=h.vals p.1 p.2 hf;have:=k0B cut hf;rw [he] at this hy;rw [this,hs.1,e0W h.sorted hy (List.mem_map.2 ⟨x,hx,rfl⟩:(x.key,x.nd)∈l.map g0O)]
 rw [h.risL,j0R];unfold g0M g0R k1C l1M f0K;rw [List.map_map,List.countP_map]
 constructor
 · congr 1
   exact List.map_congr_left fun x hx=>hg x hx
 · exact List.countP_congr fun x hx=>by simp only [Function.comp,hg x hx]
end
section
open Go.RowKit Go.Lib Go.Sort
open Go.ChangeMaps (setBlock)
def nptr (o:Option NE):Option Addr:=o.map fun b=>⟨b.1,0,none⟩
theorem m1Q (o:Option NE):(o.map neV).getD (.pointer none)=.pointer (nptr o):=by cases o <;> rfl
theorem h0W (T M:Nat) (c:Cfg) (ver:Nat) (es:List (KO × NE)) (rs rh:Nat) (k:KO) (w:World) (h:SAt w T M c ver es rs rh) :
 Calls Tryz.prog 105 #[.pointer (some ⟨T,0,none⟩),.agg #[.int .u64 k.1.1,.int .u64 k.1.2]] w (jP w (.pointer (nptr (a0L es k)))):=by
 have H:=jH h;clear h
 go_enter Tryz.func105,Tryz.ntmps105
 go_wp2_with (first
  | (go_at_call 149
     refine a0B ?_;intro W1 hW1;have hb1:jB w W1:=by rw [hW1];exact a0C jR _
     have hx1:W1.heap[w.heap.size]?=some (.cells #[.int .u64 k.1.1,.int .u64 k.1.2] 74 (0,0)):=by rw [hW1];exact heap_alloc_new _ _
     clear hW1;refine (g0H T c ver es rs rh _ W1 ((H.out.below hb1).in_)).mono ?_;rintro e w2 ⟨rfl,hb2⟩;obtain ⟨a1,a2,a3⟩:=a0A hb2 hx1;have hb3:=a0D hb1 hb2;have h3:=H.out.below hb3;have s1:∀W,jB w2 W→W.cell? ⟨T,0,none⟩=some (.map (some M)):=h3.cells (j:=0) rfl;have hlt1:=h3.ltT;have r4:∀n,(Instr.lookup 230 (.map (some M)) (.agg #[.int .u64 k.1.1,.int .u64 k.1.2]) false).run Tryz.prog (w2.drewN n)=.ok (.pointer (nptr (a0L es k))) (w2.drewN n):=fun n=>by
      have:=k0Z (h3.map.below (a0G jR n)) k false;rw [m1Q] at this;exact this
     have HB3:=jH hb3;clear hb1 hb2 hx1 hb3 h3))
 go_quiet (fail)
 go_wp2
 go_ret
 exact ⟨rfl,a0G HB3.out _⟩
end
end Go.Proofs.YtmniiodpbebnmaaGreat
