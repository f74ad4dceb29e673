/- Part 23 of the proof: Stripe, SKeys, SLaw, SLaw2, SLaw4, SPlay, Alike, CutFz, RouteLt, Ctl2. -/
import Derived.Laws.Cover3
import Derived.Sort.LotA
import Derived.Sort.Lot0
import Derived.Shelf.SlSortCmp.QuietGrown
import Derived.Sort.WalkB12
import Derived.Lib.OwnBridge
import Derived.Shelf.SlicesE.Clone
import Derived.Test.YtkcdhaallnhhmaaGreatQ20
import Derived.Test.YtkcdhaallnhhmaaGreatQ22
namespace Go.Proofs.YtkcdhaallnhhmaaGreat
set_option linter.unusedSimpArgs false
set_option linter.unusedVariables false
set_option linter.unusedSectionVars false
set_option maxRecDepth 100000
set_option maxHeartbeats 16000000
section
open Go.RowKit Go.Lib Go.Sort
abbrev NE:=Nat × Nd × List Nat
end
section
open Go.RowKit Go.Lib Go.Shelf
attribute [local go_sem] Oper.semAt_some
end
section
open Go.RowKit Go.Lib Go.Sort
def sameN (x y:Nd):Prop:=x.smp=y.smp∧x.past=y.past∧x.pol=y.pol∧x.ruled=y.ruled
theorem sameN.refl (x:Nd):sameN x x:=⟨rfl,rfl,rfl,rfl⟩
def keysI (l:List It):List Ky:=l.map (·.key)
theorem sorted_at_unique {R:List (Ky × Nd)} (hs:(R.map (·.1)).Pairwise (fun a b=>ltK a b=true)) {q:Ky} {y z:Nd} (hy:(q,y)∈R) (hz:(q,z)∈R):y=z:=by
 induction R with
 | nil=>cases hy
 | cons a R ih =>
   rw [List.map_cons,List.pairwise_cons] at hs
   rcases List.mem_cons.1 hy with hy|hy
   · rcases List.mem_cons.1 hz with hz|hz
     · rw [←hy] at hz;injection hz with _ hz;exact hz.symm
     · have:=hs.1 q (List.mem_map.2 ⟨_,hz,rfl⟩)
       rw [←hy] at this;exact absurd this (by rw [ltK_irrefl q];simp)
   · rcases List.mem_cons.1 hz with hz|hz
     · have:=hs.1 q (List.mem_map.2 ⟨_,hy,rfl⟩)
       rw [←hz] at this;exact absurd this (by rw [ltK_irrefl q];simp)
     · exact ih hs.2 hy hz
theorem key_at {l:List It} {i:Nat} (h:i<l.length):(keysI l)[i]?=some l[i].key:=by simp [keysI,h]
theorem sorted_get {l:List It} (hs:(keysI l).Pairwise (fun a b=>ltK a b=true)) {i j:Nat} (hj:j<l.length) (hij:i<j):ltK (l[i]'(by omega)).key l[j].key=true:=by
 have:=(List.pairwise_iff_getElem.1 hs) i j (by simp [keysI];omega) (by simp [keysI];omega) hij
 simpa [keysI] using this
theorem hasI_iff {l:List It} (hs:(keysI l).Pairwise (fun a b=>ltK a b=true)) (k:Ky):hasI l k=true ↔ k∈keysI l:=by
 constructor
 · intro h
   unfold hasI at h
   split at h
   · rename_i hl
     rw [←of_decide_eq_true h];exact List.mem_map.2 ⟨_,List.getElem_mem hl,rfl⟩
   · cases h
 · intro h
   obtain ⟨x,hx,hk⟩:=List.mem_map.1 h;obtain ⟨i,hi,rfl⟩:=List.getElem_of_mem hx;have h1:atI l k≤i:=by
    rcases Nat.lt_or_ge i (atI l k) with h'|h'
    · have:=atI_lt hi h'
      rw [hk,ltK_irrefl] at this
      cases this
    · exact h'
   have h2:atI l k=i:=by
    rcases Nat.lt_or_ge (atI l k) i with h'|h'
    · have h3:=sorted_get hs hi h'
      rw [hk] at h3;rw [atI_ge (by omega)] at h3
      cases h3
    · omega
   unfold hasI;rw [dif_pos (by omega)];simp only [h2,hk,decide_true]
theorem above_at {l:List It} (hs:(keysI l).Pairwise (fun a b=>ltK a b=true)) {k:Ky} {j:Nat} (hj:j<l.length) (h:(if hasI l k=true then atI l k+1 else atI l k)≤j):ltK k l[j].key=true:=by
 cases hh:hasI l k with
 | true =>
   rw [hh,if_pos rfl] at h;have h1:∃hl:atI l k<l.length,l[atI l k].key=k:=by
    unfold hasI at hh
    split at hh
    · rename_i hl
      exact ⟨hl,of_decide_eq_true hh⟩
    · cases hh
   obtain ⟨hl,hk⟩:=h1;have:=sorted_get hs hj (show atI l k<j by omega);rw [hk] at this;exact this
 | false =>
   rw [hh,if_neg (by simp)] at h;have hne:l[j].key≠k:=fun e=>by
    have:=(hasI_iff hs k).2 (List.mem_map.2 ⟨_,List.getElem_mem hj,e⟩);rw [hh] at this
    cases this
   have hn:ltK l[j].key k=false:=by
    have h0:=atI_ge (l:=l) (k:=k) (by omega)
    cases hx:ltK l[j].key k with
    | false=>rfl
    | true =>
      rcases Nat.lt_or_ge (atI l k) j with h'|h'
      · rw [ltK_trans (sorted_get hs hj h') hx] at h0
        cases h0
      · have:atI l k=j:=by omega
        simp only [this] at h0
        rw [h0] at hx
        cases hx
   cases hx:ltK k l[j].key with
   | true=>rfl
   | false=>exact absurd (ltK_total hn hx) hne
theorem mem_outI {l:List It} (hs:(keysI l).Pairwise (fun a b=>ltK a b=true)) (k:Ky) (y:Nd) (q:Ky) (z:Nd):(q,z)∈outI l k y ↔ (q=k∧z=y)∨((q,z)∈l.map absI∧q≠k):=by
 unfold outI;rw [List.mem_append,List.mem_append,List.mem_singleton]
 constructor
 · rintro ((h|h)|h)
   · obtain ⟨i,hi⟩:=List.getElem?_of_mem h
     rw [List.getElem?_take] at hi
     split at hi
     · rename_i hlt
       obtain ⟨hil,he⟩:=List.getElem?_eq_some_iff.1 hi;simp only [List.length_map] at hil
       simp only [List.getElem_map,absI,Prod.mk.injEq] at he
       refine .inr ⟨List.mem_of_mem_take h,fun e=>?_⟩;have:=atI_lt hil hlt;rw [he.1,e,ltK_irrefl] at this
       cases this
     · cases hi
   · injection h with h1 h2
     exact .inl ⟨h1,h2⟩
   · obtain ⟨i,hi⟩:=List.getElem?_of_mem h
     rw [List.getElem?_drop] at hi;obtain ⟨hil,he⟩:=List.getElem?_eq_some_iff.1 hi;simp only [List.length_map] at hil
     simp only [List.getElem_map,absI,Prod.mk.injEq] at he
     refine .inr ⟨List.mem_of_mem_drop h,fun e=>?_⟩;have:=above_at hs hil (Nat.le_add_right _ i);rw [he.1,e,ltK_irrefl] at this
     cases this
 · rintro (⟨rfl,rfl⟩|⟨h,hq⟩)
   · exact .inl (.inr rfl)
   · obtain ⟨x,hx,he⟩:=List.mem_map.1 h
     obtain ⟨i,hi,rfl⟩:=List.getElem_of_mem hx;simp only [absI,Prod.mk.injEq] at he
     by_cases h1:i<atI l k
     · refine .inl (.inl ?_)
       refine List.mem_of_getElem? (i:=i) ?_;rw [List.getElem?_take,if_pos h1];simp [hi,absI,he]
     · by_cases h2:(if hasI l k=true then atI l k+1 else atI l k)≤i
       · refine .inr ?_
         refine List.mem_of_getElem? (i:=i - (if hasI l k=true then atI l k+1 else atI l k)) ?_;rw [List.getElem?_drop,Nat.add_sub_cancel' h2];simp [hi,absI,he]
       · exfalso
         split at h2
         · rename_i hh
           have h3:i=atI l k:=by omega
           subst h3;obtain ⟨hl,hg⟩:=getL_has hh;unfold hasI at hh;rw [dif_pos hl] at hh;exact hq (he.1.symm.trans (of_decide_eq_true hh))
         · omega
theorem outI_sorted {l:List It} (hs:(keysI l).Pairwise (fun a b=>ltK a b=true)) (k:Ky) (y:Nd):((outI l k y).map (·.1)).Pairwise (fun a b=>ltK a b=true):=by
 unfold outI;simp only [List.map_append,List.map_cons,List.map_nil,List.map_take,List.map_drop,List.map_map]
 have e:(Prod.fst ∘ absI:It→Ky)=(·.key):=rfl;rw [show List.map ((fun x:Ky × Nd=>x.1) ∘ absI) l=keysI l from rfl];have hlow:∀q∈(keysI l).take (atI l k),ltK q k=true:=fun q hq=>by
  obtain ⟨i,hi⟩:=List.getElem?_of_mem hq;rw [List.getElem?_take] at hi
  split at hi
  · rename_i hlt
    have hil:i<l.length:=by have:=(List.getElem?_eq_some_iff.1 hi).1;simpa [keysI] using this
    rw [key_at hil] at hi;injection hi with hi
    rw [←hi];exact atI_lt hil hlt
  · cases hi
 have hhigh:∀q∈(keysI l).drop (if hasI l k=true then atI l k+1 else atI l k),ltK k q=true:=fun q hq=>by
  obtain ⟨i,hi⟩:=List.getElem?_of_mem hq;rw [List.getElem?_drop] at hi;have hil:(if hasI l k=true then atI l k+1 else atI l k)+i<l.length:=by have:=(List.getElem?_eq_some_iff.1 hi).1;simpa [keysI] using this
  rw [key_at hil] at hi;injection hi with hi
  rw [←hi];exact above_at hs hil (Nat.le_add_right _ i)
 rw [List.pairwise_append,List.pairwise_append];refine ⟨⟨hs.sublist (List.take_sublist _ _),List.pairwise_singleton _ _,fun a ha b hb=>?_⟩,hs.sublist (List.drop_sublist _ _),fun a ha b hb=>?_⟩
 · rw [List.mem_singleton.1 hb];exact hlow a ha
 · rcases List.mem_append.1 ha with ha|ha
   · exact ltK_trans (hlow a ha) (hhigh b hb)
   · rw [List.mem_singleton.1 ha];exact hhigh b hb
end
section
open Go.RowKit Go.Lib Go.Sort
theorem getL_mem {l:List It} {k:Ky} (h:hasI l k=true):(k,(getL l k).nd)∈l.map absI:=by
 obtain ⟨hl,hg⟩:=getL_has h;unfold hasI at h;rw [dif_pos hl] at h;have hk:=of_decide_eq_true h;exact List.mem_map.2 ⟨l[atI l k],List.getElem_mem hl,by rw [hg,absI,hk]⟩
end
section
open Go.RowKit Go.Lib Go.Sort
theorem sameN.ok {rs rh:Nat} {x y:Nd} (h:sameN x y) (hx:NdOk rs rh x):NdOk rs rh y:=⟨by rw [←h.1];exact hx.ris,by rw [←h.1];exact hx.len,by rw [←h.2.1];exact hx.past⟩
end
section
open Go.RowKit Go.Lib Go.Sort
structure CfgOk (c:Cfg) (rs rh:Nat):Prop where
 cfg:cfgB c=true
 sa:c.sa=(rs:Nat)
 hi:c.hi=(rh:Nat)
 ok:c.ok
theorem CfgOk.room {c:Cfg} {rs rh:Nat} (h:CfgOk c rs rh):RoomOk c rs rh:=by
 have hc:=h.cfg;have h1:=h.sa;have h2:=h.hi;unfold cfgB at hc;simp only [Bool.and_eq_true,decide_eq_true_eq] at hc
 exact ⟨h1,h2,by omega,by omega,by omega,by omega⟩
end
section
open Go.RowKit Go.Lib Go.Sort
deriving instance DecidableEq for Pol
end
section
open Go.RowKit Go.Lib Go.Sort
theorem RowG.lt {α:Type} {P:Nat→Prop} {n:Nat} {f:α→List Value} {w:World} {v:Value} {l:List α} (h:RowG P n f w v l):RowG (fun b=>P b∧b<w.heap.size) n f w v l:=by
 refine ⟨h.1,fun b o m c e hn=>⟨h.2 b o m c e hn,?_⟩⟩;obtain ⟨A,c2,rfl,hl,hx⟩:=h.1;obtain ⟨b2,o2,rfl,hb,-⟩:=hx hn;simp only [Value.slice.injEq,Option.some.injEq,Addr.mk.injEq,and_true] at e
 rw [←e.1.1];exact hb
theorem ItemsIn.lt {P:Nat→Prop} {w:World} {v:Value} {l:List It} (h:ItemsIn P w v l):ItemsIn (fun b=>P b∧b<w.heap.size) w v l :=
 ⟨h.1.lt,fun x hx=>⟨(h.2 x hx).1.lt,(h.2 x hx).2.lt⟩⟩
end
section
open Go.RowKit Go.Lib
theorem foldN_pow (h b:Nat) (h1:1≤2 ^ b):foldN h b<2 ^ b:=by
 unfold foldN
 split
 · exact h1
 · exact Nat.mod_lt _ h1
theorem route_lt {hi lo:Nat} {n:Int} (hn:okSt n=true):0≤routeI hi lo n∧routeI hi lo n<n:=by
 unfold routeI;rw [if_pos hn];obtain ⟨j,hj,rfl⟩:∃j,j<7∧n=((2 ^ j:Nat):Int):=by
  rcases (okSt_iff n).1 hn with h|h|h|h|h|h|h
  · exact ⟨0,by omega,h⟩
  · exact ⟨1,by omega,h⟩
  · exact ⟨2,by omega,h⟩
  · exact ⟨3,by omega,h⟩
  · exact ⟨4,by omega,h⟩
  · exact ⟨5,by omega,h⟩
  · exact ⟨6,by omega,h⟩
 rw [bitsI_pow j hj];have:=foldN_pow (fnvKey hi lo) j (Nat.two_pow_pos j);simp only [Int.toNat_natCast]
 omega
end
section
open Go.RowKit Go.Lib
theorem cmpN_le (a b:Nat):decide (cmpN a b≤0)=decide (a≤b):=by
 unfold cmpN
 by_cases h:a=b
 · rw [if_pos h];subst h;simp
 · rw [if_neg h]
   by_cases k:a<b
   · rw [if_pos k];simp;omega
   · rw [if_neg k];simp;omega
theorem nearI_out {p:Pol} {load now:Int} (h:polB p=false∨now<1∨1073741824<now):nearI p load now=false:=by
 unfold nearI
 rcases h with h|h
 · rw [h];rfl
 · have:decide (1≤now∧now≤1073741824)=false:=by simp;omega
   rw [this];simp
theorem box_rule {w1 w2:World} {B:Nat} {cs:Array Value} {T:TypeId} (hx:w1.heap[B]?=some (.cells cs T (0,0))) (hb:jB w1 w2):w2.heap[B]?=some (.cells cs T (0,0))∧∀W j,jB w2 W→W.cell? ⟨B,j,none⟩=cs[j]?:=by
 have hx2:=(hb.block B (jL hx)).trans hx;exact ⟨hx2,fun W j h=>(box_cells h hx2).1 j⟩
end
end Go.Proofs.YtkcdhaallnhhmaaGreat
