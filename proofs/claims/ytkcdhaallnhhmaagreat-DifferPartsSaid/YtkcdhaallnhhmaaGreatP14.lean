/- Part 14 of the proof: R08, RIt, RIt2, R18, IFifo, Stripe, IKeys, SKeys. -/
import Derived.Deep.DeepCutAuto
import Derived.Laws.Cover3
import Derived.Maps.Range
import Derived.RangeFuncSeq
import Derived.Sort.MapsRangeIn
import Derived.Test.YtkcdhaallnhhmaaGreatP08
import Derived.Test.YtkcdhaallnhhmaaGreatP10
namespace Go.Proofs.YtkcdhaallnhhmaaGreat
set_option linter.unusedSimpArgs false
set_option linter.unusedVariables false
set_option linter.unusedSectionVars false
set_option maxRecDepth 100000
set_option maxHeartbeats 16000000
section
open Go.RowKit Go.Lib Go.Sort
def RowG {α:Type} (P:Nat→Prop) (n:Nat) (f:α→List Value) (w:World) (v:Value) (l:List α):Prop :=
 RowIn n f w v l∧∀b o m c,v=.slice (some ⟨b,o,none⟩) m c→0<l.length→P b
theorem RowG.below {α:Type} {P:Nat→Prop} {n:Nat} {f:α→List Value} {w w':World} {v:Value} {l:List α} (h:RowG P n f w v l) (hb:jB w w'):RowG P n f w' v l:=⟨h.1.below hb,h.2⟩
theorem RowG.imp {α:Type} {P Q:Nat→Prop} {n:Nat} {f:α→List Value} {w:World} {v:Value} {l:List α} (h:RowG P n f w v l) (hi:∀b,P b→Q b):RowG Q n f w v l:=⟨h.1,fun b o m c e hn=>hi b (h.2 b o m c e hn)⟩
theorem RowG.nil {α:Type} {P:Nat→Prop} {n:Nat} {f:α→List Value} {w:World} {A:Option Addr} {c:Nat}:RowG P n f w (.slice A 0 c) ([]:List α):=⟨RowIn.nil,fun _ _ _ _ _ h=>absurd h (Nat.lt_irrefl _)⟩
theorem RowG.own {α:Type} {t e:TypeId} {n bytes:Nat} {z:Value} {f:α→List Value} (E:EltOf t e n bytes z f) {base:Nat} {w:World} {v:Value} {l:List α} (h:OwnL f e n base w v l):RowG (fun b=>base≤b) n f w v l:=by
 refine ⟨h.row E,fun b o m c e hn=>?_⟩
 rcases h.2 with ⟨_,h0⟩|⟨g,cap,cur,hv',hg,_⟩
 · omega
 · rw [e] at hv'
   injection hv' with e1 _ _
   injection e1 with e1
   injection e1 with e1
   omega
end
section
open Go.RowKit Go.Lib Go.Sort
structure It where
 key:Ky
 sA:Option Addr
 sc:Nat
 pA:Option Addr
 pc:Nat
 nd:Nd
def LoadIn (P:Nat→Prop) (w:World) (x:It):Prop:=RowG P 2 smpC w (.slice x.sA x.nd.smp.length x.sc) x.nd.smp∧RowG P 5 advC w (.slice x.pA x.nd.past.length x.pc) x.nd.past
theorem LoadIn.below {P:Nat→Prop} {w w':World} {x:It} (h:LoadIn P w x) (hb:jB w w'):LoadIn P w' x:=⟨h.1.below hb,h.2.below hb⟩
theorem LoadIn.imp {P Q:Nat→Prop} {w:World} {x:It} (h:LoadIn P w x) (hi:∀b,P b→Q b):LoadIn Q w x:=⟨h.1.imp hi,h.2.imp hi⟩
def atI (l:List It) (k:Ky):Nat:=(l.takeWhile (fun x=>ltK x.key k)).length
theorem atI_lt {l:List It} {k:Ky}:∀{i:Nat} (h:i<l.length),i<atI l k→ltK l[i].key k=true:=by
 induction l with
 | nil=>intro i h;simp at h
 | cons a l ih =>
   intro i h hi
   by_cases ha:ltK a.key k=true
   · have e:atI (a::l) k=atI l k+1:=by simp [atI,ha]
     rw [e] at hi
     cases i with
     | zero=>exact ha
     | succ i=>simpa using ih (by simpa using h) (by omega)
   · have e:atI (a::l) k=0:=by simp [atI,ha]
     omega
theorem atI_ge {l:List It} {k:Ky} (h:atI l k<l.length):ltK l[atI l k].key k=false:=by
 induction l with
 | nil=>simp at h
 | cons a l ih =>
   by_cases ha:ltK a.key k=true
   · have e:atI (a::l) k=atI l k+1:=by simp [atI,ha]
     simp only [e] at h ⊢
     simp only [List.getElem_cons_succ]
     exact ih (by simpa using h)
   · have e:atI (a::l) k=0:=by simp [atI,ha]
     simp only [e,List.getElem_cons_zero]
     simpa using ha
end
section
open Go.RowKit Go.Lib Go.Sort
def hasI (l:List It) (k:Ky):Bool:=if h:atI l k<l.length then decide (l[atI l k].key=k) else false
end
section
open Go.RowKit Go.Lib Go.Sort
def absI (x:It):Ky × Nd:=(x.key,x.nd)
end
section
open Go.RowKit Go.Lib Go.Shelf
attribute [local go_sem] Oper.semAt_some
end
section
open Go.RowKit Go.Lib Go.Sort
abbrev NE:=Nat × Nd × List Nat
end
section
open Go.RowKit Go.Lib Go.Shelf
attribute [local go_sem] Oper.semAt_some
section
variable {F:Fence} {nF:Nat} {P:Program} {ops:Array Oper} {rest:List Oper} {o:Oper} {a:Act} {w:World} {Q:Exit→Act→World→Prop}
variable {α β:Type} [DecidableEq α] {K:α→Value} {V:β→Value} {b r:Nat} {es pre:List (α × β)} {cnt:Nat}
end
end
section
open Go.RowKit Go.Lib Go.Shelf
attribute [local go_sem] Oper.semAt_some
end
end Go.Proofs.YtkcdhaallnhhmaaGreat
