/- Part 46 of the proof: OrdP. -/
import Derived.IntWalk
import Derived.Deep.CutBlock
import Derived.Test.YtpmfcpdelkchaaaGreatL37
namespace Go.Proofs.YtpmfcpdelkchaaaGreat
set_option linter.unusedSimpArgs false
set_option linter.unusedVariables false
set_option linter.unusedSectionVars false
set_option maxRecDepth 100000
set_option maxHeartbeats 16000000
section
open Go.RowKit Go.Lib
def EvtD.rep' (e:EvtD):RepD:=⟨e.err,e.epoch,e.handle,⟨e.cnt,e.sum,e.least,e.most,e.mean⟩,⟨e.atick,e.aload,e.awant,e.arepl,e.awhy⟩⟩
def EvtD.adv' (e:EvtD):Adv:=⟨e.ntick,e.nload,e.nwant,e.nrepl,e.nwhy⟩
open Classical in
noncomputable def keyId (hi lo:Nat):Option ByteArray:=if h:∃s:ByteArray,IsKey hi lo s.data.toList then some (Classical.choose h) else none
theorem keyId_yes {hi lo:Nat} {s:ByteArray} (h:IsKey hi lo s.data.toList):keyId hi lo=some s:=by
 unfold keyId;have he:∃s:ByteArray,IsKey hi lo s.data.toList:=⟨s,h⟩;rw [dif_pos he];exact congrArg some (ByteArray.ext (Array.toList_inj.1 ((Classical.choose_spec he).one h)))
theorem keyId_no {hi lo:Nat} (h:∀l,¬IsKey hi lo l):keyId hi lo=none:=by
 unfold keyId;rw [dif_neg (fun ⟨s,hs⟩=>h _ hs)]
theorem keyId_is {hi lo:Nat} {s:ByteArray} (h:keyId hi lo=some s):IsKey hi lo s.data.toList:=by
 unfold keyId at h
 split at h
 · rename_i he
   have:=Option.some.inj h;rw [←this];exact Classical.choose_spec he
 · cases h
theorem keyId_none {hi lo:Nat} (h:keyId hi lo=none):∀l,¬IsKey hi lo l:=by
 intro l hl;have h9:=keyId_yes (hi:=hi) (lo:=lo) (s:=⟨l.toArray⟩) hl;rw [h] at h9
 cases h9
def sameRep (a b:RepD):Bool:=decide (a.err=b.err∧a.ep=b.ep∧a.hd=b.hd∧a.st.cnt=b.st.cnt∧a.st.sum=b.st.sum∧a.st.least=b.st.least∧a.st.most=b.st.most∧a.st.mean=b.st.mean∧a.adv.tick=b.adv.tick∧a.adv.load=b.adv.load∧a.adv.want=b.adv.want∧a.adv.repl=b.adv.repl∧a.adv.why=b.adv.why)
noncomputable def applyE (c:Cfg) (rs rh:Nat) (wd:Wd) (e:EvtD):Wd × Bool :=
 if e.kind=2 then ((doW c rs rh wd e.call).1,sameRep (doW c rs rh wd e.call).2 e.rep')
 else if e.kind=6 then (match keyId e.hi e.lo with|none=>(wd,false)|some id=>noteW c rs rh wd id e.adv')
 else (wd,true)
theorem applyE_2 {c:Cfg} {rs rh:Nat} {wd:Wd} {e:EvtD} (h:e.kind=2):applyE c rs rh wd e=((doW c rs rh wd e.call).1,sameRep (doW c rs rh wd e.call).2 e.rep'):=by unfold applyE;rw [if_pos h]
theorem applyE_6s {c:Cfg} {rs rh:Nat} {wd:Wd} {e:EvtD} {id:ByteArray} (h:e.kind=6) (hk:keyId e.hi e.lo=some id):applyE c rs rh wd e=noteW c rs rh wd id e.adv':=by
 unfold applyE;rw [if_neg (by omega),if_pos h,hk]
theorem applyE_6n {c:Cfg} {rs rh:Nat} {wd:Wd} {e:EvtD} (h:e.kind=6) (hk:keyId e.hi e.lo=none):applyE c rs rh wd e=(wd,false):=by
 unfold applyE;rw [if_neg (by omega),if_pos h,hk]
theorem applyE_no {c:Cfg} {rs rh:Nat} {wd:Wd} {e:EvtD} (h2:e.kind≠2) (h6:e.kind≠6):applyE c rs rh wd e=(wd,true):=by
 unfold applyE;rw [if_neg h2,if_neg h6]
theorem applyE_ok {c:Cfg} {rs rh n:Nat} {wd:Wd} {e:EvtD} (h:WdOk c rs rh n wd) (hst:c.st≤64) (hlo:c.lo≤256) (h1:1≤rh) (hx:e.ok):WdOk c rs rh (n+1) (applyE c rs rh wd e).1:=by
 by_cases k2:e.kind=2
 · rw [applyE_2 k2];exact doW_ok h hst hlo h1 hx.call
 · by_cases k6:e.kind=6
   · cases hk:keyId e.hi e.lo with
     | none=>rw [applyE_6n k6 hk];exact h.mono (Nat.le_succ _)
     | some id=>rw [applyE_6s k6 hk];exact noteW_ok h hlo h1
   · rw [applyE_no k2 k6];exact h.mono (Nat.le_succ _)
theorem NamedW.noteAny {S:List ByteArray} {c:Cfg} {rs rh:Nat} {wd:Wd} {id:ByteArray} {av:Adv} (h:NamedW S wd):NamedW S (noteW c rs rh wd id av).1:=by
 unfold noteW
 split
 · exact h
 · rename_i y hy
   unfold loadW findIt at hy
   cases hf:(allW wd).find? fun q=>decide (q.1=keyK id) with
   | none=>rw [hf] at hy;cases hy
   | some q0 =>
     have hq0:=List.find?_some hf;have e0:q0.1=keyK id:=by simpa using hq0
     obtain ⟨i0,h1,h2,h3⟩:=h q0 (List.mem_of_find?_eq_some hf);intro q hq
     rcases keys_one q hq with h9|h9
     · exact ⟨i0,h1,h2,by rw [h3,e0,h9]⟩
     · exact h q h9
theorem NamedW.applyE {S:List ByteArray} {c:Cfg} {rs rh:Nat} {wd:Wd} {e:EvtD} (h:NamedW S wd) (hm:e.call.id∈S):NamedW S (applyE c rs rh wd e).1:=by
 by_cases k2:e.kind=2
 · rw [applyE_2 k2];exact h.do_ hm
 · by_cases k6:e.kind=6
   · cases hk:keyId e.hi e.lo with
     | none=>rw [applyE_6n k6 hk];exact h
     | some id=>rw [applyE_6s k6 hk];exact h.noteAny
   · rw [applyE_no k2 k6];exact h
noncomputable def afterE (c:Cfg) (rs rh:Nat) (wd:Wd) (l:List EvtD):Wd:=l.foldl (fun wd e=>(Go.Proofs.YtpmfcpdelkchaaaGreat.applyE c rs rh wd e).1) wd
theorem afterE_snoc {c:Cfg} {rs rh:Nat} {wd:Wd} {l:List EvtD} {e:EvtD}:afterE c rs rh wd (l++[e])=(Go.Proofs.YtpmfcpdelkchaaaGreat.applyE c rs rh (afterE c rs rh wd l) e).1:=by
 unfold afterE;rw [List.foldl_append];rfl
noncomputable def replayE (c:Cfg) (rs rh:Nat):Wd→Int→List EvtD→Int
  | _,_,[]=>-1
  | wd,i,e::l=>if (Go.Proofs.YtpmfcpdelkchaaaGreat.applyE c rs rh wd e).2=true then replayE c rs rh (Go.Proofs.YtpmfcpdelkchaaaGreat.applyE c rs rh wd e).1 (i+1) l else i
theorem NamedW.afterE {S:List ByteArray} {c:Cfg} {rs rh:Nat} {l:List EvtD}:∀{wd:Wd},NamedW S wd→(∀e∈l,e.call.id∈S)→NamedW S (afterE c rs rh wd l):=by
 induction l with
 | nil=>intro wd h _;exact h
 | cons e l ih =>
   intro wd h hm;exact ih (h.applyE (hm e (List.mem_cons_self ..))) (fun x hx=>hm x (List.mem_cons_of_mem _ hx))
theorem afterE_ok {c:Cfg} {rs rh:Nat} (hst:c.st≤64) (hlo:c.lo≤256) (h1:1≤rh) {l:List EvtD}:∀{n:Nat} {wd:Wd},WdOk c rs rh n wd→(∀e∈l,e.ok)→WdOk c rs rh (n+l.length) (afterE c rs rh wd l):=by
 induction l with
 | nil=>intro n wd h _;exact h
 | cons e l ih =>
   intro n wd h hm;have:=ih (applyE_ok h hst hlo h1 (hm e (List.mem_cons_self ..))) (fun x hx=>hm x (List.mem_cons_of_mem _ hx));rw [List.length_cons,show n+(l.length+1)=n+1+l.length from by omega];exact this
end
end Go.Proofs.YtpmfcpdelkchaaaGreat
