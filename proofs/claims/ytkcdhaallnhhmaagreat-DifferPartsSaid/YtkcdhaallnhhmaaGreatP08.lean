/- Part 8 of the proof: QState, Named, RPush, ISeq. -/
import Derived.RangeFuncNested
import Derived.RangeFuncBound
import Derived.RangeFuncCalls
import Derived.RangeFuncLeaves
import Derived.Shelf.Abstract
import Derived.Shelf.RegionOpen
import Derived.OwnWalkIn
import Derived.TacticsInMore
import Derived.LoopNIn
import Derived.LoopIn
import Derived.Maps.AppendAt
import Derived.Test.YtkcdhaallnhhmaaGreatP07
namespace Go.Proofs.YtkcdhaallnhhmaaGreat
set_option linter.unusedSimpArgs false
set_option linter.unusedVariables false
set_option linter.unusedSectionVars false
set_option maxRecDepth 100000
set_option maxHeartbeats 16000000
section
open Go.RowKit Go.Lib
open Go.ChangeMaps (setBlock)
open Go.Maps (Keyed)
abbrev KO:={ p:Ky // p.ok }
theorem setBlock_other {w:World} {d k:Nat} {o:Obj} (h:k≠d):(setBlock w d o).heap[k]?=w.heap[k]?:=by
 simp [setBlock,Array.getElem?_setIfInBounds,Ne.symm h]
theorem setBlock_size {w:World} {d:Nat} {o:Obj}:(setBlock w d o).heap.size=w.heap.size:=by simp [setBlock]
end
section
open Go.RowKit Go.Lib
theorem calls_named {P:Program} {f:Nat} {args:Array Value} {w:World} {Q:Ending→World→Prop} (h:∀W,W=w→Calls P f args W Q):Calls P f args w Q:=h w rfl
theorem name_world {P:Program} {c:Code} {Q:Exit→Act→World→Prop} {a:Act} {w:World} (h:∀W,W=w→c.wp P Q a W):c.wp P Q a w:=h w rfl
end
section
open Go.RowKit Go.Lib Go.Sort
def pushL (l:List Adv) (room:Nat) (x:Adv):List Adv:=(if l.length<room then l else l.drop 1)++[x]
end
section
open Go.RowKit Go.Lib Go.Shelf
attribute [local go_sem] Oper.semAt_some
end
end Go.Proofs.YtkcdhaallnhhmaaGreat
