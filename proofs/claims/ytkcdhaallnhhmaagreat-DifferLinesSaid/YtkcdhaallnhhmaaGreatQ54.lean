/- Part 54 of the proof: CallRow. -/
import Derived.Test.YtkcdhaallnhhmaaGreatQ02
namespace Go.Proofs.YtkcdhaallnhhmaaGreat
set_option linter.unusedSimpArgs false
set_option linter.unusedVariables false
set_option linter.unusedSectionVars false
set_option maxRecDepth 100000
set_option maxHeartbeats 16000000
section
open Go.RowKit Go.Lib Go.ChangeShapes Go.WideShapes Go.Joins
theorem i64_of_wf {n:Int} (h:(Lit.int .i64 n).wf=true):I64 n:=by simpa [Lit.wf,IntKind.min,IntKind.max,IntKind.signed,IntKind.bits,I64] using h
theorem cl_pol:Tryz.prog.cellsOf 46=6:=by kernel_rfl
theorem cl_call:Tryz.prog.cellsOf 69=11:=by kernel_rfl
theorem cl_i64:Tryz.prog.cellsOf 2=1:=by kernel_rfl
theorem cl_int:Tryz.prog.cellsOf 3=1:=by kernel_rfl
theorem cl_str:Tryz.prog.cellsOf 9=1:=by kernel_rfl
theorem list6 {α:Type} {l:List α} (h:l.length=6):∃a0 a1 a2 a3 a4 a5,l=[a0,a1,a2,a3,a4,a5]:=by
 match l,h with
 | [a0,a1,a2,a3,a4,a5],_=>exact ⟨_,_,_,_,_,_,rfl⟩
theorem list11 {α:Type} {l:List α} (h:l.length=11):∃a0 a1 a2 a3 a4 a5 a6 a7 a8 a9 a10,l=[a0,a1,a2,a3,a4,a5,a6,a7,a8,a9,a10]:=by
 match l,h with
 | [a0,a1,a2,a3,a4,a5,a6,a7,a8,a9,a10],_=>exact ⟨_,_,_,_,_,_,_,_,_,_,_,rfl⟩
section
variable {H:Type} {enc:TypeId × Value→H} {w:World} {base:Nat} {spare:Nat→Bool} {held:Bool}
theorem field_i64 {fuel:Nat} {t:TypeId} (ht:Tryz.prog.underlying t=some (.int .i64)) (hc:Tryz.prog.cellsOf t=1) {cs:List Value} {xs:List (DataW H × List MemPlace)} {i o:Nat} (hi:i<xs.length) {v:Value} (hv:cs.drop o=v::cs.drop (o+1))
    (h:DataW.trod enc Tryz.prog w base spare held fuel t ((cs.drop o).take (Tryz.prog.cellsOf t))=xs[i]?):∃n,v=.int .i64 n∧I64 n:=by
  rw [hc,hv,List.take_succ_cons,List.take_zero,List.getElem?_eq_getElem hi] at h;obtain ⟨n,hn,_,hw⟩:=DataW.trod_int ht h;simp only [List.cons.injEq,and_true] at hn
  exact ⟨n,hn,i64_of_wf hw⟩
theorem field_str {fuel:Nat} {t:TypeId} (ht:Tryz.prog.underlying t=some .string) (hc:Tryz.prog.cellsOf t=1) {cs:List Value} {xs:List (DataW H × List MemPlace)} {i o:Nat} (hi:i<xs.length) {v:Value} (hv:cs.drop o=v::cs.drop (o+1))
    (h:DataW.trod enc Tryz.prog w base spare held fuel t ((cs.drop o).take (Tryz.prog.cellsOf t))=xs[i]?):∃s:ByteArray,v=.string s∧s.size≤maxLen:=by
  rw [hc,hv,List.take_succ_cons,List.take_zero,List.getElem?_eq_getElem hi] at h;obtain ⟨n,hn,_,hw⟩:=DataW.trod_string ht h;simp only [List.cons.injEq,and_true] at hn
  exact ⟨n,hn,hw⟩
theorem pol_reads {fuel:Nat} {cs:List Value} {x:DataW H × List MemPlace} (h:DataW.trod enc Tryz.prog w base spare held fuel 46 cs=some x) :
 ∃p:Pol,p.ok∧cs=[.int .i64 p.mn,.int .i64 p.mx,.int .i64 p.tg,.int .i64 p.tol,.int .i64 p.win,.int .i64 p.hold]:=by
 obtain ⟨xs,n,_,_,hl,hx,hf⟩:=DataW.trod_struct Tryz.underlying46 h;rw [cl_pol] at hl
 replace hx:xs.length=6:=hx
 obtain ⟨a0,a1,a2,a3,a4,a5,rfl⟩:=list6 hl;obtain ⟨n0,rfl,k0⟩:=field_i64 Tryz.underlying2 cl_i64 (i:=0) (by omega) (o:=0) rfl (hf 0 _ rfl);obtain ⟨n1,rfl,k1⟩:=field_i64 Tryz.underlying2 cl_i64 (i:=1) (by omega) (o:=1) rfl (hf 1 _ rfl);obtain ⟨n2,rfl,k2⟩:=field_i64 Tryz.underlying2 cl_i64 (i:=2) (by omega) (o:=2) rfl (hf 2 _ rfl);obtain ⟨n3,rfl,k3⟩:=field_i64 Tryz.underlying2 cl_i64 (i:=3) (by omega) (o:=3) rfl (hf 3 _ rfl)
 obtain ⟨n4,rfl,k4⟩:=field_i64 Tryz.underlying2 cl_i64 (i:=4) (by omega) (o:=4) rfl (hf 4 _ rfl);obtain ⟨n5,rfl,k5⟩:=field_i64 Tryz.underlying2 cl_i64 (i:=5) (by omega) (o:=5) rfl (hf 5 _ rfl);exact ⟨⟨n0,n1,n2,n3,n4,n5⟩,⟨k0,k1,k2,k3,k4,k5⟩,rfl⟩
theorem call_reads {fuel:Nat} {cs:List Value} {x:DataW H × List MemPlace} (h:DataW.trod enc Tryz.prog w base spare held fuel 69 cs=some x) :
 ∃c:CallD,c.ok∧cs=callCells c:=by
 obtain ⟨xs,n,_,_,hl,hx,hf⟩:=DataW.trod_struct Tryz.underlying69 h;rw [cl_call] at hl
 replace hx:xs.length=6:=hx
 obtain ⟨a0,a1,a2,a3,a4,a5,a6,a7,a8,a9,a10,rfl⟩:=list11 hl;obtain ⟨n0,rfl,k0⟩:=field_i64 Tryz.underlying3 cl_int (i:=0) (by omega) (o:=0) rfl (hf 0 _ rfl);obtain ⟨n1,rfl,k1⟩:=field_str Tryz.underlying9 cl_str (i:=1) (by omega) (o:=1) rfl (hf 1 _ rfl);obtain ⟨n2,rfl,k2⟩:=field_i64 Tryz.underlying2 cl_i64 (i:=2) (by omega) (o:=2) rfl (hf 2 _ rfl);obtain ⟨n3,rfl,k3⟩:=field_i64 Tryz.underlying2 cl_i64 (i:=3) (by omega) (o:=3) rfl (hf 3 _ rfl)
 obtain ⟨n4,rfl,k4⟩:=field_i64 Tryz.underlying3 cl_int (i:=4) (by omega) (o:=4) rfl (hf 4 _ rfl);have h5:=hf 5 _ rfl;rw [List.getElem?_eq_getElem (by omega)] at h5;obtain ⟨p,k5,hp⟩:=pol_reads h5
 replace hp:([a5,a6,a7,a8,a9,a10]:List Value).take (Tryz.prog.cellsOf 46)=_:=hp
 rw [cl_pol] at hp;simp only [List.take_succ_cons,List.take_zero,List.cons.injEq,and_true] at hp
 obtain ⟨rfl,rfl,rfl,rfl,rfl,rfl⟩:=hp;exact ⟨⟨n0,n1,n2,n3,n4,p⟩,⟨k0,k1,k2,k3,k4,k5⟩,rfl⟩
theorem calls_row {fuel:Nat} {cs:List Value} {x:DataW H × List MemPlace} (h:DataW.trod enc Tryz.prog w base spare held fuel 24 cs=some x) :
 ∃(v:Value) (l:List CallD),cs=[v]∧l.length≤maxLen∧(∀p∈l,p.ok)∧RowIn 11 callCells w v l:=by
 haveI:Inhabited CallD:=⟨⟨0,⟨#[]⟩,0,0,0,⟨0,0,0,0,0,0⟩⟩⟩
 exact row_read (f:=callCells) Tryz.underlying24 cl_call (by decide) (fun _ _ _ h=>call_reads h) h
end
end
end Go.Proofs.YtkcdhaallnhhmaaGreat
