/- Part 44 of the proof: LdRow. -/
import Derived.Test.YtkcdhaallnhhmaaGreatP07
namespace Go.Proofs.YtkcdhaallnhhmaaGreat
set_option linter.unusedSimpArgs false
set_option linter.unusedVariables false
set_option linter.unusedSectionVars false
set_option maxRecDepth 100000
set_option maxHeartbeats 16000000
section
open Go.RowKit Go.Lib Go.ChangeShapes Go.WideShapes Go.Joins
theorem cl_lint:Tryz.prog.cellsOf 3=1:=by kernel_rfl
theorem cl_li64:Tryz.prog.cellsOf 2=1:=by kernel_rfl
theorem cl_lbool:Tryz.prog.cellsOf 4=1:=by kernel_rfl
theorem cl_lsmp:Tryz.prog.cellsOf 118=2:=by kernel_rfl
theorem cl_ladv:Tryz.prog.cellsOf 74=5:=by kernel_rfl
theorem cl_lpol:Tryz.prog.cellsOf 46=6:=by kernel_rfl
theorem cl_lsmps:Tryz.prog.cellsOf 43=1:=by kernel_rfl
theorem cl_ladvs:Tryz.prog.cellsOf 44=1:=by kernel_rfl
theorem cl_lload:Tryz.prog.cellsOf 48=10:=by kernel_rfl
section
variable {H:Type} {enc:TypeId × Value→H} {w:World} {base:Nat} {spare:Nat→Bool} {held:Bool}
theorem lfield {fuel:Nat} {t:TypeId} (ht:Tryz.prog.underlying t=some (.int .i64)) (hc:Tryz.prog.cellsOf t=1) {cs:List Value} {xs:List (DataW H × List MemPlace)} {i o:Nat} (hi:i<xs.length) {v:Value} (hv:cs.drop o=v::cs.drop (o+1))
    (h:DataW.trod enc Tryz.prog w base spare held fuel t ((cs.drop o).take (Tryz.prog.cellsOf t))=xs[i]?):∃n,v=.int .i64 n:=by
  rw [hc,hv,List.take_succ_cons,List.take_zero,List.getElem?_eq_getElem hi] at h;obtain ⟨n,hn,_,hw⟩:=DataW.trod_int ht h;simp only [List.cons.injEq,and_true] at hn
  exact ⟨n,hn⟩
theorem lfieldB {fuel:Nat} {t:TypeId} (ht:Tryz.prog.underlying t=some .bool) (hc:Tryz.prog.cellsOf t=1) {cs:List Value} {xs:List (DataW H × List MemPlace)} {i o:Nat} (hi:i<xs.length) {v:Value} (hv:cs.drop o=v::cs.drop (o+1))
    (h:DataW.trod enc Tryz.prog w base spare held fuel t ((cs.drop o).take (Tryz.prog.cellsOf t))=xs[i]?):∃n,v=.bool n:=by
  rw [hc,hv,List.take_succ_cons,List.take_zero,List.getElem?_eq_getElem hi] at h;obtain ⟨n,hn,_⟩:=DataW.trod_bool ht h;simp only [List.cons.injEq,and_true] at hn
  exact ⟨n,hn⟩
theorem lsmp_reads {fuel:Nat} {cs:List Value} {x:DataW H × List MemPlace} (h:DataW.trod enc Tryz.prog w base spare held fuel 118 cs=some x) :
 ∃p:Smp,True∧cs=smpC p:=by
 obtain ⟨xs,n,_,_,hl,hx,hf⟩:=DataW.trod_struct Tryz.underlying118 h;rw [cl_lsmp] at hl
 replace hx:xs.length=2:=hx
 match cs,hl with
 | [a0,a1],_ =>
   obtain ⟨n0,rfl⟩:=lfield Tryz.underlying2 cl_li64 (i:=0) (by omega) (o:=0) rfl (hf 0 _ rfl);obtain ⟨n1,rfl⟩:=lfield Tryz.underlying2 cl_li64 (i:=1) (by omega) (o:=1) rfl (hf 1 _ rfl);exact ⟨(n0,n1),trivial,rfl⟩
theorem ladv_reads {fuel:Nat} {cs:List Value} {x:DataW H × List MemPlace} (h:DataW.trod enc Tryz.prog w base spare held fuel 74 cs=some x) :
 ∃p:Adv,True∧cs=advC p:=by
 obtain ⟨xs,n,_,_,hl,hx,hf⟩:=DataW.trod_struct Tryz.underlying74 h;rw [cl_ladv] at hl
 replace hx:xs.length=5:=hx
 match cs,hl with
 | [a0,a1,a2,a3,a4],_ =>
   obtain ⟨n0,rfl⟩:=lfield Tryz.underlying2 cl_li64 (i:=0) (by omega) (o:=0) rfl (hf 0 _ rfl);obtain ⟨n1,rfl⟩:=lfield Tryz.underlying2 cl_li64 (i:=1) (by omega) (o:=1) rfl (hf 1 _ rfl);obtain ⟨n2,rfl⟩:=lfield Tryz.underlying2 cl_li64 (i:=2) (by omega) (o:=2) rfl (hf 2 _ rfl);obtain ⟨n3,rfl⟩:=lfield Tryz.underlying2 cl_li64 (i:=3) (by omega) (o:=3) rfl (hf 3 _ rfl);obtain ⟨n4,rfl⟩:=lfield Tryz.underlying3 cl_lint (i:=4) (by omega) (o:=4) rfl (hf 4 _ rfl)
   exact ⟨⟨n0,n1,n2,n3,n4⟩,trivial,rfl⟩
theorem lpol_reads {fuel:Nat} {cs:List Value} {x:DataW H × List MemPlace} (h:DataW.trod enc Tryz.prog w base spare held fuel 46 cs=some x) :
 ∃p:Pol,cs=[.int .i64 p.mn,.int .i64 p.mx,.int .i64 p.tg,.int .i64 p.tol,.int .i64 p.win,.int .i64 p.hold]:=by
 obtain ⟨xs,n,_,_,hl,hx,hf⟩:=DataW.trod_struct Tryz.underlying46 h;rw [cl_lpol] at hl
 replace hx:xs.length=6:=hx
 match cs,hl with
 | [a0,a1,a2,a3,a4,a5],_ =>
   obtain ⟨n0,rfl⟩:=lfield Tryz.underlying2 cl_li64 (i:=0) (by omega) (o:=0) rfl (hf 0 _ rfl);obtain ⟨n1,rfl⟩:=lfield Tryz.underlying2 cl_li64 (i:=1) (by omega) (o:=1) rfl (hf 1 _ rfl);obtain ⟨n2,rfl⟩:=lfield Tryz.underlying2 cl_li64 (i:=2) (by omega) (o:=2) rfl (hf 2 _ rfl);obtain ⟨n3,rfl⟩:=lfield Tryz.underlying2 cl_li64 (i:=3) (by omega) (o:=3) rfl (hf 3 _ rfl);obtain ⟨n4,rfl⟩:=lfield Tryz.underlying2 cl_li64 (i:=4) (by omega) (o:=4) rfl (hf 4 _ rfl)
   obtain ⟨n5,rfl⟩:=lfield Tryz.underlying2 cl_li64 (i:=5) (by omega) (o:=5) rfl (hf 5 _ rfl);exact ⟨⟨n0,n1,n2,n3,n4,n5⟩,rfl⟩
theorem lsmps_row {fuel:Nat} {cs:List Value} {x:DataW H × List MemPlace} (h:DataW.trod enc Tryz.prog w base spare held fuel 43 cs=some x) :
 ∃(A:Option Addr) (c:Nat) (l:List Smp),cs=[.slice A l.length c]∧RowIn 2 smpC w (.slice A l.length c) l:=by
 haveI:Inhabited Smp:=⟨(0,0)⟩
 obtain ⟨v,l,e,_,_,hr⟩:=row_read (f:=smpC) (ok:=fun _=>True) Tryz.underlying43 cl_lsmp (by decide) (fun _ _ _ h=>lsmp_reads h) h;obtain ⟨A,c,rfl⟩:=hr.form;exact ⟨A,c,l,e,hr⟩
theorem ladvs_row {fuel:Nat} {cs:List Value} {x:DataW H × List MemPlace} (h:DataW.trod enc Tryz.prog w base spare held fuel 44 cs=some x) :
 ∃(A:Option Addr) (c:Nat) (l:List Adv),cs=[.slice A l.length c]∧RowIn 5 advC w (.slice A l.length c) l:=by
 haveI:Inhabited Adv:=⟨adv0⟩
 obtain ⟨v,l,e,_,_,hr⟩:=row_read (f:=advC) (ok:=fun _=>True) Tryz.underlying44 cl_ladv (by decide) (fun _ _ _ h=>ladv_reads h) h;obtain ⟨A,c,rfl⟩:=hr.form;exact ⟨A,c,l,e,hr⟩
theorem load_reads {fuel:Nat} {cs:List Value} {x:DataW H × List MemPlace} (h:DataW.trod enc Tryz.prog w base spare held fuel 48 cs=some x) :
 ∃ (p:Pol) (b:Bool) (l:List Smp) (m:List Adv) (sA pA:Option Addr) (sc pc:Nat) (v:Int),RowIn 2 smpC w (.slice sA l.length sc) l∧RowIn 5 advC w (.slice pA m.length pc) m ∧
   cs=[.slice sA l.length sc,.slice pA m.length pc,.int .i64 p.mn,.int .i64 p.mx,.int .i64 p.tg,.int .i64 p.tol,.int .i64 p.win,.int .i64 p.hold,.bool b,.int .i64 v]:=by
 obtain ⟨xs,n,_,_,hl,hx,hf⟩:=DataW.trod_struct Tryz.underlying48 h;rw [cl_lload] at hl
 replace hx:xs.length=5:=hx
 match cs,hl with
 | [a0,a1,a2,a3,a4,a5,a6,a7,a8,a9],_ =>
   have h0:=hf 0 _ rfl;have h1:=hf 1 _ rfl;have h2:=hf 2 _ rfl;rw [List.getElem?_eq_getElem (by omega)] at h0 h1 h2;obtain ⟨sA,sc,l,hs,hrs⟩:=lsmps_row h0;obtain ⟨pA,pc,m,hp,hrp⟩:=ladvs_row h1;obtain ⟨p,hq⟩:=lpol_reads h2
   replace hs:([a0,a1,a2,a3,a4,a5,a6,a7,a8,a9]:List Value).take (Tryz.prog.cellsOf 43)=_:=hs
   replace hp:([a1,a2,a3,a4,a5,a6,a7,a8,a9]:List Value).take (Tryz.prog.cellsOf 44)=_:=hp
   replace hq:([a2,a3,a4,a5,a6,a7,a8,a9]:List Value).take (Tryz.prog.cellsOf 46)=_:=hq
   rw [cl_lsmps] at hs;rw [cl_ladvs] at hp;rw [cl_lpol] at hq;simp only [List.take_succ_cons,List.take_zero,List.cons.injEq,and_true] at hs hp hq
   obtain ⟨b,rfl⟩:=lfieldB Tryz.underlying4 cl_lbool (i:=3) (by omega) (o:=8) rfl (hf 3 _ rfl);obtain ⟨v,rfl⟩:=lfield Tryz.underlying3 cl_lint (i:=4) (by omega) (o:=9) rfl (hf 4 _ rfl);obtain rfl:=hs;obtain rfl:=hp;obtain ⟨rfl,rfl,rfl,rfl,rfl,rfl⟩:=hq;exact ⟨p,b,l,m,sA,pA,sc,pc,v,hrs,hrp,rfl⟩
end
end
end Go.Proofs.YtkcdhaallnhhmaaGreat
