/- Part 52 of the proof: EvRow. -/
import Derived.Test.YtkcdhaallnhhmaaGreatL21
namespace Go.Proofs.YtkcdhaallnhhmaaGreat
set_option linter.unusedSimpArgs false
set_option linter.unusedVariables false
set_option linter.unusedSectionVars false
set_option maxRecDepth 100000
set_option maxHeartbeats 16000000
section
open Go.RowKit Go.Lib Go.ChangeShapes Go.WideShapes Go.Joins
theorem cl_stat:Tryz.prog.cellsOf 72=5:=by kernel_rfl
theorem cl_adv:Tryz.prog.cellsOf 74=5:=by kernel_rfl
theorem cl_reply:Tryz.prog.cellsOf 76=13:=by kernel_rfl
theorem cl_errno:Tryz.prog.cellsOf 70=1:=by kernel_rfl
theorem cl_ev:Tryz.prog.cellsOf 137=34:=by kernel_rfl
theorem cons_of_len {α:Type} {l:List α} {n:Nat} (h:l.length=n+1):∃a t,l=a::t∧t.length=n:=by
 cases l with
 | nil=>simp at h
 | cons a t=>exact ⟨a,t,rfl,by simpa using h⟩
theorem list5 {α:Type} {l:List α} (h:l.length=5):∃a0 a1 a2 a3 a4,l=[a0,a1,a2,a3,a4]:=by
 match l,h with
 | [a0,a1,a2,a3,a4],_=>exact ⟨_,_,_,_,_,rfl⟩
theorem list13 {α:Type} {l:List α} (h:l.length=13):∃a0 a1 a2 a3 a4 a5 a6 a7 a8 a9 a10 a11 a12,l=[a0,a1,a2,a3,a4,a5,a6,a7,a8,a9,a10,a11,a12]:=by
 obtain ⟨a0,l0,rfl,h0⟩:=cons_of_len h;obtain ⟨a1,l1,rfl,h1⟩:=cons_of_len h0;obtain ⟨a2,l2,rfl,h2⟩:=cons_of_len h1;obtain ⟨a3,l3,rfl,h3⟩:=cons_of_len h2;obtain ⟨a4,l4,rfl,h4⟩:=cons_of_len h3;obtain ⟨a5,l5,rfl,h5⟩:=cons_of_len h4;obtain ⟨a6,l6,rfl,h6⟩:=cons_of_len h5;obtain ⟨a7,l7,rfl,h7⟩:=cons_of_len h6;obtain ⟨a8,l8,rfl,h8⟩:=cons_of_len h7;obtain ⟨a9,l9,rfl,h9⟩:=cons_of_len h8;obtain ⟨a10,l10,rfl,h10⟩:=cons_of_len h9
 obtain ⟨a11,l11,rfl,h11⟩:=cons_of_len h10;obtain ⟨a12,l12,rfl,h12⟩:=cons_of_len h11;obtain rfl:=List.eq_nil_of_length_eq_zero h12;exact ⟨_,_,_,_,_,_,_,_,_,_,_,_,_,rfl⟩
theorem list34 {α:Type} {l:List α} (h:l.length=34):∃a0 a1 a2 a3 a4 a5 a6 a7 a8 a9 a10 a11 a12 a13 a14 a15 a16 a17 a18 a19 a20 a21 a22 a23 a24 a25 a26 a27 a28 a29 a30 a31 a32 a33,l=[a0,a1,a2,a3,a4,a5,a6,a7,a8,a9,a10,a11,a12,a13,a14,a15,a16,a17,a18,a19,a20,a21,a22,a23,a24,a25,a26,a27,a28,a29,a30,a31,a32,a33]:=by
 obtain ⟨a0,l0,rfl,h0⟩:=cons_of_len h;obtain ⟨a1,l1,rfl,h1⟩:=cons_of_len h0;obtain ⟨a2,l2,rfl,h2⟩:=cons_of_len h1;obtain ⟨a3,l3,rfl,h3⟩:=cons_of_len h2;obtain ⟨a4,l4,rfl,h4⟩:=cons_of_len h3;obtain ⟨a5,l5,rfl,h5⟩:=cons_of_len h4;obtain ⟨a6,l6,rfl,h6⟩:=cons_of_len h5;obtain ⟨a7,l7,rfl,h7⟩:=cons_of_len h6;obtain ⟨a8,l8,rfl,h8⟩:=cons_of_len h7;obtain ⟨a9,l9,rfl,h9⟩:=cons_of_len h8;obtain ⟨a10,l10,rfl,h10⟩:=cons_of_len h9
 obtain ⟨a11,l11,rfl,h11⟩:=cons_of_len h10;obtain ⟨a12,l12,rfl,h12⟩:=cons_of_len h11;obtain ⟨a13,l13,rfl,h13⟩:=cons_of_len h12;obtain ⟨a14,l14,rfl,h14⟩:=cons_of_len h13;obtain ⟨a15,l15,rfl,h15⟩:=cons_of_len h14;obtain ⟨a16,l16,rfl,h16⟩:=cons_of_len h15;obtain ⟨a17,l17,rfl,h17⟩:=cons_of_len h16;obtain ⟨a18,l18,rfl,h18⟩:=cons_of_len h17;obtain ⟨a19,l19,rfl,h19⟩:=cons_of_len h18;obtain ⟨a20,l20,rfl,h20⟩:=cons_of_len h19
 obtain ⟨a21,l21,rfl,h21⟩:=cons_of_len h20;obtain ⟨a22,l22,rfl,h22⟩:=cons_of_len h21;obtain ⟨a23,l23,rfl,h23⟩:=cons_of_len h22;obtain ⟨a24,l24,rfl,h24⟩:=cons_of_len h23;obtain ⟨a25,l25,rfl,h25⟩:=cons_of_len h24;obtain ⟨a26,l26,rfl,h26⟩:=cons_of_len h25;obtain ⟨a27,l27,rfl,h27⟩:=cons_of_len h26;obtain ⟨a28,l28,rfl,h28⟩:=cons_of_len h27;obtain ⟨a29,l29,rfl,h29⟩:=cons_of_len h28;obtain ⟨a30,l30,rfl,h30⟩:=cons_of_len h29
 obtain ⟨a31,l31,rfl,h31⟩:=cons_of_len h30;obtain ⟨a32,l32,rfl,h32⟩:=cons_of_len h31;obtain ⟨a33,l33,rfl,h33⟩:=cons_of_len h32;obtain rfl:=List.eq_nil_of_length_eq_zero h33;exact ⟨_,_,_,_,_,_,_,_,_,_,_,_,_,_,_,_,_,_,_,_,_,_,_,_,_,_,_,_,_,_,_,_,_,_,rfl⟩
section
variable {H:Type} {enc:TypeId × Value→H} {w:World} {base:Nat} {spare:Nat→Bool} {held:Bool}
theorem stat_reads {fuel:Nat} {cs:List Value} {x:DataW H × List MemPlace} (h:DataW.trod enc Tryz.prog w base spare held fuel 72 cs=some x) :
 ∃n0 n1 n2 n3 n4:Int,(I64 n0∧I64 n1∧I64 n2∧I64 n3∧I64 n4)∧cs=[.int .i64 n0,.int .i64 n1,.int .i64 n2,.int .i64 n3,.int .i64 n4]:=by
 obtain ⟨xs,n,_,_,hl,hx,hf⟩:=DataW.trod_struct Tryz.underlying72 h;rw [cl_stat] at hl
 replace hx:xs.length=5:=hx
 obtain ⟨a0,a1,a2,a3,a4,rfl⟩:=list5 hl;obtain ⟨n0,rfl,k0⟩:=field_i64 Tryz.underlying2 cl_i64 (i:=0) (by omega) (o:=0) rfl (hf 0 _ rfl);obtain ⟨n1,rfl,k1⟩:=field_i64 Tryz.underlying2 cl_i64 (i:=1) (by omega) (o:=1) rfl (hf 1 _ rfl);obtain ⟨n2,rfl,k2⟩:=field_i64 Tryz.underlying2 cl_i64 (i:=2) (by omega) (o:=2) rfl (hf 2 _ rfl);obtain ⟨n3,rfl,k3⟩:=field_i64 Tryz.underlying2 cl_i64 (i:=3) (by omega) (o:=3) rfl (hf 3 _ rfl)
 obtain ⟨n4,rfl,k4⟩:=field_i64 Tryz.underlying2 cl_i64 (i:=4) (by omega) (o:=4) rfl (hf 4 _ rfl);exact ⟨n0,n1,n2,n3,n4,⟨k0,k1,k2,k3,k4⟩,rfl⟩
theorem adv_reads {fuel:Nat} {cs:List Value} {x:DataW H × List MemPlace} (h:DataW.trod enc Tryz.prog w base spare held fuel 74 cs=some x) :
 ∃n0 n1 n2 n3 n4:Int,(I64 n0∧I64 n1∧I64 n2∧I64 n3∧I64 n4)∧cs=[.int .i64 n0,.int .i64 n1,.int .i64 n2,.int .i64 n3,.int .i64 n4]:=by
 obtain ⟨xs,n,_,_,hl,hx,hf⟩:=DataW.trod_struct Tryz.underlying74 h;rw [cl_adv] at hl
 replace hx:xs.length=5:=hx
 obtain ⟨a0,a1,a2,a3,a4,rfl⟩:=list5 hl;obtain ⟨n0,rfl,k0⟩:=field_i64 Tryz.underlying2 cl_i64 (i:=0) (by omega) (o:=0) rfl (hf 0 _ rfl);obtain ⟨n1,rfl,k1⟩:=field_i64 Tryz.underlying2 cl_i64 (i:=1) (by omega) (o:=1) rfl (hf 1 _ rfl);obtain ⟨n2,rfl,k2⟩:=field_i64 Tryz.underlying2 cl_i64 (i:=2) (by omega) (o:=2) rfl (hf 2 _ rfl);obtain ⟨n3,rfl,k3⟩:=field_i64 Tryz.underlying2 cl_i64 (i:=3) (by omega) (o:=3) rfl (hf 3 _ rfl)
 obtain ⟨n4,rfl,k4⟩:=field_i64 Tryz.underlying3 cl_int (i:=4) (by omega) (o:=4) rfl (hf 4 _ rfl);exact ⟨n0,n1,n2,n3,n4,⟨k0,k1,k2,k3,k4⟩,rfl⟩
theorem reply_reads {fuel:Nat} {cs:List Value} {x:DataW H × List MemPlace} (h:DataW.trod enc Tryz.prog w base spare held fuel 76 cs=some x) :
 ∃r0 r1 r2 r3 r4 r5 r6 r7 r8 r9 r10 r11 r12:Int,(I64 r0∧I64 r1∧I64 r2∧I64 r3∧I64 r4∧I64 r5∧I64 r6∧I64 r7∧I64 r8∧I64 r9∧I64 r10∧I64 r11∧I64 r12)∧cs=[.int .i64 r0,.int .i64 r1,.int .i64 r2,.int .i64 r3,.int .i64 r4,.int .i64 r5,.int .i64 r6,.int .i64 r7,.int .i64 r8,.int .i64 r9,.int .i64 r10,.int .i64 r11,.int .i64 r12]:=by
 obtain ⟨xs,n,_,_,hl,hx,hf⟩:=DataW.trod_struct Tryz.underlying76 h;rw [cl_reply] at hl
 replace hx:xs.length=5:=hx
 obtain ⟨a0,a1,a2,a3,a4,a5,a6,a7,a8,a9,a10,a11,a12,rfl⟩:=list13 hl;obtain ⟨n0,rfl,k0⟩:=field_i64 Tryz.underlying70 cl_errno (i:=0) (by omega) (o:=0) rfl (hf 0 _ rfl);obtain ⟨n1,rfl,k1⟩:=field_i64 Tryz.underlying2 cl_i64 (i:=1) (by omega) (o:=1) rfl (hf 1 _ rfl);obtain ⟨n2,rfl,k2⟩:=field_i64 Tryz.underlying3 cl_int (i:=2) (by omega) (o:=2) rfl (hf 2 _ rfl);have h3:=hf 3 _ rfl;rw [List.getElem?_eq_getElem (by omega)] at h3
 obtain ⟨s0,s1,s2,s3,s4,⟨e0,e1,e2,e3,e4⟩,hs⟩:=stat_reads h3
 replace hs:([a3,a4,a5,a6,a7,a8,a9,a10,a11,a12]:List Value).take (Tryz.prog.cellsOf 72)=_:=hs
 rw [cl_stat] at hs;simp only [List.take_succ_cons,List.take_zero,List.cons.injEq,and_true] at hs
 obtain ⟨rfl,rfl,rfl,rfl,rfl⟩:=hs;have h4:=hf 4 _ rfl;rw [List.getElem?_eq_getElem (by omega)] at h4;obtain ⟨t0,t1,t2,t3,t4,⟨f0,f1,f2,f3,f4⟩,hs⟩:=adv_reads h4
 replace hs:([a8,a9,a10,a11,a12]:List Value).take (Tryz.prog.cellsOf 74)=_:=hs
 rw [cl_adv] at hs;simp only [List.take_succ_cons,List.take_zero,List.cons.injEq,and_true] at hs
 obtain ⟨rfl,rfl,rfl,rfl,rfl⟩:=hs;exact ⟨n0,n1,n2,s0,s1,s2,s3,s4,t0,t1,t2,t3,t4,⟨k0,k1,k2,e0,e1,e2,e3,e4,f0,f1,f2,f3,f4⟩,rfl⟩
theorem event_reads {fuel:Nat} {cs:List Value} {x:DataW H × List MemPlace} (h:DataW.trod enc Tryz.prog w base spare held fuel 137 cs=some x) :
 ∃e:EvtD,e.ok∧cs=evC e:=by
 obtain ⟨xs,n,_,_,hl,hx,hf⟩:=DataW.trod_struct Tryz.underlying137 h;rw [cl_ev] at hl
 replace hx:xs.length=7:=hx
 obtain ⟨a0,a1,a2,a3,a4,a5,a6,a7,a8,a9,a10,a11,a12,a13,a14,a15,a16,a17,a18,a19,a20,a21,a22,a23,a24,a25,a26,a27,a28,a29,a30,a31,a32,a33,rfl⟩:=list34 hl;obtain ⟨n0,rfl,k0⟩:=field_i64 Tryz.underlying3 cl_int (i:=0) (by omega) (o:=0) rfl (hf 0 _ rfl);obtain ⟨n1,rfl,k1⟩:=field_i64 Tryz.underlying3 cl_int (i:=1) (by omega) (o:=1) rfl (hf 1 _ rfl);obtain ⟨n2,rfl,k2⟩:=field_i64 Tryz.underlying3 cl_int (i:=2) (by omega) (o:=2) rfl (hf 2 _ rfl)
 have h3:=hf 3 _ rfl;rw [List.getElem?_eq_getElem (by omega)] at h3;obtain ⟨c,hc,hs⟩:=call_reads h3;unfold callCells at hs
 replace hs:([a3,a4,a5,a6,a7,a8,a9,a10,a11,a12,a13,a14,a15,a16,a17,a18,a19,a20,a21,a22,a23,a24,a25,a26,a27,a28,a29,a30,a31,a32,a33]:List Value).take (Tryz.prog.cellsOf 69)=_:=hs
 rw [cl_call] at hs;simp only [List.take_succ_cons,List.take_zero,List.cons.injEq,and_true] at hs
 obtain ⟨rfl,rfl,rfl,rfl,rfl,rfl,rfl,rfl,rfl,rfl,rfl⟩:=hs;have h4:=hf 4 _ rfl;rw [List.getElem?_eq_getElem (by omega)] at h4;obtain ⟨r0,r1,r2,r3,r4,r5,r6,r7,r8,r9,r10,r11,r12,hr,hs⟩:=reply_reads h4
 replace hs:([a14,a15,a16,a17,a18,a19,a20,a21,a22,a23,a24,a25,a26,a27,a28,a29,a30,a31,a32,a33]:List Value).take (Tryz.prog.cellsOf 76)=_:=hs
 rw [cl_reply] at hs;simp only [List.take_succ_cons,List.take_zero,List.cons.injEq,and_true] at hs
 obtain ⟨rfl,rfl,rfl,rfl,rfl,rfl,rfl,rfl,rfl,rfl,rfl,rfl,rfl⟩:=hs;have h5:=hf 5 _ rfl;rw [List.getElem?_eq_getElem (by omega)] at h5;obtain ⟨p,hp,hs⟩:=key_reads h5;unfold keyC at hs
 replace hs:([a27,a28,a29,a30,a31,a32,a33]:List Value).take (Tryz.prog.cellsOf 130)=_:=hs
 rw [cl_key] at hs;simp only [List.take_succ_cons,List.take_zero,List.cons.injEq,and_true] at hs
 obtain ⟨rfl,rfl⟩:=hs;have h6:=hf 6 _ rfl;rw [List.getElem?_eq_getElem (by omega)] at h6;obtain ⟨t0,t1,t2,t3,t4,ha,hs⟩:=adv_reads h6
 replace hs:([a29,a30,a31,a32,a33]:List Value).take (Tryz.prog.cellsOf 74)=_:=hs
 rw [cl_adv] at hs;simp only [List.take_succ_cons,List.take_zero,List.cons.injEq,and_true] at hs
 obtain ⟨rfl,rfl,rfl,rfl,rfl⟩:=hs;exact ⟨⟨n0,n1,n2,c,r0,r1,r2,r3,r4,r5,r6,r7,r8,r9,r10,r11,r12,p.1,p.2,t0,t1,t2,t3,t4⟩,⟨k0,k1,k2,hc,hr,hp.1,hp.2,ha⟩,rfl⟩
theorem events_row {fuel:Nat} {cs:List Value} {x:DataW H × List MemPlace} (h:DataW.trod enc Tryz.prog w base spare held fuel 81 cs=some x) :
 ∃(v:Value) (l:List EvtD),cs=[v]∧l.length≤maxLen∧(∀p∈l,p.ok)∧RowIn 34 evC w v l:=by
 haveI:Inhabited EvtD:=⟨⟨0,0,0,⟨0,⟨#[]⟩,0,0,0,⟨0,0,0,0,0,0⟩⟩,0,0,0,0,0,0,0,0,0,0,0,0,0,0,0,0,0,0,0,0⟩⟩
 exact row_read (f:=evC) Tryz.underlying81 cl_ev (by decide) (fun _ _ _ h=>event_reads h) h
end
end
end Go.Proofs.YtkcdhaallnhhmaaGreat
