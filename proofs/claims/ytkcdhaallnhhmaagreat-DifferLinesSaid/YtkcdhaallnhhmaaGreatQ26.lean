/- Part 26 of the proof: FlB. -/
import Derived.Test.YtkcdhaallnhhmaaGreatQ24
namespace Go.Proofs.YtkcdhaallnhhmaaGreat
set_option linter.unusedSimpArgs false
set_option linter.unusedVariables false
set_option linter.unusedSectionVars false
set_option maxRecDepth 100000
set_option maxHeartbeats 16000000
section
open Go.RowKit Go.Lib
def LoadOwn (base:Nat) (w:World) (y:It):Prop:=OwnL smpC 118 2 base w (.slice y.sA y.nd.smp.length y.sc) y.nd.smp∧OwnL advC 74 5 base w (.slice y.pA y.nd.past.length y.pc) y.nd.past
theorem own_raise {α:Type} {e:TypeId} {n base base':Nat} {f:α→List Value} {w:World} {v:Value} {l:List α} (h:OwnL f e n base w v l) (hb:∀r,v.ownBlock=some r→base'≤r):OwnL f e n base' w v l:=by
 refine ⟨h.1,?_⟩
 rcases h.2 with hn|⟨g,cap,cur,hv,hg,rest⟩
 · exact .inl hn
 · exact .inr ⟨g,cap,cur,hv,hb g (by rw [hv];rfl),rest⟩
theorem own_srow {α:Type} {e:TypeId} {n base:Nat} {f:α→List Value} {w:World} {v:Value} {l:List α} {fp:List Nat} (h:SRow f e n w v l fp) (hb:∀r∈fp,base≤r):OwnL f e n base w v l :=
 own_raise h.1 (fun r hr=>hb r (by rw [h.2,hr];simp))
theorem LoadOwn.lower {base base':Nat} {w:World} {y:It} (h:LoadOwn base w y) (hb:base'≤base):LoadOwn base' w y:=⟨h.1.lower hb,h.2.lower hb⟩
theorem LoadOwn.kept {base:Nat} {w w':World} {y:It} (h:LoadOwn base w y) (hk:∀r,base≤r→r<w.heap.size→w'.heap[r]?=w.heap[r]?):LoadOwn base w' y :=
 ⟨h.1.kept (fun r hr=>hk r (h.1.lt hr).1 (h.1.lt hr).2),h.2.kept (fun r hr=>hk r (h.2.lt hr).1 (h.2.lt hr).2)⟩
theorem LoadOwn.below {base:Nat} {w w':World} {y:It} (h:LoadOwn base w y) (hb:jB w w'):LoadOwn base w' y:=⟨h.1.below hb,h.2.below hb⟩
def CopyS (w:World) (x:It) (e:Ending) (w':World):Prop :=
 ∃y:It,e=.returned (ldV y)∧y.nd=x.nd∧y.key=x.key∧LoadOwn w.heap.size w' y∧jB w w'
theorem flCopied_any (P:Nat→Prop) (x:It) (w:World) (hx:LoadIn P w x) (hl1:x.nd.smp.length≤1000000) (hl2:x.nd.past.length≤1000000) :
 Calls Tryz.prog 135 #[ldV x] w (CopyS w x):=by
 have CS:=jH (fun W (hW:jB w W)=>cloneS_any _ x.nd.smp W (hx.1.1.below hW) hl1);have CA:=jH (fun W (hW:jB w W)=>cloneA_any _ x.nd.past W (hx.2.1.below hW) hl2);obtain ⟨key,sA,sc,pA,pc,nd⟩:=x;unfold ldV ldC;dsimp only at CS CA ⊢;clear hx hl1 hl2
 go_enter Tryz.func135,Tryz.ntmps135
 go_upto_region 1 with fail
 refine name_world ?_;intro W1 hW1;have HB1:=jH (show jB w W1 by rw [hW1];exact balloc (balloc jR _) _);have HX1:=jH (show W1.heap[w.heap.size]?=some (.cells #[.slice sA nd.smp.length sc,.slice pA nd.past.length pc,.int .i64 nd.pol.mn,.int .i64 nd.pol.mx,.int .i64 nd.pol.tg,.int .i64 nd.pol.tol,.int .i64 nd.pol.win,.int .i64 nd.pol.hold,.bool nd.ruled] 50 (0,0)) by rw [hW1];exact box_old _ _ _);have HR1:=jH (show W1.heap[w.heap.size+1]?=some (.cells #[.slice none 0 0,.slice none 0 0,.int .i64 0,.int .i64 0,.int .i64 0,.int .i64 0,.int .i64 0,.int .i64 0,.bool false] 50 (0,0)) by rw [hW1];exact box_new _ _ _)
 have HS1:=jH (show w.heap.size+2≤W1.heap.size by rw [hW1];simp);clear hW1;obtain ⟨b1,b2,b3⟩:=box_cells jR HX1.out
 go_region_with (first
  | (go_at_call 116
     have h9:=HBU;refine calls_named ?_;intro V hV;have hd:jB w V:=by rw [hV];first|exact HBU.out|exact HBU.out.drew|exact Below.setCell HBU.out (by exact Nat.le_refl _) _|exact (Below.setCell HBU.out (by exact Nat.le_refl _) _).drew
     have hr:V.heap[w.heap.size+1]?=some (.cells #[.slice none 0 0,.slice none 0 0,.int .i64 0,.int .i64 0,.int .i64 0,.int .i64 0,.int .i64 0,.int .i64 0,.bool false] 50 (0,0)):=by rw [hV];first|exact HRU.out|exact heap_set_ne HRU.out (by omega)
     have hsz:u1.heap.size≤V.heap.size:=by rw [hV];first|done|exact Nat.le_refl _|simp
     have ho:∀k∈fp4,V.heap[k]?=u1.heap[k]?:=fun k hk=>by rw [hV];first|done|rfl|exact heap_set_ne rfl (by have:=HQ4.out.2 k hk;omega)
     (first
       | (have hx:V.heap[w.heap.size]?=some (.cells #[.slice sA nd.smp.length sc,.slice pA nd.past.length pc,.int .i64 nd.pol.mn,.int .i64 nd.pol.mx,.int .i64 nd.pol.tg,.int .i64 nd.pol.tol,.int .i64 nd.pol.win,.int .i64 nd.pol.hold,.bool nd.ruled] 50 (0,0)):=by rw [hV];exact HXU.out)
       | (have hx:V.heap[w.heap.size]?=some (.cells #[.slice sA nd.smp.length sc,.slice A4 nd.past.length c4,.int .i64 nd.pol.mn,.int .i64 nd.pol.mx,.int .i64 nd.pol.tg,.int .i64 nd.pol.tol,.int .i64 nd.pol.win,.int .i64 nd.pol.hold,.bool nd.ruled] 50 (0,0)):=by rw [hV];exact setCell_block HXU.out))
     clear hV;have hlt:=(jL hr);refine (CS.out V hd).mono ?_;rintro e u2 ⟨A3,c3,fp3,rfl,hq,hf,hb⟩;have HBV:=jH (bthen hd hb);have HXV:=jH (jK hb hx);have HRV:=jH ((hb.block _ hlt).trans hr);have HG3:=jH (And.intro hq (show ∀k∈fp3,w.heap.size+2≤k from fun k hk=>Nat.le_trans hlt (hf k hk)));have HG4:=jH (And.intro (HQ4.out.1.kept (fun r hr9=>(hb.block r (Nat.lt_of_lt_of_le (HQ4.out.1.lt r hr9) hsz)).trans (ho r hr9))) HQ4.out.2)
     obtain ⟨x4,x5,x6⟩:=box_cells jR HXV.out;obtain ⟨r1,r2,r3⟩:=box_cells jR HRV.out;clear hq hf hb hd hr ho hx hlt hsz x1 x2 x3)
  | (go_at_call 178
     have h9:=HBU;refine calls_named ?_;intro V hV;have hd:jB w V:=by rw [hV];first|exact HBU.out|exact HBU.out.drew|exact Below.setCell HBU.out (by exact Nat.le_refl _) _|exact (Below.setCell HBU.out (by exact Nat.le_refl _) _).drew
     have hr:V.heap[w.heap.size+1]?=some (.cells #[.slice none 0 0,.slice none 0 0,.int .i64 0,.int .i64 0,.int .i64 0,.int .i64 0,.int .i64 0,.int .i64 0,.bool false] 50 (0,0)):=by rw [hV];first|exact HRU.out|exact heap_set_ne HRU.out (by omega)
     have hsz:u1.heap.size≤V.heap.size:=by rw [hV];first|done|exact Nat.le_refl _|simp
     have ho:∀k∈fp3,V.heap[k]?=u1.heap[k]?:=fun k hk=>by rw [hV];first|done|rfl|exact heap_set_ne rfl (by have:=HQ3.out.2 k hk;omega)
     (first
       | (have hx:V.heap[w.heap.size]?=some (.cells #[.slice sA nd.smp.length sc,.slice pA nd.past.length pc,.int .i64 nd.pol.mn,.int .i64 nd.pol.mx,.int .i64 nd.pol.tg,.int .i64 nd.pol.tol,.int .i64 nd.pol.win,.int .i64 nd.pol.hold,.bool nd.ruled] 50 (0,0)):=by rw [hV];exact HXU.out)
       | (have hx:V.heap[w.heap.size]?=some (.cells #[.slice A3 nd.smp.length c3,.slice pA nd.past.length pc,.int .i64 nd.pol.mn,.int .i64 nd.pol.mx,.int .i64 nd.pol.tg,.int .i64 nd.pol.tol,.int .i64 nd.pol.win,.int .i64 nd.pol.hold,.bool nd.ruled] 50 (0,0)):=by rw [hV];exact setCell_block HXU.out))
     clear hV;have hlt:=(jL hr);refine (CA.out V hd).mono ?_;rintro e u2 ⟨A4,c4,fp4,rfl,hq,hf,hb⟩;have HBV:=jH (bthen hd hb);have HXV:=jH (jK hb hx);have HRV:=jH ((hb.block _ hlt).trans hr);have HG4:=jH (And.intro hq (show ∀k∈fp4,w.heap.size+2≤k from fun k hk=>Nat.le_trans hlt (hf k hk)));have HG3:=jH (And.intro (HQ3.out.1.kept (fun r hr9=>(hb.block r (Nat.lt_of_lt_of_le (HQ3.out.1.lt r hr9) hsz)).trans (ho r hr9))) HQ3.out.2)
     obtain ⟨x4,x5,x6⟩:=box_cells jR HXV.out;obtain ⟨r1,r2,r3⟩:=box_cells jR HRV.out;clear hq hf hb hd hr ho hx hlt hsz x1 x2 x3)
  | (go_at_call 116
     refine calls_named ?_;intro V hV;have hd:jB W1 V:=by rw [hV];first|exact jR|exact jR.drew
     clear hV;refine (CS.out V (bthen HB1.out hd)).mono ?_;rintro e u1 ⟨A3,c3,fp3,rfl,hq,hf,hb⟩;have hd1:=bthen hd hb;have HBU:=jH (bthen HB1.out hd1);have HXU:=jH (jK hd1 HX1.out);have HRU:=jH (jK hd1 HR1.out);have HQ3:=jH (And.intro hq (show ∀k∈fp3,w.heap.size+2≤k from fun k hk=>Nat.le_trans (Nat.le_trans HS1.out hd.size) (hf k hk)));obtain ⟨x1,x2,x3⟩:=box_cells jR HXU.out;clear hq hf hb hd hd1 b1 b2 b3)
  | (go_at_call 178
     refine calls_named ?_;intro V hV;have hd:jB W1 V:=by rw [hV];first|exact jR|exact jR.drew
     clear hV;refine (CA.out V (bthen HB1.out hd)).mono ?_;rintro e u1 ⟨A4,c4,fp4,rfl,hq,hf,hb⟩;have hd1:=bthen hd hb;have HBU:=jH (bthen HB1.out hd1);have HXU:=jH (jK hd1 HX1.out);have HRU:=jH (jK hd1 HR1.out);have HQ4:=jH (And.intro hq (show ∀k∈fp4,w.heap.size+2≤k from fun k hk=>Nat.le_trans (Nat.le_trans HS1.out hd.size) (hf k hk)));obtain ⟨x1,x2,x3⟩:=box_cells jR HXU.out;clear hq hf hb hd hd1 b1 b2 b3))
 all_goals
   refine then_named ?_;intro W9 hW9;have hx9:W9.heap[w.heap.size]?=some (.cells #[.slice A3 nd.smp.length c3,.slice A4 nd.past.length c4,.int .i64 nd.pol.mn,.int .i64 nd.pol.mx,.int .i64 nd.pol.tg,.int .i64 nd.pol.tol,.int .i64 nd.pol.win,.int .i64 nd.pol.hold,.bool nd.ruled] 50 (0,0)):=by rw [hW9];first|exact setCell_block (setCell_block HXV.out)|exact setCell_block HXV.out
   have hr9:W9.heap[w.heap.size+1]?=some (.cells #[.slice none 0 0,.slice none 0 0,.int .i64 0,.int .i64 0,.int .i64 0,.int .i64 0,.int .i64 0,.int .i64 0,.bool false] 50 (0,0)):=by rw [hW9];first|exact heap_set_ne (heap_set_ne HRV.out (by omega)) (by omega)|exact heap_set_ne HRV.out (by omega)
   have hb9:jB w W9:=by rw [hW9];repeat (first|exact HBV.out|refine Below.setCell ?_ (by exact Nat.le_refl _) _)
   have hk9:∀k,w.heap.size+2≤k→W9.heap[k]?=u2.heap[k]?:=fun k hk=>by rw [hW9];first|exact heap_set_ne (heap_set_ne rfl (by omega)) (by omega)|exact heap_set_ne rfl (by omega)
   have HB9:=jH hb9;have HK9:=jH hk9;have HR9:=jH hr9;clear hW9 hb9 hk9 x4 x5 x6 r1 r2 r3;obtain ⟨x7,x8,x9⟩:=box_cells jR hx9;obtain ⟨r1,r2,r3⟩:=box_cells jR hr9;clear hx9 hr9;go_wp2_with fail
   refine post_named ?_;intro V9 hV9;have hV9':V9=stor W9 (w.heap.size+1) 0 [.slice A3 nd.smp.length c3,.slice A4 nd.past.length c4,.int .i64 nd.pol.mn,.int .i64 nd.pol.mx,.int .i64 nd.pol.tg,.int .i64 nd.pol.tol,.int .i64 nd.pol.win,.int .i64 nd.pol.hold,.bool nd.ruled]:=hV9;obtain ⟨t1,t2,t3,t4⟩:=stor_at HR9.out [.slice A3 nd.smp.length c3,.slice A4 nd.past.length c4,.int .i64 nd.pol.mn,.int .i64 nd.pol.mx,.int .i64 nd.pol.tg,.int .i64 nd.pol.tol,.int .i64 nd.pol.win,.int .i64 nd.pol.hold,.bool nd.ruled] rfl V9 hV9'
   obtain ⟨a9,a8,a7⟩:=box_cells jR t1;clear hV9 hV9';have hk:∀k,w.heap.size+2≤k→V9.heap[k]?=u2.heap[k]?:=fun k hk=>(t2 k (by omega)).trans (HK9.out k hk)
   exact bodyPost_ret (v:=.agg #[.slice A3 nd.smp.length c3,.slice A4 nd.past.length c4,.int .i64 nd.pol.mn,.int .i64 nd.pol.mx,.int .i64 nd.pol.tg,.int .i64 nd.pol.tol,.int .i64 nd.pol.win,.int .i64 nd.pol.hold,.bool nd.ruled]) (by simp [results,Tryz.results135,go_sem,a9]) rfl
     ⟨⟨key,A3,c3,A4,c4,nd⟩,rfl,rfl,rfl,⟨own_srow (HG3.out.1.kept (fun r hr=>hk r (HG3.out.2 r hr))) (fun r hr=>by have:=HG3.out.2 r hr;omega),own_srow (HG4.out.1.kept (fun r hr=>hk r (HG4.out.2 r hr))) (fun r hr=>by have:=HG4.out.2 r hr;omega)⟩,HB9.out.trans (t4 _ (Nat.le_succ _))⟩
end
end Go.Proofs.YtkcdhaallnhhmaaGreat
