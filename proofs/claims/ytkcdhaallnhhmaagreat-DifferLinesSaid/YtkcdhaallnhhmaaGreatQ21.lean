/- Part 21 of the proof: RTrim, W21P, W21M. -/
import Derived.Test.YtkcdhaallnhhmaaGreatQ20
namespace Go.Proofs.YtkcdhaallnhhmaaGreat
set_option linter.unusedSimpArgs false
set_option linter.unusedVariables false
set_option linter.unusedSectionVars false
set_option maxRecDepth 100000
set_option maxHeartbeats 16000000
section
open Go.RowKit Go.Lib Go.Sort
def trimR (cut:Int) (x:Nd):Nd:=if placeS x.smp cut=0 then x else { x with smp:=x.smp.drop (placeS x.smp cut),ver:=x.ver+1 }
theorem do17_trim (rs rh:Nat) (x:Nd) (cut:Int):do17 rs rh x ⟨1,(cut,0),pol0,adv0⟩=(trimR cut x,0,((placeS x.smp cut:Nat):Int)):=by
 unfold do17 trimR;simp only [show ¬(1:Int)=0 from by decide,if_false,if_true]
 split
 · rename_i h;rw [h];rfl
 · rfl
def goneI (l:List It) (cut:Int):Nat:=(l.map (fun x=>placeS x.nd.smp cut)).sum
def manyI (l:List It) (cut:Int):Nat:=l.countP (fun x=>0<placeS x.nd.smp cut)
def RTrimSays (P:Nat→Prop) (w:World) (l:List It) (cut:Int) (e:Ending) (w':World):Prop :=
 ∃out A c,e=.returned (.tuple #[.slice A out.length c,.int .i64 (goneI l cut:Nat),.int .i64 (manyI l cut:Nat)])∧ItemsIn P w' (.slice A out.length c) out∧out.map absI=l.map (fun x=>(x.key,trimR cut x.nd))∧jB w w'
theorem goneI_snoc {l:List It} {k:Nat} (h:k<l.length) (cut:Int):goneI (l.take (k+1)) cut=goneI (l.take k) cut+placeS l[k].nd.smp cut:=by
 unfold goneI;rw [List.take_succ_eq_append_getElem h,List.map_append,List.sum_append];simp only [List.map_cons,List.map_nil,List.sum_cons,List.sum_nil,Nat.add_zero]
theorem manyI_snoc {l:List It} {k:Nat} (h:k<l.length) (cut:Int):manyI (l.take (k+1)) cut=manyI (l.take k) cut+if 0<placeS l[k].nd.smp cut then 1 else 0:=by
 unfold manyI;rw [List.take_succ_eq_append_getElem h,List.countP_append];congr 1;simp [List.countP_cons]
theorem goneI_le {l:List It} (rs:Nat) (h:∀x∈l,x.nd.smp.length≤rs) (cut:Int):goneI l cut≤rs * l.length:=by
 induction l with
 | nil=>simp [goneI]
 | cons a l ih =>
   have:=h a (List.mem_cons_self ..);have:=placeS_le a.nd.smp cut;have:=ih (fun x hx=>h x (List.mem_cons_of_mem _ hx));simp only [goneI,List.map_cons,List.sum_cons,List.length_cons] at this ⊢
   rw [Nat.mul_add];omega
theorem rowG_grown {α:Type} {P:Nat→Prop} {n:Nat} {f:α→List Value} {w u w4:World} {v v' vr:Value} {l:List α} (h:RowG (fun b=>P b∧v.ownBlock≠some b) n f w vr l) (hb:jB w u) (hg:u.grownBy w4 v.ownBlock) (hblk:v'.ownBlock=v.ownBlock∨v'.ownBlock=some u.heap.size) :
 RowG (fun b=>P b∧v'.ownBlock≠some b) n f w4 vr l:=by
 have h1:=h.old;refine (h1.keepP (Nat.le_trans hb.size hg.size) (fun b hb' hlt=>(hg.block b (Nat.lt_of_lt_of_le hlt hb.size) (Ne.symm hb'.1.2)).trans (hb.block b hlt))).imp (fun b hb'=>⟨hb'.1.1,fun e=>?_⟩)
 rcases hblk with h2|h2
 · rw [h2] at e
   exact hb'.1.2 e
 · rw [h2] at e
   injection e with e
   have:=hb.size;have:=hb'.2;omega
theorem load_grown {P:Nat→Prop} {w u w4:World} {v v':Value} {x:It} (h:LoadIn (fun b=>P b∧v.ownBlock≠some b) w x) (hb:jB w u) (hg:u.grownBy w4 v.ownBlock) (hblk:v'.ownBlock=v.ownBlock∨v'.ownBlock=some u.heap.size):LoadIn (fun b=>P b∧v'.ownBlock≠some b) w4 x :=
 ⟨rowG_grown h.1 hb hg hblk,rowG_grown h.2 hb hg hblk⟩
theorem rtrim_any (P:Nat→Prop) (c:Cfg) (rs rh:Nat) (v:Value) (l:List It) (cut:Int) (w:World) (hP:∀b,w.heap.size≤b→P b) (hx:ItemsIn P w v l) (hc:RoomOk c rs rh) (hn:∀x∈l,NdOk rs rh x.nd) (hv:∀x∈l,x.nd.ver≤1000000) (hl:l.length≤1000) :
 Calls Tryz.prog 140 #[cfgV c,v,.int .i64 cut] w (RTrimSays P w l cut):=by
 obtain ⟨A,cc,rfl⟩:=hx.1.1.form;have HX:=jH hx;have HP:=jH hP;have HN:=jH hn;have HV:=jH hv;have HC:=jH hc;have HGL:=jH (fun k=>show goneI (l.take k) cut≤256 * 1000 by
  have h1:=goneI_le (l:=l.take k) rs (fun x hx=>(hn x (List.mem_of_mem_take hx)).len) cut;have h2:(l.take k).length≤1000:=by simp;omega
  have h3:=hc.r2;exact Nat.le_trans h1 (Nat.mul_le_mul h3 h2))
 have HML:=jH (fun k=>show manyI (l.take k) cut≤1000 by
  have h1:manyI (l.take k) cut≤(l.take k).length:=List.countP_le_length ..;have h2:(l.take k).length≤1000:=by simp;omega
  omega)
 clear hx hP hn hv hc;unfold cfgV
 go_enter Tryz.func140,Tryz.ntmps140
 go_wp2_with fail
 refine name_world ?_;intro W hW;have hb0:jB w W:=by rw [hW];exact balloc jR _
 have hx0:W.heap[w.heap.size]?=some (.cells #[.int .i64 c.st,.int .i64 c.sa,.int .i64 c.lo,.int .i64 c.hi] 23 (0,0)):=by rw [hW];exact heap_alloc_new _ _
 have HX0:=jH hx0;have HB0:=jH hb0;clear hW hx0 hb0;go_wp2
 go_loopg [9,10,11,12] l.length (fun g s9 s10 s11 s12 wr=>∃(k:Nat) (out:List It),k≤l.length∧l.length - k≤g∧s12=.int .i64 (k:Nat)∧s10=.int .i64 (goneI (l.take k) cut:Nat)∧s11=.int .i64 (manyI (l.take k) cut:Nat)∧OwnL itC 242 12 W.heap.size wr s9 out∧(∀x∈out,LoadIn (fun b=>P b∧s9.ownBlock≠some b) wr x)∧out.map absI=(l.take k).map (fun x=>(x.key,trimR cut x.nd))∧jB W wr)
 case atStart=>exact ⟨0,[],Nat.zero_le _,Nat.le_refl _,rfl,by simp [goneI],by simp [manyI],OwnL.nil _ _,fun x hx=>by simp at hx,by simp,jR⟩
 case round =>
  obtain ⟨k,out,hk,hg,rfl,rfl,rfl,hown,hload,habs,hb⟩:=hrel;obtain ⟨A9,c9,rfl⟩:=hown.form;have hol:out.length=k:=by
   have:=congrArg List.length habs
   simpa [hk] using this
  have HOL:=jH hol;clear hol;have HO:=jH hown;have HLD:=jH hload;have HAB:=jH habs;have HB:=jH hb;obtain ⟨a1,a2,a3,a4⟩:=box_at hb HX0.out;have HX4:=jH a4;clear hown hload habs a4
  by_cases hlt:k<l.length
  · obtain ⟨bb,o,rfl,hbw,hc⟩:=HX.out.1.1.at_ hlt
    have hxm:=List.getElem_mem hlt;have HGS:=jH (goneI_snoc hlt cut);have HMS:=jH (manyI_snoc hlt cut);have HTK:=jH (List.take_succ_eq_append_getElem hlt);have HXL:=jH (HX.out.2 _ hxm);have HXN:=jH (HN.out _ hxm);have hxv:=HV.out _ hxm;have hg0:=HGL.out k;have hg1:=HGL.out (k+1);have hm0:=HML.out k;rw [HGS.out] at hg1;generalize l[k]=x at hc HGS HMS HTK HXL HXN hxv hg1;have HC12:=jH (show ∀j u,(itC x)[j]?=some u→w.cell? ⟨bb,o+k * 12+j,none⟩=some u from hc)
    clear hc hxm;generalize hGG:goneI (l.take k) cut=G at *;generalize hMM:manyI (l.take k) cut=M at *;clear hGG hMM;have hbb:=bthen HB0.out hb;have q0:=(hbb.cell (p:=⟨bb,_,none⟩) hbw).trans (HC12.out 2 _ rfl);have q1:=(hbb.cell (p:=⟨bb,_,none⟩) hbw).trans (HC12.out 3 _ rfl);have q2:=(hbb.cell (p:=⟨bb,_,none⟩) hbw).trans (HC12.out 4 _ rfl);have q3:=(hbb.cell (p:=⟨bb,_,none⟩) hbw).trans (HC12.out 5 _ rfl)
    have q4:=(hbb.cell (p:=⟨bb,_,none⟩) hbw).trans (HC12.out 6 _ rfl);have q5:=(hbb.cell (p:=⟨bb,_,none⟩) hbw).trans (HC12.out 7 _ rfl);have q6:=(hbb.cell (p:=⟨bb,_,none⟩) hbw).trans (HC12.out 8 _ rfl);have q7:=(hbb.cell (p:=⟨bb,_,none⟩) hbw).trans (HC12.out 9 _ rfl);have q8:=(hbb.cell (p:=⟨bb,_,none⟩) hbw).trans (HC12.out 10 _ rfl);have q9:=(hbb.cell (p:=⟨bb,_,none⟩) hbw).trans (HC12.out 11 _ rfl)
    have hbwr:bb<wr.heap.size:=Nat.lt_of_lt_of_le hbw hbb.size;have HBB:=jH hbb;have HR:Hid (∀W2,jB wr W2→Calls Tryz.prog 181 #[.agg #[.int .i64 c.st,.int .i64 c.sa,.int .i64 c.lo,.int .i64 c.hi],.agg #[.slice x.sA x.nd.smp.length x.sc,.slice x.pA x.nd.past.length x.pc,.int .i64 x.nd.pol.mn,.int .i64 x.nd.pol.mx,.int .i64 x.nd.pol.tg,.int .i64 x.nd.pol.tol,.int .i64 x.nd.pol.win,.int .i64 x.nd.pol.hold,.bool x.nd.ruled,.int .i64 (x.nd.ver:Nat)],.agg #[.int .i64 1,.int .i64 cut,.int .i64 0,.int .i64 0,.int .i64 0,.int .i64 0,.int .i64 0,.int .i64 0,.int .i64 0,.int .i64 0,.int .i64 0,.int .i64 0,.int .i64 0,.int .i64 0]] W2 (Do17Says (fun b=>P b∧(b<w.heap.size∨W2.heap.size≤b)) W2 x.key (trimR cut x.nd) 0 (placeS x.nd.smp cut:Nat))):=jH (fun W2 h2=>by
     have hb2:=bthen hbb h2;have:=r17_any (fun b=>P b∧(b<w.heap.size∨W2.heap.size≤b)) c rs rh x ⟨1,(cut,0),pol0,adv0⟩ W2 (fun b hb'=>⟨HP.out b (by have:=hb2.size;omega),.inr hb'⟩) ⟨(HXL.out.1.old.below hb2).imp (fun b hb'=>⟨hb'.1,.inl hb'.2⟩),(HXL.out.2.old.below hb2).imp (fun b hb'=>⟨hb'.1,.inl hb'.2⟩)⟩ HC.out HXN.out hxv;rw [do17_trim] at this;exact this)
    obtain ⟨y,hy0⟩:∃y,y=trimR cut x.nd:=⟨_,rfl⟩;rw [←hy0] at HR;have HYE:=jH hy0;clear hbb hy0;generalize hpp:placeS x.nd.smp cut=p at *;clear hpp;have rq0:∀U,jB wr U→U.cell? ⟨bb,o+k * 12+2,none⟩=some (.slice x.sA x.nd.smp.length x.sc):=fun U hU=>(hU.cell (p:=⟨bb,_,none⟩) hbwr).trans q0
    have rq1:∀U,jB wr U→U.cell? ⟨bb,o+k * 12+3,none⟩=some (.slice x.pA x.nd.past.length x.pc):=fun U hU=>(hU.cell (p:=⟨bb,_,none⟩) hbwr).trans q1
    have rq2:∀U,jB wr U→U.cell? ⟨bb,o+k * 12+4,none⟩=some (.int .i64 x.nd.pol.mn):=fun U hU=>(hU.cell (p:=⟨bb,_,none⟩) hbwr).trans q2
    have rq3:∀U,jB wr U→U.cell? ⟨bb,o+k * 12+5,none⟩=some (.int .i64 x.nd.pol.mx):=fun U hU=>(hU.cell (p:=⟨bb,_,none⟩) hbwr).trans q3
    have rq4:∀U,jB wr U→U.cell? ⟨bb,o+k * 12+6,none⟩=some (.int .i64 x.nd.pol.tg):=fun U hU=>(hU.cell (p:=⟨bb,_,none⟩) hbwr).trans q4
    have rq5:∀U,jB wr U→U.cell? ⟨bb,o+k * 12+7,none⟩=some (.int .i64 x.nd.pol.tol):=fun U hU=>(hU.cell (p:=⟨bb,_,none⟩) hbwr).trans q5
    have rq6:∀U,jB wr U→U.cell? ⟨bb,o+k * 12+8,none⟩=some (.int .i64 x.nd.pol.win):=fun U hU=>(hU.cell (p:=⟨bb,_,none⟩) hbwr).trans q6
    have rq7:∀U,jB wr U→U.cell? ⟨bb,o+k * 12+9,none⟩=some (.int .i64 x.nd.pol.hold):=fun U hU=>(hU.cell (p:=⟨bb,_,none⟩) hbwr).trans q7
    have rq8:∀U,jB wr U→U.cell? ⟨bb,o+k * 12+10,none⟩=some (.bool x.nd.ruled):=fun U hU=>(hU.cell (p:=⟨bb,_,none⟩) hbwr).trans q8
    have rq9:∀U,jB wr U→U.cell? ⟨bb,o+k * 12+11,none⟩=some (.int .i64 (x.nd.ver:Nat)):=fun U hU=>(hU.cell (p:=⟨bb,_,none⟩) hbwr).trans q9
    have rc0:∀U,jB wr U→U.cell? ⟨w.heap.size,0,none⟩=some (.int .i64 c.st):=fun U hU=>(hU.cell (p:=⟨w.heap.size,_,none⟩) a3).trans (a1 0)
    have rc1:∀U,jB wr U→U.cell? ⟨w.heap.size,1,none⟩=some (.int .i64 c.sa):=fun U hU=>(hU.cell (p:=⟨w.heap.size,_,none⟩) a3).trans (a1 1)
    have rc2:∀U,jB wr U→U.cell? ⟨w.heap.size,2,none⟩=some (.int .i64 c.lo):=fun U hU=>(hU.cell (p:=⟨w.heap.size,_,none⟩) a3).trans (a1 2)
    have rc3:∀U,jB wr U→U.cell? ⟨w.heap.size,3,none⟩=some (.int .i64 c.hi):=fun U hU=>(hU.cell (p:=⟨w.heap.size,_,none⟩) a3).trans (a1 3)
    clear q0 q1 q2 q3 q4 q5 q6 q7 q8 q9 a1 a2
    go_upto_region 7 with fail
    go_cut [13,14,15] (fun s13 s14 s15 wx=>∃B5 sA sc pA pc,s13=.pointer (some ⟨B5,0,none⟩)∧s14=.int .i64 0∧s15=.int .i64 (p:Nat)∧wx.heap[B5]?=some (.cells #[.slice sA y.smp.length sc,.slice pA y.past.length pc,.int .i64 y.pol.mn,.int .i64 y.pol.mx,.int .i64 y.pol.tg,.int .i64 y.pol.tol,.int .i64 y.pol.win,.int .i64 y.pol.hold,.bool y.ruled,.int .i64 (y.ver:Nat)] 48 (0,0))∧LoadIn (fun b=>P b∧(b<w.heap.size∨wr.heap.size≤b)) wx ⟨x.key,sA,sc,pA,pc,y⟩∧jB wr wx)
    case first =>
     have hS00:jB wr wr:=jR;have hS0:jB wr wr.drew:=hS00.drew
     go_region_held3 (fun U=>jB wr U)
       (first
         | with_reducible exact hS0
         | with_reducible exact HB5.out
         | with_reducible exact balloc HB5.out _
         | with_reducible exact Below.drew (balloc hS00 _)
         | with_reducible exact balloc hS0 _
         | (iterate 10 (with_reducible refine Below.setCell ?_ (by exact Nat.le_refl _) _)
            with_reducible exact HB5.out))
       (first
       | (go_at_call 181
          refine calls_named ?_;intro W2 hW2;have hz:W2.heap[wr.heap.size]?=some (.cells #[.slice none 0 0,.slice none 0 0,.int .i64 0,.int .i64 0,.int .i64 0,.int .i64 0,.int .i64 0,.int .i64 0,.bool false,.int .i64 0] 48 (0,0)):=by
           first
            | (with_reducible refine new_at hW2 ?_
               rfl)
            | (with_reducible refine new_atd hW2 ?_
               rfl)
          subst hW2;refine (HR.out _ ‹jB wr _›).mono ?_;rintro e w5 ⟨sA,sc,pA,pc,he,hy,hbk⟩;have he':e=.returned (.tuple #[.agg #[.slice sA y.smp.length sc,.slice pA y.past.length pc,.int .i64 y.pol.mn,.int .i64 y.pol.mx,.int .i64 y.pol.tg,.int .i64 y.pol.tol,.int .i64 y.pol.win,.int .i64 y.pol.hold,.bool y.ruled,.int .i64 (y.ver:Nat)],.int .i64 0,.int .i64 (p:Nat)]):=he;clear he;subst he';have hb5:jB wr w5:=bthen ‹jB wr _› hbk
          have HB5:=jH hb5;have HY:=jH hy;obtain ⟨z1,z2,z3,z4⟩:=box_at hbk hz;have HZ5:=jH (And.intro z4 (jL hz));clear hz z4;clear hb5 hy)
       | (go_at_call 181
          refine calls_named ?_;intro W2 hW2;subst hW2;refine (HR.out _ ‹jB wr _›).mono ?_;rintro e w5 ⟨sA,sc,pA,pc,he,hy,hbk⟩;have he':e=.returned (.tuple #[.agg #[.slice sA y.smp.length sc,.slice pA y.past.length pc,.int .i64 y.pol.mn,.int .i64 y.pol.mx,.int .i64 y.pol.tg,.int .i64 y.pol.tol,.int .i64 y.pol.win,.int .i64 y.pol.hold,.bool y.ruled,.int .i64 (y.ver:Nat)],.int .i64 0,.int .i64 (p:Nat)]):=he
          clear he;subst he';have hb5:jB wr w5:=bthen ‹jB wr _› hbk;have HB5:=jH hb5;have HY:=jH hy;clear hb5 hy))
     all_goals
       go_wp2_with fail
       go_meet
       refine ⟨_,sA,sc,pA,pc,rfl,rfl,rfl,?_⟩;have hyy:LoadIn _ w5 ⟨x.key,sA,sc,pA,pc,y⟩:=HY.out
       first
        | (have hz9:=HZ5.out
           exact pack10 hz9.1 hyy (fun b hb'=>⟨⟨hb'.1,hb'.2.imp id (fun h=>by have:=hz9.2;simp at h;omega)⟩,by have:=hz9.2;have:=hb'.2;omega⟩) HB5.out (Nat.le_refl _) _ _ _ _ _ _ _ _ _ _)
        | exact packA hyy (fun b hb'=>⟨hb'.1,hb'.2.imp id (fun h=>h)⟩) HB5.out HB5.out.size
    case rest =>
     obtain ⟨B5,sA,sc,pA,pc,rfl,rfl,rfl,h5,hl5,hb5⟩:=hcut;obtain ⟨d1,d2,d3⟩:=box_cells jR h5;have hwG:IntKind.i64.wrap ((G:Int)+(p:Nat))=((G+p:Nat):Int):=by rw [IntKind.wrap_i64];omega
     have hwM:IntKind.i64.wrap ((M:Int)+1)=((M+1:Nat):Int):=by rw [IntKind.wrap_i64];omega
     have HB5:=jH hb5;have hl6:LoadIn (fun b=>P b∧(Value.slice A9 out.length c9).ownBlock≠some b) wc ⟨x.key,sA,sc,pA,pc,y⟩:=hl5.imp (fun b hb'=>⟨hb'.1,fun e=>by
      have h1:=HO.out.lt e;have h2:=HB0.out.size
      rcases hb'.2 with h|h <;> omega⟩)
     have hbb5:=bthen HBB.out hb5;have c0:wc.cell? ⟨bb,o+k * 12,none⟩=some (.int .u64 x.key.1):=(hbb5.cell (p:=⟨bb,_,none⟩) hbw).trans (HC12.out 0 _ rfl);have c1:wc.cell? ⟨bb,o+k * 12+1,none⟩=some (.int .u64 x.key.2):=(hbb5.cell (p:=⟨bb,_,none⟩) hbw).trans (HC12.out 1 _ rfl);have hbw5:bb<wc.heap.size:=Nat.lt_of_lt_of_le hbw hbb5.size;clear hbb5 h5 hl5 hb5 rq0 rq1 rq2 rq3 rq4 rq5 rq6 rq7 rq8 rq9 rc0 rc1 rc2 rc3
     go_wp2_with fail
     go_region_law ((
       refine step_appendL eIt (by rfl) (.tmp 36) (.tmp 44) (by rfl) W.heap.size out [⟨x.key,sA,sc,pA,pc,y⟩] (.slice A9 out.length c9) _ (by rfl) (by rfl) (HO.out.below (bthen HB5.out (by repeat (first|exact jR|refine balloc ?_ _|refine Below.drew ?_|refine below_drewN ?_ _)))) (RowIn.lit (n:=12) (f:=itC) _ ⟨x.key,sA,sc,pA,pc,y⟩ _ _ _ (by first|rfl|simp) rfl) (by have:=HOL.out;simp;omega) (by have:=HB.out.size;have:=HB5.out.size;simp;omega) ?_
       intro out4 A4 c4 w4 hout hown4 hg4 hblk4;have hb4:jB W w4:=(bthen HB.out (bthen HB5.out (by repeat (first|exact jR|refine balloc ?_ _|refine Below.drew ?_|refine below_drewN ?_ _)))).trans (grown_own hg4 HO.out (by have:=HB.out.size;have:=HB5.out.size;simp;omega));have hL4:=load_grown (v:=.slice A9 out.length c9) (v':=.slice A4 out4.length c4) hl6 (by repeat (first|exact jR|refine balloc ?_ _|refine Below.drew ?_|refine below_drewN ?_ _)) hg4 hblk4
       have hLO:=fun (z:It) (hz:z∈out)=>load_grown (v:=.slice A9 out.length c9) (v':=.slice A4 out4.length c4) ((HLD.out z hz).below HB5.out) (by repeat (first|exact jR|refine balloc ?_ _|refine Below.drew ?_|refine below_drewN ?_ _)) hg4 hblk4
       have HL4:=jH hL4;have HLO:=jH hLO;have HOUT:=jH hout;have HOWN:=jH hown4;have HB4:=jH hb4;clear hout hown4 hg4 hblk4 hb4 hL4 hLO))
     all_goals
       rcases Nat.eq_zero_or_pos p with hp0|hp0
       · have hz:¬(0:Int)<(p:Nat):=by omega
         go_wp2
         go_roundg (l.length - (k+1))
         case measure=>omega
         case rel =>
          refine ⟨k+1,out4,hlt,Nat.le_refl _,by go_num,by rw [HGS.out,hp0];rfl,by rw [HMS.out,if_neg (by omega),Nat.add_zero],HOWN.out,fun z hz=>?_,?_,HB4.out⟩
          · rw [HOUT.out] at hz
            rcases List.mem_append.1 hz with hz|hz
            · exact HLO.out z hz
            · rw [List.mem_singleton.1 hz]
              exact HL4.out
          · rw [HOUT.out,List.map_append,HAB.out,HTK.out,List.map_append]
            simp only [List.map_cons,List.map_nil,absI,HYE.out]
       · have hz:(0:Int)<(p:Nat):=by omega
         go_wp2
         go_roundg (l.length - (k+1))
         case measure=>omega
         case rel =>
          refine ⟨k+1,out4,hlt,Nat.le_refl _,by go_num,by rw [HGS.out,Int.natCast_add],by rw [HMS.out,if_pos hp0,Int.natCast_add];rfl,HOWN.out,fun z hz=>?_,?_,HB4.out⟩
          · rw [HOUT.out] at hz
            rcases List.mem_append.1 hz with hz|hz
            · exact HLO.out z hz
            · rw [List.mem_singleton.1 hz]
              exact HL4.out
          · rw [HOUT.out,List.map_append,HAB.out,HTK.out,List.map_append]
            simp only [List.map_cons,List.map_nil,absI,HYE.out]
  · obtain rfl:k=l.length:=by omega
    rw [List.take_length] at HAB ⊢;have HF:=jH (show RTrimSays P w l cut (.returned (.tuple #[.slice A9 out.length c9,.int .i64 (goneI l cut:Nat),.int .i64 (manyI l cut:Nat)])) wr from ⟨out,A9,c9,rfl,⟨(RowG.own eIt HO.out).imp (fun b hb'=>HP.out b (Nat.le_trans HB0.out.size hb')),fun z hz=>(HLD.out z hz).imp (fun b hb'=>hb'.1)⟩,HAB.out,bthen HB0.out HB.out⟩);go_wp2
    exact bodyPost_ret (v:=.tuple #[.slice A9 out.length c9,.int .i64 (goneI l cut:Nat),.int .i64 (manyI l cut:Nat)]) (by simp [results,Tryz.results140,go_sem]) rfl HF.out
end
section
open Go.RowKit Go.Lib
abbrev Itm:=Ky × Nd
def atP (l:List Itm) (k:Ky):Nat:=(l.takeWhile (fun x=>ltK x.1 k)).length
def hasP (l:List Itm) (k:Ky):Bool:=match l[atP l k]? with
 | none=>false
 | some x=>decide (x.1=k)
def getP (l:List Itm) (k:Ky):Nd:=match l[atP l k]? with
 | none=>nd0
 | some x=>if x.1=k then x.2 else nd0
def outP (l:List Itm) (k:Ky) (y:Nd):List Itm:=l.take (atP l k)++[(k,y)]++l.drop (if hasP l k=true then atP l k+1 else atP l k)
theorem takeWhile_map_len {α β:Type} (f:α→β) (p:β→Bool):∀l:List α,((l.map f).takeWhile p).length=(l.takeWhile (fun x=>p (f x))).length
  | []=>rfl
  | a::l=>by
    rw [List.map_cons,List.takeWhile_cons,List.takeWhile_cons]
    cases p (f a)
    · rfl
    · simp [takeWhile_map_len f p l]
theorem atP_abs (l:List It) (k:Ky):atP (l.map absI) k=atI l k:=takeWhile_map_len absI _ l
theorem hasP_abs (l:List It) (k:Ky):hasP (l.map absI) k=hasI l k:=by
 unfold hasP hasI;rw [atP_abs]
 by_cases h:atI l k<l.length
 · rw [dif_pos h,List.getElem?_map,List.getElem?_eq_getElem h]
   rfl
 · rw [dif_neg h,List.getElem?_map,List.getElem?_eq_none (by omega)]
   rfl
theorem getP_abs (l:List It) (k:Ky):getP (l.map absI) k=(getL l k).nd:=by
 unfold getP getL;rw [atP_abs]
 by_cases h:atI l k<l.length
 · rw [dif_pos h,List.getElem?_map,List.getElem?_eq_getElem h]
   by_cases h2:l[atI l k].key=k
   · rw [if_pos h2]
     exact if_pos h2
   · rw [if_neg h2]
     exact if_neg h2
 · rw [dif_neg h,List.getElem?_map,List.getElem?_eq_none (by omega)]
   rfl
theorem outP_abs (l:List It) (k:Ky) (y:Nd):outP (l.map absI) k y=outI l k y:=by
 unfold outP outI;rw [atP_abs,hasP_abs]
def oneP (c:Cfg) (rs rh:Nat) (l:List Itm) (k:Ky) (a:Act17):List Itm × Int :=
 let r:=do17 rs rh (getP l k) a
 if r.2.1≠0 then (l,r.2.1)
 else if hasP l k=false∧a.kind=3 then (l,5)
 else if hasP l k=false∧c.lo≤(l.length:Nat) then (l,6)
 else (outP l k r.1,0)
theorem oneP_abs (c:Cfg) (rs rh:Nat) (l:List It) (k:Ky) (a:Act17):oneP c rs rh (l.map absI) k a=((one18 c rs rh l k a).1,(one18 c rs rh l k a).2.1):=by
 unfold oneP one18;rw [getP_abs,hasP_abs];simp only [outP_abs,List.length_map]
 split
 · rfl
 · split
   · rfl
   · split
     · rfl
     · rfl
structure RepD where
 err:Int
 ep:Int
 hd:Int
 st:StD
 adv:Adv
def repC (r:RepD):List Value:=[.int .i64 r.err,.int .i64 r.ep,.int .i64 r.hd,.int .i64 r.st.cnt,.int .i64 r.st.sum,.int .i64 r.st.least,.int .i64 r.st.most,.int .i64 r.st.mean,.int .i64 r.adv.tick,.int .i64 r.adv.load,.int .i64 r.adv.want,.int .i64 r.adv.repl,.int .i64 r.adv.why]
def repV (r:RepD):Value:=.agg (repC r).toArray
def repF (e:Int):RepD:=⟨e,0,0,st0,adv0⟩
structure CutD where
 ep:Int
 items:List Itm
 freed:Bool
structure Wd where
 st:List (List Itm)
 cuts:List CutD
 ep:Int
 over:Bool
def newW (n:Nat):Wd:=⟨List.replicate n [],[],0,false⟩
def keyK (s:ByteArray):Ky:=if idS s=true then (hiN s.data.toList,loN s.data.toList) else (0,0)
theorem keyK_ok (s:ByteArray):(keyK s).ok:=by
 unfold keyK
 split
 · have h1:=hiN_lt s.data.toList
   have h2:=loN_lt s.data.toList;exact ⟨by show hiN _<_;omega,by show loN _<_;omega⟩
 · exact ⟨by decide,by decide⟩
def findIt (l:List Itm) (k:Ky):Option Nd:=(l.find? fun p=>decide (p.1=k)).map (·.2)
def allW (w:Wd):List Itm:=w.st.flatten
def loadW (w:Wd) (id:ByteArray):Option Nd:=findIt (allW w) (keyK id)
def atW (c:Cfg) (id:ByteArray):Nat:=(routeI (keyK id).1 (keyK id).2 c.st).toNat
def oneW (c:Cfg) (rs rh:Nat) (w:Wd) (id:ByteArray) (a:Act17):Wd × Int :=
 ({ w with st:=w.st.set (atW c id) (oneP c rs rh (w.st.getD (atW c id) []) (keyK id) a).1 },(oneP c rs rh (w.st.getD (atW c id) []) (keyK id) a).2)
def trimW (w:Wd) (cut:Int):Wd:={ w with st:=w.st.map fun l=>l.map fun p=>(p.1,trimR cut p.2) }
def tabW (w:Wd):List Int:=w.cuts.map fun c=>if c.freed=true then -1 else c.ep
def liveT (t:List Int):Nat:=t.countP fun n=>decide (0≤n)
def findT (t:List Int) (n:Int):Int:=if n<1∨(t.length:Nat)<n then 5 else match t[n.toNat - 1]? with
 | none=>5
 | some e=>if e<0 then 8 else 0
def snapW (w:Wd):Wd × RepD :=
 if 64≤liveT (tabW w) then (w,repF 6)
 else ({ w with ep:=w.ep+1,cuts:=w.cuts++[⟨w.ep+1,allW w,false⟩] },⟨0,w.ep+1,((w.cuts.length+1:Nat):Int),st0,adv0⟩)
def freeW (w:Wd) (n:Int):Wd × RepD :=
 if findT (tabW w) n≠0 then (w,repF (findT (tabW w) n))
 else ({ w with cuts:=w.cuts.set (n.toNat - 1) ⟨0,[],true⟩ },repF 0)
def lookW (w:Wd) (x:CallD):RepD :=
 if findT (tabW w) x.handle≠0 then repF (findT (tabW w) x.handle)
 else match w.cuts[x.handle.toNat - 1]? with
  | none=>repF 5
  | some c=>match findIt c.items (keyK x.id) with
    | none=>repF 5
    | some y=>⟨0,c.ep,0,statW y.smp x.tick x.val,adv0⟩
def readW (w:Wd) (id:ByteArray):RepD:=match loadW w id with
 | none=>repF 5
 | some y=>match y.past.getLast? with
   | none=>repF 0
   | some a=>⟨0,0,0,st0,a⟩
def doW (c:Cfg) (rs rh:Nat) (w:Wd) (x:CallD):Wd × RepD :=
 if chkC x≠0 then (w,repF (chkC x))
 else if x.kind=1 then ((oneW c rs rh w x.id ⟨0,(x.tick,x.val),pol0,adv0⟩).1,repF (oneW c rs rh w x.id ⟨0,(x.tick,x.val),pol0,adv0⟩).2)
 else if x.kind=2 then (trimW w x.tick,repF 0)
 else if x.kind=3 then snapW w
 else if x.kind=4 then freeW w x.handle
 else if x.kind=5 then (w,lookW w x)
 else if x.kind=6 then ((oneW c rs rh w x.id ⟨2,(0,0),x.pol,adv0⟩).1,repF (oneW c rs rh w x.id ⟨2,(0,0),x.pol,adv0⟩).2)
 else if x.kind=7 then (w,readW w x.id)
 else if w.over=true then (w,repF 9)
 else ({ w with over:=true },repF 0)
def planW (w:Wd) (id:ByteArray):Adv × Int:=match loadW w id with
 | none=>(adv0,5)
 | some y=>if y.ruled=true then decI y.pol y.smp y.past else (adv0,5)
def noteW (c:Cfg) (rs rh:Nat) (w:Wd) (id:ByteArray) (a:Adv):Wd × Bool:=match loadW w id with
 | none=>(w,false)
 | some _=>((oneW c rs rh w id ⟨3,(0,0),pol0,a⟩).1,true)
end
section
open Go.RowKit Go.Lib
structure SrH where
 A:Option Addr
 c:Nat
 l:List It
def SrH.v (s:SrH):Value:=.slice s.A s.l.length s.c
def srC (s:SrH):List Value:=[.slice s.A s.l.length s.c]
theorem eSr:EltOf 29 174 1 24 (.slice none 0 0) srC :=
 ⟨by kernel_rfl,by kernel_rfl,rfl,by decide,by decide,fun _=>rfl,fun x u hu=>by
  simp only [srC,List.mem_cons,List.not_mem_nil,or_false] at hu
  subst hu
  rfl⟩
structure CuH where
 ep:Int
 A:Option Addr
 c:Nat
 l:List It
 fr:Bool
def cuC (s:CuH):List Value:=[.int .i64 s.ep,.slice s.A s.l.length s.c,.bool s.fr]
theorem eCu:EltOf 30 226 3 40 (.agg #[.int .i64 0,.slice none 0 0,.bool false]) cuC :=
 ⟨by kernel_rfl,by kernel_rfl,rfl,by decide,by decide,fun _=>rfl,fun x u hu=>by
  simp only [cuC,List.mem_cons,List.not_mem_nil,or_false] at hu
  rcases hu with rfl|rfl|rfl <;> rfl⟩
structure WdH where
 sA:Option Addr
 sc:Nat
 st:List SrH
 cA:Option Addr
 cc:Nat
 cuts:List CuH
 ep:Int
 over:Bool
def wdC (c:Cfg) (x:WdH):List Value:=[.int .i64 c.st,.int .i64 c.sa,.int .i64 c.lo,.int .i64 c.hi,.slice x.sA x.st.length x.sc,.slice x.cA x.cuts.length x.cc,.int .i64 x.ep,.bool x.over]
structure WdIn (P:Nat→Prop) (w:World) (x:WdH):Prop where
 sr:RowG P 1 srC w (.slice x.sA x.st.length x.sc) x.st
 it:∀s∈x.st,ItemsIn P w (.slice s.A s.l.length s.c) s.l
 cr:RowG P 3 cuC w (.slice x.cA x.cuts.length x.cc) x.cuts
 ct:∀s∈x.cuts,ItemsIn P w (.slice s.A s.l.length s.c) s.l
theorem WdIn.below {P:Nat→Prop} {w w':World} {x:WdH} (h:WdIn P w x) (hb:jB w w'):WdIn P w' x :=
 ⟨h.sr.below hb,fun s hs=>(h.it s hs).below hb,h.cr.below hb,fun s hs=>(h.ct s hs).below hb⟩
theorem WdIn.imp {P Q:Nat→Prop} {w:World} {x:WdH} (h:WdIn P w x) (hi:∀b,P b→Q b):WdIn Q w x :=
 ⟨h.sr.imp hi,fun s hs=>(h.it s hs).imp hi,h.cr.imp hi,fun s hs=>(h.ct s hs).imp hi⟩
def absC (s:CuH):CutD:=⟨s.ep,s.l.map absI,s.fr⟩
def absW (x:WdH):Wd:=⟨x.st.map fun s=>s.l.map absI,x.cuts.map absC,x.ep,x.over⟩
theorem put21_any (v:Value) (l:List SrH) (at_:Nat) (x:SrH) (w:World) (hv:RowIn 1 srC w v l) (hl:l.length≤1000) (ha:at_≤1000000) :
 Calls Tryz.prog 138 #[v,.int .i64 at_,.slice x.A x.l.length x.c] w (RSays 1 srC w (l.set at_ x)):=by
 obtain ⟨A,c,rfl⟩:=hv.form;have HV:=jH hv;have HS:=jH (show ∀k (hk:k<l.length),(l.set at_ x).take (k+1)=(l.set at_ x).take k++[if at_=k then x else l[k]] from fun k hk=>by
  rw [List.take_succ_eq_append_getElem (by simpa using hk),List.getElem_set])
 have HN:=jH (show (l.set at_ x).take l.length=l.set at_ x by rw [List.take_of_length_le (by simp)]);have HL:=jH (show (l.set at_ x).length=l.length by simp);generalize l.set at_ x=m at HS HN HL ⊢;clear hv
 go_enter Tryz.func138,Tryz.ntmps138
 go_wp2
 go_loopg [7,8] l.length (fun g s7 s8 wr=>∃k:Nat,k≤l.length∧l.length - k≤g∧s8=.int .i64 k∧OwnL srC 174 1 w.heap.size wr s7 (m.take k)∧jB w wr)
 case atStart=>exact ⟨0,Nat.zero_le _,Nat.le_refl _,rfl,by rw [List.take_zero];exact OwnL.nil _ _,jR⟩
 case round =>
  obtain ⟨k,hk,hg,rfl,hown,hb⟩:=hrel;obtain ⟨A7,c7,rfl⟩:=hown.form;have HO:=jH hown;clear hown
  by_cases hlt:k<l.length
  · obtain ⟨b,o,rfl,hbw,hc⟩:=HV.out.at_ hlt
    have c1:wr.cell? ⟨b,o+k,none⟩=some (.slice l[k].A l[k].l.length l[k].c):=by
     have:=(hb.cell (p:=⟨b,o+k * 1+0,none⟩) hbw).trans (hc 0 _ rfl)
     simpa using this
    have HT:=jH (HS.out k hlt);clear hc;generalize l[k]=y at c1 HT;have z1:(k:Int)<(l.length:Int):=by omega
    by_cases e:at_=k
    · have HT2:=jH (show m.take (k+1)=m.take k++[x] by rw [HT.out,if_pos e])
      subst e
      go_wp2_with (at_builtin;refine wpList_appendL eSr (by rfl) (by rfl) w.heap.size (m.take at_) [x] _ _ (by rfl) (by rfl) (HO.out.below (balloc jR _)) (RowIn.lit wr x _ _ _ rfl rfl) (by simp;omega) (by have:=hb.size;simp;omega) ?_;intro out2 A2 c2' w2 hout2 hown2 hg2 _
                   have hb2:jB w w2:=(balloc hb _).trans (grown_own hg2 HO.out (by have:=hb.size;simp;omega));have HW2:=jH hown2;have HO2:=jH hout2;clear hown2 hout2 hg2)
      go_roundg (l.length - (at_+1))
      case measure=>omega
      case rel=>exact ⟨at_+1,hlt,Nat.le_refl _,by go_num,by rw [HT2.out,←HO2.out];exact HW2.out,hb2⟩
    · have HT2:=jH (show m.take (k+1)=m.take k++[y] by rw [HT.out,if_neg e])
      have q1:((k:Int) == (at_:Int))=false:=by simp;omega
      have q2:¬k=at_:=fun h=>e h.symm
      have q3:(0:Int)≤(k:Int):=by omega
      clear e
      go_wp2_with (at_builtin;refine wpList_appendL eSr (by rfl) (by rfl) w.heap.size (m.take k) [y] _ _ (by rfl) (by rfl) (HO.out.below (balloc jR _)) (RowIn.lit wr y _ _ _ rfl rfl) (by simp;omega) (by have:=hb.size;simp;omega) ?_;intro out2 A2 c2' w2 hout2 hown2 hg2 _
                   have hb2:jB w w2:=(balloc hb _).trans (grown_own hg2 HO.out (by have:=hb.size;simp;omega));have HW2:=jH hown2;have HO2:=jH hout2;clear hown2 hout2 hg2)
      go_roundg (l.length - (k+1))
      case measure=>omega
      case rel=>exact ⟨k+1,hlt,Nat.le_refl _,by go_num,by rw [HT2.out,←HO2.out];exact HW2.out,hb2⟩
  · obtain rfl:k=l.length:=by omega
    rw [HN.out] at HO;have z1:¬(l.length:Int)<(l.length:Int):=by omega
    have HF:=jH (show RSays 1 srC w m (.returned (.slice A7 m.length c7)) wr from ⟨_,_,rfl,RowG.own eSr HO.out,hb⟩);rw [HL.out] at HF;go_wp2
    go_ret
    first
     | exact HF.out
     | (have h9:=HF.out
        simpa [HN.out,HL.out] using h9)
def allX (x:WdH):List It:=(x.st.map (·.l)).flatten
theorem allX_abs (x:WdH):(allX x).map absI=allW (absW x):=by
 unfold allX allW absW;simp only [List.map_flatten,List.map_map]
 rfl
def AllSays (P:Nat→Prop) (w:World) (l:List It) (e:Ending) (w':World):Prop :=
 ∃A c,e=.returned (.slice A l.length c)∧ItemsIn P w' (.slice A l.length c) l∧jB w w'
end
end Go.Proofs.YtkcdhaallnhhmaaGreat
