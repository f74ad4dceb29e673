/- Part 29 of the proof: FlH, FlI, W21N. -/
import Derived.Maps.RangeWalk
import Derived.Test.YtkcdhaallnhhmaaGreatL24
import Derived.Test.YtkcdhaallnhhmaaGreatL26
import Derived.Test.YtkcdhaallnhhmaaGreatL28
namespace Go.Proofs.YtkcdhaallnhhmaaGreat
set_option linter.unusedSimpArgs false
set_option linter.unusedVariables false
set_option linter.unusedSectionVars false
set_option maxRecDepth 100000
set_option maxHeartbeats 16000000
section
open Go.RowKit Go.Lib
theorem sum_addN {α:Type} (l:List α) (f g:α→Nat):(l.map fun i=>f i+g i).sum=(l.map f).sum+(l.map g).sum:=by
 induction l with
 | nil=>rfl
 | cons a l ih=>simp only [List.map_cons,List.sum_cons,ih];omega
theorem sum_zeroN {α:Type} (l:List α):(l.map fun _=>0).sum=0:=by
 induction l with
 | nil=>rfl
 | cons a l ih=>simp only [List.map_cons,List.sum_cons,ih]
theorem ind_sum (j:Nat):∀N,((List.range N).map fun i=>if j=i then 1 else 0).sum=if j<N then 1 else 0
  | 0=>rfl
  | N+1=>by
    rw [List.range_succ,List.map_append,List.sum_append,ind_sum j N];simp only [List.map_cons,List.map_nil,List.sum_cons,List.sum_nil,Nat.add_zero]
    by_cases h1:j<N
    · rw [if_pos h1,if_neg (by omega),if_pos (by omega)]
    · by_cases h2:j=N
      · rw [if_neg h1,if_pos h2,if_pos (by omega)]
      · rw [if_neg h1,if_neg h2,if_neg (by omega)]
theorem count_sum {α:Type} (f:α→Int) (N:Nat):∀ks:List α,(∀k∈ks,0≤f k∧f k<(N:Int))→((List.range N).map fun i:Nat=>ks.countP fun k=>decide (f k=(i:Int))).sum=ks.length
  | [],_=>by simp only [List.countP_nil,List.length_nil];exact sum_zeroN _
  | a::ks,h=>by
    have ih:=count_sum f N ks (fun k hk=>h k (List.mem_cons_of_mem _ hk));have ha:=h a (List.mem_cons_self ..);have e:(fun i:Nat=>(a::ks).countP fun k=>decide (f k=(i:Int)))=fun i:Nat=>(ks.countP fun k=>decide (f k=(i:Int)))+if (f a).toNat=i then 1 else 0:=by
     funext i
     rw [List.countP_cons]
     congr 1
     by_cases h1:f a=(i:Int)
     · rw [if_pos (by simpa using h1),if_pos (by omega)]
     · rw [if_neg (by simpa using h1),if_neg (by omega)]
    rw [e,sum_addN,ih,ind_sum,if_pos (by omega),List.length_cons]
theorem FlTells.len {c:Cfg} {es:List (SK × It)} {wd:Wd} (h:FlTells c es wd) (hst:okSt c.st=true):es.length=(allW wd).length:=by
 have h1:=count_sum (fun s:SK=>routeI (keyK s.1).1 (keyK s.1).2 c.st) wd.st.length (es.map (·.1)) (fun k _=>by
  have:=route_lt (hi:=(keyK k.1).1) (lo:=(keyK k.1).2) hst;have h2:=h.lst;omega)
 rw [List.length_map] at h1;rw [←h1];unfold allW;rw [List.length_flatten]
 congr 1
 apply List.ext_getElem?
 intro i;rw [List.getElem?_map,List.getElem?_map]
 by_cases hi:i<wd.st.length
 · rw [List.getElem?_eq_getElem (l:=wd.st) hi,List.getElem?_range hi]
   have:=h.cnt i _ (List.getElem?_eq_getElem hi);simp only [Option.map_some]
   rw [this]
 · rw [List.getElem?_eq_none (l:=wd.st) (by omega),List.getElem?_eq_none (by simp;omega)]
   rfl
section
variable {P:Program} {ops:Array Oper} {rest:List Oper} {o:Oper} {a:Act} {w:World} {Q:Exit→Act→World→Prop}
variable {α β:Type} [DecidableEq α] {K:α→Value} {V:β→Value} {b r:Nat} {es pre:List (α × β)} {cnt:Nat}
theorem wpList_rangeM (hg:o.guard=none) (m:Operand) (t:TypeId) (hop:o.op=Op.range t m) (k e:TypeId) (ht:P.underlying t=some (.map k e)) (hm:a.eval m=.map (some b)) (hown:MapIn K V w b es)
    (hK:∀w',RangeIn K V w' b w.heap.size es [] es.length→w.grownBy w' none→w'.heap.size=w.heap.size+1→wpList P ops Q rest (a.put o.dst (.pointer (some ⟨w.heap.size,0,none⟩))) w') :
    wpList P ops Q (o::rest) a w:=by
  refine wpList_plain hg fun K' hK'=>?_
  obtain ⟨w',hrun,r1,r2,r3⟩:=MapIn.range hown ht;unfold Oper.wp;simp [execOp,hop,hm,hrun,Result.andThen]
  exact hK' _ _ (hK w' r1 r2 r3)
theorem wpList_nextM (hg:o.guard=none) (it:Operand) (hop:o.op=Op.next it false) (inj:∀x y,K x=K y→x=y) (hit:a.eval it=.pointer (some ⟨r,0,none⟩)) (h:RangeIn K V w b r es pre cnt)
    (hDone:cnt=0→(pre.map (·.1)).Perm (es.map (·.1))→wpList P ops Q rest (a.put o.dst (.tuple #[.bool false])) w)
    (hMore:∀(p:α × β) (w':World) (cnt':Nat),p∈es→p.1∉pre.map (·.1)→RangeIn K V w' b r es (pre++[p]) cnt'→cnt'<cnt→w.grownBy w' (some r)→w'.heap.size=w.heap.size →
      (Instr.entry (.pointer (some ⟨r,0,none⟩))).run P w'=.ok (.tuple #[K p.1,V p.2]) w'→wpList P ops Q rest (a.put o.dst (.tuple #[.bool true,K p.1,V p.2])) w') :
    wpList P ops Q (o::rest) a w:=by
  refine wpList_plain hg fun K' hK'=>?_
  unfold Oper.wp
  rcases h.next (P:=P) inj o.type with ⟨h0,hl,hrun⟩|⟨p,w',cnt',h1,h2,hrun,hrg,hlt,hgr,hsz,hen⟩
  · simp [execOp,hop,hit,hrun,Result.andThen]
    exact hK' _ _ (hDone h0 hl)
  · simp [execOp,hop,hit,hrun,Result.andThen]
    exact hK' _ _ (hMore p w' cnt' h1 h2 hrg hlt hgr hsz hen)
end
theorem flFull_any {P:Nat→Prop} {w:World} {M:Nat} {c:Cfg} {rs rh n:Nat} {wd:Wd} {d:FlatD} (s:SK) (h:FlatAt P w M c rs rh n wd d) (hst:okSt c.st=true) (hlen:d.es.length≤1000000) :
 Calls Tryz.prog 114 #[.pointer (some ⟨M,0,none⟩),.string s.1] w (jP w (.bool (fullF c d.es s))):=by
 have hlk:=fun (W:World) (hW:jB w W)=>fl_look h.map s true (hW.block d.L h.map.lt)
 have CH:=jH (fun (W:World) (hW:jB w W) (t:SK)=>show Calls Tryz.prog 163 #[.pointer (some ⟨M,0,none⟩),.string t.1] W (jP W (.int .i64 (routeI (keyK t.1).1 (keyK t.1).2 c.st))) from
  flHome_any M c t.1 W ((hW.block M h.lt).trans h.cell) rfl hst t.2)
 have HC:=jH h.cell;have HM:=jH (fun (W:World) (hW:jB w W)=>h.map.below hW);have HL:=jH hlen;have rm0:∀U,jB w U→U.cell? ⟨M,4,none⟩=some (.map (some d.L)):=fun U hU=>(box_cells hU HC.out).1 4
 have rm1:∀U,jB w U→U.cell? ⟨M,2,none⟩=some (.int .i64 c.lo):=fun U hU=>(box_cells hU HC.out).1 2
 have HR0:=jH rm0;have HR1:=jH rm1;obtain ⟨x,hx⟩:∃x,x=(findM d.es s).getD it00:=⟨_,rfl⟩;rw [←hx] at hlk;unfold ldV ldC at hlk;simp only [↓reduceIte] at hlk
 unfold fullF;obtain ⟨q,hq⟩:∃q:SK→Bool,q=fun t=>decide (routeI (keyK t.1).1 (keyK t.1).2 c.st=routeI (keyK s.1).1 (keyK s.1).2 c.st):=⟨_,rfl⟩
 rw [←hq];have HQ:=jH hq;clear hq;have HLK:=jH hlk;clear h hst hlen hlk hx rm0 rm1
 cases hh:hasM d.es s
 · rw [hh] at HLK
   clear hh;simp only [Bool.not_false,Bool.true_and]
   have q0:=HLK.out w jR;have q1:=HR0.out w jR
   go_enter Tryz.func114,Tryz.ntmps114
   go_upto_region 5 with fail
   refine name_world ?_;intro W hW;have HB:=jH (show jB w W by rw [hW];exact balloc jR _);clear hW q0 q1;have q1:=HR0.out W HB.out;have hmp:=HM.out W HB.out
   go_wp2_with (first
    | (at_range;refine wpList_rangeM rfl _ 94 rfl 9 50 Tryz.underlying94 rfl hmp ?_;intro w0 hrg0 hg0 hs0)
    | go_in)
   clear q1 hmp
   go_frame
   go_loopw [7,8] (fun s7 _ wr=>∃(cnt:Nat) (pre:List (SK × It)),RangeIn skV ldV wr d.L W.heap.size d.es pre cnt∧pre.length+cnt≤d.es.length∧∃m:Nat,s7=.int .i64 (m:Nat)∧Hid (m=(pre.map (·.1)).countP q)∧jB w wr)
     (fun _ _ wr=>wr.rangeLeft d.L W.heap.size)
   case atStart =>
    exact ⟨_,[],hrg0,by simp,0,rfl,jH rfl,bthen HB.out (grown_below hg0 (Nat.le_refl _) (fun r e=>by cases e))⟩
   case round =>
    obtain ⟨cnt,pre,hrg,hcs,m,rfl,HMC,hbr⟩:=hrel;have HBR:=jH hbr;clear hbr
    go_upto_region 9 with (first
     | (at_next;refine wpList_nextM rfl _ rfl keysSk.inj rfl hrg ?_ (fun p w2 cnt2 hx hnew hrg2 hlt hg2 hs2 hen=>?_)
        rotate_left
        obtain ⟨t,y⟩:=p;have HRG2:=jH hrg2;have HB2:=jH (HBR.out.trans (grown_below hg2 (by have:=HBR.out.size;have:=HB.out.size;omega) (fun r e=>by cases e;exact HB.out.size)));have HME:=jH (show w2.rangeLeft d.L W.heap.size<wr.rangeLeft d.L W.heap.size by rw [hrg2.left_eq,hrg.left_eq];exact hlt);have HCS:=jH (show (pre++[(t,y)]).length+cnt2≤d.es.length by have:=hcs;have:=hlt;rw [List.length_append,List.length_singleton];omega)
        have HCL:=jH (show m≤d.es.length by rw [HMC.out];exact Nat.le_trans List.countP_le_length (by rw [List.length_map];omega));have HCQ:=jH (show ((pre++[(t,y)]).map (·.1)).countP q=m+(if q t=true then 1 else 0) by
         rw [List.map_append,List.countP_append,List.map_cons,List.map_nil,List.countP_singleton,HMC.out])
        simp only [skV] at hen
        unfold ldV ldC at hen;clear hrg2 hg2 hlt hx hnew
        rotate_left)
     | (go_at_call 163
        first
         | (refine (CH.out w3 HB3.out s).mono ?_
            rintro e w4 ⟨rfl,hb4⟩;have HB4:=jH (bthen HB3.out hb4);have HK4:=jH (bthen HK3.out hb4);clear hb4)
         | (refine (CH.out w2 HB2.out t).mono ?_
            rintro e w3 ⟨rfl,hb3⟩;have HB3:=jH (bthen HB2.out hb3);have HK3:=jH hb3;clear hb3 hen))
     | go_in)
    · intro hc0 hp
      have e9:m=(d.es.map (·.1)).countP q:=HMC.out.trans (hp.countP_eq q);have q2:=HR1.out wr HBR.out;have HE9:=jH e9;clear hp e9 hrg hrg0 hg0;go_wp2
      go_ret
      exact ⟨by rw [HE9.out];rfl,HBR.out⟩
    · rename_i heq
      have hq1:q t=true:=by rw [HQ.out];exact decide_eq_true (by simpa using heq)
      have hw:wrap64 ((m:Int)+1)=((m+1:Nat):Int):=by have:=HCL.out;have:=HL.out;unfold wrap64;omega
      have hrg4:=HRG2.out.kept (HK4.out.block _ (MapIn.lt HRG2.out.map_)) (HK4.out.block _ HRG2.out.lt);have hcq:=HCQ.out;rw [if_pos hq1] at hcq;have HRG4:=jH hrg4;have HCQ4:=jH hcq;have HWR:=jH hw;clear hrg hrg4 hcq heq hq1 hrg0 hg0 hw;go_wp2
      exact ⟨⟨cnt2,pre++[(t,y)],HRG4.out,HCS.out,m+1,by rw [HWR.out],jH HCQ4.out.symm,HB4.out⟩,by rw [HRG4.out.left_eq,←HRG2.out.left_eq];exact HME.out⟩
    · rename_i heq
      have hq1:¬q t=true:=by rw [HQ.out];simpa using heq
      have hrg4:=HRG2.out.kept (HK4.out.block _ (MapIn.lt HRG2.out.map_)) (HK4.out.block _ HRG2.out.lt);have hcq:=HCQ.out;rw [if_neg hq1] at hcq;exact ⟨⟨cnt2,pre++[(t,y)],hrg4,HCS.out,m,rfl,jH hcq.symm,HB4.out⟩,by rw [hrg4.left_eq,←HRG2.out.left_eq];exact HME.out⟩
 · rw [hh] at HLK
   clear hh;simp only [Bool.not_true,Bool.false_and]
   have q0:=HLK.out w jR;have q1:=HR0.out w jR
   go_enter Tryz.func114,Tryz.ntmps114
   go_wp2_with fail
   go_ret
   exact ⟨rfl,balloc jR _⟩
end
section
open Go.RowKit Go.Lib
open Go.ChangeMaps (setBlock)
theorem updLater {w a b:World} {fp fp':List Nat} (h:Upd w a fp fp') (hb:Below w.heap.size a b) (hs:a.heap.size≤b.heap.size):Upd w b fp fp' :=
 ⟨hb.os.trans h.os,hb.tape.trans h.tape,hb.output.trans h.output,Nat.le_trans h.size hs,fun k hk hn=>(hb.block k hk).trans (h.block k hk hn),h.fresh⟩
theorem FW.avoidX {P:Nat→Prop} {w W:World} {M:Nat} {c:Cfg} {rs rh n X:Nat} {wd:Wd} {d:FlatD} (h:FW P w M c rs rh n wd d) (hX:w.heap.size≤X) (hb:jB w W):FW (fun b=>P b∧b≠X) W M c rs rh n wd d :=
 ⟨h.at_.keep hb.size (hb.block _ h.at_.lt) (hb.block _ h.at_.map.lt) (fun b hP hlt=>⟨hb.block b hlt,hP,by omega⟩) (fun b hb=>h.at_.off b hb.1),h.ok⟩
theorem FW.fin {P:Nat→Prop} {w W8 W9:World} {M:Nat} {c:Cfg} {rs rh n X:Nat} {wd:Wd} {d:FlatD} (h:FW (fun b=>P b∧b≠X) W8 M c rs rh n wd d) (hoff:∀b,P b→b≠M∧b≠d.L) (hu:Upd w W8 [M,d.L] [M,d.L]) (hX:w.heap.size≤X) (hM:M<w.heap.size) (hL:d.L<w.heap.size)
    (h2:∀k,k≠X→W9.heap[k]?=W8.heap[k]?) (h3:W9.heap.size=W8.heap.size) (h4:∀n,n≤X→Below n W8 W9):FW P W9 M c rs rh n wd d∧Upd w W9 [M,d.L] [M,d.L] :=
  ⟨⟨h.at_.keep (Nat.le_of_eq h3.symm) (h2 _ (by omega)) (h2 _ (by omega)) (fun b hb hlt=>⟨h2 b hb.2,hb.1⟩) hoff,h.ok⟩,updLater hu (h4 _ hX) (Nat.le_of_eq h3.symm)⟩
theorem FW.many {P:Nat→Prop} {w:World} {M:Nat} {c:Cfg} {rs rh n:Nat} {wd:Wd} {d:FlatD} (h:FW P w M c rs rh n wd d) (hc:CfgOk c rs rh):d.es.length≤1000000:=by
 have h1:=allW_len h.ok (okSt_bd _ hc.st).2;rw [h.at_.tells.len hc.st];omega
theorem FW.old {P:Nat→Prop} {w:World} {M:Nat} {c:Cfg} {rs rh n:Nat} {wd:Wd} {d:FlatD} (h:FW P w M c rs rh n wd d) (s:SK):LoadIn (fun b=>P b∧b<w.heap.size) w ((findM d.es s).getD it00):=by
 cases hf:findM d.es s with
 | none=>exact ⟨RowG.nil,RowG.nil⟩
 | some x =>
   have hm:=h.at_.rows _ (find_mem hf);exact ⟨hm.1.ltG,hm.2.ltG⟩
theorem it_nd (o:Option It):(o.getD it00).nd=(o.map (·.nd)).getD nd0:=by cases o <;> rfl
theorem boxesF (w:World) (a b:Obj):∀W,W=(w.alloc a).alloc b→Hid (jB w W)∧Hid (W.heap[w.heap.size]?=some a)∧Hid (W.heap[w.heap.size+1]?=some b):=fun W hW=>by
 rw [hW];exact ⟨jH (balloc (balloc jR _) _),jH (box_old _ _ _),jH (box_new _ _ _)⟩
theorem keepHF {w W w2:World} {a b:Nat} {o1 o2:Obj} (hb:jB W w2) (h:Hid (jB w W)) (h1:Hid (W.heap[a]?=some o1)) (h2:Hid (W.heap[b]?=some o2)):Hid (jB w w2)∧Hid (w2.heap[a]?=some o1)∧Hid (w2.heap[b]?=some o2) :=
 ⟨jH (bthen h.out hb),jH (jK hb h1.out),jH (jK hb h2.out)⟩
theorem flSet_bad (kind tick val handle:Int) (s:SK) (p:Pol) (M:Nat) (w:World) (hp:polB p=false) :
 Calls Tryz.prog 84 #[.pointer (some ⟨M,0,none⟩),callV ⟨kind,s.1,tick,val,handle,p⟩] w (jP w (repV (repF 7))):=by
 have CK:=jH (fun W=>policyCheck_any p W);have he:polE p=7:=by unfold polE;rw [if_neg (by rw [hp];simp)]
 rw [he] at CK;obtain ⟨p0,p1,p2,p3,p4,p5⟩:=p;unfold polV at CK;unfold callV;dsimp only at CK ⊢;clear hp he
 go_enter Tryz.func84,Tryz.ntmps84
 go_wp2_with (first
  | (go_at_call 124
     refine calls_named ?_;intro W1 hW1;obtain ⟨HB1,HX0,HX1⟩:=boxesF w _ _ W1 hW1;clear hW1;refine (CK.out W1).mono ?_;rintro e w2 ⟨rfl,hb2⟩;obtain ⟨HB2,HX02,HX9⟩:=keepHF hb2 HB1 HX0 HX1;obtain ⟨b1,b2,b3⟩:=box_cells jR HX02.out;obtain ⟨y1,y2,y3⟩:=box_cells jR HX9.out;clear hb2))
 refine post_named ?_;intro W9 hW9;have hW9':W9=stor w2 (w.heap.size+1) 0 (repC (repF 7)):=hW9;obtain ⟨t1,t2,t3,t4⟩:=stor_at HX9.out (repC (repF 7)) rfl W9 hW9';obtain ⟨a9,a8,a7⟩:=box_cells jR t1;clear hW9 hW9';exact bodyPost_ret (v:=repV (repF 7)) (by simp [results,Tryz.results84,go_sem,a9,repV,repC,repF,st0,adv0]) rfl ⟨rfl,HB2.out.trans (t4 _ (Nat.le_succ _))⟩
theorem flSet_full {P:Nat→Prop} {w:World} {M:Nat} {c:Cfg} {rs rh n:Nat} {wd:Wd} {d:FlatD} (kind tick val handle:Int) (s:SK) (p:Pol) (h:FW P w M c rs rh n wd d) (hc:CfgOk c rs rh) (hp:polB p=true) (hf:fullF c d.es s=true) :
 Calls Tryz.prog 84 #[.pointer (some ⟨M,0,none⟩),callV ⟨kind,s.1,tick,val,handle,p⟩] w (jP w (repV (repF 6))):=by
 have CK:=jH (fun W=>policyCheck_any p W);have he:polE p=0:=by unfold polE;rw [if_pos hp]
 rw [he] at CK;have CF:=jH (fun W (hW:jB w W)=>flFull_any s (h.at_.below hW) hc.st (h.many hc));rw [hf] at CF;obtain ⟨p0,p1,p2,p3,p4,p5⟩:=p;unfold polV at CK;unfold callV;dsimp only at CK ⊢;clear hp he h hc hf
 go_enter Tryz.func84,Tryz.ntmps84
 go_wp2_with (first
  | (go_at_call 124
     refine calls_named ?_;intro W1 hW1;obtain ⟨HB1,HX0,HX1⟩:=boxesF w _ _ W1 hW1;clear hW1;refine (CK.out W1).mono ?_;rintro e w2 ⟨rfl,hb2⟩;obtain ⟨HB2,HX02,HX9⟩:=keepHF hb2 HB1 HX0 HX1;obtain ⟨b1,b2,b3⟩:=box_cells jR HX02.out;obtain ⟨y1,y2,y3⟩:=box_cells jR HX9.out;clear hb2)
  | (go_at_call 114
     refine (CF.out w2 HB2.out).mono ?_;rintro e w3 ⟨rfl,hb3⟩;obtain ⟨HB3,HX03,HX93⟩:=keepHF hb3 HB2 HX02 HX9;clear hb3 b1 b2 b3 y1 y2 y3;obtain ⟨b1,b2,b3⟩:=box_cells jR HX03.out;obtain ⟨y1,y2,y3⟩:=box_cells jR HX93.out))
 refine post_named ?_;intro W9 hW9;have hW9':W9=stor w3 (w.heap.size+1) 0 (repC (repF 6)):=hW9;obtain ⟨t1,t2,t3,t4⟩:=stor_at HX93.out (repC (repF 6)) rfl W9 hW9';obtain ⟨a9,a8,a7⟩:=box_cells jR t1;clear hW9 hW9';exact bodyPost_ret (v:=repV (repF 6)) (by simp [results,Tryz.results84,go_sem,a9,repV,repC,repF,st0,adv0]) rfl ⟨rfl,HB3.out.trans (t4 _ (Nat.le_succ _))⟩
theorem flSet_ok {P:Nat→Prop} {w:World} {M:Nat} {c:Cfg} {rs rh n:Nat} {wd:Wd} {d:FlatD} (kind tick val handle:Int) (s:SK) (p:Pol) (h:FW P w M c rs rh n wd d) (hP:∀b,w.heap.size≤b→P b) (hc:CfgOk c rs rh) (hs:idS s.1=true) (hpo:p.ok) (hp:polB p=true) (hf:fullF c d.es s=false) :
 Calls Tryz.prog 84 #[.pointer (some ⟨M,0,none⟩),callV ⟨kind,s.1,tick,val,handle,p⟩] w (FWSays P w M c rs rh (n+1) d.L (repV (repF 0)) (oneW c rs rh wd s.1 ⟨2,(0,0),p,adv0⟩).1):=by
 have CK:=jH (fun W=>policyCheck_any p W);have he:polE p=0:=by unfold polE;rw [if_pos hp]
 rw [he] at CK;have CF:=jH (fun W (hW:jB w W)=>flFull_any s (h.at_.below hW) hc.st (h.many hc));rw [hf] at CF;have hdo:∀y:Nd,do17 rs rh y ⟨2,(0,0),p,adv0⟩=({ y with pol:=p,ruled:=true,ver:=y.ver+1 },0,0):=fun y=>by
  unfold do17;rw [if_neg (show ¬(2:Int)=0 by decide),if_neg (show ¬(2:Int)=1 by decide),if_pos rfl,if_pos hp]
 have hone:=(h.at_.tells.one (rs:=rs) (rh:=rh) hc.st s hs ⟨2,(0,0),p,adv0⟩ (show (2:Int)≠3 by decide) (by rw [hdo])).2 hf;have hhere:=(h.at_.tells.here hc.st s hs).2;have hold:=h.old s;obtain ⟨xo,hxo⟩:∃x,x=(findM d.es s).getD it00:=⟨_,rfl⟩;rw [←it_nd,←hxo] at hhere;rw [←hxo] at hold;have hav:=h.avoidX (X:=w.heap.size+1) (Nat.le_succ _) jR;have hlo:c.lo≤256:=by
  have hcb:=hc.cfg;unfold cfgB at hcb;simp only [Bool.and_eq_true,decide_eq_true_eq] at hcb
  omega
 have HFIN:=jH (show ∀(W8:World) (o:Obj),jB w W8→MapIn skV ldV (setBlock W8 d.L o) d.L (putM d.es s ⟨xo.key,xo.sA,xo.sc,xo.pA,xo.pc,setF xo.nd p⟩) →
     ∃d',FW (fun b=>P b∧b≠w.heap.size+1) (setBlock W8 d.L o) M c rs rh (n+1) (oneW c rs rh wd s.1 ⟨2,(0,0),p,adv0⟩).1 d'∧d'.L=d.L∧Upd w (setBlock W8 d.L o) [M,d.L] [M,d.L] from fun W8 o hb hm=>by
   have hi:LoadIn (fun b=>P b∧b≠w.heap.size+1) W8 ⟨xo.key,xo.sA,xo.sc,xo.pA,xo.pc,setF xo.nd p⟩:=(hold.below hb).imp (fun b hb=>⟨hb.1,by omega⟩);obtain ⟨h1,h2⟩:=hav.at_.toFlMem.put hb hm hi;refine ⟨_,⟨⟨h1.wd rfl rfl rfl,hone.2 _ ?_⟩,oneW_ok h.ok hlo ⟨⟨by show I64 0;unfold I64;omega,by show I64 0;unfold I64;omega⟩,hpo⟩ hc.room.h1⟩,rfl,h2⟩;rw [hdo];exact ⟨hhere.1,hhere.2.1,rfl,rfl⟩)
 have HEND:=jH (show ∀(W8 W9:World) d',FW (fun b=>P b∧b≠w.heap.size+1) W8 M c rs rh (n+1) (oneW c rs rh wd s.1 ⟨2,(0,0),p,adv0⟩).1 d'→d'.L=d.L→Upd w W8 [M,d.L] [M,d.L]→(∀k,k≠w.heap.size+1→W9.heap[k]?=W8.heap[k]?)→W9.heap.size=W8.heap.size→(∀n,n≤w.heap.size+1→Below n W8 W9) →
     FWSays P w M c rs rh (n+1) d.L (repV (repF 0)) (oneW c rs rh wd s.1 ⟨2,(0,0),p,adv0⟩).1 (.returned (repV (repF 0))) W9 from fun W8 W9 d' h1 h2 h3 h4 h5 h6=>by
   have h9:=h1.fin (fun b hb=>by rw [h2];exact h.at_.off b hb) (by rw [h2];exact h3) (Nat.le_succ _) h.at_.lt (by rw [h2];exact h.at_.map.lt) h4 h5 h6;rw [h2] at h9;exact ⟨d',rfl,h9.1,h2,h9.2⟩)
 have hlk:=fun (W:World) (hW:jB w W)=>fl_look h.at_.map s false (hW.block d.L h.at_.map.lt)
 rw [←hxo] at hlk;unfold ldV ldC at hlk;simp only [Bool.false_eq_true,↓reduceIte] at hlk
 have HLK:=jH hlk;have HMP:=jH (show ∀W,jB w W→MapIn skV ldV W d.L d.es from fun W hW=>h.at_.map.below hW);have HC:=jH h.at_.cell;have HXL:=jH (show w.heap.size+1≠d.L from by have:=h.at_.map.lt;omega);generalize (oneW c rs rh wd s.1 ⟨2,(0,0),p,adv0⟩).1=wd9 at HFIN HEND ⊢;obtain ⟨p0,p1,p2,p3,p4,p5⟩:=p;unfold polV at CK;unfold callV;dsimp only at CK ⊢;clear hp he h hc hf hP hs hpo hdo hone hhere hold hxo hav hlo hlk
 go_enter Tryz.func84,Tryz.ntmps84
 go_upto_region 6 with (first
  | (go_at_call 124
     refine calls_named ?_;intro W1 hW1;obtain ⟨HB1,HX0,HX1⟩:=boxesF w _ _ W1 hW1;clear hW1;refine (CK.out W1).mono ?_;rintro e w2 ⟨rfl,hb2⟩;obtain ⟨HB2,HX02,HX9⟩:=keepHF hb2 HB1 HX0 HX1;obtain ⟨b1,b2,b3⟩:=box_cells jR HX02.out;obtain ⟨y1,y2,y3⟩:=box_cells jR HX9.out;clear hb2)
  | (go_at_call 114
     refine (CF.out w2 HB2.out).mono ?_;rintro e w3 ⟨rfl,hb3⟩;obtain ⟨HB3,HX03,HX93⟩:=keepHF hb3 HB2 HX02 HX9;clear hb3 b1 b2 b3 y1 y2 y3;obtain ⟨b1,b2,b3⟩:=box_cells jR HX03.out;obtain ⟨y1,y2,y3⟩:=box_cells jR HX93.out))
 clear b1 b2 b3 y1 y2 y3;have q1:=HLK.out;obtain ⟨b1,b2,b3⟩:=box_cells jR HX03.out;obtain ⟨m1,m2,m3⟩:=box_cells HB3.out HC.out;have q2:=HLK.out (w3.alloc (.cells #[.slice none 0 0,.slice none 0 0,.int .i64 0,.int .i64 0,.int .i64 0,.int .i64 0,.int .i64 0,.int .i64 0,.bool false] 50)).drew (balloc HB3.out _).drew;have q3:=HLK.out w3.drew HB3.out.drew;clear q1
 go_region
 all_goals
   refine then_named ?_;intro W4 hW4;have hb34:jB w3 W4:=by rw [hW4];exact (balloc jR _).drew
   obtain ⟨HB4,HX04,HX94⟩:=keepHF hb34 HB3 HX03 HX93;have HZ4:=jH (show W4.heap[w3.heap.size]?=some (.cells #[.slice xo.sA xo.nd.smp.length xo.sc,.slice xo.pA xo.nd.past.length xo.pc,.int .i64 xo.nd.pol.mn,.int .i64 xo.nd.pol.mx,.int .i64 xo.nd.pol.tg,.int .i64 xo.nd.pol.tol,.int .i64 xo.nd.pol.win,.int .i64 xo.nd.pol.hold,.bool xo.nd.ruled] 50 (0,0)) by rw [hW4];exact heap_alloc_new _ _);have HLT:=jH (show w.heap.size+1<w3.heap.size from (jL HX93.out))
   clear hW4 hb34 b1 b2 b3 m1 m2 m3 q2 q3;obtain ⟨b1,b2,b3⟩:=box_cells jR HX04.out;obtain ⟨z1,z2,z3⟩:=box_cells jR HZ4.out
   go_upto_region 8 with fail
   refine name_world ?_;intro W5 hW5;have hW5':W5=stor W4 w3.heap.size 2 [.int .i64 p0,.int .i64 p1,.int .i64 p2,.int .i64 p3,.int .i64 p4,.int .i64 p5,.bool true]:=hW5;obtain ⟨s1,s2,s3,s4⟩:=stor_all [.int .i64 p0,.int .i64 p1,.int .i64 p2,.int .i64 p3,.int .i64 p4,.int .i64 p5,.bool true] W4 w3.heap.size 2 _ _ HZ4.out rfl;rw [←hW5'] at s1 s2 s3 s4;have hb45:Below w3.heap.size W4 W5:=s4 _ (Nat.le_refl _)
   have HZ5:=jH (show W5.heap[w3.heap.size]?=some (.cells #[.slice xo.sA xo.nd.smp.length xo.sc,.slice xo.pA xo.nd.past.length xo.pc,.int .i64 p0,.int .i64 p1,.int .i64 p2,.int .i64 p3,.int .i64 p4,.int .i64 p5,.bool true] 50 (0,0)) from s1);have HB5:=jH (HB4.out.trans (hb45.mono (by have:=HLT.out;omega)));have HX05:=jH ((hb45.block _ (by have:=HLT.out;omega)).trans HX04.out);have HX95:=jH ((hb45.block _ HLT.out).trans HX94.out)
   clear hW5 hW5' s1 s2 s3 s4 hb45 b1 b2 b3 z1 z2 z3;obtain ⟨b1,b2,b3⟩:=box_cells jR HX05.out;obtain ⟨z1,z2,z3⟩:=box_cells jR HZ5.out;obtain ⟨m1,m2,m3⟩:=box_cells HB5.out HC.out;obtain ⟨o9,hs9,hm9⟩:=fl_store (HMP.out W5.drew HB5.out.drew) s ⟨xo.key,xo.sA,xo.sc,xo.pA,xo.pc,setF xo.nd ⟨p0,p1,p2,p3,p4,p5⟩⟩;obtain ⟨d9,hd1,hd2,hd3⟩:=HFIN.out W5.drew o9 HB5.out.drew hm9;have HD1:=jH hd1;have HD2:=jH hd2
   have HD3:=jH hd3;have hs8:(Instr.mapUpdate 94 (.map (some d.L)) (.string s.1) (.agg #[.slice xo.sA xo.nd.smp.length xo.sc,.slice xo.pA xo.nd.past.length xo.pc,.int .i64 p0,.int .i64 p1,.int .i64 p2,.int .i64 p3,.int .i64 p4,.int .i64 p5,.bool true])).run Tryz.prog W5.drew=.ok () (setBlock W5.drew d.L o9):=hs9;clear hs9 hm9 hd1 hd2 hd3
   go_region
   refine then_named ?_;intro W6 hW6;have HX96:=jH (((show W6.heap[w.heap.size+1]?=W5.heap[w.heap.size+1]? by rw [hW6];exact setBlock_other HXL.out)).trans HX95.out);rw [←hW6] at HD1 HD3;clear hW6 b1 b2 b3 z1 z2 z3 m1 m2 m3 hs8;obtain ⟨y1,y2,y3⟩:=box_cells jR HX96.out;go_wp2_with fail
   refine post_named ?_;intro W9 hW9;have hW9':W9=stor W6 (w.heap.size+1) 0 (repC (repF 0)):=hW9;obtain ⟨t1,t2,t3,t4⟩:=stor_at HX96.out (repC (repF 0)) rfl W9 hW9';obtain ⟨a9,a8,a7⟩:=box_cells jR t1;clear hW9 hW9';exact bodyPost_ret (v:=repV (repF 0)) (by simp [results,Tryz.results84,go_sem,a9,repV,repC,repF,st0,adv0]) rfl (HEND.out W6 W9 d9 HD1.out HD2.out HD3.out t2 t3 t4)
end
section
open Go.RowKit Go.Lib
def srNil:SrH:=⟨none,0,[]⟩
structure NewW (w wr:World) (c:Cfg) (s:Value) (l:List SrH):Prop where
 b:jB w wr
 x0:wr.heap[w.heap.size]?=some (.cells #[.int .i64 c.st,.int .i64 c.sa,.int .i64 c.lo,.int .i64 c.hi] 23 (0,0))
 x1:wr.heap[w.heap.size+1]?=some (.cells #[.int .i64 0,.int .i64 0,.int .i64 0,.int .i64 0,.slice none 0 0,.slice none 0 0,.int .i64 0,.bool false] 32 (0,0))
 x2:wr.heap[w.heap.size+1+1]?=some (.cells #[.int .i64 c.st,.int .i64 c.sa,.int .i64 c.lo,.int .i64 c.hi,s,.slice none 0 0,.int .i64 0,.bool false] 32 (0,0))
 own:OwnL srC 174 1 (w.heap.size+3) wr s l
 sz:w.heap.size+3≤wr.heap.size
theorem NewW.put {w wr w2 w3:World} {c:Cfg} {s s2:Value} {l l2:List SrH} (h:NewW w wr c s l) (hb:Below (w.heap.size+3) wr w2) (ho:OwnL srC 174 1 (w.heap.size+3) w2 s2 l2) (h3:w3=w2.setCell ⟨w.heap.size+1+1,4,none⟩ s2):NewW w w3 c s2 l2:=by
 have hsz:=h.sz;have hb2:=hb.size;subst h3;refine ⟨h.b.trans ((hb.mono (by omega)).setCell (by simp;omega) _),?_,?_,?_,?_,?_⟩
 · exact heap_set_ne ((hb.block _ (by omega)).trans h.x0) (by omega)
 · exact heap_set_ne ((hb.block _ (by omega)).trans h.x1) (by omega)
 · exact setCell_block ((hb.block _ (by omega)).trans h.x2)
 · exact ho.kept (fun r hr=>heap_set_ne rfl (by have:=ho.lt hr;omega))
 · simp;omega
theorem new21_any (P:Nat→Prop) (c:Cfg) (k:Nat) (w:World) (hP:∀b,w.heap.size≤b→P b) (hk:(k:Int)=c.st) (hk64:k≤64) :
 Calls Tryz.prog 12 #[cfgV c] w (Wd21Says P w c (newW k)):=by
 have HP:=jH hP;have HK:=jH hk;unfold cfgV;obtain ⟨cs,ca,cl,ch⟩:=c;dsimp only at hk ⊢;subst hk;clear hP
 go_enter Tryz.func12,Tryz.ntmps12
 go_wp2_with fail
 refine name_world ?_;intro W hW;have HAT0:=jH (show NewW w W ⟨(k:Nat),ca,cl,ch⟩ (.slice none 0 0) [] by
  rw [hW];exact ⟨balloc (balloc (balloc jR _) _) _,box3_0 _ _ _ _,box3_1 _ _ _ _,box3_2 _ _ _ _,OwnL.nil _ _,by simp⟩)
 clear hW;go_wp2
 go_loopg [4] k (fun g s4 wr=>∃(i:Nat) (s:Value),i≤k∧k - i≤g∧s4=.int .i64 i∧NewW w wr ⟨(k:Nat),ca,cl,ch⟩ s (List.replicate i srNil))
 case atStart=>exact ⟨0,_,Nat.zero_le _,Nat.le_refl _,rfl,HAT0.out⟩
 case round =>
  obtain ⟨i,s,hi,hg,rfl,hat⟩:=hrel;rename World=>wr
  obtain ⟨A3,c3,rfl⟩:=hat.own.form;have HAT:=jH hat;have HO:=jH hat.own;have hsz:=hat.sz;obtain ⟨a1,a2,a3⟩:=box_cells jR hat.x0;obtain ⟨d1,d2,d3⟩:=box_cells jR hat.x2;dsimp only at a1 d1;clear hat;have HPL:=jH (show (List.replicate i srNil).length=i from List.length_replicate);obtain ⟨m,hm⟩:∃m,m=List.replicate i srNil:=⟨_,rfl⟩;have HM:=jH hm;rw [←hm] at HO HAT HPL d1;clear hm
  by_cases hlt:i<k
  · have z1:(i:Int)<(k:Int):=by omega
    go_wp2_with (at_builtin;refine wpList_appendL eSr (by rfl) (by rfl) (w.heap.size+3) m [srNil] _ _ (by rfl) (by rfl) (HO.out.below (balloc jR _)) (RowIn.lit wr srNil _ _ _ rfl rfl) (by have:=HPL.out;simp;omega) (by simp;omega) ?_;intro out2 A2 c2' w2 hout2 hown2 hg2 _
                 have hb2:Below (w.heap.size+3) wr w2:=(Below.mono (balloc (Below.refl wr.heap.size wr) _) hsz).trans (grown_own hg2 HO.out (by simp;omega));have HOWN:=jH hown2;have HOUT:=jH hout2;have HB4:=jH hb2;obtain ⟨e1,e2,e3⟩:=box_cells jR ((hb2.block (w.heap.size+1+1) (by omega)).trans HAT.out.x2);clear hown2 hout2 hg2 hb2)
    go_roundg (k - (i+1))
    case measure=>omega
    case rel=>exact ⟨i+1,_,hlt,Nat.le_refl _,by go_num,by rw [List.replicate_succ',←HM.out,←HOUT.out];exact HAT.out.put HB4.out HOWN.out rfl⟩
  · obtain rfl:i=k:=by omega
    have z1:¬(i:Int)<(i:Int):=by omega
    have hx1:=HAT.out.x1;obtain ⟨f1,f2,f3⟩:=box_cells jR hx1;go_wp2
    refine post_named ?_;intro W4 hW4;have hW4':W4=stor wr (w.heap.size+1) 0 [.int .i64 i,.int .i64 ca,.int .i64 cl,.int .i64 ch,.slice A3 m.length c3,.slice none 0 0,.int .i64 0,.bool false]:=hW4;obtain ⟨s1,s2,s3,s4⟩:=stor_at hx1 [.int .i64 i,.int .i64 ca,.int .i64 cl,.int .i64 ch,.slice A3 m.length c3,.slice none 0 0,.int .i64 0,.bool false] rfl W4 hW4';obtain ⟨a9,a8,a7⟩:=box_cells jR s1;have hb9:jB w W4:=HAT.out.b.trans (s4 _ (by omega))
    clear hW4 hW4';refine bodyPost_ret (v:=.agg #[.int .i64 i,.int .i64 ca,.int .i64 cl,.int .i64 ch,.slice A3 m.length c3,.slice none 0 0,.int .i64 0,.bool false]) (by simp [results,Tryz.results12,go_sem,a9]) rfl ⟨⟨A3,c3,m,none,0,[],0,false⟩,rfl,⟨?_,?_,⟨RowIn.nil,fun b o m c e hn=>by cases e⟩,fun y hy=>by cases hy⟩,?_,hb9⟩
    · exact ((RowG.own eSr HO.out).keepP (Nat.le_of_eq s3.symm) (fun b hb hlt=>s2 b (by omega))).imp (fun b hb=>HP.out b (by omega))
    · intro y hy
      rw [HM.out] at hy;rw [List.eq_of_mem_replicate hy];exact ⟨⟨RowIn.nil,fun b o m c e hn=>by cases e⟩,fun y hy=>by cases hy⟩
    · rw [HM.out]
      simp [absW,newW,srNil]
end
end Go.Proofs.YtkcdhaallnhhmaaGreat
