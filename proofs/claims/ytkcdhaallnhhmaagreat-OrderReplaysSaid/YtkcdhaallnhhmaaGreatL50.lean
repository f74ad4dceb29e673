/- Part 50 of the proof: RefRep. -/
import Derived.Test.YtkcdhaallnhhmaaGreatL47
import Derived.Test.YtkcdhaallnhhmaaGreatL48
namespace Go.Proofs.YtkcdhaallnhhmaaGreat
set_option linter.unusedSimpArgs false
set_option linter.unusedVariables false
set_option linter.unusedSectionVars false
set_option maxRecDepth 100000
set_option maxHeartbeats 16000000
section
open Go.RowKit Go.Lib
structure RepAt (w wr:World) (X:Nat) (c:Cfg) (wd:Wd) (x:WdH):Prop where
 wo:WdIn (fun b=>w.heap.size≤b∧b≠X) wr x
 abs:absW x=wd
 box:wr.heap[X]?=some (.cells #[.int .i64 c.st,.int .i64 c.sa,.int .i64 c.lo,.int .i64 c.hi,.slice x.sA x.st.length x.sc,.slice x.cA x.cuts.length x.cc,.int .i64 x.ep,.bool x.over] 32 (0,0))
 b:jB w wr
 low:w.heap.size≤X
theorem RepAt.put {w wr u W9:World} {X:Nat} {c:Cfg} {wd wd':Wd} {x x':WdH} (h:RepAt w wr X c wd x) (hb:jB wr u) (hw:WdIn (fun b=>w.heap.size≤b∧b≠X) u x') (ha:absW x'=wd') (h9:W9=stor u X 0 [.int .i64 c.st,.int .i64 c.sa,.int .i64 c.lo,.int .i64 c.hi,.slice x'.sA x'.st.length x'.sc,.slice x'.cA x'.cuts.length x'.cc,.int .i64 x'.ep,.bool x'.over]):RepAt w W9 X c wd' x':=by
 have hlt:=(Array.getElem?_eq_some_iff.1 h.box).1;obtain ⟨t1,t2,t3,t4⟩:=stor_at ((hb.block _ hlt).trans h.box) [.int .i64 c.st,.int .i64 c.sa,.int .i64 c.lo,.int .i64 c.hi,.slice x'.sA x'.st.length x'.sc,.slice x'.cA x'.cuts.length x'.cc,.int .i64 x'.ep,.bool x'.over] rfl W9 h9;exact ⟨hw.keepP (Nat.le_of_eq t3.symm) (fun b hb _=>t2 b hb.2),ha,t1,(bthen h.b hb).trans (t4 _ h.low),h.low⟩
theorem refReplay_any (c:Cfg) (rs rh k0:Nat) (v:Value) (es:List EvtD) (w:World) (hc:CfgOk c rs rh) (hk0:(k0:Int)=c.st) (he:RowIn 34 evC w v es) (heok:∀e∈es,e.ok) (hel:es.length≤100) :
 Calls Tryz.prog 36 #[cfgV c,v] w (jP w (.int .i64 (replayE c rs rh (newW k0) 0 es))):=by
 obtain ⟨A,cp,rfl,hAc,h0⟩:=id he;clear h0;have hbd:=okSt_bd _ hc.st;have hlo9:c.lo≤256:=by have:=hc.cfg;unfold cfgB at this;simp only [Bool.and_eq_true,decide_eq_true_eq] at this;omega
 have HE:=jH he;have HEOK:=jH heok;have q9:(es.length:Int)≤100:=by omega
 have HCC:=jH hc;have HLO:=jH (And.intro hbd.2 (And.intro hlo9 hc.room.h1));have HNW:=jH (newW_ok c rs rh k0 hk0);have CF:=jH (fun W P' hP'=>new21_any P' c k0 W hP' hk0 (by omega));obtain ⟨ans,hans⟩:∃r,r=replayE c rs rh (newW k0) 0 es:=⟨_,rfl⟩;rw [←hans];have HANS:=jH hans;unfold cfgV at CF ⊢;clear he hAc heok hel hbd hlo9 hc hk0 hans
 go_enter Tryz.func36,Tryz.ntmps36
 go_upto_region 2 with (first
  | (go_at_call 12
     refine calls_named ?_;intro W1 hW1;have hb1:jB w W1:=by rw [hW1];exact balloc jR _
     clear hW1;refine (CF.out W1 (fun b=>w.heap.size≤b) (fun b hb=>Nat.le_trans hb1.size hb)).mono ?_;rintro e w2 ⟨x0,rfl,hx0,hab0,hb⟩;unfold wdC;have HX2:=jH hx0;have HAB2:=jH hab0;have HB2:=jH (bthen hb1 hb);clear hx0 hab0 hb hb1))
 refine name_world ?_;intro W3 hW3;have HP0:=jH (show RepAt w W3 w2.heap.size c (newW k0) x0 by
  have hd:jB w2 W3:=by rw [hW3];exact balloc jR _
  exact ⟨(HX2.out.old.below hd).imp (fun b hb=>⟨hb.1,Nat.ne_of_lt hb.2⟩),HAB2.out,by rw [hW3];exact heap_alloc_new _ _,bthen HB2.out hd,HB2.out.size⟩)
 clear hW3;generalize w2.heap.size=X at HP0
 try go_wp2_with fail
 go_loopg [6] es.length (fun g s6 wr=>∃(k:Nat) (wd:Wd) (x:WdH),k≤es.length∧es.length - k≤g∧s6=.int .i64 k∧RepAt w wr X c wd x∧Hid (WdOk c rs rh k wd)∧Hid (replayE c rs rh wd k (es.drop k)=ans))
 case atStart=>exact ⟨0,_,x0,Nat.zero_le _,Nat.le_refl _,rfl,HP0.out,HNW,jH (by rw [HANS.out];rfl)⟩
 case round =>
  obtain ⟨k,wd,x,hk,hg,rfl,hp,HWK,HR⟩:=hrel;rename World=>wr
  have HP:=jH hp;clear hp HP0
  by_cases hlt:k<es.length
  · have z1:(k:Int)<(es.length:Int):=by omega
    have z2:(0:Int)≤(k:Int):=by omega
    obtain ⟨b1,o1,rfl,hb1,hc⟩:=(HE.out.below HP.out.b).at_ hlt;have hcl:(evC es[k]).length=34:=rfl;have HRR:=jH ((replayE_drop (i:=(k:Int)) (wd:=wd) (c:=c) (rs:=rs) (rh:=rh) hlt).symm.trans HR.out);have HXL:=jH (show X<wr.heap.size from (Array.getElem?_eq_some_iff.1 HP.out.box).1);have HWK2:=jH (applyE_ok HWK.out HLO.out.1 HLO.out.2.1 HLO.out.2.2 (HEOK.out _ (List.getElem_mem hlt)));have CA:=jH (fun W (hW:jB wr W) (P:Nat→Prop) (hP:∀b,W.heap.size≤b→P b) (hp0:∀b,(w.heap.size≤b∧b≠X)∧b<wr.heap.size→P b)=>refAp_any (P:=P) (w:=W) (x:=x) (n:=k) hP ((HP.out.wo.old.below hW).imp hp0) HCC.out.room HCC.out.st (by rw [HP.out.abs];exact HWK.out) (by omega) es[k] (HEOK.out _ (List.getElem_mem hlt)))
    rw [HP.out.abs] at CA;obtain ⟨cs,hcs⟩:∃cs,cs=evC es[k]:=⟨_,rfl⟩;unfold wdC at CA;obtain ⟨r,hr⟩:∃r,r=applyE c rs rh wd es[k]:=⟨_,rfl⟩;rw [←hr] at CA HRR HWK2;obtain ⟨nw,nb⟩:=r;dsimp only at HRR HWK2;have CA9:=jH (fun W (hW:jB wr W) (P:Nat→Prop) (hP:∀b,W.heap.size≤b→P b) (hp0:∀b,(w.heap.size≤b∧b≠X)∧b<wr.heap.size→P b)=>show Calls Tryz.prog 73 #[.agg #[.int .i64 c.st,.int .i64 c.sa,.int .i64 c.lo,.int .i64 c.hi,.slice x.sA x.st.length x.sc,.slice x.cA x.cuts.length x.cc,.int .i64 x.ep,.bool x.over],.agg cs.toArray] W fun e w'=>∃x',e=.returned (.tuple #[.agg #[.int .i64 c.st,.int .i64 c.sa,.int .i64 c.lo,.int .i64 c.hi,.slice x'.sA x'.st.length x'.sc,.slice x'.cA x'.cuts.length x'.cc,.int .i64 x'.ep,.bool x'.over],.bool nb])∧WdIn P w' x'∧absW x'=nw∧jB W w' by rw [hcs];exact CA.out W hW P hP hp0)
    rw [←hcs] at hc hcl;have HC:=jH hc;have HCL:=jH hcl;have HB1':=jH hb1;have HHL:=jH hlt;clear hc hcl hcs hr CA HR;have rx:∀U,jB wr U→∀i,U.cell? ⟨X,i,none⟩=(#[.int .i64 c.st,.int .i64 c.sa,.int .i64 c.lo,.int .i64 c.hi,.slice x.sA x.st.length x.sc,.slice x.cA x.cuts.length x.cc,.int .i64 x.ep,.bool x.over]:Array Value)[i]?:=fun U hU i=>(box_cells hU HP.out.box).1 i
    have hS00:jB wr wr:=jR;have hS0:jB wr wr.drew:=hS00.drew;have q1:∀U,jB wr U→∀j v,cs[j]?=some v→U.cell? ⟨b1,o1+k * 34+j,none⟩=some v:=fun U hU j v hj=>(hU.cell (p:=⟨b1,_,none⟩) HB1'.out).trans (HC.out j v hj)
    go_upto_region 5 with fail
    refine wp_region_held_drew (S:=(fun U=>jB wr U)) (by kernel_rfl) ?hS0 (fun hHeld=>?_)
    case hS0=>exact hS0
    refine wpAnyH_take (i:=0) (v:=?v1) rfl (by kernel_rfl) (by kernel_rfl) (by kernel_rfl) (fun _ _ _ h=>h) (Or.inl ⟨by rfl,?hy1⟩) (by assumption) ?_
    case hy1 =>
     intro w' hSw
     (try dsimp only at hSw)
     have hx9:=rx w' hSw;go_simp
     try (with_reducible rfl)
    try simp only [Act.put,jA]
    refine wpAnyH_take (i:=1) (v:=?v2) rfl (by kernel_rfl) (by kernel_rfl) (by kernel_rfl) (fun _ _ _ h=>h) (Or.inl ⟨by rfl,?hy2⟩) (by assumption) ?_
    case hy2 =>
     intro w' hSw
     (try dsimp only at hSw)
     go_simp
     try (with_reducible rfl)
    try simp only [Act.put,jA]
    refine wpAnyH_take (i:=2) (v:=?v3) rfl (by kernel_rfl) (by kernel_rfl) (by kernel_rfl) (fun _ _ _ h=>h) (Or.inl ⟨by rfl,?hy3⟩) (by assumption) ?_
    case hy3 =>
     intro w' hSw
     (try dsimp only at hSw)
     go_simp
     try (with_reducible rfl)
    try simp only [Act.put,jA]
    refine wpAnyH_take (i:=3) (v:=?v4) rfl (by kernel_rfl) (by kernel_rfl) (by kernel_rfl) (fun _ _ _ h=>h) (Or.inl ⟨by rfl,?hy4⟩) (by assumption) ?_
    case hy4 =>
     intro w' hSw
     (try dsimp only at hSw)
     go_simp
     try (with_reducible rfl)
    try simp only [Act.put,jA]
    refine wpAnyH_take (i:=4) (v:=.agg (cs).toArray) rfl (by kernel_rfl) (by kernel_rfl) (by kernel_rfl) (fun _ _ _ h=>h) (yieldsIf_load_mid (by rfl) 137 (.tmp 21) (by rfl) b1 ((o1+k * 34)) (by rfl) (cs) _ (fun U hU=>q1 U hU) Tryz.underlying137 (by rfl) (by rw [HCL.out];kernel_rfl)) (by assumption) ?_
    try simp only [Act.put,jA]
    refine wpAnyH_ready (rs:=[5,9]) (by kernel_rfl) (by simp) ?_;refine AllReadyH.cons rfl (fun K hK=>?_) (AllReadyH.cons rfl (fun K hK=>?_) AllReadyH.nil)
    · go_simp
      (go_at_call 73
       refine calls_named ?_;intro V hV;have hd:jB wr V:=by rw [hV];first|exact hS0|exact hS00|exact balloc hS0 _|exact (balloc hS00 _).drew|exact balloc hS00 _
       clear hV;refine (CA9.out V hd (fun b=>w.heap.size≤b∧b≠X) (fun b hb=>⟨Nat.le_trans (bthen HP.out.b hd).size hb,by have:=HXL.out;have:=hd.size;omega⟩) (fun b hb=>hb.1)).mono ?_;rintro e u ⟨x',rfl,hw,ha,hb⟩;have HW8:=jH hw;have HA8:=jH ha;have HB8:=jH (bthen hd hb);clear hd hw ha hb)
      try go_simp
      refine hK.out _ _ ?hS5 (fun hHeld2=>?_)
      case hS5 =>
       (first
         | with_reducible exact hS0
         | with_reducible exact HB8.out
         | with_reducible exact balloc HB8.out _
         | with_reducible exact balloc hS0 _
         | with_reducible exact (balloc hS00 _).drew
         | (iterate 8 (with_reducible refine Below.setCell ?_ (by first|exact Nat.le_refl _|exact HB8.out.size) _)
            first
             | with_reducible exact HB8.out
             | with_reducible exact balloc HB8.out _))
      clear hK K hHeld;have hHeld:=hHeld2;clear hHeld2
      try simp only [Act.put,jA]
      refine wpAnyH_take (i:=6) (v:=?v6) rfl (by kernel_rfl) (by kernel_rfl) (by kernel_rfl) (fun _ _ _ h=>h) (Or.inl ⟨by rfl,?hy6⟩) (by assumption) ?_
      case hy6 =>
       intro w' hSw
       (try dsimp only at hSw)
       go_simp
       try (with_reducible rfl)
      try simp only [Act.put,jA]
      refine wpAnyH_take (i:=7) (v:=?v7) rfl (by kernel_rfl) (by kernel_rfl) (by kernel_rfl) (fun _ _ _ h=>h) (Or.inl ⟨by rfl,?hy7⟩) (by assumption) ?_
      case hy7 =>
       intro w' hSw
       (try dsimp only at hSw)
       go_simp
       try (with_reducible rfl)
      try simp only [Act.put,jA]
      refine wpAnyH_take (i:=8) (v:=?v8) rfl (by kernel_rfl) (by kernel_rfl) (by kernel_rfl) (fun _ _ _ h=>h) (Or.inl ⟨by rfl,?hy8⟩) (by assumption) ?_
      case hy8 =>
       intro w' hSw
       (try dsimp only at hSw)
       go_simp
       try (with_reducible rfl)
      try simp only [Act.put,jA]
      refine wpAnyH_ready (rs:=[9]) (by kernel_rfl) (by simp) ?_;refine AllReadyH.cons rfl (fun K hK=>?_) AllReadyH.nil;go_simp
      skip
      try go_simp
      refine hK.out _ _ ?hS9 (fun hHeld2=>?_)
      case hS9 =>
       (first
         | with_reducible exact hS0
         | with_reducible exact HB8.out
         | with_reducible exact balloc HB8.out _
         | with_reducible exact balloc hS0 _
         | with_reducible exact (balloc hS00 _).drew
         | (iterate 8 (with_reducible refine Below.setCell ?_ (by first|exact Nat.le_refl _|exact HB8.out.size) _)
            first
             | with_reducible exact HB8.out
             | with_reducible exact balloc HB8.out _))
      clear hK K hHeld;have hHeld:=hHeld2;clear hHeld2
      try simp only [Act.put,jA]
      refine wpAnyH_ready (rs:=[10]) (by kernel_rfl) (by simp) ?_;refine AllReadyH.cons rfl (fun K hK=>?_) AllReadyH.nil;go_simp
      skip
      try go_simp
      refine hK.out _ _ ?hS10 (fun hHeld2=>?_)
      case hS10 =>
       (first
         | with_reducible exact hS0
         | with_reducible exact HB8.out
         | with_reducible exact balloc HB8.out _
         | with_reducible exact balloc hS0 _
         | with_reducible exact (balloc hS00 _).drew
         | (iterate 8 (with_reducible refine Below.setCell ?_ (by first|exact Nat.le_refl _|exact HB8.out.size) _)
            first
             | with_reducible exact HB8.out
             | with_reducible exact balloc HB8.out _))
      clear hK K hHeld;have hHeld:=hHeld2;clear hHeld2
      try simp only [Act.put,jA]
      refine wpAnyH_take (i:=11) (v:=?v11) rfl (by kernel_rfl) (by kernel_rfl) (by kernel_rfl) (fun _ _ _ h=>h) (Or.inl ⟨by rfl,?hy11⟩) (by assumption) ?_
      case hy11 =>
       intro w' hSw
       (try dsimp only at hSw)
       go_simp
       try (with_reducible rfl)
      try simp only [Act.put,jA]
      refine wpAnyH_done (by kernel_rfl) ?_ _;refine then_named ?_;intro U hU;have hd9:jB u U:=by rw [hU];exact balloc jR _
      have HBX:=jH (show U.heap[u.heap.size]?=some (.cells #[.int .i64 c.st,.int .i64 c.sa,.int .i64 c.lo,.int .i64 c.hi,.slice x'.sA x'.st.length x'.sc,.slice x'.cA x'.cuts.length x'.cc,.int .i64 x'.ep,.bool x'.over] 32 (0,0)) by rw [hU];exact heap_alloc_new _ _);have HWU:=jH (show WdIn (fun b=>w.heap.size≤b∧b≠X) U x' from (HW8.out.old.below hd9).imp (fun b hb=>hb.1));have HBU:=jH (bthen HB8.out hd9)
      have HNX:=jH (show X<u.heap.size from Nat.lt_of_lt_of_le HXL.out HB8.out.size);clear hU hd9;generalize u.heap.size=B7 at HBX HNX ⊢;clear hHeld;obtain ⟨y1,y2,y3⟩:=box_cells jR HBX.out;obtain ⟨x1,x2,x3⟩:=box_cells HBU.out HP.out.box
      cases nb
      · have HRF:=jH (show (k:Int)=ans from HRR.out)
        go_wp2_with fail
        go_ret
        exact ⟨congrArg (fun z=>Ending.returned (.int .i64 z)) HRF.out,bthen HP.out.b HBU.out⟩
      · have HRF:=jH (show replayE c rs rh nw (k+1:Nat) (List.drop (k+1) es)=ans from HRR.out)
        have hne:¬X=B7:=by have:=HNX.out;omega
        have hne2:¬B7=X:=fun h=>hne h.symm
        go_wp2_with fail
        go_roundg (es.length - (k+1))
        case measure=>omega
        case rel=>exact ⟨k+1,nw,x',HHL.out,Nat.le_refl _,by go_num,HP.out.put HBU.out HWU.out HA8.out rfl,HWK2,HRF⟩
    · go_simp
      try go_simp
      refine hK.out _ _ ?hS12 (fun hHeld2=>?_)
      case hS12 =>
       (first
         | with_reducible exact hS0
         | with_reducible exact HB8.out
         | with_reducible exact balloc HB8.out _
         | with_reducible exact balloc hS0 _
         | with_reducible exact (balloc hS00 _).drew
         | (iterate 8 (with_reducible refine Below.setCell ?_ (by first|exact Nat.le_refl _|exact HB8.out.size) _)
            first
             | with_reducible exact HB8.out
             | with_reducible exact balloc HB8.out _))
      clear hK K hHeld;have hHeld:=hHeld2;clear hHeld2
      try simp only [Act.put,jA]
      refine wpAnyH_ready (rs:=[5]) (by kernel_rfl) (by simp) ?_;refine AllReadyH.cons rfl (fun K hK=>?_) AllReadyH.nil;go_simp
      (go_at_call 73
       refine calls_named ?_;intro V hV;have hd:jB wr V:=by rw [hV];first|exact hS0|exact hS00|exact balloc hS0 _|exact (balloc hS00 _).drew|exact balloc hS00 _
       have hz:V.heap[wr.heap.size]?=some (.cells #[.int .i64 0,.int .i64 0,.int .i64 0,.int .i64 0,.slice none 0 0,.slice none 0 0,.int .i64 0,.bool false] 32 (0,0)):=by
        first
         | (with_reducible refine new_at hV ?_
            rfl)
         | (with_reducible refine new_atd hV ?_
            rfl)
       clear hV;refine (CA9.out V hd (fun b=>(w.heap.size≤b∧b≠X)∧b≠wr.heap.size) (fun b hb=>⟨⟨Nat.le_trans (bthen HP.out.b hd).size hb,by have:=HXL.out;have:=hd.size;omega⟩,by have:=(jL hz);omega⟩) (fun b hb=>⟨hb.1,Nat.ne_of_lt hb.2⟩)).mono ?_;rintro e u ⟨x',rfl,hw,ha,hb⟩;have HW8:=jH hw;have HA8:=jH ha;have HZ8:=jH (jK hb hz);have HB8:=jH (bthen hd hb);obtain ⟨y1,y2,y3⟩:=box_cells jR HZ8.out;clear hz hd hw ha hb)
      try go_simp
      refine hK.out _ _ ?hS13 (fun hHeld2=>?_)
      case hS13 =>
       (first
         | with_reducible exact hS0
         | with_reducible exact HB8.out
         | with_reducible exact balloc HB8.out _
         | with_reducible exact balloc hS0 _
         | with_reducible exact (balloc hS00 _).drew
         | (iterate 8 (with_reducible refine Below.setCell ?_ (by first|exact Nat.le_refl _|exact HB8.out.size) _)
            first
             | with_reducible exact HB8.out
             | with_reducible exact balloc HB8.out _))
      clear hK K hHeld;have hHeld:=hHeld2;clear hHeld2
      try simp only [Act.put,jA]
      refine wpAnyH_take (i:=6) (v:=?v14) rfl (by kernel_rfl) (by kernel_rfl) (by kernel_rfl) (fun _ _ _ h=>h) (Or.inl ⟨by rfl,?hy14⟩) (by assumption) ?_
      case hy14 =>
       intro w' hSw
       (try dsimp only at hSw)
       go_simp
       try (with_reducible rfl)
      try simp only [Act.put,jA]
      refine wpAnyH_take (i:=7) (v:=?v15) rfl (by kernel_rfl) (by kernel_rfl) (by kernel_rfl) (fun _ _ _ h=>h) (Or.inl ⟨by rfl,?hy15⟩) (by assumption) ?_
      case hy15 =>
       intro w' hSw
       (try dsimp only at hSw)
       go_simp
       try (with_reducible rfl)
      try simp only [Act.put,jA]
      refine wpAnyH_take (i:=8) (v:=?v16) rfl (by kernel_rfl) (by kernel_rfl) (by kernel_rfl) (fun _ _ _ h=>h) (Or.inl ⟨by rfl,?hy16⟩) (by assumption) ?_
      case hy16 =>
       intro w' hSw
       (try dsimp only at hSw)
       go_simp
       try (with_reducible rfl)
      try simp only [Act.put,jA]
      refine wpAnyH_ready (rs:=[10]) (by kernel_rfl) (by simp) ?_;refine AllReadyH.cons rfl (fun K hK=>?_) AllReadyH.nil;go_simp
      skip
      try go_simp
      refine hK.out _ _ ?hS17 (fun hHeld2=>?_)
      case hS17 =>
       (first
         | with_reducible exact hS0
         | with_reducible exact HB8.out
         | with_reducible exact balloc HB8.out _
         | with_reducible exact balloc hS0 _
         | with_reducible exact (balloc hS00 _).drew
         | (iterate 8 (with_reducible refine Below.setCell ?_ (by first|exact Nat.le_refl _|exact HB8.out.size) _)
            first
             | with_reducible exact HB8.out
             | with_reducible exact balloc HB8.out _))
      clear hK K hHeld;have hHeld:=hHeld2;clear hHeld2
      try simp only [Act.put,jA]
      refine wpAnyH_take (i:=11) (v:=?v18) rfl (by kernel_rfl) (by kernel_rfl) (by kernel_rfl) (fun _ _ _ h=>h) (Or.inl ⟨by rfl,?hy18⟩) (by assumption) ?_
      case hy18 =>
       intro w' hSw
       (try dsimp only at hSw)
       go_simp
       try (with_reducible rfl)
      try simp only [Act.put,jA]
      refine wpAnyH_done (by kernel_rfl) ?_ _;refine then_named ?_;intro U hU;have hU':U=stor u wr.heap.size 0 [.int .i64 c.st,.int .i64 c.sa,.int .i64 c.lo,.int .i64 c.hi,.slice x'.sA x'.st.length x'.sc,.slice x'.cA x'.cuts.length x'.cc,.int .i64 x'.ep,.bool x'.over]:=hU;obtain ⟨t1,t2,t3,t4⟩:=stor_at HZ8.out [.int .i64 c.st,.int .i64 c.sa,.int .i64 c.lo,.int .i64 c.hi,.slice x'.sA x'.st.length x'.sc,.slice x'.cA x'.cuts.length x'.cc,.int .i64 x'.ep,.bool x'.over] rfl U hU'
      have HBX:=jH t1;have HWU:=jH (show WdIn (fun b=>w.heap.size≤b∧b≠X) U x' from (HW8.out.keepP (Nat.le_of_eq t3.symm) (fun b hb _=>t2 b hb.2)).imp (fun b hb=>hb.1));have HBU:=jH (HB8.out.trans (t4 _ (Nat.le_refl _)));have HNX:=jH HXL.out;clear hU hU' t1 t2 t3 t4 y1 y2 y3;generalize hB7:wr.heap.size=B7 at HBX HNX ⊢;clear hHeld;obtain ⟨y1,y2,y3⟩:=box_cells jR HBX.out;obtain ⟨x1,x2,x3⟩:=box_cells HBU.out HP.out.box
      cases nb
      · have HRF:=jH (show (k:Int)=ans from HRR.out)
        go_wp2_with fail
        go_ret
        exact ⟨congrArg (fun z=>Ending.returned (.int .i64 z)) HRF.out,bthen HP.out.b HBU.out⟩
      · have HRF:=jH (show replayE c rs rh nw (k+1:Nat) (List.drop (k+1) es)=ans from HRR.out)
        have hne:¬X=B7:=by have:=HNX.out;omega
        have hne2:¬B7=X:=fun h=>hne h.symm
        go_wp2_with fail
        go_roundg (es.length - (k+1))
        case measure=>omega
        case rel=>exact ⟨k+1,nw,x',HHL.out,Nat.le_refl _,by go_num,HP.out.put HBU.out HWU.out HA8.out rfl,HWK2,HRF⟩
  · obtain rfl:k=es.length:=by omega
    have z1:¬(es.length:Int)<(es.length:Int):=by omega
    have HR2:=jH (show (-1:Int)=ans from by have h9:=HR.out;rw [List.drop_length] at h9;exact h9);clear HR;go_wp2_with fail
    go_ret
    exact ⟨by rw [←HR2.out];rfl,HP.out.b⟩
end
end Go.Proofs.YtkcdhaallnhhmaaGreat
