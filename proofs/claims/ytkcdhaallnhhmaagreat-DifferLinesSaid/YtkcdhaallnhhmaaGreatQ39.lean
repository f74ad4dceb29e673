/- Part 39 of the proof: FlSn. -/
import Derived.Test.YtkcdhaallnhhmaaGreatQ38
namespace Go.Proofs.YtkcdhaallnhhmaaGreat
set_option linter.unusedSimpArgs false
set_option linter.unusedVariables false
set_option linter.unusedSectionVars false
set_option maxRecDepth 100000
set_option maxHeartbeats 16000000
section
open Go.RowKit Go.Lib
theorem RowIn.clip {α:Type} {n:Nat} {f:α→List Value} {w:World} {A:Option Addr} {c:Nat} {l:List α} (h:RowIn n f w (.slice A l.length c) l):RowIn n f w (.slice A l.length l.length) l:=by
 obtain ⟨A2,c2,hv,hc,hr⟩:=h;injection hv with hv _ _
 subst hv;exact ⟨A,l.length,rfl,Nat.le_refl _,hr⟩
theorem FlatAt.snap {P:Nat→Prop} {w w8:World} {M:Nat} {c:Cfg} {rs rh n m:Nat} {wd:Wd} {d:FlatD} (h:FlatAt P w M c rs rh n wd d) (hs:w.heap.size≤w8.heap.size) (hk:∀b,b≠M→b<w.heap.size→w8.heap[b]?=w.heap[b]?) {A:Option Addr} {cp l:Nat} (hl:P l) (hm:MapIn skV ldV w8 l d.es)
    (hcell:w8.heap[M]?=some (.cells #[.int .i64 c.st,.int .i64 c.sa,.int .i64 c.lo,.int .i64 c.hi,.map (some d.L),.slice A (d.cuts++[(⟨wd.ep+1,some l,d.es,false⟩:FCut)]).length cp,.int .i64 (wd.ep+1),.bool wd.over] 97 (0,0)))
    (hrow:RowG P 3 fcC w8 (.slice A (d.cuts++[(⟨wd.ep+1,some l,d.es,false⟩:FCut)]).length cp) (d.cuts++[(⟨wd.ep+1,some l,d.es,false⟩:FCut)])) :
    FlatAt P w8 M c rs rh m { wd with ep:=wd.ep+1,cuts:=wd.cuts++[⟨wd.ep+1,allW wd,false⟩] } { d with A:=A,cp:=cp,cuts:=d.cuts++[⟨wd.ep+1,some l,d.es,false⟩] }:=by
  have hkP:∀b,P b→b<w.heap.size→w8.heap[b]?=w.heap[b]?∧P b:=fun b hP hlt=>⟨hk b (h.off b hP).1 hlt,hP⟩
  refine ⟨⟨hcell,h.map.block (hk d.L (fun e=>h.ne e.symm) h.map.lt),h.ne,h.off,fun p hp=>(h.rows p hp).keepG hs hkP,?_,hrow,fun i x q hx hq=>?_⟩,h.tells.same rfl⟩
  · show (d.cuts++[_]).length=(wd.cuts++[_]).length
    rw [List.length_append,List.length_append,h.len];rfl
  · have hx:(d.cuts++[(⟨wd.ep+1,some l,d.es,false⟩:FCut)])[i]?=some x:=hx
    have hq:(wd.cuts++[(⟨wd.ep+1,allW wd,false⟩:CutD)])[i]?=some q:=hq
    by_cases hi:i<d.cuts.length
    · rw [List.getElem?_append_left hi] at hx
      rw [List.getElem?_append_left (by rw [←h.len];exact hi)] at hq;refine ⟨(h.cut i x q hx hq).1,fun hf=>?_⟩;obtain ⟨h1,l2,h2,h3,h4,h5,h6⟩:=(h.cut i x q hx hq).2 hf;exact ⟨h1,l2,h2,h3,h4.block (hkP l2 h3 h4.lt).1,fun p hp=>(h5 p hp).keepG hs hkP,h6⟩
    · rw [List.getElem?_append_right (by omega)] at hx
      rw [List.getElem?_append_right (by rw [←h.len];omega)] at hq;have h0:i - d.cuts.length=0:=by
       rcases Nat.eq_zero_or_pos (i - d.cuts.length) with h|h
       · exact h
       · rw [List.getElem?_eq_none (by simp;omega)] at hx;cases hx
      rw [h0] at hx;rw [←h.len,h0] at hq;injection hx with hx
      injection hq with hq
      subst hx;subst hq;exact ⟨rfl,fun _=>⟨rfl,l,rfl,hl,hm,fun p hp=>(h.rows p hp).keepG hs hkP,h.tells.has⟩⟩
theorem flSnap_full {P:Nat→Prop} {w:World} {M:Nat} {c:Cfg} {rs rh n:Nat} {wd:Wd} {d:FlatD} (h:FW P w M c rs rh n wd d) (hn:n≤100000) (hf:64≤liveF d.cuts) :
 Calls Tryz.prog 81 #[.pointer (some ⟨M,0,none⟩)] w (jP w (repV (repF 6))):=by
 have hcl:d.cuts.length≤900000:=by have:=h.ok.cuts;have:=h.at_.len;omega
 have CL:=jH (fun W (hW:jB w W)=>flLive_any W (h.at_.toFlMem.below hW) hcl);have HC:=jH h.at_.cell;have z:(64:Int)≤((liveF d.cuts:Nat):Int):=by omega
 generalize liveF d.cuts=m at *;clear h hn hcl hf
 go_enter Tryz.func81,Tryz.ntmps81
 go_wp2_with (first
  | (go_at_call 120
     refine calls_named ?_;intro W1 hW1;have HB1:=jH (show jB w W1 by rw [hW1];exact balloc jR _);have HX1:=jH (show W1.heap[w.heap.size]?=some (.cells #[.int .i64 0,.int .i64 0,.int .i64 0,.int .i64 0,.int .i64 0,.int .i64 0,.int .i64 0,.int .i64 0,.int .i64 0,.int .i64 0,.int .i64 0,.int .i64 0,.int .i64 0] 76 (0,0)) by rw [hW1];exact heap_alloc_new _ _);clear hW1;refine (CL.out W1 HB1.out).mono ?_
     rintro e w2 ⟨rfl,hb2⟩;have HB2:=jH (bthen HB1.out hb2);have HX2:=jH (jK hb2 HX1.out);clear hb2;obtain ⟨y1,y2,y3⟩:=box_cells jR HX2.out;obtain ⟨m1,m2,m3⟩:=box_cells HB2.out HC.out))
 refine post_named ?_;intro W9 hW9;have hW9':W9=stor w2 w.heap.size 0 (repC (repF 6)):=hW9;obtain ⟨t1,t2,t3,t4⟩:=stor_at HX2.out (repC (repF 6)) rfl W9 hW9';obtain ⟨a9,a8,a7⟩:=box_cells jR t1;clear hW9 hW9';exact bodyPost_ret (v:=repV (repF 6)) (by simp [results,Tryz.results81,go_sem,a9,repV,repC,repF,st0,adv0]) rfl ⟨rfl,HB2.out.trans (t4 _ (Nat.le_refl _))⟩
theorem flSnap_ok {P:Nat→Prop} {w:World} {M:Nat} {c:Cfg} {rs rh n:Nat} {wd:Wd} {d:FlatD} (h:FW P w M c rs rh n wd d) (hP:∀b,w.heap.size≤b→P b) (hc:CfgOk c rs rh) (hn:n≤100000) (hf:¬64≤liveF d.cuts) :
 Calls Tryz.prog 81 #[.pointer (some ⟨M,0,none⟩)] w (FWSays P w M c rs rh (n+1) d.L (repV ⟨0,wd.ep+1,((d.cuts.length+1:Nat):Int),st0,adv0⟩) { wd with ep:=wd.ep+1,cuts:=wd.cuts++[⟨wd.ep+1,allW wd,false⟩] }):=by
 have hcl:d.cuts.length≤100000:=by have:=h.ok.cuts;have:=h.at_.len;omega
 have hep:=h.ok.ep;have CL:=jH (fun W (hW:jB w W)=>flLive_any W (h.at_.toFlMem.below hW) (by omega));have HC:=jH h.at_.cell;have hav:=h.avoidX (X:=w.heap.size) (Nat.le_refl _) jR
 have HFIN:=jH (show ∀(W8 W9:World) (A:Option Addr) (cp l:Nat),w.heap.size≤W8.heap.size→(∀b,b≠M→b<w.heap.size→W8.heap[b]?=w.heap[b]?)→w.heap.size<l→MapIn skV ldV W8 l d.es →
     W8.heap[M]?=some (.cells #[.int .i64 c.st,.int .i64 c.sa,.int .i64 c.lo,.int .i64 c.hi,.map (some d.L),.slice A (d.cuts++[(⟨wd.ep+1,some l,d.es,false⟩:FCut)]).length cp,.int .i64 (wd.ep+1),.bool wd.over] 97 (0,0)) →
     RowG (fun b=>w.heap.size<b) 3 fcC W8 (.slice A (d.cuts++[(⟨wd.ep+1,some l,d.es,false⟩:FCut)]).length cp) (d.cuts++[(⟨wd.ep+1,some l,d.es,false⟩:FCut)])→W8.os=w.os→W8.tape=w.tape→W8.output=w.output →
     (∀k,k≠w.heap.size→W9.heap[k]?=W8.heap[k]?)→W9.heap.size=W8.heap.size→(∀n,n≤w.heap.size→Below n W8 W9) →
     FWSays P w M c rs rh (n+1) d.L (repV ⟨0,wd.ep+1,((d.cuts.length+1:Nat):Int),st0,adv0⟩) { wd with ep:=wd.ep+1,cuts:=wd.cuts++[⟨wd.ep+1,allW wd,false⟩] } (.returned (repV ⟨0,wd.ep+1,((d.cuts.length+1:Nat):Int),st0,adv0⟩)) W9 from fun W8 W9 A cp l hs hk hl hm hcell hrow ho1 ho2 ho3 h4 h5 h6=>by
   have h1:=hav.at_.snap (m:=n+1) hs hk (l:=l) ⟨hP l (by omega),by omega⟩ hm hcell (hrow.imp (fun b hb=>⟨hP b (by omega),by omega⟩));have hwd:WdOk c rs rh (n+1) { wd with ep:=wd.ep+1,cuts:=wd.cuts++[⟨wd.ep+1,allW wd,false⟩] }:=by
    have h9:=snapW_ok h.ok (okSt_bd _ hc.st).2;unfold snapW at h9;rw [if_neg (by rw [←liveF_law h.at_.toFlMem (fun q hq=>(h.ok.cep q hq).1)];exact hf)] at h9;exact h9
   have h2:Upd w W8 [M,d.L] [M,d.L]:=⟨ho1,ho2,ho3,hs,fun k hlt hn=>hk k (fun e=>hn (by rw [e];simp)) hlt,fun k hk=>.inl hk⟩;have h3:=FW.fin (d:={ d with A:=A,cp:=cp,cuts:=d.cuts++[⟨wd.ep+1,some l,d.es,false⟩] }) ⟨h1,hwd⟩ h.at_.off h2 (Nat.le_refl _) h.at_.lt h.at_.map.lt h4 h5 h6;exact ⟨_,rfl,h3.1,rfl,h3.2⟩)
 have HMP:=jH (show ∀W,(∀b,b≠M→b<w.heap.size→W.heap[b]?=w.heap[b]?)→MapIn skV ldV W d.L d.es from fun W hW=>h.at_.map.block (hW d.L (fun e=>h.at_.ne e.symm) h.at_.map.lt));have HVP:=jH (show ∀W:World,w.heap.size≤W.heap.size→(∀b,b≠M→b<w.heap.size→W.heap[b]?=w.heap[b]?)→RowIn 3 fcC W (.slice d.A d.cuts.length d.cp) d.cuts from fun W hs hW=>(h.at_.row.keepG (Q:=P) hs (fun b hb hlt=>⟨hW b (h.at_.off b hb).1 hlt,hb⟩)).1)
 have HLT:=jH h.at_.lt;have CC:=jH (fun W=>flClip_any d.A d.cuts.length d.cp W (by obtain ⟨A2,c2,hv,hc2,_⟩:=h.at_.row.1;injection hv with _ _ hv;omega));have z:¬(64:Int)≤((liveF d.cuts:Nat):Int):=by omega
 have hel:(d.cuts.length+1:Nat)=d.cuts.length+1:=rfl;generalize liveF d.cuts=m at *;obtain ⟨e1,he1⟩:∃e,e=wd.ep+1:=⟨_,rfl⟩;rw [←he1] at HFIN ⊢;have hw:wrap64 (wd.ep+1)=e1:=by rw [he1];unfold wrap64;omega
 obtain ⟨cuts,hcu⟩:∃l,l=d.cuts:=⟨_,rfl⟩;obtain ⟨A,hA⟩:∃l,l=d.A:=⟨_,rfl⟩;obtain ⟨cp,hcp⟩:∃l,l=d.cp:=⟨_,rfl⟩;rw [←hcu] at HFIN HVP CC HC hcl ⊢;rw [←hA,←hcp] at HVP CC HC;have HCL:=jH hcl;have HE1:=jH he1;clear h hP hc hn hf hep hav hcu hA hcp hcl hel
 go_enter Tryz.func81,Tryz.ntmps81
 go_upto_region 4 with (first
  | (go_at_call 120
     refine calls_named ?_;intro W1 hW1;have HB1:=jH (show jB w W1 by rw [hW1];exact balloc jR _);have HX1:=jH (show W1.heap[w.heap.size]?=some (.cells #[.int .i64 0,.int .i64 0,.int .i64 0,.int .i64 0,.int .i64 0,.int .i64 0,.int .i64 0,.int .i64 0,.int .i64 0,.int .i64 0,.int .i64 0,.int .i64 0,.int .i64 0] 76 (0,0)) by rw [hW1];exact heap_alloc_new _ _);clear hW1;refine (CL.out W1 HB1.out).mono ?_
     rintro e w2 ⟨rfl,hb2⟩;have HB2:=jH (bthen HB1.out hb2);have HX2:=jH (jK hb2 HX1.out);clear hb2;obtain ⟨y1,y2,y3⟩:=box_cells jR HX2.out;obtain ⟨m1,m2,m3⟩:=box_cells HB2.out HC.out))
 clear z he1;refine name_world ?_;intro W3 hW3;have HM3:=jH (show W3.heap[M]?=some (.cells #[.int .i64 c.st,.int .i64 c.sa,.int .i64 c.lo,.int .i64 c.hi,.map (some d.L),.slice A cuts.length cp,.int .i64 e1,.bool wd.over] 97 (0,0)) by rw [hW3,HE1.out];exact setCell_block ((HB2.out.block M HLT.out).trans HC.out));have HX3:=jH (show W3.heap[w.heap.size]?=some (.cells #[.int .i64 0,.int .i64 0,.int .i64 0,.int .i64 0,.int .i64 0,.int .i64 0,.int .i64 0,.int .i64 0,.int .i64 0,.int .i64 0,.int .i64 0,.int .i64 0,.int .i64 0] 76 (0,0)) by rw [hW3];exact heap_set_ne HX2.out (by have:=HLT.out;omega))
 have HK3:=jH (show ∀b,b≠M→b<w.heap.size→W3.heap[b]?=w.heap[b]? from fun b hb hlt=>by rw [hW3];exact (heap_set_ne rfl hb).trans (HB2.out.block b hlt));have HS3:=jH (show w.heap.size≤W3.heap.size by rw [hW3];have:=HB2.out.size;simpa [World.setCell] using this);have HOS3:=jH (show W3.os=w.os∧W3.tape=w.tape∧W3.output=w.output by rw [hW3];exact ⟨HB2.out.os,HB2.out.tape,HB2.out.output⟩);have HV3:=jH (HVP.out W3 HS3.out HK3.out)
 have CMC:=jH (fun (W:World) (hW:jB W3 W)=>flMapClone d.L d.es W ((HMP.out W3 HK3.out).below hW));clear hW3 hw y1 y2 y3 m1 m2 m3;have rk:∀U,jB W3 U→∀j,U.cell? ⟨M,j,none⟩=(#[.int .i64 c.st,.int .i64 c.sa,.int .i64 c.lo,.int .i64 c.hi,.map (some d.L),.slice A cuts.length cp,.int .i64 e1,.bool wd.over]:Array Value)[j]?:=fun U hU j=>(box_cells hU HM3.out).1 j
 have hS0:jB W3 W3.drew:=jR.drew;refine wp_region_E (S:=(fun U=>jB W3 U)) 20 (by kernel_rfl) ?hS1 (fun hHeld=>?_)
 case hS1=>(first|exact hS0|exact HD7.out|exact HD5.out|exact HD8.out|exact balloc HD8.out _|exact HD9.out)
 refine wpAnyE_take (i:=0) (v:=?v2) rfl (by kernel_rfl) (by kernel_rfl) (by kernel_rfl) (by kernel_rfl) (fun _ _ _ h=>h) (Or.inl ⟨by rfl,?hy2⟩) (by assumption) ?_
 case hy2 =>
  intro w' hSw
  (try dsimp only at hSw)
  go_simp
  try (with_reducible rfl)
 try simp only [Act.put,jA]
 refine wpAnyE_take (i:=1) (v:=?v3) rfl (by kernel_rfl) (by kernel_rfl) (by kernel_rfl) (by kernel_rfl) (fun _ _ _ h=>h) (Or.inl ⟨by rfl,?hy3⟩) (by assumption) ?_
 case hy3 =>
  intro w' hSw
  (try dsimp only at hSw)
  go_simp
  try (with_reducible rfl)
 try simp only [Act.put,jA]
 refine wpAnyE_take (i:=2) (v:=?v4) rfl (by kernel_rfl) (by kernel_rfl) (by kernel_rfl) (by kernel_rfl) (fun _ _ _ h=>h) (Or.inl ⟨by rfl,?hy4⟩) (by assumption) ?_
 case hy4 =>
  intro w' hSw
  (try dsimp only at hSw)
  go_simp
  try (with_reducible rfl)
 try simp only [Act.put,jA]
 refine wpAnyE_take (i:=3) (v:=?v5) rfl (by kernel_rfl) (by kernel_rfl) (by kernel_rfl) (by kernel_rfl) (fun _ _ _ h=>h) (Or.inl ⟨by rfl,?hy5⟩) (by assumption) ?_
 case hy5 =>
  intro w' hSw
  (try dsimp only at hSw)
  go_simp
  try (with_reducible rfl)
 try simp only [Act.put,jA]
 refine wpAnyE_take (i:=4) (v:=?v6) rfl (by kernel_rfl) (by kernel_rfl) (by kernel_rfl) (by kernel_rfl) (fun _ _ _ h=>h) (Or.inl ⟨by rfl,?hy6⟩) (by assumption) ?_
 case hy6 =>
  intro w' hSw
  (try dsimp only at hSw)
  go_simp
  try (with_reducible rfl)
 try simp only [Act.put,jA]
 refine wpAnyE_take (i:=6) (v:=?v7) rfl (by kernel_rfl) (by kernel_rfl) (by kernel_rfl) (by kernel_rfl) (fun _ _ _ h=>h) (Or.inl ⟨by rfl,?hy7⟩) (by assumption) ?_
 case hy7 =>
  intro w' hSw
  (try dsimp only at hSw)
  go_simp
  try (with_reducible rfl)
 try simp only [Act.put,jA]
 refine wpAnyE_take (i:=7) (v:=?v8) rfl (by kernel_rfl) (by kernel_rfl) (by kernel_rfl) (by kernel_rfl) (fun _ _ _ h=>h) (Or.inl ⟨by rfl,?hy8⟩) (by assumption) ?_
 case hy8 =>
  intro w' hSw
  (try dsimp only at hSw)
  go_simp
  try (with_reducible rfl)
 try simp only [Act.put,jA]
 refine wpAnyE_take (i:=8) (v:=?v9) rfl (by kernel_rfl) (by kernel_rfl) (by kernel_rfl) (by kernel_rfl) (fun _ _ _ h=>h) (Or.inl ⟨by rfl,?hy9⟩) (by assumption) ?_
 case hy9 =>
  intro w' hSw
  (try dsimp only at hSw)
  go_simp
  try (with_reducible rfl)
 try simp only [Act.put,jA]
 refine wpAnyE_take (i:=9) (v:=?v10) rfl (by kernel_rfl) (by kernel_rfl) (by kernel_rfl) (by kernel_rfl) (fun _ _ _ h=>h) (Or.inl ⟨by rfl,?hy10⟩) (by assumption) ?_
 case hy10 =>
  intro w' hSw
  (try dsimp only at hSw)
  go_simp
  try (with_reducible rfl)
 try simp only [Act.put,jA]
 refine wpAnyE_take (i:=10) (v:=?v11) rfl (by kernel_rfl) (by kernel_rfl) (by kernel_rfl) (by kernel_rfl) (fun _ _ _ h=>h) (Or.inl ⟨by rfl,?hy11⟩) (by assumption) ?_
 case hy11 =>
  intro w' hSw
  (try dsimp only at hSw)
  go_simp
  try (with_reducible rfl)
 try simp only [Act.put,jA]
 refine wpAnyE_take (i:=11) (v:=?v12) rfl (by kernel_rfl) (by kernel_rfl) (by kernel_rfl) (by kernel_rfl) (fun _ _ _ h=>h) (Or.inl ⟨by rfl,?hy12⟩) (by assumption) ?_
 case hy12 =>
  intro w' hSw
  (try dsimp only at hSw)
  go_simp
  try (with_reducible rfl)
 try simp only [Act.put,jA]
 refine wpAnyE_take (i:=12) (v:=?v13) rfl (by kernel_rfl) (by kernel_rfl) (by kernel_rfl) (by kernel_rfl) (fun _ _ _ h=>h) (Or.inl ⟨by rfl,?hy13⟩) (by assumption) ?_
 case hy13 =>
  intro w' hSw
  (try dsimp only at hSw)
  go_simp
  try (with_reducible rfl)
 try simp only [Act.put,jA]
 refine wpAnyE_take (i:=13) (v:=?v14) rfl (by kernel_rfl) (by kernel_rfl) (by kernel_rfl) (by kernel_rfl) (fun _ _ _ h=>h) (Or.inl ⟨by rfl,?hy14⟩) (by assumption) ?_
 case hy14 =>
  intro w' hSw
  (try dsimp only at hSw)
  go_simp
  try (with_reducible rfl)
 try simp only [Act.put,jA]
 refine wpAnyE_one (i:=5) (by kernel_rfl) rfl (fun K hK=>?_);go_simp
 (go_at_call 121
  refine calls_named ?_;intro V hV;have hd:jB W3 V:=by rw [hV];first|exact jR.drew|exact jR
  skip;clear hV;refine (CC.out V).mono ?_;rintro e w7 ⟨rfl,rfl⟩;have HD7:=jH hd
  skip;clear hd)
 try go_simp
 refine hK.out _ _ ?hS15 (fun hHeld2=>?_)
 case hS15 =>
  intro _
  (first|exact hS0|exact HD7.out|exact HD5.out|exact HD8.out|exact balloc HD8.out _|exact HD9.out)
 clear hK K hHeld;have hHeld:=hHeld2 (by kernel_rfl);clear hHeld2
 try simp only [Act.put,jA]
 refine wpAnyE_one (i:=14) (by kernel_rfl) rfl (fun K hK=>?_);go_simp
 (go_at_call 49
  refine calls_named ?_;intro V hV;have hd:jB W3 V:=by rw [hV];first|exact HD7.out|exact HD7.out.drew
  clear hV;refine (CMC.out V hd).mono ?_;rintro e w8 ⟨rfl,hm5,hb5⟩;have HD8:=jH (bthen hd hb5);have HM8:=jH hm5;have HL6:=jH hd.size;obtain ⟨b6,hb6⟩:∃b,b=V.heap.size:=⟨_,rfl⟩;rw [←hb6] at HM8 HL6 ⊢;clear hb6 hd hm5 hb5)
 try go_simp
 refine hK.out _ _ ?hS16 (fun hHeld2=>?_)
 case hS16 =>
  intro _
  (first|exact hS0|exact HD7.out|exact HD5.out|exact HD8.out|exact balloc HD8.out _|exact HD9.out)
 clear hK K hHeld;have hHeld:=hHeld2 (by kernel_rfl);clear hHeld2
 try simp only [Act.put,jA]
 refine wpAnyE_take (i:=15) (v:=?v17) rfl (by kernel_rfl) (by kernel_rfl) (by kernel_rfl) (by kernel_rfl) (fun _ _ _ h=>h) (Or.inl ⟨by rfl,?hy17⟩) (by assumption) ?_
 case hy17 =>
  intro w' hSw
  (try dsimp only at hSw)
  go_simp
  try (with_reducible rfl)
 try simp only [Act.put,jA]
 refine wpAnyE_one (i:=16) (by kernel_rfl) rfl (fun K hK=>?_);go_simp
 skip
 try go_simp
 refine hK.out _ _ ?hS18 (fun hHeld2=>?_)
 case hS18 =>
  intro _
  (first|exact hS0|exact HD7.out|exact HD5.out|exact HD8.out|exact balloc HD8.out _|exact HD9.out)
 clear hK K hHeld;have hHeld:=hHeld2 (by kernel_rfl);clear hHeld2
 try simp only [Act.put,jA]
 refine wpAnyE_one (i:=17) (by kernel_rfl) rfl (fun K hK=>?_)
 (refine step_appendC eFc (by rfl) (.tmp 19) (.tmp 30) (by rfl) cuts [(⟨e1,some b6,d.es,false⟩:FCut)] A _ (by rfl) (by rfl) (RowIn.clip (HV3.out.below (balloc HD8.out _))) (RowIn.lit (n:=3) (f:=fcC) w8 (⟨e1,some b6,d.es,false⟩:FCut) _ _ _ rfl rfl) (by simp) (by have:=HCL.out;simp;omega) ?_
  intro out c9 w9 hout hown hb9;rw [show (w8.alloc (.cells #[.int .i64 e1,.map (some b6),.bool false] 108)).heap.size=w8.heap.size+1 by simp] at hown;have HO9:=jH hown;have HE9:=jH hout;have HD9:=jH (bthen (balloc HD8.out (.cells #[.int .i64 e1,.map (some b6),.bool false] 108)) hb9);have HM9:=jH (HM8.out.below (bthen (balloc jR (.cells #[.int .i64 e1,.map (some b6),.bool false] 108)) hb9));have HS9:=jH (show w.heap.size≤w8.heap.size+1 from Nat.le_succ_of_le (Nat.le_trans HS3.out HD8.out.size))
  obtain ⟨k1,k2,k3⟩:=box_cells HD9.out HM3.out;clear hown hout hb9)
 refine hK.out _ _ ?hS19 (fun hHeld2=>?_)
 case hS19 =>
  intro _
  (first|exact hS0|exact HD7.out|exact HD5.out|exact HD8.out|exact balloc HD8.out _|exact HD9.out)
 clear hK K hHeld;have hHeld:=hHeld2 (by kernel_rfl);clear hHeld2
 try simp only [Act.put,jA]
 refine wpAnyE_take (i:=18) (v:=?v20) rfl (by kernel_rfl) (by kernel_rfl) (by kernel_rfl) (by kernel_rfl) (fun _ _ _ h=>h) (Or.inl ⟨by rfl,?hy20⟩) (by assumption) ?_
 case hy20 =>
  intro w' hSw
  (try dsimp only at hSw)
  go_simp
  try (with_reducible rfl)
 try simp only [Act.put,jA]
 refine wpAnyE_take (i:=19) (v:=?v21) rfl (by kernel_rfl) (by kernel_rfl) (by kernel_rfl) (by kernel_rfl) (fun _ _ _ h=>h) (Or.inl ⟨by rfl,?hy21⟩) (by assumption) ?_
 case hy21 =>
  intro w' hSw
  (try dsimp only at hSw)
  go_simp
  try (with_reducible rfl)
 try simp only [Act.put,jA]
 refine wpAnyE_one (i:=20) (by kernel_rfl) rfl (fun K hK=>?_);go_simp
 skip
 try go_simp
 refine hK.out _ _ ?hS22 (fun hHeld2=>?_)
 case hS22=>exact fun h=>nomatch (show (true:Bool)=false from h)
 clear hK K hHeld hHeld2
 try simp only [Act.put,jA]
 refine wpAnyE_done (by kernel_rfl) ?_ _;refine then_named ?_;intro W9 hW9;have HM10:=jH (show W9.heap[M]?=some (.cells #[.int .i64 c.st,.int .i64 c.sa,.int .i64 c.lo,.int .i64 c.hi,.map (some d.L),.slice (some ⟨w8.heap.size+1,0,none⟩) out.length c9,.int .i64 e1,.bool wd.over] 97 (0,0)) by rw [hW9];exact setCell_block ((HD9.out.block M (jL HM3.out)).trans HM3.out));have hRM:w.heap.size≠M:=by have:=HLT.out;omega
 have hX9:=jK HD9.out HX3.out;have HX10:=jH ((show W9.heap[w.heap.size]?=w9.heap[w.heap.size]? by rw [hW9];exact heap_set_ne rfl hRM).trans hX9);have HK10:=jH (show ∀b,b≠M→b<w.heap.size→W9.heap[b]?=w.heap[b]? from fun b hb hlt=>by rw [hW9];exact ((heap_set_ne rfl hb).trans (HD9.out.block b (Nat.lt_of_lt_of_le hlt HS3.out))).trans (HK3.out b hb hlt));have HZ10:=jH (show W9.heap.size=w9.heap.size by simp [hW9,World.setCell])
 have HOS10:=jH (show W9.os=w.os∧W9.tape=w.tape∧W9.output=w.output by rw [hW9];exact ⟨HD9.out.os.trans HOS3.out.1,HD9.out.tape.trans HOS3.out.2.1,HD9.out.output.trans HOS3.out.2.2⟩);have hMlt:M<W3.heap.size:=(jL HM3.out);have HR10:=jH (show w.heap.size<W3.heap.size from (jL HX3.out));have HMM10:=jH (show MapIn skV ldV W9 b6 d.es from HM9.out.block (by rw [hW9];exact heap_set_ne rfl (by have:=HL6.out;omega)))
 have HOW10:=jH (show OwnL fcC 108 3 (w8.heap.size+1) W9 (.slice (some ⟨w8.heap.size+1,0,none⟩) out.length c9) out from HO9.out.kept (fun r hr=>by rw [hW9];exact heap_set_ne rfl (by have hr2:w8.heap.size+1=r:=(by simpa [Value.ownBlock] using hr);have:=HD8.out.size;omega)));clear hW9 hRM hX9 hMlt k1 k2 k3 rk hS0
 go_upto_region 5 with fail
 obtain ⟨y1,y2,y3⟩:=box_cells jR HX10.out;obtain ⟨m1,m2,m3⟩:=box_cells jR HM10.out
 go_region
 go_wp2_with fail
 refine post_named ?_;intro V9 hV9;have hV9':V9=(stor W9 w.heap.size 0 (repC ⟨0,e1,((out.length:Nat):Int),st0,adv0⟩)).drew:=hV9;obtain ⟨U,hU⟩:∃U,U=stor W9 w.heap.size 0 (repC ⟨0,e1,((out.length:Nat):Int),st0,adv0⟩):=⟨_,rfl⟩;rw [←hU] at hV9';obtain ⟨t1,t2,t3,t4⟩:=stor_at HX10.out (repC ⟨0,e1,((out.length:Nat):Int),st0,adv0⟩) rfl U hU;obtain ⟨a9,a8,a7⟩:=box_cells (show jB U V9 by rw [hV9'];exact jR.drew) t1
 clear hV9;have hr3:=HR10.out;have hl6:=HL6.out;have hd8:=HD8.out.size;have hfin:=HFIN.out W9 V9 (some ⟨w8.heap.size+1,0,none⟩) c9 b6 (by rw [HZ10.out];exact Nat.le_trans HS3.out HD9.out.size) HK10.out (by omega) HMM10.out (by rw [←HE9.out];exact HM10.out) (by rw [←HE9.out];exact (RowG.own eFc HOW10.out).imp (fun b hb=>by omega)) HOS10.out.1 HOS10.out.2.1 HOS10.out.2.2 (fun k hk=>by rw [hV9'];exact t2 k hk) (by rw [hV9'];exact t3) (fun n hn=>by rw [hV9'];exact (t4 n hn).drew)
 have hlen:out.length=cuts.length+1:=by rw [HE9.out];simp
 rw [←hlen] at hfin ⊢;exact bodyPost_ret (v:=repV ⟨0,e1,((out.length:Nat):Int),st0,adv0⟩) (by simp [results,Tryz.results81,go_sem,a9,repV,repC,st0,adv0]) rfl hfin
theorem flSnap_any {P:Nat→Prop} {w:World} {M:Nat} {c:Cfg} {rs rh n:Nat} {wd:Wd} {d:FlatD} (h:FW P w M c rs rh n wd d) (hP:∀b,w.heap.size≤b→P b) (hc:CfgOk c rs rh) (hn:n≤100000) :
 Calls Tryz.prog 81 #[.pointer (some ⟨M,0,none⟩)] w (FWSays P w M c rs rh (n+1) d.L (repV (snapW wd).2) (snapW wd).1):=by
 have hl:=liveF_law h.at_.toFlMem (fun q hq=>(h.ok.cep q hq).1);unfold snapW
 by_cases hf:64≤liveF d.cuts
 · rw [if_pos (by rw [←hl];exact hf)]
   refine (flSnap_full h hn hf).mono ?_;rintro e w' ⟨rfl,hb⟩;exact h.same (Nat.le_succ _) hb
 · rw [if_neg (by rw [←hl];exact hf)]
   have h9:=flSnap_ok h hP hc hn hf;rw [h.at_.len] at h9;exact h9
end
end Go.Proofs.YtkcdhaallnhhmaaGreat
