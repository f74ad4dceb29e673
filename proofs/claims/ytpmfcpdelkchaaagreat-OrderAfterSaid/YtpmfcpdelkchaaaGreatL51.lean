/- Part 51 of the proof: RefAft. -/
import Derived.Test.YtpmfcpdelkchaaaGreatL49
namespace Go.Proofs.YtpmfcpdelkchaaaGreat
set_option linter.unusedSimpArgs false
set_option linter.unusedVariables false
set_option linter.unusedSectionVars false
set_option maxRecDepth 100000
set_option maxHeartbeats 16000000
section
open Go.RowKit Go.Lib
structure AftAt (P:Nat→Prop) (w wr:World) (R X:Nat) (c:Cfg) (wd:Wd) (x:WdH):Prop where
 wo:WdIn (fun b=>P b∧b≠R∧b≠X) wr x
 abs:absW x=wd
 box:wr.heap[X]?=some (.cells #[.int .i64 c.st,.int .i64 c.sa,.int .i64 c.lo,.int .i64 c.hi,.slice x.sA x.st.length x.sc,.slice x.cA x.cuts.length x.cc,.int .i64 x.ep,.bool x.over] 32 (0,0))
 res:wr.heap[R]?=some (.cells #[.int .i64 0,.int .i64 0,.int .i64 0,.int .i64 0,.slice none 0 0,.slice none 0 0,.int .i64 0,.bool false] 32 (0,0))
 b:jB w wr
 ne:R≠X
 low:w.heap.size≤R∧w.heap.size≤X
theorem AftAt.lt {P:Nat→Prop} {w wr:World} {R X:Nat} {c:Cfg} {wd:Wd} {x:WdH} (h:AftAt P w wr R X c wd x):R<wr.heap.size∧X<wr.heap.size :=
 ⟨(Array.getElem?_eq_some_iff.1 h.res).1,(Array.getElem?_eq_some_iff.1 h.box).1⟩
theorem AftAt.put {P:Nat→Prop} {w wr u W9:World} {R X:Nat} {c:Cfg} {wd wd':Wd} {x x':WdH} (h:AftAt P w wr R X c wd x) (hb:jB wr u) (hw:WdIn (fun b=>P b∧b≠R∧b≠X) u x') (ha:absW x'=wd')
    (h2:∀k,k≠X→W9.heap[k]?=u.heap[k]?) (h3:W9.heap.size=u.heap.size) (h4:∀n,n≤X→Below n u W9) (h1:W9.heap[X]?=some (.cells #[.int .i64 c.st,.int .i64 c.sa,.int .i64 c.lo,.int .i64 c.hi,.slice x'.sA x'.st.length x'.sc,.slice x'.cA x'.cuts.length x'.cc,.int .i64 x'.ep,.bool x'.over] 32 (0,0))):AftAt P w W9 R X c wd' x' :=
  ⟨hw.keepP (Nat.le_of_eq h3.symm) (fun b hb _=>h2 b hb.2.2),ha,h1,(h2 R h.ne).trans ((hb.block R h.lt.1).trans h.res),(bthen h.b hb).trans (h4 _ h.low.2),h.ne,h.low⟩
theorem AftAt.put9 {P:Nat→Prop} {w wr u W9:World} {R X:Nat} {c:Cfg} {wd wd':Wd} {x x':WdH} (h:AftAt P w wr R X c wd x) (hb:jB wr u) (hw:WdIn (fun b=>P b∧b≠R∧b≠X) u x') (ha:absW x'=wd') (h9:W9=stor u X 0 [.int .i64 c.st,.int .i64 c.sa,.int .i64 c.lo,.int .i64 c.hi,.slice x'.sA x'.st.length x'.sc,.slice x'.cA x'.cuts.length x'.cc,.int .i64 x'.ep,.bool x'.over]):AftAt P w W9 R X c wd' x':=by
 obtain ⟨t1,t2,t3,t4⟩:=stor_at ((hb.block _ h.lt.2).trans h.box) [.int .i64 c.st,.int .i64 c.sa,.int .i64 c.lo,.int .i64 c.hi,.slice x'.sA x'.st.length x'.sc,.slice x'.cA x'.cuts.length x'.cc,.int .i64 x'.ep,.bool x'.over] rfl W9 h9;exact h.put hb hw ha t2 t3 t4 t1
theorem aft_end {P:Nat→Prop} {w wr W9:World} {R X:Nat} {c:Cfg} {wd:Wd} {x:WdH} (h:AftAt P w wr R X c wd x)
    (h2:∀k,k≠R→W9.heap[k]?=wr.heap[k]?) (h3:W9.heap.size=wr.heap.size) (h4:∀n,n≤R→Below n wr W9):Wd21Says P w c wd (.returned (.agg (wdC c x).toArray)) W9 :=
  ⟨x,rfl,(h.wo.keepP (Nat.le_of_eq h3.symm) (fun b hb _=>h2 b hb.2.1)).imp (fun b hb=>hb.1),h.abs,h.b.trans (h4 _ h.low.1)⟩
theorem refAfter_any (P:Nat→Prop) (c:Cfg) (rs rh k0:Nat) (n:Int) (v:Value) (es:List EvtD) (w:World) (hP:∀b,w.heap.size≤b→P b) (hc:CfgOk c rs rh) (hk0:(k0:Int)=c.st) (he:RowIn 34 evC w v es) (heok:∀e∈es,e.ok) (hel:es.length≤100) :
 Calls Tryz.prog 45 #[cfgV c,v,.int .i64 n] w (Wd21Says P w c (afterE c rs rh (newW k0) (es.take n.toNat))):=by
 obtain ⟨A,cp,rfl,hAc,h0⟩:=id he;clear h0;have hbd:=okSt_bd _ hc.st;have hlo9:c.lo≤256:=by have:=hc.cfg;unfold cfgB at this;simp only [Bool.and_eq_true,decide_eq_true_eq] at this;omega
 have HE:=jH he;have HAC:=jH hAc;have HEOK:=jH heok;have HEL:=jH hel;have q9:(es.length:Int)≤100:=by omega
 have HCC:=jH hc;have HPP:=jH hP;have HWK:=jH (fun (k:Nat)=>show WdOk c rs rh 100 (afterE c rs rh (newW k0) (es.take k)) from
  (afterE_ok hbd.2 hlo9 hc.room.h1 (newW_ok c rs rh k0 hk0) (fun e he=>heok e (List.mem_of_mem_take he))).mono (by rw [List.length_take];omega))
 have CF:=jH (fun W P' hP'=>new21_any P' c k0 W hP' hk0 (by omega));unfold cfgV at CF ⊢;clear he hAc heok hel hbd hlo9
 go_enter Tryz.func45,Tryz.ntmps45
 go_upto_region 1 with fail
 refine name_world ?_;intro W1 hW1;have hb1:jB w W1:=by rw [hW1];exact balloc (balloc jR _) _
 have hc1:W1.heap[w.heap.size]?=some (.cells #[.int .i64 c.st,.int .i64 c.sa,.int .i64 c.lo,.int .i64 c.hi] 23 (0,0)):=by rw [hW1];exact box_old _ _ _
 have hr1:W1.heap[w.heap.size+1]?=some (.cells #[.int .i64 0,.int .i64 0,.int .i64 0,.int .i64 0,.slice none 0 0,.slice none 0 0,.int .i64 0,.bool false] 32 (0,0)):=by rw [hW1];exact box_new _ _ _
 clear hW1 hc hk0 hP;have HB1:=jH hb1;have HR1:=jH hr1;obtain ⟨c1,c2,c3⟩:=box_cells jR hc1;clear hb1 hc1 hr1
 go_upto_region 2 with (first
  | (go_at_call 16
     refine (CF.out W1 (fun b=>P b∧b≠w.heap.size+1) (fun b hb=>⟨HPP.out b (Nat.le_trans HB1.out.size hb),by have:=(jL HR1.out);omega⟩)).mono ?_;rintro e w2 ⟨x0,rfl,hx0,hab0,hb⟩;unfold wdC;have HX2:=jH hx0;have HAB2:=jH hab0;have HB12:=jH hb;clear hx0 hab0 hb c1 c2 c3))
 refine name_world ?_;intro W3 hW3;have HP0:=jH (show AftAt P w W3 (w.heap.size+1) w2.heap.size c (newW k0) x0 by
  have hd:jB w2 W3:=by rw [hW3];exact balloc jR _
  have hlt:=(jL HR1.out);have hs1:=HB12.out.size;have hs0:=HB1.out.size;refine ⟨(HX2.out.old.below hd).imp (fun b hb=>⟨hb.1.1,hb.1.2,by have:=hb.2;omega⟩),HAB2.out,by rw [hW3];exact heap_alloc_new _ _,((bthen HB12.out hd).block _ hlt).trans HR1.out,bthen HB1.out (bthen HB12.out hd),by omega,by omega,by omega⟩)
 clear hW3;generalize w2.heap.size=X at HP0;generalize w.heap.size+1=R at HP0
 try go_wp2_with fail
 go_loopg [8] es.length (fun g s8 wr=>∃(k:Nat) (x:WdH),k≤es.length∧es.length - k≤g∧s8=.int .i64 k∧AftAt P w wr R X c (afterE c rs rh (newW k0) (es.take k)) x∧k≤n.toNat)
 case atStart=>exact ⟨0,x0,Nat.zero_le _,Nat.le_refl _,rfl,HP0.out,Nat.zero_le _⟩
 case round =>
  obtain ⟨k,x,hk,hg,rfl,hp,hkn⟩:=hrel;rename World=>wr
  have HP:=jH hp;have HKN:=jH hkn;clear hp hkn HP0
  by_cases hgo:k<es.length∧(k:Int)<n
  · obtain ⟨hlt,hnk⟩:=hgo
    have z1:(k:Int)<(es.length:Int):=by omega
    have z2:(0:Int)≤(k:Int):=by omega
    obtain ⟨b1,o1,rfl,hb1,hc⟩:=(HE.out.below HP.out.b).at_ hlt;have hcl:(evC es[k]).length=34:=rfl;have HAF:=jH (show afterE c rs rh (newW k0) (es.take (k+1))=(applyE c rs rh (afterE c rs rh (newW k0) (es.take k)) es[k]).1 by rw [List.take_succ_eq_append_getElem hlt,afterE_snoc]);have CA:=jH (fun W (hW:jB wr W)=>refAp_any (P:=fun b=>P b∧b≠R∧b≠X) (w:=W) (x:=x) (fun b hb=>⟨HPP.out b (Nat.le_trans (bthen HP.out.b hW).size hb),by have:=HP.out.lt;have:=hW.size;omega,by have:=HP.out.lt;have:=hW.size;omega⟩) (HP.out.wo.below hW) HCC.out.room HCC.out.st (by rw [HP.out.abs];exact HWK.out k) (by omega) es[k] (HEOK.out _ (List.getElem_mem hlt)))
    rw [HP.out.abs] at CA;obtain ⟨cs,hcs⟩:∃cs,cs=evC es[k]:=⟨_,rfl⟩;unfold wdC at CA;obtain ⟨r,hr⟩:∃r,r=applyE c rs rh (afterE c rs rh (newW k0) (es.take k)) es[k]:=⟨_,rfl⟩;rw [←hr] at CA HAF;obtain ⟨nw,nb⟩:=r;have CA9:=jH (fun W (hW:jB wr W)=>show Calls Tryz.prog 90 #[.agg #[.int .i64 c.st,.int .i64 c.sa,.int .i64 c.lo,.int .i64 c.hi,.slice x.sA x.st.length x.sc,.slice x.cA x.cuts.length x.cc,.int .i64 x.ep,.bool x.over],.agg cs.toArray] W fun e w'=>∃x',e=.returned (.tuple #[.agg #[.int .i64 c.st,.int .i64 c.sa,.int .i64 c.lo,.int .i64 c.hi,.slice x'.sA x'.st.length x'.sc,.slice x'.cA x'.cuts.length x'.cc,.int .i64 x'.ep,.bool x'.over],.bool nb])∧WdIn (fun b=>P b∧b≠R∧b≠X) w' x'∧absW x'=nw∧jB W w' by rw [hcs];exact CA.out W hW)
    rw [←hcs] at hc hcl;have HC:=jH hc;have HCL:=jH hcl;have HB1':=jH hb1;have HHL:=jH (And.intro hlt hnk);clear hc hcl hcs hr CA;obtain ⟨y1,y2,y3⟩:=box_cells jR HP.out.box;have rx:∀U,jB wr U→∀i,U.cell? ⟨X,i,none⟩=(#[.int .i64 c.st,.int .i64 c.sa,.int .i64 c.lo,.int .i64 c.hi,.slice x.sA x.st.length x.sc,.slice x.cA x.cuts.length x.cc,.int .i64 x.ep,.bool x.over]:Array Value)[i]?:=fun U hU i=>(box_cells hU HP.out.box).1 i
    have hS00:jB wr wr:=jR;have hS0:jB wr wr.drew:=hS00.drew
    go_upto_region 5 with fail
    refine wp_region_E (S:=(fun U=>jB wr U)) 9 (by kernel_rfl) ?hS1 (fun hHeld=>?_)
    case hS1=>(first|exact hS0|exact HB8.out)
    refine wpAnyE_take (i:=0) (v:=?v2) rfl (by kernel_rfl) (by kernel_rfl) (by kernel_rfl) (by kernel_rfl) (fun _ _ _ h=>h) (Or.inl ⟨by rfl,?hy2⟩) (by assumption) ?_
    case hy2 =>
     intro w' hSw
     (try dsimp only at hSw)
     go_simp
     try (with_reducible rfl)
    try simp only [Act.put,jA]
    refine wpAnyE_takeP (i:=1) (v:=?v3) rfl (by kernel_rfl) (by kernel_rfl) (by kernel_rfl) (by kernel_rfl) (fun _ _ _ h=>h) (Or.inl ⟨by rfl,?hy3⟩) (by assumption) ?_
    case hy3 =>
     intro w' hSw;clear hSw;go_simp
     try (with_reducible rfl)
    try simp only [Act.put,jA]
    refine wpAnyE_takeP (i:=2) (v:=?v4) rfl (by kernel_rfl) (by kernel_rfl) (by kernel_rfl) (by kernel_rfl) (fun _ _ _ h=>h) (Or.inl ⟨by rfl,?hy4⟩) (by assumption) ?_
    case hy4 =>
     intro w' hSw;clear hSw;go_simp
     try (with_reducible rfl)
    try simp only [Act.put,jA]
    refine wpAnyE_takeP (i:=3) (v:=?v5) rfl (by kernel_rfl) (by kernel_rfl) (by kernel_rfl) (by kernel_rfl) (fun _ _ _ h=>h) (Or.inl ⟨by rfl,?hy5⟩) (by assumption) ?_
    case hy5 =>
     intro w' hSw;clear hSw;go_simp
     try (with_reducible rfl)
    try simp only [Act.put,jA]
    refine wpAnyE_take (i:=4) (v:=.agg (cs).toArray) rfl (by kernel_rfl) (by kernel_rfl) (by kernel_rfl) (by kernel_rfl) (fun _ _ _ h=>h) (yieldsIf_load_mid (by rfl) 97 (.tmp 26) (by rfl) b1 ((o1+k * 34)) (by rfl) (cs) _ (fun U hU j v hj=>(hU.cell (p:=⟨b1,_,none⟩) HB1'.out).trans (HC.out j v hj)) Tryz.underlying97 (by rfl) (by rw [HCL.out];kernel_rfl)) (by assumption) ?_
    try simp only [Act.put,jA]
    refine wpAnyE_one (i:=5) (by kernel_rfl) rfl (fun K hK=>?_);go_simp
    (go_at_call 90
     refine calls_named ?_;intro V hV;have hd:jB wr V:=by rw [hV];first|exact hS0|exact hS00
     clear hV;refine (CA9.out V hd).mono ?_;rintro e u ⟨x',rfl,hw,ha,hb⟩;have HW8:=jH hw;have HA8:=jH ha;have HB8:=jH (bthen hd hb);have HX8:=jH ((HB8.out.block _ (Array.getElem?_eq_some_iff.1 HP.out.box).1).trans HP.out.box);clear y1 y2 y3;obtain ⟨y1,y2,y3⟩:=box_cells jR HX8.out;clear hd hw ha hb)
    try go_simp
    refine hK.out _ _ ?hS6 (fun hHeld2=>?_)
    case hS6 =>
     intro _
     (first|exact hS0|exact HB8.out)
    clear hK K hHeld;have hHeld:=hHeld2 (by kernel_rfl);clear hHeld2
    try simp only [Act.put,jA]
    refine wpAnyE_takeP (i:=6) (v:=?v7) rfl (by kernel_rfl) (by kernel_rfl) (by kernel_rfl) (by kernel_rfl) (fun _ _ _ h=>h) (Or.inl ⟨by rfl,?hy7⟩) (by assumption) ?_
    case hy7 =>
     intro w' hSw;clear hSw;go_simp
     try (with_reducible rfl)
    try simp only [Act.put,jA]
    refine wpAnyE_takeP (i:=7) (v:=?v8) rfl (by kernel_rfl) (by kernel_rfl) (by kernel_rfl) (by kernel_rfl) (fun _ _ _ h=>h) (Or.inl ⟨by rfl,?hy8⟩) (by assumption) ?_
    case hy8 =>
     intro w' hSw;clear hSw;go_simp
     try (with_reducible rfl)
    try simp only [Act.put,jA]
    refine wpAnyE_takeP (i:=8) (v:=?v9) rfl (by kernel_rfl) (by kernel_rfl) (by kernel_rfl) (by kernel_rfl) (fun _ _ _ h=>h) (Or.inl ⟨by rfl,?hy9⟩) (by assumption) ?_
    case hy9 =>
     intro w' hSw;clear hSw;go_simp
     try (with_reducible rfl)
    try simp only [Act.put,jA]
    refine wpAnyE_one (i:=9) (by kernel_rfl) rfl (fun K hK=>?_);go_simp
    skip
    try go_simp
    refine hK.out _ _ ?hS10 (fun hHeld2=>?_)
    case hS10=>exact fun h=>nomatch (show (true:Bool)=false from h)
    clear hK K hHeld hHeld2
    try simp only [Act.put,jA]
    refine wpAnyE_done (by kernel_rfl) ?_ _;go_wp2_with fail
    go_roundg (es.length - (k+1))
    case measure=>omega
    case rel=>exact ⟨k+1,x',HHL.out.1,Nat.le_refl _,by go_num,by rw [HAF.out];exact HP.out.put9 HB8.out HW8.out HA8.out rfl,by have:=HHL.out.2;omega⟩
  · have HTK:=jH (show es.take n.toNat=es.take k by
     rcases Nat.lt_or_ge k es.length with h1|h1
     · have h2:¬(k:Int)<n:=fun h=>hgo ⟨h1,h⟩
       have:n.toNat=k:=by have:=HKN.out;omega
       rw [this]
     · rw [List.take_of_length_le h1,List.take_of_length_le (by have:=HKN.out;omega)])
    have HPK:=jH (show AftAt P w wr R X c (afterE c rs rh (newW k0) (es.take n.toNat)) x by rw [HTK.out];exact HP.out);obtain ⟨y1,y2,y3⟩:=box_cells jR HP.out.box;obtain ⟨g1,g2,g3⟩:=box_cells jR HP.out.res;have HNE:=jH HP.out.ne
    by_cases hlt:k<es.length
    · have z1:(k:Int)<(es.length:Int):=by omega
      have z2:¬(k:Int)<n:=fun h=>hgo ⟨hlt,h⟩
      have hne:¬R=X:=HNE.out;have hne2:¬X=R:=fun h=>HNE.out h.symm
      clear hgo;go_wp2_with fail
      refine post_named ?_;intro W9 hW9;have hW9':W9=stor wr R 0 [.int .i64 c.st,.int .i64 c.sa,.int .i64 c.lo,.int .i64 c.hi,.slice x.sA x.st.length x.sc,.slice x.cA x.cuts.length x.cc,.int .i64 x.ep,.bool x.over]:=hW9;obtain ⟨t1,t2,t3,t4⟩:=stor_at HP.out.res [.int .i64 c.st,.int .i64 c.sa,.int .i64 c.lo,.int .i64 c.hi,.slice x.sA x.st.length x.sc,.slice x.cA x.cuts.length x.cc,.int .i64 x.ep,.bool x.over] rfl W9 hW9'
      obtain ⟨a9,a8,a7⟩:=box_cells jR t1;have HEND:=jH (aft_end HPK.out t2 t3 t4);unfold wdC at HEND;clear hW9 hW9' t1 t2 t3 t4;exact bodyPost_ret (v:=.agg #[.int .i64 c.st,.int .i64 c.sa,.int .i64 c.lo,.int .i64 c.hi,.slice x.sA x.st.length x.sc,.slice x.cA x.cuts.length x.cc,.int .i64 x.ep,.bool x.over]) (by simp [results,Tryz.results45,go_sem,a9]) rfl HEND.out
    · have z1:¬(k:Int)<(es.length:Int):=by omega
      have hne:¬R=X:=HNE.out;have hne2:¬X=R:=fun h=>HNE.out h.symm
      clear hgo;go_wp2_with fail
      refine post_named ?_;intro W9 hW9;have hW9':W9=stor wr R 0 [.int .i64 c.st,.int .i64 c.sa,.int .i64 c.lo,.int .i64 c.hi,.slice x.sA x.st.length x.sc,.slice x.cA x.cuts.length x.cc,.int .i64 x.ep,.bool x.over]:=hW9;obtain ⟨t1,t2,t3,t4⟩:=stor_at HP.out.res [.int .i64 c.st,.int .i64 c.sa,.int .i64 c.lo,.int .i64 c.hi,.slice x.sA x.st.length x.sc,.slice x.cA x.cuts.length x.cc,.int .i64 x.ep,.bool x.over] rfl W9 hW9'
      obtain ⟨a9,a8,a7⟩:=box_cells jR t1;have HEND:=jH (aft_end HPK.out t2 t3 t4);unfold wdC at HEND;clear hW9 hW9' t1 t2 t3 t4;exact bodyPost_ret (v:=.agg #[.int .i64 c.st,.int .i64 c.sa,.int .i64 c.lo,.int .i64 c.hi,.slice x.sA x.st.length x.sc,.slice x.cA x.cuts.length x.cc,.int .i64 x.ep,.bool x.over]) (by simp [results,Tryz.results45,go_sem,a9]) rfl HEND.out
end
end Go.Proofs.YtpmfcpdelkchaaaGreat
