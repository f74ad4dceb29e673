/- Part 45 of the proof: W21H. -/
import Derived.Test.YtkcdhaallnhhmaaGreatQ35
namespace Go.Proofs.YtkcdhaallnhhmaaGreat
set_option linter.unusedSimpArgs false
set_option linter.unusedVariables false
set_option linter.unusedSectionVars false
set_option maxRecDepth 100000
set_option maxHeartbeats 16000000
section
open Go.RowKit Go.Lib
def RepSays (P:Nat→Prop) (w:World) (c:Cfg) (r:Wd × RepD) (e:Ending) (w':World):Prop :=
 ∃x:WdH,e=.returned (.tuple #[.agg (wdC c x).toArray,repV r.2])∧WdIn P w' x∧absW x=r.1∧jB w w'
theorem cutRow_set (l:List CuH) (x:CuH):∀p,p<l.length→cellsOfRow cuC (l.set p x)=(((cellsOfRow cuC l).set (p * 3) (.int .i64 x.ep)).set (p * 3+1) (.slice x.A x.l.length x.c)).set (p * 3+2) (.bool x.fr):=by
 induction l with
 | nil=>intro p hp;simp at hp
 | cons a l ih =>
   intro p hp
   cases p with
   | zero=>rfl
   | succ p =>
     rw [List.set_cons_succ,cellsOfRow_cons,cellsOfRow_cons,ih p (by simpa using hp),show (p+1) * 3=p * 3+3 by omega];rfl
def set3 (w:World) (g o:Nat) (x:CuH):World:=((w.setCell ⟨g,o,none⟩ (.int .i64 x.ep)).setCell ⟨g,o+1,none⟩ (.slice x.A x.l.length x.c)).setCell ⟨g,o+2,none⟩ (.bool x.fr)
theorem own_set3 {base:Nat} {w:World} {g c:Nat} {l:List CuH} (h:OwnL cuC 226 3 base w (.slice (some ⟨g,0,none⟩) l.length c) l) (p:Nat) (hp:p<l.length) (x:CuH) :
 OwnL cuC 226 3 base (set3 w g (p * 3) x) (.slice (some ⟨g,0,none⟩) l.length c) (l.set p x)∧w.grownBy (set3 w g (p * 3) x) (some g):=by
 obtain ⟨h1,g1⟩:=World.ownsRow.stored h (p * 3) (.int .i64 x.ep);obtain ⟨h2,g2⟩:=World.ownsRow.stored h1 (p * 3+1) (.slice x.A x.l.length x.c);obtain ⟨h3,g3⟩:=World.ownsRow.stored h2 (p * 3+2) (.bool x.fr);refine ⟨?_,grownBy_trans (grownBy_trans g1 g2) g3⟩;unfold OwnL;rw [cutRow_set l x p hp,List.length_set];exact h3
theorem ownC_open {base:Nat} {w:World} {A:Option Addr} {c:Nat} {l:List CuH} (h:OwnL cuC 226 3 base w (.slice A l.length c) l) (hp:0<l.length) :
 ∃g cur,A=some ⟨g,0,none⟩∧w.heap[g]?=some (.cells cur 226 (0,0))∧base≤g∧l.length≤c∧l.length * 3≤cur.size:=by
 rcases h.2 with ⟨hv,h0⟩|⟨g',cap,cur,hv,h1,h2,h3,h4,h5,h6⟩
 · omega
 · injection hv with e1 _ e3
   subst e3;exact ⟨g',cur,e1,h2,h1,h3,by have:=Nat.mul_le_mul_right 3 h3;omega⟩
theorem WdIn.cutsAt {P:Nat→Prop} {w W:World} {x:WdH} {A:Option Addr} {cp:Nat} {m:List CuH} (h:WdIn P w x) (hb:jB w W) (hP:∀b,w.heap.size≤b→P b) (ho:OwnL cuC 226 3 w.heap.size W (.slice A m.length cp) m) (hm:∀s∈m,ItemsIn P W (.slice s.A s.l.length s.c) s.l) (ep:Int) (over:Bool) :
 WdIn P W ⟨x.sA,x.sc,x.st,A,cp,m,ep,over⟩ :=
 ⟨h.sr.below hb,fun s hs=>(h.it s hs).below hb,(RowG.own eCu ho).imp (fun b hb=>hP b hb),hm⟩
theorem ItemsIn.nil (P:Nat→Prop) (w:World):ItemsIn P w (.slice none ([]:List It).length 0) [] :=
 ⟨⟨RowIn.nil,fun b o m c e hn=>by cases e⟩,fun x hx=>by cases hx⟩
theorem free21_any (P:Nat→Prop) (c:Cfg) (rs rh n:Nat) (x:WdH) (k:Int) (w:World) (hP:∀b,w.heap.size≤b→P b) (hx:WdIn P w x) (hk:WdOk c rs rh n (absW x)) (hn:n≤100000) :
 Calls Tryz.prog 93 #[.agg (wdC c x).toArray,.int .i64 k] w (RepSays P w c (freeW (absW x) k)):=by
 have hcl:x.cuts.length≤100000:=by have:=hk.cuts;simp [absW] at this;omega
 obtain ⟨r,hr⟩:∃r,r=freeW (absW x) k:=⟨_,rfl⟩;rw [←hr];unfold freeW at hr;rw [←tabX_abs] at hr;have htl:(tabX x).length=x.cuts.length:=by unfold tabX;simp
 have CT:=jH (fun (W:World) (hW:jB w W)=>table21_any P c x W (hx.below hW) hcl);generalize hte:tabX x=t at hr htl CT;have CF:=jH (fun (W:World) (A:Option Addr) (cp:Nat) (h:RowIn 1 nmC W (.slice A t.length cp) t)=>find20_any _ t k W h (by omega));have HX:=jH hx;have HP:=jH hP;have hcr:RowIn 3 cuC w (.slice x.cA x.cuts.length x.cc) x.cuts:=hx.cr.1;have hcit:∀s∈x.cuts,ItemsIn P w (.slice s.A s.l.length s.c) s.l:=hx.ct
 obtain ⟨sA,sc,st,cA,cc,cuts,ep,over⟩:=x;dsimp only at htl hcl hcr hcit;unfold wdC at CT ⊢;dsimp only at CT ⊢;clear hx hP hk hn hte
 by_cases he:findT t k=0
 · rw [if_neg (by simpa using he)] at hr
   have hk1:¬k<1:=fun h9=>by unfold findT at he;rw [if_pos (.inl h9)] at he;cases he
   have hk2:¬(t.length:Int)<k:=fun h9=>by unfold findT at he;rw [if_pos (.inr h9)] at he;cases he
   obtain ⟨j,hj⟩:∃j,j=k.toNat - 1:=⟨_,rfl⟩;have hjl:j<cuts.length:=by omega
   rw [←hj] at hr;have z1:IntKind.i64.wrap (k - 1)=(j:Int):=by rw [IntKind.wrap_i64];omega
   have z1b:wrap64 (k - 1)=(j:Int):=by unfold wrap64;omega
   have z2:(0:Int)≤(j:Int):=by omega
   have z3:(j:Int)<(cuts.length:Int):=by omega
   rw [he] at CF;have HRR:=jH hr;have HCR:=jH hcr;have HCI:=jH hcit;have HLN:=jH hcl;have HJL:=jH hjl;clear he hk1 hk2 hj hr hcr hcit hcl hjl htl
   go_enter Tryz.func93,Tryz.ntmps93
   go_upto_region 6 with (first
   | (go_at_call 142
      refine calls_named ?_;intro W1 hW1;have hb:jB w W1:=by rw [hW1];exact balloc (balloc (balloc jR _) _) _
      have k0:W1.heap[w.heap.size]?=some (.cells #[.int .i64 c.st,.int .i64 c.sa,.int .i64 c.lo,.int .i64 c.hi,.slice sA st.length sc,.slice cA cuts.length cc,.int .i64 ep,.bool over] 32 (0,0)):=by rw [hW1];exact box3_0 _ _ _ _
      have k1:W1.heap[w.heap.size+1]?=some (.cells #[.int .i64 0,.int .i64 0,.int .i64 0,.int .i64 0,.slice none 0 0,.slice none 0 0,.int .i64 0,.bool false] 32 (0,0)):=by rw [hW1];exact box3_1 _ _ _ _
      have k2:W1.heap[w.heap.size+1+1]?=some (.cells #[.int .i64 0,.int .i64 0,.int .i64 0,.int .i64 0,.int .i64 0,.int .i64 0,.int .i64 0,.int .i64 0,.int .i64 0,.int .i64 0,.int .i64 0,.int .i64 0,.int .i64 0] 76 (0,0)):=by rw [hW1];exact box3_2 _ _ _ _
      clear hW1;refine (CT.out W1 hb).mono ?_;rintro e w2 ⟨tA,tc,rfl,hrow,hb2⟩;have HT2:=jH hrow;have HX2:=jH (jK hb2 k0);have HA2:=jH (jK hb2 k1);have HR2:=jH (jK hb2 k2);have HB2:=jH (bthen hb hb2);clear k0 k1 k2 hb hb2 hrow)
   | (go_at_call 143
      refine (CF.out w2 tA tc HT2.out).mono ?_;rintro e w3 ⟨rfl,hb3⟩;have HX3:=jH (jK hb3 HX2.out);have HA3:=jH (jK hb3 HA2.out);have HR3:=jH (jK hb3 HR2.out);have HB3:=jH (bthen HB2.out hb3);obtain ⟨b1,b2,b3⟩:=box_cells jR HX3.out;obtain ⟨c1,c2,c3⟩:=box_cells jR HA3.out;obtain ⟨d1,d2,d3⟩:=box_cells jR HR3.out;clear hb3)
   | (at_builtin
      refine wpList_appendL eCu (by rfl) (s:=.tmp 18) (x:=.tmp 20) (by rfl) (w3.heap.size+1) [] cuts _ _ (by rfl) (by rfl) (OwnL.lit0 _ _ _ _ (by simp) (Nat.le_refl _)) (HCR.out.below (bthen HB3.out (balloc (balloc jR _) _))) (by have:=HLN.out;simp;omega) (by simp) ?_;intro out6 A6 c6 w6 hout6 hown6 hg6 _;have hb6:Below (w3.heap.size+1) (w3.alloc (.cells #[.int .i64 c.st,.int .i64 c.sa,.int .i64 c.lo,.int .i64 c.hi,.slice sA st.length sc,.slice cA cuts.length cc,.int .i64 ep,.bool over] 32 (0,0))) w6:=(balloc jR _ |>.mono (by simp)).trans (grown_below hg6 (by simp) (fun r hr=>Nat.le_of_eq (Option.some.inj hr)))
      have hx6:w6.heap[w3.heap.size]?=some (.cells #[.int .i64 c.st,.int .i64 c.sa,.int .i64 c.lo,.int .i64 c.hi,.slice sA st.length sc,.slice cA cuts.length cc,.int .i64 ep,.bool over] 32 (0,0)):=(hb6.block _ (by omega)).trans (heap_alloc_new _ _);have HB6:=jH hb6;have HX6:=jH hx6;have HOUT:=jH hout6;have HOWN:=jH hown6;obtain ⟨e1,e2,e3⟩:=box_cells jR hx6;clear hb6 hx6 hout6 hown6 hg6 b1 b2 b3 c1 c2 c3 d1 d2 d3))
   refine name_world ?_;intro W7 hW7;have ho:cuts=out6:=by have:=HOUT.out;simpa using this.symm
   subst ho;obtain ⟨g,cur,rfl,hcur,hgb,hgc,hgs⟩:=ownC_open HOWN.out (by have:=HJL.out;omega);have hx7:W7.heap[w3.heap.size]?=some (.cells #[.int .i64 c.st,.int .i64 c.sa,.int .i64 c.lo,.int .i64 c.hi,.slice sA st.length sc,.slice (some ⟨g,0,none⟩) cuts.length c6,.int .i64 ep,.bool over] 32 (0,0)):=by rw [hW7];exact setCell_block HX6.out
   have hb7:jB w3 W7:=by rw [hW7];exact ((balloc jR _).trans (HB6.out.mono (by omega))).setCell (by simp) _
   have ho7:OwnL cuC 226 3 (w3.heap.size+1) W7 (.slice (some ⟨g,0,none⟩) cuts.length c6) cuts:=by rw [hW7];exact HOWN.out.kept (fun r hr=>heap_set_ne rfl (by have:=HOWN.out.lt hr;omega))
   have hg7:W7.heap[g]?=some (.cells cur 226 (0,0)):=by rw [hW7];exact heap_set_ne hcur (by omega)
   have ha7:=jK hb7 HA3.out;have hr7:=jK hb7 HR3.out;have HX7:=jH hx7;have HB7:=jH hb7;have HO7:=jH ho7;have HG7:=jH hg7;have HA7:=jH ha7;have HR7:=jH hr7;have HGB:=jH (show w3.heap.size+1≤g∧w.heap.size+1<w3.heap.size∧w.heap.size+1+1<w3.heap.size from ⟨hgb,(jL HA3.out),(jL HR3.out)⟩);have y1:¬g=w3.heap.size:=by omega
   have y2:¬w3.heap.size=g:=by omega
   have y3:¬g=w.heap.size+1:=by have:=HGB.out;omega
   have y4:¬w.heap.size+1=g:=by have:=HGB.out;omega
   have y5:¬g=w.heap.size+1+1:=by have:=HGB.out;omega
   have y6:¬w.heap.size+1+1=g:=by have:=HGB.out;omega
   have y7:¬w3.heap.size=w.heap.size+1:=by have:=HGB.out;omega
   have y8:¬w3.heap.size=w.heap.size+1+1:=by have:=HGB.out;omega
   have y9:j * 3<cur.size:=by have:=HJL.out;omega
   have y10:j * 3+1<cur.size:=by have:=HJL.out;omega
   have y11:j * 3+2<cur.size:=by have:=HJL.out;omega
   clear hW7 hx7 hb7 ho7 hg7 ha7 hr7 hcur hgb hgc hgs e1 e2 e3 HX6 HB6 HOUT HOWN;obtain ⟨e1,e2,e3⟩:=box_cells jR HX7.out;obtain ⟨b1,b2,b3⟩:=box_cells jR HA7.out;obtain ⟨c1,c2,c3⟩:=box_cells jR HR7.out;obtain ⟨d1,d2,d3⟩:=box_cells jR HG7.out;go_wp2_with fail
   refine post_named ?_;intro W9 hW9;have hW9':W9=stor (stor (set3 W7 g (j * 3) ⟨0,none,0,[],true⟩) (w.heap.size+1) 0 [.int .i64 c.st,.int .i64 c.sa,.int .i64 c.lo,.int .i64 c.hi,.slice sA st.length sc,.slice (some ⟨g,0,none⟩) cuts.length c6,.int .i64 ep,.bool over]) (w.heap.size+1+1) 0 [.int .i64 0,.int .i64 0,.int .i64 0,.int .i64 0,.int .i64 0,.int .i64 0,.int .i64 0,.int .i64 0,.int .i64 0,.int .i64 0,.int .i64 0,.int .i64 0,.int .i64 0]:=hW9
   obtain ⟨hset,hgr⟩:=own_set3 HO7.out j HJL.out ⟨0,none,0,[],true⟩;obtain ⟨U,hU⟩:∃U,U=set3 W7 g (j * 3) ⟨0,none,0,[],true⟩:=⟨_,rfl⟩;rw [←hU] at hset hgr hW9';clear hW9 hU;have hgb:=HGB.out;have hau:=(hgr.block _ (jL HA7.out) (fun e=>by have:=Option.some.inj e;omega)).trans HA7.out;have hru:=(hgr.block _ (jL HR7.out) (fun e=>by have:=Option.some.inj e;omega)).trans HR7.out;obtain ⟨S,hS⟩:∃S,S=stor U (w.heap.size+1) 0 [.int .i64 c.st,.int .i64 c.sa,.int .i64 c.lo,.int .i64 c.hi,.slice sA st.length sc,.slice (some ⟨g,0,none⟩) cuts.length c6,.int .i64 ep,.bool over]:=⟨_,rfl⟩
   rw [←hS] at hW9';obtain ⟨s1,s2,s3,s4⟩:=stor_at hau [.int .i64 c.st,.int .i64 c.sa,.int .i64 c.lo,.int .i64 c.hi,.slice sA st.length sc,.slice (some ⟨g,0,none⟩) cuts.length c6,.int .i64 ep,.bool over] rfl S hS;have hr9:=(s2 (w.heap.size+1+1) (by omega)).trans hru;obtain ⟨t1,t2,t3,t4⟩:=stor_at hr9 [.int .i64 0,.int .i64 0,.int .i64 0,.int .i64 0,.int .i64 0,.int .i64 0,.int .i64 0,.int .i64 0,.int .i64 0,.int .i64 0,.int .i64 0,.int .i64 0,.int .i64 0] rfl W9 hW9'
   have hs1:=(t2 (w.heap.size+1) (by omega)).trans s1;obtain ⟨a9,a8,a7⟩:=box_cells jR hs1;obtain ⟨g9,g8,g7⟩:=box_cells jR t1;have hk9:∀b,b≠w.heap.size+1→b≠w.heap.size+1+1→W9.heap[b]?=U.heap[b]?:=fun b q1 q2=>(t2 b q2).trans (s2 b q1)
   have hbU:jB w3 U:=HB7.out.trans (grown_below hgr HB7.out.size (fun r hr=>by have:=Option.some.inj hr;omega));have hb9:jB w W9:=(HB3.out.trans (hbU.mono HB3.out.size)).trans ((s4 _ (by omega)).trans (t4 _ (by omega)));have hw3:=HB3.out.size;refine bodyPost_ret (v:=.tuple #[.agg #[.int .i64 c.st,.int .i64 c.sa,.int .i64 c.lo,.int .i64 c.hi,.slice sA st.length sc,.slice (some ⟨g,0,none⟩) cuts.length c6,.int .i64 ep,.bool over],.agg #[.int .i64 0,.int .i64 0,.int .i64 0,.int .i64 0,.int .i64 0,.int .i64 0,.int .i64 0,.int .i64 0,.int .i64 0,.int .i64 0,.int .i64 0,.int .i64 0,.int .i64 0]]) (by simp [results,Tryz.results93,go_sem,a9,g9]) rfl ⟨⟨sA,sc,st,some ⟨g,0,none⟩,c6,cuts.set j ⟨0,none,0,[],true⟩,ep,over⟩,by rw [HRR.out];simp [wdC,repV,repC,repF,st0,adv0],HX.out.cutsAt hb9 HP.out ?_ ?_ _ _,?_,hb9⟩
   · rw [List.length_set]
     exact (hset.kept (fun r hr=>by have:=hset.lt hr;exact hk9 r (by omega) (by omega))).lower (by omega)
   · intro s hs
     rcases List.mem_or_eq_of_mem_set hs with hs|hs
     · exact (HCI.out s hs).below hb9
     · rw [hs];exact ItemsIn.nil P W9
   · rw [HRR.out]
     simp [absW,absC,List.map_set]
 · rw [if_pos (by simpa using he)] at hr
   have z0:(findT t k == 0)=false:=by simpa using he
   have z0c:(findT t k != 0)=true:=by simpa using he
   have HRR:=jH hr;clear he hr htl hcl hcr hcit;generalize findT t k=ef at CF z0 z0c HRR
   go_enter Tryz.func93,Tryz.ntmps93
   go_wp2_with (first
   | (go_at_call 142
      refine calls_named ?_;intro W1 hW1;have hb:jB w W1:=by rw [hW1];exact balloc (balloc (balloc jR _) _) _
      have k0:W1.heap[w.heap.size]?=some (.cells #[.int .i64 c.st,.int .i64 c.sa,.int .i64 c.lo,.int .i64 c.hi,.slice sA st.length sc,.slice cA cuts.length cc,.int .i64 ep,.bool over] 32 (0,0)):=by rw [hW1];exact box3_0 _ _ _ _
      have k1:W1.heap[w.heap.size+1]?=some (.cells #[.int .i64 0,.int .i64 0,.int .i64 0,.int .i64 0,.slice none 0 0,.slice none 0 0,.int .i64 0,.bool false] 32 (0,0)):=by rw [hW1];exact box3_1 _ _ _ _
      have k2:W1.heap[w.heap.size+1+1]?=some (.cells #[.int .i64 0,.int .i64 0,.int .i64 0,.int .i64 0,.int .i64 0,.int .i64 0,.int .i64 0,.int .i64 0,.int .i64 0,.int .i64 0,.int .i64 0,.int .i64 0,.int .i64 0] 76 (0,0)):=by rw [hW1];exact box3_2 _ _ _ _
      clear hW1;refine (CT.out W1 hb).mono ?_;rintro e w2 ⟨tA,tc,rfl,hrow,hb2⟩;have HT2:=jH hrow;have HX2:=jH (jK hb2 k0);have HA2:=jH (jK hb2 k1);have HR2:=jH (jK hb2 k2);have HB2:=jH (bthen hb hb2);clear k0 k1 k2 hb hb2 hrow)
   | (go_at_call 143
      refine (CF.out w2 tA tc HT2.out).mono ?_;rintro e w3 ⟨rfl,hb3⟩;have HX3:=jH (jK hb3 HX2.out);have HA3:=jH (jK hb3 HA2.out);have HR3:=jH (jK hb3 HR2.out);have HB3:=jH (bthen HB2.out hb3);obtain ⟨b1,b2,b3⟩:=box_cells jR HX3.out;obtain ⟨c1,c2,c3⟩:=box_cells jR HA3.out;obtain ⟨d1,d2,d3⟩:=box_cells jR HR3.out;clear hb3))
   refine post_named ?_;intro W9 hW9;have hW9':W9=stor (stor w3 (w.heap.size+1) 0 [.int .i64 c.st,.int .i64 c.sa,.int .i64 c.lo,.int .i64 c.hi,.slice sA st.length sc,.slice cA cuts.length cc,.int .i64 ep,.bool over]) (w.heap.size+1+1) 0 [.int .i64 ef,.int .i64 0,.int .i64 0,.int .i64 0,.int .i64 0,.int .i64 0,.int .i64 0,.int .i64 0,.int .i64 0,.int .i64 0,.int .i64 0,.int .i64 0,.int .i64 0]:=hW9
   obtain ⟨S,hS⟩:∃S,S=stor w3 (w.heap.size+1) 0 [.int .i64 c.st,.int .i64 c.sa,.int .i64 c.lo,.int .i64 c.hi,.slice sA st.length sc,.slice cA cuts.length cc,.int .i64 ep,.bool over]:=⟨_,rfl⟩;rw [←hS] at hW9';obtain ⟨s1,s2,s3,s4⟩:=stor_at HA3.out [.int .i64 c.st,.int .i64 c.sa,.int .i64 c.lo,.int .i64 c.hi,.slice sA st.length sc,.slice cA cuts.length cc,.int .i64 ep,.bool over] rfl S hS;have hr9:=(s2 (w.heap.size+1+1) (by omega)).trans HR3.out
   obtain ⟨t1,t2,t3,t4⟩:=stor_at hr9 [.int .i64 ef,.int .i64 0,.int .i64 0,.int .i64 0,.int .i64 0,.int .i64 0,.int .i64 0,.int .i64 0,.int .i64 0,.int .i64 0,.int .i64 0,.int .i64 0,.int .i64 0] rfl W9 hW9';have hs1:=(t2 (w.heap.size+1) (by omega)).trans s1;obtain ⟨a9,a8,a7⟩:=box_cells jR hs1;obtain ⟨g9,g8,g7⟩:=box_cells jR t1;have hk9:∀b,b≠w.heap.size+1→b≠w.heap.size+1+1→W9.heap[b]?=w3.heap[b]?:=fun b q1 q2=>(t2 b q2).trans (s2 b q1)
   have hsz9:W9.heap.size=w3.heap.size:=t3.trans s3;have hlt9:=(jL HR3.out);clear hW9 hW9' s1 t1 hs1 hr9 a8 a7 g8 g7;have hb9:jB w W9:=HB3.out.trans ((s4 _ (by omega)).trans (t4 _ (by omega)));refine bodyPost_ret (v:=.tuple #[.agg #[.int .i64 c.st,.int .i64 c.sa,.int .i64 c.lo,.int .i64 c.hi,.slice sA st.length sc,.slice cA cuts.length cc,.int .i64 ep,.bool over],.agg #[.int .i64 ef,.int .i64 0,.int .i64 0,.int .i64 0,.int .i64 0,.int .i64 0,.int .i64 0,.int .i64 0,.int .i64 0,.int .i64 0,.int .i64 0,.int .i64 0,.int .i64 0]]) (by simp [results,Tryz.results93,go_sem,a9,g9]) rfl ⟨⟨sA,sc,st,cA,cc,cuts,ep,over⟩,by rw [HRR.out];rfl,HX.out.below hb9,by rw [HRR.out],hb9⟩
end
end Go.Proofs.YtkcdhaallnhhmaaGreat
