/- Part 31 of the proof. -/
import Derived.Test.YtmniiodpbebnmaaGreatJ30
import Derived.Deep.MidRow
import Derived.Deep.WholeRow
import Derived.Great.BuildSlice
namespace Go.Proofs.YtmniiodpbebnmaaGreat
set_option linter.unusedSimpArgs false
set_option linter.unusedVariables false
set_option linter.unusedSectionVars false
set_option maxRecDepth 100000
set_option maxHeartbeats 16000000
section
open Go.RowKit Go.Lib
def s0H (P:Nat→Prop) (w:World) (c:Cfg) (r:Wd × Int) (e:Ending) (w':World):Prop :=
 ∃x:WdH,e=.returned (.tuple #[.agg (wdC c x).toArray,.int .i64 r.2])∧d0U P w' x∧c0O x=r.1∧jB w w'
theorem b0D.keepP {P:Nat→Prop} {w w':World} {v:Value} {l:List It} (h:b0D P w v l) (hs:w.heap.size≤w'.heap.size) (hk:∀b,P b→b<w.heap.size→w'.heap[b]?=w.heap[b]?):b0D P w' v l :=
 ⟨h.1.keepP hs hk,fun x hx=>⟨(h.2 x hx).1.keepP hs hk,(h.2 x hx).2.keepP hs hk⟩⟩
theorem b0D.old {P:Nat→Prop} {w:World} {v:Value} {l:List It} (h:b0D P w v l):b0D (fun b=>P b∧b<w.heap.size) w v l :=
 ⟨h.1.old,fun x hx=>⟨(h.2 x hx).1.old,(h.2 x hx).2.old⟩⟩
theorem o0U (P:Nat→Prop) (c:Cfg) (rs rh n:Nat) (x:WdH) (id:ByteArray) (a:c0W) (w:World) (hP:∀b,w.heap.size≤b→P b) (hx:d0U P w x) (hc:f0Y c rs rh) (hst:e0X c.st=true) (hk:g0B c rs rh n (c0O x)) (hn:n≤100000) (hm:id.size≤maxLen) (h0:¬a.kind<0) (h1:a.kind≠1) (h3:¬3<a.kind) :
 Calls Tryz.prog 50 #[.agg (wdC c x).toArray,.string id,.agg (e0Q a).toArray] w (s0H P w c (u0V c rs rh (c0O x) id a)):=by
 obtain ⟨sA,sc,st,cA,cc,cuts,ep,over⟩:=x;have hlen:(st.length:Int)=c.st:=by have:=hk.len;simpa [c0O] using this
 obtain ⟨hr0,hr1⟩:=t0U (hi:=(c0C id).1) (lo:=(c0C id).2) hst;obtain ⟨at_,hat⟩:∃t,t=atW c id:=⟨_,rfl⟩;have hri:c0Z (c0C id).1 (c0C id).2 c.st=(at_:Int):=by rw [hat];unfold atW;omega
 have hal:at_<st.length:=by omega
 have hgd:(c0O ⟨sA,sc,st,cA,cc,cuts,ep,over⟩).st.getD at_ []=st[at_].l.map c0X:=by
  show (st.map fun s=>s.l.map c0X).getD at_ []=_
  rw [List.getD_eq_getElem?_getD,List.getElem?_map,List.getElem?_eq_getElem hal];rfl
 have hone:u0V c rs rh (c0O ⟨sA,sc,st,cA,cc,cuts,ep,over⟩) id a=(⟨(st.map fun s=>s.l.map c0X).set at_ (g0Q c rs rh st[at_].l (c0C id) a).1,cuts.map absC,ep,over⟩,(g0Q c rs rh st[at_].l (c0C id) a).2.1):=by
  unfold u0V;rw [←hat,hgd,d1P];rfl
 rw [hone];have hmem:st[at_].l.map c0X∈(c0O ⟨sA,sc,st,cA,cc,cuts,ep,over⟩).st:=List.mem_map.2 ⟨_,List.getElem_mem hal,rfl⟩;have hroom:=hk.room _ hmem;have hit:=hk.it _ hmem;rw [List.length_map] at hroom;have hgp:=l1Y hit (c0C id) (c0S id);rw [d1M] at hgp;have hV:=hx.sr.1;obtain ⟨sb,so,hsA,hsb,hsc⟩:=hV.at_ hal;have HSC:=jH (show w.cell? ⟨sb,so+at_,none⟩=some (.slice st[at_].A st[at_].l.length st[at_].c) by simpa using hsc 0 _ rfl)
 have HIT:=jH (hx.it _ (List.getElem_mem hal)).old;have CD:=jH (fun (W:World) (hW:jB w W)=>t1W (fun b=>P b∧(b<w.heap.size∨W.heap.size≤b)) c rs rh _ st[at_].l (c0C id) a W (fun b hb=>⟨hP b (Nat.le_trans hW.size hb),.inr hb⟩) ((HIT.out.below hW).imp (fun b hb=>⟨hb.1,.inl hb.2⟩)) hc hgp.nd (by have:=hgp.ver;dsimp only at this;omega) (by omega) (fun z hz=>(hit (c0X z) (List.mem_map.2 ⟨z,hz,rfl⟩)).key) (c0S id) h0 h1 h3)
 have CK:=jH (fun W=>k0K id W hm);have CR:=jH (fun W=>show Calls Tryz.prog 31 #[.agg #[.int .u64 (c0C id).1,.int .u64 (c0C id).2],.int .i64 c.st] W (jP W (.int .i64 (at_:Nat))) from hri ▸ l1I (c0C id).1 (c0C id).2 c.st W (c0S id).1 (c0S id).2);have HX:=jH hx;have HP:=jH hP;have CP:=jH (fun (W:World) (hW:jB w W) (y:SrH)=>j1B _ st at_ y W (hV.below hW) (by have:=c0B _ hst;omega) (by have:=c0B _ hst;omega))
 have hsl:(at_:Int)<(st.length:Int):=by omega
 have hs0:(0:Int)≤(at_:Int):=by omega
 have HSE:=jH (show ∀y∈st,b0D P w (.slice y.A y.l.length y.c) y.l from hx.it);generalize hone18:g0Q c rs rh st[at_].l (c0C id) a=r at CD ⊢;generalize hss:st[at_]=s at HSC HIT CD;generalize c0C id=k at CK CR CD;clear hk hit hgp hroom hmem hone hgd hat hri hr0 hr1 hlen hV hsc hP hx hm h0 h1 h3 hc hst hone18 hss;subst hsA;unfold j0Q j1G at CD;unfold wdC e0Q;dsimp only
 go_enter Tryz.func50,Tryz.ntmps50
 go_wp2_with (first
  | (go_at_call 112
     refine a0B ?_;intro W1 hW1;have hb1:jB w W1:=by rw [hW1];exact a0C (a0C (a0C jR _) _) _
     have hx1:W1.heap[w.heap.size]?=some (.cells #[.int .i64 c.st,.int .i64 c.sa,.int .i64 c.lo,.int .i64 c.hi,.slice (some ⟨sb,so,none⟩) st.length sc,.slice cA cuts.length cc,.int .i64 ep,.bool over] 32 (0,0)):=by rw [hW1];exact f0B _ _ _ _
     have ha1:W1.heap[w.heap.size+1]?=some (.cells #[.int .i64 a.kind,.int .i64 a.smp.1,.int .i64 a.smp.2,.int .i64 a.pol.mn,.int .i64 a.pol.mx,.int .i64 a.pol.tg,.int .i64 a.pol.tol,.int .i64 a.pol.win,.int .i64 a.pol.hold,.int .i64 a.adv.tick,.int .i64 a.adv.load,.int .i64 a.adv.want,.int .i64 a.adv.repl,.int .i64 a.adv.why] 113 (0,0)):=by rw [hW1];exact f0X _ _ _ _
     have hr1:W1.heap[w.heap.size+1+1]?=some (.cells #[.int .i64 0,.int .i64 0,.int .i64 0,.int .i64 0,.slice none 0 0,.slice none 0 0,.int .i64 0,.bool false] 32 (0,0)):=by rw [hW1];exact f0Q _ _ _ _
     clear hW1;refine (CK.out W1).mono ?_;rintro e w2 ⟨rfl,hb2⟩;have HB2:=jH (a0D hb1 hb2);have hx2:=jK hb2 hx1;have R0:=fun W j (h:jB w2 W)=>(a0A h hx2).1 j
     have HX2:=jH hx2;have HA2:=jH (jK hb2 ha1);have HR2:=jH (jK hb2 hr1);clear hb1 hb2 hx1 ha1 hr1 hx2)
  | (go_at_call 31
     refine a0B ?_;intro W3 hW3;have hb3:jB w2 W3:=by rw [hW3];exact a0C jR _
     have hk3:W3.heap[w2.heap.size]?=some (.cells #[.int .u64 k.1,.int .u64 k.2] 74 (0,0)):=by rw [hW3];exact heap_alloc_new _ _
     clear hW3;refine (CR.out W3).mono ?_;rintro e w4 ⟨rfl,hb4⟩;have hq4:=a0D hb3 hb4;have HB4:=jH (a0D HB2.out hq4);have HX4:=jH (jK hq4 HX2.out);have HA4:=jH (jK hq4 HA2.out);have HR4:=jH (jK hq4 HR2.out);have HK4:=jH (jK hb4 hk3);clear hb3 hb4 hk3 hq4 R0))
 have rw0:∀U,jB w4 U→U.cell? ⟨w.heap.size,0,none⟩=some (.int .i64 c.st):=fun U hU=>(a0A hU HX4.out).1 0
 have rw1:∀U,jB w4 U→U.cell? ⟨w.heap.size,1,none⟩=some (.int .i64 c.sa):=fun U hU=>(a0A hU HX4.out).1 1
 have rw2:∀U,jB w4 U→U.cell? ⟨w.heap.size,2,none⟩=some (.int .i64 c.lo):=fun U hU=>(a0A hU HX4.out).1 2
 have rw3:∀U,jB w4 U→U.cell? ⟨w.heap.size,3,none⟩=some (.int .i64 c.hi):=fun U hU=>(a0A hU HX4.out).1 3
 have rw4:∀U,jB w4 U→U.cell? ⟨w.heap.size,4,none⟩=some (.slice (some ⟨sb,so,none⟩) st.length sc):=fun U hU=>(a0A hU HX4.out).1 4
 have rw5:∀U,jB w4 U→U.cell? ⟨w.heap.size,5,none⟩=some (.slice cA cuts.length cc):=fun U hU=>(a0A hU HX4.out).1 5
 have rw6:∀U,jB w4 U→U.cell? ⟨w.heap.size,6,none⟩=some (.int .i64 ep):=fun U hU=>(a0A hU HX4.out).1 6
 have rw7:∀U,jB w4 U→U.cell? ⟨w.heap.size,7,none⟩=some (.bool over):=fun U hU=>(a0A hU HX4.out).1 7
 have ra0:∀U,jB w4 U→U.cell? ⟨w.heap.size+1,0,none⟩=some (.int .i64 a.kind):=fun U hU=>(a0A hU HA4.out).1 0
 have ra1:∀U,jB w4 U→U.cell? ⟨w.heap.size+1,1,none⟩=some (.int .i64 a.smp.1):=fun U hU=>(a0A hU HA4.out).1 1
 have ra2:∀U,jB w4 U→U.cell? ⟨w.heap.size+1,2,none⟩=some (.int .i64 a.smp.2):=fun U hU=>(a0A hU HA4.out).1 2
 have ra3:∀U,jB w4 U→U.cell? ⟨w.heap.size+1,3,none⟩=some (.int .i64 a.pol.mn):=fun U hU=>(a0A hU HA4.out).1 3
 have ra4:∀U,jB w4 U→U.cell? ⟨w.heap.size+1,4,none⟩=some (.int .i64 a.pol.mx):=fun U hU=>(a0A hU HA4.out).1 4
 have ra5:∀U,jB w4 U→U.cell? ⟨w.heap.size+1,5,none⟩=some (.int .i64 a.pol.tg):=fun U hU=>(a0A hU HA4.out).1 5
 have ra6:∀U,jB w4 U→U.cell? ⟨w.heap.size+1,6,none⟩=some (.int .i64 a.pol.tol):=fun U hU=>(a0A hU HA4.out).1 6
 have ra7:∀U,jB w4 U→U.cell? ⟨w.heap.size+1,7,none⟩=some (.int .i64 a.pol.win):=fun U hU=>(a0A hU HA4.out).1 7
 have ra8:∀U,jB w4 U→U.cell? ⟨w.heap.size+1,8,none⟩=some (.int .i64 a.pol.hold):=fun U hU=>(a0A hU HA4.out).1 8
 have ra9:∀U,jB w4 U→U.cell? ⟨w.heap.size+1,9,none⟩=some (.int .i64 a.adv.tick):=fun U hU=>(a0A hU HA4.out).1 9
 have ra10:∀U,jB w4 U→U.cell? ⟨w.heap.size+1,10,none⟩=some (.int .i64 a.adv.load):=fun U hU=>(a0A hU HA4.out).1 10
 have ra11:∀U,jB w4 U→U.cell? ⟨w.heap.size+1,11,none⟩=some (.int .i64 a.adv.want):=fun U hU=>(a0A hU HA4.out).1 11
 have ra12:∀U,jB w4 U→U.cell? ⟨w.heap.size+1,12,none⟩=some (.int .i64 a.adv.repl):=fun U hU=>(a0A hU HA4.out).1 12
 have ra13:∀U,jB w4 U→U.cell? ⟨w.heap.size+1,13,none⟩=some (.int .i64 a.adv.why):=fun U hU=>(a0A hU HA4.out).1 13
 have rk0:∀U,jB w4 U→U.cell? ⟨w2.heap.size,0,none⟩=some (.int .u64 k.1):=fun U hU=>(a0A hU HK4.out).1 0
 have rk1:∀U,jB w4 U→U.cell? ⟨w2.heap.size,1,none⟩=some (.int .u64 k.2):=fun U hU=>(a0A hU HK4.out).1 1
 have rs0:∀U,jB w4 U→U.cell? ⟨sb,so+at_,none⟩=some (.slice s.A s.l.length s.c):=fun U hU=>((a0D HB4.out hU).cell (p:=⟨sb,_,none⟩) hsb).trans HSC.out
 have hS00:jB w4 w4:=jR;have hS0:jB w4 w4.drew:=hS00.drew
 go_region_held3 (fun U=>jB w4 U)
   (first
     | with_reducible exact hS0
     | with_reducible exact HB5.out
     | with_reducible exact hS00)
   (first
   | (go_at_call 113
      refine a0B ?_;intro W5 hW5;subst hW5;refine (CD.out _ (a0D HB4.out ‹jB w4 _›)).mono ?_;rintro e w5 ⟨out,A5,c5,rfl,hit5,habs5,hb5⟩;have HB5:=jH (a0D ‹jB w4 _› hb5);have HI5:=jH (show b0D (fun b=>P b∧(b<w.heap.size∨w4.heap.size≤b)) w5 (.slice A5 out.length c5) out from hit5.imp (fun b hb=>hb));have HAB5:=jH habs5;clear hit5 habs5 hb5))
 all_goals
   refine a0T ?_;intro W6 hW6;have hb6:jB w5 W6:=by rw [hW6];first|exact jR|exact jR.drew|exact a0F jR _
   clear hW6 hS00 hS0;have HB6:=jH hb6;have hq6:jB w4 W6:=a0D HB5.out hb6;have HQ6:=jH hq6;clear hb6
   go_wp2_with (first
    | (go_at_call 114
       refine a0B ?_;intro W7 hW7;have hb7:jB W6 W7:=by rw [hW7];exact a0C jR _
       have h14:W7.heap[W6.heap.size]?=some (.cells #[.int .i64 c.st,.int .i64 c.sa,.int .i64 c.lo,.int .i64 c.hi,.slice (some ⟨sb,so,none⟩) st.length sc,.slice cA cuts.length cc,.int .i64 ep,.bool over] 32 (0,0)):=by rw [hW7];exact heap_alloc_new _ _
       clear hW7;have hcp:=CP.out W7 (a0D HB4.out (a0D HQ6.out hb7)) ⟨A5,c5,out⟩;dsimp only at hcp;refine hcp.mono ?_;rintro e w8 ⟨A9,c9,rfl,hg9,hb8⟩;clear hcp;have H14:=jH (jK hb8 h14);have hlt7:=(jL h14);have hq8:=a0D hq6 (a0D hb7 hb8);have HR8:=jH (jK hq8 HR4.out);have HG9:=jH hg9;have HQ8:=jH hq8;have H68:=jH (a0D HB6.out (a0D hb7 hb8));have HLT:=jH (show W6.heap.size<W7.heap.size∧W7.heap.size≤w8.heap.size∧w5.heap.size≤W6.heap.size from ⟨hlt7,hb8.size,HB6.out.size⟩)
       obtain ⟨p1,p2,p3⟩:=a0A jR H14.out;obtain ⟨r1,r2,r3⟩:=a0A jR HR8.out;have hne:¬W6.heap.size=w.heap.size+1+1:=by have:=(jL HR4.out);have:=HQ6.out.size;omega
       have hne2:¬w.heap.size+1+1=W6.heap.size:=fun h=>hne h.symm
       clear hb7 hb8 h14 hg9 hlt7 hq8 hq6))
   refine a0H ?_;intro W9 hW9;have hW9':W9=b0J (w8.setCell ⟨W6.heap.size,4,none⟩ (.slice A9 st.length c9)) (w.heap.size+1+1) 0 [.int .i64 c.st,.int .i64 c.sa,.int .i64 c.lo,.int .i64 c.hi,.slice A9 st.length c9,.slice cA cuts.length cc,.int .i64 ep,.bool over]:=hW9;obtain ⟨s1,s2,s3,s4⟩:=a0P (a0U HR8.out hne2) [.int .i64 c.st,.int .i64 c.sa,.int .i64 c.lo,.int .i64 c.hi,.slice A9 st.length c9,.slice cA cuts.length cc,.int .i64 ep,.bool over] rfl W9 hW9'
   obtain ⟨a9,a8,a7⟩:=a0A jR s1;clear hW9 hW9';have hz4:=(jL HR4.out);have hb9:jB w W9:=((a0D HB4.out HQ8.out).setCell (by have:=HB4.out.size;have:=HQ6.out.size;simp;omega) _).trans (s4 _ (by omega));have hkept:∀b,b≠W6.heap.size→b≠w.heap.size+1+1→W9.heap[b]?=w8.heap[b]?:=fun b h1 h2=>(s2 b h2).trans (a0U rfl h1)
   have hsz9:w8.heap.size≤W9.heap.size:=by rw [s3];simp
   have hlt:=HLT.out;have hq6s:=HQ6.out.size;refine bodyPost_ret (v:=.tuple #[.agg #[.int .i64 c.st,.int .i64 c.sa,.int .i64 c.lo,.int .i64 c.hi,.slice A9 st.length c9,.slice cA cuts.length cc,.int .i64 ep,.bool over],.int .i64 r.2.1]) (by simp [results,Tryz.results50,go_sem,a9]) rfl ⟨⟨A9,c9,st.set at_ ⟨A5,c5,out⟩,cA,cc,cuts,ep,over⟩,by simp [wdC],⟨?_,?_,HX.out.cr.below hb9,fun y hy=>(HX.out.ct y hy).below hb9⟩,?_,hb9⟩
   · exact (HG9.out.keepP hsz9 (fun b hb _=>hkept b (by omega) (by omega))).imp (fun b hb=>HP.out b (by have:=hb9.size;have:=HB4.out.size;omega))
   · intro y hy
     rcases List.mem_or_eq_of_mem_set hy with hy|hy
     · exact (HSE.out y hy).below hb9
     · rw [hy]
       exact (((HI5.out.old.below H68.out).keepP hsz9 (fun b hb _=>hkept b (by have:=hb.2;omega) (by have:=hb.1.2;omega))).imp (fun b hb=>hb.1.1))
   · show Wd.mk _ _ _ _=_
     rw [List.map_set,HAB5.out]
theorem a1G {P:Nat→Prop} {w u w4:World} {v v' vr:Value} {l:List It} (h:b0D (fun b=>P b∧v.ownBlock≠some b) w vr l) (hb:jB w u) (hg:u.grownBy w4 v.ownBlock) (hblk:v'.ownBlock=v.ownBlock∨v'.ownBlock=some u.heap.size) :
 b0D (fun b=>P b∧v'.ownBlock≠some b) w4 vr l:=⟨j0J h.1 hb hg hblk,fun x hx=>m0L (h.2 x hx) hb hg hblk⟩
def wdA (c:Cfg) (v1 v2:Value) (ep:Int) (over:Bool):Array Value:=#[.int .i64 c.st,.int .i64 c.sa,.int .i64 c.lo,.int .i64 c.hi,v1,v2,.int .i64 ep,.bool over]
def QT (P:Nat→Prop) (n:Nat) (b:Nat):Prop:=P b∧(b<n∨n+3≤b)
structure q0O (P:Nat→Prop) (w wr:World) (wd zs:Array Value) (c:Cfg) (v2:Value) (ep:Int) (over:Bool) (s:Value) (out:List SrH):Prop where
 b:jB w wr
 x0:wr.heap[w.heap.size]?=some (.cells wd 32 (0,0))
 x1:wr.heap[w.heap.size+1]?=some (.cells zs 32 (0,0))
 x2:wr.heap[w.heap.size+1+1]?=some (.cells (wdA c s v2 ep over) 32 (0,0))
 own:b0Q srC 176 1 (w.heap.size+3) wr s out
 it:∀y∈out,b0D (fun b=>QT P w.heap.size b∧s.ownBlock≠some b) wr (.slice y.A y.l.length y.c) y.l
 sz:w.heap.size+3≤wr.heap.size
theorem q0O.below {P:Nat→Prop} {w wr w':World} {wd zs:Array Value} {c:Cfg} {v2:Value} {ep:Int} {over:Bool} {s:Value} {out:List SrH} (h:q0O P w wr wd zs c v2 ep over s out) (hb:jB wr w'):q0O P w w' wd zs c v2 ep over s out :=
 ⟨a0D h.b hb,(hb.block _ (Array.getElem?_eq_some_iff.1 h.x0).1).trans h.x0,(hb.block _ (Array.getElem?_eq_some_iff.1 h.x1).1).trans h.x1,(hb.block _ (Array.getElem?_eq_some_iff.1 h.x2).1).trans h.x2,h.own.below hb,fun y hy=>(h.it y hy).below hb,Nat.le_trans h.sz hb.size⟩
theorem q0O.put {P:Nat→Prop} {w wr u w2 w3:World} {wd zs:Array Value} {c:Cfg} {v2:Value} {ep:Int} {over:Bool} {s s2:Value} {out:List SrH} {y:SrH} (h:q0O P w wr wd zs c v2 ep over s out) (hy:b0D (fun b=>QT P w.heap.size b∧s.ownBlock≠some b) wr (.slice y.A y.l.length y.c) y.l)
    (hu:jB wr u) (hg:u.grownBy w2 s.ownBlock) (ho:b0Q srC 176 1 (w.heap.size+3) w2 s2 (out++[y])) (hblk:s2.ownBlock=s.ownBlock∨s2.ownBlock=some u.heap.size) (h3:w3=w2.setCell ⟨w.heap.size+1+1,4,none⟩ s2):q0O P w w3 wd zs c v2 ep over s2 (out++[y]):=by
  have hsz:=h.sz;have hb2:Below (w.heap.size+3) wr w2:=(hu.mono hsz).trans (a0Z hg h.own (by have:=hu.size;omega));have hb3:∀b,b≠w.heap.size+1+1→w3.heap[b]?=w2.heap[b]?:=fun b hb=>by rw [h3];exact a0U rfl hb
  have hs3:w3.heap.size=w2.heap.size:=by rw [h3];simp
  subst h3;refine ⟨h.b.trans ((hb2.mono (by omega)).setCell (by simp;omega) _),?_,?_,?_,?_,?_,?_⟩
  · exact (hb3 _ (by omega)).trans ((hb2.block _ (by omega)).trans h.x0)
  · exact (hb3 _ (by omega)).trans ((hb2.block _ (by omega)).trans h.x1)
  · exact (a0E ((hb2.block _ (by omega)).trans h.x2)).trans (by rfl)
  · exact ho.kept (fun r hr=>hb3 r (by have:=ho.lt hr;omega))
  · intro z hz
    have hk:∀(l:List It) (v:Value),b0D (fun b=>QT P w.heap.size b∧s.ownBlock≠some b) wr v l→b0D (fun b=>QT P w.heap.size b∧s2.ownBlock≠some b) (w2.setCell ⟨w.heap.size+1+1,4,none⟩ s2) v l:=fun l v hl =>
     (a1G hl hu hg hblk).keepP (by simp) (fun b hb hlt=>hb3 b (by have:=hb.1.2;omega))
    rcases List.mem_append.1 hz with hz|hz
    · exact hk _ _ (h.it z hz)
    · rw [List.mem_singleton.1 hz];exact hk _ _ hy
  · rw [hs3];have:=hb2.size;omega
theorem q0O.done {P:Nat→Prop} {w wr w3:World} {wd zs:Array Value} {c:Cfg} {v2:Value} {ep:Int} {over:Bool} {s:Value} {out:List SrH} (h:q0O P w wr wd zs c v2 ep over s out) (hP:∀b,w.heap.size≤b→P b) (hk:∀b,b≠w.heap.size+1→w3.heap[b]?=wr.heap[b]?) (hs:w3.heap.size=wr.heap.size) :
 e0U P 1 srC w3 s out∧∀y∈out,b0D P w3 (.slice y.A y.l.length y.c) y.l :=
 ⟨((e0U.own eSr h.own).keepP (Nat.le_of_eq hs.symm) (fun b hb hlt=>hk b (by omega))).imp (fun b hb=>hP b (by omega)),
   fun y hy=>((h.it y hy).keepP (Nat.le_of_eq hs.symm) (fun b hb hlt=>hk b (by have:=hb.1.2;omega))).imp (fun b hb=>hb.1.1)⟩
def t0A (P:Nat→Prop) (w:World) (c:Cfg) (r:Wd) (e:Ending) (w':World):Prop :=
 ∃x:WdH,e=.returned (.agg (wdC c x).toArray)∧d0U P w' x∧c0O x=r∧jB w w'
theorem e1G (P:Nat→Prop) (c:Cfg) (rs rh n:Nat) (x:WdH) (cut:Int) (w:World) (hP:∀b,w.heap.size≤b→P b) (hx:d0U P w x) (hc:f0Y c rs rh) (hst:c.st≤64) (hk:g0B c rs rh n (c0O x)) (hn:n≤100000) :
 Calls Tryz.prog 51 #[.agg (wdC c x).toArray,.int .i64 cut] w (t0A P w c (q0I (c0O x) cut)):=by
 obtain ⟨sA,sc,st,cA,cc,cuts,ep,over⟩:=x;have hlen:(st.length:Int)=c.st:=by have:=hk.len;simpa [c0O] using this
 have hl64:st.length≤64:=by omega
 have HX:=jH hx;have HP:=jH hP;have HIT:=jH (show ∀s∈st,s.l.length≤256∧∀z∈s.l,n0Z rs rh n (c0X z) from fun s hs=>by
  have hm:s.l.map c0X∈(c0O ⟨sA,sc,st,cA,cc,cuts,ep,over⟩).st:=List.mem_map.2 ⟨s,hs,rfl⟩;have h1:=hk.room _ hm;rw [List.length_map] at h1;exact ⟨h1,fun z hz=>hk.it _ hm _ (List.mem_map.2 ⟨z,hz,rfl⟩)⟩)
 have CT:=jH (fun (s:SrH) (hs:s∈st) (so:Option Nat) (hso:∀b,so=some b→w.heap.size+3≤b) (W:World) (hW:jB w W) (hlt:∀b,so=some b→b<W.heap.size) (h3:w.heap.size+3≤W.heap.size) =>
  l1X (fun b=>QT P w.heap.size b∧so≠some b) c rs rh (.slice s.A s.l.length s.c) s.l cut W (fun b hb=>⟨⟨hP b (Nat.le_trans hW.size hb),.inr (by omega)⟩,fun e=>by have:=hlt b e;omega⟩)
    (((hx.it s hs).old.below hW).imp (fun b hb=>⟨⟨hb.1,.inl hb.2⟩,fun e=>by have:=hso b e;have:=hb.2;omega⟩)) hc (fun z hz=>((HIT.out s hs).2 z hz).nd) (fun z hz=>by have:=((HIT.out s hs).2 z hz).ver;dsimp only [c0X] at this;omega) (by have:=(HIT.out s hs).1;omega))
 have hN:=hn;clear hx hP hc hk;unfold j0Q at CT;unfold wdC;dsimp only
 go_enter Tryz.func51,Tryz.ntmps51
 go_wp2_with fail
 refine a0I ?_;intro W hW;have HAT0:=jH (show q0O P w W (wdA c (.slice sA st.length sc) (.slice cA cuts.length cc) ep over) (wdA ⟨0,0,0,0⟩ (.slice none 0 0) (.slice none 0 0) 0 false) c (.slice cA cuts.length cc) ep over (.slice none 0 0) [] by
  rw [hW];exact ⟨a0C (a0C (a0C jR _) _) _,f0B _ _ _ _,f0X _ _ _ _,f0Q _ _ _ _,b0Q.nil _ _,(fun y hy=>by cases hy),by simp⟩)
 clear hW;go_wp2
 go_loopg [6] st.length (fun g s6 wr=>∃(k:Nat) (s:Value) (out:List SrH),k≤st.length∧st.length - k≤g∧s6=.int .i64 k∧q0O P w wr (wdA c (.slice sA st.length sc) (.slice cA cuts.length cc) ep over) (wdA ⟨0,0,0,0⟩ (.slice none 0 0) (.slice none 0 0) 0 false) c (.slice cA cuts.length cc) ep over s out∧out.map (fun y=>y.l.map c0X)=(st.take k).map (fun y=>y.l.map fun z=>(z.key,g0R cut z.nd)))
 case atStart=>exact ⟨0,_,[],Nat.zero_le _,Nat.le_refl _,rfl,HAT0.out,by simp⟩
 case round =>
  obtain ⟨k,s,out,hk,hg,rfl,hat,habs⟩:=hrel;rename World=>wr
  obtain ⟨A3,c3,rfl⟩:=hat.own.form;have HA:=jH hat;have HAB:=jH habs;have HOL:=jH (show out.length=k by have:=congrArg List.length habs;simpa [hk] using this);have hsz:=hat.sz;have hltb:∀b,(Value.slice A3 out.length c3).ownBlock=some b→w.heap.size+3≤b∧b<wr.heap.size:=fun b hb=>hat.own.lt hb
  have HLT:=jH hltb;obtain ⟨a1,a2,a3⟩:=a0A jR hat.x0;obtain ⟨d1,d2,d3⟩:=a0A jR hat.x2;unfold wdA at a1 d1;clear hat habs hltb
  by_cases hlt:k<st.length
  · have z1:(k:Int)<(st.length:Int):=by omega
    have z2:(0:Int)≤(k:Int):=by omega
    obtain ⟨sb,so,rfl,hbw,hcc⟩:=HX.out.sr.1.at_ hlt;have hbwr:sb<wr.heap.size:=Nat.lt_of_lt_of_le hbw HA.out.b.size;have c1:wr.cell? ⟨sb,so+k,none⟩=some (.slice st[k].A st[k].l.length st[k].c):=by
     have:=(HA.out.b.cell (p:=⟨sb,so+k * 1+0,none⟩) hbw).trans (hcc 0 _ rfl)
     simpa using this
    have HTK:=jH (List.take_succ_eq_append_getElem hlt);have CK:=jH (CT.out _ (List.getElem_mem hlt) (Value.slice A3 out.length c3).ownBlock (fun b hb=>(HLT.out b hb).1));clear hcc;generalize st[k]=y at c1 HTK CK;have rw0:∀U,jB wr U→U.cell? ⟨w.heap.size,0,none⟩=some (.int .i64 c.st):=fun U hU=>(hU.cell (p:=⟨w.heap.size,_,none⟩) a3).trans (a1 0)
    have rw1:∀U,jB wr U→U.cell? ⟨w.heap.size,1,none⟩=some (.int .i64 c.sa):=fun U hU=>(hU.cell (p:=⟨w.heap.size,_,none⟩) a3).trans (a1 1)
    have rw2:∀U,jB wr U→U.cell? ⟨w.heap.size,2,none⟩=some (.int .i64 c.lo):=fun U hU=>(hU.cell (p:=⟨w.heap.size,_,none⟩) a3).trans (a1 2)
    have rw3:∀U,jB wr U→U.cell? ⟨w.heap.size,3,none⟩=some (.int .i64 c.hi):=fun U hU=>(hU.cell (p:=⟨w.heap.size,_,none⟩) a3).trans (a1 3)
    have rw4:∀U,jB wr U→U.cell? ⟨w.heap.size,4,none⟩=some (.slice (some ⟨sb,so,none⟩) st.length sc):=fun U hU=>(hU.cell (p:=⟨w.heap.size,_,none⟩) a3).trans (a1 4)
    have rs0:∀U,jB wr U→U.cell? ⟨sb,so+k,none⟩=some (.slice y.A y.l.length y.c):=fun U hU=>(hU.cell (p:=⟨sb,_,none⟩) hbwr).trans c1
    have HD1:=jH d1;clear d1 d2
    go_upto_region 6 with fail
    clear c1 a1 a2
    go_cut [7,8,9] (fun s7 s8 s9 wx=>∃(z:SrH) (n8 n9:Int),s7=.slice z.A z.l.length z.c∧s8=.int .i64 n8∧s9=.int .i64 n9∧b0D (fun b=>QT P w.heap.size b∧(Value.slice A3 out.length c3).ownBlock≠some b) wx (.slice z.A z.l.length z.c) z.l∧z.l.map c0X=y.l.map (fun x=>(x.key,g0R cut x.nd))∧jB wr wx)
    case first =>
     have hS00:jB wr wr:=jR;have hS0:jB wr wr.drew:=hS00.drew
     go_region_held3 (fun U=>jB wr U)
       (first
         | with_reducible exact hS0
         | with_reducible exact HB5.out
         | with_reducible exact hS00)
       (first
       | (go_at_call 115
          refine a0B ?_;intro W5 hW5;subst hW5;refine (CK.out _ (a0D HA.out.b ‹jB wr _›) (fun b hb=>Nat.lt_of_lt_of_le (HLT.out b hb).2 (‹jB wr _›).size) (Nat.le_trans hsz (‹jB wr _›).size)).mono ?_;rintro e w5 ⟨out5,A5,c5,rfl,hit5,habs5,hb5⟩;have HB5:=jH (a0D ‹jB wr _› hb5);have HI5:=jH hit5;have HAB5:=jH habs5;clear hit5 habs5 hb5))
     all_goals
       go_wp2_with fail
       go_meet
       exact ⟨⟨A5,c5,out5⟩,_,_,rfl,rfl,rfl,(show b0D _ w5 _ _ from HI5.out),HAB5.out,HB5.out⟩
    case rest =>
     obtain ⟨z,n8,n9,rfl,rfl,rfl,hz,hzabs,hb5⟩:=hcut;have HZ:=jH hz;have HZA:=jH hzabs;have HB5:=jH hb5;have HA5:=jH (HA.out.below hb5);obtain ⟨e1,e2,e3⟩:=a0A jR HA5.out.x2;unfold wdA at e1;have hs5:=hb5.size;clear hz hzabs hb5 rw0 rw1 rw2 rw3 rw4 rs0
     go_wp2_with (at_builtin;refine a0N eSr (by rfl) (by rfl) (w.heap.size+3) out [z] _ _ (by rfl) (by rfl) (HA5.out.own.below (a0C jR _)) (a0O.lit wc z _ _ _ rfl rfl) (by have:=HOL.out;simp;omega) (by simp;omega) ?_;intro out2 A2 c2' w2 hout2 hown2 hg2 hblk2
                  have hb2:Below (w.heap.size+3) wr w2:=((HB5.out.mono hsz).trans (a0C (Below.refl wc.heap.size wc) _ |>.mono (by omega))).trans (a0Z hg2 HA5.out.own (by simp;omega));have HOWN:=jH hown2;have HOUT:=jH hout2;have HG:=jH hg2;have HBK:=jH hblk2;obtain ⟨f1,f2,f3⟩:=a0A jR ((hb2.block (w.heap.size+1+1) (by omega)).trans HA.out.x2);unfold wdA at f1;clear hown2 hout2 hg2 hblk2 hb2)
     go_roundg (st.length - (k+1))
     case measure=>omega
     case rel =>
      have hout:=HOUT.out;subst hout;exact ⟨k+1,_,_,hlt,Nat.le_refl _,by go_num,HA5.out.put HZ.out (a0C jR _) HG.out HOWN.out HBK.out rfl,by rw [List.map_append,HAB.out,HTK.out,List.map_append];simp [HZA.out]⟩
  · obtain rfl:k=st.length:=by omega
    have z1:¬(st.length:Int)<(st.length:Int):=by omega
    rw [List.take_length] at HAB;obtain ⟨g1,g2,g3⟩:=a0A jR HA.out.x1;unfold wdA at g1;go_wp2
    refine a0H ?_;intro W4 hW4;have hW4':W4=b0J wr (w.heap.size+1) 0 [.int .i64 c.st,.int .i64 c.sa,.int .i64 c.lo,.int .i64 c.hi,.slice A3 out.length c3,.slice cA cuts.length cc,.int .i64 ep,.bool over]:=hW4;obtain ⟨s1,s2,s3,s4⟩:=a0P HA.out.x1 [.int .i64 c.st,.int .i64 c.sa,.int .i64 c.lo,.int .i64 c.hi,.slice A3 out.length c3,.slice cA cuts.length cc,.int .i64 ep,.bool over] rfl W4 hW4'
    obtain ⟨a9,a8,a7⟩:=a0A jR s1;have hb9:jB w W4:=HA.out.b.trans (s4 _ (by omega));clear hW4 hW4';obtain ⟨h1,h2⟩:=HA.out.done HP.out s2 s3;refine bodyPost_ret (v:=.agg #[.int .i64 c.st,.int .i64 c.sa,.int .i64 c.lo,.int .i64 c.hi,.slice A3 out.length c3,.slice cA cuts.length cc,.int .i64 ep,.bool over]) (by simp [results,Tryz.results51,go_sem,a9]) rfl ⟨⟨A3,c3,out,cA,cc,cuts,ep,over⟩,rfl,⟨h1,h2,HX.out.cr.below hb9,fun y hy=>(HX.out.ct y hy).below hb9⟩,?_,hb9⟩
    show Wd.mk _ _ _ _=Wd.mk _ _ _ _
    rw [HAB.out];simp [c0O,List.map_map,Function.comp_def,c0X]
theorem o0D (a b:Int) (w:World) (ha:I64 a) (hb:I64 b) :
 Calls Tryz.prog 122 #[.int .i64 a,.int .i64 b] w fun e w'=>e=.returned (.int .i64 (i0X a b))∧w=w':=by
 have C1:=jH (r0B a b w ha hb);have C2:=jH (r0Q (d0R (a - b)) 1 w (l0F _) (by unfold I64;omega));unfold i0X;generalize d0R (a - b)=s at C1 C2 ⊢;generalize d0R (s+1)=t at C2 ⊢;clear ha hb
 go_enter Tryz.func122,Tryz.ntmps122
 go_wp2_with (first
  | (go_at_call 189
     refine C1.out.mono ?_;rintro e w1 ⟨rfl,rfl⟩)
  | (go_at_call 188
     refine C2.out.mono ?_;rintro e w1 ⟨rfl,rfl⟩))
 go_ret
 exact ⟨rfl,rfl⟩
theorem h1R (v:Value) (l:List Int) (w:World) (hv:a0O 1 nmC w v l) (hl:l.length≤1000000) (hi:∀n∈l,I64 n) :
 Calls Tryz.prog 231 #[v] w fun e w'=>e=.returned (.int .i64 (p0S l 0))∧w=w':=by
 obtain ⟨A,c,rfl⟩:=hv.form;have HV:=jH hv;have HI:=jH hi;have hl9:l.length≤9223372036854775807:=by omega
 clear hv hi
 go_enter Tryz.func231,Tryz.ntmps231
 go_wp2
 go_loopg [3,4] l.length (fun g s3 s8 wr=>∃k:Nat,k≤l.length∧l.length - k≤g∧s8=.int .i64 k∧s3=.int .i64 (p0S (l.take k) 0)∧w=wr)
 case atStart=>exact ⟨0,Nat.zero_le _,Nat.le_refl _,rfl,by simp [p0S],rfl⟩
 case round =>
  obtain ⟨k,hk,hg,rfl,rfl,rfl⟩:=hrel
  by_cases hlt:k<l.length
  · obtain ⟨b1,o1,rfl,hb1,hc⟩:=HV.out.at_ hlt
    have z1:(0:Int)≤(k:Int):=by omega
    have z2:(k:Int)<(l.length:Int):=by omega
    have HS:=jH (show p0S (l.take (k+1)) 0=d0R (p0S (l.take k) 0+l[k]) by rw [List.take_succ_eq_append_getElem hlt,o0E]);have d0:=hc 0 _ rfl;rw [Nat.add_zero,Nat.mul_one] at d0;have HN:=jH (r0Q (p0S (l.take k) 0) l[k] w (t0V _ _ f1I) (HI.out _ (List.getElem_mem hlt)));rw [←HS.out] at HN;generalize p0S (l.take k) 0=s at HN ⊢;generalize l[k]=x at HN d0;clear hc HS
    go_wp2_with (first
     | (go_at_call 188
        refine HN.out.mono ?_;rintro e w1 ⟨rfl,rfl⟩))
    go_roundg (l.length - (k+1))
    case measure=>omega
    case rel=>exact ⟨k+1,hlt,Nat.le_refl _,by go_num,rfl,rfl⟩
  · obtain rfl:k=l.length:=by omega
    rw [List.take_length];go_wp2
    go_ret
    exact ⟨rfl,rfl⟩
theorem q0X (v:Value) (l:List Smp) (a b:Int) (w:World) (hv:a0O 2 b0X w v l) (hl:l.length≤1000000) :
 Calls Tryz.prog 121 #[v,.int .i64 a,.int .i64 b] w fun e w'=>∃A c,e=.returned (.slice A (j0G l a b).length c)∧b0Q b0X 111 2 w.heap.size w' (.slice A (j0G l a b).length c) (j0G l a b)∧jB w w':=by
 obtain ⟨A,c,rfl⟩:=hv.form;have HV:=jH hv;have HL:=jH hl;have hl9:l.length≤9223372036854775807:=by omega
 clear hv hl
 go_enter Tryz.func121,Tryz.ntmps121
 go_wp2
 go_loopg [7,8] l.length (fun g s7 s12 wr=>∃k:Nat,k≤l.length∧l.length - k≤g∧s12=.int .i64 k∧b0Q b0X 111 2 w.heap.size wr s7 (j0G (l.take k) a b)∧jB w wr)
 case atStart=>exact ⟨0,Nat.zero_le _,Nat.le_refl _,rfl,by simp [j0G];exact b0Q.nil _ _,jR⟩
 case round =>
  obtain ⟨k,hk,hg,rfl,hown,hb⟩:=hrel;rename World=>wr
  obtain ⟨pre,hpre⟩:∃pre,pre=j0G (l.take k) a b:=⟨_,rfl⟩;rw [←hpre] at hown;obtain ⟨A5,c5,rfl⟩:=hown.form;have HPL:=jH (show pre.length≤k by rw [hpre];exact Nat.le_trans (s0E _ _ _) (by simp;omega));have HPRE:=jH hpre;have HO:=jH hown;have HB:=jH hb;clear hpre hown hb
  by_cases hlt:k<l.length
  · obtain ⟨b1,o1,rfl,hb1,hc⟩:=(HV.out.below HB.out).at_ hlt
    have z1:(0:Int)≤(k:Int):=by omega
    have z2:(k:Int)<(l.length:Int):=by omega
    have HTK:=jH (show j0G (l.take (k+1)) a b=pre++if a≤l[k].1∧l[k].1≤b then [l[k]] else [] by rw [List.take_succ_eq_append_getElem hlt,w0P,HPRE.out]);generalize l[k]=x at hc HTK;have d0:=hc 0 _ rfl;have d1:=hc 1 _ rfl;rw [Nat.add_zero] at d0;have HK:=jH hlt;clear hc
    by_cases h1:a≤x.1
    · by_cases h2:x.1≤b
      · as_aux_lemma =>
        go_wp2_with (first
         | (at_builtin
            refine a0N d0J (by rfl) (by rfl) w.heap.size pre [x] (.slice A5 pre.length c5) _ (by rfl) (by rfl) (HO.out.below (a0C jR _)) (a0O.lit _ x _ _ wr.heap.size rfl rfl) (by have:=HPL.out;have:=HL.out;have:=HK.out;simp;omega) (by have:=HB.out.size;simp;omega) ?_;intro out2 A9 c9 w13 hout2 hown2 hg2 _;have HO13:=jH hout2;have HW13:=jH hown2;have HB13:=jH (show jB w w13 from (a0C HB.out _).trans (a0Z hg2 HO.out (by have:=HB.out.size;simp;omega)))
            clear hout2 hown2 hg2))
        go_roundg (l.length - (k+1))
        case measure=>omega
        case rel=>exact ⟨k+1,HK.out,Nat.le_refl _,by go_num,by rw [HTK.out,if_pos ⟨h1,h2⟩,←HO13.out];exact HW13.out,HB13.out⟩
      · as_aux_lemma =>
        go_wp2_with fail
        go_roundg (l.length - (k+1))
        case measure=>omega
        case rel=>exact ⟨k+1,HK.out,Nat.le_refl _,by go_num,by rw [HTK.out,if_neg (by omega),List.append_nil];exact HO.out,HB.out⟩
    · as_aux_lemma =>
      go_wp2_with fail
      go_roundg (l.length - (k+1))
      case measure=>omega
      case rel=>exact ⟨k+1,HK.out,Nat.le_refl _,by go_num,by rw [HTK.out,if_neg (by omega),List.append_nil];exact HO.out,HB.out⟩
  · obtain rfl:k=l.length:=by omega
    have hp:=HPRE.out;rw [List.take_length] at hp;have HP:=jH hp;clear hp;go_wp2_with fail
    go_ret
    exact ⟨A5,c5,by rw [HP.out];rfl,by rw [←HP.out];exact HO.out,HB.out⟩
theorem j0Z (v:Value) (l:List Smp) (w:World) (hv:a0O 2 b0X w v l) (hl:l.length≤1000000) :
 Calls Tryz.prog 190 #[v] w fun e w'=>∃A c,e=.returned (.slice A (c0P l).length c)∧b0Q nmC 2 1 w.heap.size w' (.slice A (c0P l).length c) (c0P l)∧jB w w':=by
 obtain ⟨A,c,rfl⟩:=hv.form;have HV:=jH hv;have HL:=jH hl;have hl9:l.length≤9223372036854775807:=by omega
 clear hv hl
 go_enter Tryz.func190,Tryz.ntmps190
 go_wp2
 go_loopg [3,4] l.length (fun g s7 s12 wr=>∃k:Nat,k≤l.length∧l.length - k≤g∧s12=.int .i64 k∧b0Q nmC 2 1 w.heap.size wr s7 (c0P (l.take k))∧jB w wr)
 case atStart=>exact ⟨0,Nat.zero_le _,Nat.le_refl _,rfl,by simp [c0P];exact b0Q.nil _ _,jR⟩
 case round =>
  obtain ⟨k,hk,hg,rfl,hown,hb⟩:=hrel;rename World=>wr
  obtain ⟨pre,hpre⟩:∃pre,pre=c0P (l.take k):=⟨_,rfl⟩;rw [←hpre] at hown;obtain ⟨A5,c5,rfl⟩:=hown.form;have HPL:=jH (show pre.length≤k by rw [hpre,j0L];simp;omega);have HPRE:=jH hpre;have HO:=jH hown;have HB:=jH hb;clear hpre hown hb
  by_cases hlt:k<l.length
  · obtain ⟨b1,o1,rfl,hb1,hc⟩:=(HV.out.below HB.out).at_ hlt
    have z1:(0:Int)≤(k:Int):=by omega
    have z2:(k:Int)<(l.length:Int):=by omega
    have HTK:=jH (show c0P (l.take (k+1))=pre++[max l[k].2 0] by rw [List.take_succ_eq_append_getElem hlt,r0X,HPRE.out]);generalize l[k]=x at hc HTK;have d0:=hc 0 _ rfl;have d1:=hc 1 _ rfl;rw [Nat.add_zero] at d0;have HK:=jH hlt;clear hc
    by_cases h0:x.2<0
    · rw [Int.max_eq_right (by omega)] at HTK
      as_aux_lemma =>
      go_wp2_with (first
       | (at_builtin
          refine a0N eNm (by rfl) (by rfl) w.heap.size pre [0] (.slice A5 pre.length c5) _ (by rfl) (by rfl) (HO.out.below (a0C jR _)) (a0O.lit _ (0) _ _ wr.heap.size rfl (by simp [nmC])) (by have:=HPL.out;have:=HL.out;have:=HK.out;simp;omega) (by have:=HB.out.size;simp;omega) ?_;intro out2 A9 c9 w13 hout2 hown2 hg2 _;have HO13:=jH hout2;have HW13:=jH hown2;have HB13:=jH (show jB w w13 from (a0C HB.out _).trans (a0Z hg2 HO.out (by have:=HB.out.size;simp;omega)))
          clear hout2 hown2 hg2))
      go_roundg (l.length - (k+1))
      case measure=>omega
      case rel=>exact ⟨k+1,HK.out,Nat.le_refl _,by go_num,by rw [HTK.out,←HO13.out];exact HW13.out,HB13.out⟩
    · rw [Int.max_eq_left (by omega)] at HTK
      as_aux_lemma =>
      go_wp2_with (first
       | (at_builtin
          refine a0N eNm (by rfl) (by rfl) w.heap.size pre [x.2] (.slice A5 pre.length c5) _ (by rfl) (by rfl) (HO.out.below (a0C jR _)) (a0O.lit _ (x.2) _ _ wr.heap.size rfl (by simp [nmC])) (by have:=HPL.out;have:=HL.out;have:=HK.out;simp;omega) (by have:=HB.out.size;simp;omega) ?_;intro out2 A9 c9 w13 hout2 hown2 hg2 _;have HO13:=jH hout2;have HW13:=jH hown2;have HB13:=jH (show jB w w13 from (a0C HB.out _).trans (a0Z hg2 HO.out (by have:=HB.out.size;simp;omega)))
          clear hout2 hown2 hg2))
      go_roundg (l.length - (k+1))
      case measure=>omega
      case rel=>exact ⟨k+1,HK.out,Nat.le_refl _,by go_num,by rw [HTK.out,←HO13.out];exact HW13.out,HB13.out⟩
  · obtain rfl:k=l.length:=by omega
    have hp:=HPRE.out;rw [List.take_length] at hp;have HP:=jH hp;clear hp;go_wp2_with fail
    go_ret
    exact ⟨A5,c5,by rw [HP.out];rfl,by rw [←HP.out];exact HO.out,HB.out⟩
section
section
variable {P:Program}
theorem a0M {ops:Array Oper} {rest:List Oper} {op:Oper} {a:Act} {w:World} {Q:Exit→Act→World→Prop} (hgd:op.guard=none) (ty:TypeId) (x:Operand) (ho:op.op=.load ty x)
    (b o:Nat) (cs:List Value) (hc:∀j v,cs[j]?=some v→w.cell? ⟨b,o+j,none⟩=some v) (hx:a.eval x=.pointer (some ⟨b,o,none⟩)) (d:TypeDesc)
    (hu:P.underlying ty=some d) (hd:d.isRow=true) (hi:(P.info? ty).map (·.size)=some cs.length)
    (h:wpList P ops Q rest (a.put op.dst (.agg cs.toArray)) w):wpList P ops Q (op::rest) a w :=
  wpList_load_mid hgd ty x ho b o hx cs d hc hu hd hi h
end
end
theorem f0S:Tryz.zeroCells338=(a0R fun _=>false).toArray:=by kernel_rfl
theorem b0C (f:Nat→Bool):(Tryz.prog.info? 338).map (·.size)=some (a0R f).length:=by rw [h0M];kernel_rfl
theorem c0A (f:Nat→Bool):(Tryz.prog.info? 338).map (·.size)=some (a0R f).toArray.size:=by rw [List.size_toArray,h0M];kernel_rfl
theorem d0N (f:Nat→Bool):(a0R f).toArray.all (·.oneCell')=true:=all_oneCell_toArray (fun v hv=>by
 obtain ⟨j,_,rfl⟩:=List.mem_map.1 hv;rfl)
def e0W (w:World) (B:Nat) (f:Nat→Bool):Prop:=w.heap[B]?=some (.cells (a0R f).toArray 338 (0,0))
theorem e0W.cell {w:World} {B:Nat} {f:Nat→Bool} (h:e0W w B f) {i:Nat} (hi:i<128):w.cell? ⟨B,i,none⟩=some (.bool (f i))∧w.frozen? ⟨B,i,none⟩=false:=by
 obtain ⟨h1,h2,_⟩:=a0A (Below.refl w.heap.size w) h;refine ⟨?_,h2 i⟩;rw [h1 i]
 simpa using p0K f i hi
theorem e0W.range {w:World} {B:Nat} {f:Nat→Bool} (h:e0W w B f):∀j v,(a0R f)[j]?=some v→w.cell? ⟨B,0+j,none⟩=some v:=fun j v hj=>by
 obtain ⟨h1,_,_⟩:=a0A (Below.refl w.heap.size w) h;rw [Nat.zero_add,h1 j]
 simpa using hj
theorem e0W.set {w:World} {B:Nat} {f:Nat→Bool} (h:e0W w B f) {i:Nat} (hi:i<128) (b:Bool):e0W (w.setCell ⟨B,i,none⟩ (.bool b)) B (m1C f i b):=by
 have:=a0E (i:=i) (v:=.bool b) h;unfold e0W;rw [this,List.setIfInBounds_toArray,j1L f i b hi]
theorem e0W.ne {w:World} {B C i:Nat} {v:Value} {f:Nat→Bool} (h:e0W w B f) (hn:B≠C):e0W (w.setCell ⟨C,i,none⟩ v) B f:=a0U h hn
theorem e0W.below {w w':World} {B:Nat} {f:Nat→Bool} (h:e0W w B f) (hb:jB w w'):e0W w' B f:=jK hb h
theorem e0W.there {w:World} {B:Nat} {f:Nat→Bool} (h:e0W w B f) (g:Nat→Bool):w.there B 0 (a0R g).toArray.size:=fun j hj=>by
 rw [List.size_toArray,h0M] at hj;obtain ⟨h1,h2⟩:=h.cell hj;rw [Nat.zero_add];exact ⟨by rw [h1];rfl,h2⟩
theorem l0H:∀(vs:List Value) (w:World) (B i:Nat),w.setCells B i vs=b0J w B i vs
  | [],w,B,i=>rfl
  | v::vs,w,B,i=>l0H vs _ B (i+1)
theorem e0W.store {w:World} {B:Nat} {f:Nat→Bool} (h:e0W w B f) (g:Nat→Bool):e0W (w.setCells B 0 (a0R g)) B g∧(∀k,k≠B→(w.setCells B 0 (a0R g)).heap[k]?=w.heap[k]?)∧∀n,n≤B→Below n w (w.setCells B 0 (a0R g)):=by
 obtain ⟨a,b,_,d⟩:=a0P h (a0R g) (by simp [h0M]) _ (l0H (a0R g) w B 0);exact ⟨a,b,d⟩
theorem e0W.load {w:World} {B:Nat} {f:Nat→Bool} (h:e0W w B f):(loadVar 338 ⟨B,0,none⟩).run Tryz.prog w=.ok (.agg (a0R f).toArray) w :=
 run_loadVar_mid w B 0 338 (a0R f) _ h.range Tryz.underlying338 rfl (b0C f)
theorem k0C (w:World) (f:Nat→Bool):e0W (w.alloc (.cells (a0R f).toArray 338)) w.heap.size f:=heap_alloc_new _ _
end
end Go.Proofs.YtmniiodpbebnmaaGreat
