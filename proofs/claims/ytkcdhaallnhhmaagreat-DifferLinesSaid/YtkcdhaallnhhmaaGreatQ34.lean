/- Part 34 of the proof: W21D, W21E. -/
import Derived.Test.YtkcdhaallnhhmaaGreatQ24
import Derived.Test.YtkcdhaallnhhmaaGreatQ32
import Derived.Test.YtkcdhaallnhhmaaGreatQ33
namespace Go.Proofs.YtkcdhaallnhhmaaGreat
set_option linter.unusedSimpArgs false
set_option linter.unusedVariables false
set_option linter.unusedSectionVars false
set_option maxRecDepth 100000
set_option maxHeartbeats 16000000
section
open Go.RowKit Go.Lib
def OneSays (P:Nat→Prop) (w:World) (c:Cfg) (r:Wd × Int) (e:Ending) (w':World):Prop :=
 ∃x:WdH,e=.returned (.tuple #[.agg (wdC c x).toArray,.int .i64 r.2])∧WdIn P w' x∧absW x=r.1∧jB w w'
theorem ItemsIn.keepP {P:Nat→Prop} {w w':World} {v:Value} {l:List It} (h:ItemsIn P w v l) (hs:w.heap.size≤w'.heap.size) (hk:∀b,P b→b<w.heap.size→w'.heap[b]?=w.heap[b]?):ItemsIn P w' v l :=
 ⟨h.1.keepP hs hk,fun x hx=>⟨(h.2 x hx).1.keepP hs hk,(h.2 x hx).2.keepP hs hk⟩⟩
theorem ItemsIn.old {P:Nat→Prop} {w:World} {v:Value} {l:List It} (h:ItemsIn P w v l):ItemsIn (fun b=>P b∧b<w.heap.size) w v l :=
 ⟨h.1.old,fun x hx=>⟨(h.2 x hx).1.old,(h.2 x hx).2.old⟩⟩
theorem one21_any (P:Nat→Prop) (c:Cfg) (rs rh n:Nat) (x:WdH) (id:ByteArray) (a:Act17) (w:World) (hP:∀b,w.heap.size≤b→P b) (hx:WdIn P w x) (hc:RoomOk c rs rh) (hst:okSt c.st=true) (hk:WdOk c rs rh n (absW x)) (hn:n≤100000) (hm:id.size≤maxLen) (h0:¬a.kind<0) (h1:a.kind≠1) (h3:¬3<a.kind) :
 Calls Tryz.prog 89 #[.agg (wdC c x).toArray,.string id,.agg (act17C a).toArray] w (OneSays P w c (oneW c rs rh (absW x) id a)):=by
 obtain ⟨sA,sc,st,cA,cc,cuts,ep,over⟩:=x;have hlen:(st.length:Int)=c.st:=by have:=hk.len;simpa [absW] using this
 obtain ⟨hr0,hr1⟩:=route_lt (hi:=(keyK id).1) (lo:=(keyK id).2) hst;obtain ⟨at_,hat⟩:∃t,t=atW c id:=⟨_,rfl⟩;have hri:routeI (keyK id).1 (keyK id).2 c.st=(at_:Int):=by rw [hat];unfold atW;omega
 have hal:at_<st.length:=by omega
 have hgd:(absW ⟨sA,sc,st,cA,cc,cuts,ep,over⟩).st.getD at_ []=st[at_].l.map absI:=by
  show (st.map fun s=>s.l.map absI).getD at_ []=_
  rw [List.getD_eq_getElem?_getD,List.getElem?_map,List.getElem?_eq_getElem hal];rfl
 have hone:oneW c rs rh (absW ⟨sA,sc,st,cA,cc,cuts,ep,over⟩) id a=(⟨(st.map fun s=>s.l.map absI).set at_ (one18 c rs rh st[at_].l (keyK id) a).1,cuts.map absC,ep,over⟩,(one18 c rs rh st[at_].l (keyK id) a).2.1):=by
  unfold oneW;rw [←hat,hgd,oneP_abs];rfl
 rw [hone];have hmem:st[at_].l.map absI∈(absW ⟨sA,sc,st,cA,cc,cuts,ep,over⟩).st:=List.mem_map.2 ⟨_,List.getElem_mem hal,rfl⟩;have hroom:=hk.room _ hmem;have hit:=hk.it _ hmem;rw [List.length_map] at hroom;have hgp:=getP_ok hit (keyK id) (keyK_ok id);rw [getP_abs] at hgp;have hV:=hx.sr.1;obtain ⟨sb,so,hsA,hsb,hsc⟩:=hV.at_ hal;have HSC:=jH (show w.cell? ⟨sb,so+at_,none⟩=some (.slice st[at_].A st[at_].l.length st[at_].c) by simpa using hsc 0 _ rfl)
 have HIT:=jH (hx.it _ (List.getElem_mem hal)).old;have CD:=jH (fun (W:World) (hW:jB w W)=>r18_one (fun b=>P b∧(b<w.heap.size∨W.heap.size≤b)) c rs rh _ st[at_].l (keyK id) a W (fun b hb=>⟨hP b (Nat.le_trans hW.size hb),.inr hb⟩) ((HIT.out.below hW).imp (fun b hb=>⟨hb.1,.inl hb.2⟩)) hc hgp.nd (by have:=hgp.ver;dsimp only at this;omega) (by omega) (fun z hz=>(hit (absI z) (List.mem_map.2 ⟨z,hz,rfl⟩)).key) (keyK_ok id) h0 h1 h3)
 have CK:=jH (fun W=>refKeyK_any id W hm);have CR:=jH (fun W=>show Calls Tryz.prog 136 #[.agg #[.int .u64 (keyK id).1,.int .u64 (keyK id).2],.int .i64 c.st] W (jP W (.int .i64 (at_:Nat))) from hri ▸ refOf_any (keyK id).1 (keyK id).2 c.st W (keyK_ok id).1 (keyK_ok id).2);have HX:=jH hx;have HP:=jH hP;have CP:=jH (fun (W:World) (hW:jB w W) (y:SrH)=>put21_any _ st at_ y W (hV.below hW) (by have:=okSt_bd _ hst;omega) (by have:=okSt_bd _ hst;omega))
 have hsl:(at_:Int)<(st.length:Int):=by omega
 have hs0:(0:Int)≤(at_:Int):=by omega
 have HSE:=jH (show ∀y∈st,ItemsIn P w (.slice y.A y.l.length y.c) y.l from hx.it);generalize hone18:one18 c rs rh st[at_].l (keyK id) a=r at CD ⊢;generalize hss:st[at_]=s at HSC HIT CD;generalize keyK id=k at CK CR CD;clear hk hit hgp hroom hmem hone hgd hat hri hr0 hr1 hlen hV hsc hP hx hm h0 h1 h3 hc hst hone18 hss;subst hsA;unfold cfgV act18C at CD;unfold wdC act17C;dsimp only
 go_enter Tryz.func89,Tryz.ntmps89
 go_wp2_with (first
  | (go_at_call 104
     refine calls_named ?_;intro W1 hW1;have hb1:jB w W1:=by rw [hW1];exact balloc (balloc (balloc jR _) _) _
     have hx1:W1.heap[w.heap.size]?=some (.cells #[.int .i64 c.st,.int .i64 c.sa,.int .i64 c.lo,.int .i64 c.hi,.slice (some ⟨sb,so,none⟩) st.length sc,.slice cA cuts.length cc,.int .i64 ep,.bool over] 32 (0,0)):=by rw [hW1];exact box3_0 _ _ _ _
     have ha1:W1.heap[w.heap.size+1]?=some (.cells #[.int .i64 a.kind,.int .i64 a.smp.1,.int .i64 a.smp.2,.int .i64 a.pol.mn,.int .i64 a.pol.mx,.int .i64 a.pol.tg,.int .i64 a.pol.tol,.int .i64 a.pol.win,.int .i64 a.pol.hold,.int .i64 a.adv.tick,.int .i64 a.adv.load,.int .i64 a.adv.want,.int .i64 a.adv.repl,.int .i64 a.adv.why] 157 (0,0)):=by rw [hW1];exact box3_1 _ _ _ _
     have hr1:W1.heap[w.heap.size+1+1]?=some (.cells #[.int .i64 0,.int .i64 0,.int .i64 0,.int .i64 0,.slice none 0 0,.slice none 0 0,.int .i64 0,.bool false] 32 (0,0)):=by rw [hW1];exact box3_2 _ _ _ _
     clear hW1;refine (CK.out W1).mono ?_;rintro e w2 ⟨rfl,hb2⟩;have HB2:=jH (bthen hb1 hb2);have hx2:=jK hb2 hx1;have R0:=fun W j (h:jB w2 W)=>(box_cells h hx2).1 j
     have HX2:=jH hx2;have HA2:=jH (jK hb2 ha1);have HR2:=jH (jK hb2 hr1);clear hb1 hb2 hx1 ha1 hr1 hx2)
  | (go_at_call 136
     refine calls_named ?_;intro W3 hW3;have hb3:jB w2 W3:=by rw [hW3];exact balloc jR _
     have hk3:W3.heap[w2.heap.size]?=some (.cells #[.int .u64 k.1,.int .u64 k.2] 130 (0,0)):=by rw [hW3];exact heap_alloc_new _ _
     clear hW3;refine (CR.out W3).mono ?_;rintro e w4 ⟨rfl,hb4⟩;have hq4:=bthen hb3 hb4;have HB4:=jH (bthen HB2.out hq4);have HX4:=jH (jK hq4 HX2.out);have HA4:=jH (jK hq4 HA2.out);have HR4:=jH (jK hq4 HR2.out);have HK4:=jH (jK hb4 hk3);clear hb3 hb4 hk3 hq4 R0))
 have rw0:∀U,jB w4 U→U.cell? ⟨w.heap.size,0,none⟩=some (.int .i64 c.st):=fun U hU=>(box_cells hU HX4.out).1 0
 have rw1:∀U,jB w4 U→U.cell? ⟨w.heap.size,1,none⟩=some (.int .i64 c.sa):=fun U hU=>(box_cells hU HX4.out).1 1
 have rw2:∀U,jB w4 U→U.cell? ⟨w.heap.size,2,none⟩=some (.int .i64 c.lo):=fun U hU=>(box_cells hU HX4.out).1 2
 have rw3:∀U,jB w4 U→U.cell? ⟨w.heap.size,3,none⟩=some (.int .i64 c.hi):=fun U hU=>(box_cells hU HX4.out).1 3
 have rw4:∀U,jB w4 U→U.cell? ⟨w.heap.size,4,none⟩=some (.slice (some ⟨sb,so,none⟩) st.length sc):=fun U hU=>(box_cells hU HX4.out).1 4
 have rw5:∀U,jB w4 U→U.cell? ⟨w.heap.size,5,none⟩=some (.slice cA cuts.length cc):=fun U hU=>(box_cells hU HX4.out).1 5
 have rw6:∀U,jB w4 U→U.cell? ⟨w.heap.size,6,none⟩=some (.int .i64 ep):=fun U hU=>(box_cells hU HX4.out).1 6
 have rw7:∀U,jB w4 U→U.cell? ⟨w.heap.size,7,none⟩=some (.bool over):=fun U hU=>(box_cells hU HX4.out).1 7
 have ra0:∀U,jB w4 U→U.cell? ⟨w.heap.size+1,0,none⟩=some (.int .i64 a.kind):=fun U hU=>(box_cells hU HA4.out).1 0
 have ra1:∀U,jB w4 U→U.cell? ⟨w.heap.size+1,1,none⟩=some (.int .i64 a.smp.1):=fun U hU=>(box_cells hU HA4.out).1 1
 have ra2:∀U,jB w4 U→U.cell? ⟨w.heap.size+1,2,none⟩=some (.int .i64 a.smp.2):=fun U hU=>(box_cells hU HA4.out).1 2
 have ra3:∀U,jB w4 U→U.cell? ⟨w.heap.size+1,3,none⟩=some (.int .i64 a.pol.mn):=fun U hU=>(box_cells hU HA4.out).1 3
 have ra4:∀U,jB w4 U→U.cell? ⟨w.heap.size+1,4,none⟩=some (.int .i64 a.pol.mx):=fun U hU=>(box_cells hU HA4.out).1 4
 have ra5:∀U,jB w4 U→U.cell? ⟨w.heap.size+1,5,none⟩=some (.int .i64 a.pol.tg):=fun U hU=>(box_cells hU HA4.out).1 5
 have ra6:∀U,jB w4 U→U.cell? ⟨w.heap.size+1,6,none⟩=some (.int .i64 a.pol.tol):=fun U hU=>(box_cells hU HA4.out).1 6
 have ra7:∀U,jB w4 U→U.cell? ⟨w.heap.size+1,7,none⟩=some (.int .i64 a.pol.win):=fun U hU=>(box_cells hU HA4.out).1 7
 have ra8:∀U,jB w4 U→U.cell? ⟨w.heap.size+1,8,none⟩=some (.int .i64 a.pol.hold):=fun U hU=>(box_cells hU HA4.out).1 8
 have ra9:∀U,jB w4 U→U.cell? ⟨w.heap.size+1,9,none⟩=some (.int .i64 a.adv.tick):=fun U hU=>(box_cells hU HA4.out).1 9
 have ra10:∀U,jB w4 U→U.cell? ⟨w.heap.size+1,10,none⟩=some (.int .i64 a.adv.load):=fun U hU=>(box_cells hU HA4.out).1 10
 have ra11:∀U,jB w4 U→U.cell? ⟨w.heap.size+1,11,none⟩=some (.int .i64 a.adv.want):=fun U hU=>(box_cells hU HA4.out).1 11
 have ra12:∀U,jB w4 U→U.cell? ⟨w.heap.size+1,12,none⟩=some (.int .i64 a.adv.repl):=fun U hU=>(box_cells hU HA4.out).1 12
 have ra13:∀U,jB w4 U→U.cell? ⟨w.heap.size+1,13,none⟩=some (.int .i64 a.adv.why):=fun U hU=>(box_cells hU HA4.out).1 13
 have rk0:∀U,jB w4 U→U.cell? ⟨w2.heap.size,0,none⟩=some (.int .u64 k.1):=fun U hU=>(box_cells hU HK4.out).1 0
 have rk1:∀U,jB w4 U→U.cell? ⟨w2.heap.size,1,none⟩=some (.int .u64 k.2):=fun U hU=>(box_cells hU HK4.out).1 1
 have rs0:∀U,jB w4 U→U.cell? ⟨sb,so+at_,none⟩=some (.slice s.A s.l.length s.c):=fun U hU=>((bthen HB4.out hU).cell (p:=⟨sb,_,none⟩) hsb).trans HSC.out
 have hS00:jB w4 w4:=jR;have hS0:jB w4 w4.drew:=hS00.drew
 go_region_held3 (fun U=>jB w4 U)
   (first
     | with_reducible exact hS0
     | with_reducible exact HB5.out
     | with_reducible exact hS00)
   (first
   | (go_at_call 137
      refine calls_named ?_;intro W5 hW5;subst hW5;refine (CD.out _ (bthen HB4.out ‹jB w4 _›)).mono ?_;rintro e w5 ⟨out,A5,c5,rfl,hit5,habs5,hb5⟩;have HB5:=jH (bthen ‹jB w4 _› hb5);have HI5:=jH (show ItemsIn (fun b=>P b∧(b<w.heap.size∨w4.heap.size≤b)) w5 (.slice A5 out.length c5) out from hit5.imp (fun b hb=>hb));have HAB5:=jH habs5;clear hit5 habs5 hb5))
 all_goals
   refine then_named ?_;intro W6 hW6;have hb6:jB w5 W6:=by rw [hW6];first|exact jR|exact jR.drew|exact below_drewN jR _
   clear hW6 hS00 hS0;have HB6:=jH hb6;have hq6:jB w4 W6:=bthen HB5.out hb6;have HQ6:=jH hq6;clear hb6
   go_wp2_with (first
    | (go_at_call 138
       refine calls_named ?_;intro W7 hW7;have hb7:jB W6 W7:=by rw [hW7];exact balloc jR _
       have h14:W7.heap[W6.heap.size]?=some (.cells #[.int .i64 c.st,.int .i64 c.sa,.int .i64 c.lo,.int .i64 c.hi,.slice (some ⟨sb,so,none⟩) st.length sc,.slice cA cuts.length cc,.int .i64 ep,.bool over] 32 (0,0)):=by rw [hW7];exact heap_alloc_new _ _
       clear hW7;have hcp:=CP.out W7 (bthen HB4.out (bthen HQ6.out hb7)) ⟨A5,c5,out⟩;dsimp only at hcp;refine hcp.mono ?_;rintro e w8 ⟨A9,c9,rfl,hg9,hb8⟩;clear hcp;have H14:=jH (jK hb8 h14);have hlt7:=(jL h14);have hq8:=bthen hq6 (bthen hb7 hb8);have HR8:=jH (jK hq8 HR4.out);have HG9:=jH hg9;have HQ8:=jH hq8;have H68:=jH (bthen HB6.out (bthen hb7 hb8));have HLT:=jH (show W6.heap.size<W7.heap.size∧W7.heap.size≤w8.heap.size∧w5.heap.size≤W6.heap.size from ⟨hlt7,hb8.size,HB6.out.size⟩)
       obtain ⟨p1,p2,p3⟩:=box_cells jR H14.out;obtain ⟨r1,r2,r3⟩:=box_cells jR HR8.out;have hne:¬W6.heap.size=w.heap.size+1+1:=by have:=(jL HR4.out);have:=HQ6.out.size;omega
       have hne2:¬w.heap.size+1+1=W6.heap.size:=fun h=>hne h.symm
       clear hb7 hb8 h14 hg9 hlt7 hq8 hq6))
   refine post_named ?_;intro W9 hW9;have hW9':W9=stor (w8.setCell ⟨W6.heap.size,4,none⟩ (.slice A9 st.length c9)) (w.heap.size+1+1) 0 [.int .i64 c.st,.int .i64 c.sa,.int .i64 c.lo,.int .i64 c.hi,.slice A9 st.length c9,.slice cA cuts.length cc,.int .i64 ep,.bool over]:=hW9;obtain ⟨s1,s2,s3,s4⟩:=stor_at (heap_set_ne HR8.out hne2) [.int .i64 c.st,.int .i64 c.sa,.int .i64 c.lo,.int .i64 c.hi,.slice A9 st.length c9,.slice cA cuts.length cc,.int .i64 ep,.bool over] rfl W9 hW9'
   obtain ⟨a9,a8,a7⟩:=box_cells jR s1;clear hW9 hW9';have hz4:=(jL HR4.out);have hb9:jB w W9:=((bthen HB4.out HQ8.out).setCell (by have:=HB4.out.size;have:=HQ6.out.size;simp;omega) _).trans (s4 _ (by omega));have hkept:∀b,b≠W6.heap.size→b≠w.heap.size+1+1→W9.heap[b]?=w8.heap[b]?:=fun b h1 h2=>(s2 b h2).trans (heap_set_ne rfl h1)
   have hsz9:w8.heap.size≤W9.heap.size:=by rw [s3];simp
   have hlt:=HLT.out;have hq6s:=HQ6.out.size;refine bodyPost_ret (v:=.tuple #[.agg #[.int .i64 c.st,.int .i64 c.sa,.int .i64 c.lo,.int .i64 c.hi,.slice A9 st.length c9,.slice cA cuts.length cc,.int .i64 ep,.bool over],.int .i64 r.2.1]) (by simp [results,Tryz.results89,go_sem,a9]) rfl ⟨⟨A9,c9,st.set at_ ⟨A5,c5,out⟩,cA,cc,cuts,ep,over⟩,by simp [wdC],⟨?_,?_,HX.out.cr.below hb9,fun y hy=>(HX.out.ct y hy).below hb9⟩,?_,hb9⟩
   · exact (HG9.out.keepP hsz9 (fun b hb _=>hkept b (by omega) (by omega))).imp (fun b hb=>HP.out b (by have:=hb9.size;have:=HB4.out.size;omega))
   · intro y hy
     rcases List.mem_or_eq_of_mem_set hy with hy|hy
     · exact (HSE.out y hy).below hb9
     · rw [hy]
       exact (((HI5.out.old.below H68.out).keepP hsz9 (fun b hb _=>hkept b (by have:=hb.2;omega) (by have:=hb.1.2;omega))).imp (fun b hb=>hb.1.1))
   · show Wd.mk _ _ _ _=_
     rw [List.map_set,HAB5.out]
end
section
open Go.RowKit Go.Lib
theorem items_grown {P:Nat→Prop} {w u w4:World} {v v' vr:Value} {l:List It} (h:ItemsIn (fun b=>P b∧v.ownBlock≠some b) w vr l) (hb:jB w u) (hg:u.grownBy w4 v.ownBlock) (hblk:v'.ownBlock=v.ownBlock∨v'.ownBlock=some u.heap.size) :
 ItemsIn (fun b=>P b∧v'.ownBlock≠some b) w4 vr l:=⟨rowG_grown h.1 hb hg hblk,fun x hx=>load_grown (h.2 x hx) hb hg hblk⟩
def wdA (c:Cfg) (v1 v2:Value) (ep:Int) (over:Bool):Array Value:=#[.int .i64 c.st,.int .i64 c.sa,.int .i64 c.lo,.int .i64 c.hi,v1,v2,.int .i64 ep,.bool over]
def QT (P:Nat→Prop) (n:Nat) (b:Nat):Prop:=P b∧(b<n∨n+3≤b)
structure TrimW (P:Nat→Prop) (w wr:World) (wd zs:Array Value) (c:Cfg) (v2:Value) (ep:Int) (over:Bool) (s:Value) (out:List SrH):Prop where
 b:jB w wr
 x0:wr.heap[w.heap.size]?=some (.cells wd 32 (0,0))
 x1:wr.heap[w.heap.size+1]?=some (.cells zs 32 (0,0))
 x2:wr.heap[w.heap.size+1+1]?=some (.cells (wdA c s v2 ep over) 32 (0,0))
 own:OwnL srC 174 1 (w.heap.size+3) wr s out
 it:∀y∈out,ItemsIn (fun b=>QT P w.heap.size b∧s.ownBlock≠some b) wr (.slice y.A y.l.length y.c) y.l
 sz:w.heap.size+3≤wr.heap.size
theorem TrimW.below {P:Nat→Prop} {w wr w':World} {wd zs:Array Value} {c:Cfg} {v2:Value} {ep:Int} {over:Bool} {s:Value} {out:List SrH} (h:TrimW P w wr wd zs c v2 ep over s out) (hb:jB wr w'):TrimW P w w' wd zs c v2 ep over s out :=
 ⟨bthen h.b hb,(hb.block _ (Array.getElem?_eq_some_iff.1 h.x0).1).trans h.x0,(hb.block _ (Array.getElem?_eq_some_iff.1 h.x1).1).trans h.x1,(hb.block _ (Array.getElem?_eq_some_iff.1 h.x2).1).trans h.x2,h.own.below hb,fun y hy=>(h.it y hy).below hb,Nat.le_trans h.sz hb.size⟩
theorem TrimW.put {P:Nat→Prop} {w wr u w2 w3:World} {wd zs:Array Value} {c:Cfg} {v2:Value} {ep:Int} {over:Bool} {s s2:Value} {out:List SrH} {y:SrH} (h:TrimW P w wr wd zs c v2 ep over s out) (hy:ItemsIn (fun b=>QT P w.heap.size b∧s.ownBlock≠some b) wr (.slice y.A y.l.length y.c) y.l)
    (hu:jB wr u) (hg:u.grownBy w2 s.ownBlock) (ho:OwnL srC 174 1 (w.heap.size+3) w2 s2 (out++[y])) (hblk:s2.ownBlock=s.ownBlock∨s2.ownBlock=some u.heap.size) (h3:w3=w2.setCell ⟨w.heap.size+1+1,4,none⟩ s2):TrimW P w w3 wd zs c v2 ep over s2 (out++[y]):=by
  have hsz:=h.sz;have hb2:Below (w.heap.size+3) wr w2:=(hu.mono hsz).trans (grown_own hg h.own (by have:=hu.size;omega));have hb3:∀b,b≠w.heap.size+1+1→w3.heap[b]?=w2.heap[b]?:=fun b hb=>by rw [h3];exact heap_set_ne rfl hb
  have hs3:w3.heap.size=w2.heap.size:=by rw [h3];simp
  subst h3;refine ⟨h.b.trans ((hb2.mono (by omega)).setCell (by simp;omega) _),?_,?_,?_,?_,?_,?_⟩
  · exact (hb3 _ (by omega)).trans ((hb2.block _ (by omega)).trans h.x0)
  · exact (hb3 _ (by omega)).trans ((hb2.block _ (by omega)).trans h.x1)
  · exact (setCell_block ((hb2.block _ (by omega)).trans h.x2)).trans (by rfl)
  · exact ho.kept (fun r hr=>hb3 r (by have:=ho.lt hr;omega))
  · intro z hz
    have hk:∀(l:List It) (v:Value),ItemsIn (fun b=>QT P w.heap.size b∧s.ownBlock≠some b) wr v l→ItemsIn (fun b=>QT P w.heap.size b∧s2.ownBlock≠some b) (w2.setCell ⟨w.heap.size+1+1,4,none⟩ s2) v l:=fun l v hl =>
     (items_grown hl hu hg hblk).keepP (by simp) (fun b hb hlt=>hb3 b (by have:=hb.1.2;omega))
    rcases List.mem_append.1 hz with hz|hz
    · exact hk _ _ (h.it z hz)
    · rw [List.mem_singleton.1 hz];exact hk _ _ hy
  · rw [hs3];have:=hb2.size;omega
theorem TrimW.done {P:Nat→Prop} {w wr w3:World} {wd zs:Array Value} {c:Cfg} {v2:Value} {ep:Int} {over:Bool} {s:Value} {out:List SrH} (h:TrimW P w wr wd zs c v2 ep over s out) (hP:∀b,w.heap.size≤b→P b) (hk:∀b,b≠w.heap.size+1→w3.heap[b]?=wr.heap[b]?) (hs:w3.heap.size=wr.heap.size) :
 RowG P 1 srC w3 s out∧∀y∈out,ItemsIn P w3 (.slice y.A y.l.length y.c) y.l :=
 ⟨((RowG.own eSr h.own).keepP (Nat.le_of_eq hs.symm) (fun b hb hlt=>hk b (by omega))).imp (fun b hb=>hP b (by omega)),
   fun y hy=>((h.it y hy).keepP (Nat.le_of_eq hs.symm) (fun b hb hlt=>hk b (by have:=hb.1.2;omega))).imp (fun b hb=>hb.1.1)⟩
def Wd21Says (P:Nat→Prop) (w:World) (c:Cfg) (r:Wd) (e:Ending) (w':World):Prop :=
 ∃x:WdH,e=.returned (.agg (wdC c x).toArray)∧WdIn P w' x∧absW x=r∧jB w w'
theorem trim21_any (P:Nat→Prop) (c:Cfg) (rs rh n:Nat) (x:WdH) (cut:Int) (w:World) (hP:∀b,w.heap.size≤b→P b) (hx:WdIn P w x) (hc:RoomOk c rs rh) (hst:c.st≤64) (hk:WdOk c rs rh n (absW x)) (hn:n≤100000) :
 Calls Tryz.prog 91 #[.agg (wdC c x).toArray,.int .i64 cut] w (Wd21Says P w c (trimW (absW x) cut)):=by
 obtain ⟨sA,sc,st,cA,cc,cuts,ep,over⟩:=x;have hlen:(st.length:Int)=c.st:=by have:=hk.len;simpa [absW] using this
 have hl64:st.length≤64:=by omega
 have HX:=jH hx;have HP:=jH hP;have HIT:=jH (show ∀s∈st,s.l.length≤256∧∀z∈s.l,ItOk rs rh n (absI z) from fun s hs=>by
  have hm:s.l.map absI∈(absW ⟨sA,sc,st,cA,cc,cuts,ep,over⟩).st:=List.mem_map.2 ⟨s,hs,rfl⟩;have h1:=hk.room _ hm;rw [List.length_map] at h1;exact ⟨h1,fun z hz=>hk.it _ hm _ (List.mem_map.2 ⟨z,hz,rfl⟩)⟩)
 have CT:=jH (fun (s:SrH) (hs:s∈st) (so:Option Nat) (hso:∀b,so=some b→w.heap.size+3≤b) (W:World) (hW:jB w W) (hlt:∀b,so=some b→b<W.heap.size) (h3:w.heap.size+3≤W.heap.size) =>
  rtrim_any (fun b=>QT P w.heap.size b∧so≠some b) c rs rh (.slice s.A s.l.length s.c) s.l cut W (fun b hb=>⟨⟨hP b (Nat.le_trans hW.size hb),.inr (by omega)⟩,fun e=>by have:=hlt b e;omega⟩)
    (((hx.it s hs).old.below hW).imp (fun b hb=>⟨⟨hb.1,.inl hb.2⟩,fun e=>by have:=hso b e;have:=hb.2;omega⟩)) hc (fun z hz=>((HIT.out s hs).2 z hz).nd) (fun z hz=>by have:=((HIT.out s hs).2 z hz).ver;dsimp only [absI] at this;omega) (by have:=(HIT.out s hs).1;omega))
 have hN:=hn;clear hx hP hc hk;unfold cfgV at CT;unfold wdC;dsimp only
 go_enter Tryz.func91,Tryz.ntmps91
 go_wp2_with fail
 refine name_world ?_;intro W hW;have HAT0:=jH (show TrimW P w W (wdA c (.slice sA st.length sc) (.slice cA cuts.length cc) ep over) (wdA ⟨0,0,0,0⟩ (.slice none 0 0) (.slice none 0 0) 0 false) c (.slice cA cuts.length cc) ep over (.slice none 0 0) [] by
  rw [hW];exact ⟨balloc (balloc (balloc jR _) _) _,box3_0 _ _ _ _,box3_1 _ _ _ _,box3_2 _ _ _ _,OwnL.nil _ _,(fun y hy=>by cases hy),by simp⟩)
 clear hW;go_wp2
 go_loopg [6] st.length (fun g s6 wr=>∃(k:Nat) (s:Value) (out:List SrH),k≤st.length∧st.length - k≤g∧s6=.int .i64 k∧TrimW P w wr (wdA c (.slice sA st.length sc) (.slice cA cuts.length cc) ep over) (wdA ⟨0,0,0,0⟩ (.slice none 0 0) (.slice none 0 0) 0 false) c (.slice cA cuts.length cc) ep over s out∧out.map (fun y=>y.l.map absI)=(st.take k).map (fun y=>y.l.map fun z=>(z.key,trimR cut z.nd)))
 case atStart=>exact ⟨0,_,[],Nat.zero_le _,Nat.le_refl _,rfl,HAT0.out,by simp⟩
 case round =>
  obtain ⟨k,s,out,hk,hg,rfl,hat,habs⟩:=hrel;rename World=>wr
  obtain ⟨A3,c3,rfl⟩:=hat.own.form;have HA:=jH hat;have HAB:=jH habs;have HOL:=jH (show out.length=k by have:=congrArg List.length habs;simpa [hk] using this);have hsz:=hat.sz;have hltb:∀b,(Value.slice A3 out.length c3).ownBlock=some b→w.heap.size+3≤b∧b<wr.heap.size:=fun b hb=>hat.own.lt hb
  have HLT:=jH hltb;obtain ⟨a1,a2,a3⟩:=box_cells jR hat.x0;obtain ⟨d1,d2,d3⟩:=box_cells jR hat.x2;unfold wdA at a1 d1;clear hat habs hltb
  by_cases hlt:k<st.length
  · have z1:(k:Int)<(st.length:Int):=by omega
    have z2:(0:Int)≤(k:Int):=by omega
    obtain ⟨sb,so,rfl,hbw,hcc⟩:=HX.out.sr.1.at_ hlt;have hbwr:sb<wr.heap.size:=Nat.lt_of_lt_of_le hbw HA.out.b.size;have c1:wr.cell? ⟨sb,so+k,none⟩=some (.slice st[k].A st[k].l.length st[k].c):=by
     have:=(HA.out.b.cell (p:=⟨sb,so+k * 1+0,none⟩) hbw).trans (hcc 0 _ rfl)
     simpa using this
    have HTK:=jH (List.take_succ_eq_append_getElem hlt);have CK:=jH (CT.out _ (List.getElem_mem hlt) (Value.slice A3 out.length c3).ownBlock (fun b hb=>(HLT.out b hb).1));clear hcc;generalize st[k]=y at c1 HTK CK;have rw0:∀U,jB wr U→U.cell? ⟨w.heap.size,0,none⟩=some (.int .i64 c.st):=fun U hU=>(hU.cell (p:=⟨w.heap.size,_,none⟩) a3).trans (a1 0)
    have rw1:∀U,jB wr U→U.cell? ⟨w.heap.size,1,none⟩=some (.int .i64 c.sa):=fun U hU=>(hU.cell (p:=⟨w.heap.size,_,none⟩) a3).trans (a1 1)
    have rw2:∀U,jB wr U→U.cell? ⟨w.heap.size,2,none⟩=some (.int .i64 c.lo):=fun U hU=>(hU.cell (p:=⟨w.heap.size,_,none⟩) a3).trans (a1 2)
    have rw3:∀U,jB wr U→U.cell? ⟨w.heap.size,3,none⟩=some (.int .i64 c.hi):=fun U hU=>(hU.cell (p:=⟨w.heap.size,_,none⟩) a3).trans (a1 3)
    have rw4:∀U,jB wr U→U.cell? ⟨w.heap.size,4,none⟩=some (.slice (some ⟨sb,so,none⟩) st.length sc):=fun U hU=>(hU.cell (p:=⟨w.heap.size,_,none⟩) a3).trans (a1 4)
    have rs0:∀U,jB wr U→U.cell? ⟨sb,so+k,none⟩=some (.slice y.A y.l.length y.c):=fun U hU=>(hU.cell (p:=⟨sb,_,none⟩) hbwr).trans c1
    have HD1:=jH d1;clear d1 d2
    go_upto_region 6 with fail
    clear c1 a1 a2
    go_cut [7,8,9] (fun s7 s8 s9 wx=>∃(z:SrH) (n8 n9:Int),s7=.slice z.A z.l.length z.c∧s8=.int .i64 n8∧s9=.int .i64 n9∧ItemsIn (fun b=>QT P w.heap.size b∧(Value.slice A3 out.length c3).ownBlock≠some b) wx (.slice z.A z.l.length z.c) z.l∧z.l.map absI=y.l.map (fun x=>(x.key,trimR cut x.nd))∧jB wr wx)
    case first =>
     have hS00:jB wr wr:=jR;have hS0:jB wr wr.drew:=hS00.drew
     go_region_held3 (fun U=>jB wr U)
       (first
         | with_reducible exact hS0
         | with_reducible exact HB5.out
         | with_reducible exact hS00)
       (first
       | (go_at_call 140
          refine calls_named ?_;intro W5 hW5;subst hW5;refine (CK.out _ (bthen HA.out.b ‹jB wr _›) (fun b hb=>Nat.lt_of_lt_of_le (HLT.out b hb).2 (‹jB wr _›).size) (Nat.le_trans hsz (‹jB wr _›).size)).mono ?_;rintro e w5 ⟨out5,A5,c5,rfl,hit5,habs5,hb5⟩;have HB5:=jH (bthen ‹jB wr _› hb5);have HI5:=jH hit5;have HAB5:=jH habs5;clear hit5 habs5 hb5))
     all_goals
       go_wp2_with fail
       go_meet
       exact ⟨⟨A5,c5,out5⟩,_,_,rfl,rfl,rfl,(show ItemsIn _ w5 _ _ from HI5.out),HAB5.out,HB5.out⟩
    case rest =>
     obtain ⟨z,n8,n9,rfl,rfl,rfl,hz,hzabs,hb5⟩:=hcut;have HZ:=jH hz;have HZA:=jH hzabs;have HB5:=jH hb5;have HA5:=jH (HA.out.below hb5);obtain ⟨e1,e2,e3⟩:=box_cells jR HA5.out.x2;unfold wdA at e1;have hs5:=hb5.size;clear hz hzabs hb5 rw0 rw1 rw2 rw3 rw4 rs0
     go_wp2_with (at_builtin;refine wpList_appendL eSr (by rfl) (by rfl) (w.heap.size+3) out [z] _ _ (by rfl) (by rfl) (HA5.out.own.below (balloc jR _)) (RowIn.lit wc z _ _ _ rfl rfl) (by have:=HOL.out;simp;omega) (by simp;omega) ?_;intro out2 A2 c2' w2 hout2 hown2 hg2 hblk2
                  have hb2:Below (w.heap.size+3) wr w2:=((HB5.out.mono hsz).trans (balloc (Below.refl wc.heap.size wc) _ |>.mono (by omega))).trans (grown_own hg2 HA5.out.own (by simp;omega));have HOWN:=jH hown2;have HOUT:=jH hout2;have HG:=jH hg2;have HBK:=jH hblk2;obtain ⟨f1,f2,f3⟩:=box_cells jR ((hb2.block (w.heap.size+1+1) (by omega)).trans HA.out.x2);unfold wdA at f1;clear hown2 hout2 hg2 hblk2 hb2)
     go_roundg (st.length - (k+1))
     case measure=>omega
     case rel =>
      have hout:=HOUT.out;subst hout;exact ⟨k+1,_,_,hlt,Nat.le_refl _,by go_num,HA5.out.put HZ.out (balloc jR _) HG.out HOWN.out HBK.out rfl,by rw [List.map_append,HAB.out,HTK.out,List.map_append];simp [HZA.out]⟩
  · obtain rfl:k=st.length:=by omega
    have z1:¬(st.length:Int)<(st.length:Int):=by omega
    rw [List.take_length] at HAB;obtain ⟨g1,g2,g3⟩:=box_cells jR HA.out.x1;unfold wdA at g1;go_wp2
    refine post_named ?_;intro W4 hW4;have hW4':W4=stor wr (w.heap.size+1) 0 [.int .i64 c.st,.int .i64 c.sa,.int .i64 c.lo,.int .i64 c.hi,.slice A3 out.length c3,.slice cA cuts.length cc,.int .i64 ep,.bool over]:=hW4;obtain ⟨s1,s2,s3,s4⟩:=stor_at HA.out.x1 [.int .i64 c.st,.int .i64 c.sa,.int .i64 c.lo,.int .i64 c.hi,.slice A3 out.length c3,.slice cA cuts.length cc,.int .i64 ep,.bool over] rfl W4 hW4'
    obtain ⟨a9,a8,a7⟩:=box_cells jR s1;have hb9:jB w W4:=HA.out.b.trans (s4 _ (by omega));clear hW4 hW4';obtain ⟨h1,h2⟩:=HA.out.done HP.out s2 s3;refine bodyPost_ret (v:=.agg #[.int .i64 c.st,.int .i64 c.sa,.int .i64 c.lo,.int .i64 c.hi,.slice A3 out.length c3,.slice cA cuts.length cc,.int .i64 ep,.bool over]) (by simp [results,Tryz.results91,go_sem,a9]) rfl ⟨⟨A3,c3,out,cA,cc,cuts,ep,over⟩,rfl,⟨h1,h2,HX.out.cr.below hb9,fun y hy=>(HX.out.ct y hy).below hb9⟩,?_,hb9⟩
    show Wd.mk _ _ _ _=Wd.mk _ _ _ _
    rw [HAB.out];simp [absW,List.map_map,Function.comp_def,absI]
end
end Go.Proofs.YtkcdhaallnhhmaaGreat
