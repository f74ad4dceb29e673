/- Part 10 of the proof. -/
import Derived.Test.YtmniiodpbebnmaaGreatJ09
namespace Go.Proofs.YtmniiodpbebnmaaGreat
set_option linter.unusedSimpArgs false
set_option linter.unusedVariables false
set_option linter.unusedSectionVars false
set_option maxRecDepth 100000
set_option maxHeartbeats 16000000
section
open Go.RowKit Go.Lib Go.Sort
def i1B (l:List It) (k:Ky) (y:Nd):List (Ky × Nd):=(l.map c0X).take (atI l k)++[(k,y)]++(l.map c0X).drop (if h0U l k=true then atI l k+1 else atI l k)
def g0Q (c:Cfg) (rs rh:Nat) (l:List It) (k:Ky) (a:c0W):List (Ky × Nd) × Int × Int :=
 let r:=n0P rs rh (i0Q l k).nd a
 if r.2.1≠0 then (l.map c0X,r.2.1,0)
 else if h0U l k=false∧a.kind=3 then (l.map c0X,5,0)
 else if h0U l k=false∧c.lo≤(l.length:Nat) then (l.map c0X,6,0)
 else (i1B l k r.1,0,1)
theorem c1X (l:List It) (k:Ky) (x:It):(q0D l k x).map c0X=i1B l k x.nd:=by
 simp [q0D,i1B,c0X,List.map_take,List.map_drop]
theorem r0N {P:Nat→Prop} {w:World} {l:List It} {k:Ky} {x:It} (hl:∀x∈l,b0K P w x) (hx:b0K P w x):∀z∈q0D l k x,b0K P w z:=by
 intro z hz;unfold q0D at hz
 rcases List.mem_append.1 hz with hz|hz
 · rcases List.mem_append.1 hz with hz|hz
   · exact hl z (List.mem_of_mem_take hz)
   · rw [List.mem_singleton.1 hz]
     exact hx
 · exact hl z (List.mem_of_mem_drop hz)
theorem i1U {P:Nat→Prop} {w:World} {l:List It} (hl:∀x∈l,b0K P w x) (k:Ky):b0K P w (i0Q l k):=by
 unfold i0Q
 split
 · rename_i h
   split
   · exact hl _ (List.getElem_mem h)
   · exact ⟨e0U.nil,e0U.nil⟩
 · exact ⟨e0U.nil,e0U.nil⟩
theorem a1P {W a b:World} {n B0 B1:Nat} {c0 c1:Array Value} (h0:B0<W.heap.size) (h1:B1<W.heap.size) (h:(∀j,a.cell? ⟨B0,j,none⟩=c0[j]?)∧(∀j,a.cell? ⟨B1,j,none⟩=c1[j]?)∧jB W a) (k:Below n a b) (e:n=a.heap.size) :
 (∀j,b.cell? ⟨B0,j,none⟩=c0[j]?)∧(∀j,b.cell? ⟨B1,j,none⟩=c1[j]?)∧jB W b:=by
 subst e;have hs:=h.2.2.size;exact ⟨fun j=>(k.cell (p:=⟨B0,j,none⟩) (Nat.lt_of_lt_of_le h0 hs)).trans (h.1 j),fun j=>(k.cell (p:=⟨B1,j,none⟩) (Nat.lt_of_lt_of_le h1 hs)).trans (h.2.1 j),a0D h.2.2 k⟩
theorem t0M {W a:World} {B0 B1:Nat} {c0 c1:Array Value} (h0:B0<W.heap.size) (h1:B1<W.heap.size) (h:(∀j,a.cell? ⟨B0,j,none⟩=c0[j]?)∧(∀j,a.cell? ⟨B1,j,none⟩=c1[j]?)∧jB W a) (o:Obj) :
 (∀j,(a.alloc o).cell? ⟨B0,j,none⟩=c0[j]?)∧(∀j,(a.alloc o).cell? ⟨B1,j,none⟩=c1[j]?)∧jB W (a.alloc o):=a1P h0 h1 h (a0C jR o) rfl
theorem f0R {u W2:World} {o:Obj} {n:Nat} (h:W2=u.alloc o) (hn:u.heap.size=n):W2.heap[n]?=some o:=by
 subst hn h;exact heap_alloc_new _ _
theorem d0Y {u W2:World} {o:Obj} {n:Nat} (h:W2=(u.alloc o).drew) (hn:u.heap.size=n):W2.heap[n]?=some o:=by
 subst hn h;exact heap_alloc_new u o
theorem drew2c {W a:World} {B0 B1:Nat} {c0 c1:Array Value} (h:(∀j,a.cell? ⟨B0,j,none⟩=c0[j]?)∧(∀j,a.cell? ⟨B1,j,none⟩=c1[j]?)∧jB W a) :
 (∀j,a.drew.cell? ⟨B0,j,none⟩=c0[j]?)∧(∀j,a.drew.cell? ⟨B1,j,none⟩=c1[j]?)∧jB W a.drew:=⟨h.1,h.2.1,h.2.2.drew⟩
theorem set2 {W a:World} {B0 B1 B i:Nat} {c0 c1:Array Value} (h0:B0<W.heap.size) (h1:B1<W.heap.size) (h:(∀j,a.cell? ⟨B0,j,none⟩=c0[j]?)∧(∀j,a.cell? ⟨B1,j,none⟩=c1[j]?)∧jB W a) (hB:W.heap.size≤B) (v:Value) (u:Unit) :
 (∀j,(a.setCell ⟨B,i,none⟩ v).cell? ⟨B0,j,none⟩=c0[j]?)∧(∀j,(a.setCell ⟨B,i,none⟩ v).cell? ⟨B1,j,none⟩=c1[j]?)∧jB W (a.setCell ⟨B,i,none⟩ v) :=
 ⟨fun j=>(World.cell?_setCell_other _ _ _ _ (fun e=>by injection e with e _ _;omega)).trans (h.1 j),fun j=>(World.cell?_setCell_other _ _ _ _ (fun e=>by injection e with e _ _;omega)).trans (h.2.1 j),h.2.2.setCell hB _⟩
theorem r1R {P Q:Nat→Prop} {w0 w:World} {B n:Nat} {u0 u1 u2 u3 u4 u5 u6 u7 u8 u9:Value} {T:TypeId} {x:It} (h:w.heap[B]?=some (.cells #[u0,u1,u2,u3,u4,u5,u6,u7,u8,u9] T (0,0))) (hl:b0K Q w x) (hQ:∀b,Q b→P b∧b≠B) (hb:Below n w0 w) (hn:n≤B) (v0 v1 v2 v3 v4 v5 v6 v7 v8 v9:Value) :
 ((((((((((w.setCell ⟨B,0,none⟩ v0).setCell ⟨B,1,none⟩ v1).setCell ⟨B,2,none⟩ v2).setCell ⟨B,3,none⟩ v3).setCell ⟨B,4,none⟩ v4).setCell ⟨B,5,none⟩ v5).setCell ⟨B,6,none⟩ v6).setCell ⟨B,7,none⟩ v7).setCell ⟨B,8,none⟩ v8).setCell ⟨B,9,none⟩ v9).heap[B]?=some (.cells #[v0,v1,v2,v3,v4,v5,v6,v7,v8,v9] T (0,0))∧b0K P ((((((((((w.setCell ⟨B,0,none⟩ v0).setCell ⟨B,1,none⟩ v1).setCell ⟨B,2,none⟩ v2).setCell ⟨B,3,none⟩ v3).setCell ⟨B,4,none⟩ v4).setCell ⟨B,5,none⟩ v5).setCell ⟨B,6,none⟩ v6).setCell ⟨B,7,none⟩ v7).setCell ⟨B,8,none⟩ v8).setCell ⟨B,9,none⟩ v9) x∧Below n w0 ((((((((((w.setCell ⟨B,0,none⟩ v0).setCell ⟨B,1,none⟩ v1).setCell ⟨B,2,none⟩ v2).setCell ⟨B,3,none⟩ v3).setCell ⟨B,4,none⟩ v4).setCell ⟨B,5,none⟩ v5).setCell ⟨B,6,none⟩ v6).setCell ⟨B,7,none⟩ v7).setCell ⟨B,8,none⟩ v8).setCell ⟨B,9,none⟩ v9):=by
 obtain ⟨V,hV⟩:∃V:World,V=((((((((((w.setCell ⟨B,0,none⟩ v0).setCell ⟨B,1,none⟩ v1).setCell ⟨B,2,none⟩ v2).setCell ⟨B,3,none⟩ v3).setCell ⟨B,4,none⟩ v4).setCell ⟨B,5,none⟩ v5).setCell ⟨B,6,none⟩ v6).setCell ⟨B,7,none⟩ v7).setCell ⟨B,8,none⟩ v8).setCell ⟨B,9,none⟩ v9):=⟨_,rfl⟩;rw [←hV];obtain ⟨h4,h5,h6,h7⟩:=t0G h v0 v1 v2 v3 v4 v5 v6 v7 v8 v9 V hV;exact ⟨h4,⟨(hl.1.keepP (Nat.le_of_eq h6.symm) (fun b hb' _=>h5 b (hQ b hb').2)).imp (fun b hb'=>(hQ b hb').1),(hl.2.keepP (Nat.le_of_eq h6.symm) (fun b hb' _=>h5 b (hQ b hb').2)).imp (fun b hb'=>(hQ b hb').1)⟩,hb.trans (h7 n hn)⟩
theorem packA {P Q:Nat→Prop} {w0 w:World} {n:Nat} {cs:Array Value} {T:TypeId} {x:It} (hl:b0K Q w x) (hQ:∀b,Q b→P b) (hb:Below n w0 w) (hn:n≤w.heap.size) :
 (w.alloc (.cells cs T)).heap[w.heap.size]?=some (.cells cs T (0,0))∧b0K P (w.alloc (.cells cs T)) x∧Below n w0 (w.alloc (.cells cs T)) :=
 ⟨heap_alloc_new _ _,(hl.imp hQ).below (a0C jR _),hb.alloc hn _⟩
theorem t1W (P:Nat→Prop) (c:Cfg) (rs rh:Nat) (v:Value) (l:List It) (k:Ky) (a:c0W) (w:World) (hP:∀b,w.heap.size≤b→P b) (hx:b0D P w v l) (hc:f0Y c rs rh) (hn:NdOk rs rh (i0Q l k).nd) (hv:(i0Q l k).nd.ver≤1000000) (hl:l.length≤1000) (hok:∀x∈l,x.key.ok) (hk:k.ok)
    (h0:¬a.kind<0) (h1:a.kind≠1) (h3:¬3<a.kind) :
    Calls Tryz.prog 113 #[j0Q c,v,.agg (j1G k a).toArray] w (n0S P w (g0Q c rs rh l k a).1 (g0Q c rs rh l k a).2.1 0 (g0Q c rs rh l k a).2.2):=by
  rw [show (j1G k a).toArray=#[.int .u64 k.1,.int .u64 k.2,.int .i64 a.kind,.int .i64 a.smp.1,.int .i64 a.smp.2,.int .i64 a.pol.mn,.int .i64 a.pol.mx,.int .i64 a.pol.tg,.int .i64 a.pol.tol,.int .i64 a.pol.win,.int .i64 a.pol.hold,.int .i64 a.adv.tick,.int .i64 a.adv.load,.int .i64 a.adv.want,.int .i64 a.adv.repl,.int .i64 a.adv.why] from rfl];obtain ⟨A,cc,rfl⟩:=hx.1.1.form;have HX:=jH hx;have HP:=jH hP
  obtain ⟨R,hR⟩:∃R,R=g0Q c rs rh l k a:=⟨_,rfl⟩;rw [←hR];unfold g0Q at hR;have HO:=jH hR;clear hR;have hgl:=i1U hx.2 k;have hfull:(((l.length:Nat):Int) ≥ c.lo)=(c.lo≤(l.length:Nat)):=rfl;have HGET:=jH (fun (W:World) (hb:jB w W)=>p1J _ l k W (hx.1.1.below hb) (by omega) hok hk);have HHAS:=jH (fun (W:World) (hb:jB w W)=>t0S _ l k W (hx.1.1.below hb) (by omega) hok hk);have HWITH:=jH (fun (W:World) (hb:jB w W) (x:It)=>j1V _ l k x W (hx.1.1.below hb) (by omega) hok hk)
  have HDO:=jH (fun (W:World) (hb:jB w W)=>i1F (fun b=>P b∧(b<w.heap.size∨W.heap.size≤b)) c rs rh (i0Q l k) a W (fun b hb'=>⟨hP b (by have:=hb.size;omega),.inr hb'⟩) ⟨(hgl.1.old.below hb).imp (fun b hb'=>⟨hb'.1,.inl hb'.2⟩),(hgl.2.old.below hb).imp (fun b hb'=>⟨hb'.1,.inl hb'.2⟩)⟩ hc hn hv);generalize hg:i0Q l k=g at *;obtain ⟨r,hr⟩:∃r,r=n0P rs rh g.nd a:=⟨_,rfl⟩;rw [←hr] at HO HDO;obtain ⟨y,e1,n1⟩:=r
  have q1:(a.kind == 1)=false:=by simpa using h1
  dsimp only at HO HDO;rw [show (d0X g).toArray=#[.slice g.sA g.nd.smp.length g.sc,.slice g.pA g.nd.past.length g.pc,.int .i64 g.nd.pol.mn,.int .i64 g.nd.pol.mx,.int .i64 g.nd.pol.tg,.int .i64 g.nd.pol.tol,.int .i64 g.nd.pol.win,.int .i64 g.nd.pol.hold,.bool g.nd.ruled,.int .i64 (g.nd.ver:Nat)] from rfl] at HGET HDO;rw [show (e0Q a).toArray=#[.int .i64 a.kind,.int .i64 a.smp.1,.int .i64 a.smp.2,.int .i64 a.pol.mn,.int .i64 a.pol.mx,.int .i64 a.pol.tg,.int .i64 a.pol.tol,.int .i64 a.pol.win,.int .i64 a.pol.hold,.int .i64 a.adv.tick,.int .i64 a.adv.load,.int .i64 a.adv.want,.int .i64 a.adv.repl,.int .i64 a.adv.why] from rfl] at HDO
  unfold j0Q;unfold j0Q at HDO;clear hx hP hc hn hv hok hgl hg hr h1
  go_enter Tryz.func113,Tryz.ntmps113
  go_upto_region 6 with fail
  refine a0I ?_;intro W hW;obtain ⟨k0,k1,hs,hb0⟩:=c0Y w _ _ W hW;clear hW;obtain ⟨a0,a0f,a0l,a0h⟩:=b0F jR k0;obtain ⟨a1,a1f,a1l,a1h⟩:=b0F jR k1;have HK0:=jH a0h;have HK1:=jH a1h;have HB0:=jH hb0;clear k0 k1 hb0 a0h a1h hs
  go_cut [13,14] (fun s13 s14 wx=>∃B5 sA sc pA pc,s13=.pointer (some ⟨B5,0,none⟩)∧s14=.int .i64 e1∧wx.heap[B5]?=some (.cells #[.slice sA y.smp.length sc,.slice pA y.past.length pc,.int .i64 y.pol.mn,.int .i64 y.pol.mx,.int .i64 y.pol.tg,.int .i64 y.pol.tol,.int .i64 y.pol.win,.int .i64 y.pol.hold,.bool y.ruled,.int .i64 (y.ver:Nat)] 128 (0,0))∧b0K P wx ⟨k,sA,sc,pA,pc,y⟩∧jB W wx)
  case first =>
   have hS00:=a1P a0l a1l ⟨a0,a1,Below.refl _ W⟩ (Below.refl _ W) rfl;have hS0:(∀j,W.drew.cell? ⟨w.heap.size,j,none⟩=(#[.int .i64 c.st,.int .i64 c.sa,.int .i64 c.lo,.int .i64 c.hi]:Array Value)[j]?)∧(∀j,W.drew.cell? ⟨w.heap.size+1,j,none⟩=(#[.int .u64 k.1,.int .u64 k.2,.int .i64 a.kind,.int .i64 a.smp.1,.int .i64 a.smp.2,.int .i64 a.pol.mn,.int .i64 a.pol.mx,.int .i64 a.pol.tg,.int .i64 a.pol.tol,.int .i64 a.pol.win,.int .i64 a.pol.hold,.int .i64 a.adv.tick,.int .i64 a.adv.load,.int .i64 a.adv.want,.int .i64 a.adv.repl,.int .i64 a.adv.why]:Array Value)[j]?)∧jB W W.drew:=⟨a0,a1,(Below.refl _ W).drew⟩
   go_region_held3 (fun U=>(∀j,U.cell? ⟨w.heap.size,j,none⟩=(#[.int .i64 c.st,.int .i64 c.sa,.int .i64 c.lo,.int .i64 c.hi]:Array Value)[j]?)∧(∀j,U.cell? ⟨w.heap.size+1,j,none⟩=(#[.int .u64 k.1,.int .u64 k.2,.int .i64 a.kind,.int .i64 a.smp.1,.int .i64 a.smp.2,.int .i64 a.pol.mn,.int .i64 a.pol.mx,.int .i64 a.pol.tg,.int .i64 a.pol.tol,.int .i64 a.pol.win,.int .i64 a.pol.hold,.int .i64 a.adv.tick,.int .i64 a.adv.load,.int .i64 a.adv.want,.int .i64 a.adv.repl,.int .i64 a.adv.why]:Array Value)[j]?)∧jB W U)
     (first
       | with_reducible exact hS0
       | with_reducible exact HS5.out
       | with_reducible exact HS3.out
       | with_reducible exact t0M a0l a1l HS5.out _
       | with_reducible exact t0M a0l a1l HS3.out _
       | with_reducible exact t0M a0l a1l hS0 _
       | with_reducible exact drew2c (t0M a0l a1l hS00 _)
       | (iterate 10 (with_reducible refine set2 a0l a1l ?_ (by omega) _ ())
          with_reducible exact HS5.out))
     (first
       | (go_at_call 185
          refine a0B ?_;intro W2 hW2;have hz:W2.heap[W.heap.size]?=some (.cells #[.slice none 0 0,.slice none 0 0,.int .i64 0,.int .i64 0,.int .i64 0,.int .i64 0,.int .i64 0,.int .i64 0,.bool false,.int .i64 0] 128 (0,0)):=by
           first
            | (with_reducible refine f0R hW2 ?_
               rfl)
            | (with_reducible refine d0Y hW2 ?_
               rfl)
          subst hW2;refine (HGET.out _ (a0D HB0.out (And.right (And.right ‹(∀j:Nat,_)∧(∀j:Nat,_)∧jB W _›)))).mono ?_;rintro e w3 ⟨rfl,hbk⟩;have HS3:=jH (a1P a0l a1l ‹(∀j:Nat,_)∧(∀j:Nat,_)∧jB W _› hbk rfl);have hsz3:W.heap.size≤w3.heap.size:=Nat.le_trans (And.right (And.right ‹(∀j:Nat,_)∧(∀j:Nat,_)∧jB W _›)).size hbk.size;obtain ⟨y1,y2,y3,y4⟩:=b0F hbk hz;have HZ:=jH y4;clear hz y4)
       | (go_at_call 185
          refine a0B ?_;intro W2 hW2;subst hW2;refine (HGET.out _ (a0D HB0.out (And.right (And.right ‹(∀j:Nat,_)∧(∀j:Nat,_)∧jB W _›)))).mono ?_;rintro e w3 ⟨rfl,hbk⟩;have HS3:=jH (a1P a0l a1l ‹(∀j:Nat,_)∧(∀j:Nat,_)∧jB W _› hbk rfl);have hsz3:W.heap.size≤w3.heap.size:=Nat.le_trans (And.right (And.right ‹(∀j:Nat,_)∧(∀j:Nat,_)∧jB W _›)).size hbk.size)
       | (have hz9:=HZ.out
          go_at_call 184
          refine a0B ?_;intro W4 hW4;have hz:W4.heap[W.heap.size]?=some (.cells #[.slice none 0 0,.slice none 0 0,.int .i64 0,.int .i64 0,.int .i64 0,.int .i64 0,.int .i64 0,.int .i64 0,.bool false,.int .i64 0] 128 (0,0)):=by rw [hW4];exact hz9
          subst hW4;refine (HDO.out _ (a0D HB0.out (And.right (And.right ‹(∀j:Nat,_)∧(∀j:Nat,_)∧jB W _›)))).mono ?_;rintro e w5 ⟨sA,sc,pA,pc,he,hy,hbk⟩;have he':e=.returned (.tuple #[.agg #[.slice sA y.smp.length sc,.slice pA y.past.length pc,.int .i64 y.pol.mn,.int .i64 y.pol.mx,.int .i64 y.pol.tg,.int .i64 y.pol.tol,.int .i64 y.pol.win,.int .i64 y.pol.hold,.bool y.ruled,.int .i64 (y.ver:Nat)],.int .i64 e1,.int .i64 n1]):=he
          clear he;subst he';have HS5:=jH (a1P a0l a1l ‹(∀j:Nat,_)∧(∀j:Nat,_)∧jB W _› hbk rfl);have hb5:=a0D (And.right (And.right ‹(∀j:Nat,_)∧(∀j:Nat,_)∧jB W _›)) hbk;have hsz5:=hb5.size;have HB5:=jH hb5;have HY:=jH hy;obtain ⟨z1,z2,z3,z4⟩:=b0F hbk hz;have HZ5:=jH (And.intro z4 (jL hz));clear hz z4;clear hb5 hy)
       | (go_at_call 184
          refine a0B ?_;intro W4 hW4;have hz:W4.heap[w3.heap.size]?=some (.cells #[.slice none 0 0,.slice none 0 0,.int .i64 0,.int .i64 0,.int .i64 0,.int .i64 0,.int .i64 0,.int .i64 0,.bool false,.int .i64 0] 128 (0,0)):=by
           with_reducible refine f0R hW4 ?_
           rfl
          subst hW4;refine (HDO.out _ (a0D HB0.out (And.right (And.right ‹(∀j:Nat,_)∧(∀j:Nat,_)∧jB W _›)))).mono ?_;rintro e w5 ⟨sA,sc,pA,pc,he,hy,hbk⟩;have he':e=.returned (.tuple #[.agg #[.slice sA y.smp.length sc,.slice pA y.past.length pc,.int .i64 y.pol.mn,.int .i64 y.pol.mx,.int .i64 y.pol.tg,.int .i64 y.pol.tol,.int .i64 y.pol.win,.int .i64 y.pol.hold,.bool y.ruled,.int .i64 (y.ver:Nat)],.int .i64 e1,.int .i64 n1]):=he
          clear he;subst he';have HS5:=jH (a1P a0l a1l ‹(∀j:Nat,_)∧(∀j:Nat,_)∧jB W _› hbk rfl);have hb5:=a0D (And.right (And.right ‹(∀j:Nat,_)∧(∀j:Nat,_)∧jB W _›)) hbk;have hsz5:=hb5.size;have HB5:=jH hb5;have HY:=jH hy;obtain ⟨z1,z2,z3,z4⟩:=b0F hbk hz;have HZ5:=jH (And.intro z4 (jL hz));clear hz z4;clear hb5 hy)
       | (go_at_call 184
          refine a0B ?_;intro W4 hW4;subst hW4;refine (HDO.out _ (a0D HB0.out (And.right (And.right ‹(∀j:Nat,_)∧(∀j:Nat,_)∧jB W _›)))).mono ?_;rintro e w5 ⟨sA,sc,pA,pc,he,hy,hbk⟩;have he':e=.returned (.tuple #[.agg #[.slice sA y.smp.length sc,.slice pA y.past.length pc,.int .i64 y.pol.mn,.int .i64 y.pol.mx,.int .i64 y.pol.tg,.int .i64 y.pol.tol,.int .i64 y.pol.win,.int .i64 y.pol.hold,.bool y.ruled,.int .i64 (y.ver:Nat)],.int .i64 e1,.int .i64 n1]):=he
          clear he;subst he';have HS5:=jH (a1P a0l a1l ‹(∀j:Nat,_)∧(∀j:Nat,_)∧jB W _› hbk rfl);have hb5:=a0D (And.right (And.right ‹(∀j:Nat,_)∧(∀j:Nat,_)∧jB W _›)) hbk;have hsz5:=hb5.size;have HB5:=jH hb5;have HY:=jH hy;clear hb5 hy))
   all_goals
     go_wp2_with fail
     go_meet
     refine ⟨_,sA,sc,pA,pc,rfl,rfl,?_⟩;have hyy:b0K _ w5 ⟨k,sA,sc,pA,pc,y⟩:=HY.out
     first
      | (have hz9:=HZ5.out
         exact r1R hz9.1 hyy (fun b hb'=>⟨hb'.1,by have:=hz9.2;omega⟩) HB5.out (by omega) _ _ _ _ _ _ _ _ _ _)
      | exact packA hyy (fun b hb'=>hb'.1) HB5.out HB5.out.size
  case rest =>
   obtain ⟨B5,sA,sc,pA,pc,rfl,rfl,h5,hl5,hb5⟩:=hcut;obtain ⟨d0,d0f,d0l⟩:=a0A hb5 HK0.out;obtain ⟨d1,d1f,d1l⟩:=a0A hb5 HK1.out;obtain ⟨d5,d5f,d5l⟩:=a0A jR h5;have HC0:=jH (jK hb5 HK0.out);have HC1:=jH (jK hb5 HK1.out);have HB:=jH (a0D HB0.out hb5);have HL5:=jH hl5;have H5:=jH h5;have hwx:=fun (U:World) (hb:jB w U)=>HWITH.out U hb ⟨k,sA,sc,pA,pc,y⟩
   rw [show (d0X ⟨k,sA,sc,pA,pc,y⟩).toArray=#[.slice sA y.smp.length sc,.slice pA y.past.length pc,.int .i64 y.pol.mn,.int .i64 y.pol.mx,.int .i64 y.pol.tg,.int .i64 y.pol.tol,.int .i64 y.pol.win,.int .i64 y.pol.hold,.bool y.ruled,.int .i64 (y.ver:Nat)] from rfl] at hwx;have HWX:=jH hwx;have HE:=jH (fun w'=>n0S.same (w':=w') HX.out);clear h5 hl5 hb5 hwx a0 a0f a0l a1 a1f a1l
   by_cases he:e1=0
   case neg =>
    have hn:(e1 != 0)=true:=by simpa using he
    rw [if_pos he] at HO;obtain rfl:=HO.out;clear he;go_wp2
    exact bodyPost_ret (v:=.tuple #[.slice A l.length cc,.int .i64 e1,.int .i64 0,.int .i64 0]) (by simp [results,Tryz.results113,go_sem]) rfl (HE.out _ HB.out e1 0 0)
   subst he;rw [if_neg (by simp)] at HO
   cases hh:h0U l k with
   | true =>
     rw [hh] at HHAS HO;rw [if_neg (by simp),if_neg (by simp)] at HO;obtain rfl:=HO.out;clear hh
     go_wp2_with (first
      | (go_at_call 186
         refine (HHAS.out wc HB.out).mono ?_;rintro e w6 ⟨rfl,hb6⟩;obtain ⟨f0,f0f,f0l⟩:=a0A hb6 HC0.out;obtain ⟨f1,f1f,f1l⟩:=a0A hb6 HC1.out;obtain ⟨f5,f5f,f5l⟩:=a0A hb6 H5.out;have HL6:=jH (HL5.out.below hb6);have HB6:=jH (a0D HB.out hb6);clear hb6)
      | (go_at_call 187
         refine (HWX.out w6 HB6.out).mono ?_;rintro e w7 ⟨A7,c7,rfl,hr7,hb7⟩;have HR7:=jH hr7;have HB7:=jH hb7;clear hr7 hb7))
     exact bodyPost_ret (v:=.tuple #[.slice A7 (q0D l k ⟨k,sA,sc,pA,pc,y⟩).length c7,.int .i64 0,.int .i64 0,.int .i64 1]) (by simp [results,Tryz.results113,go_sem]) rfl
       ⟨_,A7,c7,rfl,⟨HR7.out.imp (fun b hb=>HP.out b (Nat.le_trans HB6.out.size hb)),r0N (fun x hx=>(HX.out.2 x hx).below (a0D HB6.out HB7.out)) (HL6.out.below HB7.out)⟩,c1X l k ⟨k,sA,sc,pA,pc,y⟩,a0D HB6.out HB7.out⟩
   | false =>
     rw [hh] at HHAS HO
     by_cases hk3:a.kind=3
     · rw [if_pos ⟨rfl,hk3⟩] at HO
       obtain rfl:=HO.out;have q3:(a.kind == 3)=true:=by simpa using hk3
       clear hh hk3
       go_wp2_with (first
        | (go_at_call 186
           refine (HHAS.out wc HB.out).mono ?_;rintro e w6 ⟨rfl,hb6⟩;obtain ⟨f1,f1f,f1l⟩:=b0F hb6 HC1.out;have HB6:=jH (a0D HB.out hb6);clear hb6))
       exact bodyPost_ret (v:=.tuple #[.slice A l.length cc,.int .i64 5,.int .i64 0,.int .i64 0]) (by simp [results,Tryz.results113,go_sem]) rfl (HE.out _ HB6.out 5 0 0)
     · rw [if_neg (fun h=>hk3 h.2)] at HO
       have q3:(a.kind == 3)=false:=by simpa using hk3
       clear hh hk3
       by_cases hf:c.lo≤(l.length:Nat)
       · rw [if_pos ⟨rfl,hf⟩] at HO
         obtain rfl:=HO.out
         go_wp2_with (first
          | (go_at_call 186
             refine (HHAS.out wc HB.out).mono ?_;rintro e w6 ⟨rfl,hb6⟩;obtain ⟨f0,f0f,f0l⟩:=a0A hb6 HC0.out;obtain ⟨f1,f1f,f1l⟩:=a0A hb6 HC1.out;have HB6:=jH (a0D HB.out hb6);clear hb6))
         exact bodyPost_ret (v:=.tuple #[.slice A l.length cc,.int .i64 6,.int .i64 0,.int .i64 0]) (by simp [results,Tryz.results113,go_sem]) rfl (HE.out _ HB6.out 6 0 0)
       · rw [if_neg (fun h=>hf h.2)] at HO
         obtain rfl:=HO.out
         go_wp2_with (first
          | (go_at_call 186
             refine (HHAS.out wc HB.out).mono ?_;rintro e w6 ⟨rfl,hb6⟩;obtain ⟨f0,f0f,f0l⟩:=a0A hb6 HC0.out;obtain ⟨f1,f1f,f1l⟩:=a0A hb6 HC1.out;obtain ⟨f5,f5f,f5l⟩:=a0A hb6 H5.out;have HL6:=jH (HL5.out.below hb6);have HB6:=jH (a0D HB.out hb6);clear hb6)
          | (go_at_call 187
             refine (HWX.out w6 HB6.out).mono ?_;rintro e w7 ⟨A7,c7,rfl,hr7,hb7⟩;have HR7:=jH hr7;have HB7:=jH hb7;clear hr7 hb7))
         exact bodyPost_ret (v:=.tuple #[.slice A7 (q0D l k ⟨k,sA,sc,pA,pc,y⟩).length c7,.int .i64 0,.int .i64 0,.int .i64 1]) (by simp [results,Tryz.results113,go_sem]) rfl
           ⟨_,A7,c7,rfl,⟨HR7.out.imp (fun b hb=>HP.out b (Nat.le_trans HB6.out.size hb)),r0N (fun x hx=>(HX.out.2 x hx).below (a0D HB6.out HB7.out)) (HL6.out.below HB7.out)⟩,c1X l k ⟨k,sA,sc,pA,pc,y⟩,a0D HB6.out HB7.out⟩
def g0R (cut:Int) (x:Nd):Nd:=if a0Q x.smp cut=0 then x else { x with smp:=x.smp.drop (a0Q x.smp cut),ver:=x.ver+1 }
theorem k1V (rs rh:Nat) (x:Nd) (cut:Int):n0P rs rh x ⟨1,(cut,0),k0L,c0U⟩=(g0R cut x,0,((a0Q x.smp cut:Nat):Int)):=by
 unfold n0P g0R;simp only [show ¬(1:Int)=0 from by decide,if_false,if_true]
 split
 · rename_i h;rw [h];rfl
 · rfl
def j0A (l:List It) (cut:Int):Nat:=(l.map (fun x=>a0Q x.nd.smp cut)).sum
def k0H (l:List It) (cut:Int):Nat:=l.countP (fun x=>0<a0Q x.nd.smp cut)
def v0T (P:Nat→Prop) (w:World) (l:List It) (cut:Int) (e:Ending) (w':World):Prop :=
 ∃out A c,e=.returned (.tuple #[.slice A out.length c,.int .i64 (j0A l cut:Nat),.int .i64 (k0H l cut:Nat)])∧b0D P w' (.slice A out.length c) out∧out.map c0X=l.map (fun x=>(x.key,g0R cut x.nd))∧jB w w'
theorem g1Q {l:List It} {k:Nat} (h:k<l.length) (cut:Int):j0A (l.take (k+1)) cut=j0A (l.take k) cut+a0Q l[k].nd.smp cut:=by
 unfold j0A;rw [List.take_succ_eq_append_getElem h,List.map_append,List.sum_append];simp only [List.map_cons,List.map_nil,List.sum_cons,List.sum_nil,Nat.add_zero]
theorem f1U {l:List It} {k:Nat} (h:k<l.length) (cut:Int):k0H (l.take (k+1)) cut=k0H (l.take k) cut+if 0<a0Q l[k].nd.smp cut then 1 else 0:=by
 unfold k0H;rw [List.take_succ_eq_append_getElem h,List.countP_append];congr 1;simp [List.countP_cons]
theorem q1A {l:List It} (rs:Nat) (h:∀x∈l,x.nd.smp.length≤rs) (cut:Int):j0A l cut≤rs * l.length:=by
 induction l with
 | nil=>simp [j0A]
 | cons a l ih =>
   have:=h a (List.mem_cons_self ..);have:=e0S a.nd.smp cut;have:=ih (fun x hx=>h x (List.mem_cons_of_mem _ hx));simp only [j0A,List.map_cons,List.sum_cons,List.length_cons] at this ⊢
   rw [Nat.mul_add];omega
theorem j0J {α:Type} {P:Nat→Prop} {n:Nat} {f:α→List Value} {w u w4:World} {v v' vr:Value} {l:List α} (h:e0U (fun b=>P b∧v.ownBlock≠some b) n f w vr l) (hb:jB w u) (hg:u.grownBy w4 v.ownBlock) (hblk:v'.ownBlock=v.ownBlock∨v'.ownBlock=some u.heap.size) :
 e0U (fun b=>P b∧v'.ownBlock≠some b) n f w4 vr l:=by
 have h1:=h.old;refine (h1.keepP (Nat.le_trans hb.size hg.size) (fun b hb' hlt=>(hg.block b (Nat.lt_of_lt_of_le hlt hb.size) (Ne.symm hb'.1.2)).trans (hb.block b hlt))).imp (fun b hb'=>⟨hb'.1.1,fun e=>?_⟩)
 rcases hblk with h2|h2
 · rw [h2] at e
   exact hb'.1.2 e
 · rw [h2] at e
   injection e with e
   have:=hb.size;have:=hb'.2;omega
theorem m0L {P:Nat→Prop} {w u w4:World} {v v':Value} {x:It} (h:b0K (fun b=>P b∧v.ownBlock≠some b) w x) (hb:jB w u) (hg:u.grownBy w4 v.ownBlock) (hblk:v'.ownBlock=v.ownBlock∨v'.ownBlock=some u.heap.size):b0K (fun b=>P b∧v'.ownBlock≠some b) w4 x :=
 ⟨j0J h.1 hb hg hblk,j0J h.2 hb hg hblk⟩
theorem l1X (P:Nat→Prop) (c:Cfg) (rs rh:Nat) (v:Value) (l:List It) (cut:Int) (w:World) (hP:∀b,w.heap.size≤b→P b) (hx:b0D P w v l) (hc:f0Y c rs rh) (hn:∀x∈l,NdOk rs rh x.nd) (hv:∀x∈l,x.nd.ver≤1000000) (hl:l.length≤1000) :
 Calls Tryz.prog 115 #[j0Q c,v,.int .i64 cut] w (v0T P w l cut):=by
 obtain ⟨A,cc,rfl⟩:=hx.1.1.form;have HX:=jH hx;have HP:=jH hP;have HN:=jH hn;have HV:=jH hv;have HC:=jH hc;have HGL:=jH (fun k=>show j0A (l.take k) cut≤256 * 1000 by
  have h1:=q1A (l:=l.take k) rs (fun x hx=>(hn x (List.mem_of_mem_take hx)).len) cut;have h2:(l.take k).length≤1000:=by simp;omega
  have h3:=hc.r2;exact Nat.le_trans h1 (Nat.mul_le_mul h3 h2))
 have HML:=jH (fun k=>show k0H (l.take k) cut≤1000 by
  have h1:k0H (l.take k) cut≤(l.take k).length:=List.countP_le_length ..;have h2:(l.take k).length≤1000:=by simp;omega
  omega)
 clear hx hP hn hv hc;unfold j0Q
 go_enter Tryz.func115,Tryz.ntmps115
 go_wp2_with fail
 refine a0I ?_;intro W hW;have hb0:jB w W:=by rw [hW];exact a0C jR _
 have hx0:W.heap[w.heap.size]?=some (.cells #[.int .i64 c.st,.int .i64 c.sa,.int .i64 c.lo,.int .i64 c.hi] 23 (0,0)):=by rw [hW];exact heap_alloc_new _ _
 have HX0:=jH hx0;have HB0:=jH hb0;clear hW hx0 hb0;go_wp2
 go_loopg [9,10,11,12] l.length (fun g s9 s10 s11 s12 wr=>∃(k:Nat) (out:List It),k≤l.length∧l.length - k≤g∧s12=.int .i64 (k:Nat)∧s10=.int .i64 (j0A (l.take k) cut:Nat)∧s11=.int .i64 (k0H (l.take k) cut:Nat)∧b0Q itC 178 12 W.heap.size wr s9 out∧(∀x∈out,b0K (fun b=>P b∧s9.ownBlock≠some b) wr x)∧out.map c0X=(l.take k).map (fun x=>(x.key,g0R cut x.nd))∧jB W wr)
 case atStart=>exact ⟨0,[],Nat.zero_le _,Nat.le_refl _,rfl,by simp [j0A],by simp [k0H],b0Q.nil _ _,fun x hx=>by simp at hx,by simp,jR⟩
 case round =>
  obtain ⟨k,out,hk,hg,rfl,rfl,rfl,hown,hload,habs,hb⟩:=hrel;obtain ⟨A9,c9,rfl⟩:=hown.form;have hol:out.length=k:=by
   have:=congrArg List.length habs
   simpa [hk] using this
  have HOL:=jH hol;clear hol;have HO:=jH hown;have HLD:=jH hload;have HAB:=jH habs;have HB:=jH hb;obtain ⟨a1,a2,a3,a4⟩:=b0F hb HX0.out;have HX4:=jH a4;clear hown hload habs a4
  by_cases hlt:k<l.length
  · obtain ⟨bb,o,rfl,hbw,hc⟩:=HX.out.1.1.at_ hlt
    have hxm:=List.getElem_mem hlt;have HGS:=jH (g1Q hlt cut);have HMS:=jH (f1U hlt cut);have HTK:=jH (List.take_succ_eq_append_getElem hlt);have HXL:=jH (HX.out.2 _ hxm);have HXN:=jH (HN.out _ hxm);have hxv:=HV.out _ hxm;have hg0:=HGL.out k;have hg1:=HGL.out (k+1);have hm0:=HML.out k;rw [HGS.out] at hg1;generalize l[k]=x at hc HGS HMS HTK HXL HXN hxv hg1;have HC12:=jH (show ∀j u,(itC x)[j]?=some u→w.cell? ⟨bb,o+k * 12+j,none⟩=some u from hc)
    clear hc hxm;generalize hGG:j0A (l.take k) cut=G at *;generalize hMM:k0H (l.take k) cut=M at *;clear hGG hMM;have hbb:=a0D HB0.out hb;have q0:=(hbb.cell (p:=⟨bb,_,none⟩) hbw).trans (HC12.out 2 _ rfl);have q1:=(hbb.cell (p:=⟨bb,_,none⟩) hbw).trans (HC12.out 3 _ rfl);have q2:=(hbb.cell (p:=⟨bb,_,none⟩) hbw).trans (HC12.out 4 _ rfl);have q3:=(hbb.cell (p:=⟨bb,_,none⟩) hbw).trans (HC12.out 5 _ rfl)
    have q4:=(hbb.cell (p:=⟨bb,_,none⟩) hbw).trans (HC12.out 6 _ rfl);have q5:=(hbb.cell (p:=⟨bb,_,none⟩) hbw).trans (HC12.out 7 _ rfl);have q6:=(hbb.cell (p:=⟨bb,_,none⟩) hbw).trans (HC12.out 8 _ rfl);have q7:=(hbb.cell (p:=⟨bb,_,none⟩) hbw).trans (HC12.out 9 _ rfl);have q8:=(hbb.cell (p:=⟨bb,_,none⟩) hbw).trans (HC12.out 10 _ rfl);have q9:=(hbb.cell (p:=⟨bb,_,none⟩) hbw).trans (HC12.out 11 _ rfl)
    have hbwr:bb<wr.heap.size:=Nat.lt_of_lt_of_le hbw hbb.size;have HBB:=jH hbb;have HR:Hid (∀W2,jB wr W2→Calls Tryz.prog 184 #[.agg #[.int .i64 c.st,.int .i64 c.sa,.int .i64 c.lo,.int .i64 c.hi],.agg #[.slice x.sA x.nd.smp.length x.sc,.slice x.pA x.nd.past.length x.pc,.int .i64 x.nd.pol.mn,.int .i64 x.nd.pol.mx,.int .i64 x.nd.pol.tg,.int .i64 x.nd.pol.tol,.int .i64 x.nd.pol.win,.int .i64 x.nd.pol.hold,.bool x.nd.ruled,.int .i64 (x.nd.ver:Nat)],.agg #[.int .i64 1,.int .i64 cut,.int .i64 0,.int .i64 0,.int .i64 0,.int .i64 0,.int .i64 0,.int .i64 0,.int .i64 0,.int .i64 0,.int .i64 0,.int .i64 0,.int .i64 0,.int .i64 0]] W2 (e0R (fun b=>P b∧(b<w.heap.size∨W2.heap.size≤b)) W2 x.key (g0R cut x.nd) 0 (a0Q x.nd.smp cut:Nat))):=jH (fun W2 h2=>by
     have hb2:=a0D hbb h2;have:=i1F (fun b=>P b∧(b<w.heap.size∨W2.heap.size≤b)) c rs rh x ⟨1,(cut,0),k0L,c0U⟩ W2 (fun b hb'=>⟨HP.out b (by have:=hb2.size;omega),.inr hb'⟩) ⟨(HXL.out.1.old.below hb2).imp (fun b hb'=>⟨hb'.1,.inl hb'.2⟩),(HXL.out.2.old.below hb2).imp (fun b hb'=>⟨hb'.1,.inl hb'.2⟩)⟩ HC.out HXN.out hxv;rw [k1V] at this;exact this)
    obtain ⟨y,hy0⟩:∃y,y=g0R cut x.nd:=⟨_,rfl⟩;rw [←hy0] at HR;have HYE:=jH hy0;clear hbb hy0;generalize hpp:a0Q x.nd.smp cut=p at *;clear hpp;have rq0:∀U,jB wr U→U.cell? ⟨bb,o+k * 12+2,none⟩=some (.slice x.sA x.nd.smp.length x.sc):=fun U hU=>(hU.cell (p:=⟨bb,_,none⟩) hbwr).trans q0
    have rq1:∀U,jB wr U→U.cell? ⟨bb,o+k * 12+3,none⟩=some (.slice x.pA x.nd.past.length x.pc):=fun U hU=>(hU.cell (p:=⟨bb,_,none⟩) hbwr).trans q1
    have rq2:∀U,jB wr U→U.cell? ⟨bb,o+k * 12+4,none⟩=some (.int .i64 x.nd.pol.mn):=fun U hU=>(hU.cell (p:=⟨bb,_,none⟩) hbwr).trans q2
    have rq3:∀U,jB wr U→U.cell? ⟨bb,o+k * 12+5,none⟩=some (.int .i64 x.nd.pol.mx):=fun U hU=>(hU.cell (p:=⟨bb,_,none⟩) hbwr).trans q3
    have rq4:∀U,jB wr U→U.cell? ⟨bb,o+k * 12+6,none⟩=some (.int .i64 x.nd.pol.tg):=fun U hU=>(hU.cell (p:=⟨bb,_,none⟩) hbwr).trans q4
    have rq5:∀U,jB wr U→U.cell? ⟨bb,o+k * 12+7,none⟩=some (.int .i64 x.nd.pol.tol):=fun U hU=>(hU.cell (p:=⟨bb,_,none⟩) hbwr).trans q5
    have rq6:∀U,jB wr U→U.cell? ⟨bb,o+k * 12+8,none⟩=some (.int .i64 x.nd.pol.win):=fun U hU=>(hU.cell (p:=⟨bb,_,none⟩) hbwr).trans q6
    have rq7:∀U,jB wr U→U.cell? ⟨bb,o+k * 12+9,none⟩=some (.int .i64 x.nd.pol.hold):=fun U hU=>(hU.cell (p:=⟨bb,_,none⟩) hbwr).trans q7
    have rq8:∀U,jB wr U→U.cell? ⟨bb,o+k * 12+10,none⟩=some (.bool x.nd.ruled):=fun U hU=>(hU.cell (p:=⟨bb,_,none⟩) hbwr).trans q8
    have rq9:∀U,jB wr U→U.cell? ⟨bb,o+k * 12+11,none⟩=some (.int .i64 (x.nd.ver:Nat)):=fun U hU=>(hU.cell (p:=⟨bb,_,none⟩) hbwr).trans q9
    have rc0:∀U,jB wr U→U.cell? ⟨w.heap.size,0,none⟩=some (.int .i64 c.st):=fun U hU=>(hU.cell (p:=⟨w.heap.size,_,none⟩) a3).trans (a1 0)
    have rc1:∀U,jB wr U→U.cell? ⟨w.heap.size,1,none⟩=some (.int .i64 c.sa):=fun U hU=>(hU.cell (p:=⟨w.heap.size,_,none⟩) a3).trans (a1 1)
    have rc2:∀U,jB wr U→U.cell? ⟨w.heap.size,2,none⟩=some (.int .i64 c.lo):=fun U hU=>(hU.cell (p:=⟨w.heap.size,_,none⟩) a3).trans (a1 2)
    have rc3:∀U,jB wr U→U.cell? ⟨w.heap.size,3,none⟩=some (.int .i64 c.hi):=fun U hU=>(hU.cell (p:=⟨w.heap.size,_,none⟩) a3).trans (a1 3)
    clear q0 q1 q2 q3 q4 q5 q6 q7 q8 q9 a1 a2
    go_upto_region 7 with fail
    go_cut [13,14,15] (fun s13 s14 s15 wx=>∃B5 sA sc pA pc,s13=.pointer (some ⟨B5,0,none⟩)∧s14=.int .i64 0∧s15=.int .i64 (p:Nat)∧wx.heap[B5]?=some (.cells #[.slice sA y.smp.length sc,.slice pA y.past.length pc,.int .i64 y.pol.mn,.int .i64 y.pol.mx,.int .i64 y.pol.tg,.int .i64 y.pol.tol,.int .i64 y.pol.win,.int .i64 y.pol.hold,.bool y.ruled,.int .i64 (y.ver:Nat)] 128 (0,0))∧b0K (fun b=>P b∧(b<w.heap.size∨wr.heap.size≤b)) wx ⟨x.key,sA,sc,pA,pc,y⟩∧jB wr wx)
    case first =>
     have hS00:jB wr wr:=jR;have hS0:jB wr wr.drew:=hS00.drew
     go_region_held3 (fun U=>jB wr U)
       (first
         | with_reducible exact hS0
         | with_reducible exact HB5.out
         | with_reducible exact a0C HB5.out _
         | with_reducible exact Below.drew (a0C hS00 _)
         | with_reducible exact a0C hS0 _
         | (iterate 10 (with_reducible refine Below.setCell ?_ (by exact Nat.le_refl _) _)
            with_reducible exact HB5.out))
       (first
       | (go_at_call 184
          refine a0B ?_;intro W2 hW2;have hz:W2.heap[wr.heap.size]?=some (.cells #[.slice none 0 0,.slice none 0 0,.int .i64 0,.int .i64 0,.int .i64 0,.int .i64 0,.int .i64 0,.int .i64 0,.bool false,.int .i64 0] 128 (0,0)):=by
           first
            | (with_reducible refine f0R hW2 ?_
               rfl)
            | (with_reducible refine d0Y hW2 ?_
               rfl)
          subst hW2;refine (HR.out _ ‹jB wr _›).mono ?_;rintro e w5 ⟨sA,sc,pA,pc,he,hy,hbk⟩;have he':e=.returned (.tuple #[.agg #[.slice sA y.smp.length sc,.slice pA y.past.length pc,.int .i64 y.pol.mn,.int .i64 y.pol.mx,.int .i64 y.pol.tg,.int .i64 y.pol.tol,.int .i64 y.pol.win,.int .i64 y.pol.hold,.bool y.ruled,.int .i64 (y.ver:Nat)],.int .i64 0,.int .i64 (p:Nat)]):=he;clear he;subst he';have hb5:jB wr w5:=a0D ‹jB wr _› hbk
          have HB5:=jH hb5;have HY:=jH hy;obtain ⟨z1,z2,z3,z4⟩:=b0F hbk hz;have HZ5:=jH (And.intro z4 (jL hz));clear hz z4;clear hb5 hy)
       | (go_at_call 184
          refine a0B ?_;intro W2 hW2;subst hW2;refine (HR.out _ ‹jB wr _›).mono ?_;rintro e w5 ⟨sA,sc,pA,pc,he,hy,hbk⟩;have he':e=.returned (.tuple #[.agg #[.slice sA y.smp.length sc,.slice pA y.past.length pc,.int .i64 y.pol.mn,.int .i64 y.pol.mx,.int .i64 y.pol.tg,.int .i64 y.pol.tol,.int .i64 y.pol.win,.int .i64 y.pol.hold,.bool y.ruled,.int .i64 (y.ver:Nat)],.int .i64 0,.int .i64 (p:Nat)]):=he
          clear he;subst he';have hb5:jB wr w5:=a0D ‹jB wr _› hbk;have HB5:=jH hb5;have HY:=jH hy;clear hb5 hy))
     all_goals
       go_wp2_with fail
       go_meet
       refine ⟨_,sA,sc,pA,pc,rfl,rfl,rfl,?_⟩;have hyy:b0K _ w5 ⟨x.key,sA,sc,pA,pc,y⟩:=HY.out
       first
        | (have hz9:=HZ5.out
           exact r1R hz9.1 hyy (fun b hb'=>⟨⟨hb'.1,hb'.2.imp id (fun h=>by have:=hz9.2;simp at h;omega)⟩,by have:=hz9.2;have:=hb'.2;omega⟩) HB5.out (Nat.le_refl _) _ _ _ _ _ _ _ _ _ _)
        | exact packA hyy (fun b hb'=>⟨hb'.1,hb'.2.imp id (fun h=>h)⟩) HB5.out HB5.out.size
    case rest =>
     obtain ⟨B5,sA,sc,pA,pc,rfl,rfl,rfl,h5,hl5,hb5⟩:=hcut;obtain ⟨d1,d2,d3⟩:=a0A jR h5;have hwG:IntKind.i64.wrap ((G:Int)+(p:Nat))=((G+p:Nat):Int):=by rw [IntKind.wrap_i64];omega
     have hwM:IntKind.i64.wrap ((M:Int)+1)=((M+1:Nat):Int):=by rw [IntKind.wrap_i64];omega
     have HB5:=jH hb5;have hl6:b0K (fun b=>P b∧(Value.slice A9 out.length c9).ownBlock≠some b) wc ⟨x.key,sA,sc,pA,pc,y⟩:=hl5.imp (fun b hb'=>⟨hb'.1,fun e=>by
      have h1:=HO.out.lt e;have h2:=HB0.out.size
      rcases hb'.2 with h|h <;> omega⟩)
     have hbb5:=a0D HBB.out hb5;have c0:wc.cell? ⟨bb,o+k * 12,none⟩=some (.int .u64 x.key.1):=(hbb5.cell (p:=⟨bb,_,none⟩) hbw).trans (HC12.out 0 _ rfl);have c1:wc.cell? ⟨bb,o+k * 12+1,none⟩=some (.int .u64 x.key.2):=(hbb5.cell (p:=⟨bb,_,none⟩) hbw).trans (HC12.out 1 _ rfl);have hbw5:bb<wc.heap.size:=Nat.lt_of_lt_of_le hbw hbb5.size;clear hbb5 h5 hl5 hb5 rq0 rq1 rq2 rq3 rq4 rq5 rq6 rq7 rq8 rq9 rc0 rc1 rc2 rc3
     go_wp2_with fail
     go_region_law ((
       refine d0B eIt (by rfl) (.tmp 36) (.tmp 44) (by rfl) W.heap.size out [⟨x.key,sA,sc,pA,pc,y⟩] (.slice A9 out.length c9) _ (by rfl) (by rfl) (HO.out.below (a0D HB5.out (by repeat (first|exact jR|refine a0C ?_ _|refine Below.drew ?_|refine a0F ?_ _)))) (a0O.lit (n:=12) (f:=itC) _ ⟨x.key,sA,sc,pA,pc,y⟩ _ _ _ (by first|rfl|simp) rfl) (by have:=HOL.out;simp;omega) (by have:=HB.out.size;have:=HB5.out.size;simp;omega) ?_
       intro out4 A4 c4 w4 hout hown4 hg4 hblk4;have hb4:jB W w4:=(a0D HB.out (a0D HB5.out (by repeat (first|exact jR|refine a0C ?_ _|refine Below.drew ?_|refine a0F ?_ _)))).trans (a0Z hg4 HO.out (by have:=HB.out.size;have:=HB5.out.size;simp;omega));have hL4:=m0L (v:=.slice A9 out.length c9) (v':=.slice A4 out4.length c4) hl6 (by repeat (first|exact jR|refine a0C ?_ _|refine Below.drew ?_|refine a0F ?_ _)) hg4 hblk4
       have hLO:=fun (z:It) (hz:z∈out)=>m0L (v:=.slice A9 out.length c9) (v':=.slice A4 out4.length c4) ((HLD.out z hz).below HB5.out) (by repeat (first|exact jR|refine a0C ?_ _|refine Below.drew ?_|refine a0F ?_ _)) hg4 hblk4
       have HL4:=jH hL4;have HLO:=jH hLO;have HOUT:=jH hout;have HOWN:=jH hown4;have HB4:=jH hb4;clear hout hown4 hg4 hblk4 hb4 hL4 hLO))
     all_goals
       rcases Nat.eq_zero_or_pos p with hp0|hp0
       · have hz:¬(0:Int)<(p:Nat):=by omega
         go_wp2
         go_roundg (l.length - (k+1))
         case measure=>omega
         case rel =>
          refine ⟨k+1,out4,hlt,Nat.le_refl _,by go_num,by rw [HGS.out,hp0];rfl,by rw [HMS.out,if_neg (by omega),Nat.add_zero],HOWN.out,fun z hz=>?_,?_,HB4.out⟩
          · rw [HOUT.out] at hz
            rcases List.mem_append.1 hz with hz|hz
            · exact HLO.out z hz
            · rw [List.mem_singleton.1 hz]
              exact HL4.out
          · rw [HOUT.out,List.map_append,HAB.out,HTK.out,List.map_append]
            simp only [List.map_cons,List.map_nil,c0X,HYE.out]
       · have hz:(0:Int)<(p:Nat):=by omega
         go_wp2
         go_roundg (l.length - (k+1))
         case measure=>omega
         case rel =>
          refine ⟨k+1,out4,hlt,Nat.le_refl _,by go_num,by rw [HGS.out,Int.natCast_add],by rw [HMS.out,if_pos hp0,Int.natCast_add];rfl,HOWN.out,fun z hz=>?_,?_,HB4.out⟩
          · rw [HOUT.out] at hz
            rcases List.mem_append.1 hz with hz|hz
            · exact HLO.out z hz
            · rw [List.mem_singleton.1 hz]
              exact HL4.out
          · rw [HOUT.out,List.map_append,HAB.out,HTK.out,List.map_append]
            simp only [List.map_cons,List.map_nil,c0X,HYE.out]
  · obtain rfl:k=l.length:=by omega
    rw [List.take_length] at HAB ⊢;have HF:=jH (show v0T P w l cut (.returned (.tuple #[.slice A9 out.length c9,.int .i64 (j0A l cut:Nat),.int .i64 (k0H l cut:Nat)])) wr from ⟨out,A9,c9,rfl,⟨(e0U.own eIt HO.out).imp (fun b hb'=>HP.out b (Nat.le_trans HB0.out.size hb')),fun z hz=>(HLD.out z hz).imp (fun b hb'=>hb'.1)⟩,HAB.out,a0D HB0.out HB.out⟩);go_wp2
    exact bodyPost_ret (v:=.tuple #[.slice A9 out.length c9,.int .i64 (j0A l cut:Nat),.int .i64 (k0H l cut:Nat)]) (by simp [results,Tryz.results115,go_sem]) rfl HF.out
end
section
open Go.RowKit Go.Lib
def a0X (x k:Nat):Int:=((x / k % 256:Nat):Int)
def c1D (hi lo:Nat):Array Value:=#[
  .int .u8 (a0X hi 72057594037927936),
  .int .u8 (a0X hi 281474976710656),
  .int .u8 (a0X hi 1099511627776),
  .int .u8 (a0X hi 4294967296),
  .int .u8 (a0X hi 16777216),
  .int .u8 (a0X hi 65536),
  .int .u8 (a0X hi 256),
  .int .u8 (a0X hi 1),
  .int .u8 (a0X lo 72057594037927936),
  .int .u8 (a0X lo 281474976710656),
  .int .u8 (a0X lo 1099511627776),
  .int .u8 (a0X lo 4294967296),
  .int .u8 (a0X lo 16777216),
  .int .u8 (a0X lo 65536),
  .int .u8 (a0X lo 256),
  .int .u8 (a0X lo 1)]
theorem k1Y (x k:Nat):a0X x k=(x:Int) / (k:Int) % 256:=by unfold a0X;simp
theorem k1M (x:Nat):a0X x 1=(x:Int) % 256:=by unfold a0X;simp
theorem u0Q (x:Nat) (h:x<18446744073709551616):a0X x 72057594037927936=(x:Int) / 72057594037927936:=by unfold a0X;omega
theorem a1C (hi lo:Nat) (h1:hi<18446744073709551616) (h2:lo<18446744073709551616):c1D hi lo=#[.int .u8 ((hi:Int) / 72057594037927936),.int .u8 ((hi:Int) / 281474976710656 % 256),.int .u8 ((hi:Int) / 1099511627776 % 256),.int .u8 ((hi:Int) / 4294967296 % 256),.int .u8 ((hi:Int) / 16777216 % 256),.int .u8 ((hi:Int) / 65536 % 256),.int .u8 ((hi:Int) / 256 % 256),.int .u8 ((hi:Int) % 256),.int .u8 ((lo:Int) / 72057594037927936),.int .u8 ((lo:Int) / 281474976710656 % 256),.int .u8 ((lo:Int) / 1099511627776 % 256),.int .u8 ((lo:Int) / 4294967296 % 256),.int .u8 ((lo:Int) / 16777216 % 256),.int .u8 ((lo:Int) / 65536 % 256),.int .u8 ((lo:Int) / 256 % 256),.int .u8 ((lo:Int) % 256)]:=by
 unfold c1D;rw [u0Q hi h1,u0Q lo h2];simp only [k1M]
 simp only [k1Y]
 simp
theorem w0X (hi lo:Nat) (w:World) (h1:hi<18446744073709551616) (h2:lo<18446744073709551616) :
 Calls Tryz.prog 212 #[x0D hi lo] w (jP w (.agg (c1D hi lo))):=by
 unfold x0D
 go_enter Tryz.func212,Tryz.ntmps212
 go_wp2
 refine wp_loop_rounds 9 ?_;rw [rounds_succ];go_wp2
 rw [rounds_succ];go_wp2
 rw [rounds_succ];go_wp2
 rw [rounds_succ];go_wp2
 rw [rounds_succ];go_wp2
 rw [rounds_succ];go_wp2
 rw [rounds_succ];go_wp2
 rw [rounds_succ];go_wp2
 rw [rounds_succ];go_wp2
 rw [a1C hi lo h1 h2];exact bodyPost_ret (v:=.agg #[.int .u8 ((hi:Int) / 72057594037927936),.int .u8 ((hi:Int) / 281474976710656 % 256),.int .u8 ((hi:Int) / 1099511627776 % 256),.int .u8 ((hi:Int) / 4294967296 % 256),.int .u8 ((hi:Int) / 16777216 % 256),.int .u8 ((hi:Int) / 65536 % 256),.int .u8 ((hi:Int) / 256 % 256),.int .u8 ((hi:Int) % 256),.int .u8 ((lo:Int) / 72057594037927936),.int .u8 ((lo:Int) / 281474976710656 % 256),.int .u8 ((lo:Int) / 1099511627776 % 256),.int .u8 ((lo:Int) / 4294967296 % 256),.int .u8 ((lo:Int) / 16777216 % 256),.int .u8 ((lo:Int) / 65536 % 256),.int .u8 ((lo:Int) / 256 % 256),.int .u8 ((lo:Int) % 256)]) (by simp [results,Tryz.results212,go_sem]) rfl ⟨rfl,a0C (a0C (a0C jR _) _) _⟩
end
end Go.Proofs.YtmniiodpbebnmaaGreat
