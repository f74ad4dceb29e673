/- Part 20 of the proof: R17C, R18B. -/
import Derived.Test.YtkcdhaallnhhmaaGreatQ18
import Derived.Test.YtkcdhaallnhhmaaGreatQ19
namespace Go.Proofs.YtkcdhaallnhhmaaGreat
set_option linter.unusedSimpArgs false
set_option linter.unusedVariables false
set_option linter.unusedSectionVars false
set_option maxRecDepth 100000
set_option maxHeartbeats 16000000
section
open Go.RowKit Go.Lib Go.Sort
structure NdOk (rs rh:Nat) (x:Nd):Prop where
 ris:risingS x.smp
 len:x.smp.length≤rs
 past:x.past.length≤rh
structure RoomOk (c:Cfg) (rs rh:Nat):Prop where
 sa:c.sa=(rs:Nat)
 hi:c.hi=(rh:Nat)
 r1:1≤rs
 r2:rs≤256
 h1:1≤rh
 h2:rh≤64
theorem r17_any (P:Nat→Prop) (c:Cfg) (rs rh:Nat) (x:It) (a:Act17) (w:World) (hP:∀b,w.heap.size≤b→P b) (hx:LoadIn P w x) (hc:RoomOk c rs rh) (hn:NdOk rs rh x.nd) (hv:x.nd.ver≤1000000) :
 Calls Tryz.prog 181 #[cfgV c,.agg (loadC x).toArray,.agg (act17C a).toArray] w (Do17Says P w x.key (do17 rs rh x.nd a).1 (do17 rs rh x.nd a).2.1 (do17 rs rh x.nd a).2.2):=by
 unfold do17 cfgV
 by_cases h0:a.kind=0
 · rw [if_pos h0]
   by_cases h1:serE a.smp.1 a.smp.2=0
   · rw [if_pos h1]
     exact r17_good0 P c rs rh x a w hP hx hc.sa hc.hi hn.ris hn.len hn.past hc.r1 hc.r2 hc.h1 hc.h2 hv h0 h1
   · rw [if_neg h1]
     exact r17_bad0 P c rs rh x a w hP hx hc.sa hc.hi hn.ris hn.len hn.past hc.r1 hc.r2 hc.h1 hc.h2 hv h0 h1
 rw [if_neg h0]
 by_cases h1:a.kind=1
 · rw [if_pos h1]
   by_cases h2:placeS x.nd.smp a.smp.1=0
   · rw [if_pos h2]
     exact r17_none1 P c rs rh x a w hP hx hc.sa hc.hi hn.ris hn.len hn.past hc.r1 hc.r2 hc.h1 hc.h2 hv h1 h2
   · rw [if_neg h2]
     exact r17_some1 P c rs rh x a w hP hx hc.sa hc.hi hn.ris hn.len hn.past hc.r1 hc.r2 hc.h1 hc.h2 hv h1 (by omega)
 rw [if_neg h1]
 by_cases h2:a.kind=2
 · rw [if_pos h2]
   cases h3:polB a.pol with
   | true =>
     rw [if_pos rfl];exact r17_good2 P c rs rh x a w hP hx hc.sa hc.hi hn.ris hn.len hn.past hc.r1 hc.r2 hc.h1 hc.h2 hv h2 h3
   | false =>
     rw [if_neg (by simp)];exact r17_bad2 P c rs rh x a w hP hx hc.sa hc.hi hn.ris hn.len hn.past hc.r1 hc.r2 hc.h1 hc.h2 hv h2 h3
 rw [if_neg h2]
 by_cases h3:a.kind=3
 · rw [if_pos h3]
   exact r17_good3 P c rs rh x a w hP hx hc.sa hc.hi hn.ris hn.len hn.past hc.r1 hc.r2 hc.h1 hc.h2 hv h3
 · rw [if_neg h3]
   exact r17_other P c rs rh x a w hP hx hc.sa hc.hi hn.ris hn.len hn.past hc.r1 hc.r2 hc.h1 hc.h2 hv h0 h1 h2 h3
end
section
open Go.RowKit Go.Lib Go.Sort
def outI (l:List It) (k:Ky) (y:Nd):List (Ky × Nd):=(l.map absI).take (atI l k)++[(k,y)]++(l.map absI).drop (if hasI l k=true then atI l k+1 else atI l k)
def one18 (c:Cfg) (rs rh:Nat) (l:List It) (k:Ky) (a:Act17):List (Ky × Nd) × Int × Int :=
 let r:=do17 rs rh (getL l k).nd a
 if r.2.1≠0 then (l.map absI,r.2.1,0)
 else if hasI l k=false∧a.kind=3 then (l.map absI,5,0)
 else if hasI l k=false∧c.lo≤(l.length:Nat) then (l.map absI,6,0)
 else (outI l k r.1,0,1)
theorem with_abs (l:List It) (k:Ky) (x:It):(withI l k x).map absI=outI l k x.nd:=by
 simp [withI,outI,absI,List.map_take,List.map_drop]
theorem with_loads {P:Nat→Prop} {w:World} {l:List It} {k:Ky} {x:It} (hl:∀x∈l,LoadIn P w x) (hx:LoadIn P w x):∀z∈withI l k x,LoadIn P w z:=by
 intro z hz;unfold withI at hz
 rcases List.mem_append.1 hz with hz|hz
 · rcases List.mem_append.1 hz with hz|hz
   · exact hl z (List.mem_of_mem_take hz)
   · rw [List.mem_singleton.1 hz]
     exact hx
 · exact hl z (List.mem_of_mem_drop hz)
theorem getL_load {P:Nat→Prop} {w:World} {l:List It} (hl:∀x∈l,LoadIn P w x) (k:Ky):LoadIn P w (getL l k):=by
 unfold getL
 split
 · rename_i h
   split
   · exact hl _ (List.getElem_mem h)
   · exact ⟨RowG.nil,RowG.nil⟩
 · exact ⟨RowG.nil,RowG.nil⟩
theorem keep2 {W a b:World} {n B0 B1:Nat} {c0 c1:Array Value} (h0:B0<W.heap.size) (h1:B1<W.heap.size) (h:(∀j,a.cell? ⟨B0,j,none⟩=c0[j]?)∧(∀j,a.cell? ⟨B1,j,none⟩=c1[j]?)∧jB W a) (k:Below n a b) (e:n=a.heap.size) :
 (∀j,b.cell? ⟨B0,j,none⟩=c0[j]?)∧(∀j,b.cell? ⟨B1,j,none⟩=c1[j]?)∧jB W b:=by
 subst e;have hs:=h.2.2.size;exact ⟨fun j=>(k.cell (p:=⟨B0,j,none⟩) (Nat.lt_of_lt_of_le h0 hs)).trans (h.1 j),fun j=>(k.cell (p:=⟨B1,j,none⟩) (Nat.lt_of_lt_of_le h1 hs)).trans (h.2.1 j),bthen h.2.2 k⟩
theorem alloc2c {W a:World} {B0 B1:Nat} {c0 c1:Array Value} (h0:B0<W.heap.size) (h1:B1<W.heap.size) (h:(∀j,a.cell? ⟨B0,j,none⟩=c0[j]?)∧(∀j,a.cell? ⟨B1,j,none⟩=c1[j]?)∧jB W a) (o:Obj) :
 (∀j,(a.alloc o).cell? ⟨B0,j,none⟩=c0[j]?)∧(∀j,(a.alloc o).cell? ⟨B1,j,none⟩=c1[j]?)∧jB W (a.alloc o):=keep2 h0 h1 h (balloc jR o) rfl
theorem new_at {u W2:World} {o:Obj} {n:Nat} (h:W2=u.alloc o) (hn:u.heap.size=n):W2.heap[n]?=some o:=by
 subst hn h;exact heap_alloc_new _ _
theorem new_atd {u W2:World} {o:Obj} {n:Nat} (h:W2=(u.alloc o).drew) (hn:u.heap.size=n):W2.heap[n]?=some o:=by
 subst hn h;exact heap_alloc_new u o
theorem drew2c {W a:World} {B0 B1:Nat} {c0 c1:Array Value} (h:(∀j,a.cell? ⟨B0,j,none⟩=c0[j]?)∧(∀j,a.cell? ⟨B1,j,none⟩=c1[j]?)∧jB W a) :
 (∀j,a.drew.cell? ⟨B0,j,none⟩=c0[j]?)∧(∀j,a.drew.cell? ⟨B1,j,none⟩=c1[j]?)∧jB W a.drew:=⟨h.1,h.2.1,h.2.2.drew⟩
theorem set2 {W a:World} {B0 B1 B i:Nat} {c0 c1:Array Value} (h0:B0<W.heap.size) (h1:B1<W.heap.size) (h:(∀j,a.cell? ⟨B0,j,none⟩=c0[j]?)∧(∀j,a.cell? ⟨B1,j,none⟩=c1[j]?)∧jB W a) (hB:W.heap.size≤B) (v:Value) (u:Unit) :
 (∀j,(a.setCell ⟨B,i,none⟩ v).cell? ⟨B0,j,none⟩=c0[j]?)∧(∀j,(a.setCell ⟨B,i,none⟩ v).cell? ⟨B1,j,none⟩=c1[j]?)∧jB W (a.setCell ⟨B,i,none⟩ v) :=
 ⟨fun j=>(World.cell?_setCell_other _ _ _ _ (fun e=>by injection e with e _ _;omega)).trans (h.1 j),fun j=>(World.cell?_setCell_other _ _ _ _ (fun e=>by injection e with e _ _;omega)).trans (h.2.1 j),h.2.2.setCell hB _⟩
theorem pack10 {P Q:Nat→Prop} {w0 w:World} {B n:Nat} {u0 u1 u2 u3 u4 u5 u6 u7 u8 u9:Value} {T:TypeId} {x:It} (h:w.heap[B]?=some (.cells #[u0,u1,u2,u3,u4,u5,u6,u7,u8,u9] T (0,0))) (hl:LoadIn Q w x) (hQ:∀b,Q b→P b∧b≠B) (hb:Below n w0 w) (hn:n≤B) (v0 v1 v2 v3 v4 v5 v6 v7 v8 v9:Value) :
 ((((((((((w.setCell ⟨B,0,none⟩ v0).setCell ⟨B,1,none⟩ v1).setCell ⟨B,2,none⟩ v2).setCell ⟨B,3,none⟩ v3).setCell ⟨B,4,none⟩ v4).setCell ⟨B,5,none⟩ v5).setCell ⟨B,6,none⟩ v6).setCell ⟨B,7,none⟩ v7).setCell ⟨B,8,none⟩ v8).setCell ⟨B,9,none⟩ v9).heap[B]?=some (.cells #[v0,v1,v2,v3,v4,v5,v6,v7,v8,v9] T (0,0))∧LoadIn P ((((((((((w.setCell ⟨B,0,none⟩ v0).setCell ⟨B,1,none⟩ v1).setCell ⟨B,2,none⟩ v2).setCell ⟨B,3,none⟩ v3).setCell ⟨B,4,none⟩ v4).setCell ⟨B,5,none⟩ v5).setCell ⟨B,6,none⟩ v6).setCell ⟨B,7,none⟩ v7).setCell ⟨B,8,none⟩ v8).setCell ⟨B,9,none⟩ v9) x∧Below n w0 ((((((((((w.setCell ⟨B,0,none⟩ v0).setCell ⟨B,1,none⟩ v1).setCell ⟨B,2,none⟩ v2).setCell ⟨B,3,none⟩ v3).setCell ⟨B,4,none⟩ v4).setCell ⟨B,5,none⟩ v5).setCell ⟨B,6,none⟩ v6).setCell ⟨B,7,none⟩ v7).setCell ⟨B,8,none⟩ v8).setCell ⟨B,9,none⟩ v9):=by
 obtain ⟨V,hV⟩:∃V:World,V=((((((((((w.setCell ⟨B,0,none⟩ v0).setCell ⟨B,1,none⟩ v1).setCell ⟨B,2,none⟩ v2).setCell ⟨B,3,none⟩ v3).setCell ⟨B,4,none⟩ v4).setCell ⟨B,5,none⟩ v5).setCell ⟨B,6,none⟩ v6).setCell ⟨B,7,none⟩ v7).setCell ⟨B,8,none⟩ v8).setCell ⟨B,9,none⟩ v9):=⟨_,rfl⟩;rw [←hV];obtain ⟨h4,h5,h6,h7⟩:=set10 h v0 v1 v2 v3 v4 v5 v6 v7 v8 v9 V hV;exact ⟨h4,⟨(hl.1.keepP (Nat.le_of_eq h6.symm) (fun b hb' _=>h5 b (hQ b hb').2)).imp (fun b hb'=>(hQ b hb').1),(hl.2.keepP (Nat.le_of_eq h6.symm) (fun b hb' _=>h5 b (hQ b hb').2)).imp (fun b hb'=>(hQ b hb').1)⟩,hb.trans (h7 n hn)⟩
theorem packA {P Q:Nat→Prop} {w0 w:World} {n:Nat} {cs:Array Value} {T:TypeId} {x:It} (hl:LoadIn Q w x) (hQ:∀b,Q b→P b) (hb:Below n w0 w) (hn:n≤w.heap.size) :
 (w.alloc (.cells cs T)).heap[w.heap.size]?=some (.cells cs T (0,0))∧LoadIn P (w.alloc (.cells cs T)) x∧Below n w0 (w.alloc (.cells cs T)) :=
 ⟨heap_alloc_new _ _,(hl.imp hQ).below (balloc jR _),hb.alloc hn _⟩
theorem r18_one (P:Nat→Prop) (c:Cfg) (rs rh:Nat) (v:Value) (l:List It) (k:Ky) (a:Act17) (w:World) (hP:∀b,w.heap.size≤b→P b) (hx:ItemsIn P w v l) (hc:RoomOk c rs rh) (hn:NdOk rs rh (getL l k).nd) (hv:(getL l k).nd.ver≤1000000) (hl:l.length≤1000) (hok:∀x∈l,x.key.ok) (hk:k.ok)
    (h0:¬a.kind<0) (h1:a.kind≠1) (h3:¬3<a.kind) :
    Calls Tryz.prog 137 #[cfgV c,v,.agg (act18C k a).toArray] w (Do18Says P w (one18 c rs rh l k a).1 (one18 c rs rh l k a).2.1 0 (one18 c rs rh l k a).2.2):=by
  rw [show (act18C k a).toArray=#[.int .u64 k.1,.int .u64 k.2,.int .i64 a.kind,.int .i64 a.smp.1,.int .i64 a.smp.2,.int .i64 a.pol.mn,.int .i64 a.pol.mx,.int .i64 a.pol.tg,.int .i64 a.pol.tol,.int .i64 a.pol.win,.int .i64 a.pol.hold,.int .i64 a.adv.tick,.int .i64 a.adv.load,.int .i64 a.adv.want,.int .i64 a.adv.repl,.int .i64 a.adv.why] from rfl];obtain ⟨A,cc,rfl⟩:=hx.1.1.form;have HX:=jH hx;have HP:=jH hP
  obtain ⟨R,hR⟩:∃R,R=one18 c rs rh l k a:=⟨_,rfl⟩;rw [←hR];unfold one18 at hR;have HO:=jH hR;clear hR;have hgl:=getL_load hx.2 k;have hfull:(((l.length:Nat):Int) ≥ c.lo)=(c.lo≤(l.length:Nat)):=rfl;have HGET:=jH (fun (W:World) (hb:jB w W)=>iget_any _ l k W (hx.1.1.below hb) (by omega) hok hk);have HHAS:=jH (fun (W:World) (hb:jB w W)=>ihas_any _ l k W (hx.1.1.below hb) (by omega) hok hk);have HWITH:=jH (fun (W:World) (hb:jB w W) (x:It)=>iwith_any _ l k x W (hx.1.1.below hb) (by omega) hok hk)
  have HDO:=jH (fun (W:World) (hb:jB w W)=>r17_any (fun b=>P b∧(b<w.heap.size∨W.heap.size≤b)) c rs rh (getL l k) a W (fun b hb'=>⟨hP b (by have:=hb.size;omega),.inr hb'⟩) ⟨(hgl.1.old.below hb).imp (fun b hb'=>⟨hb'.1,.inl hb'.2⟩),(hgl.2.old.below hb).imp (fun b hb'=>⟨hb'.1,.inl hb'.2⟩)⟩ hc hn hv);generalize hg:getL l k=g at *;obtain ⟨r,hr⟩:∃r,r=do17 rs rh g.nd a:=⟨_,rfl⟩;rw [←hr] at HO HDO;obtain ⟨y,e1,n1⟩:=r
  have q1:(a.kind == 1)=false:=by simpa using h1
  dsimp only at HO HDO;rw [show (loadC g).toArray=#[.slice g.sA g.nd.smp.length g.sc,.slice g.pA g.nd.past.length g.pc,.int .i64 g.nd.pol.mn,.int .i64 g.nd.pol.mx,.int .i64 g.nd.pol.tg,.int .i64 g.nd.pol.tol,.int .i64 g.nd.pol.win,.int .i64 g.nd.pol.hold,.bool g.nd.ruled,.int .i64 (g.nd.ver:Nat)] from rfl] at HGET HDO;rw [show (act17C a).toArray=#[.int .i64 a.kind,.int .i64 a.smp.1,.int .i64 a.smp.2,.int .i64 a.pol.mn,.int .i64 a.pol.mx,.int .i64 a.pol.tg,.int .i64 a.pol.tol,.int .i64 a.pol.win,.int .i64 a.pol.hold,.int .i64 a.adv.tick,.int .i64 a.adv.load,.int .i64 a.adv.want,.int .i64 a.adv.repl,.int .i64 a.adv.why] from rfl] at HDO
  unfold cfgV;unfold cfgV at HDO;clear hx hP hc hn hv hok hgl hg hr h1
  go_enter Tryz.func137,Tryz.ntmps137
  go_upto_region 6 with fail
  refine name_world ?_;intro W hW;obtain ⟨k0,k1,hs,hb0⟩:=two_boxes w _ _ W hW;clear hW;obtain ⟨a0,a0f,a0l,a0h⟩:=box_at jR k0;obtain ⟨a1,a1f,a1l,a1h⟩:=box_at jR k1;have HK0:=jH a0h;have HK1:=jH a1h;have HB0:=jH hb0;clear k0 k1 hb0 a0h a1h hs
  go_cut [13,14] (fun s13 s14 wx=>∃B5 sA sc pA pc,s13=.pointer (some ⟨B5,0,none⟩)∧s14=.int .i64 e1∧wx.heap[B5]?=some (.cells #[.slice sA y.smp.length sc,.slice pA y.past.length pc,.int .i64 y.pol.mn,.int .i64 y.pol.mx,.int .i64 y.pol.tg,.int .i64 y.pol.tol,.int .i64 y.pol.win,.int .i64 y.pol.hold,.bool y.ruled,.int .i64 (y.ver:Nat)] 48 (0,0))∧LoadIn P wx ⟨k,sA,sc,pA,pc,y⟩∧jB W wx)
  case first =>
   have hS00:=keep2 a0l a1l ⟨a0,a1,Below.refl _ W⟩ (Below.refl _ W) rfl;have hS0:(∀j,W.drew.cell? ⟨w.heap.size,j,none⟩=(#[.int .i64 c.st,.int .i64 c.sa,.int .i64 c.lo,.int .i64 c.hi]:Array Value)[j]?)∧(∀j,W.drew.cell? ⟨w.heap.size+1,j,none⟩=(#[.int .u64 k.1,.int .u64 k.2,.int .i64 a.kind,.int .i64 a.smp.1,.int .i64 a.smp.2,.int .i64 a.pol.mn,.int .i64 a.pol.mx,.int .i64 a.pol.tg,.int .i64 a.pol.tol,.int .i64 a.pol.win,.int .i64 a.pol.hold,.int .i64 a.adv.tick,.int .i64 a.adv.load,.int .i64 a.adv.want,.int .i64 a.adv.repl,.int .i64 a.adv.why]:Array Value)[j]?)∧jB W W.drew:=⟨a0,a1,(Below.refl _ W).drew⟩
   go_region_held3 (fun U=>(∀j,U.cell? ⟨w.heap.size,j,none⟩=(#[.int .i64 c.st,.int .i64 c.sa,.int .i64 c.lo,.int .i64 c.hi]:Array Value)[j]?)∧(∀j,U.cell? ⟨w.heap.size+1,j,none⟩=(#[.int .u64 k.1,.int .u64 k.2,.int .i64 a.kind,.int .i64 a.smp.1,.int .i64 a.smp.2,.int .i64 a.pol.mn,.int .i64 a.pol.mx,.int .i64 a.pol.tg,.int .i64 a.pol.tol,.int .i64 a.pol.win,.int .i64 a.pol.hold,.int .i64 a.adv.tick,.int .i64 a.adv.load,.int .i64 a.adv.want,.int .i64 a.adv.repl,.int .i64 a.adv.why]:Array Value)[j]?)∧jB W U)
     (first
       | with_reducible exact hS0
       | with_reducible exact HS5.out
       | with_reducible exact HS3.out
       | with_reducible exact alloc2c a0l a1l HS5.out _
       | with_reducible exact alloc2c a0l a1l HS3.out _
       | with_reducible exact alloc2c a0l a1l hS0 _
       | with_reducible exact drew2c (alloc2c a0l a1l hS00 _)
       | (iterate 10 (with_reducible refine set2 a0l a1l ?_ (by omega) _ ())
          with_reducible exact HS5.out))
     (first
       | (go_at_call 182
          refine calls_named ?_;intro W2 hW2;have hz:W2.heap[W.heap.size]?=some (.cells #[.slice none 0 0,.slice none 0 0,.int .i64 0,.int .i64 0,.int .i64 0,.int .i64 0,.int .i64 0,.int .i64 0,.bool false,.int .i64 0] 48 (0,0)):=by
           first
            | (with_reducible refine new_at hW2 ?_
               rfl)
            | (with_reducible refine new_atd hW2 ?_
               rfl)
          subst hW2;refine (HGET.out _ (bthen HB0.out (And.right (And.right ‹(∀j:Nat,_)∧(∀j:Nat,_)∧jB W _›)))).mono ?_;rintro e w3 ⟨rfl,hbk⟩;have HS3:=jH (keep2 a0l a1l ‹(∀j:Nat,_)∧(∀j:Nat,_)∧jB W _› hbk rfl);have hsz3:W.heap.size≤w3.heap.size:=Nat.le_trans (And.right (And.right ‹(∀j:Nat,_)∧(∀j:Nat,_)∧jB W _›)).size hbk.size;obtain ⟨y1,y2,y3,y4⟩:=box_at hbk hz;have HZ:=jH y4;clear hz y4)
       | (go_at_call 182
          refine calls_named ?_;intro W2 hW2;subst hW2;refine (HGET.out _ (bthen HB0.out (And.right (And.right ‹(∀j:Nat,_)∧(∀j:Nat,_)∧jB W _›)))).mono ?_;rintro e w3 ⟨rfl,hbk⟩;have HS3:=jH (keep2 a0l a1l ‹(∀j:Nat,_)∧(∀j:Nat,_)∧jB W _› hbk rfl);have hsz3:W.heap.size≤w3.heap.size:=Nat.le_trans (And.right (And.right ‹(∀j:Nat,_)∧(∀j:Nat,_)∧jB W _›)).size hbk.size)
       | (have hz9:=HZ.out
          go_at_call 181
          refine calls_named ?_;intro W4 hW4;have hz:W4.heap[W.heap.size]?=some (.cells #[.slice none 0 0,.slice none 0 0,.int .i64 0,.int .i64 0,.int .i64 0,.int .i64 0,.int .i64 0,.int .i64 0,.bool false,.int .i64 0] 48 (0,0)):=by rw [hW4];exact hz9
          subst hW4;refine (HDO.out _ (bthen HB0.out (And.right (And.right ‹(∀j:Nat,_)∧(∀j:Nat,_)∧jB W _›)))).mono ?_;rintro e w5 ⟨sA,sc,pA,pc,he,hy,hbk⟩;have he':e=.returned (.tuple #[.agg #[.slice sA y.smp.length sc,.slice pA y.past.length pc,.int .i64 y.pol.mn,.int .i64 y.pol.mx,.int .i64 y.pol.tg,.int .i64 y.pol.tol,.int .i64 y.pol.win,.int .i64 y.pol.hold,.bool y.ruled,.int .i64 (y.ver:Nat)],.int .i64 e1,.int .i64 n1]):=he
          clear he;subst he';have HS5:=jH (keep2 a0l a1l ‹(∀j:Nat,_)∧(∀j:Nat,_)∧jB W _› hbk rfl);have hb5:=bthen (And.right (And.right ‹(∀j:Nat,_)∧(∀j:Nat,_)∧jB W _›)) hbk;have hsz5:=hb5.size;have HB5:=jH hb5;have HY:=jH hy;obtain ⟨z1,z2,z3,z4⟩:=box_at hbk hz;have HZ5:=jH (And.intro z4 (jL hz));clear hz z4;clear hb5 hy)
       | (go_at_call 181
          refine calls_named ?_;intro W4 hW4;have hz:W4.heap[w3.heap.size]?=some (.cells #[.slice none 0 0,.slice none 0 0,.int .i64 0,.int .i64 0,.int .i64 0,.int .i64 0,.int .i64 0,.int .i64 0,.bool false,.int .i64 0] 48 (0,0)):=by
           with_reducible refine new_at hW4 ?_
           rfl
          subst hW4;refine (HDO.out _ (bthen HB0.out (And.right (And.right ‹(∀j:Nat,_)∧(∀j:Nat,_)∧jB W _›)))).mono ?_;rintro e w5 ⟨sA,sc,pA,pc,he,hy,hbk⟩;have he':e=.returned (.tuple #[.agg #[.slice sA y.smp.length sc,.slice pA y.past.length pc,.int .i64 y.pol.mn,.int .i64 y.pol.mx,.int .i64 y.pol.tg,.int .i64 y.pol.tol,.int .i64 y.pol.win,.int .i64 y.pol.hold,.bool y.ruled,.int .i64 (y.ver:Nat)],.int .i64 e1,.int .i64 n1]):=he
          clear he;subst he';have HS5:=jH (keep2 a0l a1l ‹(∀j:Nat,_)∧(∀j:Nat,_)∧jB W _› hbk rfl);have hb5:=bthen (And.right (And.right ‹(∀j:Nat,_)∧(∀j:Nat,_)∧jB W _›)) hbk;have hsz5:=hb5.size;have HB5:=jH hb5;have HY:=jH hy;obtain ⟨z1,z2,z3,z4⟩:=box_at hbk hz;have HZ5:=jH (And.intro z4 (jL hz));clear hz z4;clear hb5 hy)
       | (go_at_call 181
          refine calls_named ?_;intro W4 hW4;subst hW4;refine (HDO.out _ (bthen HB0.out (And.right (And.right ‹(∀j:Nat,_)∧(∀j:Nat,_)∧jB W _›)))).mono ?_;rintro e w5 ⟨sA,sc,pA,pc,he,hy,hbk⟩;have he':e=.returned (.tuple #[.agg #[.slice sA y.smp.length sc,.slice pA y.past.length pc,.int .i64 y.pol.mn,.int .i64 y.pol.mx,.int .i64 y.pol.tg,.int .i64 y.pol.tol,.int .i64 y.pol.win,.int .i64 y.pol.hold,.bool y.ruled,.int .i64 (y.ver:Nat)],.int .i64 e1,.int .i64 n1]):=he
          clear he;subst he';have HS5:=jH (keep2 a0l a1l ‹(∀j:Nat,_)∧(∀j:Nat,_)∧jB W _› hbk rfl);have hb5:=bthen (And.right (And.right ‹(∀j:Nat,_)∧(∀j:Nat,_)∧jB W _›)) hbk;have hsz5:=hb5.size;have HB5:=jH hb5;have HY:=jH hy;clear hb5 hy))
   all_goals
     go_wp2_with fail
     go_meet
     refine ⟨_,sA,sc,pA,pc,rfl,rfl,?_⟩;have hyy:LoadIn _ w5 ⟨k,sA,sc,pA,pc,y⟩:=HY.out
     first
      | (have hz9:=HZ5.out
         exact pack10 hz9.1 hyy (fun b hb'=>⟨hb'.1,by have:=hz9.2;omega⟩) HB5.out (by omega) _ _ _ _ _ _ _ _ _ _)
      | exact packA hyy (fun b hb'=>hb'.1) HB5.out HB5.out.size
  case rest =>
   obtain ⟨B5,sA,sc,pA,pc,rfl,rfl,h5,hl5,hb5⟩:=hcut;obtain ⟨d0,d0f,d0l⟩:=box_cells hb5 HK0.out;obtain ⟨d1,d1f,d1l⟩:=box_cells hb5 HK1.out;obtain ⟨d5,d5f,d5l⟩:=box_cells jR h5;have HC0:=jH (jK hb5 HK0.out);have HC1:=jH (jK hb5 HK1.out);have HB:=jH (bthen HB0.out hb5);have HL5:=jH hl5;have H5:=jH h5;have hwx:=fun (U:World) (hb:jB w U)=>HWITH.out U hb ⟨k,sA,sc,pA,pc,y⟩
   rw [show (loadC ⟨k,sA,sc,pA,pc,y⟩).toArray=#[.slice sA y.smp.length sc,.slice pA y.past.length pc,.int .i64 y.pol.mn,.int .i64 y.pol.mx,.int .i64 y.pol.tg,.int .i64 y.pol.tol,.int .i64 y.pol.win,.int .i64 y.pol.hold,.bool y.ruled,.int .i64 (y.ver:Nat)] from rfl] at hwx;have HWX:=jH hwx;have HE:=jH (fun w'=>Do18Says.same (w':=w') HX.out);clear h5 hl5 hb5 hwx a0 a0f a0l a1 a1f a1l
   by_cases he:e1=0
   case neg =>
    have hn:(e1 != 0)=true:=by simpa using he
    rw [if_pos he] at HO;obtain rfl:=HO.out;clear he;go_wp2
    exact bodyPost_ret (v:=.tuple #[.slice A l.length cc,.int .i64 e1,.int .i64 0,.int .i64 0]) (by simp [results,Tryz.results137,go_sem]) rfl (HE.out _ HB.out e1 0 0)
   subst he;rw [if_neg (by simp)] at HO
   cases hh:hasI l k with
   | true =>
     rw [hh] at HHAS HO;rw [if_neg (by simp),if_neg (by simp)] at HO;obtain rfl:=HO.out;clear hh
     go_wp2_with (first
      | (go_at_call 183
         refine (HHAS.out wc HB.out).mono ?_;rintro e w6 ⟨rfl,hb6⟩;obtain ⟨f0,f0f,f0l⟩:=box_cells hb6 HC0.out;obtain ⟨f1,f1f,f1l⟩:=box_cells hb6 HC1.out;obtain ⟨f5,f5f,f5l⟩:=box_cells hb6 H5.out;have HL6:=jH (HL5.out.below hb6);have HB6:=jH (bthen HB.out hb6);clear hb6)
      | (go_at_call 184
         refine (HWX.out w6 HB6.out).mono ?_;rintro e w7 ⟨A7,c7,rfl,hr7,hb7⟩;have HR7:=jH hr7;have HB7:=jH hb7;clear hr7 hb7))
     exact bodyPost_ret (v:=.tuple #[.slice A7 (withI l k ⟨k,sA,sc,pA,pc,y⟩).length c7,.int .i64 0,.int .i64 0,.int .i64 1]) (by simp [results,Tryz.results137,go_sem]) rfl
       ⟨_,A7,c7,rfl,⟨HR7.out.imp (fun b hb=>HP.out b (Nat.le_trans HB6.out.size hb)),with_loads (fun x hx=>(HX.out.2 x hx).below (bthen HB6.out HB7.out)) (HL6.out.below HB7.out)⟩,with_abs l k ⟨k,sA,sc,pA,pc,y⟩,bthen HB6.out HB7.out⟩
   | false =>
     rw [hh] at HHAS HO
     by_cases hk3:a.kind=3
     · rw [if_pos ⟨rfl,hk3⟩] at HO
       obtain rfl:=HO.out;have q3:(a.kind == 3)=true:=by simpa using hk3
       clear hh hk3
       go_wp2_with (first
        | (go_at_call 183
           refine (HHAS.out wc HB.out).mono ?_;rintro e w6 ⟨rfl,hb6⟩;obtain ⟨f1,f1f,f1l⟩:=box_at hb6 HC1.out;have HB6:=jH (bthen HB.out hb6);clear hb6))
       exact bodyPost_ret (v:=.tuple #[.slice A l.length cc,.int .i64 5,.int .i64 0,.int .i64 0]) (by simp [results,Tryz.results137,go_sem]) rfl (HE.out _ HB6.out 5 0 0)
     · rw [if_neg (fun h=>hk3 h.2)] at HO
       have q3:(a.kind == 3)=false:=by simpa using hk3
       clear hh hk3
       by_cases hf:c.lo≤(l.length:Nat)
       · rw [if_pos ⟨rfl,hf⟩] at HO
         obtain rfl:=HO.out
         go_wp2_with (first
          | (go_at_call 183
             refine (HHAS.out wc HB.out).mono ?_;rintro e w6 ⟨rfl,hb6⟩;obtain ⟨f0,f0f,f0l⟩:=box_cells hb6 HC0.out;obtain ⟨f1,f1f,f1l⟩:=box_cells hb6 HC1.out;have HB6:=jH (bthen HB.out hb6);clear hb6))
         exact bodyPost_ret (v:=.tuple #[.slice A l.length cc,.int .i64 6,.int .i64 0,.int .i64 0]) (by simp [results,Tryz.results137,go_sem]) rfl (HE.out _ HB6.out 6 0 0)
       · rw [if_neg (fun h=>hf h.2)] at HO
         obtain rfl:=HO.out
         go_wp2_with (first
          | (go_at_call 183
             refine (HHAS.out wc HB.out).mono ?_;rintro e w6 ⟨rfl,hb6⟩;obtain ⟨f0,f0f,f0l⟩:=box_cells hb6 HC0.out;obtain ⟨f1,f1f,f1l⟩:=box_cells hb6 HC1.out;obtain ⟨f5,f5f,f5l⟩:=box_cells hb6 H5.out;have HL6:=jH (HL5.out.below hb6);have HB6:=jH (bthen HB.out hb6);clear hb6)
          | (go_at_call 184
             refine (HWX.out w6 HB6.out).mono ?_;rintro e w7 ⟨A7,c7,rfl,hr7,hb7⟩;have HR7:=jH hr7;have HB7:=jH hb7;clear hr7 hb7))
         exact bodyPost_ret (v:=.tuple #[.slice A7 (withI l k ⟨k,sA,sc,pA,pc,y⟩).length c7,.int .i64 0,.int .i64 0,.int .i64 1]) (by simp [results,Tryz.results137,go_sem]) rfl
           ⟨_,A7,c7,rfl,⟨HR7.out.imp (fun b hb=>HP.out b (Nat.le_trans HB6.out.size hb)),with_loads (fun x hx=>(HX.out.2 x hx).below (bthen HB6.out HB7.out)) (HL6.out.below HB7.out)⟩,with_abs l k ⟨k,sA,sc,pA,pc,y⟩,bthen HB6.out HB7.out⟩
end
end Go.Proofs.YtkcdhaallnhhmaaGreat
