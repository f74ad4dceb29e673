/- Part 17 of the proof: R17. -/
import Derived.Test.YtkcdhaallnhhmaaGreatQ13
import Derived.Test.YtkcdhaallnhhmaaGreatQ14
namespace Go.Proofs.YtkcdhaallnhhmaaGreat
set_option linter.unusedSimpArgs false
set_option linter.unusedVariables false
set_option linter.unusedSectionVars false
set_option maxRecDepth 100000
set_option maxHeartbeats 16000000
section
open Go.RowKit Go.Lib Go.Sort
structure Act17 where
 kind:Int
 smp:Smp
 pol:Pol
 adv:Adv
def act17C (a:Act17):List Value:=[.int .i64 a.kind,.int .i64 a.smp.1,.int .i64 a.smp.2,.int .i64 a.pol.mn,.int .i64 a.pol.mx,.int .i64 a.pol.tg,.int .i64 a.pol.tol,.int .i64 a.pol.win,.int .i64 a.pol.hold,.int .i64 a.adv.tick,.int .i64 a.adv.load,.int .i64 a.adv.want,.int .i64 a.adv.repl,.int .i64 a.adv.why]
def do17 (rs rh:Nat) (x:Nd) (a:Act17):Nd × Int × Int :=
 if a.kind=0 then (if serE a.smp.1 a.smp.2=0 then ({ x with smp:=putS x.smp (rs:Nat) a.smp,ver:=x.ver+1 },0,(x.smp.length:Int) - ((putS x.smp (rs:Nat) a.smp).length:Int)) else (x,serE a.smp.1 a.smp.2,0))
 else if a.kind=1 then (if placeS x.smp a.smp.1=0 then (x,0,0) else ({ x with smp:=x.smp.drop (placeS x.smp a.smp.1),ver:=x.ver+1 },0,(placeS x.smp a.smp.1:Nat)))
 else if a.kind=2 then (if polB a.pol=true then ({ x with pol:=a.pol,ruled:=true,ver:=x.ver+1 },0,0) else (x,7,0))
 else if a.kind=3 then ({ x with past:=pushL x.past rh a.adv,ver:=x.ver+1 },0,0)
 else (x,0,0)
def Do17Says (P:Nat→Prop) (w:World) (key:Ky) (y:Nd) (e1 n:Int) (e:Ending) (w':World):Prop :=
 ∃sA sc pA pc,e=.returned (.tuple #[.agg (loadC ⟨key,sA,sc,pA,pc,y⟩).toArray,.int .i64 e1,.int .i64 n])∧LoadIn P w' ⟨key,sA,sc,pA,pc,y⟩∧jB w w'
theorem RowG.keepP {α:Type} {P:Nat→Prop} {n:Nat} {f:α→List Value} {w w':World} {v:Value} {l:List α} (h:RowG P n f w v l) (hs:w.heap.size≤w'.heap.size) (hk:∀b,P b→b<w.heap.size→w'.heap[b]?=w.heap[b]?):RowG P n f w' v l:=by
 obtain ⟨⟨A,c,hv,hc,hr⟩,hp⟩:=h;refine ⟨⟨A,c,hv,hc,fun hn=>?_⟩,hp⟩;obtain ⟨b,o,hA,hlt,hat⟩:=hr hn;have hb:=hk b (hp b o _ _ (by rw [hv,hA]) hn) hlt;exact ⟨b,o,hA,Nat.lt_of_lt_of_le hlt hs,fun k x hx j u hu=>by
  have:=hat k x hx j u hu;simp only [World.cell?] at this ⊢
  rw [hb];exact this⟩
theorem RowG.old {α:Type} {P:Nat→Prop} {n:Nat} {f:α→List Value} {w:World} {v:Value} {l:List α} (h:RowG P n f w v l):RowG (fun b=>P b∧b<w.heap.size) n f w v l:=by
 refine ⟨h.1,fun b o m c e hn=>⟨h.2 b o m c e hn,?_⟩⟩;obtain ⟨⟨A,c',hv,hc,hr⟩,_⟩:=h;obtain ⟨b',o',hA,hlt,_⟩:=hr hn;rw [e] at hv;injection hv with e1 _ _
 rw [hA] at e1;injection e1 with e1
 injection e1 with e1
 omega
theorem five_boxes (w:World) (o1 o2 o3 o4 o5:Obj):∀W,W=((((w.alloc o1).alloc o2).alloc o3).alloc o4).alloc o5→W.heap[w.heap.size]?=some o1∧W.heap[w.heap.size+1]?=some o2∧W.heap[w.heap.size+1+1]?=some o3∧W.heap[w.heap.size+1+1+1]?=some o4∧W.heap[w.heap.size+1+1+1+1]?=some o5∧W.heap.size=w.heap.size+5∧jB w W:=by
 rintro W rfl;have e1:=heap_alloc_new w o1;have e2:=heap_alloc_new (w.alloc o1) o2;have e3:=heap_alloc_new ((w.alloc o1).alloc o2) o3;have e4:=heap_alloc_new (((w.alloc o1).alloc o2).alloc o3) o4;have e5:=heap_alloc_new ((((w.alloc o1).alloc o2).alloc o3).alloc o4) o5;simp only [World.size_alloc] at e1 e2 e3 e4 e5
 have k:∀(u:World) (o:Obj) (i:Nat),i<u.heap.size→(u.alloc o).heap[i]?=u.heap[i]?:=fun u o i h=>Below.heap_alloc _ _ _ h
 refine ⟨?_,?_,?_,?_,?_,by simp,balloc (balloc (balloc (balloc (balloc jR _) _) _) _) _⟩
 · rw [k _ _ _ (by simp <;> omega),k _ _ _ (by simp <;> omega),k _ _ _ (by simp <;> omega),k _ _ _ (by simp),e1]
 · rw [k _ _ _ (by simp <;> omega),k _ _ _ (by simp <;> omega),k _ _ _ (by simp),e2]
 · rw [k _ _ _ (by simp <;> omega),k _ _ _ (by simp),e3]
 · rw [k _ _ _ (by simp),e4]
 · exact e5
theorem LoadIn.old {P:Nat→Prop} {w W:World} {x:It} (h:LoadIn P w x) (hb:jB w W):LoadIn (fun b=>P b∧(b<w.heap.size∨w.heap.size+5≤b)) W x :=
 ⟨(h.1.old.below hb).imp (fun _ h=>⟨h.1,.inl h.2⟩),(h.2.old.below hb).imp (fun _ h=>⟨h.1,.inl h.2⟩)⟩
theorem set10d {w:World} {B:Nat} {u0 u1 u2 u3 u4 u5 u6 u7 u8 u9:Value} {T:TypeId} (h:w.heap[B]?=some (.cells #[u0,u1,u2,u3,u4,u5,u6,u7,u8,u9] T (0,0))) (v0 v1 v2 v3 v4 v5 v6 v7 v8 v9:Value):∀W,W=((((((((((w.setCell ⟨B,0,none⟩ v0).setCell ⟨B,1,none⟩ v1).setCell ⟨B,2,none⟩ v2).setCell ⟨B,3,none⟩ v3).setCell ⟨B,4,none⟩ v4).setCell ⟨B,5,none⟩ v5).setCell ⟨B,6,none⟩ v6).setCell ⟨B,7,none⟩ v7).setCell ⟨B,8,none⟩ v8).setCell ⟨B,9,none⟩ v9).drew →
    W.heap[B]?=some (.cells #[v0,v1,v2,v3,v4,v5,v6,v7,v8,v9] T (0,0))∧(∀k,k≠B→W.heap[k]?=w.heap[k]?)∧W.heap.size=w.heap.size∧∀n,n≤B→Below n w W:=by
  intro W hW;obtain ⟨V,hV⟩:∃V:World,V=((((((((((w.setCell ⟨B,0,none⟩ v0).setCell ⟨B,1,none⟩ v1).setCell ⟨B,2,none⟩ v2).setCell ⟨B,3,none⟩ v3).setCell ⟨B,4,none⟩ v4).setCell ⟨B,5,none⟩ v5).setCell ⟨B,6,none⟩ v6).setCell ⟨B,7,none⟩ v7).setCell ⟨B,8,none⟩ v8).setCell ⟨B,9,none⟩ v9):=⟨_,rfl⟩;rw [←hV] at hW;obtain ⟨a1,a2,a3,a4⟩:=set10 h v0 v1 v2 v3 v4 v5 v6 v7 v8 v9 V hV;clear hV;subst hW;exact ⟨a1,a2,a3,fun n hn=>(a4 n hn).drew⟩
theorem fin17 {P:Nat→Prop} {w W5 W7:World} {key:Ky} {y:Nd} {sA pA:Option Addr} {sc pc:Nat} {e1 n:Int}
    (hb5:jB w W5) (hs:LoadIn (fun b=>P b∧(b<w.heap.size∨w.heap.size+5≤b)) W5 ⟨key,sA,sc,pA,pc,y⟩) (hk:∀k,k≠w.heap.size+3→W7.heap[k]?=W5.heap[k]?) (hz:W7.heap.size=W5.heap.size) (hb7:jB w W7) (hP:∀b,w.heap.size≤b→P b) :
    Do17Says P w key y e1 n (.returned (.tuple #[.agg (loadC ⟨key,sA,sc,pA,pc,y⟩).toArray,.int .i64 e1,.int .i64 n])) W7:=by
  refine ⟨sA,sc,pA,pc,rfl,?_,hb7⟩;have hkeep:∀b,(P b∧(b<w.heap.size∨w.heap.size+5≤b))→b<W5.heap.size→W7.heap[b]?=W5.heap[b]?:=fun b hb _=>hk b (by omega)
  exact ⟨(hs.1.keepP (Nat.le_of_eq hz.symm) hkeep).imp (fun b hb=>hb.1),(hs.2.keepP (Nat.le_of_eq hz.symm) hkeep).imp (fun b hb=>hb.1)⟩
theorem r17_other (P:Nat→Prop) (c:Cfg) (rs rh:Nat) (x:It) (a:Act17) (w:World) (hP:∀b,w.heap.size≤b→P b) (hx:LoadIn P w x) (hrs:c.sa=(rs:Nat)) (hrh:c.hi=(rh:Nat)) (hr:risingS x.nd.smp) (hl:x.nd.smp.length≤rs) (hl2:x.nd.past.length≤rh) (hrs1:1≤rs) (hrs2:rs≤256) (hrh1:1≤rh) (hrh2:rh≤64) (hv:x.nd.ver≤1000000) (h0:a.kind≠0) (h1:a.kind≠1) (h2:a.kind≠2) (h3:a.kind≠3) :
 Calls Tryz.prog 181 #[.agg #[.int .i64 c.st,.int .i64 c.sa,.int .i64 c.lo,.int .i64 c.hi],.agg (loadC x).toArray,.agg (act17C a).toArray] w (Do17Says P w x.key x.nd 0 0):=by
 rw [show (loadC x).toArray=#[.slice x.sA x.nd.smp.length x.sc,.slice x.pA x.nd.past.length x.pc,.int .i64 x.nd.pol.mn,.int .i64 x.nd.pol.mx,.int .i64 x.nd.pol.tg,.int .i64 x.nd.pol.tol,.int .i64 x.nd.pol.win,.int .i64 x.nd.pol.hold,.bool x.nd.ruled,.int .i64 (x.nd.ver:Nat)] from rfl,show (act17C a).toArray=#[.int .i64 a.kind,.int .i64 a.smp.1,.int .i64 a.smp.2,.int .i64 a.pol.mn,.int .i64 a.pol.mx,.int .i64 a.pol.tg,.int .i64 a.pol.tol,.int .i64 a.pol.win,.int .i64 a.pol.hold,.int .i64 a.adv.tick,.int .i64 a.adv.load,.int .i64 a.adv.want,.int .i64 a.adv.repl,.int .i64 a.adv.why] from rfl]
 have HX:=jH hx;have HP:=jH hP;clear hx hP;have q0:(a.kind == 0)=false:=by simpa using h0
 have q1:(a.kind == 1)=false:=by simpa using h1
 have q2:(a.kind == 2)=false:=by simpa using h2
 have q3:(a.kind == 3)=false:=by simpa using h3
 clear h0 h1 h2 h3
 go_enter Tryz.func181,Tryz.ntmps181
 go_wp2
 refine post_named ?_;intro W7 hW7;obtain ⟨k0,k1,k2,k3,k4,hs,hb⟩:=five_boxes w _ _ _ _ _ W7 hW7;obtain ⟨d1,d2,d3⟩:=box_cells jR k3;clear hW7;exact bodyPost_ret (v:=.tuple #[.agg #[.slice x.sA x.nd.smp.length x.sc,.slice x.pA x.nd.past.length x.pc,.int .i64 x.nd.pol.mn,.int .i64 x.nd.pol.mx,.int .i64 x.nd.pol.tg,.int .i64 x.nd.pol.tol,.int .i64 x.nd.pol.win,.int .i64 x.nd.pol.hold,.bool x.nd.ruled,.int .i64 (x.nd.ver:Nat)],.int .i64 0,.int .i64 0]) (by simp [results,Tryz.results181,go_sem,d1]) rfl (fin17 (key:=x.key) (y:=x.nd) hb (HX.out.old hb) (fun _ _=>rfl) rfl hb HP.out)
theorem r17_bad0 (P:Nat→Prop) (c:Cfg) (rs rh:Nat) (x:It) (a:Act17) (w:World) (hP:∀b,w.heap.size≤b→P b) (hx:LoadIn P w x) (hrs:c.sa=(rs:Nat)) (hrh:c.hi=(rh:Nat)) (hr:risingS x.nd.smp) (hl:x.nd.smp.length≤rs) (hl2:x.nd.past.length≤rh) (hrs1:1≤rs) (hrs2:rs≤256) (hrh1:1≤rh) (hrh2:rh≤64) (hv:x.nd.ver≤1000000) (h0:a.kind=0) (h1:serE a.smp.1 a.smp.2≠0) :
 Calls Tryz.prog 181 #[.agg #[.int .i64 c.st,.int .i64 c.sa,.int .i64 c.lo,.int .i64 c.hi],.agg (loadC x).toArray,.agg (act17C a).toArray] w (Do17Says P w x.key x.nd (serE a.smp.1 a.smp.2) 0):=by
 rw [show (loadC x).toArray=#[.slice x.sA x.nd.smp.length x.sc,.slice x.pA x.nd.past.length x.pc,.int .i64 x.nd.pol.mn,.int .i64 x.nd.pol.mx,.int .i64 x.nd.pol.tg,.int .i64 x.nd.pol.tol,.int .i64 x.nd.pol.win,.int .i64 x.nd.pol.hold,.bool x.nd.ruled,.int .i64 (x.nd.ver:Nat)] from rfl,show (act17C a).toArray=#[.int .i64 a.kind,.int .i64 a.smp.1,.int .i64 a.smp.2,.int .i64 a.pol.mn,.int .i64 a.pol.mx,.int .i64 a.pol.tg,.int .i64 a.pol.tol,.int .i64 a.pol.win,.int .i64 a.pol.hold,.int .i64 a.adv.tick,.int .i64 a.adv.load,.int .i64 a.adv.want,.int .i64 a.adv.repl,.int .i64 a.adv.why] from rfl]
 have HX:=jH hx;have HP:=jH hP;clear hx hP;have q0:(a.kind == 0)=true:=by simpa using h0
 clear h0;have HR:=jH (r8right_any a.smp.1 a.smp.2);have hn:(serE a.smp.1 a.smp.2 != 0)=true:=by simpa using h1
 generalize serE a.smp.1 a.smp.2=r at hn HR ⊢;clear h1
 go_enter Tryz.func181,Tryz.ntmps181
 go_wp2_with (first
  | (go_at_call 139;refine (HR.out _).mono ?_;rintro e w1 ⟨rfl,rfl⟩))
 refine post_named ?_;intro W7 hW7;obtain ⟨k0,k1,k2,k3,k4,hs,hb⟩:=five_boxes w _ _ _ _ _ W7 hW7;obtain ⟨d1,d2,d3⟩:=box_cells jR k3;clear hW7;exact bodyPost_ret (v:=.tuple #[.agg #[.slice x.sA x.nd.smp.length x.sc,.slice x.pA x.nd.past.length x.pc,.int .i64 x.nd.pol.mn,.int .i64 x.nd.pol.mx,.int .i64 x.nd.pol.tg,.int .i64 x.nd.pol.tol,.int .i64 x.nd.pol.win,.int .i64 x.nd.pol.hold,.bool x.nd.ruled,.int .i64 (x.nd.ver:Nat)],.int .i64 r,.int .i64 0]) (by simp [results,Tryz.results181,go_sem,d1]) rfl (fin17 (key:=x.key) (y:=x.nd) hb (HX.out.old hb) (fun _ _=>rfl) rfl hb HP.out)
theorem r17_good0 (P:Nat→Prop) (c:Cfg) (rs rh:Nat) (x:It) (a:Act17) (w:World) (hP:∀b,w.heap.size≤b→P b) (hx:LoadIn P w x) (hrs:c.sa=(rs:Nat)) (hrh:c.hi=(rh:Nat)) (hr:risingS x.nd.smp) (hl:x.nd.smp.length≤rs) (hl2:x.nd.past.length≤rh) (hrs1:1≤rs) (hrs2:rs≤256) (hrh1:1≤rh) (hrh2:rh≤64) (hv:x.nd.ver≤1000000) (h0:a.kind=0) (h1:serE a.smp.1 a.smp.2=0) :
 Calls Tryz.prog 181 #[.agg #[.int .i64 c.st,.int .i64 c.sa,.int .i64 c.lo,.int .i64 c.hi],.agg (loadC x).toArray,.agg (act17C a).toArray] w (Do17Says P w x.key { x.nd with smp:=putS x.nd.smp (rs:Nat) a.smp,ver:=x.nd.ver+1 } 0 ((x.nd.smp.length:Int) - ((putS x.nd.smp (rs:Nat) a.smp).length:Int))):=by
 rw [show (loadC x).toArray=#[.slice x.sA x.nd.smp.length x.sc,.slice x.pA x.nd.past.length x.pc,.int .i64 x.nd.pol.mn,.int .i64 x.nd.pol.mx,.int .i64 x.nd.pol.tg,.int .i64 x.nd.pol.tol,.int .i64 x.nd.pol.win,.int .i64 x.nd.pol.hold,.bool x.nd.ruled,.int .i64 (x.nd.ver:Nat)] from rfl,show (act17C a).toArray=#[.int .i64 a.kind,.int .i64 a.smp.1,.int .i64 a.smp.2,.int .i64 a.pol.mn,.int .i64 a.pol.mx,.int .i64 a.pol.tg,.int .i64 a.pol.tol,.int .i64 a.pol.win,.int .i64 a.pol.hold,.int .i64 a.adv.tick,.int .i64 a.adv.load,.int .i64 a.adv.want,.int .i64 a.adv.repl,.int .i64 a.adv.why] from rfl]
 have HX:=jH hx;have HP:=jH hP;clear hx hP;have q0:(a.kind == 0)=true:=by simpa using h0
 clear h0;have hvw:IntKind.i64.wrap ((x.nd.ver:Int)+1)=(x.nd.ver:Int)+1:=by rw [IntKind.wrap_i64];omega
 have HS:=jH h1;have hpl:=putS_len hl a.smp;have hwl:IntKind.i64.wrap ((x.nd.smp.length:Int) - ((putS x.nd.smp (rs:Nat) a.smp).length:Int))=(x.nd.smp.length:Int) - ((putS x.nd.smp (rs:Nat) a.smp).length:Int):=by rw [IntKind.wrap_i64];omega
 clear h1
 go_enter Tryz.func181,Tryz.ntmps181
 go_wp2_with (first
  | (go_at_call 139;refine (r8right_any _ _ _).mono ?_;rw [HS.out];rintro e w1 ⟨rfl,rfl⟩)
  | (go_at_call 211
     refine calls_named ?_;intro W1 hW1;obtain ⟨k0,k1,k2,k3,k4,hs,hb⟩:=five_boxes w _ _ _ _ _ W1 hW1;clear hW1;refine (r8put_any _ x.nd.smp rs a.smp W1 (HX.out.1.1.below hb) (sorted_at hr _) hr hl hrs1 (by omega)).mono ?_;rintro e w3 ⟨A3,c3',rfl,hr3,hb3⟩;obtain ⟨a0,a0f,a0l,a0h⟩:=box_at hb3 k0;obtain ⟨a1,a1f,a1l,a1h⟩:=box_at hb3 k1;obtain ⟨a2,a2f,a2l,a2h⟩:=box_at hb3 k2;obtain ⟨a3,a3f,a3l,a3h⟩:=box_at hb3 k3
     obtain ⟨a4,a4f,a4l,a4h⟩:=box_at hb3 k4;have hbb:=bthen hb hb3;have HB3:=jH (And.intro hbb (And.intro a1h (And.intro a2h (And.intro a3h a4h))));have hsz:=hb3.size;have HLD:=jH (show ∀W5:World,(∀i,i≠w.heap.size+1+1+1+1→W5.heap[i]?=w3.heap[i]?)→W5.heap.size=w3.heap.size→LoadIn (fun b=>P b∧(b<w.heap.size∨w.heap.size+5≤b)) W5 ⟨x.key,A3,c3',x.pA,x.pc,{ x.nd with smp:=putS x.nd.smp (rs:Nat) a.smp,ver:=x.nd.ver+1 }⟩ from fun W5 hk hz=>⟨(hr3.imp (fun b hb'=>⟨HP.out b (by omega),.inr (by omega)⟩)).keepP (Nat.le_of_eq hz.symm) (fun b hb' _=>hk b (by omega)),((HX.out.old hbb).2).keepP (Nat.le_of_eq hz.symm) (fun b hb' _=>hk b (by omega))⟩)
     clear hr3;clear k0 k1 k2 k3 k4 hb hb3 hbb a0h a1h a2h a3h a4h))
 refine name_world ?_;intro W5 hW5;have g0:(w3.setCell ⟨w.heap.size+1+1+1+1,0,none⟩ (.slice A3 (putS x.nd.smp (rs:Nat) a.smp).length c3')).heap[w.heap.size+1+1+1+1]?=some (.cells #[.slice A3 (putS x.nd.smp (rs:Nat) a.smp).length c3',.slice x.pA x.nd.past.length x.pc,.int .i64 x.nd.pol.mn,.int .i64 x.nd.pol.mx,.int .i64 x.nd.pol.tg,.int .i64 x.nd.pol.tol,.int .i64 x.nd.pol.win,.int .i64 x.nd.pol.hold,.bool x.nd.ruled,.int .i64 (x.nd.ver:Nat)] 48 (0,0)):=setCell_block (i:=0) (v:=.slice A3 (putS x.nd.smp (rs:Nat) a.smp).length c3') HB3.out.2.2.2.2
 have g1:((w3.setCell ⟨w.heap.size+1+1+1+1,0,none⟩ (.slice A3 (putS x.nd.smp (rs:Nat) a.smp).length c3')).setCell ⟨w.heap.size+1+1+1+1,9,none⟩ (.int .i64 ((x.nd.ver:Int)+1))).heap[w.heap.size+1+1+1+1]?=some (.cells #[.slice A3 (putS x.nd.smp (rs:Nat) a.smp).length c3',.slice x.pA x.nd.past.length x.pc,.int .i64 x.nd.pol.mn,.int .i64 x.nd.pol.mx,.int .i64 x.nd.pol.tg,.int .i64 x.nd.pol.tol,.int .i64 x.nd.pol.win,.int .i64 x.nd.pol.hold,.bool x.nd.ruled,.int .i64 ((x.nd.ver:Int)+1)] 48 (0,0)):=setCell_block (i:=9) (v:=.int .i64 ((x.nd.ver:Int)+1)) g0
 have hk5:∀i,i≠w.heap.size+1+1+1+1→W5.heap[i]?=w3.heap[i]?:=by rw [hW5];exact fun i hi=>(Below.heap_setCell _ _ _ _ hi).trans ((Below.heap_setCell _ _ _ _ hi).trans (rfl))
 have hz5:W5.heap.size=w3.heap.size:=by rw [hW5];simp [World.setCell]
 have hb5:Below w.heap.size w3 W5:=by rw [hW5];exact (((Below.refl w.heap.size w3).setCell (by simp;omega) _).setCell (by simp;omega) _)
 have h54:W5.heap[w.heap.size+1+1+1+1]?=some (.cells #[.slice A3 (putS x.nd.smp (rs:Nat) a.smp).length c3',.slice x.pA x.nd.past.length x.pc,.int .i64 x.nd.pol.mn,.int .i64 x.nd.pol.mx,.int .i64 x.nd.pol.tg,.int .i64 x.nd.pol.tol,.int .i64 x.nd.pol.win,.int .i64 x.nd.pol.hold,.bool x.nd.ruled,.int .i64 ((x.nd.ver:Int)+1)] 48 (0,0)):=by rw [hW5];exact g1
 have h51:=(hk5 (w.heap.size+1) (by omega)).trans HB3.out.2.1;have h53:=(hk5 (w.heap.size+1+1+1) (by omega)).trans HB3.out.2.2.2.1;obtain ⟨c1,c1f,c1l⟩:=box_cells jR h51;obtain ⟨c3,c3f,c3l⟩:=box_cells jR h53;obtain ⟨c4,c4f,c4l⟩:=box_cells jR h54;have H53:=jH h53;have HB5:=jH (HB3.out.1.trans hb5);have HK5:=jH hk5;have HZ5:=jH hz5;clear hW5 hk5 hz5 hb5 h51 h53 h54 g0 g1
 go_region
 refine then_named ?_;intro W7 hW7;obtain ⟨h4,h5,h6,h7⟩:=set10d H53.out _ _ _ _ _ _ _ _ _ _ W7 hW7;obtain ⟨d1,d2,d3⟩:=box_cells jR h4;have hb7:jB w W7:=HB5.out.trans (h7 w.heap.size (by omega));clear hW7 c1 c1f c1l c3 c3f c3l c4 c4f c4l h4;go_wp2
 exact bodyPost_ret (v:=.tuple #[.agg #[.slice A3 (putS x.nd.smp (rs:Nat) a.smp).length c3',.slice x.pA x.nd.past.length x.pc,.int .i64 x.nd.pol.mn,.int .i64 x.nd.pol.mx,.int .i64 x.nd.pol.tg,.int .i64 x.nd.pol.tol,.int .i64 x.nd.pol.win,.int .i64 x.nd.pol.hold,.bool x.nd.ruled,.int .i64 ((x.nd.ver:Int)+1)],.int .i64 0,.int .i64 ((x.nd.smp.length:Int) - ((putS x.nd.smp (rs:Nat) a.smp).length:Int))]) (by simp [results,Tryz.results181,go_sem,d1]) rfl (fin17 (W5:=W5) (key:=x.key) (y:={ x.nd with smp:=putS x.nd.smp (rs:Nat) a.smp,ver:=x.nd.ver+1 }) (sA:=A3) (sc:=c3') (pA:=x.pA) (pc:=x.pc) HB5.out (HLD.out W5 HK5.out HZ5.out) (fun k hk=>h5 k hk) h6 hb7 HP.out)
end
end Go.Proofs.YtkcdhaallnhhmaaGreat
