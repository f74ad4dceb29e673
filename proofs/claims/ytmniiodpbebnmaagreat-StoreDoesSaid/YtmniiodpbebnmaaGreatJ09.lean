/- Part 9 of the proof. -/
import Derived.Test.YtmniiodpbebnmaaGreatJ08
import Derived.Deep.DeepCutAuto
namespace Go.Proofs.YtmniiodpbebnmaaGreat
set_option linter.unusedSimpArgs false
set_option linter.unusedVariables false
set_option linter.unusedSectionVars false
set_option maxRecDepth 100000
set_option maxHeartbeats 16000000
section
open Go.RowKit Go.Lib Go.Sort
theorem j1R (P:Nat→Prop) (c:Cfg) (rs rh:Nat) (x:It) (a:c0W) (w:World) (hP:∀b,w.heap.size≤b→P b) (hx:b0K P w x) (hrs:c.sa=(rs:Nat)) (hrh:c.hi=(rh:Nat)) (hr:b0G x.nd.smp) (hl:x.nd.smp.length≤rs) (hl2:x.nd.past.length≤rh) (hrs1:1≤rs) (hrs2:rs≤256) (hrh1:1≤rh) (hrh2:rh≤64) (hv:x.nd.ver≤1000000) (h0:a.kind=1) (h1:a0Q x.nd.smp a.smp.1=0) :
 Calls Tryz.prog 184 #[.agg #[.int .i64 c.st,.int .i64 c.sa,.int .i64 c.lo,.int .i64 c.hi],.agg (d0X x).toArray,.agg (e0Q a).toArray] w (e0R P w x.key x.nd 0 0):=by
 rw [show (d0X x).toArray=#[.slice x.sA x.nd.smp.length x.sc,.slice x.pA x.nd.past.length x.pc,.int .i64 x.nd.pol.mn,.int .i64 x.nd.pol.mx,.int .i64 x.nd.pol.tg,.int .i64 x.nd.pol.tol,.int .i64 x.nd.pol.win,.int .i64 x.nd.pol.hold,.bool x.nd.ruled,.int .i64 (x.nd.ver:Nat)] from rfl,show (e0Q a).toArray=#[.int .i64 a.kind,.int .i64 a.smp.1,.int .i64 a.smp.2,.int .i64 a.pol.mn,.int .i64 a.pol.mx,.int .i64 a.pol.tg,.int .i64 a.pol.tol,.int .i64 a.pol.win,.int .i64 a.pol.hold,.int .i64 a.adv.tick,.int .i64 a.adv.load,.int .i64 a.adv.want,.int .i64 a.adv.repl,.int .i64 a.adv.why] from rfl]
 have HX:=jH hx;have HP:=jH hP;clear hx hP;have q0:(a.kind == 0)=false:=by simp [h0]
 have q1:(a.kind == 1)=true:=by simpa using h0
 clear h0;have hvw:IntKind.i64.wrap ((x.nd.ver:Int)+1)=(x.nd.ver:Int)+1:=by rw [IntKind.wrap_i64];omega
 have hple:=e0S x.nd.smp a.smp.1;have HT:=jH (fun (W:World) (hb:jB w W)=>s0B _ x.nd.smp a.smp.1 W (HX.out.1.1.below hb) (o0R hr _) (by omega));obtain ⟨m,hm⟩:∃m,m=x.nd.smp.drop (a0Q x.nd.smp a.smp.1):=⟨_,rfl⟩;rw [←hm] at HT;have hml:(m.length:Int)=(x.nd.smp.length:Int) - (a0Q x.nd.smp a.smp.1:Nat):=by rw [hm];simp;omega
 generalize a0Q x.nd.smp a.smp.1=p at *;have hqe:((m.length:Int) == (x.nd.smp.length:Int))=true:=by simp;omega
 clear hm hml h1
 go_enter Tryz.func184,Tryz.ntmps184
 go_wp2_with (first
  | (go_at_call 228
     refine a0B ?_;intro W1 hW1;obtain ⟨k0,k1,k2,k3,k4,hs,hb⟩:=e0N w _ _ _ _ _ W1 hW1;clear hW1;refine (HT.out W1 hb).mono ?_;rintro e w3 ⟨A3,c3',rfl,hr3,hb3⟩;obtain ⟨a0,a0f,a0l,a0h⟩:=b0F hb3 k0;obtain ⟨a1,a1f,a1l,a1h⟩:=b0F hb3 k1;obtain ⟨a2,a2f,a2l,a2h⟩:=b0F hb3 k2;obtain ⟨a3,a3f,a3l,a3h⟩:=b0F hb3 k3;obtain ⟨a4,a4f,a4l,a4h⟩:=b0F hb3 k4;have hbb:=a0D hb hb3;have HB3:=jH (And.intro hbb (And.intro a1h (And.intro a2h (And.intro a3h a4h))))
     have hsz:=hb3.size;have HLD:=jH (show ∀W5:World,(∀i,i≠w.heap.size+1+1+1+1→W5.heap[i]?=w3.heap[i]?)→W5.heap.size=w3.heap.size→b0K (fun b=>P b∧(b<w.heap.size∨w.heap.size+5≤b)) W5 ⟨x.key,x.sA,x.sc,x.pA,x.pc,x.nd⟩ from fun W5 hk hz=>⟨((HX.out.old hbb).1).keepP (Nat.le_of_eq hz.symm) (fun b hb' _=>hk b (by omega)),((HX.out.old hbb).2).keepP (Nat.le_of_eq hz.symm) (fun b hb' _=>hk b (by omega))⟩)
     clear hr3;clear k0 k1 k2 k3 k4 hb hb3 hbb a0h a1h a2h a3h a4h))
 refine a0H ?_;intro W7 hW7;have h53:(w3.setCell ⟨w.heap.size+1+1+1+1,0,none⟩ (.slice A3 m.length c3')).heap[w.heap.size+1+1+1]?=_:=(Below.heap_setCell _ _ _ _ (show w.heap.size+1+1+1≠w.heap.size+1+1+1+1 by omega)).trans (HB3.out.2.2.2.1);have hk5:∀i,i≠w.heap.size+1+1+1+1→(w3.setCell ⟨w.heap.size+1+1+1+1,0,none⟩ (.slice A3 m.length c3')).heap[i]?=w3.heap[i]?:=fun i hi=>(Below.heap_setCell _ _ _ _ hi).trans (rfl)
 have hb5:Below w.heap.size w3 (w3.setCell ⟨w.heap.size+1+1+1+1,0,none⟩ (.slice A3 m.length c3')):=((Below.refl w.heap.size w3).setCell (by simp;omega) _);have hz5:(w3.setCell ⟨w.heap.size+1+1+1+1,0,none⟩ (.slice A3 m.length c3')).heap.size=w3.heap.size:=by simp [World.setCell]
 have hld:=HLD.out (w3.setCell ⟨w.heap.size+1+1+1+1,0,none⟩ (.slice A3 m.length c3')) hk5 hz5;generalize (w3.setCell ⟨w.heap.size+1+1+1+1,0,none⟩ (.slice A3 m.length c3'))=W5 at hW7 h53 hk5 hb5 hz5 hld;obtain ⟨h4,h5,h6,h7⟩:=t0G h53 _ _ _ _ _ _ _ _ _ _ W7 hW7;obtain ⟨d1,d2,d3⟩:=a0A jR h4;have hb7:jB w W7:=(HB3.out.1.trans hb5).trans (h7 w.heap.size (by omega));clear hW7;exact bodyPost_ret (v:=.tuple #[.agg #[.slice x.sA x.nd.smp.length x.sc,.slice x.pA x.nd.past.length x.pc,.int .i64 x.nd.pol.mn,.int .i64 x.nd.pol.mx,.int .i64 x.nd.pol.tg,.int .i64 x.nd.pol.tol,.int .i64 x.nd.pol.win,.int .i64 x.nd.pol.hold,.bool x.nd.ruled,.int .i64 (x.nd.ver:Nat)],.int .i64 0,.int .i64 0]) (by simp [results,Tryz.results184,go_sem,d1]) rfl (x0L (W5:=W5) (key:=x.key) (y:=x.nd) (HB3.out.1.trans hb5) hld (fun k hk=>h5 k hk) h6 hb7 HP.out)
theorem l1E (P:Nat→Prop) (c:Cfg) (rs rh:Nat) (x:It) (a:c0W) (w:World) (hP:∀b,w.heap.size≤b→P b) (hx:b0K P w x) (hrs:c.sa=(rs:Nat)) (hrh:c.hi=(rh:Nat)) (hr:b0G x.nd.smp) (hl:x.nd.smp.length≤rs) (hl2:x.nd.past.length≤rh) (hrs1:1≤rs) (hrs2:rs≤256) (hrh1:1≤rh) (hrh2:rh≤64) (hv:x.nd.ver≤1000000) (h0:a.kind=1) (h1:0<a0Q x.nd.smp a.smp.1) :
 Calls Tryz.prog 184 #[.agg #[.int .i64 c.st,.int .i64 c.sa,.int .i64 c.lo,.int .i64 c.hi],.agg (d0X x).toArray,.agg (e0Q a).toArray] w (e0R P w x.key { x.nd with smp:=x.nd.smp.drop (a0Q x.nd.smp a.smp.1),ver:=x.nd.ver+1 } 0 (a0Q x.nd.smp a.smp.1:Nat)):=by
 rw [show (d0X x).toArray=#[.slice x.sA x.nd.smp.length x.sc,.slice x.pA x.nd.past.length x.pc,.int .i64 x.nd.pol.mn,.int .i64 x.nd.pol.mx,.int .i64 x.nd.pol.tg,.int .i64 x.nd.pol.tol,.int .i64 x.nd.pol.win,.int .i64 x.nd.pol.hold,.bool x.nd.ruled,.int .i64 (x.nd.ver:Nat)] from rfl,show (e0Q a).toArray=#[.int .i64 a.kind,.int .i64 a.smp.1,.int .i64 a.smp.2,.int .i64 a.pol.mn,.int .i64 a.pol.mx,.int .i64 a.pol.tg,.int .i64 a.pol.tol,.int .i64 a.pol.win,.int .i64 a.pol.hold,.int .i64 a.adv.tick,.int .i64 a.adv.load,.int .i64 a.adv.want,.int .i64 a.adv.repl,.int .i64 a.adv.why] from rfl]
 have HX:=jH hx;have HP:=jH hP;clear hx hP;have q0:(a.kind == 0)=false:=by simp [h0]
 have q1:(a.kind == 1)=true:=by simpa using h0
 clear h0;have hvw:IntKind.i64.wrap ((x.nd.ver:Int)+1)=(x.nd.ver:Int)+1:=by rw [IntKind.wrap_i64];omega
 have hple:=e0S x.nd.smp a.smp.1;have HT:=jH (fun (W:World) (hb:jB w W)=>s0B _ x.nd.smp a.smp.1 W (HX.out.1.1.below hb) (o0R hr _) (by omega));obtain ⟨m,hm⟩:∃m,m=x.nd.smp.drop (a0Q x.nd.smp a.smp.1):=⟨_,rfl⟩;rw [←hm] at HT ⊢;have hml:(m.length:Int)=(x.nd.smp.length:Int) - (a0Q x.nd.smp a.smp.1:Nat):=by rw [hm];simp;omega
 generalize a0Q x.nd.smp a.smp.1=p at *;have hqe:((m.length:Int) == (x.nd.smp.length:Int))=false:=by simp;omega
 have hwl:IntKind.i64.wrap ((x.nd.smp.length:Int) - (m.length:Int))=(p:Nat):=by rw [IntKind.wrap_i64];omega
 clear hm hml h1
 go_enter Tryz.func184,Tryz.ntmps184
 go_wp2_with (first
  | (go_at_call 228
     refine a0B ?_;intro W1 hW1;obtain ⟨k0,k1,k2,k3,k4,hs,hb⟩:=e0N w _ _ _ _ _ W1 hW1;clear hW1;refine (HT.out W1 hb).mono ?_;rintro e w3 ⟨A3,c3',rfl,hr3,hb3⟩;obtain ⟨a0,a0f,a0l,a0h⟩:=b0F hb3 k0;obtain ⟨a1,a1f,a1l,a1h⟩:=b0F hb3 k1;obtain ⟨a2,a2f,a2l,a2h⟩:=b0F hb3 k2;obtain ⟨a3,a3f,a3l,a3h⟩:=b0F hb3 k3;obtain ⟨a4,a4f,a4l,a4h⟩:=b0F hb3 k4;have hbb:=a0D hb hb3;have HB3:=jH (And.intro hbb (And.intro a1h (And.intro a2h (And.intro a3h a4h))))
     have hsz:=hb3.size;have HLD:=jH (show ∀W5:World,(∀i,i≠w.heap.size+1+1+1+1→W5.heap[i]?=w3.heap[i]?)→W5.heap.size=w3.heap.size→b0K (fun b=>P b∧(b<w.heap.size∨w.heap.size+5≤b)) W5 ⟨x.key,A3,c3',x.pA,x.pc,{ x.nd with smp:=m,ver:=x.nd.ver+1 }⟩ from fun W5 hk hz=>⟨(hr3.imp (fun b hb'=>⟨HP.out b (by omega),.inr (by omega)⟩)).keepP (Nat.le_of_eq hz.symm) (fun b hb' _=>hk b (by omega)),((HX.out.old hbb).2).keepP (Nat.le_of_eq hz.symm) (fun b hb' _=>hk b (by omega))⟩)
     clear hr3;clear k0 k1 k2 k3 k4 hb hb3 hbb a0h a1h a2h a3h a4h))
 refine a0I ?_;intro W5 hW5;have g0:(w3.setCell ⟨w.heap.size+1+1+1+1,0,none⟩ (.slice A3 m.length c3')).heap[w.heap.size+1+1+1+1]?=some (.cells #[.slice A3 m.length c3',.slice x.pA x.nd.past.length x.pc,.int .i64 x.nd.pol.mn,.int .i64 x.nd.pol.mx,.int .i64 x.nd.pol.tg,.int .i64 x.nd.pol.tol,.int .i64 x.nd.pol.win,.int .i64 x.nd.pol.hold,.bool x.nd.ruled,.int .i64 (x.nd.ver:Nat)] 128 (0,0)):=a0E (i:=0) (v:=.slice A3 m.length c3') HB3.out.2.2.2.2
 have g1:((w3.setCell ⟨w.heap.size+1+1+1+1,0,none⟩ (.slice A3 m.length c3')).setCell ⟨w.heap.size+1+1+1+1,9,none⟩ (.int .i64 ((x.nd.ver:Int)+1))).heap[w.heap.size+1+1+1+1]?=some (.cells #[.slice A3 m.length c3',.slice x.pA x.nd.past.length x.pc,.int .i64 x.nd.pol.mn,.int .i64 x.nd.pol.mx,.int .i64 x.nd.pol.tg,.int .i64 x.nd.pol.tol,.int .i64 x.nd.pol.win,.int .i64 x.nd.pol.hold,.bool x.nd.ruled,.int .i64 ((x.nd.ver:Int)+1)] 128 (0,0)):=a0E (i:=9) (v:=.int .i64 ((x.nd.ver:Int)+1)) g0
 have hk5:∀i,i≠w.heap.size+1+1+1+1→W5.heap[i]?=w3.heap[i]?:=by rw [hW5];exact fun i hi=>(Below.heap_setCell _ _ _ _ hi).trans ((Below.heap_setCell _ _ _ _ hi).trans (rfl))
 have hz5:W5.heap.size=w3.heap.size:=by rw [hW5];simp [World.setCell]
 have hb5:Below w.heap.size w3 W5:=by rw [hW5];exact (((Below.refl w.heap.size w3).setCell (by simp;omega) _).setCell (by simp;omega) _)
 have h54:W5.heap[w.heap.size+1+1+1+1]?=some (.cells #[.slice A3 m.length c3',.slice x.pA x.nd.past.length x.pc,.int .i64 x.nd.pol.mn,.int .i64 x.nd.pol.mx,.int .i64 x.nd.pol.tg,.int .i64 x.nd.pol.tol,.int .i64 x.nd.pol.win,.int .i64 x.nd.pol.hold,.bool x.nd.ruled,.int .i64 ((x.nd.ver:Int)+1)] 128 (0,0)):=by rw [hW5];exact g1
 have h51:=(hk5 (w.heap.size+1) (by omega)).trans HB3.out.2.1;have h53:=(hk5 (w.heap.size+1+1+1) (by omega)).trans HB3.out.2.2.2.1;obtain ⟨c1,c1f,c1l⟩:=a0A jR h51;obtain ⟨c3,c3f,c3l⟩:=a0A jR h53;obtain ⟨c4,c4f,c4l⟩:=a0A jR h54;have H53:=jH h53;have HB5:=jH (HB3.out.1.trans hb5);have HK5:=jH hk5;have HZ5:=jH hz5;clear hW5 hk5 hz5 hb5 h51 h53 h54 g0 g1
 go_region
 refine a0T ?_;intro W7 hW7;obtain ⟨h4,h5,h6,h7⟩:=c1M H53.out _ _ _ _ _ _ _ _ _ _ W7 hW7;obtain ⟨d1,d2,d3⟩:=a0A jR h4;have hb7:jB w W7:=HB5.out.trans (h7 w.heap.size (by omega));clear hW7 c1 c1f c1l c3 c3f c3l c4 c4f c4l h4;go_wp2
 exact bodyPost_ret (v:=.tuple #[.agg #[.slice A3 m.length c3',.slice x.pA x.nd.past.length x.pc,.int .i64 x.nd.pol.mn,.int .i64 x.nd.pol.mx,.int .i64 x.nd.pol.tg,.int .i64 x.nd.pol.tol,.int .i64 x.nd.pol.win,.int .i64 x.nd.pol.hold,.bool x.nd.ruled,.int .i64 ((x.nd.ver:Int)+1)],.int .i64 0,.int .i64 (p:Nat)]) (by simp [results,Tryz.results184,go_sem,d1]) rfl (x0L (W5:=W5) (key:=x.key) (y:={ x.nd with smp:=m,ver:=x.nd.ver+1 }) (sA:=A3) (sc:=c3') (pA:=x.pA) (pc:=x.pc) HB5.out (HLD.out W5 HK5.out HZ5.out) (fun k hk=>h5 k hk) h6 hb7 HP.out)
theorem p1N (P:Nat→Prop) (c:Cfg) (rs rh:Nat) (x:It) (a:c0W) (w:World) (hP:∀b,w.heap.size≤b→P b) (hx:b0K P w x) (hrs:c.sa=(rs:Nat)) (hrh:c.hi=(rh:Nat)) (hr:b0G x.nd.smp) (hl:x.nd.smp.length≤rs) (hl2:x.nd.past.length≤rh) (hrs1:1≤rs) (hrs2:rs≤256) (hrh1:1≤rh) (hrh2:rh≤64) (hv:x.nd.ver≤1000000) (h0:a.kind=2) (h1:d0G a.pol=false) :
 Calls Tryz.prog 184 #[.agg #[.int .i64 c.st,.int .i64 c.sa,.int .i64 c.lo,.int .i64 c.hi],.agg (d0X x).toArray,.agg (e0Q a).toArray] w (e0R P w x.key x.nd 7 0):=by
 rw [show (d0X x).toArray=#[.slice x.sA x.nd.smp.length x.sc,.slice x.pA x.nd.past.length x.pc,.int .i64 x.nd.pol.mn,.int .i64 x.nd.pol.mx,.int .i64 x.nd.pol.tg,.int .i64 x.nd.pol.tol,.int .i64 x.nd.pol.win,.int .i64 x.nd.pol.hold,.bool x.nd.ruled,.int .i64 (x.nd.ver:Nat)] from rfl,show (e0Q a).toArray=#[.int .i64 a.kind,.int .i64 a.smp.1,.int .i64 a.smp.2,.int .i64 a.pol.mn,.int .i64 a.pol.mx,.int .i64 a.pol.tg,.int .i64 a.pol.tol,.int .i64 a.pol.win,.int .i64 a.pol.hold,.int .i64 a.adv.tick,.int .i64 a.adv.load,.int .i64 a.adv.want,.int .i64 a.adv.repl,.int .i64 a.adv.why] from rfl]
 have HX:=jH hx;have HP:=jH hP;clear hx hP;have q0:(a.kind == 0)=false:=by simp [h0]
 have q1:(a.kind == 1)=false:=by simp [h0]
 have q2:(a.kind == 2)=true:=by simpa using h0
 clear h0;have hvw:IntKind.i64.wrap ((x.nd.ver:Int)+1)=(x.nd.ver:Int)+1:=by rw [IntKind.wrap_i64];omega
 have HR:=jH (c0K a.pol);rw [h1] at HR;unfold b0W at HR;have hwl:IntKind.i64.wrap ((x.nd.smp.length:Int) - (x.nd.smp.length:Int))=0:=by rw [IntKind.wrap_i64];omega
 clear h1
 go_enter Tryz.func184,Tryz.ntmps184
 go_wp2_with (first
  | (go_at_call 92
     refine a0B ?_;intro W1 hW1;obtain ⟨k0,k1,k2,k3,k4,hs,hb⟩:=e0N w _ _ _ _ _ W1 hW1;clear hW1;refine (HR.out W1).mono ?_;rintro e w3 ⟨rfl,hb3⟩;obtain ⟨a0,a0f,a0l,a0h⟩:=b0F hb3 k0;obtain ⟨a1,a1f,a1l,a1h⟩:=b0F hb3 k1;obtain ⟨a2,a2f,a2l,a2h⟩:=b0F hb3 k2;obtain ⟨a3,a3f,a3l,a3h⟩:=b0F hb3 k3;obtain ⟨a4,a4f,a4l,a4h⟩:=b0F hb3 k4;have hbb:=a0D hb hb3;have HB3:=jH (And.intro hbb (And.intro a1h (And.intro a2h (And.intro a3h a4h))))
     have hsz:=hb3.size;have HLD:=jH (show ∀W5:World,(∀i,i≠w.heap.size+1+1+1+1→W5.heap[i]?=w3.heap[i]?)→W5.heap.size=w3.heap.size→b0K (fun b=>P b∧(b<w.heap.size∨w.heap.size+5≤b)) W5 ⟨x.key,x.sA,x.sc,x.pA,x.pc,x.nd⟩ from fun W5 hk hz=>⟨((HX.out.old hbb).1).keepP (Nat.le_of_eq hz.symm) (fun b hb' _=>hk b (by omega)),((HX.out.old hbb).2).keepP (Nat.le_of_eq hz.symm) (fun b hb' _=>hk b (by omega))⟩)
     clear k0 k1 k2 k3 k4 hb hb3 hbb a0h a1h a2h a3h a4h))
 refine a0H ?_;intro W7 hW7;obtain ⟨h4,h5,h6,h7⟩:=t0G HB3.out.2.2.2.1 _ _ _ _ _ _ _ _ _ _ W7 hW7;obtain ⟨d1,d2,d3⟩:=a0A jR h4;have hb7:jB w W7:=HB3.out.1.trans (h7 w.heap.size (by omega));clear hW7;exact bodyPost_ret (v:=.tuple #[.agg #[.slice x.sA x.nd.smp.length x.sc,.slice x.pA x.nd.past.length x.pc,.int .i64 x.nd.pol.mn,.int .i64 x.nd.pol.mx,.int .i64 x.nd.pol.tg,.int .i64 x.nd.pol.tol,.int .i64 x.nd.pol.win,.int .i64 x.nd.pol.hold,.bool x.nd.ruled,.int .i64 (x.nd.ver:Nat)],.int .i64 7,.int .i64 0]) (by simp [results,Tryz.results184,go_sem,d1]) rfl (x0L (W5:=w3) (key:=x.key) (y:=x.nd) HB3.out.1 (HLD.out w3 (fun _ _=>rfl) rfl) (fun k hk=>h5 k hk) h6 hb7 HP.out)
theorem m1W (P:Nat→Prop) (c:Cfg) (rs rh:Nat) (x:It) (a:c0W) (w:World) (hP:∀b,w.heap.size≤b→P b) (hx:b0K P w x) (hrs:c.sa=(rs:Nat)) (hrh:c.hi=(rh:Nat)) (hr:b0G x.nd.smp) (hl:x.nd.smp.length≤rs) (hl2:x.nd.past.length≤rh) (hrs1:1≤rs) (hrs2:rs≤256) (hrh1:1≤rh) (hrh2:rh≤64) (hv:x.nd.ver≤1000000) (h0:a.kind=2) (h1:d0G a.pol=true) :
 Calls Tryz.prog 184 #[.agg #[.int .i64 c.st,.int .i64 c.sa,.int .i64 c.lo,.int .i64 c.hi],.agg (d0X x).toArray,.agg (e0Q a).toArray] w (e0R P w x.key { x.nd with pol:=a.pol,ruled:=true,ver:=x.nd.ver+1 } 0 0):=by
 rw [show (d0X x).toArray=#[.slice x.sA x.nd.smp.length x.sc,.slice x.pA x.nd.past.length x.pc,.int .i64 x.nd.pol.mn,.int .i64 x.nd.pol.mx,.int .i64 x.nd.pol.tg,.int .i64 x.nd.pol.tol,.int .i64 x.nd.pol.win,.int .i64 x.nd.pol.hold,.bool x.nd.ruled,.int .i64 (x.nd.ver:Nat)] from rfl,show (e0Q a).toArray=#[.int .i64 a.kind,.int .i64 a.smp.1,.int .i64 a.smp.2,.int .i64 a.pol.mn,.int .i64 a.pol.mx,.int .i64 a.pol.tg,.int .i64 a.pol.tol,.int .i64 a.pol.win,.int .i64 a.pol.hold,.int .i64 a.adv.tick,.int .i64 a.adv.load,.int .i64 a.adv.want,.int .i64 a.adv.repl,.int .i64 a.adv.why] from rfl]
 have HX:=jH hx;have HP:=jH hP;clear hx hP;have q0:(a.kind == 0)=false:=by simp [h0]
 have q1:(a.kind == 1)=false:=by simp [h0]
 have q2:(a.kind == 2)=true:=by simpa using h0
 clear h0;have hvw:IntKind.i64.wrap ((x.nd.ver:Int)+1)=(x.nd.ver:Int)+1:=by rw [IntKind.wrap_i64];omega
 have HR:=jH (c0K a.pol);rw [h1] at HR;unfold b0W at HR;have hwl:IntKind.i64.wrap ((x.nd.smp.length:Int) - (x.nd.smp.length:Int))=0:=by rw [IntKind.wrap_i64];omega
 clear h1
 go_enter Tryz.func184,Tryz.ntmps184
 go_wp2_with (first
  | (go_at_call 92
     refine a0B ?_;intro W1 hW1;obtain ⟨k0,k1,k2,k3,k4,hs,hb⟩:=e0N w _ _ _ _ _ W1 hW1;clear hW1;refine (HR.out W1).mono ?_;rintro e w3 ⟨rfl,hb3⟩;obtain ⟨a0,a0f,a0l,a0h⟩:=b0F hb3 k0;obtain ⟨a1,a1f,a1l,a1h⟩:=b0F hb3 k1;obtain ⟨a2,a2f,a2l,a2h⟩:=b0F hb3 k2;obtain ⟨a3,a3f,a3l,a3h⟩:=b0F hb3 k3;obtain ⟨a4,a4f,a4l,a4h⟩:=b0F hb3 k4;have hbb:=a0D hb hb3;have HB3:=jH (And.intro hbb (And.intro a1h (And.intro a2h (And.intro a3h a4h))))
     have hsz:=hb3.size;have HLD:=jH (show ∀W5:World,(∀i,i≠w.heap.size+1+1+1+1→W5.heap[i]?=w3.heap[i]?)→W5.heap.size=w3.heap.size→b0K (fun b=>P b∧(b<w.heap.size∨w.heap.size+5≤b)) W5 ⟨x.key,x.sA,x.sc,x.pA,x.pc,{ x.nd with pol:=a.pol,ruled:=true,ver:=x.nd.ver+1 }⟩ from fun W5 hk hz=>⟨((HX.out.old hbb).1).keepP (Nat.le_of_eq hz.symm) (fun b hb' _=>hk b (by omega)),((HX.out.old hbb).2).keepP (Nat.le_of_eq hz.symm) (fun b hb' _=>hk b (by omega))⟩)
     clear k0 k1 k2 k3 k4 hb hb3 hbb a0h a1h a2h a3h a4h))
 refine a0I ?_;intro W5 hW5;have g0:(w3.setCell ⟨w.heap.size+1+1+1+1,2,none⟩ (.int .i64 a.pol.mn)).heap[w.heap.size+1+1+1+1]?=some (.cells #[.slice x.sA x.nd.smp.length x.sc,.slice x.pA x.nd.past.length x.pc,.int .i64 a.pol.mn,.int .i64 x.nd.pol.mx,.int .i64 x.nd.pol.tg,.int .i64 x.nd.pol.tol,.int .i64 x.nd.pol.win,.int .i64 x.nd.pol.hold,.bool x.nd.ruled,.int .i64 (x.nd.ver:Nat)] 128 (0,0)):=a0E (i:=2) (v:=.int .i64 a.pol.mn) HB3.out.2.2.2.2
 have g1:((w3.setCell ⟨w.heap.size+1+1+1+1,2,none⟩ (.int .i64 a.pol.mn)).setCell ⟨w.heap.size+1+1+1+1,3,none⟩ (.int .i64 a.pol.mx)).heap[w.heap.size+1+1+1+1]?=some (.cells #[.slice x.sA x.nd.smp.length x.sc,.slice x.pA x.nd.past.length x.pc,.int .i64 a.pol.mn,.int .i64 a.pol.mx,.int .i64 x.nd.pol.tg,.int .i64 x.nd.pol.tol,.int .i64 x.nd.pol.win,.int .i64 x.nd.pol.hold,.bool x.nd.ruled,.int .i64 (x.nd.ver:Nat)] 128 (0,0)):=a0E (i:=3) (v:=.int .i64 a.pol.mx) g0
 have g2:(((w3.setCell ⟨w.heap.size+1+1+1+1,2,none⟩ (.int .i64 a.pol.mn)).setCell ⟨w.heap.size+1+1+1+1,3,none⟩ (.int .i64 a.pol.mx)).setCell ⟨w.heap.size+1+1+1+1,4,none⟩ (.int .i64 a.pol.tg)).heap[w.heap.size+1+1+1+1]?=some (.cells #[.slice x.sA x.nd.smp.length x.sc,.slice x.pA x.nd.past.length x.pc,.int .i64 a.pol.mn,.int .i64 a.pol.mx,.int .i64 a.pol.tg,.int .i64 x.nd.pol.tol,.int .i64 x.nd.pol.win,.int .i64 x.nd.pol.hold,.bool x.nd.ruled,.int .i64 (x.nd.ver:Nat)] 128 (0,0)):=a0E (i:=4) (v:=.int .i64 a.pol.tg) g1
 have g3:((((w3.setCell ⟨w.heap.size+1+1+1+1,2,none⟩ (.int .i64 a.pol.mn)).setCell ⟨w.heap.size+1+1+1+1,3,none⟩ (.int .i64 a.pol.mx)).setCell ⟨w.heap.size+1+1+1+1,4,none⟩ (.int .i64 a.pol.tg)).setCell ⟨w.heap.size+1+1+1+1,5,none⟩ (.int .i64 a.pol.tol)).heap[w.heap.size+1+1+1+1]?=some (.cells #[.slice x.sA x.nd.smp.length x.sc,.slice x.pA x.nd.past.length x.pc,.int .i64 a.pol.mn,.int .i64 a.pol.mx,.int .i64 a.pol.tg,.int .i64 a.pol.tol,.int .i64 x.nd.pol.win,.int .i64 x.nd.pol.hold,.bool x.nd.ruled,.int .i64 (x.nd.ver:Nat)] 128 (0,0)):=a0E (i:=5) (v:=.int .i64 a.pol.tol) g2
 have g4:(((((w3.setCell ⟨w.heap.size+1+1+1+1,2,none⟩ (.int .i64 a.pol.mn)).setCell ⟨w.heap.size+1+1+1+1,3,none⟩ (.int .i64 a.pol.mx)).setCell ⟨w.heap.size+1+1+1+1,4,none⟩ (.int .i64 a.pol.tg)).setCell ⟨w.heap.size+1+1+1+1,5,none⟩ (.int .i64 a.pol.tol)).setCell ⟨w.heap.size+1+1+1+1,6,none⟩ (.int .i64 a.pol.win)).heap[w.heap.size+1+1+1+1]?=some (.cells #[.slice x.sA x.nd.smp.length x.sc,.slice x.pA x.nd.past.length x.pc,.int .i64 a.pol.mn,.int .i64 a.pol.mx,.int .i64 a.pol.tg,.int .i64 a.pol.tol,.int .i64 a.pol.win,.int .i64 x.nd.pol.hold,.bool x.nd.ruled,.int .i64 (x.nd.ver:Nat)] 128 (0,0)):=a0E (i:=6) (v:=.int .i64 a.pol.win) g3
 have g5:((((((w3.setCell ⟨w.heap.size+1+1+1+1,2,none⟩ (.int .i64 a.pol.mn)).setCell ⟨w.heap.size+1+1+1+1,3,none⟩ (.int .i64 a.pol.mx)).setCell ⟨w.heap.size+1+1+1+1,4,none⟩ (.int .i64 a.pol.tg)).setCell ⟨w.heap.size+1+1+1+1,5,none⟩ (.int .i64 a.pol.tol)).setCell ⟨w.heap.size+1+1+1+1,6,none⟩ (.int .i64 a.pol.win)).setCell ⟨w.heap.size+1+1+1+1,7,none⟩ (.int .i64 a.pol.hold)).heap[w.heap.size+1+1+1+1]?=some (.cells #[.slice x.sA x.nd.smp.length x.sc,.slice x.pA x.nd.past.length x.pc,.int .i64 a.pol.mn,.int .i64 a.pol.mx,.int .i64 a.pol.tg,.int .i64 a.pol.tol,.int .i64 a.pol.win,.int .i64 a.pol.hold,.bool x.nd.ruled,.int .i64 (x.nd.ver:Nat)] 128 (0,0)):=a0E (i:=7) (v:=.int .i64 a.pol.hold) g4
 have g6:(((((((w3.setCell ⟨w.heap.size+1+1+1+1,2,none⟩ (.int .i64 a.pol.mn)).setCell ⟨w.heap.size+1+1+1+1,3,none⟩ (.int .i64 a.pol.mx)).setCell ⟨w.heap.size+1+1+1+1,4,none⟩ (.int .i64 a.pol.tg)).setCell ⟨w.heap.size+1+1+1+1,5,none⟩ (.int .i64 a.pol.tol)).setCell ⟨w.heap.size+1+1+1+1,6,none⟩ (.int .i64 a.pol.win)).setCell ⟨w.heap.size+1+1+1+1,7,none⟩ (.int .i64 a.pol.hold)).setCell ⟨w.heap.size+1+1+1+1,8,none⟩ (.bool true)).heap[w.heap.size+1+1+1+1]?=some (.cells #[.slice x.sA x.nd.smp.length x.sc,.slice x.pA x.nd.past.length x.pc,.int .i64 a.pol.mn,.int .i64 a.pol.mx,.int .i64 a.pol.tg,.int .i64 a.pol.tol,.int .i64 a.pol.win,.int .i64 a.pol.hold,.bool true,.int .i64 (x.nd.ver:Nat)] 128 (0,0)):=a0E (i:=8) (v:=.bool true) g5
 have g7:((((((((w3.setCell ⟨w.heap.size+1+1+1+1,2,none⟩ (.int .i64 a.pol.mn)).setCell ⟨w.heap.size+1+1+1+1,3,none⟩ (.int .i64 a.pol.mx)).setCell ⟨w.heap.size+1+1+1+1,4,none⟩ (.int .i64 a.pol.tg)).setCell ⟨w.heap.size+1+1+1+1,5,none⟩ (.int .i64 a.pol.tol)).setCell ⟨w.heap.size+1+1+1+1,6,none⟩ (.int .i64 a.pol.win)).setCell ⟨w.heap.size+1+1+1+1,7,none⟩ (.int .i64 a.pol.hold)).setCell ⟨w.heap.size+1+1+1+1,8,none⟩ (.bool true)).setCell ⟨w.heap.size+1+1+1+1,9,none⟩ (.int .i64 ((x.nd.ver:Int)+1))).heap[w.heap.size+1+1+1+1]?=some (.cells #[.slice x.sA x.nd.smp.length x.sc,.slice x.pA x.nd.past.length x.pc,.int .i64 a.pol.mn,.int .i64 a.pol.mx,.int .i64 a.pol.tg,.int .i64 a.pol.tol,.int .i64 a.pol.win,.int .i64 a.pol.hold,.bool true,.int .i64 ((x.nd.ver:Int)+1)] 128 (0,0)):=a0E (i:=9) (v:=.int .i64 ((x.nd.ver:Int)+1)) g6
 have hk5:∀i,i≠w.heap.size+1+1+1+1→W5.heap[i]?=w3.heap[i]?:=by rw [hW5];exact fun i hi=>(Below.heap_setCell _ _ _ _ hi).trans ((Below.heap_setCell _ _ _ _ hi).trans ((Below.heap_setCell _ _ _ _ hi).trans ((Below.heap_setCell _ _ _ _ hi).trans ((Below.heap_setCell _ _ _ _ hi).trans ((Below.heap_setCell _ _ _ _ hi).trans ((Below.heap_setCell _ _ _ _ hi).trans ((Below.heap_setCell _ _ _ _ hi).trans (rfl))))))))
 have hz5:W5.heap.size=w3.heap.size:=by rw [hW5];simp [World.setCell]
 have hb5:Below w.heap.size w3 W5:=by rw [hW5];exact (((((((((Below.refl w.heap.size w3).setCell (by simp;omega) _).setCell (by simp;omega) _).setCell (by simp;omega) _).setCell (by simp;omega) _).setCell (by simp;omega) _).setCell (by simp;omega) _).setCell (by simp;omega) _).setCell (by simp;omega) _)
 have h54:W5.heap[w.heap.size+1+1+1+1]?=some (.cells #[.slice x.sA x.nd.smp.length x.sc,.slice x.pA x.nd.past.length x.pc,.int .i64 a.pol.mn,.int .i64 a.pol.mx,.int .i64 a.pol.tg,.int .i64 a.pol.tol,.int .i64 a.pol.win,.int .i64 a.pol.hold,.bool true,.int .i64 ((x.nd.ver:Int)+1)] 128 (0,0)):=by rw [hW5];exact g7
 have h51:=(hk5 (w.heap.size+1) (by omega)).trans HB3.out.2.1;have h53:=(hk5 (w.heap.size+1+1+1) (by omega)).trans HB3.out.2.2.2.1;obtain ⟨c1,c1f,c1l⟩:=a0A jR h51;obtain ⟨c3,c3f,c3l⟩:=a0A jR h53;obtain ⟨c4,c4f,c4l⟩:=a0A jR h54;have H53:=jH h53;have HB5:=jH (HB3.out.1.trans hb5);have HK5:=jH hk5;have HZ5:=jH hz5;clear hW5 hk5 hz5 hb5 h51 h53 h54 g0 g1 g2 g3 g4 g5 g6 g7
 go_region
 refine a0T ?_;intro W7 hW7;obtain ⟨h4,h5,h6,h7⟩:=c1M H53.out _ _ _ _ _ _ _ _ _ _ W7 hW7;obtain ⟨d1,d2,d3⟩:=a0A jR h4;have hb7:jB w W7:=HB5.out.trans (h7 w.heap.size (by omega));clear hW7 c1 c1f c1l c3 c3f c3l c4 c4f c4l h4;go_wp2
 exact bodyPost_ret (v:=.tuple #[.agg #[.slice x.sA x.nd.smp.length x.sc,.slice x.pA x.nd.past.length x.pc,.int .i64 a.pol.mn,.int .i64 a.pol.mx,.int .i64 a.pol.tg,.int .i64 a.pol.tol,.int .i64 a.pol.win,.int .i64 a.pol.hold,.bool true,.int .i64 ((x.nd.ver:Int)+1)],.int .i64 0,.int .i64 0]) (by simp [results,Tryz.results184,go_sem,d1]) rfl (x0L (W5:=W5) (key:=x.key) (y:={ x.nd with pol:=a.pol,ruled:=true,ver:=x.nd.ver+1 }) (sA:=x.sA) (sc:=x.sc) (pA:=x.pA) (pc:=x.pc) HB5.out (HLD.out W5 HK5.out HZ5.out) (fun k hk=>h5 k hk) h6 hb7 HP.out)
theorem i1X (P:Nat→Prop) (c:Cfg) (rs rh:Nat) (x:It) (a:c0W) (w:World) (hP:∀b,w.heap.size≤b→P b) (hx:b0K P w x) (hrs:c.sa=(rs:Nat)) (hrh:c.hi=(rh:Nat)) (hr:b0G x.nd.smp) (hl:x.nd.smp.length≤rs) (hl2:x.nd.past.length≤rh) (hrs1:1≤rs) (hrs2:rs≤256) (hrh1:1≤rh) (hrh2:rh≤64) (hv:x.nd.ver≤1000000) (h0:a.kind=3) :
 Calls Tryz.prog 184 #[.agg #[.int .i64 c.st,.int .i64 c.sa,.int .i64 c.lo,.int .i64 c.hi],.agg (d0X x).toArray,.agg (e0Q a).toArray] w (e0R P w x.key { x.nd with past:=f0K x.nd.past rh a.adv,ver:=x.nd.ver+1 } 0 0):=by
 rw [show (d0X x).toArray=#[.slice x.sA x.nd.smp.length x.sc,.slice x.pA x.nd.past.length x.pc,.int .i64 x.nd.pol.mn,.int .i64 x.nd.pol.mx,.int .i64 x.nd.pol.tg,.int .i64 x.nd.pol.tol,.int .i64 x.nd.pol.win,.int .i64 x.nd.pol.hold,.bool x.nd.ruled,.int .i64 (x.nd.ver:Nat)] from rfl,show (e0Q a).toArray=#[.int .i64 a.kind,.int .i64 a.smp.1,.int .i64 a.smp.2,.int .i64 a.pol.mn,.int .i64 a.pol.mx,.int .i64 a.pol.tg,.int .i64 a.pol.tol,.int .i64 a.pol.win,.int .i64 a.pol.hold,.int .i64 a.adv.tick,.int .i64 a.adv.load,.int .i64 a.adv.want,.int .i64 a.adv.repl,.int .i64 a.adv.why] from rfl]
 have HX:=jH hx;have HP:=jH hP;clear hx hP;have q0:(a.kind == 0)=false:=by simp [h0]
 have q1:(a.kind == 1)=false:=by simp [h0]
 have q2:(a.kind == 2)=false:=by simp [h0]
 have q3:(a.kind == 3)=true:=by simpa using h0
 clear h0;have hvw:IntKind.i64.wrap ((x.nd.ver:Int)+1)=(x.nd.ver:Int)+1:=by rw [IntKind.wrap_i64];omega
 have hwl:IntKind.i64.wrap ((x.nd.smp.length:Int) - (x.nd.smp.length:Int))=0:=by rw [IntKind.wrap_i64];omega
 have HR:=jH (fun (W:World) (hb:jB w W)=>e1F _ x.nd.past rh a.adv W (HX.out.2.1.below hb) hl2 hrh1 (by omega));rw [show (c0V a.adv).toArray=#[.int .i64 a.adv.tick,.int .i64 a.adv.load,.int .i64 a.adv.want,.int .i64 a.adv.repl,.int .i64 a.adv.why] from rfl] at HR
 go_enter Tryz.func184,Tryz.ntmps184
 go_wp2_with (first
  | (go_at_call 229
     refine a0B ?_;intro W1 hW1;obtain ⟨k0,k1,k2,k3,k4,hs,hb⟩:=e0N w _ _ _ _ _ W1 hW1;clear hW1;refine (HR.out W1 hb).mono ?_;rintro e w3 ⟨A3,c3',rfl,hr3,hb3⟩;obtain ⟨a0,a0f,a0l,a0h⟩:=b0F hb3 k0;obtain ⟨a1,a1f,a1l,a1h⟩:=b0F hb3 k1;obtain ⟨a2,a2f,a2l,a2h⟩:=b0F hb3 k2;obtain ⟨a3,a3f,a3l,a3h⟩:=b0F hb3 k3;obtain ⟨a4,a4f,a4l,a4h⟩:=b0F hb3 k4;have hbb:=a0D hb hb3;have HB3:=jH (And.intro hbb (And.intro a1h (And.intro a2h (And.intro a3h a4h))))
     have hsz:=hb3.size;have HLD:=jH (show ∀W5:World,(∀i,i≠w.heap.size+1+1+1+1→W5.heap[i]?=w3.heap[i]?)→W5.heap.size=w3.heap.size→b0K (fun b=>P b∧(b<w.heap.size∨w.heap.size+5≤b)) W5 ⟨x.key,x.sA,x.sc,A3,c3',{ x.nd with past:=f0K x.nd.past rh a.adv,ver:=x.nd.ver+1 }⟩ from fun W5 hk hz=>⟨((HX.out.old hbb).1).keepP (Nat.le_of_eq hz.symm) (fun b hb' _=>hk b (by omega)),(hr3.imp (fun b hb'=>⟨HP.out b (by omega),.inr (by omega)⟩)).keepP (Nat.le_of_eq hz.symm) (fun b hb' _=>hk b (by omega))⟩)
     clear hr3;clear k0 k1 k2 k3 k4 hb hb3 hbb a0h a1h a2h a3h a4h))
 refine a0I ?_;intro W5 hW5;have g0:(w3.setCell ⟨w.heap.size+1+1+1+1,1,none⟩ (.slice A3 (f0K x.nd.past rh a.adv).length c3')).heap[w.heap.size+1+1+1+1]?=some (.cells #[.slice x.sA x.nd.smp.length x.sc,.slice A3 (f0K x.nd.past rh a.adv).length c3',.int .i64 x.nd.pol.mn,.int .i64 x.nd.pol.mx,.int .i64 x.nd.pol.tg,.int .i64 x.nd.pol.tol,.int .i64 x.nd.pol.win,.int .i64 x.nd.pol.hold,.bool x.nd.ruled,.int .i64 (x.nd.ver:Nat)] 128 (0,0)):=a0E (i:=1) (v:=.slice A3 (f0K x.nd.past rh a.adv).length c3') HB3.out.2.2.2.2
 have g1:((w3.setCell ⟨w.heap.size+1+1+1+1,1,none⟩ (.slice A3 (f0K x.nd.past rh a.adv).length c3')).setCell ⟨w.heap.size+1+1+1+1,9,none⟩ (.int .i64 ((x.nd.ver:Int)+1))).heap[w.heap.size+1+1+1+1]?=some (.cells #[.slice x.sA x.nd.smp.length x.sc,.slice A3 (f0K x.nd.past rh a.adv).length c3',.int .i64 x.nd.pol.mn,.int .i64 x.nd.pol.mx,.int .i64 x.nd.pol.tg,.int .i64 x.nd.pol.tol,.int .i64 x.nd.pol.win,.int .i64 x.nd.pol.hold,.bool x.nd.ruled,.int .i64 ((x.nd.ver:Int)+1)] 128 (0,0)):=a0E (i:=9) (v:=.int .i64 ((x.nd.ver:Int)+1)) g0
 have hk5:∀i,i≠w.heap.size+1+1+1+1→W5.heap[i]?=w3.heap[i]?:=by rw [hW5];exact fun i hi=>(Below.heap_setCell _ _ _ _ hi).trans ((Below.heap_setCell _ _ _ _ hi).trans (rfl))
 have hz5:W5.heap.size=w3.heap.size:=by rw [hW5];simp [World.setCell]
 have hb5:Below w.heap.size w3 W5:=by rw [hW5];exact (((Below.refl w.heap.size w3).setCell (by simp;omega) _).setCell (by simp;omega) _)
 have h54:W5.heap[w.heap.size+1+1+1+1]?=some (.cells #[.slice x.sA x.nd.smp.length x.sc,.slice A3 (f0K x.nd.past rh a.adv).length c3',.int .i64 x.nd.pol.mn,.int .i64 x.nd.pol.mx,.int .i64 x.nd.pol.tg,.int .i64 x.nd.pol.tol,.int .i64 x.nd.pol.win,.int .i64 x.nd.pol.hold,.bool x.nd.ruled,.int .i64 ((x.nd.ver:Int)+1)] 128 (0,0)):=by rw [hW5];exact g1
 have h51:=(hk5 (w.heap.size+1) (by omega)).trans HB3.out.2.1;have h53:=(hk5 (w.heap.size+1+1+1) (by omega)).trans HB3.out.2.2.2.1;obtain ⟨c1,c1f,c1l⟩:=a0A jR h51;obtain ⟨c3,c3f,c3l⟩:=a0A jR h53;obtain ⟨c4,c4f,c4l⟩:=a0A jR h54;have H53:=jH h53;have HB5:=jH (HB3.out.1.trans hb5);have HK5:=jH hk5;have HZ5:=jH hz5;clear hW5 hk5 hz5 hb5 h51 h53 h54 g0 g1
 go_region
 refine a0T ?_;intro W7 hW7;obtain ⟨h4,h5,h6,h7⟩:=c1M H53.out _ _ _ _ _ _ _ _ _ _ W7 hW7;obtain ⟨d1,d2,d3⟩:=a0A jR h4;have hb7:jB w W7:=HB5.out.trans (h7 w.heap.size (by omega));clear hW7 c1 c1f c1l c3 c3f c3l c4 c4f c4l h4;go_wp2
 exact bodyPost_ret (v:=.tuple #[.agg #[.slice x.sA x.nd.smp.length x.sc,.slice A3 (f0K x.nd.past rh a.adv).length c3',.int .i64 x.nd.pol.mn,.int .i64 x.nd.pol.mx,.int .i64 x.nd.pol.tg,.int .i64 x.nd.pol.tol,.int .i64 x.nd.pol.win,.int .i64 x.nd.pol.hold,.bool x.nd.ruled,.int .i64 ((x.nd.ver:Int)+1)],.int .i64 0,.int .i64 0]) (by simp [results,Tryz.results184,go_sem,d1]) rfl (x0L (W5:=W5) (key:=x.key) (y:={ x.nd with past:=f0K x.nd.past rh a.adv,ver:=x.nd.ver+1 }) (sA:=x.sA) (sc:=x.sc) (pA:=A3) (pc:=c3') HB5.out (HLD.out W5 HK5.out HZ5.out) (fun k hk=>h5 k hk) h6 hb7 HP.out)
structure NdOk (rs rh:Nat) (x:Nd):Prop where
 ris:b0G x.smp
 len:x.smp.length≤rs
 past:x.past.length≤rh
structure f0Y (c:Cfg) (rs rh:Nat):Prop where
 sa:c.sa=(rs:Nat)
 hi:c.hi=(rh:Nat)
 r1:1≤rs
 r2:rs≤256
 h1:1≤rh
 h2:rh≤64
theorem i1F (P:Nat→Prop) (c:Cfg) (rs rh:Nat) (x:It) (a:c0W) (w:World) (hP:∀b,w.heap.size≤b→P b) (hx:b0K P w x) (hc:f0Y c rs rh) (hn:NdOk rs rh x.nd) (hv:x.nd.ver≤1000000) :
 Calls Tryz.prog 184 #[j0Q c,.agg (d0X x).toArray,.agg (e0Q a).toArray] w (e0R P w x.key (n0P rs rh x.nd a).1 (n0P rs rh x.nd a).2.1 (n0P rs rh x.nd a).2.2):=by
 unfold n0P j0Q
 by_cases h0:a.kind=0
 · rw [if_pos h0]
   by_cases h1:g0V a.smp.1 a.smp.2=0
   · rw [if_pos h1]
     exact l1R P c rs rh x a w hP hx hc.sa hc.hi hn.ris hn.len hn.past hc.r1 hc.r2 hc.h1 hc.h2 hv h0 h1
   · rw [if_neg h1]
     exact n1Z P c rs rh x a w hP hx hc.sa hc.hi hn.ris hn.len hn.past hc.r1 hc.r2 hc.h1 hc.h2 hv h0 h1
 rw [if_neg h0]
 by_cases h1:a.kind=1
 · rw [if_pos h1]
   by_cases h2:a0Q x.nd.smp a.smp.1=0
   · rw [if_pos h2]
     exact j1R P c rs rh x a w hP hx hc.sa hc.hi hn.ris hn.len hn.past hc.r1 hc.r2 hc.h1 hc.h2 hv h1 h2
   · rw [if_neg h2]
     exact l1E P c rs rh x a w hP hx hc.sa hc.hi hn.ris hn.len hn.past hc.r1 hc.r2 hc.h1 hc.h2 hv h1 (by omega)
 rw [if_neg h1]
 by_cases h2:a.kind=2
 · rw [if_pos h2]
   cases h3:d0G a.pol with
   | true =>
     rw [if_pos rfl];exact m1W P c rs rh x a w hP hx hc.sa hc.hi hn.ris hn.len hn.past hc.r1 hc.r2 hc.h1 hc.h2 hv h2 h3
   | false =>
     rw [if_neg (by simp)];exact p1N P c rs rh x a w hP hx hc.sa hc.hi hn.ris hn.len hn.past hc.r1 hc.r2 hc.h1 hc.h2 hv h2 h3
 rw [if_neg h2]
 by_cases h3:a.kind=3
 · rw [if_pos h3]
   exact i1X P c rs rh x a w hP hx hc.sa hc.hi hn.ris hn.len hn.past hc.r1 hc.r2 hc.h1 hc.h2 hv h3
 · rw [if_neg h3]
   exact k1D P c rs rh x a w hP hx hc.sa hc.hi hn.ris hn.len hn.past hc.r1 hc.r2 hc.h1 hc.h2 hv h0 h1 h2 h3
def c0X (x:It):Ky × Nd:=(x.key,x.nd)
def n0S (P:Nat→Prop) (w:World) (l':List (Ky × Nd)) (e1 n more:Int) (e:Ending) (w':World):Prop :=
 ∃out A c,e=.returned (.tuple #[.slice A out.length c,.int .i64 e1,.int .i64 n,.int .i64 more])∧b0D P w' (.slice A out.length c) out∧out.map c0X=l'∧jB w w'
theorem n0S.same {P:Nat→Prop} {w w':World} {l:List It} {A:Option Addr} {c:Nat} (h:b0D P w (.slice A l.length c) l) (hb:jB w w') (e1 n more:Int):n0S P w (l.map c0X) e1 n more (.returned (.tuple #[.slice A l.length c,.int .i64 e1,.int .i64 n,.int .i64 more])) w' :=
 ⟨l,A,c,rfl,h.below hb,rfl,hb⟩
def j1G (k:Ky) (a:c0W):List Value:=[.int .u64 k.1,.int .u64 k.2,.int .i64 a.kind,.int .i64 a.smp.1,.int .i64 a.smp.2,.int .i64 a.pol.mn,.int .i64 a.pol.mx,.int .i64 a.pol.tg,.int .i64 a.pol.tol,.int .i64 a.pol.win,.int .i64 a.pol.hold,.int .i64 a.adv.tick,.int .i64 a.adv.load,.int .i64 a.adv.want,.int .i64 a.adv.repl,.int .i64 a.adv.why]
end
end Go.Proofs.YtmniiodpbebnmaaGreat
