/- Part 36 of the proof. -/
import Derived.Test.YtmniiodpbebnmaaGreatJ35
import Derived.Maps.RangeWalk
namespace Go.Proofs.YtmniiodpbebnmaaGreat
set_option linter.unusedSimpArgs false
set_option linter.unusedVariables false
set_option linter.unusedSectionVars false
set_option maxRecDepth 100000
set_option maxHeartbeats 16000000
section
open Go.RowKit Go.Lib
open Go.ChangeMaps (setBlock)
theorem j0X {w:World} {L:Nat} {es:List (SK × It)} (h:a0V skV ldV w L es) (s:SK) (x:It) :
 ∃o,(Instr.mapUpdate 100 (.map (some L)) (.string s.1) (ldV x)).run Tryz.prog w=.ok () (setBlock w L o)∧a0V skV ldV (setBlock w L o) L (d0F es s x) :=
 a0V.store (V:=ldV) h z0I Tryz.underlying100 s x
theorem f0O.put {P:Nat→Prop} {w w1:World} {M:Nat} {c:Cfg} {wd:Wd} {d:b0J} {s:SK} {x:It} {o:Obj} (h:f0O P w M c wd d) (hb:jB w w1) (hm:a0V skV ldV (setBlock w1 d.L o) d.L (d0F d.es s x)) (hx:d0J P w1 x) :
 f0O P (setBlock w1 d.L o) M c wd { d with es:=d0F d.es s x }∧Upd w (setBlock w1 d.L o) [M,d.L] [M,d.L]:=by
 have h1:=h.below hb;have hk:∀b,b≠d.L→(setBlock w1 d.L o).heap[b]?=w1.heap[b]?:=fun b hb=>b0I hb
 have hsz:w1.heap.size≤(setBlock w1 d.L o).heap.size:=by rw [d0I];exact Nat.le_refl _
 have hkP:∀b,P b→b<w1.heap.size→(setBlock w1 d.L o).heap[b]?=w1.heap[b]?∧P b:=fun b hP _=>⟨hk b (h.off b hP).2,hP⟩
 refine ⟨⟨(hk M h.ne).trans h1.cell,hm,h.ne,h.off,fun p hp=>?_,h.len,h1.row.keepG hsz hkP,fun i y q hy hq=>⟨(h1.cut i y q hy hq).1,fun hf=>?_⟩⟩,hb.os,hb.tape,hb.output,?_,fun k hlt hn=>?_,fun k hk=>.inl hk⟩
 · rcases f0C hp with rfl|⟨h9,_⟩
   · exact hx.keepG hsz hkP
   · exact (h1.rows p h9).keepG hsz hkP
 · obtain ⟨h2,l,h3,h4,h5,h6,h7⟩:=(h1.cut i y q hy hq).2 hf
   exact ⟨h2,l,h3,h4,h5.block (hk l (h.off l h4).2),fun p hp=>(h6 p hp).keepG hsz hkP,h7⟩
 · rw [d0I];exact hb.size
 · simp only [List.mem_cons,List.mem_nil_iff,or_false,not_or] at hn
   exact (hk k hn.2).trans (hb.block k hlt)
theorem f0O.wd {P:Nat→Prop} {w:World} {M:Nat} {c:Cfg} {wd wd':Wd} {d:b0J} (h:f0O P w M c wd d) (hc:wd'.cuts=wd.cuts) (he:wd'.ep=wd.ep) (ho:wd'.over=wd.over):f0O P w M c wd' d :=
 ⟨by rw [he,ho];exact h.cell,h.map,h.ne,h.off,h.rows,by rw [hc];exact h.len,h.row,by rw [hc];exact h.cut⟩
structure FW (P:Nat→Prop) (w:World) (M:Nat) (c:Cfg) (rs rh n:Nat) (wd:Wd) (d:b0J):Prop where
 at_:c0L P w M c rs rh n wd d
 ok:h0C c rs rh n wd
theorem FW.below {P:Nat→Prop} {w w':World} {M:Nat} {c:Cfg} {rs rh n:Nat} {wd:Wd} {d:b0J} (h:FW P w M c rs rh n wd d) (hb:jB w w'):FW P w' M c rs rh n wd d:=⟨h.at_.below hb,h.ok⟩
theorem c0L.any {P:Nat→Prop} {w:World} {M:Nat} {c:Cfg} {rs rh n m:Nat} {wd:Wd} {d:b0J} (h:c0L P w M c rs rh n wd d):c0L P w M c rs rh m wd d:=⟨h.tof0O,h.tells⟩
theorem FW.mono {P:Nat→Prop} {w:World} {M:Nat} {c:Cfg} {rs rh n m:Nat} {wd:Wd} {d:b0J} (h:FW P w M c rs rh n wd d) (hm:n≤m):FW P w M c rs rh m wd d:=⟨h.at_.any,h.ok.mono hm⟩
def b0H (P:Nat→Prop) (w:World) (M:Nat) (c:Cfg) (rs rh n L:Nat) (v:Value) (wd:Wd) (e:Ending) (w':World):Prop:=∃d',e=.returned v∧FW P w' M c rs rh n wd d'∧d'.L=L∧Upd w w' [M,L] [M,L]
theorem FW.same {P:Nat→Prop} {w w':World} {M:Nat} {c:Cfg} {rs rh n m:Nat} {wd:Wd} {d:b0J} {v:Value} (h:FW P w M c rs rh n wd d) (hm:n≤m) (hb:jB w w'):b0H P w M c rs rh m d.L v wd (.returned v) w' :=
 ⟨d,rfl,(h.below hb).mono hm,rfl,Upd.of_below hb _⟩
theorem b0S.st {c:Cfg} {rs rh:Nat} (h:b0S c rs rh):e0R c.st=true:=by
 have hc:=h.cfg;unfold h0A at hc;simp only [Bool.and_eq_true,decide_eq_true_eq] at hc
 exact hc.1
theorem FW.small {P:Nat→Prop} {w:World} {M:Nat} {c:Cfg} {rs rh n:Nat} {wd:Wd} {d:b0J} (h:FW P w M c rs rh n wd d) (hc:b0S c rs rh):∀p∈d.es,p.2.nd.smp.length≤1000000∧p.2.nd.past.length≤1000000:=fun p hp=>by
 have h1:=(h.at_.tells.it h.ok p hp).1;have h2:=h1.len;have h3:=h1.past;have h4:=hc.room.r2;have h5:=hc.room.h2;omega
theorem e1N {α β:Type} {e e':TypeId} {n n' b b':Nat} {f:α→List Value} {g:β→List Value} {w:World} {v v':Value} {l:List α} {l':List β} (h:b0Q f e n b w v l) (h':b0Q g e' n' b' w v' l') (hne:e≠e'):∀r,v.ownBlock=some r→v'.ownBlock≠some r:=by
 intro r hr hr'
 rcases h.2 with ⟨hv,_⟩|⟨x,cp,cur,hv,_,hx,_⟩
 · rw [hv] at hr;cases hr
 · rcases h'.2 with ⟨hv',_⟩|⟨y,cp',cur',hv',_,hy,_⟩
   · rw [hv'] at hr';cases hr'
   · rw [hv] at hr
     rw [hv'] at hr';have e1:x=r:=by simpa [Value.ownBlock] using hr
     have e2:y=r:=by simpa [Value.ownBlock] using hr'
     rw [e1] at hx;rw [e2,hx] at hy;simp only [Option.some.injEq,Obj.cells.injEq] at hy
     exact hne hy.2.1
theorem d0G.ownQ {α:Type} {t e:TypeId} {n bytes:Nat} {z:Value} {f:α→List Value} (E:g0Y t e n bytes z f) {base:Nat} {w:World} {v:Value} {l:List α} {Q:Nat→Prop} (h:b0Q f e n base w v l) (hQ:∀r,v.ownBlock=some r→Q r):d0G Q n f w v l :=
 ⟨h.row E,fun b o m c hv _=>hQ b (by rw [hv];rfl)⟩
theorem v0A (M:Option Addr) (id:ByteArray) (av:Adv) (w:World)
    (CL:Hid (∀W,jB w W→Calls Tryz.prog 22 #[.pointer M,.string id] W (r0Q W none))) :
    Calls Tryz.prog 24 #[.pointer M,.string id,.agg (c0U av).toArray] w (jP w (.bool false)):=by
  unfold r0Q at CL;simp only [Option.isSome_none] at CL
  unfold c0U
  go_enter Tryz.func24,Tryz.ntmps24
  go_wp2_with (first
   | (go_at_call 22
      refine a0B ?_;intro W1 hW1;have HB1:=jH (show jB w W1 by rw [hW1];exact a0C jR _);clear hW1;refine (CL.out W1 HB1.out).mono ?_;rintro e w2 ⟨y,rfl,hy1,hy3,hb2⟩;have HB2:=jH (a0D HB1.out hb2);unfold ldV ldC;clear hb2 hy3 hy1))
  go_ret
  exact ⟨rfl,a0C HB2.out _⟩
theorem v0W {P:Nat→Prop} {w:World} {M:Nat} {c:Cfg} {rs rh n:Nat} {wd:Wd} {d:b0J} (s:SK) (av:Adv) (x0:It) (h:FW P w M c rs rh n wd d) (hP:∀b,w.heap.size≤b→P b) (hc:b0S c rs rh) (hs:idS s.1=true) (hx0:a0L d.es s=some x0) :
 Calls Tryz.prog 24 #[.pointer (some ⟨M,0,none⟩),.string s.1,.agg (c0U av).toArray] w (b0H P w M c rs rh (n+1) d.L (.bool true) (e0D c rs rh wd s.1 av).1):=by
 have hl:=h.small hc;have hx:=(h.at_.tells.it h.ok _ (b0B hx0)).1;have hpl:=And.intro hx.past hc.room.h1;have hr2:=hc.room.h2;have CL:=jH (fun W (hW:jB w W)=>l0H s W (h.at_.below hW) hl);rw [hx0] at CL;unfold r0Q at CL;simp only [Option.isSome_some,Option.getD_some] at CL
 have hci:=hc.hi
 have HFIN:=jH (show ∀(x:It) (W8:World) (o:Obj),x.nd=a1Y rh x0.nd av→jB w W8→a0V skV ldV (setBlock W8 d.L o) d.L (d0F d.es s x)→d0J P W8 x →
     ∃d',FW P (setBlock W8 d.L o) M c rs rh (n+1) (e0D c rs rh wd s.1 av).1 d'∧d'.L=d.L∧Upd w (setBlock W8 d.L o) [M,d.L] [M,d.L] from fun x W8 o hn hb hm hi=>by
   obtain ⟨h1,h2⟩:=h.at_.tof0O.put hb hm hi;have hn2:=h.at_.tells.note (rs:=rs) hc.st s hs av x0 hx0 x hn;refine ⟨_,⟨⟨h1.wd ?_ ?_ ?_,hn2.2⟩,?_⟩,rfl,h2⟩
   · unfold e0D;split <;> rfl
   · unfold e0D;split <;> rfl
   · unfold e0D;split <;> rfl
   · have hcb:=hc.cfg
     unfold h0A at hcb;simp only [Bool.and_eq_true,decide_eq_true_eq] at hcb
     exact z0P h.ok (by omega) hc.room.h1)
 have HMP:=jH (show ∀W,jB w W→a0V skV ldV W d.L d.es from fun W hW=>h.at_.map.below hW);have hcell:=h.at_.cell;rw [hci] at hcell;have HC:=jH hcell;have HP:=jH hP;have HPL:=jH hpl;have HLT:=jH (And.intro h.at_.lt h.at_.map.lt);generalize (e0D c rs rh wd s.1 av).1=wd9 at HFIN ⊢;unfold c0U;clear h hl hx hP hc hs hx0 hcell hci hpl
 go_enter Tryz.func24,Tryz.ntmps24
 go_upto_region 2 with (first
  | (go_at_call 22
     refine a0B ?_;intro W1 hW1;have hb1:jB w W1:=by rw [hW1];exact a0C jR _
     have HR1:=jH (show W1.heap[w.heap.size]?=some (.cells #[.int .i64 av.tick,.int .i64 av.load,.int .i64 av.want,.int .i64 av.repl,.int .i64 av.why] 44 (0,0)) by rw [hW1];exact heap_alloc_new _ _);have HS1:=jH (show W1.heap.size=w.heap.size+1 by rw [hW1];simp);have HB1:=jH hb1;clear hW1 hb1;refine (CL.out W1 HB1.out).mono ?_;rintro e w2 ⟨y,rfl,hy1,hy3,hb2⟩;have HA2:=jH (jK hb2 HR1.out);have HB2:=jH (a0D HB1.out hb2)
     have HY1:=jH hy1;have HY3:=jH hy3;have HS2:=jH hb2.size;unfold ldV ldC;clear hb2 hy3 hy1))
 refine a0J ?_;intro W3 hW3;have hd3:jB w2 W3:=by rw [hW3];exact a0C jR _
 have HX3:=jH (show W3.heap[w2.heap.size]?=some (.cells #[.slice y.sA y.nd.smp.length y.sc,.slice y.pA y.nd.past.length y.pc,.int .i64 y.nd.pol.mn,.int .i64 y.nd.pol.mx,.int .i64 y.nd.pol.tg,.int .i64 y.nd.pol.tol,.int .i64 y.nd.pol.win,.int .i64 y.nd.pol.hold,.bool y.nd.ruled] 60 (0,0)) by rw [hW3];exact heap_alloc_new _ _);have HS3:=jH (show W3.heap.size=w2.heap.size+1 by rw [hW3];simp);have HA3:=jH (jK hd3 HA2.out)
 have HB3:=jH (a0D HB2.out hd3);have HY4:=jH (HY3.out.below hd3);clear hW3 hd3;obtain ⟨b1,b2,b3⟩:=a0A jR HX3.out;obtain ⟨a1,a2,a3⟩:=a0A jR HA3.out;have HAP:=jH (e1N HY4.out.1 HY4.out.2 (show (111:TypeId)≠44 by decide));have HY5:=jH (HY4.out.1.below (a0C (Below.refl W3.heap.size W3) (.cells #[.int .i64 av.tick,.int .i64 av.load,.int .i64 av.want,.int .i64 av.repl,.int .i64 av.why] 44)))
 have HPY:=jH (show y.nd.past.length≤64 by rw [HY1.out];have:=HPL.out.1;omega)
 go_upto_region 5 with (first
  | (at_builtin
     refine b0Y p0Q (by rfl) (by rfl) W1.heap.size y.nd.past [av] (.slice y.pA y.nd.past.length y.pc) _ (by rfl) (by rfl) (HY4.out.2.below (a0C jR _)) (a0Q.lit W3 av _ _ _ rfl rfl) (by have:=HPY.out;simp;omega) (by have:=HS2.out;have:=HS3.out;simp;omega) ?_;intro out A5 c5 w5 hout hown hg hor;have HX5:=jH ((hg.block w2.heap.size (by have:=HS3.out;simp;omega) (fun e=>by have:=(HY3.out.2.lt e.symm).2;omega)).trans ((Below.heap_alloc _ _ _ (by have:=HS3.out;omega)).trans HX3.out))
     have HB5:=jH ((a0C HB3.out _).trans (f0J hg (HY4.out.2.lower (base':=w.heap.size) (by have:=HS1.out;omega)) (by have:=HB3.out.size;simp;omega)));have HSM5:=jH (HY5.out.kept (fun r hr=>hg.block r (HY5.out.lt hr).2 (fun e=>HAP.out r hr e.symm)));have HO5:=jH hown;have HE5:=jH hout;have HN5:=jH (show ∀r,(Value.slice A5 out.length c5).ownBlock=some r→r≠w2.heap.size from fun r hr e=>by
      rcases hor with h9|h9
      · rw [h9] at hr;have:=(HY3.out.2.lt hr).2;omega
      · rw [h9] at hr;injection hr with hr;have:=HS3.out;simp at hr;omega)
     obtain ⟨x1,x2,x3⟩:=a0A jR HX5.out;clear hg hown hout hor b1 b2 b3 a1 a2 a3))
 refine a0J ?_;intro W6 hW6;have HX6:=jH (show W6.heap[w2.heap.size]?=some (.cells #[.slice y.sA y.nd.smp.length y.sc,.slice A5 out.length c5,.int .i64 y.nd.pol.mn,.int .i64 y.nd.pol.mx,.int .i64 y.nd.pol.tg,.int .i64 y.nd.pol.tol,.int .i64 y.nd.pol.win,.int .i64 y.nd.pol.hold,.bool y.nd.ruled] 60 (0,0)) by rw [hW6];exact a0E HX5.out);have HB6:=jH (show jB w W6 by rw [hW6];exact Below.setCell HB5.out (by have:=HB2.out.size;exact this) _)
 have HO6:=jH (show b0Q c0U 44 5 W1.heap.size W6 (.slice A5 out.length c5) out from HO5.out.kept (fun r hr=>by rw [hW6];exact a0K rfl (HN5.out r hr)));have HSM6:=jH (show b0Q c0B 111 2 W1.heap.size W6 (.slice y.sA y.nd.smp.length y.sc) y.nd.smp from HSM5.out.kept (fun r hr=>by rw [hW6];exact a0K rfl (by have:=(HY3.out.1.lt hr).2;omega)));clear hW6 x1 x2 x3;have hlen5:out.length=y.nd.past.length+1:=by rw [HE5.out];simp
 have HL5:=jH hlen5;obtain ⟨ol,hol⟩:∃k,k=out.length:=⟨_,rfl⟩;have HOL:=jH hol;rw [←hol] at HX6;obtain ⟨b1,b2,b3⟩:=a0A jR HX6.out;obtain ⟨m1,m2,m3⟩:=a0A HB6.out HC.out
 have hend:∀(W8:World) (past':List Adv) (A:Option Addr) (cc:Nat),past'=g0B x0.nd.past rh av→jB w W8→d0G (fun b=>W1.heap.size≤b) 5 c0U W8 (.slice A past'.length cc) past'→d0G (fun b=>W1.heap.size≤b) 2 c0B W8 (.slice y.sA y.nd.smp.length y.sc) y.nd.smp →
     ∃x:It,x.nd=a1Y rh x0.nd av∧d0J P W8 x∧ldC x=[.slice y.sA y.nd.smp.length y.sc,.slice A past'.length cc,.int .i64 y.nd.pol.mn,.int .i64 y.nd.pol.mx,.int .i64 y.nd.pol.tg,.int .i64 y.nd.pol.tol,.int .i64 y.nd.pol.win,.int .i64 y.nd.pol.hold,.bool y.nd.ruled]:=fun W8 past' A cc hp hb hr1 hr2=>by
   have hs1:=HS1.out;exact ⟨⟨y.key,y.sA,y.sc,A,cc,{ y.nd with past:=past' }⟩,by unfold a1Y;rw [hp,HY1.out],⟨hr2.imp (fun b hb=>HP.out b (by omega)),hr1.imp (fun b hb=>HP.out b (by omega))⟩,rfl⟩
 have HEND:=jH hend;clear hend hlen5 hol
 by_cases hcmp:(rh:Int)<(ol:Int)
 · obtain ⟨m,A4,c4,hm,hA,hrun,hrow⟩:=h1V p0Q (HO6.out.row p0Q) 1 (by have:=HL5.out;omega)
   rw [HOL.out.symm] at hrun;simp only [show ((1:Nat):Int)=1 from rfl] at hrun
   have hrow6:d0G (fun b=>W1.heap.size≤b∧b≠w2.heap.size) 5 c0U W6 (.slice A4 m.length c4) m:=d0G.part (d0G.ownQ p0Q HO6.out (fun r hr=>⟨(HO6.out.lt hr).1,HN5.out r hr⟩)) hA (by rw [hm];simp) hrow;have HM:=jH hm;have HRW:=jH hrow6;clear hm hrow hA hrow6
   go_region
   refine a0Y ?_;intro W7 hW7;have HB7:=jH (show jB w W7 by rw [hW7];exact HB6.out.drew);have hb67:jB W6 W7:=by rw [hW7];exact jR.drew
   have HX7:=jH (jK hb67 HX6.out);have HSM7:=jH (HSM6.out.below hb67);have HO7:=jH (HO6.out.below hb67);have HB67:=jH hb67;have HN6:=jH (show ∀r,(Value.slice A5 out.length c5).ownBlock=some r→r≠w2.heap.size from HN5.out);clear hb67 hW7 b1 b2 b3 m1 m2 m3;obtain ⟨b1,b2,b3⟩:=a0A jR HX7.out
   go_upto_region 7 with fail
   refine a0J ?_;intro W8 hW8;have HX8:=jH (show W8.heap[w2.heap.size]?=some (.cells #[.slice y.sA y.nd.smp.length y.sc,.slice A4 m.length c4,.int .i64 y.nd.pol.mn,.int .i64 y.nd.pol.mx,.int .i64 y.nd.pol.tg,.int .i64 y.nd.pol.tol,.int .i64 y.nd.pol.win,.int .i64 y.nd.pol.hold,.bool y.nd.ruled] 60 (0,0)) by rw [hW8];exact a0E HX7.out);have HB8:=jH (show jB w W8 by rw [hW8];exact Below.setCell HB7.out (by have:=HB2.out.size;exact this) _)
   have hr8:d0G (fun b=>W1.heap.size≤b) 5 c0U W8 (.slice A4 m.length c4) m:=HRW.out.keepG (by rw [hW8];exact Nat.le_trans HB67.out.size (Nat.le_of_eq (by simp [World.setCell]))) (fun b hb hlt=>⟨by rw [hW8];exact (a0K rfl hb.2).trans (HB67.out.block b hlt),hb.1⟩);have hs8:b0Q c0B 111 2 W1.heap.size W8 (.slice y.sA y.nd.smp.length y.sc) y.nd.smp:=HSM7.out.kept (fun r hr=>by rw [hW8];exact a0K rfl (by have:=(HY3.out.1.lt hr).2;omega))
   have hm8:m=g0B x0.nd.past rh av:=by
    have h1:=HL5.out;have h2:=HOL.out;have h3:=HPL.out;rw [HM.out,HE5.out,HY1.out];rw [HY1.out] at h1;unfold g0B;rw [if_neg (by omega)]
    cases hx:x0.nd.past with
    | nil=>rw [hx] at h1;simp at h1;omega
    | cons a l=>simp
   obtain ⟨x,hx1,hx2,hx3⟩:=HEND.out W8 m A4 c4 hm8 HB8.out hr8 (d0G.own d0C hs8);obtain ⟨o9,hs9,hm9⟩:=j0X (HMP.out W8.drew HB8.out.drew) s x;clear hW8 b1 b2 b3 hr8 hs8 hm8;have hs9':(Instr.mapUpdate 100 (.map (some d.L)) (.string s.1) (.agg #[.slice y.sA y.nd.smp.length y.sc,.slice A4 m.length c4,.int .i64 y.nd.pol.mn,.int .i64 y.nd.pol.mx,.int .i64 y.nd.pol.tg,.int .i64 y.nd.pol.tol,.int .i64 y.nd.pol.win,.int .i64 y.nd.pol.hold,.bool y.nd.ruled])).run Tryz.prog W8.drew=.ok () (setBlock W8.drew d.L o9):=by
    unfold ldV at hs9;rw [hx3] at hs9;exact hs9
   obtain ⟨d9,hd1,hd2,hd3⟩:=HFIN.out x W8.drew o9 hx1 HB8.out.drew hm9 (hx2.below jR.drew);have HD1:=jH hd1;have HD2:=jH hd2;have HD3:=jH hd3;clear hs9 hx1 hx2 hx3 hm9 hd1 hd2 hd3;obtain ⟨b1,b2,b3⟩:=a0A jR HX8.out;obtain ⟨m1,m2,m3⟩:=a0A HB8.out HC.out
   go_region
   go_wp2_with fail
   go_ret
   unfold b0H;exact ⟨d9,rfl,HD1.out,HD2.out,HD3.out⟩
 · go_region
   refine a0Y ?_;intro W7 hW7;have HB7:=jH (show jB w W7 by rw [hW7];exact HB6.out.drew);have hb67:jB W6 W7:=by rw [hW7];exact jR.drew
   have HX7:=jH (jK hb67 HX6.out);have HSM7:=jH (HSM6.out.below hb67);have HO7:=jH (HO6.out.below hb67);have HB67:=jH hb67;have HN6:=jH (show ∀r,(Value.slice A5 out.length c5).ownBlock=some r→r≠w2.heap.size from HN5.out);clear hb67 hW7 b1 b2 b3 m1 m2 m3;obtain ⟨b1,b2,b3⟩:=a0A jR HX7.out
   go_upto_region 7 with fail
   refine a0J ?_;intro W8 hW8;subst hW8;have HX8:=HX7;have HB8:=HB7;have hm8:out=g0B x0.nd.past rh av:=by
    have h1:=HL5.out;have h2:=HOL.out;have h3:=HPL.out;rw [HY1.out] at h1;rw [HE5.out,HY1.out];unfold g0B;rw [if_pos (by omega)]
   obtain ⟨x,hx1,hx2,hx3⟩:=HEND.out W8 out A5 c5 hm8 HB8.out (d0G.own p0Q HO7.out) (d0G.own d0C HSM7.out);rw [HOL.out.symm] at hx3;obtain ⟨o9,hs9,hm9⟩:=j0X (HMP.out W8.drew HB8.out.drew) s x;clear b1 b2 b3 hm8;have hs9':(Instr.mapUpdate 100 (.map (some d.L)) (.string s.1) (.agg #[.slice y.sA y.nd.smp.length y.sc,.slice A5 ol c5,.int .i64 y.nd.pol.mn,.int .i64 y.nd.pol.mx,.int .i64 y.nd.pol.tg,.int .i64 y.nd.pol.tol,.int .i64 y.nd.pol.win,.int .i64 y.nd.pol.hold,.bool y.nd.ruled])).run Tryz.prog W8.drew=.ok () (setBlock W8.drew d.L o9):=by
    unfold ldV at hs9;rw [hx3] at hs9;exact hs9
   obtain ⟨d9,hd1,hd2,hd3⟩:=HFIN.out x W8.drew o9 hx1 HB8.out.drew hm9 (hx2.below jR.drew);have HD1:=jH hd1;have HD2:=jH hd2;have HD3:=jH hd3;clear hs9 hx1 hx2 hx3 hm9 hd1 hd2 hd3;obtain ⟨b1,b2,b3⟩:=a0A jR HX8.out;obtain ⟨m1,m2,m3⟩:=a0A HB8.out HC.out
   go_region
   go_wp2_with fail
   go_ret
   unfold b0H;exact ⟨d9,rfl,HD1.out,HD2.out,HD3.out⟩
end
section
open Go.RowKit Go.Lib
section
theorem l1W {α:Type} (l:List α) (f g:α→Nat):(l.map fun i=>f i+g i).sum=(l.map f).sum+(l.map g).sum:=by
 induction l with
 | nil=>rfl
 | cons a l ih=>simp only [List.map_cons,List.sum_cons,ih];omega
theorem i1L {α:Type} (l:List α):(l.map fun _=>0).sum=0:=by
 induction l with
 | nil=>rfl
 | cons a l ih=>simp only [List.map_cons,List.sum_cons,ih]
theorem i1F (j:Nat):∀N,((List.range N).map fun i=>if j=i then 1 else 0).sum=if j<N then 1 else 0
  | 0=>rfl
  | N+1=>by
    rw [List.range_succ,List.map_append,List.sum_append,i1F j N];simp only [List.map_cons,List.map_nil,List.sum_cons,List.sum_nil,Nat.add_zero]
    by_cases h1:j<N
    · rw [if_pos h1,if_neg (by omega),if_pos (by omega)]
    · by_cases h2:j=N
      · rw [if_neg h1,if_pos h2,if_pos (by omega)]
      · rw [if_neg h1,if_neg h2,if_neg (by omega)]
theorem r0I {α:Type} (f:α→Int) (N:Nat):∀ks:List α,(∀k∈ks,0≤f k∧f k<(N:Int))→((List.range N).map fun i:Nat=>ks.countP fun k=>decide (f k=(i:Int))).sum=ks.length
  | [],_=>by simp only [List.countP_nil,List.length_nil];exact i1L _
  | a::ks,h=>by
    have ih:=r0I f N ks (fun k hk=>h k (List.mem_cons_of_mem _ hk));have ha:=h a (List.mem_cons_self ..);have e:(fun i:Nat=>(a::ks).countP fun k=>decide (f k=(i:Int)))=fun i:Nat=>(ks.countP fun k=>decide (f k=(i:Int)))+if (f a).toNat=i then 1 else 0:=by
     funext i
     rw [List.countP_cons]
     congr 1
     by_cases h1:f a=(i:Int)
     · rw [if_pos (by simpa using h1),if_pos (by omega)]
     · rw [if_neg (by simpa using h1),if_neg (by omega)]
    rw [e,l1W,ih,i1F,if_pos (by omega),List.length_cons]
theorem b0F.len {c:Cfg} {es:List (SK × It)} {wd:Wd} (h:b0F c es wd) (hst:e0R c.st=true):es.length=(d0D wd).length:=by
 have h1:=r0I (fun s:SK=>c0J (b0L s.1).1 (b0L s.1).2 c.st) wd.st.length (es.map (·.1)) (fun k _=>by
  have:=q0F (hi:=(b0L k.1).1) (lo:=(b0L k.1).2) hst;have h2:=h.lst;omega)
 rw [List.length_map] at h1;rw [←h1];unfold d0D;rw [List.length_flatten]
 congr 1
 apply List.ext_getElem?
 intro i;rw [List.getElem?_map,List.getElem?_map]
 by_cases hi:i<wd.st.length
 · rw [List.getElem?_eq_getElem (l:=wd.st) hi,List.getElem?_range hi]
   have:=h.cnt i _ (List.getElem?_eq_getElem hi);simp only [Option.map_some]
   rw [this]
 · rw [List.getElem?_eq_none (l:=wd.st) (by omega),List.getElem?_eq_none (by simp;omega)]
   rfl
section
variable {P:Program} {ops:Array Oper} {rest:List Oper} {o:Oper} {a:Act} {w:World} {Q:Exit→Act→World→Prop}
variable {α β:Type} [DecidableEq α] {K:α→Value} {V:β→Value} {b r:Nat} {es pre:List (α × β)} {cnt:Nat}
theorem r0C (hg:o.guard=none) (m:Operand) (t:TypeId) (hop:o.op=Op.range t m) (k e:TypeId) (ht:P.underlying t=some (.map k e)) (hm:a.eval m=.map (some b)) (hown:a0V K V w b es)
    (hK:∀w',b0T K V w' b w.heap.size es [] es.length→w.grownBy w' none→w'.heap.size=w.heap.size+1→wpList P ops Q rest (a.put o.dst (.pointer (some ⟨w.heap.size,0,none⟩))) w') :
    wpList P ops Q (o::rest) a w:=by
  refine wpList_plain hg fun K' hK'=>?_
  obtain ⟨w',hrun,r1,r2,r3⟩:=a0V.range hown ht;unfold Oper.wp;simp [execOp,hop,hm,hrun,Result.andThen]
  exact hK' _ _ (hK w' r1 r2 r3)
theorem s0M (hg:o.guard=none) (it:Operand) (hop:o.op=Op.next it false) (inj:∀x y,K x=K y→x=y) (hit:a.eval it=.pointer (some ⟨r,0,none⟩)) (h:b0T K V w b r es pre cnt)
    (hDone:cnt=0→(pre.map (·.1)).Perm (es.map (·.1))→wpList P ops Q rest (a.put o.dst (.tuple #[.bool false])) w)
    (hMore:∀(p:α × β) (w':World) (cnt':Nat),p∈es→p.1∉pre.map (·.1)→b0T K V w' b r es (pre++[p]) cnt'→cnt'<cnt→w.grownBy w' (some r)→w'.heap.size=w.heap.size →
      (Instr.entry (.pointer (some ⟨r,0,none⟩))).run P w'=.ok (.tuple #[K p.1,V p.2]) w'→wpList P ops Q rest (a.put o.dst (.tuple #[.bool true,K p.1,V p.2])) w') :
    wpList P ops Q (o::rest) a w:=by
  refine wpList_plain hg fun K' hK'=>?_
  unfold Oper.wp
  rcases h.next (P:=P) inj o.type with ⟨h0,hl,hrun⟩|⟨p,w',cnt',h1,h2,hrun,hrg,hlt,hgr,hsz,hen⟩
  · simp [execOp,hop,hit,hrun,Result.andThen]
    exact hK' _ _ (hDone h0 hl)
  · simp [execOp,hop,hit,hrun,Result.andThen]
    exact hK' _ _ (hMore p w' cnt' h1 h2 hrg hlt hgr hsz hen)
end
theorem h0T {P:Nat→Prop} {w:World} {M:Nat} {c:Cfg} {rs rh n:Nat} {wd:Wd} {d:b0J} (s:SK) (h:c0L P w M c rs rh n wd d) (hst:e0R c.st=true) (hlen:d.es.length≤1000000) :
 Calls Tryz.prog 125 #[.pointer (some ⟨M,0,none⟩),.string s.1] w (jP w (.bool (m0R c d.es s))):=by
 have hlk:=fun (W:World) (hW:jB w W)=>i0U h.map s true (hW.block d.L h.map.lt)
 have CH:=jH (fun (W:World) (hW:jB w W) (t:SK)=>show Calls Tryz.prog 192 #[.pointer (some ⟨M,0,none⟩),.string t.1] W (jP W (.int .i64 (c0J (b0L t.1).1 (b0L t.1).2 c.st))) from
  b1W M c t.1 W ((hW.block M h.lt).trans h.cell) rfl hst t.2)
 have HC:=jH h.cell;have HM:=jH (fun (W:World) (hW:jB w W)=>h.map.below hW);have HL:=jH hlen;have rm0:∀U,jB w U→U.cell? ⟨M,4,none⟩=some (.map (some d.L)):=fun U hU=>(a0A hU HC.out).1 4
 have rm1:∀U,jB w U→U.cell? ⟨M,2,none⟩=some (.int .i64 c.lo):=fun U hU=>(a0A hU HC.out).1 2
 have HR0:=jH rm0;have HR1:=jH rm1;obtain ⟨x,hx⟩:∃x,x=(a0L d.es s).getD o0K:=⟨_,rfl⟩;rw [←hx] at hlk;unfold ldV ldC at hlk;simp only [↓reduceIte] at hlk
 unfold m0R;obtain ⟨q,hq⟩:∃q:SK→Bool,q=fun t=>decide (c0J (b0L t.1).1 (b0L t.1).2 c.st=c0J (b0L s.1).1 (b0L s.1).2 c.st):=⟨_,rfl⟩
 rw [←hq];have HQ:=jH hq;clear hq;have HLK:=jH hlk;clear h hst hlen hlk hx rm0 rm1
 cases hh:d0B d.es s
 · rw [hh] at HLK
   clear hh;simp only [Bool.not_false,Bool.true_and]
   have q0:=HLK.out w jR;have q1:=HR0.out w jR
   go_enter Tryz.func125,Tryz.ntmps125
   go_upto_region 5 with fail
   refine a0J ?_;intro W hW;have HB:=jH (show jB w W by rw [hW];exact a0C jR _);clear hW q0 q1;have q1:=HR0.out W HB.out;have hmp:=HM.out W HB.out
   go_wp2_with (first
    | (at_range;refine r0C rfl _ 100 rfl 9 60 Tryz.underlying100 rfl hmp ?_;intro w0 hrg0 hg0 hs0)
    | go_in)
   clear q1 hmp
   go_frame
   go_loopw [7,8] (fun s7 _ wr=>∃(cnt:Nat) (pre:List (SK × It)),b0T skV ldV wr d.L W.heap.size d.es pre cnt∧pre.length+cnt≤d.es.length∧∃m:Nat,s7=.int .i64 (m:Nat)∧Hid (m=(pre.map (·.1)).countP q)∧jB w wr)
     (fun _ _ wr=>wr.rangeLeft d.L W.heap.size)
   case atStart =>
    exact ⟨_,[],hrg0,by simp,0,rfl,jH rfl,a0D HB.out (c0C hg0 (Nat.le_refl _) (fun r e=>by cases e))⟩
   case round =>
    obtain ⟨cnt,pre,hrg,hcs,m,rfl,HMC,hbr⟩:=hrel;have HBR:=jH hbr;clear hbr
    go_upto_region 9 with (first
     | (at_next;refine s0M rfl _ rfl z0I.inj rfl hrg ?_ (fun p w2 cnt2 hx hnew hrg2 hlt hg2 hs2 hen=>?_)
        rotate_left
        obtain ⟨t,y⟩:=p;have HRG2:=jH hrg2;have HB2:=jH (HBR.out.trans (c0C hg2 (by have:=HBR.out.size;have:=HB.out.size;omega) (fun r e=>by cases e;exact HB.out.size)));have HME:=jH (show w2.rangeLeft d.L W.heap.size<wr.rangeLeft d.L W.heap.size by rw [hrg2.left_eq,hrg.left_eq];exact hlt);have HCS:=jH (show (pre++[(t,y)]).length+cnt2≤d.es.length by have:=hcs;have:=hlt;rw [List.length_append,List.length_singleton];omega)
        have HCL:=jH (show m≤d.es.length by rw [HMC.out];exact Nat.le_trans List.countP_le_length (by rw [List.length_map];omega));have HCQ:=jH (show ((pre++[(t,y)]).map (·.1)).countP q=m+(if q t=true then 1 else 0) by
         rw [List.map_append,List.countP_append,List.map_cons,List.map_nil,List.countP_singleton,HMC.out])
        simp only [skV] at hen
        unfold ldV ldC at hen;clear hrg2 hg2 hlt hx hnew
        rotate_left)
     | (go_at_call 192
        first
         | (refine (CH.out w3 HB3.out s).mono ?_
            rintro e w4 ⟨rfl,hb4⟩;have HB4:=jH (a0D HB3.out hb4);have HK4:=jH (a0D HK3.out hb4);clear hb4)
         | (refine (CH.out w2 HB2.out t).mono ?_
            rintro e w3 ⟨rfl,hb3⟩;have HB3:=jH (a0D HB2.out hb3);have HK3:=jH hb3;clear hb3 hen))
     | go_in)
    · intro hc0 hp
      have e9:m=(d.es.map (·.1)).countP q:=HMC.out.trans (hp.countP_eq q);have q2:=HR1.out wr HBR.out;have HE9:=jH e9;clear hp e9 hrg hrg0 hg0;go_wp2
      go_ret
      exact ⟨by rw [HE9.out];rfl,HBR.out⟩
    · rename_i heq
      have hq1:q t=true:=by rw [HQ.out];exact decide_eq_true (by simpa using heq)
      have hw:wrap64 ((m:Int)+1)=((m+1:Nat):Int):=by have:=HCL.out;have:=HL.out;unfold wrap64;omega
      have hrg4:=HRG2.out.kept (HK4.out.block _ (a0V.lt HRG2.out.map_)) (HK4.out.block _ HRG2.out.lt);have hcq:=HCQ.out;rw [if_pos hq1] at hcq;have HRG4:=jH hrg4;have HCQ4:=jH hcq;have HWR:=jH hw;clear hrg hrg4 hcq heq hq1 hrg0 hg0 hw;go_wp2
      exact ⟨⟨cnt2,pre++[(t,y)],HRG4.out,HCS.out,m+1,by rw [HWR.out],jH HCQ4.out.symm,HB4.out⟩,by rw [HRG4.out.left_eq,←HRG2.out.left_eq];exact HME.out⟩
    · rename_i heq
      have hq1:¬q t=true:=by rw [HQ.out];simpa using heq
      have hrg4:=HRG2.out.kept (HK4.out.block _ (a0V.lt HRG2.out.map_)) (HK4.out.block _ HRG2.out.lt);have hcq:=HCQ.out;rw [if_neg hq1] at hcq;exact ⟨⟨cnt2,pre++[(t,y)],hrg4,HCS.out,m,rfl,jH hcq.symm,HB4.out⟩,by rw [hrg4.left_eq,←HRG2.out.left_eq];exact HME.out⟩
 · rw [hh] at HLK
   clear hh;simp only [Bool.not_true,Bool.false_and]
   have q0:=HLK.out w jR;have q1:=HR0.out w jR
   go_enter Tryz.func125,Tryz.ntmps125
   go_wp2_with fail
   go_ret
   exact ⟨rfl,a0C jR _⟩
end
end
end Go.Proofs.YtmniiodpbebnmaaGreat
