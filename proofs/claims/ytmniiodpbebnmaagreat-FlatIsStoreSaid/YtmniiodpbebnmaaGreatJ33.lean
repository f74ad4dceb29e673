/- Part 33 of the proof. -/
import Derived.Test.YtmniiodpbebnmaaGreatJ27
import Derived.StringKeys
namespace Go.Proofs.YtmniiodpbebnmaaGreat
set_option linter.unusedSimpArgs false
set_option linter.unusedVariables false
set_option linter.unusedSectionVars false
set_option maxRecDepth 100000
set_option maxHeartbeats 16000000
section
open Go.RowKit Go.Lib
abbrev SK:={ s:ByteArray // s.size≤maxLen }
def skV (x:SK):Value:=.string x.1
theorem z0I:m0T Tryz.prog 9 skV where
 law:=Go.Maps.string_keyed Tryz.underlying9
 key x:=⟨_,Go.WideMaps.keyOf_string_mk Tryz.underlying9 x.2⟩
 inj x y h:=by
  simp only [skV,Value.string.injEq] at h
  exact Subtype.ext h
def ldC (x:It):List Value:=[.slice x.sA x.nd.smp.length x.sc,.slice x.pA x.nd.past.length x.pc,.int .i64 x.nd.pol.mn,.int .i64 x.nd.pol.mx,.int .i64 x.nd.pol.tg,.int .i64 x.nd.pol.tol,.int .i64 x.nd.pol.win,.int .i64 x.nd.pol.hold,.bool x.nd.ruled]
def ldV (x:It):Value:=.agg (ldC x).toArray
def FlHas (es:List (SK × It)) (R:List Itm):Prop:=(∀p∈es,idS p.1.1=true)∧∀s:SK,idS s.1=true→match a0L es s with
 | none=>a0Z R (b0L s.1)=none
 | some x=>∃y,a0Z R (b0L s.1)=some y∧f0U x.nd y
abbrev j1D (R:List Itm):Prop:=(R.map (·.1)).Pairwise (fun a b=>ltK a b=true)
structure b0F (c:Cfg) (es:List (SK × It)) (wd:Wd):Prop where
 has:FlHas es (d0D wd)
 keys:∀p∈d0D wd,∃s:SK,idS s.1=true∧b0L s.1=p.1
 cnt:∀(i:Nat) R,wd.st[i]?=some R→R.length=(es.map (·.1)).countP fun s=>decide (c0J (b0L s.1).1 (b0L s.1).2 c.st=(i:Int))
 srt:∀R∈wd.st,j1D R
 home:b0V c wd
 lst:(wd.st.length:Int)=c.st
 nod:(es.map (·.1)).Nodup
structure p0W where
 ep:Int
 m:Option Nat
 es:List (SK × It)
 fr:Bool
def fcC (x:p0W):List Value:=[.int .i64 x.ep,.map x.m,.bool x.fr]
structure b0J where
 L:Nat
 es:List (SK × It)
 A:Option Addr
 cp:Nat
 cuts:List p0W
structure f0O (P:Nat→Prop) (w:World) (M:Nat) (c:Cfg) (wd:Wd) (d:b0J):Prop where
 cell:w.heap[M]?=some (.cells #[.int .i64 c.st,.int .i64 c.sa,.int .i64 c.lo,.int .i64 c.hi,.map (some d.L),.slice d.A d.cuts.length d.cp,.int .i64 wd.ep,.bool wd.over] 103 (0,0))
 map:a0V skV ldV w d.L d.es
 ne:M≠d.L
 off:∀b,P b→b≠M∧b≠d.L
 rows:∀p∈d.es,d0J P w p.2
 len:d.cuts.length=wd.cuts.length
 row:d0G P 3 fcC w (.slice d.A d.cuts.length d.cp) d.cuts
 cut:∀(i:Nat) x q,d.cuts[i]?=some x→wd.cuts[i]?=some q→x.fr=q.freed∧(q.freed=false→x.ep=q.ep∧∃l,x.m=some l∧P l∧a0V skV ldV w l x.es∧(∀p∈x.es,d0J P w p.2)∧FlHas x.es q.items)
structure c0L (P:Nat→Prop) (w:World) (M:Nat) (c:Cfg) (rs rh n:Nat) (wd:Wd) (d:b0J):Prop extends f0O P w M c wd d where
 tells:b0F c d.es wd
theorem f0O.lt {P:Nat→Prop} {w:World} {M:Nat} {c:Cfg} {wd:Wd} {d:b0J} (h:f0O P w M c wd d):M<w.heap.size:=(Array.getElem?_eq_some_iff.1 h.cell).1
theorem c0L.lt {P:Nat→Prop} {w:World} {M:Nat} {c:Cfg} {rs rh n:Nat} {wd:Wd} {d:b0J} (h:c0L P w M c rs rh n wd d):M<w.heap.size:=h.tof0O.lt
theorem d0G.ltG {α:Type} {P:Nat→Prop} {n:Nat} {f:α→List Value} {w:World} {v:Value} {l:List α} (h:d0G P n f w v l):d0G (fun b=>P b∧b<w.heap.size) n f w v l:=by
 refine ⟨h.1,fun b o m c e hn=>⟨h.2 b o m c e hn,?_⟩⟩;obtain ⟨A,c2,rfl,hl,hx⟩:=h.1;obtain ⟨b2,o2,rfl,hb,-⟩:=hx hn;simp only [Value.slice.injEq,Option.some.injEq,Addr.mk.injEq] at e
 omega
theorem d0G.keepG {α:Type} {P Q:Nat→Prop} {n:Nat} {f:α→List Value} {w w':World} {v:Value} {l:List α} (h:d0G P n f w v l) (hs:w.heap.size≤w'.heap.size) (hk:∀b,P b→b<w.heap.size→w'.heap[b]?=w.heap[b]?∧Q b):d0G Q n f w' v l :=
 (h.ltG.keepP hs (fun b hb hlt=>(hk b hb.1 hlt).1)).imp (fun b hb=>(hk b hb.1 hb.2).2)
theorem d0J.keepG {P Q:Nat→Prop} {w w':World} {x:It} (h:d0J P w x) (hs:w.heap.size≤w'.heap.size) (hk:∀b,P b→b<w.heap.size→w'.heap[b]?=w.heap[b]?∧Q b):d0J Q w' x:=⟨h.1.keepG hs hk,h.2.keepG hs hk⟩
theorem f0O.keep {P Q:Nat→Prop} {w w':World} {M:Nat} {c:Cfg} {wd:Wd} {d:b0J} (h:f0O P w M c wd d) (hs:w.heap.size≤w'.heap.size) (hM:w'.heap[M]?=w.heap[M]?) (hL:w'.heap[d.L]?=w.heap[d.L]?) (hk:∀b,P b→b<w.heap.size→w'.heap[b]?=w.heap[b]?∧Q b) (ho:∀b,Q b→b≠M∧b≠d.L):f0O Q w' M c wd d :=
 ⟨hM.trans h.cell,h.map.block hL,h.ne,ho,fun p hp=>(h.rows p hp).keepG hs hk,h.len,h.row.keepG hs hk,fun i x q hx hq=>⟨(h.cut i x q hx hq).1,fun hf=>by
  obtain ⟨h1,l,h2,h3,h4,h5,h6⟩:=(h.cut i x q hx hq).2 hf;have h7:=hk l h3 h4.lt;exact ⟨h1,l,h2,h7.2,h4.block h7.1,fun p hp=>(h5 p hp).keepG hs hk,h6⟩⟩⟩
theorem c0L.keep {P Q:Nat→Prop} {w w':World} {M:Nat} {c:Cfg} {rs rh n:Nat} {wd:Wd} {d:b0J} (h:c0L P w M c rs rh n wd d) (hs:w.heap.size≤w'.heap.size) (hM:w'.heap[M]?=w.heap[M]?) (hL:w'.heap[d.L]?=w.heap[d.L]?) (hk:∀b,P b→b<w.heap.size→w'.heap[b]?=w.heap[b]?∧Q b) (ho:∀b,Q b→b≠M∧b≠d.L):c0L Q w' M c rs rh n wd d :=
 ⟨h.tof0O.keep hs hM hL hk ho,h.tells⟩
theorem f0O.below {P:Nat→Prop} {w w':World} {M:Nat} {c:Cfg} {wd:Wd} {d:b0J} (h:f0O P w M c wd d) (hb:jB w w'):f0O P w' M c wd d :=
 h.keep hb.size (hb.block _ h.lt) (hb.block _ h.map.lt) (fun b hP hlt=>⟨hb.block b hlt,hP⟩) h.off
theorem c0L.below {P:Nat→Prop} {w w':World} {M:Nat} {c:Cfg} {rs rh n:Nat} {wd:Wd} {d:b0J} (h:c0L P w M c rs rh n wd d) (hb:jB w w'):c0L P w' M c rs rh n wd d :=
 ⟨h.tof0O.below hb,h.tells⟩
theorem d0H {P:Nat→Prop} {M:Nat} {c:Cfg} {rs rh n:Nat} {wd:Wd} {d:b0J} (w:World) (h:c0L P w M c rs rh n wd d) :
 Calls Tryz.prog 57 #[.pointer (some ⟨M,0,none⟩)] w fun e w'=>e=.returned (.bool true)∧w'=w:=by
 obtain ⟨a1,a2,a3⟩:=a0A jR h.cell;have hq:∀W,(binOp .neq 100 (.map (some d.L)) (.map none)).run Tryz.prog W=.ok (.bool true) W:=fun W=>run_neq_map_nil W _ _ _ (some d.L) Tryz.underlying100
 clear h
 go_enter Tryz.func57,Tryz.ntmps57
 go_wp2_with fail
 go_ret
 exact ⟨rfl,rfl⟩
theorem w0P (c:Cfg) (k:Nat) (hk:(k:Int)=c.st):b0F c [] (o0J k):=by
 have hall:d0D (o0J k)=[]:=by
  have:=g1V k;exact List.eq_nil_of_length_eq_zero this
 refine ⟨⟨(fun p hp=>by cases hp),fun s _=>?_⟩,fun p hp=>?_,fun i R hR=>?_,fun R hR=>?_,p0T c k,?_,List.nodup_nil⟩
 · show a0Z (d0D (o0J k)) (b0L s.1)=none
   rw [hall];rfl
 · rw [hall] at hp
   cases hp
 · have:=List.eq_of_mem_replicate (List.mem_of_getElem? hR)
   rw [this];rfl
 · rw [List.eq_of_mem_replicate hR]
   exact List.Pairwise.nil
 · rw [←hk]
   simp [o0J]
theorem l1O (c:Cfg) (rs rh k:Nat) (w:World) (hc:c.ok) (hb:d1J c=0) (hk:(k:Int)=c.st) :
 Calls Tryz.prog 12 #[n0D c] w fun e w'=>∃M d,e=.returned (.pointer (some ⟨M,0,none⟩))∧c0L (fun b=>b≠M∧b≠d.L) w' M c rs rh 0 (o0J k) d∧w.heap.size≤M∧w.heap.size≤d.L∧jB w w':=by
 have CR:=jH (fun W=>f0A c W hc);rw [hb] at CR;have hmm:=@run_makeMap Tryz.prog;have HTL:=jH (w0P c k hk);unfold n0D at CR ⊢;clear hc hb hk
 go_enter Tryz.func12,Tryz.ntmps12
 go_wp2_with (first
  | (go_at_call 46
     refine a0B ?_;intro W1 hW1;have hb1:jB w W1:=by rw [hW1];exact a0C jR _
     have hx1:W1.heap[w.heap.size]?=some (.cells #[.int .i64 c.st,.int .i64 c.sa,.int .i64 c.lo,.int .i64 c.hi] 23 (0,0)):=by rw [hW1];exact heap_alloc_new _ _
     clear hW1;refine (CR.out W1).mono ?_;rintro e w2 ⟨rfl,hb2⟩;have HB2:=jH (a0D hb1 hb2);obtain ⟨a1,a2,a3⟩:=a0A hb2 hx1;clear hb1 hb2 hx1))
 refine a0H ?_;intro W9 hW9;have hW9':W9=(w2.alloc (.map #[] 0)).alloc (.cells #[.int .i64 c.st,.int .i64 c.sa,.int .i64 c.lo,.int .i64 c.hi,.map (some w2.heap.size),.slice none 0 0,.int .i64 0,.bool false] 103 (0,0)):=hW9;have hd9:jB w2 W9:=by rw [hW9'];exact a0C (a0C jR _) _
 have hm9:a0V skV ldV W9 w2.heap.size ([]:List (SK × It)):=by
  rw [hW9'];exact (a0V.made w2).below (a0C jR _)
 have hc9:W9.heap[w2.heap.size+1]?=some (.cells #[.int .i64 c.st,.int .i64 c.sa,.int .i64 c.lo,.int .i64 c.hi,.map (some w2.heap.size),.slice none 0 0,.int .i64 0,.bool false] 103 (0,0)):=by rw [hW9'];exact c0G _ _ _
 clear hW9 hW9';have hs2:=HB2.out.size;have hf9:c0L (fun b=>b≠w2.heap.size+1∧b≠w2.heap.size) W9 (w2.heap.size+1) c rs rh 0 (o0J k) ⟨w2.heap.size,[],none,0,[]⟩ :=
  ⟨⟨hc9,hm9,by show w2.heap.size+1≠w2.heap.size;omega,fun b hb=>hb,(fun p hp=>by cases hp),rfl,d0G.nil,(fun i x q hx hq=>by cases hx)⟩,HTL.out⟩
 exact bodyPost_ret (v:=.pointer (some ⟨w2.heap.size+1,0,none⟩)) (by simp [results,Tryz.results12,go_sem]) rfl ⟨w2.heap.size+1,⟨w2.heap.size,[],none,0,[]⟩,rfl,hf9,by omega,hs2,a0D HB2.out hd9⟩
theorem b1W (M:Nat) (c:Cfg) {cs:Array Value} {T:TypeId} (id:ByteArray) (w:World) (h:w.heap[M]?=some (.cells cs T (0,0))) (h0:cs[0]?=some (.int .i64 c.st)) (hst:e0R c.st=true) (hm:id.size≤maxLen) :
 Calls Tryz.prog 192 #[.pointer (some ⟨M,0,none⟩),.string id] w (jP w (.int .i64 (c0J (b0L id).1 (b0L id).2 c.st))):=by
 have hbd:=d0L _ hst;obtain ⟨pe,hpe⟩:∃pe:Int,h0K id=.tuple #[.agg #[.int .u64 (b0L id).1,.int .u64 (b0L id).2],.int .i64 pe]:=by
  unfold h0K b0L
  cases idS id with
  | true=>exact ⟨0,rfl⟩
  | false=>exact ⟨2,rfl⟩
 have CP:=jH (fun W=>show Calls Tryz.prog 81 #[.string id] W (jP W (.tuple #[.agg #[.int .u64 (b0L id).1,.int .u64 (b0L id).2],.int .i64 pe])) from hpe ▸ j0O id W hm);have hk:=d0K id;have CR:=jH (fun W=>o0D (b0L id).1 (b0L id).2 c.st W hk.1 hk.2 (by unfold I64;omega));generalize b0L id=k at *;have HM:=jH h;have rm:∀U,jB w U→U.cell? ⟨M,0,none⟩=some (.int .i64 c.st):=fun U hU=>((a0A hU h).1 0).trans h0
 have hlt:M<w.heap.size:=(jL h);clear h h0 hpe hk hbd hst hm
 go_enter Tryz.func192,Tryz.ntmps192
 go_upto_region 2 with (first
  | (go_at_call 81
     refine (CP.out w).mono ?_;rintro e w2 ⟨rfl,hb2⟩;have HB2:=jH hb2;clear hb2))
 refine a0J ?_;intro W hW;have hdW:jB w2 W:=by rw [hW];exact a0C jR _
 have hk9:W.heap[w2.heap.size]?=some (.cells #[.int .u64 k.1,.int .u64 k.2] 74 (0,0)):=by rw [hW];exact heap_alloc_new _ _
 have HB:=jH (a0D HB2.out hdW);have HK:=jH hk9;clear hW hdW hk9;have rk:∀U,jB W U→∀j,U.cell? ⟨w2.heap.size,j,none⟩=(#[.int .u64 k.1,.int .u64 k.2]:Array Value)[j]?:=fun U hU j=>(a0A hU HK.out).1 j
 have rn:∀U,jB W U→U.cell? ⟨M,0,none⟩=some (.int .i64 c.st):=fun U hU=>rm U (a0D HB.out hU)
 clear rm;have hS00:jB W W:=jR;have hS0:jB W W.drew:=hS00.drew
 go_region_held3 (fun U=>jB W U)
   (first
     | with_reducible exact hS0
     | with_reducible exact hS00
     | with_reducible exact HB5.out)
   (first
     | (go_at_call 88
        refine a0B ?_;intro V hV;have hd:jB W V:=by rw [hV];first|assumption|exact jR|exact jR.drew
        clear hV;refine (CR.out V).mono ?_;rintro e w5 ⟨rfl,hb5⟩;have HB5:=jH (a0D hd hb5);clear hb5 hd))
 all_goals go_wp2
 all_goals go_ret
 all_goals exact ⟨rfl,a0D HB.out HB5.out⟩
def e0H (base:Nat) (w:World) (y:It):Prop:=b0Q c0B 111 2 base w (.slice y.sA y.nd.smp.length y.sc) y.nd.smp∧b0Q c0U 44 5 base w (.slice y.pA y.nd.past.length y.pc) y.nd.past
theorem e0H.load {base:Nat} {w:World} {y:It} (h:e0H base w y):d0J (fun b=>base≤b) w y:=⟨d0G.own d0C h.1,d0G.own p0Q h.2⟩
theorem h1D {α:Type} {e:TypeId} {n base base':Nat} {f:α→List Value} {w:World} {v:Value} {l:List α} (h:b0Q f e n base w v l) (hb:∀r,v.ownBlock=some r→base'≤r):b0Q f e n base' w v l:=by
 refine ⟨h.1,?_⟩
 rcases h.2 with hn|⟨g,cap,cur,hv,hg,rest⟩
 · exact .inl hn
 · exact .inr ⟨g,cap,cur,hv,hb g (by rw [hv];rfl),rest⟩
theorem g0W {α:Type} {e:TypeId} {n base:Nat} {f:α→List Value} {w:World} {v:Value} {l:List α} {fp:List Nat} (h:j0P f e n w v l fp) (hb:∀r∈fp,base≤r):b0Q f e n base w v l :=
 h1D h.1 (fun r hr=>hb r (by rw [h.2,hr];simp))
theorem e0H.lower {base base':Nat} {w:World} {y:It} (h:e0H base w y) (hb:base'≤base):e0H base' w y:=⟨h.1.lower hb,h.2.lower hb⟩
theorem e0H.kept {base:Nat} {w w':World} {y:It} (h:e0H base w y) (hk:∀r,base≤r→r<w.heap.size→w'.heap[r]?=w.heap[r]?):e0H base w' y :=
 ⟨h.1.kept (fun r hr=>hk r (h.1.lt hr).1 (h.1.lt hr).2),h.2.kept (fun r hr=>hk r (h.2.lt hr).1 (h.2.lt hr).2)⟩
theorem e0H.below {base:Nat} {w w':World} {y:It} (h:e0H base w y) (hb:jB w w'):e0H base w' y:=⟨h.1.below hb,h.2.below hb⟩
def CopyS (w:World) (x:It) (e:Ending) (w':World):Prop :=
 ∃y:It,e=.returned (ldV y)∧y.nd=x.nd∧y.key=x.key∧e0H w.heap.size w' y∧jB w w'
theorem r0K (P:Nat→Prop) (x:It) (w:World) (hx:d0J P w x) (hl1:x.nd.smp.length≤1000000) (hl2:x.nd.past.length≤1000000) :
 Calls Tryz.prog 74 #[ldV x] w (CopyS w x):=by
 have CS:=jH (fun W (hW:jB w W)=>h0Y _ x.nd.smp W (hx.1.1.below hW) hl1);have CA:=jH (fun W (hW:jB w W)=>p0O _ x.nd.past W (hx.2.1.below hW) hl2);obtain ⟨key,sA,sc,pA,pc,nd⟩:=x;unfold ldV ldC;dsimp only at CS CA ⊢;clear hx hl1 hl2
 go_enter Tryz.func74,Tryz.ntmps74
 go_upto_region 1 with fail
 refine a0J ?_;intro W1 hW1;have HB1:=jH (show jB w W1 by rw [hW1];exact a0C (a0C jR _) _);have HX1:=jH (show W1.heap[w.heap.size]?=some (.cells #[.slice sA nd.smp.length sc,.slice pA nd.past.length pc,.int .i64 nd.pol.mn,.int .i64 nd.pol.mx,.int .i64 nd.pol.tg,.int .i64 nd.pol.tol,.int .i64 nd.pol.win,.int .i64 nd.pol.hold,.bool nd.ruled] 60 (0,0)) by rw [hW1];exact d0V _ _ _);have HR1:=jH (show W1.heap[w.heap.size+1]?=some (.cells #[.slice none 0 0,.slice none 0 0,.int .i64 0,.int .i64 0,.int .i64 0,.int .i64 0,.int .i64 0,.int .i64 0,.bool false] 60 (0,0)) by rw [hW1];exact c0G _ _ _)
 have HS1:=jH (show w.heap.size+2≤W1.heap.size by rw [hW1];simp);clear hW1;obtain ⟨b1,b2,b3⟩:=a0A jR HX1.out
 go_region_with (first
  | (go_at_call 127
     have h9:=HBU;refine a0B ?_;intro V hV;have hd:jB w V:=by rw [hV];first|exact HBU.out|exact HBU.out.drew|exact Below.setCell HBU.out (by exact Nat.le_refl _) _|exact (Below.setCell HBU.out (by exact Nat.le_refl _) _).drew
     have hr:V.heap[w.heap.size+1]?=some (.cells #[.slice none 0 0,.slice none 0 0,.int .i64 0,.int .i64 0,.int .i64 0,.int .i64 0,.int .i64 0,.int .i64 0,.bool false] 60 (0,0)):=by rw [hV];first|exact HRU.out|exact a0K HRU.out (by omega)
     have hsz:u1.heap.size≤V.heap.size:=by rw [hV];first|done|exact Nat.le_refl _|simp
     have ho:∀k∈fp4,V.heap[k]?=u1.heap[k]?:=fun k hk=>by rw [hV];first|done|rfl|exact a0K rfl (by have:=HQ4.out.2 k hk;omega)
     (first
       | (have hx:V.heap[w.heap.size]?=some (.cells #[.slice sA nd.smp.length sc,.slice pA nd.past.length pc,.int .i64 nd.pol.mn,.int .i64 nd.pol.mx,.int .i64 nd.pol.tg,.int .i64 nd.pol.tol,.int .i64 nd.pol.win,.int .i64 nd.pol.hold,.bool nd.ruled] 60 (0,0)):=by rw [hV];exact HXU.out)
       | (have hx:V.heap[w.heap.size]?=some (.cells #[.slice sA nd.smp.length sc,.slice A4 nd.past.length c4,.int .i64 nd.pol.mn,.int .i64 nd.pol.mx,.int .i64 nd.pol.tg,.int .i64 nd.pol.tol,.int .i64 nd.pol.win,.int .i64 nd.pol.hold,.bool nd.ruled] 60 (0,0)):=by rw [hV];exact a0E HXU.out))
     clear hV;have hlt:=(jL hr);refine (CS.out V hd).mono ?_;rintro e u2 ⟨A3,c3,fp3,rfl,hq,hf,hb⟩;have HBV:=jH (a0D hd hb);have HXV:=jH (jK hb hx);have HRV:=jH ((hb.block _ hlt).trans hr);have HG3:=jH (And.intro hq (show ∀k∈fp3,w.heap.size+2≤k from fun k hk=>Nat.le_trans hlt (hf k hk)));have HG4:=jH (And.intro (HQ4.out.1.kept (fun r hr9=>(hb.block r (Nat.lt_of_lt_of_le (HQ4.out.1.lt r hr9) hsz)).trans (ho r hr9))) HQ4.out.2)
     obtain ⟨x4,x5,x6⟩:=a0A jR HXV.out;obtain ⟨r1,r2,r3⟩:=a0A jR HRV.out;clear hq hf hb hd hr ho hx hlt hsz x1 x2 x3)
  | (go_at_call 137
     have h9:=HBU;refine a0B ?_;intro V hV;have hd:jB w V:=by rw [hV];first|exact HBU.out|exact HBU.out.drew|exact Below.setCell HBU.out (by exact Nat.le_refl _) _|exact (Below.setCell HBU.out (by exact Nat.le_refl _) _).drew
     have hr:V.heap[w.heap.size+1]?=some (.cells #[.slice none 0 0,.slice none 0 0,.int .i64 0,.int .i64 0,.int .i64 0,.int .i64 0,.int .i64 0,.int .i64 0,.bool false] 60 (0,0)):=by rw [hV];first|exact HRU.out|exact a0K HRU.out (by omega)
     have hsz:u1.heap.size≤V.heap.size:=by rw [hV];first|done|exact Nat.le_refl _|simp
     have ho:∀k∈fp3,V.heap[k]?=u1.heap[k]?:=fun k hk=>by rw [hV];first|done|rfl|exact a0K rfl (by have:=HQ3.out.2 k hk;omega)
     (first
       | (have hx:V.heap[w.heap.size]?=some (.cells #[.slice sA nd.smp.length sc,.slice pA nd.past.length pc,.int .i64 nd.pol.mn,.int .i64 nd.pol.mx,.int .i64 nd.pol.tg,.int .i64 nd.pol.tol,.int .i64 nd.pol.win,.int .i64 nd.pol.hold,.bool nd.ruled] 60 (0,0)):=by rw [hV];exact HXU.out)
       | (have hx:V.heap[w.heap.size]?=some (.cells #[.slice A3 nd.smp.length c3,.slice pA nd.past.length pc,.int .i64 nd.pol.mn,.int .i64 nd.pol.mx,.int .i64 nd.pol.tg,.int .i64 nd.pol.tol,.int .i64 nd.pol.win,.int .i64 nd.pol.hold,.bool nd.ruled] 60 (0,0)):=by rw [hV];exact a0E HXU.out))
     clear hV;have hlt:=(jL hr);refine (CA.out V hd).mono ?_;rintro e u2 ⟨A4,c4,fp4,rfl,hq,hf,hb⟩;have HBV:=jH (a0D hd hb);have HXV:=jH (jK hb hx);have HRV:=jH ((hb.block _ hlt).trans hr);have HG4:=jH (And.intro hq (show ∀k∈fp4,w.heap.size+2≤k from fun k hk=>Nat.le_trans hlt (hf k hk)));have HG3:=jH (And.intro (HQ3.out.1.kept (fun r hr9=>(hb.block r (Nat.lt_of_lt_of_le (HQ3.out.1.lt r hr9) hsz)).trans (ho r hr9))) HQ3.out.2)
     obtain ⟨x4,x5,x6⟩:=a0A jR HXV.out;obtain ⟨r1,r2,r3⟩:=a0A jR HRV.out;clear hq hf hb hd hr ho hx hlt hsz x1 x2 x3)
  | (go_at_call 127
     refine a0B ?_;intro V hV;have hd:jB W1 V:=by rw [hV];first|exact jR|exact jR.drew
     clear hV;refine (CS.out V (a0D HB1.out hd)).mono ?_;rintro e u1 ⟨A3,c3,fp3,rfl,hq,hf,hb⟩;have hd1:=a0D hd hb;have HBU:=jH (a0D HB1.out hd1);have HXU:=jH (jK hd1 HX1.out);have HRU:=jH (jK hd1 HR1.out);have HQ3:=jH (And.intro hq (show ∀k∈fp3,w.heap.size+2≤k from fun k hk=>Nat.le_trans (Nat.le_trans HS1.out hd.size) (hf k hk)));obtain ⟨x1,x2,x3⟩:=a0A jR HXU.out;clear hq hf hb hd hd1 b1 b2 b3)
  | (go_at_call 137
     refine a0B ?_;intro V hV;have hd:jB W1 V:=by rw [hV];first|exact jR|exact jR.drew
     clear hV;refine (CA.out V (a0D HB1.out hd)).mono ?_;rintro e u1 ⟨A4,c4,fp4,rfl,hq,hf,hb⟩;have hd1:=a0D hd hb;have HBU:=jH (a0D HB1.out hd1);have HXU:=jH (jK hd1 HX1.out);have HRU:=jH (jK hd1 HR1.out);have HQ4:=jH (And.intro hq (show ∀k∈fp4,w.heap.size+2≤k from fun k hk=>Nat.le_trans (Nat.le_trans HS1.out hd.size) (hf k hk)));obtain ⟨x1,x2,x3⟩:=a0A jR HXU.out;clear hq hf hb hd hd1 b1 b2 b3))
 all_goals
   refine a0Y ?_;intro W9 hW9;have hx9:W9.heap[w.heap.size]?=some (.cells #[.slice A3 nd.smp.length c3,.slice A4 nd.past.length c4,.int .i64 nd.pol.mn,.int .i64 nd.pol.mx,.int .i64 nd.pol.tg,.int .i64 nd.pol.tol,.int .i64 nd.pol.win,.int .i64 nd.pol.hold,.bool nd.ruled] 60 (0,0)):=by rw [hW9];first|exact a0E (a0E HXV.out)|exact a0E HXV.out
   have hr9:W9.heap[w.heap.size+1]?=some (.cells #[.slice none 0 0,.slice none 0 0,.int .i64 0,.int .i64 0,.int .i64 0,.int .i64 0,.int .i64 0,.int .i64 0,.bool false] 60 (0,0)):=by rw [hW9];first|exact a0K (a0K HRV.out (by omega)) (by omega)|exact a0K HRV.out (by omega)
   have hb9:jB w W9:=by rw [hW9];repeat (first|exact HBV.out|refine Below.setCell ?_ (by exact Nat.le_refl _) _)
   have hk9:∀k,w.heap.size+2≤k→W9.heap[k]?=u2.heap[k]?:=fun k hk=>by rw [hW9];first|exact a0K (a0K rfl (by omega)) (by omega)|exact a0K rfl (by omega)
   have HB9:=jH hb9;have HK9:=jH hk9;have HR9:=jH hr9;clear hW9 hb9 hk9 x4 x5 x6 r1 r2 r3;obtain ⟨x7,x8,x9⟩:=a0A jR hx9;obtain ⟨r1,r2,r3⟩:=a0A jR hr9;clear hx9 hr9;go_wp2_with fail
   refine a0H ?_;intro V9 hV9;have hV9':V9=c0T W9 (w.heap.size+1) 0 [.slice A3 nd.smp.length c3,.slice A4 nd.past.length c4,.int .i64 nd.pol.mn,.int .i64 nd.pol.mx,.int .i64 nd.pol.tg,.int .i64 nd.pol.tol,.int .i64 nd.pol.win,.int .i64 nd.pol.hold,.bool nd.ruled]:=hV9;obtain ⟨t1,t2,t3,t4⟩:=a0M HR9.out [.slice A3 nd.smp.length c3,.slice A4 nd.past.length c4,.int .i64 nd.pol.mn,.int .i64 nd.pol.mx,.int .i64 nd.pol.tg,.int .i64 nd.pol.tol,.int .i64 nd.pol.win,.int .i64 nd.pol.hold,.bool nd.ruled] rfl V9 hV9'
   obtain ⟨a9,a8,a7⟩:=a0A jR t1;clear hV9 hV9';have hk:∀k,w.heap.size+2≤k→V9.heap[k]?=u2.heap[k]?:=fun k hk=>(t2 k (by omega)).trans (HK9.out k hk)
   exact bodyPost_ret (v:=.agg #[.slice A3 nd.smp.length c3,.slice A4 nd.past.length c4,.int .i64 nd.pol.mn,.int .i64 nd.pol.mx,.int .i64 nd.pol.tg,.int .i64 nd.pol.tol,.int .i64 nd.pol.win,.int .i64 nd.pol.hold,.bool nd.ruled]) (by simp [results,Tryz.results74,go_sem,a9]) rfl
     ⟨⟨key,A3,c3,A4,c4,nd⟩,rfl,rfl,rfl,⟨g0W (HG3.out.1.kept (fun r hr=>hk r (HG3.out.2 r hr))) (fun r hr=>by have:=HG3.out.2 r hr;omega),g0W (HG4.out.1.kept (fun r hr=>hk r (HG4.out.2 r hr))) (fun r hr=>by have:=HG4.out.2 r hr;omega)⟩,HB9.out.trans (t4 _ (Nat.le_succ _))⟩
def o0K:It:=⟨(0,0),none,0,none,0,nd0⟩
def r0Q (w:World) (o:Option It) (e:Ending) (w':World):Prop :=
 ∃y:It,e=.returned (.tuple #[ldV y,.bool o.isSome])∧y.nd=(o.getD o0K).nd∧e0H w.heap.size w' y∧jB w w'
theorem i0U {w:World} {L:Nat} {es:List (SK × It)} (h:a0V skV ldV w L es) (s:SK) (cm:Bool) {W:World} (hW:W.heap[L]?=w.heap[L]?) :
 (Instr.lookup 100 (.map (some L)) (.string s.1) cm).run Tryz.prog W=.ok (if cm then .tuple #[ldV ((a0L es s).getD o0K),.bool (d0B es s)] else ldV ((a0L es s).getD o0K)) W:=by
 have h1:=a0V.look (V:=ldV) (h.block hW) z0I Tryz.underlying100 (Tryz.zeroValue60 W) cm s;have h2:((a0L es s).map ldV).getD (ldV o0K)=ldV ((a0L es s).getD o0K):=by cases a0L es s <;> rfl
 rw [←h2];exact h1
theorem k0X (es:List (SK × It)) (s:SK):(a0L es s).isSome=d0B es s:=by
 cases h:d0B es s with
 | false=>rw [f0G h];rfl
 | true=>obtain ⟨v,hv,_⟩:=c0F h;rw [hv];rfl
theorem l0H {P:Nat→Prop} {M:Nat} {c:Cfg} {rs rh n:Nat} {wd:Wd} {d:b0J} (s:SK) (w:World) (h:c0L P w M c rs rh n wd d) (hl:∀p∈d.es,p.2.nd.smp.length≤1000000∧p.2.nd.past.length≤1000000) :
 Calls Tryz.prog 22 #[.pointer (some ⟨M,0,none⟩),.string s.1] w (r0Q w (a0L d.es s)):=by
 obtain ⟨o,ho⟩:∃o,o=a0L d.es s:=⟨_,rfl⟩;rw [←ho];have hx:d0J (fun b=>P b∨False) w (o.getD o0K)∧(o.getD o0K).nd.smp.length≤1000000∧(o.getD o0K).nd.past.length≤1000000:=by
  cases hf:o with
  | none=>exact ⟨⟨d0G.nil,d0G.nil⟩,by decide,by decide⟩
  | some x =>
    rw [hf] at ho;have hm:=b0B ho.symm;exact ⟨(h.rows _ hm).imp (fun b hb=>.inl hb),(hl _ hm).1,(hl _ hm).2⟩
 have CM:=jH (fun W (hW:jB w W)=>d0H W (h.below hW));have CC:=jH (fun W (hW:jB w W)=>r0K _ (o.getD o0K) W (hx.1.below hW) hx.2.1 hx.2.2);have hlk:=fun (W:World) (hW:jB w W)=>i0U h.map s true (hW.block d.L h.map.lt)
 rw [←ho,←k0X,←ho] at hlk;have HC:=jH h.cell;have HLM:=jH h.lt;obtain ⟨x,hxx⟩:∃x,x=o.getD o0K:=⟨_,rfl⟩;rw [←hxx] at CC hlk;unfold ldV ldC at CC hlk;simp only [↓reduceIte] at hlk
 have HXX:=jH hxx;obtain ⟨ob,hob⟩:∃b,b=o.isSome:=⟨_,rfl⟩;rw [←hob] at hlk;have HOB:=jH hob.symm;clear hob;have HLK:=jH hlk;clear h hl hx ho hlk hxx
 go_enter Tryz.func22,Tryz.ntmps22
 go_upto_region 4 with (first
  | (go_at_call 57
     refine a0B ?_;intro W1 hW1;have hb1:jB w W1:=by rw [hW1];exact a0C jR _
     have HR1:=jH (show W1.heap[w.heap.size]?=some (.cells #[.slice none 0 0,.slice none 0 0,.int .i64 0,.int .i64 0,.int .i64 0,.int .i64 0,.int .i64 0,.int .i64 0,.bool false] 60 (0,0)) by rw [hW1];exact heap_alloc_new _ _);have HB1:=jH hb1;clear hW1 hb1;refine (CM.out W1 HB1.out).mono ?_;rintro e w2 ⟨rfl,rfl⟩;obtain ⟨a1,a2,a3⟩:=a0A HB1.out HC.out;have hq:=HLK.out w2 HB1.out))
 refine a0J ?_;intro W3 hW3;have hd3:jB w2 W3:=by rw [hW3];exact a0C jR _
 have HX3:=jH (show W3.heap[w2.heap.size]?=some (.cells #[.slice x.sA x.nd.smp.length x.sc,.slice x.pA x.nd.past.length x.pc,.int .i64 x.nd.pol.mn,.int .i64 x.nd.pol.mx,.int .i64 x.nd.pol.tg,.int .i64 x.nd.pol.tol,.int .i64 x.nd.pol.win,.int .i64 x.nd.pol.hold,.bool x.nd.ruled] 60 (0,0)) by rw [hW3];exact heap_alloc_new _ _);have HR3:=jH (jK hd3 HR1.out);have HB3:=jH (a0D HB1.out hd3);clear hW3 hd3 a1 a2 a3 hq
 obtain ⟨b1,b2,b3⟩:=a0A jR HX3.out
 go_wp2_with (first
  | (go_at_call 74
     refine (CC.out W3 HB3.out).mono ?_;rintro e w4 ⟨y,rfl,hy1,hy2,hy3,hb4⟩;unfold ldV ldC;have HR4:=jH (jK hb4 HR3.out);have HB4:=jH (a0D HB3.out hb4);have HY1:=jH hy1;have HY3:=jH hy3;have HS3:=jH (show w.heap.size<W3.heap.size from (jL HR3.out));obtain ⟨r1,r2,r3⟩:=a0A jR HR4.out;clear hy1 hy2 hy3 hb4 b1 b2 b3))
 refine a0H ?_;intro W9 hW9;have hW9':W9=c0T w4 w.heap.size 0 [.slice y.sA y.nd.smp.length y.sc,.slice y.pA y.nd.past.length y.pc,.int .i64 y.nd.pol.mn,.int .i64 y.nd.pol.mx,.int .i64 y.nd.pol.tg,.int .i64 y.nd.pol.tol,.int .i64 y.nd.pol.win,.int .i64 y.nd.pol.hold,.bool y.nd.ruled]:=hW9;obtain ⟨t1,t2,t3,t4⟩:=a0M HR4.out [.slice y.sA y.nd.smp.length y.sc,.slice y.pA y.nd.past.length y.pc,.int .i64 y.nd.pol.mn,.int .i64 y.nd.pol.mx,.int .i64 y.nd.pol.tg,.int .i64 y.nd.pol.tol,.int .i64 y.nd.pol.win,.int .i64 y.nd.pol.hold,.bool y.nd.ruled] rfl W9 hW9'
 obtain ⟨a9,a8,a7⟩:=a0A jR t1;clear hW9 hW9';have hs3:=HS3.out;have hk:∀b,W3.heap.size≤b→b<w4.heap.size→W9.heap[b]?=w4.heap[b]?:=fun b hb _=>t2 b (by omega)
 exact bodyPost_ret (v:=.tuple #[.agg #[.slice y.sA y.nd.smp.length y.sc,.slice y.pA y.nd.past.length y.pc,.int .i64 y.nd.pol.mn,.int .i64 y.nd.pol.mx,.int .i64 y.nd.pol.tg,.int .i64 y.nd.pol.tol,.int .i64 y.nd.pol.win,.int .i64 y.nd.pol.hold,.bool y.nd.ruled],.bool ob]) (by simp [results,Tryz.results22,go_sem,a9]) rfl
   ⟨y,by rw [HOB.out];rfl,by rw [HY1.out,HXX.out],(HY3.out.kept hk).lower (by omega),HB4.out.trans (t4 _ (Nat.le_refl _))⟩
end
end Go.Proofs.YtmniiodpbebnmaaGreat
