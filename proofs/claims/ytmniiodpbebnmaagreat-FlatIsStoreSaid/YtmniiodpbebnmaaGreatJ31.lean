/- Part 31 of the proof. -/
import Derived.Test.YtmniiodpbebnmaaGreatJ30
namespace Go.Proofs.YtmniiodpbebnmaaGreat
set_option linter.unusedSimpArgs false
set_option linter.unusedVariables false
set_option linter.unusedSectionVars false
set_option maxRecDepth 100000
set_option maxHeartbeats 16000000
section
open Go.RowKit Go.Lib Go.Sort
open Go.ChangeMaps (setBlock)
section
theorem i1M {w:World} {L:Nat} {es:List (HN × Nat)} (h:a0V hdV o0H w L es) (x:HN) (W:World) (hW:W.heap[L]?=w.heap[L]?) :
 (Instr.lookup 227 (.map (some L)) (.int .i64 (x.1:Nat)) false).run Tryz.prog W=.ok (((a0L es x).map o0H).getD (.pointer none)) W:=by
 have:=a0V.look (V:=o0H) (h.block hW) g1W Tryz.underlying227 (Tryz.zeroValue83 W) false x
 simpa [hdV] using this
theorem k1H {w:World} {L:Nat} {es:List (HN × Nat)} (h:a0V hdV o0H w L es) (x:HN) (b:Nat) :
 ∃o,(Instr.mapUpdate 227 (.map (some L)) (.int .i64 (x.1:Nat)) (.pointer (some ⟨b,0,none⟩))).run Tryz.prog w=.ok () (setBlock w L o)∧a0V hdV o0H (setBlock w L o) L (d0F es x b) :=
 a0V.store (V:=o0H) h g1W Tryz.underlying227 x b
theorem o1H {w:World} {L:Nat} {es:List (HN × Nat)} (h:a0V hdV o0H w L es) (x:HN) (ty:TypeId) :
 ∃o,(Builtin.delete_ #[227,3] ty #[.map (some L),.int .i64 (x.1:Nat)]).run Tryz.prog w=.ok (.tuple #[]) (setBlock w L o)∧a0V hdV o0H (setBlock w L o) L (r0G es x) :=
 a0V.drop (V:=o0H) h g1W Tryz.underlying227 x ty
theorem n1N {w:World} {L:Nat} {es:List (HN × Nat)} (h:a0V hdV o0H w L es) (ty:TypeId):(Builtin.len_ #[227] ty #[.map (some L)]).run Tryz.prog w=.ok (.int .i64 es.length) w :=
 a0V.len (V:=o0H) h Tryz.underlying227 ty
section
variable {B:Nat→Prop} {S:Nat} {c:Cfg} {rs rh n:Nat} {wd:Wd} {d:d0Y}
theorem a0I.find {w:World} (h:a0I B w S c rs rh n wd d) (hl:wd.cuts.length≤900000) (hep:∀q∈wd.cuts,0≤q.ep) (i:Nat) (hi:i<wd.cuts.length) :
 (a0L d.live (hdl (i+1))=none∧b0U (c0I wd) ((i+1:Nat):Int)=8)∨∃C q,a0L d.live (hdl (i+1))=some C∧b0U (c0I wd) ((i+1:Nat):Int)=0∧wd.cuts[i]?=some q∧q.freed=false∧d0X (fun b=>b∉d.fp S∧B b) w C rs rh q.ep q.items:=by
 have hq:=List.getElem?_eq_getElem hi;have htl:(c0I wd).length=wd.cuts.length:=by simp [c0I]
 have ht:(c0I wd)[i]?=some (if wd.cuts[i].freed=true then -1 else wd.cuts[i].ep):=by
  unfold c0I;rw [List.getElem?_map,hq];rfl
 have hf:b0U (c0I wd) ((i+1:Nat):Int)=if (if wd.cuts[i].freed=true then -1 else wd.cuts[i].ep)<0 then 8 else 0:=by
  unfold b0U;rw [if_neg (by omega),show ((i+1:Nat):Int).toNat - 1=i by omega,ht]
 have he:=hep _ (List.getElem_mem hi)
 rcases h.cut i _ hq with ⟨h1,h2⟩|⟨h1,C,h2,h3⟩
 · refine .inl ⟨h2,?_⟩
   rw [hf,if_pos h1];rfl
 · refine .inr ⟨C,_,h2,?_,hq,h1,h3⟩
   have hn:¬wd.cuts[i].ep<0:=by omega
   rw [hf,h1];simp [hn]
theorem h0H {t:List Int} {k:Int} (h:k<1∨(t.length:Nat)<k):b0U t k=5:=by
 unfold b0U;rw [if_pos h]
theorem g0Q (w:World) (h:a0I B w S c rs rh n wd d) (hl:wd.cuts.length≤900000) (hep:∀q∈wd.cuts,0≤q.ep) (k:Int) :
 Calls Tryz.prog 164 #[.pointer (some ⟨d.H,0,none⟩),.int .i64 k] w fun e w'=>e=.returned (.int .i64 (b0U (c0I wd) k))∧w'=w:=by
 obtain ⟨a1,a2,a3⟩:=a0A jR h.tab;have htl:(c0I wd).length=wd.cuts.length:=by simp [c0I]
 by_cases h1:k<1
 · rw [h0H (.inl h1)]
   clear h
   go_enter Tryz.func164,Tryz.ntmps164
   go_wp2
   go_ret
   exact ⟨rfl,rfl⟩
 · by_cases h2:(wd.cuts.length:Int)<k
   · rw [h0H (.inr (by rw [htl];exact h2))]
     have z:((wd.cuts.length+1:Nat):Int)≤k:=by omega
     generalize ((wd.cuts.length+1:Nat):Int)=m at a1 z;clear h
     go_enter Tryz.func164,Tryz.ntmps164
     go_wp2
     go_ret
     exact ⟨rfl,rfl⟩
   · obtain ⟨i,rfl⟩:∃i:Nat,k=((i+1:Nat):Int):=⟨k.toNat - 1,by omega⟩
     have hi:i<wd.cuts.length:=by omega
     have hlk:=i1M h.live (hdl (i+1)) w rfl;rw [h0R (by omega)] at hlk;have z:¬((wd.cuts.length+1:Nat):Int)≤((i+1:Nat):Int):=by omega
     have z1:¬((i+1:Nat):Int)<1:=h1
     rcases h.find hl hep i hi with ⟨e1,e2⟩|⟨C,q,e1,e2,_⟩
     · rw [e2]
       rw [e1] at hlk;simp only [Option.map_none,Option.getD_none] at hlk
       generalize ((wd.cuts.length+1:Nat):Int)=m at a1 z;generalize ((i+1:Nat):Int)=k at *;clear h e1 e2 h1 h2
       go_enter Tryz.func164,Tryz.ntmps164
       go_wp2
       go_ret
       exact ⟨rfl,rfl⟩
     · rw [e2]
       rw [e1] at hlk;simp only [Option.map_some,Option.getD_some,o0H] at hlk
       generalize ((wd.cuts.length+1:Nat):Int)=m at a1 z;generalize ((i+1:Nat):Int)=k at *;clear h e1 e2 h1 h2
       go_enter Tryz.func164,Tryz.ntmps164
       go_wp2
       go_ret
       exact ⟨rfl,rfl⟩
theorem a1S (w:World) (h:a0I B w S c rs rh n wd d) (hl:wd.cuts.length≤900000) (hep:∀q∈wd.cuts,0≤q.ep) (k:Int) (hk:b0U (c0I wd) k≠0) :
 Calls Tryz.prog 95 #[.pointer (some ⟨d.H,0,none⟩),.int .i64 k] w fun e w'=>e=.returned (.tuple #[.pointer none,.int .i64 (b0U (c0I wd) k)])∧w'=w:=by
 have HF:=jH (g0Q w h hl hep k);generalize b0U (c0I wd) k=e at HF hk ⊢;have z:¬e=0:=hk;clear h hk
 go_enter Tryz.func95,Tryz.ntmps95
 go_wp2_with (go_at_call 164;refine HF.out.mono ?_;rintro e w' ⟨rfl,rfl⟩)
 go_ret2
 exact ⟨rfl,rfl⟩
theorem f1D (w:World) (h:a0I B w S c rs rh n wd d) (hl:wd.cuts.length≤900000) (hep:∀q∈wd.cuts,0≤q.ep) (i:Nat) (hi:i<wd.cuts.length) (C:Nat) (hC:a0L d.live (hdl (i+1))=some C) (hk:b0U (c0I wd) ((i+1:Nat):Int)=0) :
 Calls Tryz.prog 95 #[.pointer (some ⟨d.H,0,none⟩),.int .i64 ((i+1:Nat):Int)] w fun e w'=>e=.returned (.tuple #[.pointer (some ⟨C,0,none⟩),.int .i64 0])∧w'=w:=by
 have HF:=jH (g0Q w h hl hep ((i+1:Nat):Int));rw [hk] at HF;obtain ⟨a1,a2,a3⟩:=a0A jR h.tab;have hlk:=i1M h.live (hdl (i+1)) w rfl;rw [h0R (by omega),hC] at hlk;simp only [Option.map_some,Option.getD_some,o0H] at hlk
 generalize ((wd.cuts.length+1:Nat):Int)=m at a1;generalize ((i+1:Nat):Int)=k at *;clear h hk hC
 go_enter Tryz.func95,Tryz.ntmps95
 go_wp2_with (go_at_call 164;refine HF.out.mono ?_;rintro e w' ⟨rfl,rfl⟩)
 go_ret2
 exact ⟨rfl,rfl⟩
end
end
section
theorem c0Q {w:World} {b i:Nat} {v:Value} {k:Nat} (h:k≠b):(w.setCell ⟨b,i,none⟩ v).heap[k]?=w.heap[k]?:=a0K rfl h
theorem o1S {w:World} {b i:Nat} {v:Value} {fp:List Nat} (h:b∈fp):Upd w (w.setCell ⟨b,i,none⟩ v) fp fp :=
 ⟨rfl,rfl,rfl,Nat.le_of_eq (by simp),fun r _ hn=>c0Q (fun e=>hn (by rw [e];exact h)),fun r hr=>.inl hr⟩
theorem h1Y {w:World} {b:Nat} {o:Obj} {fp:List Nat} (h:b∈fp):Upd w (setBlock w b o) fp fp :=
 ⟨rfl,rfl,rfl,Nat.le_of_eq d0I.symm,fun r _ hn=>b0I (fun e=>hn (by rw [e];exact h)),fun r hr=>.inl hr⟩
theorem f1B {t:List Int} {i:Nat} (hi:i<t.length) (h:0≤t[i]):n0C (t.set i (-1))+1=n0C t:=by
 unfold n0C;rw [List.countP_set hi];have h1:0<List.countP (fun n=>decide (0≤n)) t:=List.countP_pos_iff.2 ⟨t[i],List.getElem_mem hi,by simpa using h⟩;simp [h]
 omega
theorem m1D {α β:Type} [DecidableEq α] {es:List (α × β)} (hn:(es.map (·.1)).Nodup) {x:α} {v:β} (h:a0L es x=some v):(r0G es x).length+1=es.length:=by
 have hm:=b0B h;obtain ⟨j,hj⟩:=List.getElem?_of_mem hm;rw [l0Q hn hj,List.length_eraseIdx];have:=(List.getElem?_eq_some_iff.1 hj).1;rw [if_pos this];omega
theorem c1F {α β:Type} [DecidableEq α] (es:List (α × β)) (x y:α):a0L (r0G es x) y=if y=x then none else a0L es y:=by
 unfold a0L r0G;rw [List.find?_filter]
 by_cases h:y=x
 · subst h
   rw [if_pos rfl,List.find?_eq_none.2]
   · rfl
   · intro p _
     by_cases e:p.1=y <;> simp [e]
 · rw [if_neg h]
   congr 1
   congr 1
   funext p
   by_cases e:p.1=y
   · simp [e,h]
   · simp [e]
section
variable {B:Nat→Prop} {S:Nat} {c:Cfg} {rs rh n:Nat} {wd:Wd} {d:d0Y}
theorem a0I.own3 {w w':World} {wd':Wd} {d':d0Y} (h:a0I B w S c rs rh n wd d) (hs:w.heap.size=w'.heap.size) (hk:∀r,r≠S→r≠d.H→r≠d.L→w'.heap[r]?=w.heap[r]?)
    (e1:d'.A=d.A) (e2:d'.cp=d.cp) (e3:d'.H=d.H) (e4:d'.L=d.L) (e5:d'.sts=d.sts) (e6:wd'.st=wd.st)
    (hcell:w'.heap[S]?=some (.cells #[.slice (some ⟨d.A,0,none⟩) d.sts.length d.cp,.pointer (some ⟨d.H,0,none⟩),.int .i64 wd'.ep,.bool wd'.over] 148 (0,0)))
    (htab:w'.heap[d.H]?=some (.cells #[.map (some d.L),.int .i64 ((wd'.cuts.length+1:Nat):Int)] 229 (0,0)))
    (hlive:a0V hdV o0H w' d.L d'.live) (hkeys:∀p∈d'.live,1≤p.1.1∧p.1.1≤wd'.cuts.length) (hcnt:d'.live.length=n0C (c0I wd'))
    (hcut:∀(i:Nat) q,wd'.cuts[i]?=some q→(q.freed=true∧a0L d'.live (hdl (i+1))=none)∨(q.freed=false∧∃C,a0L d'.live (hdl (i+1))=some C∧d0X (fun b=>b∉d.fp S∧B b) w' C rs rh q.ep q.items)) :
    a0I B w' S c rs rh n wd' d'∧d'.fp S=d.fp S:=by
  obtain ⟨A',cp',H',L',sts',live'⟩:=d';obtain ⟨A,cp,H,L,sts,live⟩:=d;simp only at *
  subst e1 e2 e3 e4 e5;have hfp:d0Y.fp S ⟨A',cp',H',L',sts',live'⟩=d0Y.fp S ⟨A',cp',H',L',sts',live⟩:=rfl;have ha:∀s∈sts',∀r∈s.all,w'.heap[r]?=w.heap[r]?:=fun s hs' r hr=>hk r (fun e=>(h.off s hs').1 (by rw [←e];exact hr)) (fun e=>(h.off s hs').2.1 (by rw [←e];exact hr)) (fun e=>(h.off s hs').2.2 (by rw [←e];exact hr))
  refine ⟨⟨hcell,?_,by rw [e6];exact h.len,fun i s R hs' hR=>?_,h.pair,h.off,h.ne,htab,hlive,hkeys,fun i q hq=>?_,hcnt,h.bS,h.bs⟩,hfp⟩
  · exact h.row.keepP (Nat.le_of_eq hs) (fun b hb _=>hk b (fun e=>hb.1 (c0E.2 (.inl e))) (fun e=>hb.1 (c0E.2 (.inr (.inl e)))) (fun e=>hb.1 (c0E.2 (.inr (.inr (.inl e))))))
  · rw [e6] at hR
    exact (h.str i s R hs' hR).kept (ha s (List.mem_of_getElem? hs'))
  · exact hcut i q hq
theorem w0M (w:World) (h:a0I B w S c rs rh n wd d) (hl:wd.cuts.length≤900000) (hep:∀q∈wd.cuts,0≤q.ep) (k:Int) (hk:b0U (c0I wd) k≠0) :
 Calls Tryz.prog 96 #[.pointer (some ⟨d.H,0,none⟩),.int .i64 k] w fun e w'=>e=.returned (.int .i64 (b0U (c0I wd) k))∧w'=w:=by
 have HF:=jH (g0Q w h hl hep k);generalize b0U (c0I wd) k=e at HF hk ⊢;have z:¬e=0:=hk;clear h hk
 go_enter Tryz.func96,Tryz.ntmps96
 go_wp2_with (go_at_call 164;refine HF.out.mono ?_;rintro e w' ⟨rfl,rfl⟩)
 go_ret
 exact ⟨rfl,rfl⟩
theorem z0Q (w:World) (h:a0I B w S c rs rh n wd d) (hl:wd.cuts.length≤900000) (hep:∀q∈wd.cuts,0≤q.ep) (i:Nat) (hi:i<wd.cuts.length) (hk:b0U (c0I wd) ((i+1:Nat):Int)=0) :
 Calls Tryz.prog 96 #[.pointer (some ⟨d.H,0,none⟩),.int .i64 ((i+1:Nat):Int)] w fun e w'=>e=.returned (.int .i64 0)∧∃o,w'=setBlock w d.L o∧a0V hdV o0H w' d.L (r0G d.live (hdl (i+1))):=by
 have HF:=jH (g0Q w h hl hep ((i+1:Nat):Int));rw [hk] at HF;obtain ⟨a1,a2,a3⟩:=a0A jR h.tab;have hd:=fun ty=>o1H h.live (hdl (i+1)) ty
 obtain ⟨o,ho1,ho2⟩:=hd 0;have ho:∀ty,(Builtin.delete_ #[227,3] ty #[.map (some d.L),.int .i64 ((i+1:Nat):Int)]).run Tryz.prog w=.ok (.tuple #[]) (setBlock w d.L o):=fun ty=>by
  rw [h0R (by omega)] at ho1;exact ho1
 have HO2:=jH ho2;generalize ((wd.cuts.length+1:Nat):Int)=m at a1;generalize ((i+1:Nat):Int)=k at *;clear h hk hd ho1 ho2
 go_enter Tryz.func96,Tryz.ntmps96
 go_wp2_with (first
  | (go_at_call 164;refine HF.out.mono ?_;rintro e w' ⟨rfl,rfl⟩))
 go_ret
 exact ⟨rfl,o,rfl,HO2.out⟩
theorem x0C (w:World) (h:a0I B w S c rs rh n wd d) (hp:0<d.sts.length) (hl:wd.cuts.length≤900000) (hep:∀q∈wd.cuts,0≤q.ep) (k:Int) (hk:b0U (c0I wd) k≠0) :
 Calls Tryz.prog 36 #[.pointer (some ⟨S,0,none⟩),.int .i64 k] w fun e w'=>e=.returned (.int .i64 (b0U (c0I wd) k))∧w'=w:=by
 obtain ⟨a1,a2,a3⟩:=a0A jR h.cell;have HM:=jH (c0K w h hp);have HF:=jH (w0M w h hl hep k hk);generalize b0U (c0I wd) k=e at HF ⊢;clear h hk hep
 go_enter Tryz.func36,Tryz.ntmps36
 go_wp2_with (first
  | (go_at_call 80;refine HM.out.mono ?_;rintro e w' ⟨rfl,rfl⟩)
  | (go_at_call 96;refine HF.out.mono ?_;rintro e w' ⟨rfl,rfl⟩))
 go_ret
 exact ⟨rfl,rfl⟩
theorem a1G (w:World) (h:a0I B w S c rs rh n wd d) (hp:0<d.sts.length) (hl:wd.cuts.length≤900000) (hep:∀q∈wd.cuts,0≤q.ep) (i:Nat) (hi:i<wd.cuts.length) (hk:b0U (c0I wd) ((i+1:Nat):Int)=0) :
 Calls Tryz.prog 36 #[.pointer (some ⟨S,0,none⟩),.int .i64 ((i+1:Nat):Int)] w fun e w'=>e=.returned (.int .i64 0)∧∃o,w'=setBlock w d.L o∧a0V hdV o0H w' d.L (r0G d.live (hdl (i+1))):=by
 obtain ⟨a1,a2,a3⟩:=a0A jR h.cell;have HM:=jH (c0K w h hp);have HF:=jH (z0Q w h hl hep i hi hk);generalize ((i+1:Nat):Int)=k at *;clear h hk hep
 go_enter Tryz.func36,Tryz.ntmps36
 go_wp2_with (first
  | (go_at_call 80;refine HM.out.mono ?_;rintro e w' ⟨rfl,rfl⟩)
  | (go_at_call 96;refine HF.out.mono ?_;rintro e w' ⟨rfl,o,rfl,ho⟩))
 go_ret
 exact ⟨rfl,o,rfl,ho⟩
theorem a0I.free {w:World} {o:Obj} (h:a0I B w S c rs rh n wd d) (hl:wd.cuts.length≤900000) (hep:∀q∈wd.cuts,0≤q.ep) (i:Nat) (hi:i<wd.cuts.length) (hk:b0U (c0I wd) ((i+1:Nat):Int)=0) (ho:a0V hdV o0H (setBlock w d.L o) d.L (r0G d.live (hdl (i+1)))) :
 a0I B (setBlock w d.L o) S c rs rh n { wd with cuts:=wd.cuts.set i ⟨0,[],true⟩ } { d with live:=r0G d.live (hdl (i+1)) }∧Upd w (setBlock w d.L o) (d.fp S) (d.fp S):=by
 have hother:∀r,r≠d.L→(setBlock w d.L o).heap[r]?=w.heap[r]?:=fun r hr=>b0I hr
 obtain ⟨C,q,e1,e2,e3,e4,e5⟩:∃C q,a0L d.live (hdl (i+1))=some C∧b0U (c0I wd) ((i+1:Nat):Int)=0∧wd.cuts[i]?=some q∧q.freed=false∧d0X (fun b=>b∉d.fp S∧B b) w C rs rh q.ep q.items:=by
  rcases h.find hl hep i hi with ⟨_,e2⟩|h9
  · rw [hk] at e2;cases e2
  · exact h9
 have hnd:(d.live.map (·.1)).Nodup:=by
  obtain ⟨_,_,_,_,_,_,hn⟩:=h.live;exact hn
 refine ⟨(h.own3 (d':={ d with live:=r0G d.live (hdl (i+1)) }) (wd':={ wd with cuts:=wd.cuts.set i ⟨0,[],true⟩ }) d0I.symm (fun r _ _ h3=>hother r h3) rfl rfl rfl rfl rfl rfl ?_ ?_ ho (fun p hp=>?_) ?_ (fun j q' hq'=>?_)).1,h1Y (c0E.2 (.inr (.inr (.inl rfl))))⟩
 · exact (hother S h.ne.2.1).trans h.cell
 · show _=some (Obj.cells #[_,.int .i64 (((wd.cuts.set i ⟨0,[],true⟩).length+1:Nat):Int)] _ _)
   rw [List.length_set];exact (hother d.H h.ne.2.2).trans h.tab
 · show _∧_≤(wd.cuts.set i _).length
   rw [List.length_set];exact h.keys p ((List.mem_filter.1 hp).1)
 · have h1:=m1D hnd e1
   have h2:=h.cnt;have h3:c0I { wd with cuts:=wd.cuts.set i ⟨0,[],true⟩ }=(c0I wd).set i (-1):=by
    unfold c0I;rw [List.map_set];rfl
   have hti:i<(c0I wd).length:=by simpa [c0I] using hi
   have h4:(0:Int)≤(c0I wd)[i]:=by
    simp only [c0I,List.getElem_map]
    obtain ⟨_,hq⟩:=List.getElem?_eq_some_iff.1 e3;rw [hq,e4,if_neg (by simp)];exact hep q (List.mem_of_getElem? e3)
   have h5:=f1B hti h4;rw [h3]
   show (r0G d.live _).length=_
   omega
 · have hq':(wd.cuts.set i ⟨0,[],true⟩)[j]?=some q':=hq'
   show (_∧a0L (r0G d.live _) _=none)∨(_∧∃C,a0L (r0G d.live _) _=some C∧_)
   rw [List.getElem?_set] at hq';have hj:j<wd.cuts.length:=by
    rcases Nat.lt_or_ge j wd.cuts.length with h9|h9
    · exact h9
    · split at hq'
      · omega
      · rw [List.getElem?_eq_none h9] at hq';cases hq'
   rw [c1F]
   split at hq'
   · rename_i e
     have e9:=Option.some.inj hq';rw [←e9,←e,if_pos rfl];exact .inl ⟨rfl,rfl⟩
   · rename_i e
     rw [if_neg (fun e9=>e (by have:=d1O (by omega) (by omega) e9;omega))]
     rcases h.cut j q' hq' with h9|⟨h9,C',h10,h11⟩
     · exact .inl h9
     · exact .inr ⟨h9,C',h10,h11.keep (Nat.le_of_eq d0I.symm) (fun b hb hlt=>⟨hother b (fun e=>hb.1 (c0E.2 (.inr (.inr (.inl e))))),hb⟩)⟩
theorem a1F (w:World) (h:a0I B w S c rs rh n wd d) (hp:0<d.sts.length) (hl:wd.cuts.length≤900000) (hep:∀q∈wd.cuts,0≤q.ep) (k:Int) (hk:b0U (c0I wd) k≠0) :
 Calls Tryz.prog 35 #[.pointer (some ⟨S,0,none⟩),.int .i64 k] w fun e w'=>e=.returned (.tuple #[.pointer none,.int .i64 (b0U (c0I wd) k)])∧w'=w:=by
 obtain ⟨a1,a2,a3⟩:=a0A jR h.cell;have HM:=jH (c0K w h hp);have HF:=jH (a1S w h hl hep k hk);generalize b0U (c0I wd) k=e at HF ⊢;clear h hk hep
 go_enter Tryz.func35,Tryz.ntmps35
 go_wp2_with (first
  | (go_at_call 80;refine HM.out.mono ?_;rintro e w' ⟨rfl,rfl⟩)
  | (go_at_call 95;refine HF.out.mono ?_;rintro e w' ⟨rfl,rfl⟩))
 go_ret2
 exact ⟨rfl,rfl⟩
theorem d1L (w:World) (h:a0I B w S c rs rh n wd d) (hp:0<d.sts.length) (hl:wd.cuts.length≤900000) (hep:∀q∈wd.cuts,0≤q.ep) (i:Nat) (hi:i<wd.cuts.length) (C:Nat) (hC:a0L d.live (hdl (i+1))=some C) (hk:b0U (c0I wd) ((i+1:Nat):Int)=0) :
 Calls Tryz.prog 35 #[.pointer (some ⟨S,0,none⟩),.int .i64 ((i+1:Nat):Int)] w fun e w'=>e=.returned (.tuple #[.pointer (some ⟨C,0,none⟩),.int .i64 0])∧w'=w:=by
 obtain ⟨a1,a2,a3⟩:=a0A jR h.cell;have HM:=jH (c0K w h hp);have HF:=jH (f1D w h hl hep i hi C hC hk);generalize ((i+1:Nat):Int)=k at *;clear h hk hep hC
 go_enter Tryz.func35,Tryz.ntmps35
 go_wp2_with (first
  | (go_at_call 80;refine HM.out.mono ?_;rintro e w' ⟨rfl,rfl⟩)
  | (go_at_call 95;refine HF.out.mono ?_;rintro e w' ⟨rfl,rfl⟩))
 go_ret2
 exact ⟨rfl,rfl⟩
theorem s0H (w:World) (h:a0I B w S c rs rh n wd d) (hp:0<d.sts.length) (ho:wd.over=true) :
 Calls Tryz.prog 37 #[.pointer (some ⟨S,0,none⟩)] w fun e w'=>e=.returned (.int .i64 9)∧w'=w:=by
 obtain ⟨a1,a2,a3⟩:=a0A jR h.cell;have HM:=jH (c0K w h hp);rw [ho] at a1;clear h ho
 go_enter Tryz.func37,Tryz.ntmps37
 go_wp2_with (first
  | (go_at_call 80;refine HM.out.mono ?_;rintro e w' ⟨rfl,rfl⟩))
 go_ret
 exact ⟨rfl,rfl⟩
theorem d1C (w:World) (h:a0I B w S c rs rh n wd d) (hp:0<d.sts.length) (ho:wd.over=false) :
 Calls Tryz.prog 37 #[.pointer (some ⟨S,0,none⟩)] w fun e w'=>e=.returned (.int .i64 0)∧a0I B w' S c rs rh n { wd with over:=true } d∧Upd w w' (d.fp S) (d.fp S):=by
 obtain ⟨a1,a2,a3⟩:=a0A jR h.cell;have HM:=jH (c0K w h hp);rw [ho] at a1;have HF:=jH (show a0I B (w.setCell ⟨S,3,none⟩ (.bool true)) S c rs rh n { wd with over:=true } d∧Upd w (w.setCell ⟨S,3,none⟩ (.bool true)) (d.fp S) (d.fp S) from by
  have hk:∀r,r≠S→(w.setCell ⟨S,3,none⟩ (.bool true)).heap[r]?=w.heap[r]?:=fun r hr=>c0Q hr
  refine ⟨(h.own3 (d':=d) (wd':={ wd with over:=true }) (by simp) (fun r h1 _ _=>hk r h1) rfl rfl rfl rfl rfl rfl ?_ ?_ (h.live.block (hk _ (Ne.symm h.ne.2.1))) h.keys h.cnt (fun i q hq=>?_)).1,o1S (c0E.2 (.inl rfl))⟩
  · rw [a0E h.cell]
    rfl
  · exact (hk _ (Ne.symm h.ne.1)).trans h.tab
  · rcases h.cut i q hq with h9|⟨h9,C,h10,h11⟩
    · exact .inl h9
    · exact .inr ⟨h9,C,h10,h11.keep (by simp) (fun b hb hlt=>⟨hk b (fun e=>hb.1 (c0E.2 (.inl e))),hb⟩)⟩)
 clear h ho
 go_enter Tryz.func37,Tryz.ntmps37
 go_wp2_with (first
  | (go_at_call 80;refine HM.out.mono ?_;rintro e w' ⟨rfl,rfl⟩))
 go_ret
 exact ⟨rfl,HF.out.1,HF.out.2⟩
end
end
end
section
open Go.RowKit Go.Lib
def zR:List Value:=[.int .i64 0,.int .i64 0,.int .i64 0,.int .i64 0,.int .i64 0,.int .i64 0,.int .i64 0,.int .i64 0,.int .i64 0,.int .i64 0,.int .i64 0,.int .i64 0,.int .i64 0]
end
section
open Go.RowKit Go.Lib Go.Sort
section
theorem d0X.in_ {P:Nat→Prop} {w:World} {C rs rh:Nat} {ep:Int} {R:List Itm} (h:d0X P w C rs rh ep R):∃l,x0D w C ep l∧Ris l∧l.length≤400∧(∃nd:En→Nd,f1F w l nd rs rh∧∀x∈l,∃z,a0Z R x.1=some z∧f0U (nd x) z)∧∀k,c0W l k=none→a0Z R k=none:=by
 obtain ⟨A,cc,l,h1,h2,h3,h4,h5,h6,h8⟩:=h;refine ⟨l,⟨A,cc,h2,h3.1⟩,h4,h5,?_,h8⟩;have hch:∀x:En,∃y:Nd,x∈l→(∃fp,b0G w x.2 y rs rh fp)∧∃z,a0Z R x.1=some z∧f0U y z:=fun x=>by
  by_cases hx:x∈l
  · obtain ⟨y,fp,z,a,_,e,f⟩:=h6 x hx
    exact ⟨y,fun _=>⟨⟨fp,a⟩,z,e,f⟩⟩
  · exact ⟨nd0,fun h=>absurd h hx⟩
 obtain ⟨nd,hnd⟩:=Classical.axiomOfChoice hch;exact ⟨nd,fun x hx=>(hnd x hx).1,fun x hx=>(hnd x hx).2⟩
def stK (R:List Itm) (k:Ky) (til wd:Int):StD:=match a0Z R k with|none=>st0|some y=>h0P y.smp til wd
theorem d0X.stat {P:Nat→Prop} {w:World} {C rs rh:Nat} {ep:Int} {R:List Itm} (h:d0X P w C rs rh ep R) (hI:∀p∈R,u0E p.2.smp) (hrs:rs≤256) (k:Ky) {til wd:Int} (ht:I64 til) (hw:I64 wd) :
 Calls Tryz.prog 155 #[.pointer (some ⟨C,0,none⟩),.agg #[.int .u64 k.1,.int .u64 k.2],.int .i64 til,.int .i64 wd] w (jP w (.tuple #[stV (stK R k til wd),.bool (a0Z R k).isSome])):=by
 obtain ⟨l,h1,h2,h3,⟨nd,h4,h5⟩,h6⟩:=h.in_;have hs:SmpOk l nd:=fun x hx=>by
  obtain ⟨z,hz,hsame⟩:=h5 x hx;rw [hsame.1];exact hI _ (f0E hz)
 have e:j1I l nd til wd k=stK R k til wd∧(c0W l k).isSome=(a0Z R k).isSome:=by
  unfold j1I stK
  cases hf:c0W l k with
  | none=>rw [h6 k hf];exact ⟨rfl,rfl⟩
  | some N =>
    obtain ⟨z,hz,hsame⟩:=h5 _ (s0C hf);rw [hz];exact ⟨by simp only [hsame.1],rfl⟩
 have:=x0G C ep l nd rs rh k til wd w h1 h2 (by omega) h4 hs hrs ht hw;rw [e.1,e.2] at this;exact this
theorem d0X.epoch {P:Nat→Prop} {w:World} {C rs rh:Nat} {ep:Int} {R:List Itm} (h:d0X P w C rs rh ep R) :
 Calls Tryz.prog 39 #[.pointer (some ⟨C,0,none⟩)] w (jP w (.int .i64 ep)):=by
 obtain ⟨l,h1,_⟩:=h.in_;exact r0N C ep l w h1
theorem d0X.below {P:Nat→Prop} {w w':World} {C rs rh:Nat} {ep:Int} {R:List Itm} (h:d0X P w C rs rh ep R) (hb:jB w w'):d0X P w' C rs rh ep R:=h.keep hb.size (fun b hp hlt=>⟨hb.block b hlt,hp⟩)
def d1V (w:Wd) (h:Int) (k:Ky) (til wd:Int):c1C :=
 if b0U (c0I w) h≠0 then a0R (b0U (c0I w) h)
 else match w.cuts[h.toNat - 1]? with
  | none=>a0R 5
  | some c=>match a0Z c.items k with
    | none=>a0R 5
    | some y=>⟨0,c.ep,0,h0P y.smp til wd,b0O⟩
def i1P (w:Wd) (k:Ky):c1C:=match a0Z (d0D w) k with
 | none=>a0R 5
 | some y=>match y.past.getLast? with
   | none=>a0R 0
   | some a=>⟨0,0,0,st0,a⟩
section
variable {B:Nat→Prop} {S:Nat} {c:Cfg} {rs rh n:Nat} {wd:Wd} {d:d0Y}
theorem w0L (w:World) (h:a0I B w S c rs rh n wd d) (hp0:0<d.sts.length) (hc:wd.cuts.length≤900000) (hep:∀q∈wd.cuts,0≤q.ep) (hI:∀q∈wd.cuts,∀p∈q.items,u0E p.2.smp) (hrs:rs≤256) (hd:Int) (k:Ky) (til wid:Int) (ht:I64 til) (hw:I64 wid) :
 Calls Tryz.prog 85 #[.pointer (some ⟨S,0,none⟩),.int .i64 hd,.agg #[.int .u64 k.1,.int .u64 k.2],.int .i64 til,.int .i64 wid] w (jP w (a0X (d1V wd hd k til wid))):=by
 obtain ⟨r,hr⟩:∃r,r=d1V wd hd k til wid:=⟨_,rfl⟩;rw [←hr]
 by_cases hk:b0U (c0I wd) hd=0
 · obtain ⟨i,hi,rfl⟩:∃i:Nat,i<wd.cuts.length∧hd=((i+1:Nat):Int):=by
    have htl:(c0I wd).length=wd.cuts.length:=by simp [c0I]
    have h1:¬(hd<1∨((c0I wd).length:Nat)<hd):=fun h9=>by rw [h0H h9] at hk;cases hk
    exact ⟨hd.toNat - 1,by omega,by omega⟩
   obtain ⟨C,q,e1,e2,e3,e4,e5⟩:∃C q,a0L d.live (hdl (i+1))=some C∧b0U (c0I wd) ((i+1:Nat):Int)=0∧wd.cuts[i]?=some q∧q.freed=false∧d0X (fun b=>b∉d.fp S∧B b) w C rs rh q.ep q.items:=by
    rcases h.find hc hep i hi with ⟨_,e2⟩|h9
    · rw [hk] at e2;cases e2
    · exact h9
   have CC:=jH (fun W (hW:jB w W)=>d1L W (h.below hW) hp0 hc hep i hi C e1 hk);have hIq:=hI q (List.mem_of_getElem? e3);have CS:=jH (fun W (hW:jB w W)=>(e5.below hW).stat hIq hrs k ht hw);have CE:=jH (fun W (hW:jB w W)=>(e5.below hW).epoch);have hlk:r=match a0Z q.items k with|none=>a0R 5|some y=>⟨0,q.ep,0,h0P y.smp til wid,b0O⟩:=by
    rw [hr];unfold d1V;rw [if_neg (by rw [hk];simp),show ((i+1:Nat):Int).toNat - 1=i by omega,e3]
   generalize ((i+1:Nat):Int)=hd at *;generalize q.ep=ep at *;clear h hr hk e1 e2 e3 e4 e5 hc hep hI hIq hi;unfold stK at CS
   cases hf:a0Z q.items k with
   | none =>
     rw [hf] at CS hlk;have HRR:=jH (show r=a0R 5 from hlk);have CS2:=jH (show ∀W,jB w W→Calls Tryz.prog 155 #[.pointer (some ⟨C,0,none⟩),.agg #[.int .u64 k.1,.int .u64 k.2],.int .i64 til,.int .i64 wid] W (jP W (.tuple #[.agg #[.int .i64 0,.int .i64 0,.int .i64 0,.int .i64 0,.int .i64 0],.bool false])) from CS.out);clear CS hlk hf CE
     go_enter Tryz.func85,Tryz.ntmps85
     go_wp2_with (first
      | (go_at_call 35
         refine a0B ?_;intro W1 hW1;have HB1:=jH (show jB w W1 by rw [hW1];exact a0C (a0C jR _) _);have HX0:=jH (show W1.heap[w.heap.size]?=some (.cells #[.int .u64 k.1,.int .u64 k.2] 74 (0,0)) by rw [hW1];exact d0V _ _ _);have HX1:=jH (show W1.heap[w.heap.size+1]?=some (.cells zR.toArray 46 (0,0)) by rw [hW1];exact c0G _ _ _);clear hW1;refine (CC.out W1 HB1.out).mono ?_;rintro e w' ⟨rfl,rfl⟩
         obtain ⟨b1,b2,b3⟩:=a0A jR HX0.out)
      | (go_at_call 155
         refine (CS2.out _ HB1.out).mono ?_;rintro e w2 ⟨rfl,hb2⟩;have HB2:=jH (a0D HB1.out hb2);have HX2:=jH (jK hb2 HX1.out);obtain ⟨y1,y2,y3⟩:=a0A jR HX2.out;unfold zR at y1;clear hb2 b1 b2 b3))
     refine a0H ?_;intro W9 hW9;have hW9':W9=(c0T w2 (w.heap.size+1) 0 (b0E (a0R 5))).alloc (.cells #[.int .i64 0,.int .i64 0,.int .i64 0,.int .i64 0,.int .i64 0] 42):=hW9;obtain ⟨s1,s2,s3,s4⟩:=a0M HX2.out (b0E (a0R 5)) rfl _ rfl;have hb9:jB w W9:=by rw [hW9'];exact a0C (HB2.out.trans (s4 _ (by omega))) _
     obtain ⟨a9,a8,a7⟩:(∀j,W9.cell? ⟨w.heap.size+1,j,none⟩=((b0E (a0R 5)).toArray)[j]?)∧(∀j,W9.frozen? ⟨w.heap.size+1,j,none⟩=false)∧w.heap.size+1<W9.heap.size:=by
      rw [hW9'];exact a0A (a0C jR _) s1
     clear hW9 hW9' s1 s2 s3 s4;exact bodyPost_ret (v:=a0X (a0R 5)) (by simp [results,Tryz.results85,go_sem,a9,a0X,b0E,a0R,st0,b0O]) rfl ⟨by rw [HRR.out],hb9⟩
   | some y =>
     rw [hf] at CS hlk;have HRR:=jH (show r=⟨0,ep,0,h0P y.smp til wid,b0O⟩ from hlk);dsimp only at CS;generalize h0P y.smp til wid=st at *;obtain ⟨s0,s1,s2,s3,s4⟩:=st;have CS2:=jH (show ∀W,jB w W→Calls Tryz.prog 155 #[.pointer (some ⟨C,0,none⟩),.agg #[.int .u64 k.1,.int .u64 k.2],.int .i64 til,.int .i64 wid] W (jP W (.tuple #[.agg #[.int .i64 s0,.int .i64 s1,.int .i64 s2,.int .i64 s3,.int .i64 s4],.bool true])) from CS.out)
     clear CS hlk hf
     go_enter Tryz.func85,Tryz.ntmps85
     go_wp2_with (first
      | (go_at_call 35
         refine a0B ?_;intro W1 hW1;have HB1:=jH (show jB w W1 by rw [hW1];exact a0C (a0C jR _) _);have HX0:=jH (show W1.heap[w.heap.size]?=some (.cells #[.int .u64 k.1,.int .u64 k.2] 74 (0,0)) by rw [hW1];exact d0V _ _ _);have HX1:=jH (show W1.heap[w.heap.size+1]?=some (.cells zR.toArray 46 (0,0)) by rw [hW1];exact c0G _ _ _);clear hW1;refine (CC.out W1 HB1.out).mono ?_;rintro e w' ⟨rfl,rfl⟩
         obtain ⟨b1,b2,b3⟩:=a0A jR HX0.out)
      | (go_at_call 155
         refine (CS2.out _ HB1.out).mono ?_;rintro e w2 ⟨rfl,hb2⟩;have HB2:=jH (a0D HB1.out hb2);have HX2:=jH (jK hb2 HX1.out);clear hb2 b1 b2 b3))
     refine a0J ?_;intro W3 hW3;have hb3:jB w2 W3:=by rw [hW3];exact a0C jR _
     have HX3:=jH (jK hb3 HX2.out);have HS3:=jH (show W3.heap[w2.heap.size]?=some (.cells #[.int .i64 s0,.int .i64 s1,.int .i64 s2,.int .i64 s3,.int .i64 s4] 42 (0,0)) by rw [hW3];exact heap_alloc_new _ _);have HB3:=jH (a0D HB2.out hb3);clear hW3 hb3;obtain ⟨c1,c2,c3⟩:=a0A jR HS3.out;obtain ⟨y1,y2,y3⟩:=a0A jR HX3.out;unfold zR at y1
     go_region_with (first
      | (go_at_call 39
         refine a0B ?_;intro W4 hW4;have hb4:jB W3 W4:=by rw [hW4];repeat (first|exact jR|refine a0C ?_ _|refine Below.drew ?_)
         clear hW4;refine (CE.out W4 (a0D HB3.out hb4)).mono ?_;rintro e w5 ⟨rfl,hb5⟩;have hb45:=a0D hb4 hb5;obtain ⟨d1,d2,d3⟩:=a0A hb45 HS3.out;have HX5:=jH (jK hb45 HX3.out);obtain ⟨z1,z2,z3⟩:=a0A jR HX5.out;unfold zR at z1;have HB5:=jH (a0D HB3.out hb45);clear hb4 hb5 hb45))
     all_goals
       refine a0Y ?_;intro W9 hW9;have hW9':W9=c0T w5 (w.heap.size+1) 0 (b0E ⟨0,ep,0,⟨s0,s1,s2,s3,s4⟩,b0O⟩):=hW9;obtain ⟨t1,t2,t3,t4⟩:=a0M HX5.out (b0E ⟨0,ep,0,⟨s0,s1,s2,s3,s4⟩,b0O⟩) rfl W9 hW9';obtain ⟨a9,a8,a7⟩:=a0A jR t1;clear hW9 hW9';go_wp2
       exact bodyPost_ret (v:=a0X ⟨0,ep,0,⟨s0,s1,s2,s3,s4⟩,b0O⟩) (by simp [results,Tryz.results85,go_sem,a9,a0X,b0E,b0O]) rfl ⟨by rw [HRR.out],HB5.out.trans (t4 _ (by omega))⟩
 · have CC:=jH (fun W (hW:jB w W)=>a1F W (h.below hW) hp0 hc hep hd hk)
   have hrr:r=a0R (b0U (c0I wd) hd):=by rw [hr];unfold d1V;rw [if_pos hk]
   generalize b0U (c0I wd) hd=e5 at *;have HRR:=jH hrr;have z:¬e5=0:=hk;clear h hr hk hc hep hI hrr
   go_enter Tryz.func85,Tryz.ntmps85
   go_wp2_with (first
    | (go_at_call 35
       refine a0B ?_;intro W1 hW1;have HB1:=jH (show jB w W1 by rw [hW1];exact a0C (a0C jR _) _);have HX1:=jH (show W1.heap[w.heap.size+1]?=some (.cells zR.toArray 46 (0,0)) by rw [hW1];exact c0G _ _ _);clear hW1;refine (CC.out W1 HB1.out).mono ?_;rintro e w' ⟨rfl,rfl⟩;obtain ⟨y1,y2,y3⟩:=a0A jR HX1.out;unfold zR at y1))
   refine a0H ?_;intro W9 hW9;have hW9':W9=c0T w' (w.heap.size+1) 0 (b0E (a0R e5)):=hW9;obtain ⟨s1,s2,s3,s4⟩:=a0M HX1.out (b0E (a0R e5)) rfl W9 hW9';obtain ⟨a9,a8,a7⟩:=a0A jR s1;clear hW9 hW9';exact bodyPost_ret (v:=a0X (a0R e5)) (by simp [results,Tryz.results85,go_sem,a9,a0X,b0E,a0R,st0,b0O]) rfl ⟨by rw [HRR.out],HB1.out.trans (s4 _ (by omega))⟩
end
end
end
end Go.Proofs.YtmniiodpbebnmaaGreat
