/- Part 45 of the proof. -/
import Derived.Test.YtmniiodpbebnmaaGreatJ31
namespace Go.Proofs.YtmniiodpbebnmaaGreat
set_option linter.unusedSimpArgs false
set_option linter.unusedVariables false
set_option linter.unusedSectionVars false
set_option maxRecDepth 100000
set_option maxHeartbeats 16000000
section
open Go.RowKit Go.Lib Go.Sort
open Go.ChangeMaps (setBlock)
section
def o0I (es:List (KO × NE)):List En:=(risL (kyN es)).map fun q=>(q,i0H es q)
theorem z0F {es:List (KO × NE)} {x:En} (h:x∈o0I es):∃p∈es,p.1.1=x.1∧p.2.1=x.2:=by
 obtain ⟨q,hq,rfl⟩:=List.mem_map.1 h;obtain ⟨p,hp,e,hf⟩:=blk_at ((g0X _ _).1 hq);refine ⟨p,hp,e,?_⟩;unfold i0H;rw [hf];rfl
theorem e1X {es:List (KO × NE)} {R:List Itm} (ht:b0N (ab es) R) {k:Ky} (h:c0W (o0I es) k=none):a0Z R k=none:=by
 refine g0U (fun p hp e=>?_);have hk:p.1∈c0M (ab es):=(ht.keys p.1).1 (List.mem_map.2 ⟨p,hp,rfl⟩);rw [←t0Y,e] at hk;unfold c0W at h;rw [Option.map_eq_none_iff] at h;have:=List.find?_eq_none.1 h (k,i0H es k) (List.mem_map.2 ⟨k,(g0X _ _).2 hk,rfl⟩);simp at this
theorem j1L (es:List (KO × NE)) (K:List Ky):o0I (f0P es K)=o0I es:=by
 have e:kyN (f0P es K)=kyN es:=by simp [kyN,f0P,Function.comp_def]
 unfold o0I;rw [e];exact List.map_congr_left (fun q _=>by rw [m1A])
theorem b1R {es:List (KO × NE)} (h:(es.map (·.1)).Nodup):(kyN es).Nodup:=by
 have e:kyN es=kys (es.map (·.1)):=by simp [kyN,kys,Function.comp_def]
 rw [e];exact n0L h
theorem y0X {es:List (KO × NE)} (h:(es.map (·.1)).Nodup):(o0I es).length=es.length:=by
 unfold o0I;rw [List.length_map,e0G (b1R h)];simp [kyN]
def j1G (es:List (KO × NE)):Prop:=∀p∈es,p.2.2.1.frz=true
theorem o0S {ll:List (List En)} {k:Ky} (h:c0W ll.flatten k=none):∀l∈ll,c0W l k=none:=by
 induction ll with
 | nil=>intro l hl;cases hl
 | cons a ll ih =>
   rw [List.flatten_cons,s0U] at h;intro l hl
   rcases List.mem_cons.1 hl with rfl|hl
   · cases h9:c0W l k with
     | none=>rfl
     | some v=>rw [h9] at h;cases h
   · refine ih ?_ l hl
     cases h9:c0W a k with
     | none=>rw [h9,Option.none_or] at h;exact h
     | some v=>rw [h9] at h;cases h
def j1H (sts:List St):List En:=(sts.map fun s=>o0I s.es).flatten
section
variable {B:Nat→Prop} {S:Nat} {c:Cfg} {rs rh n:Nat} {wd:Wd} {d:d0Y}
theorem i1I:∀(sts:List St) (st:List (List Itm)),sts.length=st.length→(∀(i:Nat) (s:St) (R:List Itm),sts[i]?=some s→st[i]?=some R→(o0I s.es).length=R.length)→((sts.map fun s=>o0I s.es).flatten).length=st.flatten.length
  | [],[],_,_=>rfl
  | [],_::_,h,_=>by simp at h
  | _::_,[],h,_=>by simp at h
  | s::sts,R::st,h,hi=>by
    have h0:=hi 0 s R rfl rfl;have h1:=i1I sts st (by simpa using h) (fun i s' R' hs hR=>hi (i+1) s' R' (by simpa using hs) (by simpa using hR));simp only [List.map_cons,List.flatten_cons,List.length_append,h0,h1]
theorem a0I.ent_len {w:World} (h:a0I B w S c rs rh n wd d):(j1H d.sts).length=(d0D wd).length :=
 i1I d.sts wd.st h.len (fun i s R hs hR=>by
  have hk:=h.str i s R hs hR;rw [y0X hk.at_.nodup,←l0T,hk.tells.len])
theorem a0I.cut_has {w w':World} {C:Nat} {ep:Int} (h:a0I B w S c rs rh n wd d) (hB:∀b,w.heap.size≤b→B b) (hfz:∀s∈d.sts,j1G s.es) (hh:b0V c wd) (hl:(d0D wd).length≤400) (hC:n0I w.heap.size w' C ep (d0Q (j1H d.sts))) (hb:jB w w') :
 d0X (fun b=>b∉d.fp S∧B b) w' C rs rh ep (d0D wd):=by
 obtain ⟨hC0,A,cc,hc1,hc2⟩:=hC;have hnew:∀b,w.heap.size≤b→b∉d.fp S∧B b:=fun b hb'=>⟨fun hq=>by have:=(h.fpLt b hq).1;omega,hB b hb'⟩
 have h':=h.below hb;refine ⟨A,cc,d0Q (j1H d.sts),hnew C hC0,hc1,(d0G.own eEn hc2).imp (fun b hb'=>hnew b (by omega)),m1F _,?_,fun x hx=>?_,fun k hk=>?_⟩
 · rw [show (d0Q (j1H d.sts)).length=(j1H d.sts).length from (List.mergeSort_perm _ _).length_eq,h.ent_len];exact hl
 · have hx:x∈j1H d.sts:=(e1H _ x).1 hx
   obtain ⟨l,hl',hxl⟩:=List.mem_flatten.1 hx;obtain ⟨s,hs,rfl⟩:=List.mem_map.1 hl';obtain ⟨p,hp,e1,e2⟩:=z0F hxl;obtain ⟨i,hi⟩:=List.getElem?_of_mem hs;obtain ⟨R,hR,hk⟩:=h'.get hi;have hfind:a0L (ab s.es) p.1=some p.2.2.1:=by
    have hm:d0B (ab s.es) p.1=true:=(c0D _ _).2 (List.mem_map.2 ⟨(p.1,p.2.2.1),List.mem_map.2 ⟨p,hp,rfl⟩,rfl⟩);obtain ⟨v,hv,hvm⟩:=c0F hm;obtain ⟨q,hq,e⟩:=List.mem_map.1 hvm;injection e with e3 e4
    have:q=p:=by
     obtain ⟨a,ha⟩:=List.getElem?_of_mem hq;obtain ⟨b,hb'⟩:=List.getElem?_of_mem hp;have hn:=hk.at_.nodup;have:a=b:=d0O hn (x:=p.1) (by rw [List.getElem?_map,ha];simp [e3]) (by rw [List.getElem?_map,hb'];rfl);rw [this,hb'] at ha;injection ha with ha
     exact ha.symm
    rw [hv,←e4,this]
   have ht:=p0D hk.tells p.1;rw [hfind] at ht;obtain ⟨z,hz,hsame⟩:=ht;have hroute:c0J p.1.1.1 p.1.1.2 c.st=(i:Int):=hh i R hR (p.1.1,z) (f0E hz);refine ⟨p.2.2.1,p.2.2.2,z,by rw [←e2];exact hk.at_.node p hp,fun r hr=>?_,by rw [←e1,g0G hh hR hroute];exact hz,hsame⟩;have hra:r∈s.all:=by
    simp only [St.all,List.mem_cons,List.mem_flatMap]
    exact .inr (.inr ⟨p,hp,hr⟩)
   refine ⟨fun hq=>?_,h.bs s hs r hra⟩;have hoff:=h.off s hs
   rcases c0E.1 hq with rfl|rfl|rfl|⟨t,ht',hr'⟩
   · exact hoff.1 hra
   · exact hoff.2.1 hra
   · exact hoff.2.2 hra
   · obtain ⟨j,hj⟩:=List.getElem?_of_mem ht'
     by_cases hij:i=j
     · subst hij
       rw [hi] at hj;injection hj with hj
       subst hj
       rcases e1B (hfz s hs) r hr' with rfl|rfl
       · exact (hk.at_.off p hp).1 hr
       · exact (hk.at_.off p hp).2 hr
     · exact h.pair i j s t hi hj hij r hra (t.sub r hr')
 · rw [c1G] at hk
   refine s0L (fun R hR=>?_);obtain ⟨i,hi⟩:=List.getElem?_of_mem hR;have hil:=(List.getElem?_eq_some_iff.1 hi).1;rw [←h.len] at hil;have hs:=List.getElem?_eq_getElem hil;exact e1X (h.str i _ R hs hi).tells (o0S hk _ (List.mem_map.2 ⟨_,List.mem_of_getElem? hs,rfl⟩))
theorem x0K (t:List Int) (e:Int) (h:0≤e):n0C (t++[e])=n0C t+1:=by
 unfold n0C;rw [List.countP_append];simp [h]
theorem a0I.opened {w w':World} {C:Nat} (h:a0I B w S c rs rh n wd d) (hl:wd.cuts.length≤900000) (hep:0≤wd.ep) (hC:d0X (fun b=>b∉d.fp S∧B b) w C rs rh (wd.ep+1) (d0D wd))
    (hos:w'.os=w.os) (hta:w'.tape=w.tape) (hou:w'.output=w.output) (hsz:w.heap.size=w'.heap.size) (hother:∀r,r≠S→r≠d.H→r≠d.L→w'.heap[r]?=w.heap[r]?)
    (hS:w'.heap[S]?=some (.cells #[.slice (some ⟨d.A,0,none⟩) d.sts.length d.cp,.pointer (some ⟨d.H,0,none⟩),.int .i64 (wd.ep+1),.bool wd.over] 148 (0,0)))
    (hH:w'.heap[d.H]?=some (.cells #[.map (some d.L),.int .i64 ((wd.cuts.length+1+1:Nat):Int)] 229 (0,0)))
    (ho:a0V hdV o0H w' d.L (d0F d.live (hdl (wd.cuts.length+1)) C)) :
    a0I B w' S c rs rh n { wd with ep:=wd.ep+1,cuts:=wd.cuts++[⟨wd.ep+1,d0D wd,false⟩] } { d with live:=d0F d.live (hdl (wd.cuts.length+1)) C }∧Upd w w' (d.fp S) (d.fp S):=by
  have hno:d0B d.live (hdl (wd.cuts.length+1))=false:=by
   cases hq:d0B d.live (hdl (wd.cuts.length+1)) with
   | false=>rfl
   | true =>
     obtain ⟨v,_,hm⟩:=c0F hq;have:=(h.keys _ hm).2;dsimp only at this;rw [h0R (by omega)] at this;omega
  have hput:d0F d.live (hdl (wd.cuts.length+1)) C=d.live++[(hdl (wd.cuts.length+1),C)]:=by unfold d0F;rw [hno];rfl
  have hkP:∀b,(b∉d.fp S∧B b)→b<w.heap.size→w'.heap[b]?=w.heap[b]?∧(b∉d.fp S∧B b):=fun b hb _ =>
   ⟨hother b (fun e=>hb.1 (c0E.2 (.inl e))) (fun e=>hb.1 (c0E.2 (.inr (.inl e)))) (fun e=>hb.1 (c0E.2 (.inr (.inr (.inl e))))),hb⟩
  refine ⟨(h.own3 (d':={ d with live:=d0F d.live (hdl (wd.cuts.length+1)) C }) (wd':={ wd with ep:=wd.ep+1,cuts:=wd.cuts++[⟨wd.ep+1,d0D wd,false⟩] }) hsz hother rfl rfl rfl rfl rfl rfl hS ?_ ho (fun p hp=>?_) ?_ (fun i q hq=>?_)).1,?_⟩
  · rw [hH]
    simp
  · show _∧_≤(wd.cuts++[_]).length
    have hp:p∈d0F d.live (hdl (wd.cuts.length+1)) C:=hp;rw [hput] at hp;rw [List.length_append]
    rcases List.mem_append.1 hp with hp|hp
    · have:=h.keys p hp;exact ⟨this.1,by simp;omega⟩
    · rw [List.mem_singleton.1 hp]
      dsimp only;rw [h0R (by omega)];simp
  · show (d0F d.live _ C).length=_
    have e:c0I { wd with ep:=wd.ep+1,cuts:=wd.cuts++[⟨wd.ep+1,d0D wd,false⟩] }=c0I wd++[wd.ep+1]:=by simp [c0I]
    rw [e,x0K _ _ (by omega),←h.cnt,hput];simp
  · have hq:(wd.cuts++[⟨wd.ep+1,d0D wd,false⟩])[i]?=some q:=hq
    show (_∧a0L (d0F d.live _ C) _=none)∨(_∧∃C',a0L (d0F d.live _ C) _=some C'∧_)
    rw [j0U]
    rcases Nat.lt_or_ge i wd.cuts.length with hi|hi
    · rw [List.getElem?_append_left hi] at hq
      rw [if_neg (fun e=>by have:=d1O (by omega) (by omega) e;omega)]
      rcases h.cut i q hq with h9|⟨h9,C',h10,h11⟩
      · exact .inl h9
      · exact .inr ⟨h9,C',h10,h11.keep (Nat.le_of_eq hsz) hkP⟩
    · rw [List.getElem?_append_right hi] at hq
      have hi2:i=wd.cuts.length:=by
       have:=(List.getElem?_eq_some_iff.1 hq).1;simp at this
       omega
      subst hi2;simp at hq
      subst hq;rw [if_pos rfl];exact .inr ⟨rfl,C,rfl,hC.keep (Nat.le_of_eq hsz) hkP⟩
  · refine ⟨hos,hta,hou,Nat.le_of_eq hsz,fun r _ hn=>hother r (fun e=>hn (c0E.2 (.inl e))) (fun e=>hn (c0E.2 (.inr (.inl e)))) (fun e=>hn (c0E.2 (.inr (.inr (.inl e))))),fun r hr=>.inl hr⟩
end
end
section
section
variable {B:Nat→Prop} {S:Nat} {c:Cfg} {rs rh n:Nat} {wd:Wd} {d:d0Y}
theorem r0W (w:World) (h:a0I B w S c rs rh n wd d) (hl:wd.cuts.length≤900000) (C:Nat) (hf:64≤d.live.length) :
 Calls Tryz.prog 93 #[.pointer (some ⟨d.H,0,none⟩),.pointer (some ⟨C,0,none⟩)] w fun e w'=>e=.returned (.tuple #[.int .i64 0,.int .i64 6])∧w'=w:=by
 obtain ⟨a1,a2,a3⟩:=a0A jR h.tab;have hlen:=fun ty=>n1N h.live ty
 have z1:¬((wd.cuts.length+1:Nat):Int)<1:=by omega
 have z2:(64:Int)≤(d.live.length:Int):=by omega
 generalize ((wd.cuts.length+1:Nat):Int)=m at a1 z1;clear h hf
 go_enter Tryz.func93,Tryz.ntmps93
 go_wp2
 go_ret2
 exact ⟨rfl,rfl⟩
theorem a1P (w:World) (h:a0I B w S c rs rh n wd d) (hl:wd.cuts.length≤900000) (C:Nat) (hf:¬64≤d.live.length) :
 Calls Tryz.prog 93 #[.pointer (some ⟨d.H,0,none⟩),.pointer (some ⟨C,0,none⟩)] w fun e w'=>e=.returned (.tuple #[.int .i64 ((wd.cuts.length+1:Nat):Int),.int .i64 0])∧∃o,w'=(setBlock w d.L o).setCell ⟨d.H,1,none⟩ (.int .i64 ((wd.cuts.length+1+1:Nat):Int))∧a0V hdV o0H (setBlock w d.L o) d.L (d0F d.live (hdl (wd.cuts.length+1)) C):=by
 obtain ⟨a1,a2,a3⟩:=a0A jR h.tab;have hlen:=fun ty=>n1N h.live ty
 obtain ⟨o,ho1,ho2⟩:=k1H h.live (hdl (wd.cuts.length+1)) C;rw [h0R (by omega)] at ho1;have HO2:=jH ho2;have htab2:(setBlock w d.L o).heap[d.H]?=_:=(b0I h.ne.2.2).trans h.tab;obtain ⟨b1,b2,b3⟩:=a0A jR htab2;have hm:((wd.cuts.length+1+1:Nat):Int)=((wd.cuts.length+1:Nat):Int)+1:=by omega
 have z1:¬((wd.cuts.length+1:Nat):Int)<1:=by omega
 have z2:¬(64:Int)≤(d.live.length:Int):=by omega
 have z3:((wd.cuts.length+1:Nat):Int)≤1000000:=by omega
 rw [hm];have hB:∃q:Nat,q=wd.cuts.length+1:=⟨_,rfl⟩;generalize ((wd.cuts.length+1:Nat):Int)=m at a1 b1 z1 z3 ho1 ⊢;have hw:IntKind.i64.wrap (m+1)=m+1:=by rw [IntKind.wrap_i64];omega
 have hw2:wrap64 (m+1)=m+1:=by unfold wrap64;omega
 obtain ⟨m1,hm1⟩:∃m1,m1=m+1:=⟨_,rfl⟩;rw [←hm1] at hw hw2 ⊢;clear h hf hm htab2 ho2 hB
 go_enter Tryz.func93,Tryz.ntmps93
 go_wp2
 go_ret2
 exact ⟨rfl,o,rfl,HO2.out⟩
structure v0J (w:World) (v:Value) (d:d0Y):Prop where
 fz:∀s∈d.sts,j1G s.es
 parts:∃ps:List l0E,m0X w v ps∧(ps.flatMap fun p=>c0Z (fun _=>true) p.2.2)=j1H d.sts∧(∀p∈ps,∀x∈p.2.2,∀N,x.2=some N→FzN w N true)∧ps.length≤1000∧∀p∈ps,p.2.2.length≤1000000
theorem v0J.below {w w':World} {v:Value} (h:v0J w v d) (hb:jB w w'):v0J w' v d:=by
 obtain ⟨ps,h1,h2,h3,h4,h5⟩:=h.parts;exact ⟨h.fz,ps,h1.below hb,h2,fun p hp x hx N hN=>(h3 p hp x hx N hN).below hb,h4,h5⟩
theorem d1S (w:World) (v:Value) (h:a0I B w S c rs rh n wd d) (hB:∀b,w.heap.size≤b→B b) (hp:v0J w v d) (hh:b0V c wd) (hl:(d0D wd).length≤400) (ep:Int) :
 Calls Tryz.prog 94 #[.int .i64 ep,v] w fun e w'=>∃C,e=.returned (.pointer (some ⟨C,0,none⟩))∧d0X (fun b=>b∉d.fp S∧B b) w' C rs rh ep (d0D wd)∧w.heap.size≤C∧jB w w':=by
 obtain ⟨ps,h1,h2,h3,h4,h5⟩:=hp.parts;refine (b1U ep v ps (fun _=>true) w h1 h3 (by rw [h2,h.ent_len];exact hl) h4 h5).mono ?_;rintro e w' ⟨C,rfl,hC,hb⟩;rw [h2] at hC;exact ⟨C,rfl,h.cut_has hB hp.fz hh (by omega) hC hb,hC.1,hb⟩
theorem m0I (w:World) (v:Value) (h:a0I B w S c rs rh n wd d) (hB:∀b,w.heap.size≤b→B b) (hp0:0<d.sts.length) (hp:v0J w v d) (hh:b0V c wd) (hl:(d0D wd).length≤400) (hc:wd.cuts.length≤900000) (hep:0≤wd.ep∧wd.ep≤1000000) (hf:64≤d.live.length) :
 Calls Tryz.prog 34 #[.pointer (some ⟨S,0,none⟩),v] w (jP w (.tuple #[.int .i64 0,.int .i64 0,.int .i64 6])):=by
 obtain ⟨a1,a2,a3⟩:=a0A jR h.cell;have HM:=jH (c0K w h hp0);obtain ⟨e1,he1⟩:∃e1,e1=wd.ep+1:=⟨_,rfl⟩;have hw:IntKind.i64.wrap (wd.ep+1)=e1:=by rw [IntKind.wrap_i64];omega
 have hw2:wrap64 (wd.ep+1)=e1:=by unfold wrap64;omega
 have CN:=jH (fun W (hW:jB w W)=>d1S W v (h.below hW) (fun b hb=>hB b (Nat.le_trans hW.size hb)) (hp.below hW) hh hl (wd.ep+1));have CO:=jH (fun W (hW:jB w W) C=>r0W W (h.below hW) hc C hf);rw [←he1] at CN;have rs1:∀U,jB w U→U.cell? ⟨S,1,none⟩=some (.pointer (some ⟨d.H,0,none⟩)):=fun U hU=>(hU.cell (p:=⟨S,_,none⟩) a3).trans (a1 1)
 have rs2:∀U,jB w U→U.cell? ⟨S,2,none⟩=some (.int .i64 wd.ep):=fun U hU=>(hU.cell (p:=⟨S,_,none⟩) a3).trans (a1 2)
 clear h hp hh hB he1 a1 a2 hp0 hep;generalize wd.ep=ep at *
 go_enter Tryz.func34,Tryz.ntmps34
 go_wp2_with (go_at_call 80;refine HM.out.mono ?_;rintro e w' ⟨rfl,rfl⟩)
 have hS00:jB w' w':=jR;have hS0:jB w' w'.drew:=hS00.drew
 go_region_held3 (fun U=>jB w' U)
   (first
     | with_reducible exact hS0
     | with_reducible exact HB5.out
     | with_reducible exact hS00)
   (first
   | (go_at_call 94
      refine (CN.out _ ‹jB w' _›).mono ?_;rintro e w5 ⟨C,rfl,_,_,hb5⟩;have HB5:=jH (a0D ‹jB w' _› hb5);clear hb5)
   | (go_at_call 93
      refine (CO.out _ ‹jB w' _› _).mono ?_;rintro e w6 ⟨rfl,rfl⟩))
 all_goals
   refine a0Y ?_;intro W6 hW6;have hb6:jB w' W6:=by rw [hW6];first|exact HB5.out|exact HB5.out.drew|exact a0G HB5.out _
   clear hW6;go_wp2
   go_ret3
   exact ⟨rfl,hb6⟩
theorem r0D (w:World) (v:Value) (h:a0I B w S c rs rh n wd d) (hB:∀b,w.heap.size≤b→B b) (hp0:0<d.sts.length) (hp:v0J w v d) (hh:b0V c wd) (hl:(d0D wd).length≤400) (hc:wd.cuts.length≤900000) (hep:0≤wd.ep∧wd.ep≤1000000) (hf:¬64≤d.live.length) :
 Calls Tryz.prog 34 #[.pointer (some ⟨S,0,none⟩),v] w fun e w'=>e=.returned (.tuple #[.int .i64 (wd.ep+1),.int .i64 ((wd.cuts.length+1:Nat):Int),.int .i64 0]) ∧
   ∃C,w.heap.size≤C∧a0I B w' S c rs rh n { wd with ep:=wd.ep+1,cuts:=wd.cuts++[⟨wd.ep+1,d0D wd,false⟩] } { d with live:=d0F d.live (hdl (wd.cuts.length+1)) C }∧Upd w w' (d.fp S) (d.fp S):=by
 obtain ⟨a1,a2,a3⟩:=a0A jR h.cell;have HM:=jH (c0K w h hp0);obtain ⟨e1,he1⟩:∃e1,e1=wd.ep+1:=⟨_,rfl⟩;have hw:IntKind.i64.wrap (wd.ep+1)=e1:=by rw [IntKind.wrap_i64];omega
 have hw2:wrap64 (wd.ep+1)=e1:=by unfold wrap64;omega
 have H:=jH h;have HEP:=jH hep;have HCL:=jH hc;have CN:=jH (fun W (hW:jB w W)=>d1S W v (h.below hW) (fun b hb=>hB b (Nat.le_trans hW.size hb)) (hp.below hW) hh hl (wd.ep+1));have CO:=jH (fun W (hW:jB w W) C=>a1P W (h.below hW) hc C hf);have rs1:∀U,jB w U→U.cell? ⟨S,1,none⟩=some (.pointer (some ⟨d.H,0,none⟩)):=fun U hU=>(hU.cell (p:=⟨S,_,none⟩) a3).trans (a1 1)
 have rs2:∀U,jB w U→U.cell? ⟨S,2,none⟩=some (.int .i64 wd.ep):=fun U hU=>(hU.cell (p:=⟨S,_,none⟩) a3).trans (a1 2)
 have HE1:=jH he1;rw [←he1] at CN ⊢;obtain ⟨m1,hm1⟩:∃m1,m1=((wd.cuts.length+1:Nat):Int):=⟨_,rfl⟩;obtain ⟨m2,hm2⟩:∃m2,m2=((wd.cuts.length+1+1:Nat):Int):=⟨_,rfl⟩;have HM2:=jH hm2;rw [←hm1,←hm2] at CO;rw [←hm1];clear h hp hh hB he1 a1 a2 hp0 hep hm1 hm2 hc hl hf
 go_enter Tryz.func34,Tryz.ntmps34
 go_wp2_with (go_at_call 80;refine HM.out.mono ?_;rintro e w' ⟨rfl,rfl⟩)
 go_region_with (first
  | (go_at_call 94
     refine a0B ?_;intro W2 hW2;have hb2:jB w' W2:=by rw [hW2];repeat (first|exact jR|refine a0C ?_ _|refine Below.drew ?_)
     clear hW2;refine (CN.out W2 hb2).mono ?_;rintro e w5 ⟨C,rfl,hC5,hge,hb5⟩;have HB5:=jH (a0D hb2 hb5);have HC5:=jH hC5;have HGE:=jH (Nat.le_trans hb2.size hge);have h5:=a0D hb2 hb5;clear hb2 hb5 hC5 hge)
  | (go_at_call 93
     refine a0B ?_;intro W4 hW4;have hb4:jB w5 W4:=by rw [hW4];repeat (first|exact jR|refine a0C ?_ _|refine Below.drew ?_)
     clear hW4;have HB4:=jH hb4;refine (CO.out W4 (a0D HB5.out hb4) C).mono ?_;rintro e w6 ⟨rfl,o,hw6,ho⟩;have HW6:=jH hw6;have HO:=jH ho;have hS6:=(show w6.heap[S]?=W4.heap[S]? by rw [hw6];exact (c0Q H.out.ne.1).trans (b0I H.out.ne.2.1)).trans (H.out.below (a0D HB5.out hb4)).cell;have HS6:=jH hS6;clear hb4 hw6 ho hS6))
 all_goals
   refine a0Y ?_;intro W7 hW7;have hh7:W7.heap=w6.heap:=by rw [hW7]
   have h70:W7.os=w6.os∧W7.tape=w6.tape∧W7.output=w6.output:=by rw [hW7];refine ⟨?_,?_,?_⟩ <;> rfl
   have hS7:W7.heap[S]?=_:=(show W7.heap[S]?=w6.heap[S]? by rw [hh7]).trans HS6.out;obtain ⟨b1,b2,b3⟩:=a0A jR hS7;have HH7:=jH hh7;have H70:=jH h70;have HS7:=jH hS7;clear hW7 hh7 h70 hS7 h5 rs1 rs2 a3;go_wp2
   go_ret3
   refine ⟨rfl,C,HGE.out,?_⟩;have hb45:=a0D HB5.out HB4.out;have hat:=H.out.below hb45;have hC4:=HC5.out.keep HB4.out.size (fun b hb hlt=>⟨HB4.out.block b hlt,hb⟩);have hw6:=HW6.out;have hw7:=HH7.out;have hL7:W7.heap.size=W4.heap.size:=by rw [hw7,hw6];simp [d0I]
   have hk7:∀r,r≠d.H→r≠d.L→W7.heap[r]?=W4.heap[r]?:=fun r h1 h2=>by rw [hw7,hw6];exact (c0Q h1).trans (b0I h2)
   have hop:=hat.opened (w':=W7.setCell ⟨S,2,none⟩ (.int .i64 e1)) (C:=C) HCL.out HEP.out.1 (by rw [←HE1.out];exact hC4) (by show W7.os=_;rw [H70.out.1,hw6];rfl) (by show W7.tape=_;rw [H70.out.2.1,hw6];rfl) (by show W7.output=_;rw [H70.out.2.2,hw6];rfl) (by simp [hL7]) (fun r h1 h2 h3=>(c0Q h1).trans (hk7 r h2 h3))
     (by rw [a0E HS7.out,←HE1.out];rfl)
     (by
       rw [c0Q (Ne.symm H.out.ne.1),hw7,hw6,a0E ((b0I H.out.ne.2.2).trans hat.tab),HM2.out];rfl)
     (HO.out.block ((c0Q (Ne.symm H.out.ne.2.1)).trans (by rw [hw7,hw6];exact c0Q (Ne.symm H.out.ne.2.2))))
   rw [←HE1.out] at hop;exact ⟨hop.1,(Upd.of_below hb45 _).trans hop.2⟩
end
end
end
end Go.Proofs.YtmniiodpbebnmaaGreat
