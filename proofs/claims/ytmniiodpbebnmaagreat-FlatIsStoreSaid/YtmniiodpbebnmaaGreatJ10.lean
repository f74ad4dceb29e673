/- Part 10 of the proof. -/
import Derived.Test.YtmniiodpbebnmaaGreatJ09
import Derived.Deep.DeepCutAuto
namespace Go.Proofs.YtmniiodpbebnmaaGreat
set_option linter.unusedSimpArgs false
set_option linter.unusedVariables false
set_option linter.unusedSectionVars false
set_option maxRecDepth 100000
set_option maxHeartbeats 16000000
section
open Go.RowKit Go.Lib Go.Sort
def p0P (w:World) (y:Nd) (rs rh:Nat) (mf:List Nat) (mk:Value→Value) (e:Ending) (w':World):Prop :=
 ∃N fp',e=.returned (mk (.pointer (some ⟨N,0,none⟩)))∧b0G w' N y rs rh fp'∧Upd w w' mf fp'
theorem x0Q {w1 w2:World} {N S H:Nat} {x:Nd} {rs rh:Nat} {fs fh fs':List Nat} {l':List Smp} (h1:w1.heap[N]?=some (.cells (ndC x S H) 258 (0,0))) (hH:d0R w1 H x.past rh fh) (h4:N∉fs) (h5:N∉fh) (h6:∀k∈fs,k∉fh)
    (hS:e0S w2 S l' (rs:Nat) fs') (hu:Upd w1 w2 fs fs') (hr:b0K l') (hl:l'.length≤rs):b0G w2 N { x with smp:=l' } rs rh (N::(fs'++fh))∧Upd w1 w2 (N::(fs++fh)) (N::(fs'++fh)):=by
  have hlt:=(jL h1);have hfr:∀k,k∈fs'→k<w1.heap.size→k∈fs:=fun k hk hl=>(hu.fresh k hk).elim id (fun h=>by omega)
  refine ⟨⟨S,fs',H,fh,(hu.block N hlt h4).trans h1,hS,hH.kept (fun r hr=>hu.block r (hH.lt r hr) (fun h=>h6 r h hr)),fun h=>h4 (hfr N h hlt),h5,fun k hk hk'=>h6 k (hfr k hk (hH.lt k hk')) hk',rfl,hr,hl⟩,hu.mono (fun k hk=>List.mem_cons_of_mem _ (List.mem_append_left _ hk)) (fun k hk=>?_)⟩
  rcases List.mem_cons.1 hk with rfl|hk
  · exact .inl (List.mem_cons_self ..)
  · rcases List.mem_append.1 hk with hk|hk
    · exact (hu.fresh k hk).imp (fun h=>List.mem_cons_of_mem _ (List.mem_append_left _ h)) id
    · exact .inl (List.mem_cons_of_mem _ (List.mem_append_right _ hk))
theorem f1U {w1 w2:World} {N S H:Nat} {x:Nd} {rs rh:Nat} {fs fh fh':List Nat} {l':List Adv} (h1:w1.heap[N]?=some (.cells (ndC x S H) 258 (0,0))) (hS:e0S w1 S x.smp (rs:Nat) fs) (h4:N∉fs) (h5:N∉fh) (h6:∀k∈fs,k∉fh)
    (hH:d0R w2 H l' rh fh') (hu:Upd w1 w2 fh fh') (hr:b0K x.smp) (hl:x.smp.length≤rs):b0G w2 N { x with past:=l' } rs rh (N::(fs++fh'))∧Upd w1 w2 (N::(fs++fh)) (N::(fs++fh')):=by
  have hlt:=(jL h1);have hfr:∀k,k∈fh'→k<w1.heap.size→k∈fh:=fun k hk hl=>(hu.fresh k hk).elim id (fun h=>by omega)
  refine ⟨⟨S,fs,H,fh',(hu.block N hlt h5).trans h1,hS.kept (fun r hr=>hu.block r (hS.lt r hr) (fun h=>h6 r hr h)),hH,h4,fun h=>h5 (hfr N h hlt),fun k hk hk'=>h6 k hk (hfr k hk' (hS.lt k hk)),rfl,hr,hl⟩,hu.mono (fun k hk=>List.mem_cons_of_mem _ (List.mem_append_right _ hk)) (fun k hk=>?_)⟩
  rcases List.mem_cons.1 hk with rfl|hk
  · exact .inl (List.mem_cons_self ..)
  · rcases List.mem_append.1 hk with hk|hk
    · exact .inl (List.mem_cons_of_mem _ (List.mem_append_left _ hk))
    · exact (hu.fresh k hk).imp (fun h=>List.mem_cons_of_mem _ (List.mem_append_right _ h)) id
theorem g0F {l:List Smp} (hr:b0K l) (t:Int):∀i (h:i<l.length),(i<a0N l t ↔ l[i].1<t):=by
 induction l with
 | nil=>intro i h;simp at h
 | cons a l ih =>
   have hr':b0K l:=(List.pairwise_cons.1 hr).2;have ha:=(List.pairwise_cons.1 hr).1;intro i h
   by_cases hta:t≤a.1
   · have h0:a0N (a::l) t=0:=by
      unfold a0N;rw [List.countP_eq_zero];intro y hy
      rcases List.mem_cons.1 hy with rfl|hy
      · simp [hta]
      · have:=ha y hy;simp;omega
     rw [h0];refine iff_of_false (by omega) ?_
     cases i with
     | zero=>simp;omega
     | succ i=>have:=ha _ (List.getElem_mem (by simpa using h:i<l.length));simp;omega
   · have h1:a0N (a::l) t=a0N l t+1:=by unfold a0N;rw [List.countP_cons];simp;omega
     rw [h1]
     cases i with
     | zero=>simp;omega
     | succ i=>have:=ih hr' i (by simpa using h);simp;omega
theorem e0F {l:List Smp} (hr:b0K l) (n:Nat):b0K (l.drop n):=hr.sublist (List.drop_sublist n l)
theorem c1U {l:List Smp} (hr:b0K l) (room:Int):b0K (e1L room l):=by
 unfold e1L
 split
 · exact e0F hr 1
 · exact hr
theorem w0N {l:List Smp} (hr:b0K l) (t:Int) {a:Smp} (h:a∈l.take (a0N l t)):a.1<t:=by
 obtain ⟨i,hi,rfl⟩:=List.getElem_of_mem h;simp only [List.length_take] at hi
 rw [List.getElem_take];exact (g0F hr t i (by omega)).1 (by omega)
theorem m0Z {l:List Smp} (hr:b0K l) (t:Int) {a:Smp} (h:a∈l.drop (a0N l t)):t≤a.1:=by
 obtain ⟨i,hi,rfl⟩:=List.getElem_of_mem h;simp only [List.length_drop] at hi
 rw [List.getElem_drop];have hi':a0N l t+i<l.length:=by omega
 have h2:=g0F hr t (a0N l t+i) hi'
 by_cases h3:l[a0N l t+i].1<t
 · have:=h2.2 h3;omega
 · omega
theorem d1G {l:List Smp} (hr:b0K l) (x:Smp) (h:d1K l x=false):b0K (h1X l x):=by
 unfold h1X b0K;have hge:∀a∈l.drop (a0N l x.1),x.1<a.1:=fun a ha=>by
  have h1:=m0Z hr x.1 ha;obtain ⟨i,hi,rfl⟩:=List.getElem_of_mem ha
  rcases Nat.eq_zero_or_pos i with rfl|hp
  · have hlt:a0N l x.1<l.length:=by simp only [List.length_drop] at hi;omega
    unfold d1K at h;rw [decide_eq_false_iff_not,List.getElem?_eq_getElem hlt] at h;rw [List.getElem_drop] at h1 ⊢;simp only [Nat.add_zero] at h1 ⊢
    have hn:(l[a0N l x.1]).1≠x.1:=fun e=>h (by simp [e])
    omega
  · have h0:=List.pairwise_iff_getElem.1 (e0F hr (a0N l x.1)) 0 i (by omega) hi hp
    have h2:=m0Z hr x.1 (List.getElem_mem (by omega:0<(l.drop (a0N l x.1)).length));omega
 rw [List.pairwise_append];refine ⟨hr.sublist (List.take_sublist _ l),List.pairwise_cons.2 ⟨hge,e0F hr _⟩,fun a ha b hb=>?_⟩;have h1:=w0N hr x.1 ha
 rcases List.mem_cons.1 hb with rfl|hb
 · exact h1
 · have:=hge b hb;omega
theorem c1T {l:List Smp} (hr:b0K l) (x:Smp) (h:d1K l x=true):b0K (l.set (a0N l x.1) x):=by
 have e:(l.set (a0N l x.1) x).map (·.1)=l.map (·.1):=by
  rw [List.map_set];unfold d1K at h;rw [decide_eq_true_eq] at h;refine List.ext_getElem? fun i=>?_
  rw [List.getElem?_set]
  split
  · rename_i hi
    rw [←hi,List.getElem?_map,h]
    split
    · rfl
    · rename_i hn
      rw [List.getElem?_eq_none (by simpa using hn)] at h;simp at h
  · rfl
 have h1:(l.map (·.1)).Pairwise (· < ·):=List.pairwise_map.2 hr;rw [←e] at h1;exact List.pairwise_map.1 h1
theorem k0M {l:List Smp} (hr:b0K l) (room:Int) (x:Smp):b0K (l0X l room x):=by
 unfold l0X
 cases h:d1K l x with
 | true=>exact c1T hr x h
 | false=>exact c1U (d1G hr x h) room
theorem m0G {l:List Smp} {room:Nat} (hl:l.length≤room) (x:Smp):(l0X l (room:Nat) x).length≤room:=by
 unfold l0X
 split
 · simpa using hl
 · unfold e1L
   have:=y0Y l x
   split
   · simp;omega
   · omega
theorem w0W (N:Nat) (x:Nd) (rs rh:Nat) (fp:List Nat) (s:Smp) (w:World) (h:b0G w N x rs rh fp) (hrs0:1≤rs) (hrs:rs≤256) (hrh:rh≤64) (hv:x.ver≤1000000) (hx1:0≤s.1) (hx2:0≤s.2) :
 Calls Tryz.prog 151 #[.pointer (some ⟨N,0,none⟩),.int .i64 s.1,.int .i64 s.2] w (p0P w { g0N x with smp:=l0X x.smp (rs:Nat) s } rs rh (mfp x fp) (fun p=>.tuple #[p,.int .i64 0])):=by
 have hs0:g0C s.1 s.2=0:=by unfold g0C;rw [if_neg (by omega),if_neg (by omega)]
 have HS0:=jH hs0;have HM:=jH (e0M N x rs rh fp w h);have HN:=jH h;clear hs0 h
 go_enter Tryz.func151,Tryz.ntmps151
 go_wp2_with (first
  | (go_at_call 102;refine (b0A _ _ _).mono ?_;rw [HS0.out];rintro e w1 ⟨rfl,rfl⟩)
  | (go_at_call 174;refine HM.out.mono ?_;rintro e w2 ⟨rfl,hb2⟩;have HB2:=jH hb2;clear hb2)
  | (go_at_call 207
     refine (q0V N x rs rh fp w2 (HN.out.below HB2.out) hrs hrh hv).mono ?_;rintro e w3 ⟨N3,fp3,rfl,⟨S,fs,H,fh,h1,h2,h3,h4,h5,h6,hfp,h7,h8⟩,hu3⟩;have g1:=h1;unfold ndC at g1;obtain ⟨a1,a2,a3⟩:=a0A jR g1;have HU3:=jH ((Upd.of_below HB2.out _).trans hu3);have H1:=jH h1;have H2:=jH h2;have H3:=jH h3;have H7:=jH h7;have H8:=jH h8;have HFP:=jH hfp;clear g1 h1 h2 h3 h7 h8 hu3 hfp)
  | (go_at_call 194
     refine (p0G S _ (rs:Nat) fs s w3 H2.out H7.out (by have:=H8.out;omega) (by omega) hx1 hx2).mono ?_;rintro e w4 ⟨fs',rfl,hs4,hu4⟩;have HL:=jH (x0Q H1.out H3.out h4 h5 h6 hs4 hu4 (k0M H7.out _ _) (m0G H8.out s));clear hs4 hu4))
 refine bodyPost_ret (v:=.tuple #[.pointer (some ⟨N3,0,none⟩),.int .i64 0]) (by simp [results,Tryz.results151,go_sem]) rfl ?_;obtain ⟨l1,l2⟩:=HL.out;refine ⟨N3,_,rfl,l1,?_⟩;have hu:=HU3.out;rw [HFP.out] at hu;exact hu.trans l2
theorem e1T {w:World} {N:Nat} {x:Nd} {rs rh:Nat} {fp:List Nat} (h:b0G w N x rs rh fp) (p:Pol) :
 b0G (((((((w.setCell ⟨N,0,none⟩ (.int .i64 p.mn)).setCell ⟨N,1,none⟩ (.int .i64 p.mx)).setCell ⟨N,2,none⟩ (.int .i64 p.tg)).setCell ⟨N,3,none⟩ (.int .i64 p.tol)).setCell ⟨N,4,none⟩ (.int .i64 p.win)).setCell ⟨N,5,none⟩ (.int .i64 p.hold)).setCell ⟨N,6,none⟩ (.bool true)) N { x with pol:=p,ruled:=true } rs rh fp ∧
 Upd w (((((((w.setCell ⟨N,0,none⟩ (.int .i64 p.mn)).setCell ⟨N,1,none⟩ (.int .i64 p.mx)).setCell ⟨N,2,none⟩ (.int .i64 p.tg)).setCell ⟨N,3,none⟩ (.int .i64 p.tol)).setCell ⟨N,4,none⟩ (.int .i64 p.win)).setCell ⟨N,5,none⟩ (.int .i64 p.hold)).setCell ⟨N,6,none⟩ (.bool true)) fp fp:=by
 have h0:=e0X (y:={ x with pol:={ x.pol with mn:=p.mn } }) h (i:=0) (fun S H=>rfl) rfl rfl;have h1:=e0X (y:={ x with pol:={ x.pol with mn:=p.mn,mx:=p.mx } }) h0 (i:=1) (fun S H=>rfl) rfl rfl;have h2:=e0X (y:={ x with pol:={ x.pol with mn:=p.mn,mx:=p.mx,tg:=p.tg } }) h1 (i:=2) (fun S H=>rfl) rfl rfl;have h3:=e0X (y:={ x with pol:={ x.pol with mn:=p.mn,mx:=p.mx,tg:=p.tg,tol:=p.tol } }) h2 (i:=3) (fun S H=>rfl) rfl rfl
 have h4:=e0X (y:={ x with pol:={ x.pol with mn:=p.mn,mx:=p.mx,tg:=p.tg,tol:=p.tol,win:=p.win } }) h3 (i:=4) (fun S H=>rfl) rfl rfl;have h5:=e0X (y:={ x with pol:=p }) h4 (i:=5) (fun S H=>rfl) rfl rfl;have h6:=e0X (y:={ x with pol:=p,ruled:=true }) h5 (i:=6) (fun S H=>rfl) rfl rfl;refine ⟨h6,?_⟩;have hm:=h.mem;exact ((((((Upd.set N 0 _ fp hm).trans (Upd.set N 1 _ fp hm)).trans (Upd.set N 2 _ fp hm)).trans (Upd.set N 3 _ fp hm)).trans (Upd.set N 4 _ fp hm)).trans (Upd.set N 5 _ fp hm)).trans (Upd.set N 6 _ fp hm)
theorem t0V (N:Nat) (x:Nd) (rs rh:Nat) (fp:List Nat) (a:Adv) (w:World) (h:b0G w N x rs rh fp) (hrs:rs≤256) (hrh:rh≤64) (hv:x.ver≤1000000) :
 Calls Tryz.prog 176 #[.pointer (some ⟨N,0,none⟩),.agg (c0U a).toArray] w (p0P w { g0N x with past:=g0B x.past rh a } rs rh (mfp x fp) id):=by
 have HN:=jH h;clear h;unfold c0U
 go_enter Tryz.func176,Tryz.ntmps176
 go_wp2_with (first
  | (go_at_call 174
     refine a0B ?_;intro W1 hW1;have hb1:jB w W1:=by rw [hW1];exact a0C jR _
     have hx1:W1.heap[w.heap.size]?=some (.cells #[.int .i64 a.tick,.int .i64 a.load,.int .i64 a.want,.int .i64 a.repl,.int .i64 a.why] 44 (0,0)):=by rw [hW1];exact heap_alloc_new _ _
     clear hW1;refine (e0M N x rs rh fp W1 (HN.out.below hb1)).mono ?_;rintro e w2 ⟨rfl,hb2⟩;have HB2:=jH (a0D hb1 hb2);have HX:=jH ((hb2.block w.heap.size (jL hx1)).trans hx1);clear hb1 hb2 hx1)
  | (go_at_call 207
     refine a0B ?_;intro W2 hW2;have hb2':jB w W2:=by rw [hW2];exact HB2.out
     have hx2:=HX.out;rw [←hW2] at hx2;refine (q0V N x rs rh fp W2 (HN.out.below hb2') hrs hrh hv).mono ?_;rintro e w3 ⟨N3,fp3,rfl,⟨S,fs,H,fh,h1,h2,h3,h4,h5,h6,hfp,h7,h8⟩,hu3⟩;have g1:=h1;unfold ndC at g1;obtain ⟨a1,a2,a3⟩:=a0A jR g1;have hnm:w.heap.size∉mfp x fp:=fun hm=>by
      unfold mfp at hm
      split at hm
      · simp at hm
      · have:=HN.out.lt _ hm;omega
     have hx3:=(hu3.block w.heap.size (jL hx2) hnm).trans hx2;obtain ⟨b1,b2,b3⟩:=a0A jR hx3;have HU3:=jH ((Upd.of_below hb2' _).trans hu3);have H1:=jH h1;have H2:=jH h2;have H3:=jH h3;have H7:=jH h7;have H8:=jH h8;have HFP:=jH hfp;clear g1 h1 h2 h3 h7 h8 hu3 hfp hx2 hx3 hb2' hW2 hnm))
 go_region_with ((
   go_at_call 221
   refine a0B ?_;intro W4 hW4;have hb4:jB w3 W4:=by rw [hW4];repeat (first|exact jR|refine Below.drew ?_)
   clear hW4;refine (v0H H _ rh fh a W4 (H3.out.below hb4) (by omega)).mono ?_;rintro e w4 ⟨u,fh',rfl,hh4,hu4⟩;have HL:=jH (f1U H1.out H2.out h4 h5 h6 hh4 ((Upd.of_below hb4 _).trans hu4) H7.out H8.out);clear hh4 hu4 hb4))
 all_goals go_wp2
 all_goals go_ret
 all_goals
   obtain ⟨l1,l2⟩:=HL.out;have hu:=HU3.out;rw [HFP.out] at hu;exact ⟨N3,_,rfl,l1,hu.trans l2⟩
theorem w0O (N:Nat) (p:Pol) (w:World) (hp:g0Z p=false) :
 Calls Tryz.prog 157 #[.pointer (some ⟨N,0,none⟩),d0E p] w (jP w (.tuple #[.pointer (some ⟨N,0,none⟩),.int .i64 7])):=by
 have hE:i0F p=7:=by unfold i0F;rw [hp];rfl
 have HE:=jH hE;have HC:=jH (a0W p);clear hp hE;unfold d0E;unfold d0E at HC
 go_enter Tryz.func157,Tryz.ntmps157
 go_wp2_with (go_at_call 103;refine (HC.out _).mono ?_;rw [HE.out];rintro e w2 ⟨rfl,hb2⟩;have HB:=jH hb2;clear hb2)
 exact bodyPost_ret (v:=.tuple #[.pointer (some ⟨N,0,none⟩),.int .i64 7]) (by simp [results,Tryz.results157,go_sem]) rfl ⟨rfl,a0D (a0C jR _) HB.out⟩
theorem j0E (N:Nat) (x:Nd) (rs rh:Nat) (fp:List Nat) (p:Pol) (w:World) (h:b0G w N x rs rh fp) (hrs:rs≤256) (hrh:rh≤64) (hv:x.ver≤1000000) (hp:g0Z p=true) :
 Calls Tryz.prog 157 #[.pointer (some ⟨N,0,none⟩),d0E p] w (p0P w { g0N x with pol:=p,ruled:=true } rs rh (mfp x fp) (fun q=>.tuple #[q,.int .i64 0])):=by
 have HN:=jH h;have hE:i0F p=0:=by unfold i0F;rw [hp];rfl
 have HE:=jH hE;have HC:=jH (a0W p);clear h hp hE;unfold d0E;unfold d0E at HC
 go_enter Tryz.func157,Tryz.ntmps157
 go_wp2_with (first
  | (go_at_call 103
     refine a0B ?_;intro W1 hW1;have hb1:jB w W1:=by rw [hW1];exact a0C jR _
     have hx1:W1.heap[w.heap.size]?=some (.cells #[.int .i64 p.mn,.int .i64 p.mx,.int .i64 p.tg,.int .i64 p.tol,.int .i64 p.win,.int .i64 p.hold] 35 (0,0)):=by rw [hW1];exact heap_alloc_new _ _
     clear hW1;refine (HC.out W1).mono ?_;rw [HE.out];rintro e w2 ⟨rfl,hb2⟩;have HB2:=jH (a0D hb1 hb2);have HX:=jH ((hb2.block w.heap.size (jL hx1)).trans hx1);clear hb1 hb2 hx1)
  | (go_at_call 174
     refine (e0M N x rs rh fp w2 (HN.out.below HB2.out)).mono ?_;rintro e w5 ⟨rfl,hb5⟩;have HB5:=jH (a0D HB2.out hb5);have HX5:=jH ((hb5.block w.heap.size (jL HX.out)).trans HX.out);clear hb5)
  | (go_at_call 207
     refine (q0V N x rs rh fp w5 (HN.out.below HB5.out) hrs hrh hv).mono ?_;rintro e w3 ⟨N3,fp3,rfl,hn3,hu3⟩;have hnm:w.heap.size∉mfp x fp:=fun hm=>by
      unfold mfp at hm
      split at hm
      · simp at hm
      · have:=HN.out.lt _ hm;omega
     have hx3:=(hu3.block w.heap.size (jL HX5.out) hnm).trans HX5.out;obtain ⟨b1,b2,b3⟩:=a0A jR hx3;have hlt5:=(jL HX5.out);have hne:w.heap.size≠N3:=fun e=>by
      rcases hu3.fresh N3 hn3.mem with h|h
      · rw [←e] at h;exact hnm h
      · omega
     have HL:=jH (e1T hn3 p);have HU3:=jH ((Upd.of_below HB5.out _).trans hu3);obtain ⟨S,fs,H,fh,h1,h2,h3,h4,h5,h6,hfp,h7,h8⟩:=hn3;unfold ndC at h1;obtain ⟨a1,a2,a3⟩:=a0A jR h1;clear h1 h2 h3 h4 h5 h6 h7 h8 hfp hu3 hx3 hnm))
 refine bodyPost_ret (v:=.tuple #[.pointer (some ⟨N3,0,none⟩),.int .i64 0]) (by simp [results,Tryz.results157,go_sem]) rfl ?_;exact ⟨N3,fp3,rfl,HL.out.1,HU3.out.trans HL.out.2⟩
theorem v0T {l:List Smp} (hr:b0K l) (t:Int) (h:a0N l t=0):∀h0:0<l.length,t≤l[0].1:=fun h0=>by
 by_cases h3:l[0].1<t
 · have:=(g0F hr t 0 h0).2 h3;omega
 · omega
theorem z0X {l:List Smp} (hr:b0K l) (t:Int) (h:0<a0N l t):∃h0:0<l.length,l[0].1<t:=by
 have h0:0<l.length:=by have:=f0N l t;omega
 exact ⟨h0,(g0F hr t 0 h0).1 h⟩
def TrimS (w:World) (N:Nat) (x:Nd) (rs rh:Nat) (fp:List Nat) (t:Int) (e:Ending) (w':World):Prop :=
 (a0N x.smp t=0∧e=.returned (.tuple #[.pointer (some ⟨N,0,none⟩),.int .i64 0])∧jB w w') ∨
 (0<a0N x.smp t∧p0P w { g0N x with smp:=x.smp.drop (a0N x.smp t) } rs rh (mfp x fp) (fun q=>.tuple #[q,.int .i64 (a0N x.smp t:Nat)]) e w')
theorem q0J (N:Nat) (x:Nd) (rs rh:Nat) (fp:List Nat) (t:Int) (w:World) (h:b0G w N x rs rh fp) (hrs:rs≤256) (h0:a0N x.smp t=0) :
 Calls Tryz.prog 154 #[.pointer (some ⟨N,0,none⟩),.int .i64 t] w (TrimS w N x rs rh fp t):=by
 have HN:=jH h;have HM:=jH (e0M N x rs rh fp w h);obtain ⟨S,fs,H,fh,h1,h2,h3,h4,h5,h6,hfp,h7,h8⟩:=h;unfold ndC at h1;have hz:=v0T h7 t h0;have HS:=jH h2;have H1:=jH h1;have H0:=jH h0;clear h1 h2 h3 h4 h5 h6 hfp h7 h0
 rcases Nat.eq_zero_or_pos x.smp.length with he|hp
 · go_enter Tryz.func154,Tryz.ntmps154
   go_wp2_with (first
    | (go_at_call 174;refine HM.out.mono ?_;rintro e w2 ⟨rfl,hb2⟩;obtain ⟨a1,a2,a3⟩:=a0A hb2 H1.out;have HB2:=jH hb2;clear hb2)
    | (go_at_call 128
       refine (e0E S _ _ fs w2 (HS.out.below HB2.out) (by omega)).mono ?_;rintro e w3 ⟨A,c,fq,rfl,hq,_,hb3⟩;have HB3:=jH (a0D HB2.out hb3);clear hq hb3))
   exact bodyPost_ret (v:=.tuple #[.pointer (some ⟨N,0,none⟩),.int .i64 0]) (by simp [results,Tryz.results154,go_sem]) rfl (.inl ⟨H0.out,rfl,HB3.out⟩)
 · have hz1:=hz hp
   have hne:((x.smp.length:Int) == 0)=false:=by rw [beq_eq_false_iff_ne];omega
   clear hz
   go_enter Tryz.func154,Tryz.ntmps154
   go_wp2_with (first
    | (go_at_call 174;refine HM.out.mono ?_;rintro e w2 ⟨rfl,hb2⟩;obtain ⟨a1,a2,a3⟩:=a0A hb2 H1.out;have HB2:=jH hb2;clear hb2)
    | (go_at_call 128
       refine (e0E S _ _ fs w2 (HS.out.below HB2.out) (by omega)).mono ?_;rintro e w3 ⟨A,c,fq,rfl,hq,_,hb3⟩;obtain ⟨g,o,rfl,hg,hc⟩:=(hq.row d0C).at_ hp;have hc0:=hc 0 _ rfl;simp only [Nat.zero_mul,Nat.add_zero] at hc0
       have q1:(0:Int)<(x.smp.length:Int):=by omega
       have HB3:=jH (a0D HB2.out hb3);clear hq hb3 hc))
   exact bodyPost_ret (v:=.tuple #[.pointer (some ⟨N,0,none⟩),.int .i64 0]) (by simp [results,Tryz.results154,go_sem]) rfl (.inl ⟨H0.out,rfl,HB3.out⟩)
theorem q0R (N:Nat) (x:Nd) (rs rh:Nat) (fp:List Nat) (t:Int) (w:World) (h:b0G w N x rs rh fp) (hrs:rs≤256) (hrh:rh≤64) (hv:x.ver≤1000000) (h0:0<a0N x.smp t) :
 Calls Tryz.prog 154 #[.pointer (some ⟨N,0,none⟩),.int .i64 t] w (TrimS w N x rs rh fp t):=by
 have HN:=jH h;have HM:=jH (e0M N x rs rh fp w h);obtain ⟨S,fs,H,fh,h1,h2,h3,h4,h5,h6,hfp,h7,h8⟩:=h;unfold ndC at h1;obtain ⟨hp,hlt⟩:=z0X h7 t h0;have HS:=jH h2;have H1:=jH h1;have H0:=jH h0;clear h1 h2 h3 h4 h5 h6 hfp h7 h0;have hz1:¬t≤x.smp[0].1:=by omega
 have hne:((x.smp.length:Int) == 0)=false:=by rw [beq_eq_false_iff_ne];omega
 clear hlt
 go_enter Tryz.func154,Tryz.ntmps154
 go_wp2_with (first
  | (go_at_call 174;refine HM.out.mono ?_;rintro e w2 ⟨rfl,hb2⟩;obtain ⟨a1,a2,a3⟩:=a0A hb2 H1.out;have HB2:=jH hb2;clear hb2)
  | (go_at_call 128
     refine (e0E S _ _ fs w2 (HS.out.below HB2.out) (by omega)).mono ?_;rintro e w3 ⟨A,c,fq,rfl,hq,_,hb3⟩;obtain ⟨g,o,rfl,hg,hc⟩:=(hq.row d0C).at_ hp;have hc0:=hc 0 _ rfl;simp only [Nat.zero_mul,Nat.add_zero] at hc0
     have q1:(0:Int)<(x.smp.length:Int):=by omega
     have HB3:=jH (a0D HB2.out hb3);clear hq hb3 hc)
  | (go_at_call 207
     refine (q0V N x rs rh fp w3 (HN.out.below HB3.out) hrs hrh hv).mono ?_;rintro e w5 ⟨N3,fp3,rfl,⟨S5,fs5,H5,fh5,h1,h2,h3,h4,h5,h6,hfp,h7,h8⟩,hu3⟩;have g1:=h1;unfold ndC at g1;obtain ⟨b1,b2,b3⟩:=a0A jR g1;have HU3:=jH ((Upd.of_below HB3.out _).trans hu3);have G1:=jH h1;have G2:=jH h2;have G3:=jH h3;have G7:=jH h7;have G8:=jH h8;have HFP:=jH hfp;clear g1 h1 h2 h3 h7 h8 hu3 hfp)
  | (go_at_call 210
     refine (u0Q S5 _ (rs:Nat) fs5 t w5 G2.out G7.out (by have:=G8.out;omega)).mono ?_;rintro e w6 ⟨fs',rfl,hs4,hu4⟩;have HL:=jH (x0Q G1.out G3.out h4 h5 h6 hs4 hu4 (e0F G7.out _) (by have:=G8.out;simp;omega));clear hs4 hu4))
 refine bodyPost_ret (v:=.tuple #[.pointer (some ⟨N3,0,none⟩),.int .i64 (a0N x.smp t:Nat)]) (by simp [results,Tryz.results154,go_sem,g0N]) rfl ?_;obtain ⟨l1,l2⟩:=HL.out;refine .inr ⟨H0.out,N3,_,rfl,l1,?_⟩;have hu:=HU3.out;rw [HFP.out] at hu;exact hu.trans l2
def d0G {α:Type} (P:Nat→Prop) (n:Nat) (f:α→List Value) (w:World) (v:Value) (l:List α):Prop :=
 a0Q n f w v l∧∀b o m c,v=.slice (some ⟨b,o,none⟩) m c→0<l.length→P b
theorem d0G.below {α:Type} {P:Nat→Prop} {n:Nat} {f:α→List Value} {w w':World} {v:Value} {l:List α} (h:d0G P n f w v l) (hb:jB w w'):d0G P n f w' v l:=⟨h.1.below hb,h.2⟩
theorem d0G.imp {α:Type} {P Q:Nat→Prop} {n:Nat} {f:α→List Value} {w:World} {v:Value} {l:List α} (h:d0G P n f w v l) (hi:∀b,P b→Q b):d0G Q n f w v l:=⟨h.1,fun b o m c e hn=>hi b (h.2 b o m c e hn)⟩
theorem d0G.nil {α:Type} {P:Nat→Prop} {n:Nat} {f:α→List Value} {w:World} {A:Option Addr} {c:Nat}:d0G P n f w (.slice A 0 c) ([]:List α):=⟨a0Q.nil,fun _ _ _ _ _ h=>absurd h (Nat.lt_irrefl _)⟩
theorem d0G.own {α:Type} {t e:TypeId} {n bytes:Nat} {z:Value} {f:α→List Value} (E:g0Y t e n bytes z f) {base:Nat} {w:World} {v:Value} {l:List α} (h:b0Q f e n base w v l):d0G (fun b=>base≤b) n f w v l:=by
 refine ⟨h.row E,fun b o m c e hn=>?_⟩
 rcases h.2 with ⟨_,h0⟩|⟨g,cap,cur,hv',hg,_⟩
 · omega
 · rw [e] at hv'
   injection hv' with e1 _ _
   injection e1 with e1
   injection e1 with e1
   omega
theorem d0G.part {α:Type} {P:Nat→Prop} {n:Nat} {f:α→List Value} {w:World} {A A2:Option Addr} {m c c2:Nat} {l l2:List α} (h:d0G P n f w (.slice A m c) l) (hA:0<l.length→∀b o,A2=some ⟨b,o,none⟩→∃o',A=some ⟨b,o',none⟩) (hl:l2.length≤l.length) (h2:a0Q n f w (.slice A2 l2.length c2) l2):d0G P n f w (.slice A2 l2.length c2) l2:=by
 refine ⟨h2,fun b o m' c' e hn=>?_⟩;injection e with e1 _ _
 obtain ⟨o',ho⟩:=hA (by omega) b o e1;exact h.2 b o' m c (by rw [ho]) (by omega)
theorem h1V {α:Type} {t e:TypeId} {n bytes:Nat} {z:Value} {f:α→List Value} (E:g0Y t e n bytes z f) {w:World} {A:Option Addr} {c:Nat} {l:List α} (h:a0Q n f w (.slice A l.length c) l) (a:Nat) (ha:a≤l.length) :
 ∃(m:List α) (A2:Option Addr) (c2:Nat),m=l.drop a∧(0<l.length→∀b o,A2=some ⟨b,o,none⟩→∃o',A=some ⟨b,o',none⟩)∧(∀w':World,(Instr.sliceAt t (.slice A l.length c) (some (.int .i64 a)) none none).run Tryz.prog w'=.ok (.slice A2 m.length c2) w')∧a0Q n f w (.slice A2 m.length c2) m:=by
 obtain ⟨i0,hi0,hz0,hz1,hz2⟩:=info_parts E.hi;have hp:=a0Q.part h (i:=a) (j:=l.length) ha (Nat.le_refl _);rw [List.take_length] at hp;have hlen:(l.drop a).length=l.length - a:=by simp
 have hel:Tryz.prog.elem t=e:=by simp [Program.elem,E.ht]
 refine ⟨l.drop a,_,_,rfl,?_,fun w'=>?_,by rw [hlen];exact hp⟩
 · intro hn b o hb
   obtain ⟨A1,c1,hv,_,hr⟩:=h;injection hv with e1 _ _
   subst e1;obtain ⟨b1,o1,rfl,_⟩:=hr hn
   split at hb
   · exact ⟨o,hb⟩
   · rw [Option.map_some,j0L] at hb
     injection hb with hb
     injection hb with hb
     exact ⟨o1,by rw [hb]⟩
 rw [run_sliceAt_slice _ t _ _ _ _ (by rw [hel];exact E.ht),run_slice_l _ t A l.length c (by rw [hel];exact E.ht) _ _ (by omega) (by omega),hel];simp [sizeOf,typeInfo,hi0,hz1,Result.andThen,sliced,hlen]

end
section
open Go.RowKit Go.Lib

end
section
open Go.RowKit Go.Lib Go.Sort
structure It where
 key:Ky
 sA:Option Addr
 sc:Nat
 pA:Option Addr
 pc:Nat
 nd:Nd
def d0J (P:Nat→Prop) (w:World) (x:It):Prop:=d0G P 2 c0B w (.slice x.sA x.nd.smp.length x.sc) x.nd.smp∧d0G P 5 c0U w (.slice x.pA x.nd.past.length x.pc) x.nd.past
theorem d0J.below {P:Nat→Prop} {w w':World} {x:It} (h:d0J P w x) (hb:jB w w'):d0J P w' x:=⟨h.1.below hb,h.2.below hb⟩
theorem d0J.imp {P Q:Nat→Prop} {w:World} {x:It} (h:d0J P w x) (hi:∀b,P b→Q b):d0J Q w x:=⟨h.1.imp hi,h.2.imp hi⟩
def atI (l:List It) (k:Ky):Nat:=(l.takeWhile (fun x=>ltK x.key k)).length
theorem h1R {l:List It} {k:Ky}:∀{i:Nat} (h:i<l.length),i<atI l k→ltK l[i].key k=true:=by
 induction l with
 | nil=>intro i h;simp at h
 | cons a l ih =>
   intro i h hi
   by_cases ha:ltK a.key k=true
   · have e:atI (a::l) k=atI l k+1:=by simp [atI,ha]
     rw [e] at hi
     cases i with
     | zero=>exact ha
     | succ i=>simpa using ih (by simpa using h) (by omega)
   · have e:atI (a::l) k=0:=by simp [atI,ha]
     omega
theorem n1T {l:List It} {k:Ky} (h:atI l k<l.length):ltK l[atI l k].key k=false:=by
 induction l with
 | nil=>simp at h
 | cons a l ih =>
   by_cases ha:ltK a.key k=true
   · have e:atI (a::l) k=atI l k+1:=by simp [atI,ha]
     simp only [e] at h ⊢
     simp only [List.getElem_cons_succ]
     exact ih (by simpa using h)
   · have e:atI (a::l) k=0:=by simp [atI,ha]
     simp only [e,List.getElem_cons_zero]
     simpa using ha
def j0H (l:List It) (k:Ky):Bool:=if h:atI l k<l.length then decide (l[atI l k].key=k) else false
def it0:It:=⟨(0,0),none,0,none,0,nd0⟩
def k0H (l:List It) (k:Ky):It:=if h:atI l k<l.length then (if l[atI l k].key=k then l[atI l k] else it0) else it0
theorem y0U {l:List It} {k:Ky} (h:j0H l k=true):∃hl:atI l k<l.length,k0H l k=l[atI l k]:=by
 unfold j0H at h
 split at h
 · rename_i hl
   refine ⟨hl,?_⟩;unfold k0H;rw [dif_pos hl,if_pos (by simpa using h)]
 · cases h
theorem h1C {l:List It} {k:Ky} (h:j0H l k=false):k0H l k=it0:=by
 unfold j0H at h;unfold k0H
 split at h
 · rename_i hl
   rw [dif_pos hl,if_neg (by simpa using h)]
 · rename_i hl
   rw [dif_neg hl]

end
section
open Go.RowKit Go.Lib

end
section
open Go.RowKit Go.Lib Go.Sort
structure d0U where
 kind:Int
 smp:Smp
 pol:Pol
 adv:Adv
def l0S (rs rh:Nat) (x:Nd) (a:d0U):Nd × Int × Int :=
 if a.kind=0 then (if g0C a.smp.1 a.smp.2=0 then ({ x with smp:=l0X x.smp (rs:Nat) a.smp,ver:=x.ver+1 },0,(x.smp.length:Int) - ((l0X x.smp (rs:Nat) a.smp).length:Int)) else (x,g0C a.smp.1 a.smp.2,0))
 else if a.kind=1 then (if a0N x.smp a.smp.1=0 then (x,0,0) else ({ x with smp:=x.smp.drop (a0N x.smp a.smp.1),ver:=x.ver+1 },0,(a0N x.smp a.smp.1:Nat)))
 else if a.kind=2 then (if g0Z a.pol=true then ({ x with pol:=a.pol,ruled:=true,ver:=x.ver+1 },0,0) else (x,7,0))
 else if a.kind=3 then ({ x with past:=g0B x.past rh a.adv,ver:=x.ver+1 },0,0)
 else (x,0,0)
theorem d0G.keepP {α:Type} {P:Nat→Prop} {n:Nat} {f:α→List Value} {w w':World} {v:Value} {l:List α} (h:d0G P n f w v l) (hs:w.heap.size≤w'.heap.size) (hk:∀b,P b→b<w.heap.size→w'.heap[b]?=w.heap[b]?):d0G P n f w' v l:=by
 obtain ⟨⟨A,c,hv,hc,hr⟩,hp⟩:=h;refine ⟨⟨A,c,hv,hc,fun hn=>?_⟩,hp⟩;obtain ⟨b,o,hA,hlt,hat⟩:=hr hn;have hb:=hk b (hp b o _ _ (by rw [hv,hA]) hn) hlt;exact ⟨b,o,hA,Nat.lt_of_lt_of_le hlt hs,fun k x hx j u hu=>by
  have:=hat k x hx j u hu;simp only [World.cell?] at this ⊢
  rw [hb];exact this⟩
theorem d0G.old {α:Type} {P:Nat→Prop} {n:Nat} {f:α→List Value} {w:World} {v:Value} {l:List α} (h:d0G P n f w v l):d0G (fun b=>P b∧b<w.heap.size) n f w v l:=by
 refine ⟨h.1,fun b o m c e hn=>⟨h.2 b o m c e hn,?_⟩⟩;obtain ⟨⟨A,c',hv,hc,hr⟩,_⟩:=h;obtain ⟨b',o',hA,hlt,_⟩:=hr hn;rw [e] at hv;injection hv with e1 _ _
 rw [hA] at e1;injection e1 with e1
 injection e1 with e1
 omega

structure NdOk (rs rh:Nat) (x:Nd):Prop where
 ris:b0K x.smp
 len:x.smp.length≤rs
 past:x.past.length≤rh
structure RoomOk (c:Cfg) (rs rh:Nat):Prop where
 sa:c.sa=(rs:Nat)
 hi:c.hi=(rh:Nat)
 r1:1≤rs
 r2:rs≤256
 h1:1≤rh
 h2:rh≤64
def g0O (x:It):Ky × Nd:=(x.key,x.nd)
def j1A (l:List It) (k:Ky) (y:Nd):List (Ky × Nd):=(l.map g0O).take (atI l k)++[(k,y)]++(l.map g0O).drop (if j0H l k=true then atI l k+1 else atI l k)
def i0T (c:Cfg) (rs rh:Nat) (l:List It) (k:Ky) (a:d0U):List (Ky × Nd) × Int × Int :=
 let r:=l0S rs rh (k0H l k).nd a
 if r.2.1≠0 then (l.map g0O,r.2.1,0)
 else if j0H l k=false∧a.kind=3 then (l.map g0O,5,0)
 else if j0H l k=false∧c.lo≤(l.length:Nat) then (l.map g0O,6,0)
 else (j1A l k r.1,0,1)
theorem i0P {u W2:World} {o:Obj} {n:Nat} (h:W2=u.alloc o) (hn:u.heap.size=n):W2.heap[n]?=some o:=by
 subst hn h;exact heap_alloc_new _ _
theorem f0Z {u W2:World} {o:Obj} {n:Nat} (h:W2=(u.alloc o).drew) (hn:u.heap.size=n):W2.heap[n]?=some o:=by
 subst hn h;exact heap_alloc_new u o
end
end Go.Proofs.YtmniiodpbebnmaaGreat
