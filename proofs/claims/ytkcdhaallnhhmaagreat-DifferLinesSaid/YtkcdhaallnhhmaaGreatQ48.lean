/- Part 48 of the proof: W21K. -/
import Derived.Test.YtkcdhaallnhhmaaGreatQ47
namespace Go.Proofs.YtkcdhaallnhhmaaGreat
set_option linter.unusedSimpArgs false
set_option linter.unusedVariables false
set_option linter.unusedSectionVars false
set_option maxRecDepth 100000
set_option maxHeartbeats 16000000
section
open Go.RowKit Go.Lib
theorem box_in {w2 w6:World} {B:Nat} {z:Array Value} {T:TypeId} (hz:w6.heap[B]?=some (.cells z T (0,0))) (hle:w2.heap.size≤B) (hb:jB w2 w6) (vs:List Value) (hn:z.size=vs.length) :
 (stor w6 B 0 vs).heap[B]?=some (.cells vs.toArray T (0,0))∧w2.heap.size≤B∧jB w2 (stor w6 B 0 vs):=by
 obtain ⟨s1,s2,s3,s4⟩:=stor_at hz vs hn _ rfl;exact ⟨s1,hle,hb.trans (s4 _ hle)⟩
theorem box_fresh {w2 w6:World} {T:TypeId} (hb:jB w2 w6) (vs:List Value) :
 (w6.alloc (.cells vs.toArray T)).heap[w6.heap.size]?=some (.cells vs.toArray T (0,0))∧w2.heap.size≤w6.heap.size∧jB w2 (w6.alloc (.cells vs.toArray T)) :=
 ⟨heap_alloc_new _ _,hb.size,balloc hb _⟩
theorem look21_any (P:Nat→Prop) (c:Cfg) (rs rh n:Nat) (x:WdH) (d:CallD) (w:World) (hx:WdIn P w x) (hst:c.st≤64) (hk:WdOk c rs rh n (absW x)) (hn:n≤100000) (hr:rs≤1000000∧rh≤1000000) (hd:d.ok) :
 Calls Tryz.prog 94 #[.agg (wdC c x).toArray,callV d] w (jP w (repV (lookW (absW x) d))):=by
 have hcl:x.cuts.length≤100000:=by have:=hk.cuts;simp [absW] at this;omega
 obtain ⟨r,hr0⟩:∃r,r=lookW (absW x) d:=⟨_,rfl⟩;rw [←hr0];unfold lookW at hr0;rw [←tabX_abs] at hr0;have htl:(tabX x).length=x.cuts.length:=by unfold tabX;simp
 have CT:=jH (fun (W:World) (hW:jB w W)=>table21_any P c x W (hx.below hW) hcl);generalize hte:tabX x=t at hr0 htl CT;have CF:=jH (fun (W:World) (A:Option Addr) (cp:Nat) (h:RowIn 1 nmC W (.slice A t.length cp) t)=>find20_any _ t d.handle W h (by omega));have CK:=jH (fun (W:World)=>refKeyK_any d.id W hd.2.1);have hcr:RowIn 3 cuC w (.slice x.cA x.cuts.length x.cc) x.cuts:=hx.cr.1;have hcit:∀s∈x.cuts,RowIn 12 itC w (.slice s.A s.l.length s.c) s.l∧(∀z∈s.l,LoadIn P w z)∧s.l.length≤20000∧∀z∈s.l,ItOk rs rh n (absI z):=fun s hs=>by
  have h1:=hk.cit (absC s) (List.mem_map.2 ⟨s,hs,rfl⟩);have h2:(s.l.map absI).length≤20000:=h1.1;rw [List.length_map] at h2;exact ⟨(hx.ct s hs).1.1,(hx.ct s hs).2,h2,fun z hz=>h1.2 (absI z) (List.mem_map.2 ⟨z,hz,rfl⟩)⟩
 obtain ⟨sA,sc,st,cA,cc,cuts,ep,over⟩:=x;dsimp only at htl hcl hcr hcit;unfold wdC at CT ⊢;dsimp only at CT ⊢;have HD:=jH hd;unfold callV;clear hx hk hn hte hst hd
 by_cases he:findT t d.handle=0
 · rw [if_neg (by simpa using he)] at hr0
   have hk1:¬d.handle<1:=fun h9=>by unfold findT at he;rw [if_pos (.inl h9)] at he;cases he
   have hk2:¬(t.length:Int)<d.handle:=fun h9=>by unfold findT at he;rw [if_pos (.inr h9)] at he;cases he
   obtain ⟨j,hj⟩:∃j,j=d.handle.toNat - 1:=⟨_,rfl⟩;have hjl:j<cuts.length:=by omega
   rw [←hj] at hr0;have z1:IntKind.i64.wrap (d.handle - 1)=(j:Int):=by rw [IntKind.wrap_i64];omega
   have z1b:wrap64 (d.handle - 1)=(j:Int):=by unfold wrap64;omega
   have z2:(0:Int)≤(j:Int):=by omega
   have z3:(j:Int)<(cuts.length:Int):=by omega
   have z4:j<cuts.length:=hjl;rw [he] at CF;obtain ⟨cb,co,rfl,hcb,hcc⟩:=hcr.at_ hjl;have HC0c:=jH (hcc 0 _ rfl);have HC1c:=jH (hcc 1 _ rfl);have HCB:=jH hcb;obtain ⟨hi1,hi2,hi3,hi4⟩:=hcit _ (List.getElem_mem hjl);have hr0:r=match findIt (cuts[j].l.map absI) (keyK d.id) with|none=>repF 5|some y=>⟨0,cuts[j].ep,0,statW y.smp d.tick d.val,adv0⟩:=by
    rw [hr0]
    show (match (cuts.map absC)[j]? with|none=>repF 5|some c=>match findIt c.items (keyK d.id) with|none=>repF 5|some y=>⟨0,c.ep,0,statW y.smp d.tick d.val,adv0⟩)=_
    rw [List.getElem?_map,List.getElem?_eq_getElem hjl];rfl
   rw [←findX_abs] at hr0;have CI:=jH (fun (W:World) (hW:jB w W)=>find21_any _ cuts[j].l (keyK d.id) W (hi1.below hW) (by omega) (fun z hz=>(hi4 z hz).key) (keyK_ok d.id));have HRW:=jH (show ∀y,findX cuts[j].l (keyK d.id)=some y→RowIn 2 smpC w (.slice y.sA y.nd.smp.length y.sc) y.nd.smp∧ItOk rs rh n (absI y) from fun y hy=>⟨(hi2 y (List.mem_of_find?_eq_some hy)).1.1,hi4 y (List.mem_of_find?_eq_some hy)⟩)
   rw [Nat.add_zero] at HC0c;generalize cuts[j]=cu at HC0c HC1c hr0 CI HRW;obtain ⟨y,hy⟩:∃y,y=(findX cu.l (keyK d.id)).getD it0:=⟨_,rfl⟩;obtain ⟨fb,hfb⟩:∃b,b=(findX cu.l (keyK d.id)).isSome:=⟨_,rfl⟩;rw [←hy,←hfb] at CI;unfold loadC at CI;have HFX:=jH (show (fb=false→r=repF 5)∧(fb=true→r=⟨0,cu.ep,0,statW y.nd.smp d.tick d.val,adv0⟩∧RowIn 2 smpC w (.slice y.sA y.nd.smp.length y.sc) y.nd.smp∧ItOk rs rh n (absI y)) by
    cases hfx:findX cu.l (keyK d.id) with
    | none =>
      rw [hfx] at hfb hr0;exact ⟨fun _=>hr0,fun h=>by rw [hfb] at h;cases h⟩
    | some z =>
      rw [hfx] at hfb hr0 hy;have hy:y=z:=hy;subst hy;exact ⟨fun h=>(by rw [hfb] at h;cases h),fun _=>⟨hr0,HRW.out _ hfx⟩⟩)
   generalize keyK d.id=kk at CK CI;clear he hk1 hk2 hj hr0 hcr hcit hcl hjl htl hcb hcc hi1 hi2 hi3 hi4 HRW hy hfb
   go_enter Tryz.func94,Tryz.ntmps94
   go_upto_region 1 with fail
   refine name_world ?_;intro W1 hW1;have HB1:=jH (show jB w W1 by rw [hW1];exact balloc (balloc (balloc jR _) _) _);have HX1:=jH (show W1.heap[w.heap.size]?=some (.cells #[.int .i64 c.st,.int .i64 c.sa,.int .i64 c.lo,.int .i64 c.hi,.slice sA st.length sc,.slice (some ⟨cb,co,none⟩) cuts.length cc,.int .i64 ep,.bool over] 32 (0,0)) by rw [hW1];exact box3_0 _ _ _ _);have HC1:=jH (show W1.heap[w.heap.size+1]?=some (.cells #[.int .i64 d.kind,.string d.id,.int .i64 d.tick,.int .i64 d.val,.int .i64 d.handle,.int .i64 d.pol.mn,.int .i64 d.pol.mx,.int .i64 d.pol.tg,.int .i64 d.pol.tol,.int .i64 d.pol.win,.int .i64 d.pol.hold] 69 (0,0)) by rw [hW1];exact box3_1 _ _ _ _)
   have HR1:=jH (show W1.heap[w.heap.size+1+1]?=some (.cells #[.int .i64 0,.int .i64 0,.int .i64 0,.int .i64 0,.int .i64 0,.int .i64 0,.int .i64 0,.int .i64 0,.int .i64 0,.int .i64 0,.int .i64 0,.int .i64 0,.int .i64 0] 76 (0,0)) by rw [hW1];exact box3_2 _ _ _ _);clear hW1;have rx:∀U,jB W1 U→∀i,U.cell? ⟨w.heap.size,i,none⟩=(#[.int .i64 c.st,.int .i64 c.sa,.int .i64 c.lo,.int .i64 c.hi,.slice sA st.length sc,.slice (some ⟨cb,co,none⟩) cuts.length cc,.int .i64 ep,.bool over]:Array Value)[i]?:=fun U hU i=>(box_cells hU HX1.out).1 i
   have ry:∀U,jB W1 U→∀i,U.cell? ⟨w.heap.size+1,i,none⟩=(#[.int .i64 d.kind,.string d.id,.int .i64 d.tick,.int .i64 d.val,.int .i64 d.handle,.int .i64 d.pol.mn,.int .i64 d.pol.mx,.int .i64 d.pol.tg,.int .i64 d.pol.tol,.int .i64 d.pol.win,.int .i64 d.pol.hold]:Array Value)[i]?:=fun U hU i=>(box_cells hU HC1.out).1 i
   refine wp_region_held_drew (S:=(fun U=>jB W1 U)) (by kernel_rfl) ?hS1 (fun hHeld=>?_)
   case hS1=>(first|exact jR.drew|exact HB2.out|exact HB3.out)
   refine wpAnyH_take (i:=0) (v:=?v2) rfl (by kernel_rfl) (by kernel_rfl) (by kernel_rfl) (fun _ _ _ h=>h) (Or.inl ⟨by rfl,?hy2⟩) (by assumption) ?_
   case hy2 =>
    intro w' hSw
    (try dsimp only at hSw)
    go_simp
    try (with_reducible rfl)
   try simp only [Act.put,jA]
   refine wpAnyH_take (i:=2) (v:=?v3) rfl (by kernel_rfl) (by kernel_rfl) (by kernel_rfl) (fun _ _ _ h=>h) (Or.inl ⟨by rfl,?hy3⟩) (by assumption) ?_
   case hy3 =>
    intro w' hSw
    (try dsimp only at hSw)
    go_simp
    try (with_reducible rfl)
   try simp only [Act.put,jA]
   refine wpAnyH_take (i:=3) (v:=?v4) rfl (by kernel_rfl) (by kernel_rfl) (by kernel_rfl) (fun _ _ _ h=>h) (Or.inl ⟨by rfl,?hy4⟩) (by assumption) ?_
   case hy4 =>
    intro w' hSw
    (try dsimp only at hSw)
    go_simp
    try (with_reducible rfl)
   try simp only [Act.put,jA]
   refine wpAnyH_ready (rs:=[1]) (by kernel_rfl) (by simp) ?_;refine AllReadyH.cons rfl (fun K hK=>?_) AllReadyH.nil;go_simp
   (go_at_call 142
    refine calls_named ?_;intro W2 hW2;have hb2:jB W1 W2:=by rw [hW2];first|exact jR.drew|exact below_drewN jR _|exact jR
    clear hW2;refine (CT.out W2 (bthen HB1.out hb2)).mono ?_;rintro e w2 ⟨tA,tc,rfl,hrow,hb3⟩;have HT2:=jH hrow;have HB2:=jH (bthen hb2 hb3);clear hrow hb2 hb3)
   try go_simp
   refine hK.out _ _ ?hS5 (fun hHeld2=>?_)
   case hS5=>(first|exact jR.drew|exact HB2.out|exact HB3.out)
   clear hK K hHeld;have hHeld:=hHeld2;clear hHeld2
   try simp only [Act.put,jA]
   refine wpAnyH_ready (rs:=[4]) (by kernel_rfl) (by simp) ?_;refine AllReadyH.cons rfl (fun K hK=>?_) AllReadyH.nil;go_simp
   (go_at_call 143
    refine calls_named ?_;intro W3 hW3;have hb3:jB w2 W3:=by rw [hW3];first|exact jR|exact jR.drew|exact below_drewN jR _
    clear hW3;refine (CF.out W3 tA tc (HT2.out.below hb3)).mono ?_;rintro e w3 ⟨rfl,hb4⟩;have HB3:=jH (bthen HB2.out (bthen hb3 hb4));clear hb3 hb4)
   try go_simp
   refine hK.out _ _ ?hS6 (fun hHeld2=>?_)
   case hS6=>(first|exact jR.drew|exact HB2.out|exact HB3.out)
   clear hK K hHeld;have hHeld:=hHeld2;clear hHeld2
   try simp only [Act.put,jA]
   refine wpAnyH_take (i:=5) (v:=?v7) rfl (by kernel_rfl) (by kernel_rfl) (by kernel_rfl) (fun _ _ _ h=>h) (Or.inl ⟨by rfl,?hy7⟩) (by assumption) ?_
   case hy7 =>
    intro w' hSw
    (try dsimp only at hSw)
    go_simp
    try (with_reducible rfl)
   try simp only [Act.put,jA]
   refine wpAnyH_done (by kernel_rfl) ?_ _;refine then_named ?_;intro W4 hW4;have HB4:=jH (show jB W1 W4 by rw [hW4];first|exact HB3.out|exact HB3.out.drew|exact below_drewN HB3.out _);clear hW4;obtain ⟨b1,b2,b3⟩:=box_cells HB4.out HX1.out;obtain ⟨c1,c2,c3⟩:=box_cells HB4.out HC1.out;have HR4:=jH (jK HB4.out HR1.out);obtain ⟨d1,d2,d3⟩:=box_cells jR HR4.out;clear d1 d2 d3
   go_upto_region 4 with fail
   have rcu:∀U,jB W4 U→U.cell? ⟨cb,co+j * 3+1,none⟩=some (.slice cu.A cu.l.length cu.c):=fun U hU=>((bthen HB1.out (bthen HB4.out hU)).cell (p:=⟨cb,_,none⟩) HCB.out).trans HC1c.out
   have rx4:∀U,jB W4 U→∀i,U.cell? ⟨w.heap.size,i,none⟩=(#[.int .i64 c.st,.int .i64 c.sa,.int .i64 c.lo,.int .i64 c.hi,.slice sA st.length sc,.slice (some ⟨cb,co,none⟩) cuts.length cc,.int .i64 ep,.bool over]:Array Value)[i]?:=fun U hU=>rx U (bthen HB4.out hU)
   have ry4:∀U,jB W4 U→∀i,U.cell? ⟨w.heap.size+1,i,none⟩=(#[.int .i64 d.kind,.string d.id,.int .i64 d.tick,.int .i64 d.val,.int .i64 d.handle,.int .i64 d.pol.mn,.int .i64 d.pol.mx,.int .i64 d.pol.tg,.int .i64 d.pol.tol,.int .i64 d.pol.win,.int .i64 d.pol.hold]:Array Value)[i]?:=fun U hU=>ry U (bthen HB4.out hU)
   clear b1 b2 b3 c1 c2 c3 rx ry
   go_cut [6,7] (fun s6 s7 wx=>∃B,s6=.pointer (some ⟨B,0,none⟩)∧s7=.bool fb∧wx.heap[B]?=some (.cells #[.slice y.sA y.nd.smp.length y.sc,.slice y.pA y.nd.past.length y.pc,.int .i64 y.nd.pol.mn,.int .i64 y.nd.pol.mx,.int .i64 y.nd.pol.tg,.int .i64 y.nd.pol.tol,.int .i64 y.nd.pol.win,.int .i64 y.nd.pol.hold,.bool y.nd.ruled,.int .i64 (y.nd.ver:Nat)] 48 (0,0))∧W4.heap.size≤B∧jB W4 wx)
   case first =>
    have hS00:jB W4 W4:=jR;have hS0:jB W4 W4.drew:=hS00.drew
    go_region_held3 (fun U=>jB W4 U)
      (first
        | with_reducible exact hS0
        | with_reducible exact HB5.out
        | with_reducible exact HB6.out
        | with_reducible exact balloc HB6.out _
        | with_reducible exact balloc HB5.out _
        | with_reducible exact Below.drew (balloc hS00 _)
        | with_reducible exact balloc hS0 _
        | (iterate 10 (with_reducible refine Below.setCell ?_ (by first|exact Nat.le_refl _|exact HB5.out.size|exact HB6.out.size) _)
           first
            | with_reducible exact HB6.out
            | with_reducible exact balloc HB6.out _))
      (first
      | (go_at_call 104
         refine calls_named ?_;intro W5 hW5;have hz:W5.heap[W4.heap.size]?=some (.cells #[.slice none 0 0,.slice none 0 0,.int .i64 0,.int .i64 0,.int .i64 0,.int .i64 0,.int .i64 0,.int .i64 0,.bool false,.int .i64 0] 48 (0,0)):=by
          first
           | (with_reducible refine new_at hW5 ?_
              rfl)
           | (with_reducible refine new_atd hW5 ?_
              rfl)
         subst hW5;refine (CK.out _).mono ?_;rintro e w5 ⟨rfl,hb5⟩;have HZ5:=jH (jK hb5 hz);have HB5:=jH (bthen ‹jB W4 _› hb5);clear hb5 hz)
      | (go_at_call 104
         refine calls_named ?_;intro W5 hW5;subst hW5;refine (CK.out _).mono ?_;rintro e w5 ⟨rfl,hb5⟩;have HB5:=jH (bthen ‹jB W4 _› hb5);clear hb5)
      | (go_at_call 102
         refine calls_named ?_;intro W6 hW6;have hz:W6.heap[w5.heap.size]?=some (.cells #[.slice none 0 0,.slice none 0 0,.int .i64 0,.int .i64 0,.int .i64 0,.int .i64 0,.int .i64 0,.int .i64 0,.bool false,.int .i64 0] 48 (0,0)):=by
          first
           | (with_reducible refine new_at hW6 ?_
              rfl)
           | (with_reducible refine new_atd hW6 ?_
              rfl)
         subst hW6;refine (CI.out _ (bthen HB1.out (bthen HB4.out (balloc HB5.out _)))).mono ?_;rintro e w6 ⟨rfl,hb6⟩;have HB6:=jH (bthen (balloc HB5.out _) hb6);have HZ6:=jH (jK hb6 hz);obtain ⟨z1,z2,z3⟩:=box_cells jR HZ6.out;clear hb6 hz)
      | (go_at_call 102
         refine calls_named ?_;intro W6 hW6;have hz:=HZ5.out;subst hW6;refine (CI.out _ (bthen HB1.out (bthen HB4.out HB5.out))).mono ?_;rintro e w6 ⟨rfl,hb6⟩;have HB6:=jH (bthen HB5.out hb6);have HZ6:=jH (jK hb6 hz);obtain ⟨z1,z2,z3⟩:=box_cells jR HZ6.out;clear hb6 hz)
      | (go_at_call 102
         refine calls_named ?_;intro W6 hW6;subst hW6;refine (CI.out _ (bthen HB1.out (bthen HB4.out HB5.out))).mono ?_;rintro e w6 ⟨rfl,hb6⟩;have HB6:=jH (bthen HB5.out hb6);clear hb6))
    all_goals
      go_wp2_with fail
      go_meet
      refine ⟨_,rfl,rfl,?_⟩
      first
       | exact box_in HZ6.out (by first|exact Nat.le_refl _|exact HB5.out.size) HB6.out [.slice y.sA y.nd.smp.length y.sc,.slice y.pA y.nd.past.length y.pc,.int .i64 y.nd.pol.mn,.int .i64 y.nd.pol.mx,.int .i64 y.nd.pol.tg,.int .i64 y.nd.pol.tol,.int .i64 y.nd.pol.win,.int .i64 y.nd.pol.hold,.bool y.nd.ruled,.int .i64 (y.nd.ver:Nat)] rfl
       | exact box_fresh HB6.out [.slice y.sA y.nd.smp.length y.sc,.slice y.pA y.nd.past.length y.pc,.int .i64 y.nd.pol.mn,.int .i64 y.nd.pol.mx,.int .i64 y.nd.pol.tg,.int .i64 y.nd.pol.tol,.int .i64 y.nd.pol.win,.int .i64 y.nd.pol.hold,.bool y.nd.ruled,.int .i64 (y.nd.ver:Nat)]
   case rest =>
    obtain ⟨B,rfl,rfl,hB,hle,hb⟩:=hcut;have HLE:=jH hle;have HBX:=jH hB;have HB7:=jH (bthen HB4.out hb);clear hle hB hb rx4 ry4 rcu;obtain ⟨b1,b2,b3⟩:=box_cells HB7.out HX1.out;obtain ⟨c1,c2,c3⟩:=box_cells HB7.out HC1.out;obtain ⟨f1,f2,f3⟩:=box_cells jR HBX.out;have HR7:=jH (jK HB7.out HR1.out)
    cases fb
    · have HRR:=jH (HFX.out.1 rfl)
      obtain ⟨d1,d2,d3⟩:=box_cells jR HR7.out;clear HFX;go_wp2_with fail
      refine post_named ?_;intro W9 hW9;have hW9':W9=stor wc (w.heap.size+1+1) 0 [.int .i64 5,.int .i64 0,.int .i64 0,.int .i64 0,.int .i64 0,.int .i64 0,.int .i64 0,.int .i64 0,.int .i64 0,.int .i64 0,.int .i64 0,.int .i64 0,.int .i64 0]:=hW9;obtain ⟨s1,s2,s3,s4⟩:=stor_at HR7.out [.int .i64 5,.int .i64 0,.int .i64 0,.int .i64 0,.int .i64 0,.int .i64 0,.int .i64 0,.int .i64 0,.int .i64 0,.int .i64 0,.int .i64 0,.int .i64 0,.int .i64 0] rfl W9 hW9'
      obtain ⟨a9,a8,a7⟩:=box_cells jR s1;clear hW9 hW9';exact bodyPost_ret (v:=.agg #[.int .i64 5,.int .i64 0,.int .i64 0,.int .i64 0,.int .i64 0,.int .i64 0,.int .i64 0,.int .i64 0,.int .i64 0,.int .i64 0,.int .i64 0,.int .i64 0,.int .i64 0]) (by simp [results,Tryz.results94,go_sem,a9]) rfl ⟨by rw [HRR.out];rfl,(bthen HB1.out HB7.out).trans (s4 _ (by omega))⟩
    · obtain ⟨hr9,hrow,hok⟩:=HFX.out.2 rfl
      have hdk:=HD.out;have HRR:=jH hr9;have CFr:=jH (fun W=>refFrom_any d.tick d.val W hdk.2.2.1 hdk.2.2.2.1);obtain ⟨fr,hfr⟩:∃f,f=fromW d.tick d.val:=⟨_,rfl⟩;rw [←hfr] at CFr;have hsl:y.nd.smp.length≤1000000:=by have:=hok.nd.len;dsimp only [absI] at this;omega
      have CC:=jH (fun (W:World) (hW:jB w W)=>refCut_any _ y.nd.smp fr d.tick W (hrow.below hW) hsl);obtain ⟨s9,hs9⟩:∃s,s=statW y.nd.smp d.tick d.val:=⟨_,rfl⟩;have CS:=jH (fun (W:World) (A:Option Addr) (cp:Nat) (h:RowIn 2 smpC W (.slice A (winC y.nd.smp fr d.tick).length cp) (winC y.nd.smp fr d.tick))=>show Calls Tryz.prog 144 #[.slice A (winC y.nd.smp fr d.tick).length cp] W (jP W (.agg #[.int .i64 s9.cnt,.int .i64 s9.sum,.int .i64 s9.least,.int .i64 s9.most,.int .i64 s9.mean])) from by
       have h9:=stat21_any _ (winC y.nd.smp fr d.tick) W h (Nat.le_trans (List.length_filter_le ..) hsl) (smpI.cut hok.smp _ _);rw [hs9];unfold statW;rw [←hfr];exact h9)
      rw [←hs9] at HRR;generalize winC y.nd.smp fr d.tick=L2 at CC CS;clear hr9 hrow hok hdk hfr hsl hs9 HFX
      go_upto_region 7 with fail
      have ry7:∀U,jB wc U→∀i,U.cell? ⟨w.heap.size+1,i,none⟩=(#[.int .i64 d.kind,.string d.id,.int .i64 d.tick,.int .i64 d.val,.int .i64 d.handle,.int .i64 d.pol.mn,.int .i64 d.pol.mx,.int .i64 d.pol.tg,.int .i64 d.pol.tol,.int .i64 d.pol.win,.int .i64 d.pol.hold]:Array Value)[i]?:=fun U hU=>(box_cells (bthen HB7.out hU) HC1.out).1
      have rl7:∀U,jB wc U→∀i,U.cell? ⟨B,i,none⟩=(#[.slice y.sA y.nd.smp.length y.sc,.slice y.pA y.nd.past.length y.pc,.int .i64 y.nd.pol.mn,.int .i64 y.nd.pol.mx,.int .i64 y.nd.pol.tg,.int .i64 y.nd.pol.tol,.int .i64 y.nd.pol.win,.int .i64 y.nd.pol.hold,.bool y.nd.ruled,.int .i64 (y.nd.ver:Nat)]:Array Value)[i]?:=fun U hU=>(box_cells hU HBX.out).1
      clear b1 b2 b3 c1 c2 c3 f1 f2 f3;refine wp_region_held_drew (S:=(fun U=>jB wc U)) (by kernel_rfl) ?hS8 (fun hHeld=>?_)
      case hS8=>(first|exact jR.drew|exact HB8.out)
      refine wpAnyH_take (i:=0) (v:=?v9) rfl (by kernel_rfl) (by kernel_rfl) (by kernel_rfl) (fun _ _ _ h=>h) (Or.inl ⟨by rfl,?hy9⟩) (by assumption) ?_
      case hy9 =>
       intro w' hSw
       (try dsimp only at hSw)
       go_simp
       try (with_reducible rfl)
      try simp only [Act.put,jA]
      refine wpAnyH_take (i:=1) (v:=?v10) rfl (by kernel_rfl) (by kernel_rfl) (by kernel_rfl) (fun _ _ _ h=>h) (Or.inl ⟨by rfl,?hy10⟩) (by assumption) ?_
      case hy10 =>
       intro w' hSw
       (try dsimp only at hSw)
       go_simp
       try (with_reducible rfl)
      try simp only [Act.put,jA]
      refine wpAnyH_take (i:=2) (v:=?v11) rfl (by kernel_rfl) (by kernel_rfl) (by kernel_rfl) (fun _ _ _ h=>h) (Or.inl ⟨by rfl,?hy11⟩) (by assumption) ?_
      case hy11 =>
       intro w' hSw
       (try dsimp only at hSw)
       go_simp
       try (with_reducible rfl)
      try simp only [Act.put,jA]
      refine wpAnyH_take (i:=3) (v:=?v12) rfl (by kernel_rfl) (by kernel_rfl) (by kernel_rfl) (fun _ _ _ h=>h) (Or.inl ⟨by rfl,?hy12⟩) (by assumption) ?_
      case hy12 =>
       intro w' hSw
       (try dsimp only at hSw)
       go_simp
       try (with_reducible rfl)
      try simp only [Act.put,jA]
      refine wpAnyH_take (i:=4) (v:=?v13) rfl (by kernel_rfl) (by kernel_rfl) (by kernel_rfl) (fun _ _ _ h=>h) (Or.inl ⟨by rfl,?hy13⟩) (by assumption) ?_
      case hy13 =>
       intro w' hSw
       (try dsimp only at hSw)
       go_simp
       try (with_reducible rfl)
      try simp only [Act.put,jA]
      refine wpAnyH_take (i:=5) (v:=?v14) rfl (by kernel_rfl) (by kernel_rfl) (by kernel_rfl) (fun _ _ _ h=>h) (Or.inl ⟨by rfl,?hy14⟩) (by assumption) ?_
      case hy14 =>
       intro w' hSw
       (try dsimp only at hSw)
       go_simp
       try (with_reducible rfl)
      try simp only [Act.put,jA]
      refine wpAnyH_take (i:=7) (v:=?v15) rfl (by kernel_rfl) (by kernel_rfl) (by kernel_rfl) (fun _ _ _ h=>h) (Or.inl ⟨by rfl,?hy15⟩) (by assumption) ?_
      case hy15 =>
       intro w' hSw
       (try dsimp only at hSw)
       go_simp
       try (with_reducible rfl)
      try simp only [Act.put,jA]
      refine wpAnyH_take (i:=8) (v:=?v16) rfl (by kernel_rfl) (by kernel_rfl) (by kernel_rfl) (fun _ _ _ h=>h) (Or.inl ⟨by rfl,?hy16⟩) (by assumption) ?_
      case hy16 =>
       intro w' hSw
       (try dsimp only at hSw)
       go_simp
       try (with_reducible rfl)
      try simp only [Act.put,jA]
      refine wpAnyH_ready (rs:=[6]) (by kernel_rfl) (by simp) ?_;refine AllReadyH.cons rfl (fun K hK=>?_) AllReadyH.nil;go_simp
      (go_at_call 129
       refine (CFr.out _).mono ?_;rintro e w7 ⟨rfl,rfl⟩)
      try go_simp
      refine hK.out _ _ ?hS17 (fun hHeld2=>?_)
      case hS17=>(first|exact jR.drew|exact HB8.out)
      clear hK K hHeld;have hHeld:=hHeld2;clear hHeld2
      try simp only [Act.put,jA]
      refine wpAnyH_ready (rs:=[9]) (by kernel_rfl) (by simp) ?_;refine AllReadyH.cons rfl (fun K hK=>?_) AllReadyH.nil;go_simp
      (go_at_call 128
       refine calls_named ?_;intro W8 hW8;have hb8:jB wc W8:=by rw [hW8];first|exact jR.drew|exact below_drewN jR _|exact jR
       clear hW8;refine (CC.out W8 (bthen HB1.out (bthen HB7.out hb8))).mono ?_;rintro e w8 ⟨A8,c8,rfl,hown8,hb9⟩;have HO8:=jH (hown8.row eSmp);have HB8:=jH (bthen hb8 hb9);clear hown8 hb8 hb9)
      try go_simp
      refine hK.out _ _ ?hS18 (fun hHeld2=>?_)
      case hS18=>(first|exact jR.drew|exact HB8.out)
      clear hK K hHeld;have hHeld:=hHeld2;clear hHeld2
      try simp only [Act.put,jA]
      refine wpAnyH_take (i:=10) (v:=?v19) rfl (by kernel_rfl) (by kernel_rfl) (by kernel_rfl) (fun _ _ _ h=>h) (Or.inl ⟨by rfl,?hy19⟩) (by assumption) ?_
      case hy19 =>
       intro w' hSw
       (try dsimp only at hSw)
       go_simp
       try (with_reducible rfl)
      try simp only [Act.put,jA]
      refine wpAnyH_done (by kernel_rfl) ?_ _;refine then_named ?_;intro W8 hW8;have HB9:=jH (show jB wc W8 by rw [hW8];first|exact HB8.out|exact HB8.out.drew|exact below_drewN HB8.out _);have HO9:=jH (show RowIn 2 smpC W8 (.slice A8 L2.length c8) L2 from HO8.out.below (by rw [hW8];first|exact jR|exact jR.drew|exact below_drewN jR _));clear hW8 ry7 rl7;have HB10:=jH (bthen HB7.out HB9.out);have rx8:∀U,jB W8 U→∀i,U.cell? ⟨w.heap.size,i,none⟩=(#[.int .i64 c.st,.int .i64 c.sa,.int .i64 c.lo,.int .i64 c.hi,.slice sA st.length sc,.slice (some ⟨cb,co,none⟩) cuts.length cc,.int .i64 ep,.bool over]:Array Value)[i]?:=fun U hU=>(box_cells (bthen HB10.out hU) HX1.out).1
      have ry8:∀U,jB W8 U→∀i,U.cell? ⟨w.heap.size+1,i,none⟩=(#[.int .i64 d.kind,.string d.id,.int .i64 d.tick,.int .i64 d.val,.int .i64 d.handle,.int .i64 d.pol.mn,.int .i64 d.pol.mx,.int .i64 d.pol.tg,.int .i64 d.pol.tol,.int .i64 d.pol.win,.int .i64 d.pol.hold]:Array Value)[i]?:=fun U hU=>(box_cells (bthen HB10.out hU) HC1.out).1
      have rcu8:∀U,jB W8 U→U.cell? ⟨cb,co+j * 3,none⟩=some (.int .i64 cu.ep):=fun U hU=>((bthen HB1.out (bthen HB10.out hU)).cell (p:=⟨cb,_,none⟩) HCB.out).trans HC0c.out
      go_upto_region 8 with fail
      refine wp_region_E (S:=(fun U=>jB W8 U)) 11 (by kernel_rfl) ?hS20 (fun hHeld=>?_)
      case hS20=>(first|exact jR.drew|exact HB11.out)
      refine wpAnyE_take (i:=0) (v:=?v21) rfl (by kernel_rfl) (by kernel_rfl) (by kernel_rfl) (by kernel_rfl) (fun _ _ _ h=>h) (Or.inl ⟨by rfl,?hy21⟩) (by assumption) ?_
      case hy21 =>
       intro w' hSw
       (try dsimp only at hSw)
       go_simp
       try (with_reducible rfl)
      try simp only [Act.put,jA]
      refine wpAnyE_take (i:=1) (v:=?v22) rfl (by kernel_rfl) (by kernel_rfl) (by kernel_rfl) (by kernel_rfl) (fun _ _ _ h=>h) (Or.inl ⟨by rfl,?hy22⟩) (by assumption) ?_
      case hy22 =>
       intro w' hSw
       (try dsimp only at hSw)
       go_simp
       try (with_reducible rfl)
      try simp only [Act.put,jA]
      refine wpAnyE_take (i:=2) (v:=?v23) rfl (by kernel_rfl) (by kernel_rfl) (by kernel_rfl) (by kernel_rfl) (fun _ _ _ h=>h) (Or.inl ⟨by rfl,?hy23⟩) (by assumption) ?_
      case hy23 =>
       intro w' hSw
       (try dsimp only at hSw)
       go_simp
       try (with_reducible rfl)
      try simp only [Act.put,jA]
      refine wpAnyE_take (i:=3) (v:=?v24) rfl (by kernel_rfl) (by kernel_rfl) (by kernel_rfl) (by kernel_rfl) (fun _ _ _ h=>h) (Or.inl ⟨by rfl,?hy24⟩) (by assumption) ?_
      case hy24 =>
       intro w' hSw
       (try dsimp only at hSw)
       go_simp
       try (with_reducible rfl)
      try simp only [Act.put,jA]
      refine wpAnyE_take (i:=4) (v:=?v25) rfl (by kernel_rfl) (by kernel_rfl) (by kernel_rfl) (by kernel_rfl) (fun _ _ _ h=>h) (Or.inl ⟨by rfl,?hy25⟩) (by assumption) ?_
      case hy25 =>
       intro w' hSw
       (try dsimp only at hSw)
       go_simp
       try (with_reducible rfl)
      try simp only [Act.put,jA]
      refine wpAnyE_take (i:=5) (v:=?v26) rfl (by kernel_rfl) (by kernel_rfl) (by kernel_rfl) (by kernel_rfl) (fun _ _ _ h=>h) (Or.inl ⟨by rfl,?hy26⟩) (by assumption) ?_
      case hy26 =>
       intro w' hSw
       (try dsimp only at hSw)
       go_simp
       try (with_reducible rfl)
      try simp only [Act.put,jA]
      refine wpAnyE_take (i:=6) (v:=?v27) rfl (by kernel_rfl) (by kernel_rfl) (by kernel_rfl) (by kernel_rfl) (fun _ _ _ h=>h) (Or.inl ⟨by rfl,?hy27⟩) (by assumption) ?_
      case hy27 =>
       intro w' hSw
       (try dsimp only at hSw)
       go_simp
       try (with_reducible rfl)
      try simp only [Act.put,jA]
      refine wpAnyE_take (i:=7) (v:=?v28) rfl (by kernel_rfl) (by kernel_rfl) (by kernel_rfl) (by kernel_rfl) (fun _ _ _ h=>h) (Or.inl ⟨by rfl,?hy28⟩) (by assumption) ?_
      case hy28 =>
       intro w' hSw
       (try dsimp only at hSw)
       go_simp
       try (with_reducible rfl)
      try simp only [Act.put,jA]
      refine wpAnyE_take (i:=8) (v:=?v29) rfl (by kernel_rfl) (by kernel_rfl) (by kernel_rfl) (by kernel_rfl) (fun _ _ _ h=>h) (Or.inl ⟨by rfl,?hy29⟩) (by assumption) ?_
      case hy29 =>
       intro w' hSw
       (try dsimp only at hSw)
       go_simp
       try (with_reducible rfl)
      try simp only [Act.put,jA]
      refine wpAnyE_one (i:=9) (by kernel_rfl) rfl (fun K hK=>?_);go_simp
      (go_at_call 144
       refine calls_named ?_;intro W10 hW10;have hb10:jB W8 W10:=by rw [hW10];first|exact jR.drew|exact below_drewN jR _|exact jR
       clear hW10;refine (CS.out W10 A8 c8 (HO9.out.below hb10)).mono ?_;rintro e w11 ⟨rfl,hb11⟩;have HB11:=jH (bthen hb10 hb11);have HR11:=jH (jK (bthen HB10.out (bthen hb10 hb11)) HR1.out);obtain ⟨g1,g2,g3⟩:=box_cells jR HR11.out;clear hb10 hb11)
      try go_simp
      refine hK.out _ _ ?hS30 (fun hHeld2=>?_)
      case hS30 =>
       intro _
       (first|exact jR.drew|exact HB11.out)
      clear hK K hHeld;have hHeld:=hHeld2 (by kernel_rfl);clear hHeld2
      try simp only [Act.put,jA]
      refine wpAnyE_take (i:=10) (v:=?v31) rfl (by kernel_rfl) (by kernel_rfl) (by kernel_rfl) (by kernel_rfl) (fun _ _ _ h=>h) (Or.inl ⟨by rfl,?hy31⟩) (by assumption) ?_
      case hy31 =>
       intro w' hSw
       (try dsimp only at hSw)
       go_simp
       try (with_reducible rfl)
      try simp only [Act.put,jA]
      refine wpAnyE_one (i:=11) (by kernel_rfl) rfl (fun K hK=>?_);go_simp
      skip
      try go_simp
      refine hK.out _ _ ?hS32 (fun hHeld2=>?_)
      case hS32=>exact fun h=>nomatch (show (true:Bool)=false from h)
      clear hK K hHeld hHeld2
      try simp only [Act.put,jA]
      refine wpAnyE_done (by kernel_rfl) ?_ _;refine then_named ?_;intro W9 hW9;have hW9':W9=stor w11 (w.heap.size+1+1) 0 [.int .i64 0,.int .i64 cu.ep,.int .i64 0,.int .i64 s9.cnt,.int .i64 s9.sum,.int .i64 s9.least,.int .i64 s9.most,.int .i64 s9.mean,.int .i64 0,.int .i64 0,.int .i64 0,.int .i64 0,.int .i64 0]:=hW9;obtain ⟨s1,s2,s3,s4⟩:=stor_at HR11.out [.int .i64 0,.int .i64 cu.ep,.int .i64 0,.int .i64 s9.cnt,.int .i64 s9.sum,.int .i64 s9.least,.int .i64 s9.most,.int .i64 s9.mean,.int .i64 0,.int .i64 0,.int .i64 0,.int .i64 0,.int .i64 0] rfl W9 hW9'
      obtain ⟨a9,a8,a7⟩:=box_cells jR s1;have hb9:jB w W9:=(bthen HB1.out (bthen HB10.out HB11.out)).trans (s4 _ (by omega));clear hW9 hW9' g1 g2 g3;go_wp2_with fail
      exact bodyPost_ret (v:=.agg #[.int .i64 0,.int .i64 cu.ep,.int .i64 0,.int .i64 s9.cnt,.int .i64 s9.sum,.int .i64 s9.least,.int .i64 s9.most,.int .i64 s9.mean,.int .i64 0,.int .i64 0,.int .i64 0,.int .i64 0,.int .i64 0]) (by simp [results,Tryz.results94,go_sem,a9]) rfl ⟨by rw [HRR.out];rfl,hb9⟩
 · rw [if_pos (by simpa using he)] at hr0
   have z0:(findT t d.handle == 0)=false:=by simpa using he
   have z0c:(findT t d.handle != 0)=true:=by simpa using he
   have HRR:=jH hr0;clear he hr0 htl hcl hcr hcit;generalize findT t d.handle=ef at CF z0 z0c HRR
   go_enter Tryz.func94,Tryz.ntmps94
   go_upto_region 1 with fail
   refine name_world ?_;intro W1 hW1;have HB1:=jH (show jB w W1 by rw [hW1];exact balloc (balloc (balloc jR _) _) _);have HX1:=jH (show W1.heap[w.heap.size]?=some (.cells #[.int .i64 c.st,.int .i64 c.sa,.int .i64 c.lo,.int .i64 c.hi,.slice sA st.length sc,.slice cA cuts.length cc,.int .i64 ep,.bool over] 32 (0,0)) by rw [hW1];exact box3_0 _ _ _ _);have HC1:=jH (show W1.heap[w.heap.size+1]?=some (.cells #[.int .i64 d.kind,.string d.id,.int .i64 d.tick,.int .i64 d.val,.int .i64 d.handle,.int .i64 d.pol.mn,.int .i64 d.pol.mx,.int .i64 d.pol.tg,.int .i64 d.pol.tol,.int .i64 d.pol.win,.int .i64 d.pol.hold] 69 (0,0)) by rw [hW1];exact box3_1 _ _ _ _)
   have HR1:=jH (show W1.heap[w.heap.size+1+1]?=some (.cells #[.int .i64 0,.int .i64 0,.int .i64 0,.int .i64 0,.int .i64 0,.int .i64 0,.int .i64 0,.int .i64 0,.int .i64 0,.int .i64 0,.int .i64 0,.int .i64 0,.int .i64 0] 76 (0,0)) by rw [hW1];exact box3_2 _ _ _ _);clear hW1;have rx:∀U,jB W1 U→∀i,U.cell? ⟨w.heap.size,i,none⟩=(#[.int .i64 c.st,.int .i64 c.sa,.int .i64 c.lo,.int .i64 c.hi,.slice sA st.length sc,.slice cA cuts.length cc,.int .i64 ep,.bool over]:Array Value)[i]?:=fun U hU i=>(box_cells hU HX1.out).1 i
   have ry:∀U,jB W1 U→∀i,U.cell? ⟨w.heap.size+1,i,none⟩=(#[.int .i64 d.kind,.string d.id,.int .i64 d.tick,.int .i64 d.val,.int .i64 d.handle,.int .i64 d.pol.mn,.int .i64 d.pol.mx,.int .i64 d.pol.tg,.int .i64 d.pol.tol,.int .i64 d.pol.win,.int .i64 d.pol.hold]:Array Value)[i]?:=fun U hU i=>(box_cells hU HC1.out).1 i
   refine wp_region_held_drew (S:=(fun U=>jB W1 U)) (by kernel_rfl) ?hS33 (fun hHeld=>?_)
   case hS33=>(first|exact jR.drew|exact HB2.out|exact HB3.out)
   refine wpAnyH_take (i:=0) (v:=?v34) rfl (by kernel_rfl) (by kernel_rfl) (by kernel_rfl) (fun _ _ _ h=>h) (Or.inl ⟨by rfl,?hy34⟩) (by assumption) ?_
   case hy34 =>
    intro w' hSw
    (try dsimp only at hSw)
    go_simp
    try (with_reducible rfl)
   try simp only [Act.put,jA]
   refine wpAnyH_take (i:=2) (v:=?v35) rfl (by kernel_rfl) (by kernel_rfl) (by kernel_rfl) (fun _ _ _ h=>h) (Or.inl ⟨by rfl,?hy35⟩) (by assumption) ?_
   case hy35 =>
    intro w' hSw
    (try dsimp only at hSw)
    go_simp
    try (with_reducible rfl)
   try simp only [Act.put,jA]
   refine wpAnyH_take (i:=3) (v:=?v36) rfl (by kernel_rfl) (by kernel_rfl) (by kernel_rfl) (fun _ _ _ h=>h) (Or.inl ⟨by rfl,?hy36⟩) (by assumption) ?_
   case hy36 =>
    intro w' hSw
    (try dsimp only at hSw)
    go_simp
    try (with_reducible rfl)
   try simp only [Act.put,jA]
   refine wpAnyH_ready (rs:=[1]) (by kernel_rfl) (by simp) ?_;refine AllReadyH.cons rfl (fun K hK=>?_) AllReadyH.nil;go_simp
   (go_at_call 142
    refine calls_named ?_;intro W2 hW2;have hb2:jB W1 W2:=by rw [hW2];first|exact jR.drew|exact below_drewN jR _|exact jR
    clear hW2;refine (CT.out W2 (bthen HB1.out hb2)).mono ?_;rintro e w2 ⟨tA,tc,rfl,hrow,hb3⟩;have HT2:=jH hrow;have HB2:=jH (bthen hb2 hb3);clear hrow hb2 hb3)
   try go_simp
   refine hK.out _ _ ?hS37 (fun hHeld2=>?_)
   case hS37=>(first|exact jR.drew|exact HB2.out|exact HB3.out)
   clear hK K hHeld;have hHeld:=hHeld2;clear hHeld2
   try simp only [Act.put,jA]
   refine wpAnyH_ready (rs:=[4]) (by kernel_rfl) (by simp) ?_;refine AllReadyH.cons rfl (fun K hK=>?_) AllReadyH.nil;go_simp
   (go_at_call 143
    refine calls_named ?_;intro W3 hW3;have hb3:jB w2 W3:=by rw [hW3];first|exact jR|exact jR.drew|exact below_drewN jR _
    clear hW3;refine (CF.out W3 tA tc (HT2.out.below hb3)).mono ?_;rintro e w3 ⟨rfl,hb4⟩;have HB3:=jH (bthen HB2.out (bthen hb3 hb4));clear hb3 hb4)
   try go_simp
   refine hK.out _ _ ?hS38 (fun hHeld2=>?_)
   case hS38=>(first|exact jR.drew|exact HB2.out|exact HB3.out)
   clear hK K hHeld;have hHeld:=hHeld2;clear hHeld2
   try simp only [Act.put,jA]
   refine wpAnyH_take (i:=5) (v:=?v39) rfl (by kernel_rfl) (by kernel_rfl) (by kernel_rfl) (fun _ _ _ h=>h) (Or.inl ⟨by rfl,?hy39⟩) (by assumption) ?_
   case hy39 =>
    intro w' hSw
    (try dsimp only at hSw)
    go_simp
    try (with_reducible rfl)
   try simp only [Act.put,jA]
   refine wpAnyH_done (by kernel_rfl) ?_ _;refine then_named ?_;intro W4 hW4;have HB4:=jH (show jB W1 W4 by rw [hW4];first|exact HB3.out|exact HB3.out.drew|exact below_drewN HB3.out _);clear hW4;obtain ⟨b1,b2,b3⟩:=box_cells HB4.out HX1.out;obtain ⟨c1,c2,c3⟩:=box_cells HB4.out HC1.out;have HR4:=jH (jK HB4.out HR1.out);obtain ⟨d1,d2,d3⟩:=box_cells jR HR4.out;go_wp2_with fail
   refine post_named ?_;intro W9 hW9;have hW9':W9=stor W4 (w.heap.size+1+1) 0 [.int .i64 ef,.int .i64 0,.int .i64 0,.int .i64 0,.int .i64 0,.int .i64 0,.int .i64 0,.int .i64 0,.int .i64 0,.int .i64 0,.int .i64 0,.int .i64 0,.int .i64 0]:=hW9;obtain ⟨s1,s2,s3,s4⟩:=stor_at HR4.out [.int .i64 ef,.int .i64 0,.int .i64 0,.int .i64 0,.int .i64 0,.int .i64 0,.int .i64 0,.int .i64 0,.int .i64 0,.int .i64 0,.int .i64 0,.int .i64 0,.int .i64 0] rfl W9 hW9'
   obtain ⟨a9,a8,a7⟩:=box_cells jR s1;clear hW9 hW9';exact bodyPost_ret (v:=.agg #[.int .i64 ef,.int .i64 0,.int .i64 0,.int .i64 0,.int .i64 0,.int .i64 0,.int .i64 0,.int .i64 0,.int .i64 0,.int .i64 0,.int .i64 0,.int .i64 0,.int .i64 0]) (by simp [results,Tryz.results94,go_sem,a9]) rfl ⟨by rw [HRR.out];rfl,(bthen HB1.out HB4.out).trans (s4 _ (by omega))⟩
end
end Go.Proofs.YtkcdhaallnhhmaaGreat
