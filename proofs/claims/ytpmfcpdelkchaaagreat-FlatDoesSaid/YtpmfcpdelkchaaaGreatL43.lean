/- Part 43 of the proof: FlDec. -/
import Derived.Test.YtpmfcpdelkchaaaGreatL38
namespace Go.Proofs.YtpmfcpdelkchaaaGreat
set_option linter.unusedSimpArgs false
set_option linter.unusedVariables false
set_option linter.unusedSectionVars false
set_option maxRecDepth 100000
set_option maxHeartbeats 16000000
section
open Go.RowKit Go.Lib
section
variable {own:List Nat} {w:World} {M L X:Nat} {c:Cfg} {rs rh n:Nat} {wd:Wd} {d:FlatD} {x:WdH}
theorem lawDecF_bad (h:FlWd own w M L X c rs rh n wd d x) (hc:CfgOk c rs rh) (hn:n≤100000) (id:ByteArray) (hm:id.size≤maxLen) (hid:idS id=false) :
 Calls Tryz.prog 49 #[.pointer (some ⟨M,0,none⟩),.agg (wdC c x).toArray,.string id] w (DecF own w M L c rs rh (n+1) (decF c rs rh wd id)):=by
 have HMORE:=jH (fun W (hW:jB w W) (hlt:w.heap.size+1<W.heap.size)=>h.more hW (Nat.le_succ _) hlt);have CI:=jH (fun W=>id_any id W hm);rw [hid] at CI;have HLT:=jH (show M<w.heap.size∧L<w.heap.size from ⟨h.lt M h.mem.1,h.lt L h.mem.2.1⟩);have HME:=jH (And.intro h.mem.1 h.mem.2.1);have HL:=jH h.l;have HAB:=jH h.abs;have CP:=jH (fun W (hW:jB w W)=>flPlan_bad ⟨id,hm⟩ (h.below hW).fw hc hid);have CF:=jH (fun W (hW:jB w W)=>flNote_bad ⟨id,hm⟩ adv0 (h.below hW).fw hc hid)
 rw [show decF c rs rh wd id=wd by unfold decF;rw [hid];rfl];unfold advC adv0 at CP CF;dsimp only at CP CF;clear h hc hn hm hid;unfold wdC
 go_enter Tryz.func49,Tryz.ntmps49
 go_upto_region 3 with (first
  | (go_at_call 99
     refine calls_named ?_;intro W1 hW1;have hb1:jB w W1:=by rw [hW1];exact balloc (balloc jR _) _
     have hx1:W1.heap[w.heap.size]?=some (.cells #[.int .i64 c.st,.int .i64 c.sa,.int .i64 c.lo,.int .i64 c.hi,.slice x.sA x.st.length x.sc,.slice x.cA x.cuts.length x.cc,.int .i64 x.ep,.bool x.over] 32 (0,0)):=by rw [hW1];exact box_old _ _ _
     have hr1:W1.heap[w.heap.size+1]?=some (.cells #[.int .i64 0,.int .i64 0,.int .i64 0,.int .i64 0,.slice none 0 0,.slice none 0 0,.int .i64 0,.bool false] 32 (0,0)):=by rw [hW1];exact box_new _ _ _
     clear hW1;refine (CP.out W1 hb1).mono ?_;rintro e w2 ⟨rfl,hb⟩;have HB2:=jH (bthen hb1 hb);have HX2:=jH (jK hb hx1);have HR2:=jH (jK hb hr1);have HT2:=jH (jL HR2.out);obtain ⟨q1,q2,q3⟩:=box_cells jR HX2.out;clear hb1 hx1 hr1 hb)
  | (go_at_call 100
     refine (CI.out _).mono ?_;rintro e w3 ⟨rfl,rfl⟩))
 refine name_world ?_;intro W3 hW3;have hd3:jB w2 W3:=by rw [hW3];exact balloc jR _
 have HB3:=jH (bthen HB2.out hd3);have HXX:=jH (jK hd3 HX2.out);have HRX:=jH (jK hd3 HR2.out);have HAX:=jH (show W3.heap[w2.heap.size]?=some (.cells #[.int .i64 0,.int .i64 0,.int .i64 0,.int .i64 0,.int .i64 0] 74 (0,0)) by rw [hW3];exact heap_alloc_new _ _);have HT3:=jH (jL HRX.out);clear hW3 hd3 q1 q2 q3;have rb:∀U,jB W3 U→∀i,U.cell? ⟨w.heap.size,i,none⟩=(#[.int .i64 c.st,.int .i64 c.sa,.int .i64 c.lo,.int .i64 c.hi,.slice x.sA x.st.length x.sc,.slice x.cA x.cuts.length x.cc,.int .i64 x.ep,.bool x.over]:Array Value)[i]?:=fun U hU i=>(box_cells hU HXX.out).1 i
 have ra:∀U,jB W3 U→∀i,U.cell? ⟨w2.heap.size,i,none⟩=(#[.int .i64 0,.int .i64 0,.int .i64 0,.int .i64 0,.int .i64 0]:Array Value)[i]?:=fun U hU i=>(box_cells hU HAX.out).1 i
 have hS00:jB W3 W3:=jR;have hS0:jB W3 W3.drew:=hS00.drew;refine wp_region_E (S:=(fun U=>jB W3 U)) 15 (by kernel_rfl) ?hS1 (fun hHeld=>?_)
 case hS1=>(first|exact hS0|exact HS8.out)
 refine wpAnyE_take (i:=0) (v:=?v2) rfl (by kernel_rfl) (by kernel_rfl) (by kernel_rfl) (by kernel_rfl) (fun _ _ _ h=>h) (Or.inl ⟨by rfl,?hy2⟩) (by assumption) ?_
 case hy2 =>
  intro w' hSw
  (try dsimp only at hSw)
  go_simp
  try (with_reducible rfl)
 try simp only [Act.put,jA]
 refine wpAnyE_take (i:=1) (v:=?v3) rfl (by kernel_rfl) (by kernel_rfl) (by kernel_rfl) (by kernel_rfl) (fun _ _ _ h=>h) (Or.inl ⟨by rfl,?hy3⟩) (by assumption) ?_
 case hy3 =>
  intro w' hSw
  (try dsimp only at hSw)
  go_simp
  try (with_reducible rfl)
 try simp only [Act.put,jA]
 refine wpAnyE_takeP (i:=2) (v:=?v4) rfl (by kernel_rfl) (by kernel_rfl) (by kernel_rfl) (by kernel_rfl) (fun _ _ _ h=>h) (Or.inl ⟨by rfl,?hy4⟩) (by assumption) ?_
 case hy4 =>
  intro w' hSw;clear hSw;go_simp
  try (with_reducible rfl)
 try simp only [Act.put,jA]
 refine wpAnyE_takeP (i:=3) (v:=?v5) rfl (by kernel_rfl) (by kernel_rfl) (by kernel_rfl) (by kernel_rfl) (fun _ _ _ h=>h) (Or.inl ⟨by rfl,?hy5⟩) (by assumption) ?_
 case hy5 =>
  intro w' hSw;clear hSw;go_simp
  try (with_reducible rfl)
 try simp only [Act.put,jA]
 refine wpAnyE_takeP (i:=4) (v:=?v6) rfl (by kernel_rfl) (by kernel_rfl) (by kernel_rfl) (by kernel_rfl) (fun _ _ _ h=>h) (Or.inl ⟨by rfl,?hy6⟩) (by assumption) ?_
 case hy6 =>
  intro w' hSw;clear hSw;go_simp
  try (with_reducible rfl)
 try simp only [Act.put,jA]
 refine wpAnyE_takeP (i:=5) (v:=?v7) rfl (by kernel_rfl) (by kernel_rfl) (by kernel_rfl) (by kernel_rfl) (fun _ _ _ h=>h) (Or.inl ⟨by rfl,?hy7⟩) (by assumption) ?_
 case hy7 =>
  intro w' hSw;clear hSw;go_simp
  try (with_reducible rfl)
 try simp only [Act.put,jA]
 refine wpAnyE_takeP (i:=6) (v:=?v8) rfl (by kernel_rfl) (by kernel_rfl) (by kernel_rfl) (by kernel_rfl) (fun _ _ _ h=>h) (Or.inl ⟨by rfl,?hy8⟩) (by assumption) ?_
 case hy8 =>
  intro w' hSw;clear hSw;go_simp
  try (with_reducible rfl)
 try simp only [Act.put,jA]
 refine wpAnyE_takeP (i:=7) (v:=?v9) rfl (by kernel_rfl) (by kernel_rfl) (by kernel_rfl) (by kernel_rfl) (fun _ _ _ h=>h) (Or.inl ⟨by rfl,?hy9⟩) (by assumption) ?_
 case hy9 =>
  intro w' hSw;clear hSw;go_simp
  try (with_reducible rfl)
 try simp only [Act.put,jA]
 refine wpAnyE_takeP (i:=8) (v:=?v10) rfl (by kernel_rfl) (by kernel_rfl) (by kernel_rfl) (by kernel_rfl) (fun _ _ _ h=>h) (Or.inl ⟨by rfl,?hy10⟩) (by assumption) ?_
 case hy10 =>
  intro w' hSw;clear hSw;go_simp
  try (with_reducible rfl)
 try simp only [Act.put,jA]
 refine wpAnyE_takeP (i:=9) (v:=?v11) rfl (by kernel_rfl) (by kernel_rfl) (by kernel_rfl) (by kernel_rfl) (fun _ _ _ h=>h) (Or.inl ⟨by rfl,?hy11⟩) (by assumption) ?_
 case hy11 =>
  intro w' hSw;clear hSw;go_simp
  try (with_reducible rfl)
 try simp only [Act.put,jA]
 refine wpAnyE_takeP (i:=10) (v:=?v12) rfl (by kernel_rfl) (by kernel_rfl) (by kernel_rfl) (by kernel_rfl) (fun _ _ _ h=>h) (Or.inl ⟨by rfl,?hy12⟩) (by assumption) ?_
 case hy12 =>
  intro w' hSw;clear hSw;go_simp
  try (with_reducible rfl)
 try simp only [Act.put,jA]
 refine wpAnyE_take (i:=11) (v:=?v13) rfl (by kernel_rfl) (by kernel_rfl) (by kernel_rfl) (by kernel_rfl) (fun _ _ _ h=>h) (Or.inl ⟨by rfl,?hy13⟩) (by assumption) ?_
 case hy13 =>
  intro w' hSw
  (try dsimp only at hSw)
  go_simp
  try (with_reducible rfl)
 try simp only [Act.put,jA]
 refine wpAnyE_one (i:=12) (by kernel_rfl) rfl (fun K hK=>?_);go_simp
 (go_at_call 64
  refine calls_named ?_;intro V hV;have hd:jB W3 V:=by rw [hV];first|exact hS0|exact hS00
  clear hV;refine (CF.out V (bthen HB3.out hd)).mono ?_;rintro e u8 ⟨rfl,hb⟩;have HS8:=jH (bthen hd hb);have HB8:=jH (bthen HB3.out (bthen hd hb));have HR8:=jH ((HS8.out.block _ HT3.out).trans HRX.out);have HT8:=jH (jL HR8.out);obtain ⟨g1,g2,g3⟩:=box_cells jR HR8.out;clear hd hb)
 try go_simp
 refine hK.out _ _ ?hS14 (fun hHeld2=>?_)
 case hS14 =>
  intro _
  (first|exact hS0|exact HS8.out)
 clear hK K hHeld;have hHeld:=hHeld2 (by kernel_rfl);clear hHeld2
 try simp only [Act.put,jA]
 refine wpAnyE_takeP (i:=13) (v:=?v15) rfl (by kernel_rfl) (by kernel_rfl) (by kernel_rfl) (by kernel_rfl) (fun _ _ _ h=>h) (Or.inl ⟨by rfl,?hy15⟩) (by assumption) ?_
 case hy15 =>
  intro w' hSw;clear hSw;go_simp
  try (with_reducible rfl)
 try simp only [Act.put,jA]
 refine wpAnyE_takeP (i:=14) (v:=?v16) rfl (by kernel_rfl) (by kernel_rfl) (by kernel_rfl) (by kernel_rfl) (fun _ _ _ h=>h) (Or.inl ⟨by rfl,?hy16⟩) (by assumption) ?_
 case hy16 =>
  intro w' hSw;clear hSw;go_simp
  try (with_reducible rfl)
 try simp only [Act.put,jA]
 refine wpAnyE_one (i:=15) (by kernel_rfl) rfl (fun K hK=>?_);go_simp
 skip
 try go_simp
 refine hK.out _ _ ?hS17 (fun hHeld2=>?_)
 case hS17=>exact fun h=>nomatch (show (true:Bool)=false from h)
 clear hK K hHeld hHeld2
 try simp only [Act.put,jA]
 refine wpAnyE_one (i:=16) (by kernel_rfl) rfl (fun K hK=>?_);go_simp
 skip
 try go_simp
 refine hK.out _ _ ?hS18 (fun hHeld2=>?_)
 case hS18=>exact fun h=>nomatch (show (true:Bool)=false from h)
 clear hK K hHeld2
 try simp only [Act.put,jA]
 refine wpAnyE_done (by kernel_rfl) ?_ _;refine then_named ?_;intro W9 hW9;have hW9':W9=stor u8 (w.heap.size+1) 0 [.int .i64 c.st,.int .i64 c.sa,.int .i64 c.lo,.int .i64 c.hi,.slice x.sA x.st.length x.sc,.slice x.cA x.cuts.length x.cc,.int .i64 x.ep,.bool x.over]:=hW9;obtain ⟨t1,t2,t3,t4⟩:=stor_at HR8.out [.int .i64 c.st,.int .i64 c.sa,.int .i64 c.lo,.int .i64 c.hi,.slice x.sA x.st.length x.sc,.slice x.cA x.cuts.length x.cc,.int .i64 x.ep,.bool x.over] rfl W9 hW9'
 obtain ⟨a9,a8,a7⟩:=box_cells jR t1;have HEND:=jH (decF_end HME.out.1 HME.out.2 HLT.out ((HMORE.out u8 HB8.out HT8.out).fw.mono (Nat.le_succ _)) HL.out (HMORE.out u8 HB8.out HT8.out).wo HAB.out (Upd.of_below HB8.out _) (Nat.le_succ _) t2 t3 t4);unfold wdC at HEND;clear hW9 hW9' t1 t2 t3 t4;go_wp2_with fail
 exact bodyPost_ret (v:=.tuple #[.agg #[.int .i64 c.st,.int .i64 c.sa,.int .i64 c.lo,.int .i64 c.hi,.slice x.sA x.st.length x.sc,.slice x.cA x.cuts.length x.cc,.int .i64 x.ep,.bool x.over],.bool true]) (by simp [results,Tryz.results49,go_sem,a9]) rfl HEND.out
theorem lawDecF_is (h:FlWd own w M L X c rs rh n wd d x) (hc:CfgOk c rs rh) (hn:n≤100000) (id:ByteArray) (hm:id.size≤maxLen) (hid:idS id=true) :
 Calls Tryz.prog 49 #[.pointer (some ⟨M,0,none⟩),.agg (wdC c x).toArray,.string id] w (DecF own w M L c rs rh (n+1) (decF c rs rh wd id)):=by
 have HMORE:=jH (fun W (hW:jB w W) (hlt:w.heap.size+1<W.heap.size)=>h.more hW (Nat.le_succ _) hlt);have CI:=jH (fun W=>id_any id W hm);rw [hid] at CI;have HLT:=jH (show M<w.heap.size∧L<w.heap.size from ⟨h.lt M h.mem.1,h.lt L h.mem.2.1⟩);have HME:=jH (And.intro h.mem.1 h.mem.2.1);have HL:=jH h.l;have HAB:=jH h.abs;have CP:=jH (fun W (hW:jB w W)=>flPlan_is ⟨id,hm⟩ (h.below hW).fw hc hid);have hbd:=(okSt_bd _ (show okSt c.st=true by have:=hc.cfg;unfold cfgB at this;simp only [Bool.and_eq_true] at this;exact this.1)).2
 have CP2:=jH (fun W (hW:jB w W) (hlt:w.heap.size+1<W.heap.size)=>plan21_any _ c rs rh n x id W (HMORE.out W hW hlt).new (HMORE.out W hW hlt).wo hbd (by rw [h.abs];exact h.fw.ok) ⟨by have:=hc.room.r2;omega,by have:=hc.room.h2;omega⟩ hm);have CN2:=jH (fun W (hW:jB w W) (hlt:w.heap.size+1<W.heap.size)=>note21_any _ c rs rh n x id (planW wd id).1 W (HMORE.out W hW hlt).new (HMORE.out W hW hlt).wo hc.room (show okSt c.st=true by have:=hc.cfg;unfold cfgB at this;simp only [Bool.and_eq_true] at this;exact this.1) (by rw [h.abs];exact h.fw.ok) hn hm)
 have CF:=jH (fun W (hW:jB w W) (hlt:w.heap.size+1<W.heap.size)=>flNote_any ⟨id,hm⟩ (planW wd id).1 (HMORE.out W hW hlt).fw (HMORE.out W hW hlt).new hc hid);rw [h.abs] at CP2 CN2;rw [h.l] at CF;rw [show decF c rs rh wd id=(noteW c rs rh wd id (planW wd id).1).1 by unfold decF;rw [hid];rfl];dsimp only at CP CF;clear h hc hn hm hid hbd;generalize hpl:planW wd id=pl at *;clear hpl;obtain ⟨a,er⟩:=pl;dsimp only at CP CP2 CN2 CF ⊢
 obtain ⟨nr,hnr⟩:∃r,r=noteW c rs rh wd id a:=⟨_,rfl⟩;rw [←hnr] at CN2 CF ⊢;clear hnr;obtain ⟨nw,nb⟩:=nr;unfold wdC;unfold wdC advC at CP2;unfold wdC advC at CN2;unfold advC at CP CF;dsimp only at CP CP2 CN2 CF ⊢
 go_enter Tryz.func49,Tryz.ntmps49
 go_upto_region 6 with (first
  | (go_at_call 99
     refine calls_named ?_;intro W1 hW1;have hb1:jB w W1:=by rw [hW1];exact balloc (balloc jR _) _
     have hx1:W1.heap[w.heap.size]?=some (.cells #[.int .i64 c.st,.int .i64 c.sa,.int .i64 c.lo,.int .i64 c.hi,.slice x.sA x.st.length x.sc,.slice x.cA x.cuts.length x.cc,.int .i64 x.ep,.bool x.over] 32 (0,0)):=by rw [hW1];exact box_old _ _ _
     have hr1:W1.heap[w.heap.size+1]?=some (.cells #[.int .i64 0,.int .i64 0,.int .i64 0,.int .i64 0,.slice none 0 0,.slice none 0 0,.int .i64 0,.bool false] 32 (0,0)):=by rw [hW1];exact box_new _ _ _
     clear hW1;refine (CP.out W1 hb1).mono ?_;rintro e w2 ⟨rfl,hb⟩;have HB2:=jH (bthen hb1 hb);have HX2:=jH (jK hb hx1);have HR2:=jH (jK hb hr1);have HT2:=jH (jL HR2.out);obtain ⟨q1,q2,q3⟩:=box_cells jR HX2.out;clear hb1 hx1 hr1 hb)
  | (go_at_call 100
     refine (CI.out _).mono ?_;rintro e w3 ⟨rfl,rfl⟩)
  | (go_at_call 63
     refine calls_named ?_;intro V3 hV3;have hd3:jB w2 V3:=by rw [hV3];exact balloc jR _
     have ha3:V3.heap[w2.heap.size]?=some (.cells #[.int .i64 a.tick,.int .i64 a.load,.int .i64 a.want,.int .i64 a.repl,.int .i64 a.why] 74 (0,0)):=by rw [hV3];exact heap_alloc_new _ _
     clear hV3;refine (CP2.out V3 (bthen HB2.out hd3) (Nat.lt_of_lt_of_le HT2.out hd3.size)).mono ?_;rintro e w4 ⟨rfl,hb4⟩;have HB24:=jH (bthen hd3 hb4);have HA4:=jH (jK hb4 ha3);obtain ⟨p1,p2,p3⟩:=box_cells HB24.out HX2.out;clear hd3 ha3 hb4)
  | (go_at_call 65
     refine calls_named ?_;intro V5 hV5;have hd5:jB w4 V5:=by rw [hV5];exact balloc jR _
     have ha5:V5.heap[w4.heap.size]?=some (.cells #[.int .i64 a.tick,.int .i64 a.load,.int .i64 a.want,.int .i64 a.repl,.int .i64 a.why] 74 (0,0)):=by rw [hV5];exact heap_alloc_new _ _
     clear hV5;have hd25:=bthen HB24.out hd5;refine (CN2.out V5 (bthen HB2.out hd25) (Nat.lt_of_lt_of_le HT2.out hd25.size)).mono ?_;rintro e w6 ⟨x2,rfl,hwi,hab,hb6⟩;unfold wdC;have HWI6:=jH hwi;have HAB6:=jH hab;have HB26:=jH (bthen hd25 hb6);have HB46:=jH (bthen hd5 hb6);have HC6:=jH (jK hb6 ha5);clear hd5 ha5 hb6 hd25 hwi hab q1 q2 q3 p1 p2 p3))
 refine name_world ?_;intro W7 hW7;have hd7:jB w6 W7:=by rw [hW7];exact balloc jR _
 have hd27:=bthen HB26.out hd7;have HB7:=jH (bthen HB2.out hd27);have HRX:=jH (jK hd27 HR2.out);have HAX:=jH (jK (bthen HB46.out hd7) HA4.out);have HCX:=jH (jK hd7 HC6.out);have HXX:=jH (show W7.heap[w6.heap.size]?=some (.cells #[.int .i64 c.st,.int .i64 c.sa,.int .i64 c.lo,.int .i64 c.hi,.slice x2.sA x2.st.length x2.sc,.slice x2.cA x2.cuts.length x2.cc,.int .i64 x2.ep,.bool x2.over] 32 (0,0)) by rw [hW7];exact heap_alloc_new _ _)
 have HT7:=jH (jL HRX.out);have HWI7:=jH (HWI6.out.below hd7);have HSZ:=jH (show w.heap.size≤w2.heap.size∧w.heap.size≤w4.heap.size∧w.heap.size≤w6.heap.size from ⟨HB2.out.size,Nat.le_trans HB2.out.size HB24.out.size,Nat.le_trans HB2.out.size HB26.out.size⟩);clear hW7 hd7 hd27;have ra:∀U:World,(U.heap[w2.heap.size]?=some (.cells #[.int .i64 a.tick,.int .i64 a.load,.int .i64 a.want,.int .i64 a.repl,.int .i64 a.why] 74 (0,0))∧U.heap[w4.heap.size]?=some (.cells #[.int .i64 a.tick,.int .i64 a.load,.int .i64 a.want,.int .i64 a.repl,.int .i64 a.why] 74 (0,0))∧U.heap[w6.heap.size]?=some (.cells #[.int .i64 c.st,.int .i64 c.sa,.int .i64 c.lo,.int .i64 c.hi,.slice x2.sA x2.st.length x2.sc,.slice x2.cA x2.cuts.length x2.cc,.int .i64 x2.ep,.bool x2.over] 32 (0,0)))→∀i,U.cell? ⟨w2.heap.size,i,none⟩=(#[.int .i64 a.tick,.int .i64 a.load,.int .i64 a.want,.int .i64 a.repl,.int .i64 a.why]:Array Value)[i]?:=fun U hU i=>(box_cells jR hU.1).1 i
 have rc:∀U:World,(U.heap[w2.heap.size]?=some (.cells #[.int .i64 a.tick,.int .i64 a.load,.int .i64 a.want,.int .i64 a.repl,.int .i64 a.why] 74 (0,0))∧U.heap[w4.heap.size]?=some (.cells #[.int .i64 a.tick,.int .i64 a.load,.int .i64 a.want,.int .i64 a.repl,.int .i64 a.why] 74 (0,0))∧U.heap[w6.heap.size]?=some (.cells #[.int .i64 c.st,.int .i64 c.sa,.int .i64 c.lo,.int .i64 c.hi,.slice x2.sA x2.st.length x2.sc,.slice x2.cA x2.cuts.length x2.cc,.int .i64 x2.ep,.bool x2.over] 32 (0,0)))→∀i,U.cell? ⟨w4.heap.size,i,none⟩=(#[.int .i64 a.tick,.int .i64 a.load,.int .i64 a.want,.int .i64 a.repl,.int .i64 a.why]:Array Value)[i]?:=fun U hU i=>(box_cells jR hU.2.1).1 i
 have rb:∀U:World,(U.heap[w2.heap.size]?=some (.cells #[.int .i64 a.tick,.int .i64 a.load,.int .i64 a.want,.int .i64 a.repl,.int .i64 a.why] 74 (0,0))∧U.heap[w4.heap.size]?=some (.cells #[.int .i64 a.tick,.int .i64 a.load,.int .i64 a.want,.int .i64 a.repl,.int .i64 a.why] 74 (0,0))∧U.heap[w6.heap.size]?=some (.cells #[.int .i64 c.st,.int .i64 c.sa,.int .i64 c.lo,.int .i64 c.hi,.slice x2.sA x2.st.length x2.sc,.slice x2.cA x2.cuts.length x2.cc,.int .i64 x2.ep,.bool x2.over] 32 (0,0)))→∀i,U.cell? ⟨w6.heap.size,i,none⟩=(#[.int .i64 c.st,.int .i64 c.sa,.int .i64 c.lo,.int .i64 c.hi,.slice x2.sA x2.st.length x2.sc,.slice x2.cA x2.cuts.length x2.cc,.int .i64 x2.ep,.bool x2.over]:Array Value)[i]?:=fun U hU i=>(box_cells jR hU.2.2).1 i
 have HS0:=jH (show (W7.drew.heap[w2.heap.size]?=some (.cells #[.int .i64 a.tick,.int .i64 a.load,.int .i64 a.want,.int .i64 a.repl,.int .i64 a.why] 74 (0,0))∧W7.drew.heap[w4.heap.size]?=some (.cells #[.int .i64 a.tick,.int .i64 a.load,.int .i64 a.want,.int .i64 a.repl,.int .i64 a.why] 74 (0,0))∧W7.drew.heap[w6.heap.size]?=some (.cells #[.int .i64 c.st,.int .i64 c.sa,.int .i64 c.lo,.int .i64 c.hi,.slice x2.sA x2.st.length x2.sc,.slice x2.cA x2.cuts.length x2.cc,.int .i64 x2.ep,.bool x2.over] 32 (0,0))) from ⟨HAX.out,HCX.out,HXX.out⟩)
 refine wp_region_E (S:=(fun U:World=>(U.heap[w2.heap.size]?=some (.cells #[.int .i64 a.tick,.int .i64 a.load,.int .i64 a.want,.int .i64 a.repl,.int .i64 a.why] 74 (0,0))∧U.heap[w4.heap.size]?=some (.cells #[.int .i64 a.tick,.int .i64 a.load,.int .i64 a.want,.int .i64 a.repl,.int .i64 a.why] 74 (0,0))∧U.heap[w6.heap.size]?=some (.cells #[.int .i64 c.st,.int .i64 c.sa,.int .i64 c.lo,.int .i64 c.hi,.slice x2.sA x2.st.length x2.sc,.slice x2.cA x2.cuts.length x2.cc,.int .i64 x2.ep,.bool x2.over] 32 (0,0))))) 17 (by kernel_rfl) ?hS19 (fun hHeld=>?_)
 case hS19=>(first|exact HS0.out|exact HS8.out)
 refine wpAnyE_take (i:=0) (v:=?v20) rfl (by kernel_rfl) (by kernel_rfl) (by kernel_rfl) (by kernel_rfl) (fun _ _ _ h=>h) (Or.inl ⟨by rfl,?hy20⟩) (by assumption) ?_
 case hy20 =>
  intro w' hSw
  (try dsimp only at hSw)
  go_simp
  try (with_reducible rfl)
 try simp only [Act.put,jA]
 refine wpAnyE_take (i:=1) (v:=?v21) rfl (by kernel_rfl) (by kernel_rfl) (by kernel_rfl) (by kernel_rfl) (fun _ _ _ h=>h) (Or.inl ⟨by rfl,?hy21⟩) (by assumption) ?_
 case hy21 =>
  intro w' hSw
  (try dsimp only at hSw)
  go_simp
  try (with_reducible rfl)
 try simp only [Act.put,jA]
 refine wpAnyE_take (i:=2) (v:=?v22) rfl (by kernel_rfl) (by kernel_rfl) (by kernel_rfl) (by kernel_rfl) (fun _ _ _ h=>h) (Or.inl ⟨by rfl,?hy22⟩) (by assumption) ?_
 case hy22 =>
  intro w' hSw
  (try dsimp only at hSw)
  go_simp
  try (with_reducible rfl)
 try simp only [Act.put,jA]
 refine wpAnyE_takeP (i:=3) (v:=?v23) rfl (by kernel_rfl) (by kernel_rfl) (by kernel_rfl) (by kernel_rfl) (fun _ _ _ h=>h) (Or.inl ⟨by rfl,?hy23⟩) (by assumption) ?_
 case hy23 =>
  intro w' hSw;clear hSw;go_simp
  try (with_reducible rfl)
 try simp only [Act.put,jA]
 refine wpAnyE_takeP (i:=4) (v:=?v24) rfl (by kernel_rfl) (by kernel_rfl) (by kernel_rfl) (by kernel_rfl) (fun _ _ _ h=>h) (Or.inl ⟨by rfl,?hy24⟩) (by assumption) ?_
 case hy24 =>
  intro w' hSw;clear hSw;go_simp
  try (with_reducible rfl)
 try simp only [Act.put,jA]
 refine wpAnyE_takeP (i:=5) (v:=?v25) rfl (by kernel_rfl) (by kernel_rfl) (by kernel_rfl) (by kernel_rfl) (fun _ _ _ h=>h) (Or.inl ⟨by rfl,?hy25⟩) (by assumption) ?_
 case hy25 =>
  intro w' hSw;clear hSw;go_simp
  try (with_reducible rfl)
 try simp only [Act.put,jA]
 refine wpAnyE_takeP (i:=6) (v:=?v26) rfl (by kernel_rfl) (by kernel_rfl) (by kernel_rfl) (by kernel_rfl) (fun _ _ _ h=>h) (Or.inl ⟨by rfl,?hy26⟩) (by assumption) ?_
 case hy26 =>
  intro w' hSw;clear hSw;go_simp
  try (with_reducible rfl)
 try simp only [Act.put,jA]
 refine wpAnyE_takeP (i:=7) (v:=?v27) rfl (by kernel_rfl) (by kernel_rfl) (by kernel_rfl) (by kernel_rfl) (fun _ _ _ h=>h) (Or.inl ⟨by rfl,?hy27⟩) (by assumption) ?_
 case hy27 =>
  intro w' hSw;clear hSw;go_simp
  try (with_reducible rfl)
 try simp only [Act.put,jA]
 refine wpAnyE_takeP (i:=8) (v:=?v28) rfl (by kernel_rfl) (by kernel_rfl) (by kernel_rfl) (by kernel_rfl) (fun _ _ _ h=>h) (Or.inl ⟨by rfl,?hy28⟩) (by assumption) ?_
 case hy28 =>
  intro w' hSw;clear hSw;go_simp
  try (with_reducible rfl)
 try simp only [Act.put,jA]
 refine wpAnyE_takeP (i:=9) (v:=?v29) rfl (by kernel_rfl) (by kernel_rfl) (by kernel_rfl) (by kernel_rfl) (fun _ _ _ h=>h) (Or.inl ⟨by rfl,?hy29⟩) (by assumption) ?_
 case hy29 =>
  intro w' hSw;clear hSw;go_simp
  try (with_reducible rfl)
 try simp only [Act.put,jA]
 refine wpAnyE_takeP (i:=10) (v:=?v30) rfl (by kernel_rfl) (by kernel_rfl) (by kernel_rfl) (by kernel_rfl) (fun _ _ _ h=>h) (Or.inl ⟨by rfl,?hy30⟩) (by assumption) ?_
 case hy30 =>
  intro w' hSw;clear hSw;go_simp
  try (with_reducible rfl)
 try simp only [Act.put,jA]
 refine wpAnyE_takeP (i:=11) (v:=?v31) rfl (by kernel_rfl) (by kernel_rfl) (by kernel_rfl) (by kernel_rfl) (fun _ _ _ h=>h) (Or.inl ⟨by rfl,?hy31⟩) (by assumption) ?_
 case hy31 =>
  intro w' hSw;clear hSw;go_simp
  try (with_reducible rfl)
 try simp only [Act.put,jA]
 refine wpAnyE_take (i:=12) (v:=?v32) rfl (by kernel_rfl) (by kernel_rfl) (by kernel_rfl) (by kernel_rfl) (fun _ _ _ h=>h) (Or.inl ⟨by rfl,?hy32⟩) (by assumption) ?_
 case hy32 =>
  intro w' hSw
  (try dsimp only at hSw)
  go_simp
  try (with_reducible rfl)
 try simp only [Act.put,jA]
 refine wpAnyE_takeP (i:=14) (v:=?v33) rfl (by kernel_rfl) (by kernel_rfl) (by kernel_rfl) (by kernel_rfl) (fun _ _ _ h=>h) (Or.inl ⟨by rfl,?hy33⟩) (by assumption) ?_
 case hy33 =>
  intro w' hSw;clear hSw;go_simp
  try (with_reducible rfl)
 try simp only [Act.put,jA]
 refine wpAnyE_one (i:=13) (by kernel_rfl) rfl (fun K hK=>?_);go_simp
 (go_at_call 64
  refine calls_named ?_;intro V hV;have hd:jB W7 V:=by rw [hV];first|exact jR.drew|exact jR
  clear hV;refine (CF.out V (bthen HB7.out hd) (Nat.lt_of_lt_of_le HT7.out hd.size)).mono ?_;rintro e u8 ⟨d',rfl,hfw,hl9,hu⟩;have hU7:=(Upd.of_below hd [M,L]).trans hu;have hno:∀b,w.heap.size≤b→b∉[M,L]:=fun b hb hq=>by
   have:=HLT.out;simp only [List.mem_cons,List.not_mem_nil,or_false] at hq
   omega
  have HF8:=jH hfw;have HL8:=jH hl9;have HU8:=jH hU7;have HR8:=jH (upd_at hU7 (hno _ (Nat.le_succ _)) HRX.out);have HS8:=jH (show (u8.heap[w2.heap.size]?=some (.cells #[.int .i64 a.tick,.int .i64 a.load,.int .i64 a.want,.int .i64 a.repl,.int .i64 a.why] 74 (0,0))∧u8.heap[w4.heap.size]?=some (.cells #[.int .i64 a.tick,.int .i64 a.load,.int .i64 a.want,.int .i64 a.repl,.int .i64 a.why] 74 (0,0))∧u8.heap[w6.heap.size]?=some (.cells #[.int .i64 c.st,.int .i64 c.sa,.int .i64 c.lo,.int .i64 c.hi,.slice x2.sA x2.st.length x2.sc,.slice x2.cA x2.cuts.length x2.cc,.int .i64 x2.ep,.bool x2.over] 32 (0,0))) from ⟨upd_at hU7 (hno _ HSZ.out.1) HAX.out,upd_at hU7 (hno _ HSZ.out.2.1) HCX.out,upd_at hU7 (hno _ HSZ.out.2.2) HXX.out⟩)
  have HWI8:=jH (HWI7.out.keepP hU7.size (fun b hb hlt=>hU7.block b hlt (fun hq=>hb (by
   simp only [List.mem_cons,List.not_mem_nil,or_false] at hq
   rcases hq with rfl|rfl
   · exact List.mem_cons_of_mem _ HME.out.1
   · exact List.mem_cons_of_mem _ HME.out.2))))
  obtain ⟨g1,g2,g3⟩:=box_cells jR HR8.out;clear hd hfw hl9 hu hU7 hno)
 try go_simp
 refine hK.out _ _ ?hS34 (fun hHeld2=>?_)
 case hS34 =>
  intro _
  (first|exact HS0.out|exact HS8.out)
 clear hK K hHeld;have hHeld:=hHeld2 (by kernel_rfl);clear hHeld2
 try simp only [Act.put,jA]
 refine wpAnyE_takeP (i:=15) (v:=?v35) rfl (by kernel_rfl) (by kernel_rfl) (by kernel_rfl) (by kernel_rfl) (fun _ _ _ h=>h) (Or.inl ⟨by rfl,?hy35⟩) (by assumption) ?_
 case hy35 =>
  intro w' hSw;clear hSw;go_simp
  try (with_reducible rfl)
 try simp only [Act.put,jA]
 refine wpAnyE_takeP (i:=16) (v:=?v36) rfl (by kernel_rfl) (by kernel_rfl) (by kernel_rfl) (by kernel_rfl) (fun _ _ _ h=>h) (Or.inl ⟨by rfl,?hy36⟩) (by assumption) ?_
 case hy36 =>
  intro w' hSw;clear hSw;go_simp
  try (with_reducible rfl)
 try simp only [Act.put,jA]
 refine wpAnyE_one (i:=17) (by kernel_rfl) rfl (fun K hK=>?_);go_simp
 skip
 try go_simp
 refine hK.out _ _ ?hS37 (fun hHeld2=>?_)
 case hS37=>exact fun h=>nomatch (show (true:Bool)=false from h)
 clear hK K hHeld hHeld2
 try simp only [Act.put,jA]
 refine wpAnyE_one (i:=18) (by kernel_rfl) rfl (fun K hK=>?_);go_simp
 skip
 try go_simp
 refine hK.out _ _ ?hS38 (fun hHeld2=>?_)
 case hS38=>exact fun h=>nomatch (show (true:Bool)=false from h)
 clear hK K hHeld2
 try simp only [Act.put,jA]
 refine wpAnyE_done (by kernel_rfl) ?_ _;refine then_named ?_;intro W9 hW9;have hW9':W9=stor u8 (w.heap.size+1) 0 [.int .i64 c.st,.int .i64 c.sa,.int .i64 c.lo,.int .i64 c.hi,.slice x2.sA x2.st.length x2.sc,.slice x2.cA x2.cuts.length x2.cc,.int .i64 x2.ep,.bool x2.over]:=hW9;obtain ⟨t1,t2,t3,t4⟩:=stor_at HR8.out [.int .i64 c.st,.int .i64 c.sa,.int .i64 c.lo,.int .i64 c.hi,.slice x2.sA x2.st.length x2.sc,.slice x2.cA x2.cuts.length x2.cc,.int .i64 x2.ep,.bool x2.over] rfl W9 hW9'
 obtain ⟨a9,a8,a7⟩:=box_cells jR t1;have HEND:=jH (decF_end HME.out.1 HME.out.2 HLT.out HF8.out HL8.out HWI8.out HAB6.out ((Upd.of_below HB7.out [M,L]).trans HU8.out) (Nat.le_succ _) t2 t3 t4);unfold wdC at HEND;clear hW9 hW9' t1 t2 t3 t4;go_wp2_with fail
 exact bodyPost_ret (v:=.tuple #[.agg #[.int .i64 c.st,.int .i64 c.sa,.int .i64 c.lo,.int .i64 c.hi,.slice x2.sA x2.st.length x2.sc,.slice x2.cA x2.cuts.length x2.cc,.int .i64 x2.ep,.bool x2.over],.bool true]) (by simp [results,Tryz.results49,go_sem,a9]) rfl HEND.out
theorem lawDecF_any (h:FlWd own w M L X c rs rh n wd d x) (hc:CfgOk c rs rh) (hn:n≤100000) (id:ByteArray) (hm:id.size≤maxLen) :
 Calls Tryz.prog 49 #[.pointer (some ⟨M,0,none⟩),.agg (wdC c x).toArray,.string id] w (DecF own w M L c rs rh (n+1) (decF c rs rh wd id)):=by
 cases hid:idS id with
 | false=>exact lawDecF_bad h hc hn id hm hid
 | true=>exact lawDecF_is h hc hn id hm hid
end
end
end Go.Proofs.YtpmfcpdelkchaaaGreat
