/- Part 34 of the proof: FlLk. -/
import Derived.Test.YtkcdhaallnhhmaaGreatP29
import Derived.Test.YtkcdhaallnhhmaaGreatP30
namespace Go.Proofs.YtkcdhaallnhhmaaGreat
set_option linter.unusedSimpArgs false
set_option linter.unusedVariables false
set_option linter.unusedSectionVars false
set_option maxRecDepth 100000
set_option maxHeartbeats 16000000
section
open Go.RowKit Go.Lib
theorem findT_ok {wd:Wd} {k:Int} (h:findT (tabW wd) k=0):∃(j:Nat) (q:CutD),k=((j+1:Nat):Int)∧wd.cuts[j]?=some q∧q.freed=false:=by
 have htl:(tabW wd).length=wd.cuts.length:=by simp [tabW]
 unfold findT at h
 split at h
 · cases h
 · rename_i hk
   rw [htl] at hk;have hj:k.toNat - 1<wd.cuts.length:=by omega
   have he:(tabW wd)[k.toNat - 1]?=some (if wd.cuts[k.toNat - 1].freed=true then -1 else wd.cuts[k.toNat - 1].ep):=by
    unfold tabW;rw [List.getElem?_map,List.getElem?_eq_getElem hj];rfl
   rw [he] at h;refine ⟨k.toNat - 1,wd.cuts[k.toNat - 1],by omega,List.getElem?_eq_getElem hj,?_⟩
   cases hf:wd.cuts[k.toNat - 1].freed with
   | false=>rfl
   | true=>rw [hf] at h;cases h
theorem flLook_bad {P:Nat→Prop} {w:World} {M:Nat} {c:Cfg} {rs rh n:Nat} {wd:Wd} {d:FlatD} (kind tick val handle:Int) (s:SK) (p:Pol) (h:FW P w M c rs rh n wd d) (hn:n≤100000) (he:findT (tabW wd) handle≠0) :
 Calls Tryz.prog 83 #[.pointer (some ⟨M,0,none⟩),callV ⟨kind,s.1,tick,val,handle,p⟩] w (jP w (repV (repF (findT (tabW wd) handle)))):=by
 have hcl:wd.cuts.length≤900000:=by have:=h.ok.cuts;omega
 have CK:=jH (fun W (hW:jB w W)=>flFind_any handle W (h.at_.below hW) hcl (fun q hq=>(h.ok.cep q hq).1));have z0:(findT (tabW wd) handle == 0)=false:=by simpa using he
 have z1:(findT (tabW wd) handle != 0)=true:=by simpa using he
 generalize findT (tabW wd) handle=er at *;obtain ⟨p0,p1,p2,p3,p4,p5⟩:=p;unfold callV;dsimp only;clear h hn hcl he
 go_enter Tryz.func83,Tryz.ntmps83
 go_wp2_with (first
  | (go_at_call 122
     refine calls_named ?_;intro W1 hW1;obtain ⟨HB2,HX02,HX9⟩:=boxesF w _ _ W1 hW1;clear hW1;refine (CK.out W1 HB2.out).mono ?_;rintro e w2 ⟨rfl,rfl⟩;obtain ⟨b1,b2,b3⟩:=box_cells jR HX02.out;obtain ⟨y1,y2,y3⟩:=box_cells jR HX9.out))
 refine post_named ?_;intro W9 hW9;have hW9':W9=stor w2 (w.heap.size+1) 0 (repC (repF er)):=hW9;obtain ⟨t1,t2,t3,t4⟩:=stor_at HX9.out (repC (repF er)) rfl W9 hW9';obtain ⟨a9,a8,a7⟩:=box_cells jR t1;clear hW9 hW9';exact bodyPost_ret (v:=repV (repF er)) (by simp [results,Tryz.results83,go_sem,a9,repV,repC,repF,st0,adv0]) rfl ⟨rfl,HB2.out.trans (t4 _ (Nat.le_succ _))⟩
theorem flLook_ok {P:Nat→Prop} {w:World} {M:Nat} {c:Cfg} {rs rh n:Nat} {wd:Wd} {d:FlatD} (kind tick val handle:Int) (s:SK) (p:Pol) (h:FW P w M c rs rh n wd d) (hn:n≤100000) (hc:CfgOk c rs rh) (hs:idS s.1=true) (hti:I64 tick∧I64 val) (he:findT (tabW wd) handle=0) :
 Calls Tryz.prog 83 #[.pointer (some ⟨M,0,none⟩),callV ⟨kind,s.1,tick,val,handle,p⟩] w (jP w (repV (lookW wd ⟨kind,s.1,tick,val,handle,p⟩))):=by
 have hcl:wd.cuts.length≤900000:=by have:=h.ok.cuts;omega
 have CK:=jH (fun W (hW:jB w W)=>flFind_any handle W (h.at_.below hW) hcl (fun q hq=>(h.ok.cep q hq).1));rw [he] at CK;obtain ⟨j,q,rfl,hq,hqf⟩:=findT_ok he;have hj:j<d.cuts.length:=by rw [h.at_.len];exact (List.getElem?_eq_some_iff.1 hq).1
 have hcut:=h.at_.cut j _ q (List.getElem?_eq_getElem hj) hq;obtain ⟨hep,l,hml,hPl,hmap,hrows,hhas⟩:=hcut.2 hqf;obtain ⟨r,hr⟩:∃r,r=lookW wd ⟨kind,s.1,tick,val,((j+1:Nat):Int),p⟩:=⟨_,rfl⟩;rw [←hr];have hrr:r=match findM d.cuts[j].es s with|none=>repF 5|some xo=>⟨0,d.cuts[j].ep,0,statW xo.nd.smp tick val,adv0⟩:=by
  rw [hr];unfold lookW;rw [if_neg (by rw [he];simp)]
  show (match wd.cuts[((j+1:Nat):Int).toNat - 1]? with|none=>repF 5|some c=>match findIt c.items (keyK s.1) with|none=>repF 5|some y=>⟨0,c.ep,0,statW y.smp tick val,adv0⟩)=_
  rw [show ((j+1:Nat):Int).toNat - 1=j by omega,hq];have h1:=hhas.2 s hs
  cases hf:findM d.cuts[j].es s with
  | none =>
    rw [hf] at h1;simp only at h1 ⊢
    rw [h1]
  | some xo =>
    rw [hf] at h1;obtain ⟨y,hy,hxy⟩:=h1;simp only
    rw [hy,hep];simp only [hxy.1]
 have hlk:=fun (W:World) (hW:jB w W)=>fl_look hmap s true (hW.block l hmap.lt)
 have hsz:∀xo,findM d.cuts[j].es s=some xo→xo.nd.smp.length≤1000000∧smpI xo.nd.smp:=fun xo hf=>by
  have h1:=hhas.2 s hs;rw [hf] at h1;obtain ⟨y,hy,hxy⟩:=h1;have h2:=(h.ok.cit q (List.mem_of_getElem? hq)).2 _ (findIt_mem hy);have h3:=h2.nd.len;have h4:=hc.room.r2;rw [hxy.1];exact ⟨by show y.smp.length≤1000000;have:y.smp.length≤rs:=h3;omega,h2.smp⟩
 have CA0:=jH (fun xo (hf:findM d.cuts[j].es s=some xo) (W:World) (hW:jB w W)=>winAt_any (.slice xo.sA xo.nd.smp.length xo.sc) xo.nd.smp tick val W ((hrows _ (find_mem hf)).1.1.below hW) (hsz xo hf).1 (hsz xo hf).2 hti.1 hti.2);obtain ⟨b,o,hA,hb,hcc⟩:=h.at_.row.1.at_ hj;have c0:∀U,jB w U→U.cell? ⟨b,o+j * 3,none⟩=some (.int .i64 d.cuts[j].ep):=fun U hU=>(hU.cell (p:=⟨b,_,none⟩) hb).trans (hcc 0 _ rfl)
 have c1:∀U,jB w U→U.cell? ⟨b,o+j * 3+1,none⟩=some (.map (some l)):=fun U hU=>((hU.cell (p:=⟨b,_,none⟩) hb).trans (hcc 1 _ rfl)).trans (by rw [hml])
 have c2:∀U,jB w U→U.cell? ⟨b,o+j * 3+2,none⟩=some (.bool d.cuts[j].fr):=fun U hU=>(hU.cell (p:=⟨b,_,none⟩) hb).trans (hcc 2 _ rfl)
 have HC0:=jH c0;have HC1:=jH c1;have HC2:=jH c2;have hcell:=h.at_.cell;rw [hA] at hcell;obtain ⟨cl,hcln⟩:∃n,n=d.cuts.length:=⟨_,rfl⟩;rw [←hcln] at hcell;have HC:=jH hcell;have hjm:j≤900000:=by have:=h.at_.len;omega
 have z3:(0:Int)≤(j:Int):=by omega
 have z4:(j:Int)<(cl:Int):=by omega
 have z5:((j:Int)+1) - 1=(j:Int):=by omega
 have z6:wrap64 (j:Int)=(j:Int):=by unfold wrap64;omega
 have HBO:=jH hb;have hr2:=hrr;obtain ⟨x,hx⟩:∃x,x=d.cuts[j]:=⟨_,rfl⟩;rw [←hx] at CA0 HC0 HC2 hr2 hlk;obtain ⟨xe,xm,xes,xf⟩:=x;dsimp only at CA0 HC0 HC2 hr2 hlk;have HRR:=jH hr2;have hjn:((j+1:Nat):Int)=(j:Int)+1:=by omega
 rw [hjn] at CK ⊢;obtain ⟨p0,p1,p2,p3,p4,p5⟩:=p;obtain ⟨xo,hxo⟩:∃x,x=(findM xes s).getD it00:=⟨_,rfl⟩;rw [←hxo,←isSome_has] at hlk;unfold ldV ldC at hlk;simp only [↓reduceIte] at hlk
 have HLK:=jH hlk;have HXO:=jH hxo;unfold callV;dsimp only;clear h hn hc hs hcl hti he hq hqf hcut hep hml hPl hmap hrows hhas hr hrr hlk hsz hA hb hcc c0 c1 c2 hcell hcln hjm hr2 hx hxo hj hjn
 go_enter Tryz.func83,Tryz.ntmps83
 go_upto_region 4 with (first
  | (go_at_call 122
     refine calls_named ?_;intro W1 hW1;obtain ⟨HB2,HX02,HX9⟩:=boxesF w _ _ W1 hW1;clear hW1;refine (CK.out W1 HB2.out).mono ?_;rintro e w2 ⟨rfl,rfl⟩;obtain ⟨b1,b2,b3⟩:=box_cells jR HX02.out;obtain ⟨y1,y2,y3⟩:=box_cells jR HX9.out))
 clear b1 b2 b3 y1 y2 y3;obtain ⟨b1,b2,b3⟩:=box_cells jR HX02.out;obtain ⟨m1,m2,m3⟩:=box_cells HB2.out HC.out;have q0:=HC0.out w2 HB2.out;have q1:=HC1.out w2 HB2.out;have q2:=HC2.out w2 HB2.out;have q3:b<w2.heap.size:=Nat.lt_of_lt_of_le HBO.out HB2.out.size
 go_region
 all_goals
   refine then_named ?_;intro W4 hW4;have hb24:jB w2 W4:=by rw [hW4];exact (balloc jR _).drew
   obtain ⟨HB4,HX04,HX94⟩:=keepHF hb24 HB2 HX02 HX9;have HU4:=jH (show W4.heap[w2.heap.size]?=some (.cells #[.int .i64 xe,.map (some l),.bool xf] 108 (0,0)) by rw [hW4];exact heap_alloc_new _ _);clear hW4 hb24 b1 b2 b3 m1 m2 m3 q0 q1 q2 q3;obtain ⟨b1,b2,b3⟩:=box_cells jR HX04.out;obtain ⟨u1,u2,u3⟩:=box_cells jR HU4.out;obtain ⟨y1,y2,y3⟩:=box_cells jR HX94.out;have q:=HLK.out W4 HB4.out
   cases hf:findM xes s with
   | none =>
     have HR:=jH (HRR.out.trans (by rw [hf]));rw [hf] at q;simp only [Option.isSome_none] at q
     clear hf
     go_upto_region 7 with fail
     refine name_world ?_;intro W5 hW5;have hb45:jB W4 W5:=by rw [hW5];exact balloc jR _
     obtain ⟨HB5,HX05,HX95⟩:=keepHF hb45 HB4 HX04 HX94;clear hW5 hb45 b1 b2 b3 u1 u2 u3 y1 y2 y3 q;obtain ⟨y1,y2,y3⟩:=box_cells jR HX95.out;go_wp2_with fail
     refine post_named ?_;intro W9 hW9;have hW9':W9=stor W5 (w.heap.size+1) 0 (repC (repF 5)):=hW9;obtain ⟨t1,t2,t3,t4⟩:=stor_at HX95.out (repC (repF 5)) rfl W9 hW9';obtain ⟨a9,a8,a7⟩:=box_cells jR t1;clear hW9 hW9';exact bodyPost_ret (v:=repV (repF 5)) (by simp [results,Tryz.results83,go_sem,a9,repV,repC,repF,st0,adv0]) rfl ⟨by rw [HR.out],HB5.out.trans (t4 _ (Nat.le_succ _))⟩
   | some x9 =>
     have e9:xo=x9:=by rw [HXO.out,hf];rfl
     subst e9;have CA:=jH (CA0.out xo hf);have HR:=jH (show r=⟨0,xe,0,statW xo.nd.smp tick val,adv0⟩ from HRR.out.trans (by rw [hf]));rw [hf] at q;simp only [Option.isSome_some] at q
     clear hf
     go_upto_region 8 with fail
     refine name_world ?_;intro W5 hW5;have hb45:jB W4 W5:=by rw [hW5];exact balloc jR _
     obtain ⟨HB5,HX05,HX95⟩:=keepHF hb45 HB4 HX04 HX94;have HU5:=jH (jK hb45 HU4.out);have HZ5:=jH (show W5.heap[W4.heap.size]?=some (.cells #[.slice xo.sA xo.nd.smp.length xo.sc,.slice xo.pA xo.nd.past.length xo.pc,.int .i64 xo.nd.pol.mn,.int .i64 xo.nd.pol.mx,.int .i64 xo.nd.pol.tg,.int .i64 xo.nd.pol.tol,.int .i64 xo.nd.pol.win,.int .i64 xo.nd.pol.hold,.bool xo.nd.ruled] 50 (0,0)) by rw [hW5];exact heap_alloc_new _ _)
     clear hW5 hb45 b1 b2 b3 u1 u2 u3 y1 y2 y3 q;have rk0:∀U,jB W5 U→∀j,U.cell? ⟨w.heap.size,j,none⟩=_:=fun U hU=>(box_cells hU HX05.out).1
     have rk1:∀U,jB W5 U→U.cell? ⟨w2.heap.size,0,none⟩=some (.int .i64 xe):=fun U hU=>(box_cells hU HU5.out).1 0
     have rk2:∀U,jB W5 U→U.cell? ⟨W4.heap.size,0,none⟩=some (.slice xo.sA xo.nd.smp.length xo.sc):=fun U hU=>(box_cells hU HZ5.out).1 0
     have hS0:jB W5 W5.drew:=jR.drew;generalize statW xo.nd.smp tick val=st9 at CA HR;unfold stV at CA;refine wp_region_E (S:=(fun U=>jB W5 U)) 10 (by kernel_rfl) ?hS1 (fun hHeld=>?_)
     case hS1=>(first|exact hS0|exact HD6.out)
     refine wpAnyE_take (i:=0) (v:=?v2) rfl (by kernel_rfl) (by kernel_rfl) (by kernel_rfl) (by kernel_rfl) (fun _ _ _ h=>h) (Or.inl ⟨by rfl,?hy2⟩) (by assumption) ?_
     case hy2 =>
      intro w' hSw
      (try dsimp only at hSw)
      go_simp
      try (with_reducible rfl)
     try simp only [Act.put,jA]
     refine wpAnyE_take (i:=1) (v:=?v3) rfl (by kernel_rfl) (by kernel_rfl) (by kernel_rfl) (by kernel_rfl) (fun _ _ _ h=>h) (Or.inl ⟨by rfl,?hy3⟩) (by assumption) ?_
     case hy3 =>
      intro w' hSw
      (try dsimp only at hSw)
      go_simp
      try (with_reducible rfl)
     try simp only [Act.put,jA]
     refine wpAnyE_take (i:=2) (v:=?v4) rfl (by kernel_rfl) (by kernel_rfl) (by kernel_rfl) (by kernel_rfl) (fun _ _ _ h=>h) (Or.inl ⟨by rfl,?hy4⟩) (by assumption) ?_
     case hy4 =>
      intro w' hSw
      (try dsimp only at hSw)
      go_simp
      try (with_reducible rfl)
     try simp only [Act.put,jA]
     refine wpAnyE_take (i:=3) (v:=?v5) rfl (by kernel_rfl) (by kernel_rfl) (by kernel_rfl) (by kernel_rfl) (fun _ _ _ h=>h) (Or.inl ⟨by rfl,?hy5⟩) (by assumption) ?_
     case hy5 =>
      intro w' hSw
      (try dsimp only at hSw)
      go_simp
      try (with_reducible rfl)
     try simp only [Act.put,jA]
     refine wpAnyE_take (i:=4) (v:=?v6) rfl (by kernel_rfl) (by kernel_rfl) (by kernel_rfl) (by kernel_rfl) (fun _ _ _ h=>h) (Or.inl ⟨by rfl,?hy6⟩) (by assumption) ?_
     case hy6 =>
      intro w' hSw
      (try dsimp only at hSw)
      go_simp
      try (with_reducible rfl)
     try simp only [Act.put,jA]
     refine wpAnyE_take (i:=5) (v:=?v7) rfl (by kernel_rfl) (by kernel_rfl) (by kernel_rfl) (by kernel_rfl) (fun _ _ _ h=>h) (Or.inl ⟨by rfl,?hy7⟩) (by assumption) ?_
     case hy7 =>
      intro w' hSw
      (try dsimp only at hSw)
      go_simp
      try (with_reducible rfl)
     try simp only [Act.put,jA]
     refine wpAnyE_take (i:=6) (v:=?v8) rfl (by kernel_rfl) (by kernel_rfl) (by kernel_rfl) (by kernel_rfl) (fun _ _ _ h=>h) (Or.inl ⟨by rfl,?hy8⟩) (by assumption) ?_
     case hy8 =>
      intro w' hSw
      (try dsimp only at hSw)
      go_simp
      try (with_reducible rfl)
     try simp only [Act.put,jA]
     refine wpAnyE_take (i:=7) (v:=?v9) rfl (by kernel_rfl) (by kernel_rfl) (by kernel_rfl) (by kernel_rfl) (fun _ _ _ h=>h) (Or.inl ⟨by rfl,?hy9⟩) (by assumption) ?_
     case hy9 =>
      intro w' hSw
      (try dsimp only at hSw)
      go_simp
      try (with_reducible rfl)
     try simp only [Act.put,jA]
     refine wpAnyE_one (i:=8) (by kernel_rfl) rfl (fun K hK=>?_);go_simp
     (go_at_call 123
      refine calls_named ?_;intro V hV;have hd:jB W5 V:=by rw [hV];first|exact jR.drew|exact jR
      clear hV;refine (CA.out V (HB5.out.trans (hd.mono HB5.out.size))).mono ?_;rintro e w6 ⟨rfl,hb6⟩;have HD6:=jH (bthen hd hb6);have HX96:=jH (jK HD6.out HX95.out);obtain ⟨y1,y2,y3⟩:=box_cells jR HX96.out;clear hd hb6)
     try go_simp
     refine hK.out _ _ ?hS10 (fun hHeld2=>?_)
     case hS10 =>
      intro _
      (first|exact hS0|exact HD6.out)
     clear hK K hHeld;have hHeld:=hHeld2 (by kernel_rfl);clear hHeld2
     try simp only [Act.put,jA]
     refine wpAnyE_take (i:=9) (v:=?v11) rfl (by kernel_rfl) (by kernel_rfl) (by kernel_rfl) (by kernel_rfl) (fun _ _ _ h=>h) (Or.inl ⟨by rfl,?hy11⟩) (by assumption) ?_
     case hy11 =>
      intro w' hSw
      (try dsimp only at hSw)
      go_simp
      try (with_reducible rfl)
     try simp only [Act.put,jA]
     refine wpAnyE_one (i:=10) (by kernel_rfl) rfl (fun K hK=>?_);go_simp
     skip
     try go_simp
     refine hK.out _ _ ?hS12 (fun hHeld2=>?_)
     case hS12=>exact fun h=>nomatch (show (true:Bool)=false from h)
     clear hK K hHeld hHeld2
     try simp only [Act.put,jA]
     refine wpAnyE_done (by kernel_rfl) ?_ _;refine then_named ?_;intro W7 hW7;have hW7':W7=stor w6 (w.heap.size+1) 0 (repC ⟨0,xe,0,st9,adv0⟩):=hW7;obtain ⟨t1,t2,t3,t4⟩:=stor_at HX96.out (repC ⟨0,xe,0,st9,adv0⟩) rfl W7 hW7';obtain ⟨a9,a8,a7⟩:=box_cells jR t1;clear hW7 hW7' rk0 rk1 rk2 hS0;go_wp2_with fail
     exact bodyPost_ret (v:=repV ⟨0,xe,0,st9,adv0⟩) (by simp [results,Tryz.results83,go_sem,a9,repV,repC,adv0]) rfl ⟨by rw [HR.out],(bthen HB5.out HD6.out).trans (t4 _ (Nat.le_succ _))⟩
theorem flLook_any {P:Nat→Prop} {w:World} {M:Nat} {c:Cfg} {rs rh n:Nat} {wd:Wd} {d:FlatD} (kind tick val handle:Int) (s:SK) (p:Pol) (h:FW P w M c rs rh n wd d) (hn:n≤100000) (hc:CfgOk c rs rh) (hs:idS s.1=true) (hti:I64 tick∧I64 val) :
 Calls Tryz.prog 83 #[.pointer (some ⟨M,0,none⟩),callV ⟨kind,s.1,tick,val,handle,p⟩] w (jP w (repV (lookW wd ⟨kind,s.1,tick,val,handle,p⟩))):=by
 by_cases he:findT (tabW wd) handle=0
 · exact flLook_ok kind tick val handle s p h hn hc hs hti he
 · have h1:=flLook_bad kind tick val handle s p h hn he
   unfold lookW;rw [if_pos he];exact h1
end
end Go.Proofs.YtkcdhaallnhhmaaGreat
