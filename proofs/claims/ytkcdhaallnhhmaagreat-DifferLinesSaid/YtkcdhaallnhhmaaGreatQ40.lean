/- Part 40 of the proof: FlLk, FlFr. -/
import Derived.Test.YtkcdhaallnhhmaaGreatQ38
namespace Go.Proofs.YtkcdhaallnhhmaaGreat
set_option linter.unusedSimpArgs false
set_option linter.unusedVariables false
set_option linter.unusedSectionVars false
set_option maxRecDepth 100000
set_option maxHeartbeats 16000000
section
open Go.RowKit Go.Lib
theorem findT_ok {wd:Wd} {k:Int} (h:findT (tabW wd) k=0):∃(j:Nat) (q:CutD),k=((j+1:Nat):Int)∧wd.cuts[j]?=some q∧q.freed=false:=by
 have htl:(tabW wd).length=wd.cuts.length:=by simp [tabW]
 unfold findT at h
 split at h
 · cases h
 · rename_i hk
   rw [htl] at hk;have hj:k.toNat - 1<wd.cuts.length:=by omega
   have he:(tabW wd)[k.toNat - 1]?=some (if wd.cuts[k.toNat - 1].freed=true then -1 else wd.cuts[k.toNat - 1].ep):=by
    unfold tabW;rw [List.getElem?_map,List.getElem?_eq_getElem hj];rfl
   rw [he] at h;refine ⟨k.toNat - 1,wd.cuts[k.toNat - 1],by omega,List.getElem?_eq_getElem hj,?_⟩
   cases hf:wd.cuts[k.toNat - 1].freed with
   | false=>rfl
   | true=>rw [hf] at h;cases h
theorem flLook_bad {P:Nat→Prop} {w:World} {M:Nat} {c:Cfg} {rs rh n:Nat} {wd:Wd} {d:FlatD} (kind tick val handle:Int) (s:SK) (p:Pol) (h:FW P w M c rs rh n wd d) (hn:n≤100000) (he:findT (tabW wd) handle≠0) :
 Calls Tryz.prog 83 #[.pointer (some ⟨M,0,none⟩),callV ⟨kind,s.1,tick,val,handle,p⟩] w (jP w (repV (repF (findT (tabW wd) handle)))):=by
 have hcl:wd.cuts.length≤900000:=by have:=h.ok.cuts;omega
 have CK:=jH (fun W (hW:jB w W)=>flFind_any handle W (h.at_.below hW) hcl (fun q hq=>(h.ok.cep q hq).1));have z0:(findT (tabW wd) handle == 0)=false:=by simpa using he
 have z1:(findT (tabW wd) handle != 0)=true:=by simpa using he
 generalize findT (tabW wd) handle=er at *;obtain ⟨p0,p1,p2,p3,p4,p5⟩:=p;unfold callV;dsimp only;clear h hn hcl he
 go_enter Tryz.func83,Tryz.ntmps83
 go_wp2_with (first
  | (go_at_call 122
     refine calls_named ?_;intro W1 hW1;obtain ⟨HB2,HX02,HX9⟩:=boxesF w _ _ W1 hW1;clear hW1;refine (CK.out W1 HB2.out).mono ?_;rintro e w2 ⟨rfl,rfl⟩;obtain ⟨b1,b2,b3⟩:=box_cells jR HX02.out;obtain ⟨y1,y2,y3⟩:=box_cells jR HX9.out))
 refine post_named ?_;intro W9 hW9;have hW9':W9=stor w2 (w.heap.size+1) 0 (repC (repF er)):=hW9;obtain ⟨t1,t2,t3,t4⟩:=stor_at HX9.out (repC (repF er)) rfl W9 hW9';obtain ⟨a9,a8,a7⟩:=box_cells jR t1;clear hW9 hW9';exact bodyPost_ret (v:=repV (repF er)) (by simp [results,Tryz.results83,go_sem,a9,repV,repC,repF,st0,adv0]) rfl ⟨rfl,HB2.out.trans (t4 _ (Nat.le_succ _))⟩
theorem flLook_ok {P:Nat→Prop} {w:World} {M:Nat} {c:Cfg} {rs rh n:Nat} {wd:Wd} {d:FlatD} (kind tick val handle:Int) (s:SK) (p:Pol) (h:FW P w M c rs rh n wd d) (hn:n≤100000) (hc:CfgOk c rs rh) (hs:idS s.1=true) (hti:I64 tick∧I64 val) (he:findT (tabW wd) handle=0) :
 Calls Tryz.prog 83 #[.pointer (some ⟨M,0,none⟩),callV ⟨kind,s.1,tick,val,handle,p⟩] w (jP w (repV (lookW wd ⟨kind,s.1,tick,val,handle,p⟩))):=by
 have hcl:wd.cuts.length≤900000:=by have:=h.ok.cuts;omega
 have CK:=jH (fun W (hW:jB w W)=>flFind_any handle W (h.at_.below hW) hcl (fun q hq=>(h.ok.cep q hq).1));rw [he] at CK;obtain ⟨j,q,rfl,hq,hqf⟩:=findT_ok he;have hj:j<d.cuts.length:=by rw [h.at_.len];exact (List.getElem?_eq_some_iff.1 hq).1
 have hcut:=h.at_.cut j _ q (List.getElem?_eq_getElem hj) hq;obtain ⟨hep,l,hml,hPl,hmap,hrows,hhas⟩:=hcut.2 hqf;obtain ⟨r,hr⟩:∃r,r=lookW wd ⟨kind,s.1,tick,val,((j+1:Nat):Int),p⟩:=⟨_,rfl⟩;rw [←hr];have hrr:r=match findM d.cuts[j].es s with|none=>repF 5|some xo=>⟨0,d.cuts[j].ep,0,statW xo.nd.smp tick val,adv0⟩:=by
  rw [hr];unfold lookW;rw [if_neg (by rw [he];simp)]
  show (match wd.cuts[((j+1:Nat):Int).toNat - 1]? with|none=>repF 5|some c=>match findIt c.items (keyK s.1) with|none=>repF 5|some y=>⟨0,c.ep,0,statW y.smp tick val,adv0⟩)=_
  rw [show ((j+1:Nat):Int).toNat - 1=j by omega,hq];have h1:=hhas.2 s hs
  cases hf:findM d.cuts[j].es s with
  | none =>
    rw [hf] at h1;simp only at h1 ⊢
    rw [h1]
  | some xo =>
    rw [hf] at h1;obtain ⟨y,hy,hxy⟩:=h1;simp only
    rw [hy,hep];simp only [hxy.1]
 have hlk:=fun (W:World) (hW:jB w W)=>fl_look hmap s true (hW.block l hmap.lt)
 have hsz:∀xo,findM d.cuts[j].es s=some xo→xo.nd.smp.length≤1000000∧smpI xo.nd.smp:=fun xo hf=>by
  have h1:=hhas.2 s hs;rw [hf] at h1;obtain ⟨y,hy,hxy⟩:=h1;have h2:=(h.ok.cit q (List.mem_of_getElem? hq)).2 _ (findIt_mem hy);have h3:=h2.nd.len;have h4:=hc.room.r2;rw [hxy.1];exact ⟨by show y.smp.length≤1000000;have:y.smp.length≤rs:=h3;omega,h2.smp⟩
 have CA0:=jH (fun xo (hf:findM d.cuts[j].es s=some xo) (W:World) (hW:jB w W)=>winAt_any (.slice xo.sA xo.nd.smp.length xo.sc) xo.nd.smp tick val W ((hrows _ (find_mem hf)).1.1.below hW) (hsz xo hf).1 (hsz xo hf).2 hti.1 hti.2);obtain ⟨b,o,hA,hb,hcc⟩:=h.at_.row.1.at_ hj;have c0:∀U,jB w U→U.cell? ⟨b,o+j * 3,none⟩=some (.int .i64 d.cuts[j].ep):=fun U hU=>(hU.cell (p:=⟨b,_,none⟩) hb).trans (hcc 0 _ rfl)
 have c1:∀U,jB w U→U.cell? ⟨b,o+j * 3+1,none⟩=some (.map (some l)):=fun U hU=>((hU.cell (p:=⟨b,_,none⟩) hb).trans (hcc 1 _ rfl)).trans (by rw [hml])
 have c2:∀U,jB w U→U.cell? ⟨b,o+j * 3+2,none⟩=some (.bool d.cuts[j].fr):=fun U hU=>(hU.cell (p:=⟨b,_,none⟩) hb).trans (hcc 2 _ rfl)
 have HC0:=jH c0;have HC1:=jH c1;have HC2:=jH c2;have hcell:=h.at_.cell;rw [hA] at hcell;obtain ⟨cl,hcln⟩:∃n,n=d.cuts.length:=⟨_,rfl⟩;rw [←hcln] at hcell;have HC:=jH hcell;have hjm:j≤900000:=by have:=h.at_.len;omega
 have z3:(0:Int)≤(j:Int):=by omega
 have z4:(j:Int)<(cl:Int):=by omega
 have z5:((j:Int)+1) - 1=(j:Int):=by omega
 have z6:wrap64 (j:Int)=(j:Int):=by unfold wrap64;omega
 have HBO:=jH hb;have hr2:=hrr;obtain ⟨x,hx⟩:∃x,x=d.cuts[j]:=⟨_,rfl⟩;rw [←hx] at CA0 HC0 HC2 hr2 hlk;obtain ⟨xe,xm,xes,xf⟩:=x;dsimp only at CA0 HC0 HC2 hr2 hlk;have HRR:=jH hr2;have hjn:((j+1:Nat):Int)=(j:Int)+1:=by omega
 rw [hjn] at CK ⊢;obtain ⟨p0,p1,p2,p3,p4,p5⟩:=p;obtain ⟨xo,hxo⟩:∃x,x=(findM xes s).getD it00:=⟨_,rfl⟩;rw [←hxo,←isSome_has] at hlk;unfold ldV ldC at hlk;simp only [↓reduceIte] at hlk
 have HLK:=jH hlk;have HXO:=jH hxo;unfold callV;dsimp only;clear h hn hc hs hcl hti he hq hqf hcut hep hml hPl hmap hrows hhas hr hrr hlk hsz hA hb hcc c0 c1 c2 hcell hcln hjm hr2 hx hxo hj hjn
 go_enter Tryz.func83,Tryz.ntmps83
 go_upto_region 4 with (first
  | (go_at_call 122
     refine calls_named ?_;intro W1 hW1;obtain ⟨HB2,HX02,HX9⟩:=boxesF w _ _ W1 hW1;clear hW1;refine (CK.out W1 HB2.out).mono ?_;rintro e w2 ⟨rfl,rfl⟩;obtain ⟨b1,b2,b3⟩:=box_cells jR HX02.out;obtain ⟨y1,y2,y3⟩:=box_cells jR HX9.out))
 clear b1 b2 b3 y1 y2 y3;obtain ⟨b1,b2,b3⟩:=box_cells jR HX02.out;obtain ⟨m1,m2,m3⟩:=box_cells HB2.out HC.out;have q0:=HC0.out w2 HB2.out;have q1:=HC1.out w2 HB2.out;have q2:=HC2.out w2 HB2.out;have q3:b<w2.heap.size:=Nat.lt_of_lt_of_le HBO.out HB2.out.size
 go_region
 all_goals
   refine then_named ?_;intro W4 hW4;have hb24:jB w2 W4:=by rw [hW4];exact (balloc jR _).drew
   obtain ⟨HB4,HX04,HX94⟩:=keepHF hb24 HB2 HX02 HX9;have HU4:=jH (show W4.heap[w2.heap.size]?=some (.cells #[.int .i64 xe,.map (some l),.bool xf] 108 (0,0)) by rw [hW4];exact heap_alloc_new _ _);clear hW4 hb24 b1 b2 b3 m1 m2 m3 q0 q1 q2 q3;obtain ⟨b1,b2,b3⟩:=box_cells jR HX04.out;obtain ⟨u1,u2,u3⟩:=box_cells jR HU4.out;obtain ⟨y1,y2,y3⟩:=box_cells jR HX94.out;have q:=HLK.out W4 HB4.out
   cases hf:findM xes s with
   | none =>
     have HR:=jH (HRR.out.trans (by rw [hf]));rw [hf] at q;simp only [Option.isSome_none] at q
     clear hf
     go_upto_region 7 with fail
     refine name_world ?_;intro W5 hW5;have hb45:jB W4 W5:=by rw [hW5];exact balloc jR _
     obtain ⟨HB5,HX05,HX95⟩:=keepHF hb45 HB4 HX04 HX94;clear hW5 hb45 b1 b2 b3 u1 u2 u3 y1 y2 y3 q;obtain ⟨y1,y2,y3⟩:=box_cells jR HX95.out;go_wp2_with fail
     refine post_named ?_;intro W9 hW9;have hW9':W9=stor W5 (w.heap.size+1) 0 (repC (repF 5)):=hW9;obtain ⟨t1,t2,t3,t4⟩:=stor_at HX95.out (repC (repF 5)) rfl W9 hW9';obtain ⟨a9,a8,a7⟩:=box_cells jR t1;clear hW9 hW9';exact bodyPost_ret (v:=repV (repF 5)) (by simp [results,Tryz.results83,go_sem,a9,repV,repC,repF,st0,adv0]) rfl ⟨by rw [HR.out],HB5.out.trans (t4 _ (Nat.le_succ _))⟩
   | some x9 =>
     have e9:xo=x9:=by rw [HXO.out,hf];rfl
     subst e9;have CA:=jH (CA0.out xo hf);have HR:=jH (show r=⟨0,xe,0,statW xo.nd.smp tick val,adv0⟩ from HRR.out.trans (by rw [hf]));rw [hf] at q;simp only [Option.isSome_some] at q
     clear hf
     go_upto_region 8 with fail
     refine name_world ?_;intro W5 hW5;have hb45:jB W4 W5:=by rw [hW5];exact balloc jR _
     obtain ⟨HB5,HX05,HX95⟩:=keepHF hb45 HB4 HX04 HX94;have HU5:=jH (jK hb45 HU4.out);have HZ5:=jH (show W5.heap[W4.heap.size]?=some (.cells #[.slice xo.sA xo.nd.smp.length xo.sc,.slice xo.pA xo.nd.past.length xo.pc,.int .i64 xo.nd.pol.mn,.int .i64 xo.nd.pol.mx,.int .i64 xo.nd.pol.tg,.int .i64 xo.nd.pol.tol,.int .i64 xo.nd.pol.win,.int .i64 xo.nd.pol.hold,.bool xo.nd.ruled] 50 (0,0)) by rw [hW5];exact heap_alloc_new _ _)
     clear hW5 hb45 b1 b2 b3 u1 u2 u3 y1 y2 y3 q;have rk0:∀U,jB W5 U→∀j,U.cell? ⟨w.heap.size,j,none⟩=_:=fun U hU=>(box_cells hU HX05.out).1
     have rk1:∀U,jB W5 U→U.cell? ⟨w2.heap.size,0,none⟩=some (.int .i64 xe):=fun U hU=>(box_cells hU HU5.out).1 0
     have rk2:∀U,jB W5 U→U.cell? ⟨W4.heap.size,0,none⟩=some (.slice xo.sA xo.nd.smp.length xo.sc):=fun U hU=>(box_cells hU HZ5.out).1 0
     have hS0:jB W5 W5.drew:=jR.drew;generalize statW xo.nd.smp tick val=st9 at CA HR;unfold stV at CA;refine wp_region_E (S:=(fun U=>jB W5 U)) 10 (by kernel_rfl) ?hS1 (fun hHeld=>?_)
     case hS1=>(first|exact hS0|exact HD6.out)
     refine wpAnyE_take (i:=0) (v:=?v2) rfl (by kernel_rfl) (by kernel_rfl) (by kernel_rfl) (by kernel_rfl) (fun _ _ _ h=>h) (Or.inl ⟨by rfl,?hy2⟩) (by assumption) ?_
     case hy2 =>
      intro w' hSw
      (try dsimp only at hSw)
      go_simp
      try (with_reducible rfl)
     try simp only [Act.put,jA]
     refine wpAnyE_take (i:=1) (v:=?v3) rfl (by kernel_rfl) (by kernel_rfl) (by kernel_rfl) (by kernel_rfl) (fun _ _ _ h=>h) (Or.inl ⟨by rfl,?hy3⟩) (by assumption) ?_
     case hy3 =>
      intro w' hSw
      (try dsimp only at hSw)
      go_simp
      try (with_reducible rfl)
     try simp only [Act.put,jA]
     refine wpAnyE_take (i:=2) (v:=?v4) rfl (by kernel_rfl) (by kernel_rfl) (by kernel_rfl) (by kernel_rfl) (fun _ _ _ h=>h) (Or.inl ⟨by rfl,?hy4⟩) (by assumption) ?_
     case hy4 =>
      intro w' hSw
      (try dsimp only at hSw)
      go_simp
      try (with_reducible rfl)
     try simp only [Act.put,jA]
     refine wpAnyE_take (i:=3) (v:=?v5) rfl (by kernel_rfl) (by kernel_rfl) (by kernel_rfl) (by kernel_rfl) (fun _ _ _ h=>h) (Or.inl ⟨by rfl,?hy5⟩) (by assumption) ?_
     case hy5 =>
      intro w' hSw
      (try dsimp only at hSw)
      go_simp
      try (with_reducible rfl)
     try simp only [Act.put,jA]
     refine wpAnyE_take (i:=4) (v:=?v6) rfl (by kernel_rfl) (by kernel_rfl) (by kernel_rfl) (by kernel_rfl) (fun _ _ _ h=>h) (Or.inl ⟨by rfl,?hy6⟩) (by assumption) ?_
     case hy6 =>
      intro w' hSw
      (try dsimp only at hSw)
      go_simp
      try (with_reducible rfl)
     try simp only [Act.put,jA]
     refine wpAnyE_take (i:=5) (v:=?v7) rfl (by kernel_rfl) (by kernel_rfl) (by kernel_rfl) (by kernel_rfl) (fun _ _ _ h=>h) (Or.inl ⟨by rfl,?hy7⟩) (by assumption) ?_
     case hy7 =>
      intro w' hSw
      (try dsimp only at hSw)
      go_simp
      try (with_reducible rfl)
     try simp only [Act.put,jA]
     refine wpAnyE_take (i:=6) (v:=?v8) rfl (by kernel_rfl) (by kernel_rfl) (by kernel_rfl) (by kernel_rfl) (fun _ _ _ h=>h) (Or.inl ⟨by rfl,?hy8⟩) (by assumption) ?_
     case hy8 =>
      intro w' hSw
      (try dsimp only at hSw)
      go_simp
      try (with_reducible rfl)
     try simp only [Act.put,jA]
     refine wpAnyE_take (i:=7) (v:=?v9) rfl (by kernel_rfl) (by kernel_rfl) (by kernel_rfl) (by kernel_rfl) (fun _ _ _ h=>h) (Or.inl ⟨by rfl,?hy9⟩) (by assumption) ?_
     case hy9 =>
      intro w' hSw
      (try dsimp only at hSw)
      go_simp
      try (with_reducible rfl)
     try simp only [Act.put,jA]
     refine wpAnyE_one (i:=8) (by kernel_rfl) rfl (fun K hK=>?_);go_simp
     (go_at_call 123
      refine calls_named ?_;intro V hV;have hd:jB W5 V:=by rw [hV];first|exact jR.drew|exact jR
      clear hV;refine (CA.out V (HB5.out.trans (hd.mono HB5.out.size))).mono ?_;rintro e w6 ⟨rfl,hb6⟩;have HD6:=jH (bthen hd hb6);have HX96:=jH (jK HD6.out HX95.out);obtain ⟨y1,y2,y3⟩:=box_cells jR HX96.out;clear hd hb6)
     try go_simp
     refine hK.out _ _ ?hS10 (fun hHeld2=>?_)
     case hS10 =>
      intro _
      (first|exact hS0|exact HD6.out)
     clear hK K hHeld;have hHeld:=hHeld2 (by kernel_rfl);clear hHeld2
     try simp only [Act.put,jA]
     refine wpAnyE_take (i:=9) (v:=?v11) rfl (by kernel_rfl) (by kernel_rfl) (by kernel_rfl) (by kernel_rfl) (fun _ _ _ h=>h) (Or.inl ⟨by rfl,?hy11⟩) (by assumption) ?_
     case hy11 =>
      intro w' hSw
      (try dsimp only at hSw)
      go_simp
      try (with_reducible rfl)
     try simp only [Act.put,jA]
     refine wpAnyE_one (i:=10) (by kernel_rfl) rfl (fun K hK=>?_);go_simp
     skip
     try go_simp
     refine hK.out _ _ ?hS12 (fun hHeld2=>?_)
     case hS12=>exact fun h=>nomatch (show (true:Bool)=false from h)
     clear hK K hHeld hHeld2
     try simp only [Act.put,jA]
     refine wpAnyE_done (by kernel_rfl) ?_ _;refine then_named ?_;intro W7 hW7;have hW7':W7=stor w6 (w.heap.size+1) 0 (repC ⟨0,xe,0,st9,adv0⟩):=hW7;obtain ⟨t1,t2,t3,t4⟩:=stor_at HX96.out (repC ⟨0,xe,0,st9,adv0⟩) rfl W7 hW7';obtain ⟨a9,a8,a7⟩:=box_cells jR t1;clear hW7 hW7' rk0 rk1 rk2 hS0;go_wp2_with fail
     exact bodyPost_ret (v:=repV ⟨0,xe,0,st9,adv0⟩) (by simp [results,Tryz.results83,go_sem,a9,repV,repC,adv0]) rfl ⟨by rw [HR.out],(bthen HB5.out HD6.out).trans (t4 _ (Nat.le_succ _))⟩
theorem flLook_any {P:Nat→Prop} {w:World} {M:Nat} {c:Cfg} {rs rh n:Nat} {wd:Wd} {d:FlatD} (kind tick val handle:Int) (s:SK) (p:Pol) (h:FW P w M c rs rh n wd d) (hn:n≤100000) (hc:CfgOk c rs rh) (hs:idS s.1=true) (hti:I64 tick∧I64 val) :
 Calls Tryz.prog 83 #[.pointer (some ⟨M,0,none⟩),callV ⟨kind,s.1,tick,val,handle,p⟩] w (jP w (repV (lookW wd ⟨kind,s.1,tick,val,handle,p⟩))):=by
 by_cases he:findT (tabW wd) handle=0
 · exact flLook_ok kind tick val handle s p h hn hc hs hti he
 · have h1:=flLook_bad kind tick val handle s p h hn he
   unfold lookW;rw [if_pos he];exact h1
end
section
open Go.RowKit Go.Lib
def fc0:FCut:=⟨0,none,[],true⟩
theorem fcRow_set (l:List FCut) (x:FCut):∀p,p<l.length→cellsOfRow fcC (l.set p x)=(((cellsOfRow fcC l).set (p * 3) (.int .i64 x.ep)).set (p * 3+1) (.map x.m)).set (p * 3+2) (.bool x.fr):=by
 induction l with
 | nil=>intro p hp;simp at hp
 | cons a l ih =>
   intro p hp
   cases p with
   | zero=>rfl
   | succ p =>
     rw [List.set_cons_succ,cellsOfRow_cons,cellsOfRow_cons,ih p (by simpa using hp),show (p+1) * 3=p * 3+3 by omega];rfl
theorem own_setF {base:Nat} {w:World} {g c:Nat} {l:List FCut} (h:OwnL fcC 108 3 base w (.slice (some ⟨g,0,none⟩) l.length c) l) (p:Nat) (hp:p<l.length) (x:FCut) :
 OwnL fcC 108 3 base (((w.setCell ⟨g,p * 3,none⟩ (.int .i64 x.ep)).setCell ⟨g,p * 3+1,none⟩ (.map x.m)).setCell ⟨g,p * 3+2,none⟩ (.bool x.fr)) (.slice (some ⟨g,0,none⟩) l.length c) (l.set p x):=by
 obtain ⟨h1,g1⟩:=World.ownsRow.stored h (p * 3) (.int .i64 x.ep);obtain ⟨h2,g2⟩:=World.ownsRow.stored h1 (p * 3+1) (.map x.m);obtain ⟨h3,g3⟩:=World.ownsRow.stored h2 (p * 3+2) (.bool x.fr);unfold OwnL;rw [fcRow_set l x p hp,List.length_set];exact h3
theorem FlatAt.free {P:Nat→Prop} {w w8:World} {M:Nat} {c:Cfg} {rs rh n m:Nat} {wd:Wd} {d:FlatD} (h:FlatAt P w M c rs rh n wd d) (j:Nat) (hs:w.heap.size≤w8.heap.size) (hk:∀b,b≠M→b<w.heap.size→w8.heap[b]?=w.heap[b]?) {A:Option Addr} {cp:Nat}
    (hcell:w8.heap[M]?=some (.cells #[.int .i64 c.st,.int .i64 c.sa,.int .i64 c.lo,.int .i64 c.hi,.map (some d.L),.slice A (d.cuts.set j fc0).length cp,.int .i64 wd.ep,.bool wd.over] 97 (0,0)))
    (hrow:RowG P 3 fcC w8 (.slice A (d.cuts.set j fc0).length cp) (d.cuts.set j fc0)) :
    FlatAt P w8 M c rs rh m { wd with cuts:=wd.cuts.set j ⟨0,[],true⟩ } { d with A:=A,cp:=cp,cuts:=d.cuts.set j fc0 }:=by
  have hkP:∀b,P b→b<w.heap.size→w8.heap[b]?=w.heap[b]?∧P b:=fun b hP hlt=>⟨hk b (h.off b hP).1 hlt,hP⟩
  refine ⟨⟨hcell,h.map.block (hk d.L (fun e=>h.ne e.symm) h.map.lt),h.ne,h.off,fun p hp=>(h.rows p hp).keepG hs hkP,?_,hrow,fun i x q hx hq=>?_⟩,h.tells.same rfl⟩
  · show (d.cuts.set j fc0).length=(wd.cuts.set j _).length
    rw [List.length_set,List.length_set,h.len]
  · have hx:(d.cuts.set j fc0)[i]?=some x:=hx
    have hq:(wd.cuts.set j (⟨0,[],true⟩:CutD))[i]?=some q:=hq
    by_cases hi:j=i
    · subst hi
      rw [List.getElem?_set_self'] at hx hq;have e1:x=fc0:=by
       cases hd:d.cuts[j]? with
       | none=>rw [hd] at hx;cases hx
       | some y=>rw [hd] at hx;injection hx with hx;exact hx.symm
      have e2:q=⟨0,[],true⟩:=by
       cases hd:wd.cuts[j]? with
       | none=>rw [hd] at hq;cases hq
       | some y=>rw [hd] at hq;injection hq with hq;exact hq.symm
      subst e1;subst e2;exact ⟨rfl,fun hf=>by cases hf⟩
    · rw [List.getElem?_set_ne hi] at hx hq
      refine ⟨(h.cut i x q hx hq).1,fun hf=>?_⟩;obtain ⟨h1,l2,h2,h3,h4,h5,h6⟩:=(h.cut i x q hx hq).2 hf;exact ⟨h1,l2,h2,h3,h4.block (hkP l2 h3 h4.lt).1,fun p hp=>(h5 p hp).keepG hs hkP,h6⟩
theorem flFree_bad {P:Nat→Prop} {w:World} {M:Nat} {c:Cfg} {rs rh n:Nat} {wd:Wd} {d:FlatD} (k:Int) (h:FW P w M c rs rh n wd d) (hn:n≤100000) (he:findT (tabW wd) k≠0) :
 Calls Tryz.prog 82 #[.pointer (some ⟨M,0,none⟩),.int .i64 k] w (jP w (repV (repF (findT (tabW wd) k)))):=by
 have hcl:wd.cuts.length≤900000:=by have:=h.ok.cuts;omega
 have CK:=jH (fun W (hW:jB w W)=>flFind_any k W (h.at_.below hW) hcl (fun q hq=>(h.ok.cep q hq).1));have HC:=jH h.at_.cell;have z0:(findT (tabW wd) k == 0)=false:=by simpa using he
 have z1:(findT (tabW wd) k != 0)=true:=by simpa using he
 generalize findT (tabW wd) k=er at *;clear h hn hcl he
 go_enter Tryz.func82,Tryz.ntmps82
 go_wp2_with (first
  | (go_at_call 122
     refine calls_named ?_;intro W1 hW1;have HB2:=jH (show jB w W1 by rw [hW1];exact balloc jR _);have HX2:=jH (show W1.heap[w.heap.size]?=some (.cells #[.int .i64 0,.int .i64 0,.int .i64 0,.int .i64 0,.int .i64 0,.int .i64 0,.int .i64 0,.int .i64 0,.int .i64 0,.int .i64 0,.int .i64 0,.int .i64 0,.int .i64 0] 76 (0,0)) by rw [hW1];exact heap_alloc_new _ _);clear hW1;refine (CK.out W1 HB2.out).mono ?_
     rintro e w2 ⟨rfl,rfl⟩;obtain ⟨y1,y2,y3⟩:=box_cells jR HX2.out;obtain ⟨m1,m2,m3⟩:=box_cells HB2.out HC.out))
 refine post_named ?_;intro W9 hW9;have hW9':W9=stor w2 w.heap.size 0 (repC (repF er)):=hW9;obtain ⟨t1,t2,t3,t4⟩:=stor_at HX2.out (repC (repF er)) rfl W9 hW9';obtain ⟨a9,a8,a7⟩:=box_cells jR t1;clear hW9 hW9';exact bodyPost_ret (v:=repV (repF er)) (by simp [results,Tryz.results82,go_sem,a9,repV,repC,repF,st0,adv0]) rfl ⟨rfl,HB2.out.trans (t4 _ (Nat.le_refl _))⟩
theorem flFree_ok {P:Nat→Prop} {w:World} {M:Nat} {c:Cfg} {rs rh n:Nat} {wd:Wd} {d:FlatD} (k:Int) (h:FW P w M c rs rh n wd d) (hP:∀b,w.heap.size≤b→P b) (hc:CfgOk c rs rh) (hn:n≤100000) (j:Nat) (hkj:k=((j+1:Nat):Int)) (hjl:j<wd.cuts.length) (he:findT (tabW wd) k=0) :
 Calls Tryz.prog 82 #[.pointer (some ⟨M,0,none⟩),.int .i64 k] w (FWSays P w M c rs rh (n+1) d.L (repV (repF 0)) { wd with cuts:=wd.cuts.set j ⟨0,[],true⟩ }):=by
 have hcl:wd.cuts.length≤100000:=by have:=h.ok.cuts;omega
 have CK:=jH (fun W (hW:jB w W)=>flFind_any k W (h.at_.below hW) (by omega) (fun q hq=>(h.ok.cep q hq).1));rw [he] at CK;have HC:=jH h.at_.cell;have hav:=h.avoidX (X:=w.heap.size) (Nat.le_refl _) jR;have hwd:WdOk c rs rh (n+1) { wd with cuts:=wd.cuts.set j ⟨0,[],true⟩ }:=by
  have h9:=freeW_ok (k:=k) h.ok;unfold freeW at h9;rw [if_neg (by rw [he];simp),hkj,show ((j+1:Nat):Int).toNat - 1=j by omega] at h9;exact h9
 have HFIN:=jH (show ∀(W8 W9:World) (A:Option Addr) (cp:Nat),w.heap.size≤W8.heap.size→(∀b,b≠M→b<w.heap.size→W8.heap[b]?=w.heap[b]?) →
     W8.heap[M]?=some (.cells #[.int .i64 c.st,.int .i64 c.sa,.int .i64 c.lo,.int .i64 c.hi,.map (some d.L),.slice A (d.cuts.set j fc0).length cp,.int .i64 wd.ep,.bool wd.over] 97 (0,0)) →
     RowG (fun b=>w.heap.size<b) 3 fcC W8 (.slice A (d.cuts.set j fc0).length cp) (d.cuts.set j fc0)→W8.os=w.os→W8.tape=w.tape→W8.output=w.output →
     (∀k,k≠w.heap.size→W9.heap[k]?=W8.heap[k]?)→W9.heap.size=W8.heap.size→(∀n,n≤w.heap.size→Below n W8 W9) →
     FWSays P w M c rs rh (n+1) d.L (repV (repF 0)) { wd with cuts:=wd.cuts.set j ⟨0,[],true⟩ } (.returned (repV (repF 0))) W9 from fun W8 W9 A cp hs hk hcell hrow ho1 ho2 ho3 h4 h5 h6=>by
   have h1:=hav.at_.free (m:=n+1) j hs hk hcell (hrow.imp (fun b hb=>⟨hP b (by omega),by omega⟩));have h2:Upd w W8 [M,d.L] [M,d.L]:=⟨ho1,ho2,ho3,hs,fun k hlt hn=>hk k (fun e=>hn (by rw [e];simp)) hlt,fun k hk=>.inl hk⟩;have h3:=FW.fin (d:={ d with A:=A,cp:=cp,cuts:=d.cuts.set j fc0 }) ⟨h1,hwd⟩ h.at_.off h2 (Nat.le_refl _) h.at_.lt h.at_.map.lt h4 h5 h6;exact ⟨_,rfl,h3.1,rfl,h3.2⟩)
 have HLT:=jH h.at_.lt;have CC:=jH (fun W (hW:jB w W)=>cloneF_any (.slice d.A d.cuts.length d.cp) d.cuts W (h.at_.row.1.below hW) (by have:=h.at_.len;omega));have hjd:j<d.cuts.length:=by rw [h.at_.len];exact hjl
 have hcd:d.cuts.length≤100000:=by rw [h.at_.len];exact hcl
 obtain ⟨cuts,hcu⟩:∃l,l=d.cuts:=⟨_,rfl⟩;obtain ⟨A,hA⟩:∃l,l=d.A:=⟨_,rfl⟩;obtain ⟨cp,hcp⟩:∃l,l=d.cp:=⟨_,rfl⟩;rw [←hcu] at HFIN CC HC hjd hcd;rw [←hA,←hcp] at CC HC;obtain ⟨cl,hcln⟩:∃n,n=cuts.length:=⟨_,rfl⟩;have HCL:=jH hcln;have z3:(0:Int)≤(j:Int):=by omega
 have z4:(j:Int)<(cuts.length:Int):=by omega
 have z5:((j:Int)+1) - 1=(j:Int):=by omega
 have z6:wrap64 (j:Int)=(j:Int):=by unfold wrap64;omega
 have hjn:k=(j:Int)+1:=by omega
 have HJD:=jH hjd;rw [hjn] at CK ⊢;clear h hP hc hn he hkj hjl hcl hav hwd hcu hA hcp hcln hjn hjd hcd
 go_enter Tryz.func82,Tryz.ntmps82
 go_upto_region 4 with (first
  | (go_at_call 122
     refine calls_named ?_;intro W1 hW1;have HB2:=jH (show jB w W1 by rw [hW1];exact balloc jR _);have HX2:=jH (show W1.heap[w.heap.size]?=some (.cells #[.int .i64 0,.int .i64 0,.int .i64 0,.int .i64 0,.int .i64 0,.int .i64 0,.int .i64 0,.int .i64 0,.int .i64 0,.int .i64 0,.int .i64 0,.int .i64 0,.int .i64 0] 76 (0,0)) by rw [hW1];exact heap_alloc_new _ _);clear hW1;refine (CK.out W1 HB2.out).mono ?_
     rintro e w2 ⟨rfl,rfl⟩;obtain ⟨y1,y2,y3⟩:=box_cells jR HX2.out;obtain ⟨m1,m2,m3⟩:=box_cells HB2.out HC.out)
  | (go_at_call 50
     refine (CC.out w2 HB2.out).mono ?_;rintro e w3 ⟨A9,c9,fp9,rfl,hq9,hf9,hb9⟩;have HQ3:=jH (own_srow (base:=w2.heap.size) hq9 hf9);have HM3:=jH ((hb9.block _ (Nat.lt_of_lt_of_le HLT.out HB2.out.size)).trans ((HB2.out.block M HLT.out).trans HC.out));have HX3:=jH (jK hb9 HX2.out);have HB3:=jH (bthen HB2.out hb9);have HRS:=jH (show w.heap.size<w2.heap.size from (jL HX2.out));clear hq9 hf9 hb9 y1 y2 y3 m1 m2 m3
     obtain ⟨m1,m2,m3⟩:=box_cells jR HM3.out))
 refine name_world ?_;intro W4 hW4;have hjd:=HJD.out
 rcases HQ3.out.2 with ⟨_,h0⟩|⟨g,cap,cur,hv,hbg,hg,_,_,_,_⟩
 · omega
 injection hv with hA9 _ hc9
 subst hA9;subst hc9;have hgM:g≠M:=by have:=HLT.out;have:=HB2.out.size;omega
 have hgX:g≠w.heap.size:=by have:=HRS.out;omega
 have hXM:w.heap.size≠M:=by have:=HLT.out;omega
 have HG4:=jH (show W4.heap[g]?=some (.cells cur 108 (0,0)) by rw [hW4];exact heap_set_ne hg hgM);have HO4:=jH (show OwnL fcC 108 3 w2.heap.size W4 (.slice (some ⟨g,0,none⟩) cuts.length c9) cuts from HQ3.out.kept (fun r hr=>by rw [hW4];exact heap_set_ne rfl (by have hr2:g=r:=(by simpa [Value.ownBlock] using hr);omega)));have HM4:=jH (show W4.heap[M]?=some (.cells #[.int .i64 c.st,.int .i64 c.sa,.int .i64 c.lo,.int .i64 c.hi,.map (some d.L),.slice (some ⟨g,0,none⟩) cuts.length c9,.int .i64 wd.ep,.bool wd.over] 97 (0,0)) by rw [hW4];exact setCell_block HM3.out)
 have HX4:=jH ((show W4.heap[w.heap.size]?=w3.heap[w.heap.size]? by rw [hW4];exact heap_set_ne rfl hXM).trans HX3.out);have HK4:=jH (show ∀b,b≠M→b<w.heap.size→W4.heap[b]?=w.heap[b]? from fun b hb hlt=>by rw [hW4];exact (heap_set_ne rfl hb).trans (HB3.out.block b hlt));have HZ4:=jH (show W4.heap.size=w3.heap.size∧W4.os=w3.os∧W4.tape=w3.tape∧W4.output=w3.output by rw [hW4];exact ⟨by simp [World.setCell],rfl,rfl,rfl⟩)
 have HGB:=jH (show w.heap.size<g by have:=HRS.out;omega);clear hW4 m1 m2 m3 hg;obtain ⟨m1,m2,m3⟩:=box_cells jR HM4.out;obtain ⟨b,o,hbo,hb,hcc⟩:=(HO4.out.row eFc).at_ hjd;injection hbo with hbo
 injection hbo with hb1 ho1 _
 subst hb1;subst ho1;have c0:W4.cell? ⟨g,j * 3,none⟩=some (.int .i64 cuts[j].ep):=by have:=hcc 0 _ rfl;simpa using this
 have c1:W4.cell? ⟨g,j * 3+1,none⟩=some (.map cuts[j].m):=by have:=hcc 1 _ rfl;simpa using this
 have c2:W4.cell? ⟨g,j * 3+2,none⟩=some (.bool cuts[j].fr):=by have:=hcc 2 _ rfl;simpa using this
 obtain ⟨f1,f2,f3⟩:=box_cells jR HG4.out;generalize cuts[j]=cj at c0 c1 c2;clear f1 hcc hb
 go_upto_region 5 with fail
 refine name_world ?_;intro W5 hW5;have hW5':W5=((W4.setCell ⟨g,j * 3,none⟩ (.int .i64 fc0.ep)).setCell ⟨g,j * 3+1,none⟩ (.map fc0.m)).setCell ⟨g,j * 3+2,none⟩ (.bool fc0.fr):=hW5;have HO5:=jH (show OwnL fcC 108 3 w2.heap.size W5 (.slice (some ⟨g,0,none⟩) cuts.length c9) (cuts.set j fc0) by rw [hW5'];exact own_setF HO4.out j hjd fc0);have hoth:∀b,b≠g→W5.heap[b]?=W4.heap[b]?:=fun b hb=>by rw [hW5'];exact (heap_set_ne rfl hb).trans ((heap_set_ne rfl hb).trans (heap_set_ne rfl hb))
 have HM5:=jH ((hoth M (fun e=>hgM e.symm)).trans HM4.out);have HX5:=jH ((hoth w.heap.size (fun e=>hgX e.symm)).trans HX4.out);have HK5:=jH (show ∀b,b≠M→b<w.heap.size→W5.heap[b]?=w.heap[b]? from fun b hb hlt=>(hoth b (by have:=HGB.out;omega)).trans (HK4.out b hb hlt));have HZ5:=jH (show W5.heap.size=w3.heap.size∧W5.os=w.os∧W5.tape=w.tape∧W5.output=w.output by
  rw [hW5'];exact ⟨by simp only [World.setCell,Array.size_modify];exact HZ4.out.1,HZ4.out.2.1.trans HB3.out.os,HZ4.out.2.2.1.trans HB3.out.tape,HZ4.out.2.2.2.trans HB3.out.output⟩)
 clear hW5 hW5' hoth c0 c1 c2 f2 f3 m1 m2 m3 z3 z4 z5 z6;obtain ⟨y1,y2,y3⟩:=box_cells jR HX5.out;go_wp2_with fail
 refine post_named ?_;intro W9 hW9;have hW9':W9=stor W5 w.heap.size 0 (repC (repF 0)):=hW9;obtain ⟨t1,t2,t3,t4⟩:=stor_at HX5.out (repC (repF 0)) rfl W9 hW9';obtain ⟨a9,a8,a7⟩:=box_cells jR t1;clear hW9 hW9';exact bodyPost_ret (v:=repV (repF 0)) (by simp [results,Tryz.results82,go_sem,a9,repV,repC,repF,st0,adv0]) rfl (HFIN.out W5 W9 (some ⟨g,0,none⟩) c9 (by rw [HZ5.out.1];exact HB3.out.size) HK5.out (by rw [List.length_set];exact HM5.out) (by rw [List.length_set];have h9:=RowG.own eFc HO5.out;exact h9.imp (fun b hb=>by have:=HRS.out;omega)) HZ5.out.2.1 HZ5.out.2.2.1 HZ5.out.2.2.2 t2 t3 t4)
theorem flFree_any {P:Nat→Prop} {w:World} {M:Nat} {c:Cfg} {rs rh n:Nat} {wd:Wd} {d:FlatD} (k:Int) (h:FW P w M c rs rh n wd d) (hP:∀b,w.heap.size≤b→P b) (hc:CfgOk c rs rh) (hn:n≤100000) :
 Calls Tryz.prog 82 #[.pointer (some ⟨M,0,none⟩),.int .i64 k] w (FWSays P w M c rs rh (n+1) d.L (repV (freeW wd k).2) (freeW wd k).1):=by
 unfold freeW
 by_cases he:findT (tabW wd) k=0
 · rw [if_neg (by rw [he];simp)]
   obtain ⟨j,q,hkj,hq,_⟩:=findT_ok he;have h9:=flFree_ok k h hP hc hn j hkj (List.getElem?_eq_some_iff.1 hq).1 he;rw [show k.toNat - 1=j by omega];exact h9
 · rw [if_pos he]
   refine (flFree_bad k h hn he).mono ?_;rintro e w' ⟨rfl,hb⟩;exact h.same (Nat.le_succ _) hb
end
end Go.Proofs.YtkcdhaallnhhmaaGreat
