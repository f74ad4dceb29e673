/- Part 41 of the proof: DfAw. -/
import Derived.Test.YtkcdhaallnhhmaaGreatP39
import Derived.Test.YtkcdhaallnhhmaaGreatP40
namespace Go.Proofs.YtkcdhaallnhhmaaGreat
set_option linter.unusedSimpArgs false
set_option linter.unusedVariables false
set_option linter.unusedSectionVars false
set_option maxRecDepth 100000
set_option maxHeartbeats 16000000
section
open Go.RowKit Go.Lib
theorem FW.cmp {P:Nat→Prop} {w:World} {M:Nat} {c:Cfg} {rs rh n:Nat} {wd:Wd} {d:FlatD} (h:FW P w M c rs rh n wd d) (hc:CfgOk c rs rh):FlCmp d.es:=by
 refine ⟨?_,fun p hp=>?_,h.small hc⟩
 · have h1:=allW_len h.ok (okSt_bd _ hc.st).2
   rw [h.at_.tells.len hc.st];omega
 · have h1:=h.at_.tells.has.1 p hp
   rcases Nat.lt_or_ge 20 p.1.1.size with h9|h9
   · rw [idS_len _ (.inr h9)] at h1;cases h1
   · omega
theorem FW.leave {P Q:Nat→Prop} {w w':World} {M:Nat} {c:Cfg} {rs rh n:Nat} {wd:Wd} {d:FlatD} {l l':List Nat} (h:FW P w M c rs rh n wd d) (hu:Upd w w' l l') (hM:M∉l) (hL:d.L∉l) (hP:∀b,P b→b∉l):FW P w' M c rs rh n wd d :=
 ⟨h.at_.keep hu.size (hu.block _ h.at_.lt hM) (hu.block _ h.at_.map.lt hL) (fun b hb hlt=>⟨hu.block b hlt (hP b hb),hb⟩) h.at_.off,h.ok⟩
theorem lines_wd {P Q:Nat→Prop} {w:World} {M1 M2:Nat} {c:Cfg} {rs rh n1 n2:Nat} {wa wb:Wd} {d1 d2:FlatD} (h1:FW P w M1 c rs rh n1 wa d1) (h2:FW Q w M2 c rs rh n2 wb d2) (hc:CfgOk c rs rh) (l out:List ByteArray) (hl:SrtB l) (hm:∀s,s∈l ↔ idS s=true∧((loadW wa s).isSome=true∨(loadW wb s).isSome=true)) (ho:linesWd wa wb l=out) :
 Calls Tryz.prog 15 #[.pointer (some ⟨M1,0,none⟩),.pointer (some ⟨M2,0,none⟩)] w (WordsSays w out):=by
 have h:=lines_any h1.at_ h2.at_ (h1.cmp hc) (h2.cmp hc);rw [linesE_wd h1.at_.tells h2.at_.tells l hl hm,ho] at h;exact h
theorem same_wd {P Q:Nat→Prop} {w:World} {M1 M2:Nat} {c:Cfg} {rs rh n1 n2:Nat} {wa wb:Wd} {d1 d2:FlatD} (h1:FW P w M1 c rs rh n1 wa d1) (h2:FW Q w M2 c rs rh n2 wb d2) (hc:CfgOk c rs rh) (l out:List ByteArray) (hl:SrtB l) (hm:∀s,s∈l ↔ idS s=true∧((loadW wa s).isSome=true∨(loadW wb s).isSome=true)) (ho:linesWd wa wb l=out) :
 Calls Tryz.prog 14 #[.pointer (some ⟨M1,0,none⟩),.pointer (some ⟨M2,0,none⟩)] w (jP w (.bool (decide (out.length=0)))):=by
 have h:=same47_any h1.at_ h2.at_ (h1.cmp hc) (h2.cmp hc);rw [linesE_wd h1.at_.tells h2.at_.tells l hl hm,ho] at h;exact h
def cS47:Cfg:=⟨1,2,2,1⟩
theorem cS47_ok:CfgOk cS47 2 1:=⟨by decide,rfl,rfl,⟨by unfold I64 cS47;decide,by unfold I64 cS47;decide,by unfold I64 cS47;decide,by unfold I64 cS47;decide⟩⟩
def sA47:ByteArray:=⟨#[97]⟩
def xA47:CallD:=⟨1,sA47,1,0,0,⟨0,0,0,0,0,0⟩⟩
def xB47:CallD:=⟨1,sA47,2,0,0,⟨0,0,0,0,0,0⟩⟩
theorem i64_s47 {n:Int} (h:0≤n∧n≤100):I64 n:=by unfold I64;omega
theorem xA47_ok:xA47.ok:=⟨i64_s47 (by decide),by decide,i64_s47 (by decide),i64_s47 (by decide),i64_s47 (by decide),⟨i64_s47 (by decide),i64_s47 (by decide),i64_s47 (by decide),i64_s47 (by decide),i64_s47 (by decide),i64_s47 (by decide)⟩⟩
theorem xB47_ok:xB47.ok:=⟨i64_s47 (by decide),by decide,i64_s47 (by decide),i64_s47 (by decide),i64_s47 (by decide),⟨i64_s47 (by decide),i64_s47 (by decide),i64_s47 (by decide),i64_s47 (by decide),i64_s47 (by decide),i64_s47 (by decide)⟩⟩
noncomputable def wA47:Wd:=(doW cS47 2 1 (newW 1) xA47).1
noncomputable def wB47:Wd:=(doW cS47 2 1 wA47 xB47).1
theorem findIt_some {l:List Itm} {k:Ky}:(findIt l k).isSome=true ↔ k∈l.map (·.1):=by
 unfold findIt;rw [Option.isSome_map,List.find?_isSome];simp
theorem load_one {wd:Wd} (h:(allW wd).map (·.1)=[keyK sA47]) {s:ByteArray} (hs:idS s=true):(loadW wd s).isSome=true ↔ s=sA47:=by
 unfold loadW;rw [findIt_some,h,List.mem_singleton];exact ⟨fun e=>keyK_inj hs (by kernel_rfl) e,fun e=>by rw [e]⟩
theorem keysA:(allW wA47).map (·.1)=[keyK sA47]:=by kernel_rfl
theorem keysB:(allW wB47).map (·.1)=[keyK sA47]:=by kernel_rfl
theorem load_no {s:ByteArray}:(loadW (newW 1) s).isSome=true ↔ False:=by
 have:loadW (newW 1) s=none:=rfl;rw [this];simp
theorem memA {s:ByteArray}:s∈[sA47] ↔ idS s=true∧((loadW (newW 1) s).isSome=true∨(loadW wA47 s).isSome=true):=by
 rw [List.mem_singleton]
 constructor
 · rintro rfl
   exact ⟨by kernel_rfl,.inr ((load_one keysA (by kernel_rfl)).2 rfl)⟩
 · rintro ⟨h1,h2|h2⟩
   · exact (load_no.1 h2).elim
   · exact (load_one keysA h1).1 h2
theorem memB {s:ByteArray}:s∈[sA47] ↔ idS s=true∧((loadW wA47 s).isSome=true∨(loadW wB47 s).isSome=true):=by
 rw [List.mem_singleton]
 constructor
 · rintro rfl
   exact ⟨by kernel_rfl,.inr ((load_one keysB (by kernel_rfl)).2 rfl)⟩
 · rintro ⟨h1,h2|h2⟩
   · exact (load_one keysA h1).1 h2
   · exact (load_one keysB h1).1 h2
theorem memN {s:ByteArray}:s∈([]:List ByteArray) ↔ idS s=true∧((loadW (newW 1) s).isSome=true∨(loadW (newW 1) s).isSome=true):=by
 constructor
 · intro h;cases h
 · rintro ⟨h1,h2|h2⟩ <;> exact (load_no.1 h2).elim
theorem linesA:linesWd (newW 1) wA47 [sA47]=[⟨#[43,32,97]⟩]:=by kernel_rfl
theorem linesB:linesWd wA47 wB47 [sA47]=[⟨#[126,32,97,32,115,97,109,112,108,101,115]⟩]:=by kernel_rfl
theorem FW.offT {P:Nat→Prop} {w w':World} {M U L:Nat} {c:Cfg} {rs rh n:Nat} {wd:Wd} {d:FlatD} (h:FW P w M c rs rh n wd d) (hb:jB w w') (hU:w.heap.size≤U) (hL:w.heap.size≤L):FW (OffT P U L) w' M c rs rh n wd d :=
 ⟨h.at_.keep hb.size (hb.block _ h.at_.lt) (hb.block _ h.at_.map.lt) (fun b hP hlt=>⟨hb.block b hlt,hP,by omega,by omega⟩) (fun b hQ=>h.at_.off b hQ.1),h.ok⟩
theorem doA47 {P:Nat→Prop} {w:World} {T:Nat} {d:FlatD} (h:FW P w T cS47 2 1 0 (newW 1) d) (hP:∀b,w.heap.size≤b→P b) :
 ∃rep,Calls Tryz.prog 41 #[.pointer (some ⟨T,0,none⟩),.agg #[.int .i64 1,.string { data:=#[97] },.int .i64 1,.int .i64 0,.int .i64 0,.int .i64 0,.int .i64 0,.int .i64 0,.int .i64 0,.int .i64 0,.int .i64 0]] w (FWSays P w T cS47 2 1 1 d.L rep wA47):=⟨_,flDo_any xA47 h hP cS47_ok (by decide) xA47_ok⟩
theorem doB47 {P:Nat→Prop} {w:World} {T:Nat} {d:FlatD} (h:FW P w T cS47 2 1 1 wA47 d) (hP:∀b,w.heap.size≤b→P b) :
 ∃rep,Calls Tryz.prog 41 #[.pointer (some ⟨T,0,none⟩),.agg #[.int .i64 1,.string { data:=#[97] },.int .i64 2,.int .i64 0,.int .i64 0,.int .i64 0,.int .i64 0,.int .i64 0,.int .i64 0,.int .i64 0,.int .i64 0]] w (FWSays P w T cS47 2 1 2 d.L rep wB47):=⟨_,flDo_any xB47 h hP cS47_ok (by decide) xB47_ok⟩
theorem new47 (W:World):Calls Tryz.prog 10 #[.agg #[.int .i64 1,.int .i64 2,.int .i64 2,.int .i64 1]] W fun e w'=>∃M d,e=.returned (.pointer (some ⟨M,0,none⟩))∧FW (fun b=>b≠M∧b≠d.L) w' M cS47 2 1 0 (newW 1) d∧W.heap.size≤M∧W.heap.size≤d.L∧jB W w':=fw_new cS47 2 1 1 W cS47_ok rfl
theorem small47 (w:World):Calls Tryz.prog 40 #[] w (jP w (.agg #[.int .i64 1,.int .i64 2,.int .i64 2,.int .i64 1])):=by
 go_enter Tryz.func40,Tryz.ntmps40
 go_wp2_with fail
 first
  | (go_ret;exact ⟨rfl,by repeat (first|exact jR|refine balloc ?_ _)⟩)
  | (refine post_named ?_
     intro W9 hW9;have hb9:jB w W9:=by rw [hW9];repeat (first|exact jR|refine Below.setCell ?_ (by simp) _|refine balloc ?_ _)
     exact bodyPost_ret (v:=.agg #[.int .i64 1,.int .i64 2,.int .i64 2,.int .i64 1]) (by simp [results,Tryz.results40,go_sem,hW9]) rfl ⟨rfl,hb9⟩)
theorem awake47_any (w:World):Calls Tryz.prog 8 #[] w (jP w (.bool true)):=by
 go_enter Tryz.func8,Tryz.ntmps8
 go_wp2_with (first
  | (go_at_call 14
     refine calls_named ?_;intro V10 hV;have hb:jB w10 V10:=by rw [hV];repeat (first|exact jR|refine balloc ?_ _)
     clear hV;have hf:=HF010.out.below hb;refine (same_wd hf hf cS47_ok [] [] List.Pairwise.nil (fun s=>memN) rfl).mono ?_;rintro e w11 ⟨he,hb2⟩;have he9:e=.returned (.bool true):=he;subst he9;have HB11:=jH (bthen (bthen HB10.out hb) hb2);clear hb hb2 hf he)
  | (go_at_call 17
     refine calls_named ?_;intro V9 hV;have hb:jB w9 V9:=by rw [hV];repeat (first|exact jR|refine balloc ?_ _)
     have hu:RowIn 1 idC V9 (.slice (some ⟨w9.heap.size,0,none⟩) 1 1) [⟨#[126,32,97,32,115,97,109,112,108,101,115]⟩]:=by rw [hV];exact RowIn.lit (n:=1) (f:=idC) w9 _ _ _ _ (by first|rfl|simp) rfl
     clear hV;refine (texts22_any _ _ [⟨#[126,32,97,32,115,97,109,112,108,101,115]⟩] V9 ((HO9.out.row eId).below hb) hu (by decide)).mono ?_;rintro e w10 ⟨rfl,hb2⟩;have HB10:=jH (bthen (bthen HB9.out hb) hb2);have HF010:=jH ((HF09.out.below hb).below hb2);clear hb hb2 hu)
  | (go_at_call 15
     refine calls_named ?_;intro V8 hV;have hb:jB w8 V8:=by rw [hV];repeat (first|exact jR|refine balloc ?_ _)
     clear hV;refine (lines_wd (HF18.out.below hb) (HF28.out.below hb) cS47_ok [sA47] _ (List.pairwise_singleton _ _) (fun s=>memB) linesB).mono ?_;rintro e w9 ⟨A9,c9,rfl,ho,hb2⟩;have HO9:=jH ho;have HB9:=jH (bthen (bthen HB8.out hb) hb2);have HF09:=jH ((HF08.out.below hb).below hb2);clear hb hb2 ho)
  | (go_at_call 17
     refine calls_named ?_;intro V7 hV;have hb:jB w7 V7:=by rw [hV];repeat (first|exact jR|refine balloc ?_ _)
     have hu:RowIn 1 idC V7 (.slice (some ⟨w7.heap.size,0,none⟩) 1 1) [⟨#[43,32,97]⟩]:=by rw [hV];exact RowIn.lit (n:=1) (f:=idC) w7 _ _ _ _ (by first|rfl|simp) rfl
     clear hV;refine (texts22_any _ _ [⟨#[43,32,97]⟩] V7 ((HO7.out.row eId).below hb) hu (by decide)).mono ?_;rintro e w8 ⟨rfl,hb2⟩;have HB8:=jH (bthen (bthen HB7.out hb) hb2);have HF08:=jH ((HF07.out.below hb).below hb2);have HF18:=jH ((HF17.out.below hb).below hb2);have HF28:=jH ((HF27.out.below hb).below hb2);clear hb hb2 hu)
  | (go_at_call 15
     refine calls_named ?_;intro V6 hV;have hb:jB w6 V6:=by rw [hV];repeat (first|exact jR|refine balloc ?_ _)
     clear hV;refine (lines_wd (HF06.out.below hb) (HF16.out.below hb) cS47_ok [sA47] _ (List.pairwise_singleton _ _) (fun s=>memA) linesA).mono ?_;rintro e w7 ⟨A7,c7,rfl,ho,hb2⟩;have HO7:=jH ho;have HB7:=jH (bthen (bthen HB6.out hb) hb2);have HF07:=jH ((HF06.out.below hb).below hb2);have HF17:=jH ((HF16.out.below hb).below hb2);have HF27:=jH ((HF26.out.below hb).below hb2);clear hb hb2 ho)
  | (go_at_call 41
     refine calls_named ?_;intro V5 hV;have hb:jB w5 V5:=by rw [hV];repeat (first|exact jR|refine balloc ?_ _)
     clear hV;have hn:=HN5.out;have hs:=hb.size;have hoff:∀b,V5.heap.size≤b→OffT (OffT (fun b=>b≠M∧b≠d0.L) T d1.L) U d2.L b:=fun b hb9=>⟨⟨⟨by omega,by omega⟩,by omega,by omega⟩,by omega,by omega⟩
     obtain ⟨rep,hd⟩:=doB47 (HF25.out.below hb) hoff;refine hd.mono ?_;rintro e w6 ⟨d3,rfl,hf,hl,hu⟩;have HF26:=jH hf;have HF16:=jH ((HF15.out.below hb).leave (Q:=fun _=>True) hu (by simp only [List.mem_cons,List.not_mem_nil,or_false];omega) (by rw [HL1.out];simp only [List.mem_cons,List.not_mem_nil,or_false];omega) (fun b hb9=>by have h1:=hb9.2;simp only [List.mem_cons,List.not_mem_nil,or_false];omega))
     have HF06:=jH ((HF05.out.below hb).leave (Q:=fun _=>True) hu (by simp only [List.mem_cons,List.not_mem_nil,or_false];omega) (by simp only [List.mem_cons,List.not_mem_nil,or_false];omega) (fun b hb9=>by have h1:=hb9.2;simp only [List.mem_cons,List.not_mem_nil,or_false];omega));have HB6:=jH ((bthen HB5.out hb).trans (hu.below (bthen HB5.out hb).size (fun r hr=>by simp only [List.mem_cons,List.not_mem_nil,or_false] at hr;omega)))
     clear hn hs hoff hd hf hl hu hb)
  | (go_at_call 13
     refine calls_named ?_;intro V4 hV;have hb:jB w4 V4:=by rw [hV];repeat (first|exact jR|refine balloc ?_ _)
     clear hV;have hn:=HN4.out;have hs:=hb.size;have hf1:=HF14.out.below hb;refine (flTwin_any hf1 (fun b hb9=>⟨⟨by omega,by omega⟩,by omega,by omega⟩) (by rw [hf1.at_.len];exact Nat.le_trans hf1.ok.cuts (by decide))).mono ?_;rintro e w5 ⟨U,d2,rfl,ha,hbb,hU,hL,hb2⟩;have HF15:=jH ha;have HF25:=jH hbb;have HF05:=jH ((HF04.out.below hb).offT hb2 hU hL);have HN5:=jH (show M<w3.heap.size∧d0.L<w3.heap.size∧T<w3.heap.size∧d1.L<w3.heap.size∧w3.heap.size≤U∧w3.heap.size≤d2.L∧w3.heap.size≤w5.heap.size∧U<w5.heap.size∧d2.L<w5.heap.size∧w.heap.size≤M∧w.heap.size≤U∧w.heap.size≤d2.L by
      have h1:=hbb.at_.lt;have h2:=hbb.at_.map.lt;have h3:=hb2.size;omega)
     have HB5:=jH (bthen (bthen HB4.out hb) hb2);clear hn hs hf1 ha hbb hU hL hb hb2)
  | (go_at_call 41
     refine calls_named ?_;intro V3 hV;have hb:jB w3 V3:=by rw [hV];repeat (first|exact jR|refine balloc ?_ _)
     clear hV;have hn:=HN3.out;have hs:=hb.size;have hoff:∀b,V3.heap.size≤b→OffT (fun b=>b≠M∧b≠d0.L) T d1.L b:=fun b hb9=>⟨⟨by omega,by omega⟩,by omega,by omega⟩
     obtain ⟨rep,hd⟩:=doA47 (HF13.out.below hb) hoff;refine hd.mono ?_;rintro e w4 ⟨d1',rfl,hf,hl,hu⟩;have HL1:=jH hl;have HF14:=jH hf;have HF04:=jH ((HF03.out.below hb).leave (Q:=fun _=>True) hu (by simp only [List.mem_cons,List.not_mem_nil,or_false];omega) (by simp only [List.mem_cons,List.not_mem_nil,or_false];omega) (fun b hb9=>by have h1:=hb9.2;simp only [List.mem_cons,List.not_mem_nil,or_false];omega))
     have HB4:=jH ((bthen HB3.out hb).trans (hu.below (bthen HB3.out hb).size (fun r hr=>by simp only [List.mem_cons,List.not_mem_nil,or_false] at hr;omega)));have HN4:=jH (show M<w3.heap.size∧d0.L<w3.heap.size∧T<w3.heap.size∧d1.L<w3.heap.size∧w3.heap.size≤w4.heap.size∧w.heap.size≤M∧w.heap.size≤w3.heap.size by have:=hu.size;omega);clear hn hs hoff hd hf hl hu hb)
  | (go_at_call 13
     refine calls_named ?_;intro V2 hV;have hb:jB w2 V2:=by rw [hV];repeat (first|exact jR|refine balloc ?_ _)
     clear hV;have hn:=HN2.out;have hs:=hb.size;have hf0:=HF02.out.below hb;refine (flTwin_any hf0 (fun b hb9=>⟨by omega,by omega⟩) (by rw [hf0.at_.len];exact Nat.le_trans hf0.ok.cuts (by decide))).mono ?_;rintro e w3 ⟨T,d1,rfl,ha,hbb,hT,hL,hb2⟩;have HF03:=jH ha;have HF13:=jH hbb;have HN3:=jH (show M<w2.heap.size∧d0.L<w2.heap.size∧w2.heap.size≤T∧w2.heap.size≤d1.L∧T<w3.heap.size∧d1.L<w3.heap.size∧w2.heap.size≤w3.heap.size∧w.heap.size≤M∧w.heap.size≤w2.heap.size by
      have h1:=hbb.at_.lt;have h2:=hbb.at_.map.lt;have h3:=hb2.size;omega)
     have HB3:=jH (bthen (bthen HB2.out hb) hb2);clear hn hs hf0 ha hbb hT hL hb hb2)
  | (go_at_call 10
     refine calls_named ?_;intro V1 hV;have hb:jB w1 V1:=by rw [hV];repeat (first|exact jR|refine balloc ?_ _)
     clear hV;refine (new47 V1).mono ?_;rintro e w2 ⟨M,d0,rfl,hf,h1,h2,hb2⟩;have HF02:=jH hf;have HB2:=jH (bthen (bthen HB1.out hb) hb2);have HN2:=jH (show M<w2.heap.size∧d0.L<w2.heap.size∧w.heap.size≤M∧w.heap.size≤w2.heap.size by
      have h3:=hf.at_.lt;have h4:=hf.at_.map.lt;have h5:=(bthen HB1.out hb).size;omega)
     clear hf h1 h2 hb hb2)
  | (go_at_call 40
     refine (small47 w).mono ?_;rintro e w1 ⟨rfl,hb⟩;have HB1:=jH hb;clear hb))
 go_ret
 exact ⟨rfl,HB11.out⟩
end
end Go.Proofs.YtkcdhaallnhhmaaGreat
