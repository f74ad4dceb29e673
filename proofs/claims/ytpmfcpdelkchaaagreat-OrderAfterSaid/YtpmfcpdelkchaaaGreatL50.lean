/- Part 50 of the proof: OrdAft. -/
import Derived.Test.YtpmfcpdelkchaaaGreatL48
namespace Go.Proofs.YtpmfcpdelkchaaaGreat
set_option linter.unusedSimpArgs false
set_option linter.unusedVariables false
set_option linter.unusedSectionVars false
set_option maxRecDepth 100000
set_option maxHeartbeats 16000000
section
open Go.RowKit Go.Lib
def AftSays (w:World) (c:Cfg) (rs rh m:Nat) (wd:Wd) (e:Ending) (w':World):Prop :=
 ∃M d,e=.returned (.pointer (some ⟨M,0,none⟩))∧FW (fun b=>b≠M∧b≠d.L) w' M c rs rh m wd d∧w.heap.size≤M∧w.heap.size≤d.L∧jB w w'
theorem replayE_drop {c:Cfg} {rs rh:Nat} {wd:Wd} {l:List EvtD} {k:Nat} {i:Int} (hk:k<l.length) :
 replayE c rs rh wd i (l.drop k)=if (applyE c rs rh wd l[k]).2=true then replayE c rs rh (applyE c rs rh wd l[k]).1 (i+1) (l.drop (k+1)) else i:=by
 rw [List.drop_eq_getElem_cons hk];rfl
theorem ordAfter_any (c:Cfg) (rs rh k0:Nat) (n:Int) (v:Value) (es:List EvtD) (w:World) (hc:CfgOk c rs rh) (hk0:(k0:Int)=c.st) (he:RowIn 34 evC w v es) (heok:∀e∈es,e.ok) (hel:es.length≤100) :
 Calls Tryz.prog 44 #[cfgV c,v,.int .i64 n] w (AftSays w c rs rh es.length (afterE c rs rh (newW k0) (es.take n.toNat))):=by
 obtain ⟨A,cp,rfl,hAc,h0⟩:=id he;clear h0;have HE:=jH he;have HAC:=jH hAc;have HEOK:=jH heok;have HEL:=jH hel;have q9:(es.length:Int)≤100:=by omega
 have HCC:=jH hc;have CF:=jH (fun W=>fw_new c rs rh k0 W hc hk0);unfold cfgV at CF ⊢;clear he hAc heok hc hk0 hel
 go_enter Tryz.func44,Tryz.ntmps44
 go_wp2_with (first
  | (go_at_call 14
     refine calls_named ?_;intro W1 hW1;have hb1:jB w W1:=by rw [hW1];exact balloc jR _
     clear hW1;refine (CF.out W1).mono ?_;rintro e w2 ⟨M,f0,rfl,hf,h1,h2,hb⟩;have HF2:=jH hf;have HML:=jH (show w.heap.size≤M∧w.heap.size≤f0.L from ⟨Nat.le_trans hb1.size h1,Nat.le_trans hb1.size h2⟩);have HB2:=jH (bthen hb1 hb);clear hb1 hf h1 h2 hb))
 obtain ⟨L,hLL⟩:∃L,L=f0.L:=⟨_,rfl⟩;have HF0:=jH (show FW (fun b=>b≠M∧b≠L) w2 M c rs rh 0 (newW k0) f0∧f0.L=L by rw [hLL];exact ⟨HF2.out,rfl⟩);have HLO:=jH (show w.heap.size≤M∧w.heap.size≤L by rw [hLL];exact HML.out);clear hLL HF2 HML
 go_loopg [14] es.length (fun g s14 wr=>∃(k:Nat) (d:FlatD),k≤es.length∧es.length - k≤g∧s14=.int .i64 k∧FW (fun b=>b≠M∧b≠L) wr M c rs rh k (afterE c rs rh (newW k0) (es.take k)) d∧d.L=L∧jB w wr∧k≤n.toNat)
 case atStart=>exact ⟨0,f0,Nat.zero_le _,Nat.le_refl _,rfl,HF0.out.1,HF0.out.2,HB2.out,Nat.zero_le _⟩
 case round =>
  obtain ⟨k,d,hk,hg,rfl,hfw,hdl,hb,hkn⟩:=hrel;rename World=>wr
  have HF:=jH hfw;have HDL:=jH hdl;have HBr:=jH hb;clear hfw hdl hb HF0
  by_cases hlt:k<es.length
  · have z1:(k:Int)<(es.length:Int):=by omega
    have z2:(0:Int)≤(k:Int):=by omega
    obtain ⟨b1,o1,rfl,hb1,hc⟩:=(HE.out.below HBr.out).at_ hlt;have hcl:(evC es[k]).length=34:=rfl;have hone:∀v∈evC es[k],v.oneCell'=true:=evC_one _;have HAF:=jH (show afterE c rs rh (newW k0) (es.take (k+1))=(applyE c rs rh (afterE c rs rh (newW k0) (es.take k)) es[k]).1 by rw [List.take_succ_eq_append_getElem hlt,afterE_snoc]);have hM:=HF.out.at_.lt;have hL:L<wr.heap.size:=by have:=HF.out.at_.map.lt;rwa [HDL.out] at this
    have CA:=jH (fun W (hW:jB wr W)=>ordAp_any (HF.out.below hW) (fun b hb=>by have:=hW.size;omega) HCC.out (by have:=HEL.out;omega) es[k] (HEOK.out _ (List.getElem_mem hlt)));rw [HDL.out] at CA;obtain ⟨cs,hcs⟩:∃cs,cs=evC es[k]:=⟨_,rfl⟩;have CA9:=jH (fun W (hW:jB wr W)=>show Calls Tryz.prog 86 #[.pointer (some ⟨M,0,none⟩),.agg cs.toArray] W (FWSays (fun b=>b≠M∧b≠L) W M c rs rh (k+1) L (.bool (applyE c rs rh (afterE c rs rh (newW k0) (es.take k)) es[k]).2) (afterE c rs rh (newW k0) (es.take (k+1)))) by rw [HAF.out,hcs];exact CA.out W hW)
    rw [←hcs] at hc hcl hone;obtain ⟨sb,hsb⟩:∃sb,sb=(applyE c rs rh (afterE c rs rh (newW k0) (es.take k)) es[k]).2:=⟨_,rfl⟩;rw [←hsb] at CA9;have hst:=store_new (P:=Tryz.prog) wr 148 cs 34 hcl (by kernel_rfl) hone;have HC:=jH hc;have HCL:=jH hcl;have HKN:=jH hkn;clear hc hcl hone hcs hsb CA HAF hM hL hkn
    by_cases hnk:n≤(k:Int)
    · have z3:n≤(k:Int):=hnk
      go_wp2_with (first
       | (refine wpList_load_list rfl 148 (.tmp 17) rfl b1 (o1+k * 34) cs HC.out (by rfl) _ Tryz.underlying148 (by rfl) (by rw [HCL.out];kernel_rfl) ?_))
      have HEND:=jH (show AftSays w c rs rh es.length (afterE c rs rh (newW k0) (es.take n.toNat)) (.returned (.pointer (some ⟨M,0,none⟩))) (wr.alloc (.cells cs.toArray 148)) from by
       have e1:n.toNat=k:=by have:=HKN.out;omega
       rw [e1];exact ⟨M,d,rfl,by rw [HDL.out];exact (HF.out.below (balloc jR _)).mono (by omega),HLO.out.1,by rw [HDL.out];exact HLO.out.2,bthen HBr.out (balloc jR _)⟩)
      go_ret
      exact HEND.out
    · have z3:(k:Int)<n:=by omega
      go_wp2_with (first
       | (refine wpList_load_list rfl 148 (.tmp 17) rfl b1 (o1+k * 34) cs HC.out (by rfl) _ Tryz.underlying148 (by rfl) (by rw [HCL.out];kernel_rfl) ?_)
       | (refine wpList_load_list rfl 148 (.tmp 9) rfl wr.heap.size 0 cs (new_cells _ _ _) (by rfl) _ Tryz.underlying148 (by rfl) (by rw [HCL.out];kernel_rfl) ?_)
       | (go_at_call 86
          refine (CA9.out _ (balloc jR _)).mono ?_;rintro e u ⟨d',rfl,hfw,hdl,hu⟩;have HF9:=jH hfw;have HD9:=jH hdl;have HU9:=jH ((Upd.of_below (balloc jR _) [M,L]).trans hu);clear hfw hdl hu))
      go_roundg (es.length - (k+1))
      case measure=>omega
      case rel =>
       refine ⟨k+1,d',hlt,Nat.le_refl _,by go_num,HF9.out,HD9.out,?_,by have:=HKN.out;omega⟩;exact HBr.out.trans (HU9.out.below HBr.out.size (fun r hr=>by
        simp only [List.mem_cons,List.not_mem_nil,or_false] at hr
        rcases hr with rfl|rfl
        · exact HLO.out.1
        · exact HLO.out.2))
  · obtain rfl:k=es.length:=by omega
    have z1:¬(es.length:Int)<(es.length:Int):=by omega
    have HEND:=jH (show AftSays w c rs rh es.length (afterE c rs rh (newW k0) (es.take n.toNat)) (.returned (.pointer (some ⟨M,0,none⟩))) wr from by
     have e1:es.take n.toNat=es.take es.length:=by rw [List.take_of_length_le hkn,List.take_length]
     rw [e1];exact ⟨M,d,rfl,by rw [HDL.out];exact HF.out,HLO.out.1,by rw [HDL.out];exact HLO.out.2,HBr.out⟩)
    go_wp2_with fail
    go_ret
    exact HEND.out
theorem ordReplay_any (c:Cfg) (rs rh k0:Nat) (v:Value) (es:List EvtD) (w:World) (hc:CfgOk c rs rh) (hk0:(k0:Int)=c.st) (he:RowIn 34 evC w v es) (heok:∀e∈es,e.ok) (hel:es.length≤100) :
 Calls Tryz.prog 38 #[cfgV c,v] w (jP w (.int .i64 (replayE c rs rh (newW k0) 0 es))):=by
 obtain ⟨A,cp,rfl,hAc,h0⟩:=id he;clear h0;have HE:=jH he;have HAC:=jH hAc;have HEOK:=jH heok;have HEL:=jH hel;have q9:(es.length:Int)≤100:=by omega
 have HCC:=jH hc;have CF:=jH (fun W=>fw_new c rs rh k0 W hc hk0);obtain ⟨ans,hans⟩:∃r,r=replayE c rs rh (newW k0) 0 es:=⟨_,rfl⟩;rw [←hans];have HANS:=jH hans;unfold cfgV at CF ⊢;clear he hAc heok hc hk0 hel hans
 go_enter Tryz.func38,Tryz.ntmps38
 go_wp2_with (first
  | (go_at_call 14
     refine calls_named ?_;intro W1 hW1;have hb1:jB w W1:=by rw [hW1];exact balloc jR _
     clear hW1;refine (CF.out W1).mono ?_;rintro e w2 ⟨M,f0,rfl,hf,h1,h2,hb⟩;have HF2:=jH hf;have HML:=jH (show w.heap.size≤M∧w.heap.size≤f0.L from ⟨Nat.le_trans hb1.size h1,Nat.le_trans hb1.size h2⟩);have HB2:=jH (bthen hb1 hb);clear hb1 hf h1 h2 hb))
 obtain ⟨L,hLL⟩:∃L,L=f0.L:=⟨_,rfl⟩;have HF0:=jH (show FW (fun b=>b≠M∧b≠L) w2 M c rs rh 0 (newW k0) f0∧f0.L=L by rw [hLL];exact ⟨HF2.out,rfl⟩);have HLO:=jH (show w.heap.size≤M∧w.heap.size≤L by rw [hLL];exact HML.out);clear hLL HF2 HML
 go_loopg [12] es.length (fun g s12 wr=>∃(k:Nat) (wd:Wd) (d:FlatD),k≤es.length∧es.length - k≤g∧s12=.int .i64 k∧FW (fun b=>b≠M∧b≠L) wr M c rs rh k wd d∧d.L=L∧jB w wr∧Hid (replayE c rs rh wd k (es.drop k)=ans))
 case atStart=>exact ⟨0,_,f0,Nat.zero_le _,Nat.le_refl _,rfl,HF0.out.1,HF0.out.2,HB2.out,jH (by rw [HANS.out];rfl)⟩
 case round =>
  obtain ⟨k,wd,d,hk,hg,rfl,hfw,hdl,hb,HR⟩:=hrel;rename World=>wr
  have HF:=jH hfw;have HDL:=jH hdl;have HBr:=jH hb;clear hfw hdl hb HF0
  by_cases hlt:k<es.length
  · have z1:(k:Int)<(es.length:Int):=by omega
    have z2:(0:Int)≤(k:Int):=by omega
    obtain ⟨b1,o1,rfl,hb1,hc⟩:=(HE.out.below HBr.out).at_ hlt;have hcl:(evC es[k]).length=34:=rfl;have hone:∀v∈evC es[k],v.oneCell'=true:=evC_one _;have HRR:=jH ((replayE_drop (i:=(k:Int)) (wd:=wd) (c:=c) (rs:=rs) (rh:=rh) hlt).symm.trans HR.out);have hM:=HF.out.at_.lt;have hL:L<wr.heap.size:=by have:=HF.out.at_.map.lt;rwa [HDL.out] at this
    have CA:=jH (fun W (hW:jB wr W)=>ordAp_any (HF.out.below hW) (fun b hb=>by have:=hW.size;omega) HCC.out (by have:=HEL.out;omega) es[k] (HEOK.out _ (List.getElem_mem hlt)));rw [HDL.out] at CA;obtain ⟨r,hr⟩:∃r,r=applyE c rs rh wd es[k]:=⟨_,rfl⟩;rw [←hr] at CA HRR;obtain ⟨cs,hcs⟩:∃cs,cs=evC es[k]:=⟨_,rfl⟩;have CA9:=jH (fun W (hW:jB wr W)=>show Calls Tryz.prog 86 #[.pointer (some ⟨M,0,none⟩),.agg cs.toArray] W (FWSays (fun b=>b≠M∧b≠L) W M c rs rh (k+1) L (.bool r.2) r.1) by rw [hcs];exact CA.out W hW)
    rw [←hcs] at hc hcl hone;have hst:=store_new (P:=Tryz.prog) wr 148 cs 34 hcl (by kernel_rfl) hone;have HC:=jH hc;have HCL:=jH hcl;clear hc hcl hone hcs hr CA hM hL;obtain ⟨nw,sb⟩:=r;dsimp only at CA9 HRR
    cases sb with
    | true =>
      have HR2:=jH (show replayE c rs rh nw ((k+1:Nat):Int) (es.drop (k+1))=ans from by have h9:=HRR.out;rw [if_pos rfl] at h9;exact h9);clear HRR HR
      go_wp2_with (first
       | (refine wpList_load_list rfl 148 (.tmp 15) rfl b1 (o1+k * 34) cs HC.out (by rfl) _ Tryz.underlying148 (by rfl) (by rw [HCL.out];kernel_rfl) ?_)
       | (refine wpList_load_list rfl 148 (.tmp 7) rfl wr.heap.size 0 cs (new_cells _ _ _) (by rfl) _ Tryz.underlying148 (by rfl) (by rw [HCL.out];kernel_rfl) ?_)
       | (go_at_call 86
          refine (CA9.out _ (balloc jR _)).mono ?_;rintro e u ⟨d',rfl,hfw,hdl,hu⟩;have HF9:=jH hfw;have HD9:=jH hdl;have HU9:=jH ((Upd.of_below (balloc jR _) [M,L]).trans hu);clear hfw hdl hu))
      go_roundg (es.length - (k+1))
      case measure=>omega
      case rel =>
       refine ⟨k+1,nw,d',hlt,Nat.le_refl _,by go_num,HF9.out,HD9.out,?_,HR2⟩;exact HBr.out.trans (HU9.out.below HBr.out.size (fun r hr=>by
        simp only [List.mem_cons,List.not_mem_nil,or_false] at hr
        rcases hr with rfl|rfl
        · exact HLO.out.1
        · exact HLO.out.2))
    | false =>
      have HR2:=jH (show (k:Int)=ans from by have h9:=HRR.out;rw [if_neg (by simp)] at h9;exact h9);clear HRR HR
      go_wp2_with (first
       | (refine wpList_load_list rfl 148 (.tmp 15) rfl b1 (o1+k * 34) cs HC.out (by rfl) _ Tryz.underlying148 (by rfl) (by rw [HCL.out];kernel_rfl) ?_)
       | (refine wpList_load_list rfl 148 (.tmp 7) rfl wr.heap.size 0 cs (new_cells _ _ _) (by rfl) _ Tryz.underlying148 (by rfl) (by rw [HCL.out];kernel_rfl) ?_)
       | (go_at_call 86
          refine (CA9.out _ (balloc jR _)).mono ?_;rintro e u ⟨d',rfl,hfw,hdl,hu⟩;have HU9:=jH ((Upd.of_below (balloc jR _) [M,L]).trans hu);clear hfw hdl hu))
      go_ret
      refine ⟨by rw [←HR2.out];rfl,?_⟩;exact HBr.out.trans (HU9.out.below HBr.out.size (fun r hr=>by
       simp only [List.mem_cons,List.not_mem_nil,or_false] at hr
       rcases hr with rfl|rfl
       · exact HLO.out.1
       · exact HLO.out.2))
  · obtain rfl:k=es.length:=by omega
    have z1:¬(es.length:Int)<(es.length:Int):=by omega
    have HR2:=jH (show (-1:Int)=ans from by have h9:=HR.out;rw [List.drop_length] at h9;exact h9);clear HR;go_wp2_with fail
    go_ret
    exact ⟨by rw [←HR2.out];rfl,HBr.out⟩
end
end Go.Proofs.YtpmfcpdelkchaaaGreat
