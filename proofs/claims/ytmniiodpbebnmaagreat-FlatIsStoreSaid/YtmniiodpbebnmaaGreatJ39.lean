/- Part 39 of the proof. -/
import Derived.Test.YtmniiodpbebnmaaGreatJ38
namespace Go.Proofs.YtmniiodpbebnmaaGreat
set_option linter.unusedSimpArgs false
set_option linter.unusedVariables false
set_option linter.unusedSectionVars false
set_option maxRecDepth 100000
set_option maxHeartbeats 16000000
section
open Go.RowKit Go.Lib
section
section
variable {P:Program} {ops:Array Oper} {Q:Exit→Act→World→Prop} {md:Region.Mode} {S:World→Prop} {k:Nat}
end
def i0I (l:List p0W):Nat:=l.countP fun x=>!x.fr
theorem t0B {P:Nat→Prop} {w:World} {M:Nat} {c:Cfg} {wd:Wd} {d:b0J} (h:f0O P w M c wd d) (hep:∀q∈wd.cuts,0≤q.ep):i0I d.cuts=n0C (c0I wd):=by
 have e:d.cuts.map (·.fr)=wd.cuts.map (·.freed):=by
  apply List.ext_getElem?
  intro i;rw [List.getElem?_map,List.getElem?_map]
  by_cases hi:i<d.cuts.length
  · have hj:i<wd.cuts.length:=by rw [←h.len];exact hi
    rw [List.getElem?_eq_getElem hi,List.getElem?_eq_getElem hj];exact congrArg some (h.cut i _ _ (List.getElem?_eq_getElem hi) (List.getElem?_eq_getElem hj)).1
  · rw [List.getElem?_eq_none (by omega),List.getElem?_eq_none (by have:=h.len;omega)]
    rfl
 have e1:i0I d.cuts=(d.cuts.map (·.fr)).countP fun b=>!b:=by unfold i0I;rw [List.countP_map];rfl
 rw [e1,e];unfold n0C c0I;rw [List.countP_map,List.countP_map];refine List.countP_congr (fun q hq=>?_);have:=hep q hq;simp only [Function.comp]
 by_cases hfq:q.freed=true
 · simp [hfq]
 · simp [hfq];omega
theorem c1S (l:List p0W) (k:Nat) (h:k<l.length):i0I (l.take (k+1))=i0I (l.take k)+(if l[k].fr=true then 0 else 1):=by
 unfold i0I;rw [List.take_succ_eq_append_getElem h,List.countP_append,List.countP_singleton]
 cases l[k].fr <;> rfl
theorem p0H {P:Nat→Prop} {M:Nat} {c:Cfg} {wd:Wd} {d:b0J} (w:World) (h:f0O P w M c wd d) (hl:d.cuts.length≤900000) :
 Calls Tryz.prog 131 #[.pointer (some ⟨M,0,none⟩)] w (jP w (.int .i64 (i0I d.cuts:Nat))):=by
 have HV:=jH h.row.1;obtain ⟨a1,a2,a3⟩:=a0A jR h.cell;obtain ⟨l,hll⟩:∃l,l=d.cuts:=⟨_,rfl⟩;rw [←hll] at HV a1 hl ⊢;obtain ⟨A,hA⟩:∃A,A=d.A:=⟨_,rfl⟩;obtain ⟨cp,hcp⟩:∃A,A=d.cp:=⟨_,rfl⟩;rw [←hA,←hcp] at HV a1;clear h hll hA hcp
 go_enter Tryz.func131,Tryz.ntmps131
 go_wp2_with fail
 clear a1 a2 a3
 go_loopg [3,5,11] l.length (fun g s3 _ s11 wr=>∃(k m:Nat),k≤l.length∧l.length - k≤g∧s11=.int .i64 k∧s3=.int .i64 (m:Nat)∧Hid (m=i0I (l.take k))∧jB w wr)
 case atStart=>exact ⟨0,0,Nat.zero_le _,Nat.le_refl _,rfl,rfl,jH rfl,jR⟩
 case round =>
  obtain ⟨k,m,hk,hg,rfl,rfl,HM,hbr⟩:=hrel;have HBR:=jH hbr;clear hbr
  by_cases hlt:k<l.length
  · obtain ⟨b,o,rfl,hb,hc⟩:=HV.out.at_ hlt
    have c0:wr.cell? ⟨b,o+k * 3,none⟩=some (.int .i64 l[k].ep):=(HBR.out.cell (p:=⟨b,_,none⟩) hb).trans (hc 0 _ rfl);have c1:wr.cell? ⟨b,o+k * 3+1,none⟩=some (.map l[k].m):=(HBR.out.cell (p:=⟨b,_,none⟩) hb).trans (hc 1 _ rfl);have c2:wr.cell? ⟨b,o+k * 3+2,none⟩=some (.bool l[k].fr):=(HBR.out.cell (p:=⟨b,_,none⟩) hb).trans (hc 2 _ rfl);have HT:=jH (c1S l k hlt);have hmb:m≤900000:=by
     have h1:=HM.out;have h2:i0I (l.take k)≤(l.take k).length:=List.countP_le_length;rw [List.length_take] at h2;omega
    have hw:wrap64 ((m:Int)+1)=((m+1:Nat):Int):=by unfold wrap64;omega
    have HW:=jH hw;clear hc hb hw hmb;generalize l[k]=x at c0 c1 c2 HT;obtain ⟨xe,xm,xes,xf⟩:=x;dsimp only at c0 c1 c2 HT
    cases xf
    · go_wp2_with fail
      go_roundg (l.length - (k+1))
      case measure=>omega
      case rel=>exact ⟨k+1,m+1,hlt,Nat.le_refl _,by go_num,by rw [HW.out],jH (by rw [HT.out,←HM.out];rfl),a0C HBR.out _⟩
    · go_wp2_with fail
      go_roundg (l.length - (k+1))
      case measure=>omega
      case rel=>exact ⟨k+1,m,hlt,Nat.le_refl _,by go_num,rfl,jH (by rw [HT.out,←HM.out];rfl),a0C HBR.out _⟩
  · obtain rfl:k=l.length:=by omega
    have hm:=HM.out;rw [List.take_length] at hm;have HM2:=jH hm;clear hm;go_wp2_with fail
    go_ret
    exact ⟨by rw [HM2.out];rfl,HBR.out⟩
theorem c1K (A:Option Addr) (n c:Nat) (w:World) (hc:n≤c) :
 Calls Tryz.prog 132 #[.slice A n c] w fun e w'=>e=.returned (.slice A n n)∧w'=w:=by
 go_enter Tryz.func132,Tryz.ntmps132
 go_wp2_with fail
 go_ret
 exact ⟨rfl,rfl⟩
end
theorem a0Q.clip {α:Type} {n:Nat} {f:α→List Value} {w:World} {A:Option Addr} {c:Nat} {l:List α} (h:a0Q n f w (.slice A l.length c) l):a0Q n f w (.slice A l.length l.length) l:=by
 obtain ⟨A2,c2,hv,hc,hr⟩:=h;injection hv with hv _ _
 subst hv;exact ⟨A,l.length,rfl,Nat.le_refl _,hr⟩
theorem c0L.snap {P:Nat→Prop} {w w8:World} {M:Nat} {c:Cfg} {rs rh n m:Nat} {wd:Wd} {d:b0J} (h:c0L P w M c rs rh n wd d) (hs:w.heap.size≤w8.heap.size) (hk:∀b,b≠M→b<w.heap.size→w8.heap[b]?=w.heap[b]?) {A:Option Addr} {cp l:Nat} (hl:P l) (hm:a0V skV ldV w8 l d.es)
    (hcell:w8.heap[M]?=some (.cells #[.int .i64 c.st,.int .i64 c.sa,.int .i64 c.lo,.int .i64 c.hi,.map (some d.L),.slice A (d.cuts++[(⟨wd.ep+1,some l,d.es,false⟩:p0W)]).length cp,.int .i64 (wd.ep+1),.bool wd.over] 103 (0,0)))
    (hrow:d0G P 3 fcC w8 (.slice A (d.cuts++[(⟨wd.ep+1,some l,d.es,false⟩:p0W)]).length cp) (d.cuts++[(⟨wd.ep+1,some l,d.es,false⟩:p0W)])) :
    c0L P w8 M c rs rh m { wd with ep:=wd.ep+1,cuts:=wd.cuts++[⟨wd.ep+1,d0D wd,false⟩] } { d with A:=A,cp:=cp,cuts:=d.cuts++[⟨wd.ep+1,some l,d.es,false⟩] }:=by
  have hkP:∀b,P b→b<w.heap.size→w8.heap[b]?=w.heap[b]?∧P b:=fun b hP hlt=>⟨hk b (h.off b hP).1 hlt,hP⟩
  refine ⟨⟨hcell,h.map.block (hk d.L (fun e=>h.ne e.symm) h.map.lt),h.ne,h.off,fun p hp=>(h.rows p hp).keepG hs hkP,?_,hrow,fun i x q hx hq=>?_⟩,h.tells.same rfl⟩
  · show (d.cuts++[_]).length=(wd.cuts++[_]).length
    rw [List.length_append,List.length_append,h.len];rfl
  · have hx:(d.cuts++[(⟨wd.ep+1,some l,d.es,false⟩:p0W)])[i]?=some x:=hx
    have hq:(wd.cuts++[(⟨wd.ep+1,d0D wd,false⟩:CutD)])[i]?=some q:=hq
    by_cases hi:i<d.cuts.length
    · rw [List.getElem?_append_left hi] at hx
      rw [List.getElem?_append_left (by rw [←h.len];exact hi)] at hq;refine ⟨(h.cut i x q hx hq).1,fun hf=>?_⟩;obtain ⟨h1,l2,h2,h3,h4,h5,h6⟩:=(h.cut i x q hx hq).2 hf;exact ⟨h1,l2,h2,h3,h4.block (hkP l2 h3 h4.lt).1,fun p hp=>(h5 p hp).keepG hs hkP,h6⟩
    · rw [List.getElem?_append_right (by omega)] at hx
      rw [List.getElem?_append_right (by rw [←h.len];omega)] at hq;have h0:i - d.cuts.length=0:=by
       rcases Nat.eq_zero_or_pos (i - d.cuts.length) with h|h
       · exact h
       · rw [List.getElem?_eq_none (by simp;omega)] at hx;cases hx
      rw [h0] at hx;rw [←h.len,h0] at hq;injection hx with hx
      injection hq with hq
      subst hx;subst hq;exact ⟨rfl,fun _=>⟨rfl,l,rfl,hl,hm,fun p hp=>(h.rows p hp).keepG hs hkP,h.tells.has⟩⟩
theorem v0B {P:Nat→Prop} {w:World} {M:Nat} {c:Cfg} {rs rh n:Nat} {wd:Wd} {d:b0J} (h:FW P w M c rs rh n wd d) (hn:n≤100000) (hf:64≤i0I d.cuts) :
 Calls Tryz.prog 60 #[.pointer (some ⟨M,0,none⟩)] w (jP w (a0X (a0R 6))):=by
 have hcl:d.cuts.length≤900000:=by have:=h.ok.cuts;have:=h.at_.len;omega
 have CL:=jH (fun W (hW:jB w W)=>p0H W (h.at_.tof0O.below hW) hcl);have HC:=jH h.at_.cell;have z:(64:Int)≤((i0I d.cuts:Nat):Int):=by omega
 generalize i0I d.cuts=m at *;clear h hn hcl hf
 go_enter Tryz.func60,Tryz.ntmps60
 go_wp2_with (first
  | (go_at_call 131
     refine a0B ?_;intro W1 hW1;have HB1:=jH (show jB w W1 by rw [hW1];exact a0C jR _);have HX1:=jH (show W1.heap[w.heap.size]?=some (.cells #[.int .i64 0,.int .i64 0,.int .i64 0,.int .i64 0,.int .i64 0,.int .i64 0,.int .i64 0,.int .i64 0,.int .i64 0,.int .i64 0,.int .i64 0,.int .i64 0,.int .i64 0] 46 (0,0)) by rw [hW1];exact heap_alloc_new _ _);clear hW1;refine (CL.out W1 HB1.out).mono ?_
     rintro e w2 ⟨rfl,hb2⟩;have HB2:=jH (a0D HB1.out hb2);have HX2:=jH (jK hb2 HX1.out);clear hb2;obtain ⟨y1,y2,y3⟩:=a0A jR HX2.out;obtain ⟨m1,m2,m3⟩:=a0A HB2.out HC.out))
 refine a0H ?_;intro W9 hW9;have hW9':W9=c0T w2 w.heap.size 0 (b0E (a0R 6)):=hW9;obtain ⟨t1,t2,t3,t4⟩:=a0M HX2.out (b0E (a0R 6)) rfl W9 hW9';obtain ⟨a9,a8,a7⟩:=a0A jR t1;clear hW9 hW9';exact bodyPost_ret (v:=a0X (a0R 6)) (by simp [results,Tryz.results60,go_sem,a9,a0X,b0E,a0R,st0,b0O]) rfl ⟨rfl,HB2.out.trans (t4 _ (Nat.le_refl _))⟩
theorem h1G {P:Nat→Prop} {w:World} {M:Nat} {c:Cfg} {rs rh n:Nat} {wd:Wd} {d:b0J} (h:FW P w M c rs rh n wd d) (hP:∀b,w.heap.size≤b→P b) (hc:b0S c rs rh) (hn:n≤100000) (hf:¬64≤i0I d.cuts) :
 Calls Tryz.prog 60 #[.pointer (some ⟨M,0,none⟩)] w (b0H P w M c rs rh (n+1) d.L (a0X ⟨0,wd.ep+1,((d.cuts.length+1:Nat):Int),st0,b0O⟩) { wd with ep:=wd.ep+1,cuts:=wd.cuts++[⟨wd.ep+1,d0D wd,false⟩] }):=by
 have hcl:d.cuts.length≤100000:=by have:=h.ok.cuts;have:=h.at_.len;omega
 have hep:=h.ok.ep;have CL:=jH (fun W (hW:jB w W)=>p0H W (h.at_.tof0O.below hW) (by omega));have HC:=jH h.at_.cell;have hav:=h.avoidX (X:=w.heap.size) (Nat.le_refl _) jR
 have HFIN:=jH (show ∀(W8 W9:World) (A:Option Addr) (cp l:Nat),w.heap.size≤W8.heap.size→(∀b,b≠M→b<w.heap.size→W8.heap[b]?=w.heap[b]?)→w.heap.size<l→a0V skV ldV W8 l d.es →
     W8.heap[M]?=some (.cells #[.int .i64 c.st,.int .i64 c.sa,.int .i64 c.lo,.int .i64 c.hi,.map (some d.L),.slice A (d.cuts++[(⟨wd.ep+1,some l,d.es,false⟩:p0W)]).length cp,.int .i64 (wd.ep+1),.bool wd.over] 103 (0,0)) →
     d0G (fun b=>w.heap.size<b) 3 fcC W8 (.slice A (d.cuts++[(⟨wd.ep+1,some l,d.es,false⟩:p0W)]).length cp) (d.cuts++[(⟨wd.ep+1,some l,d.es,false⟩:p0W)])→W8.os=w.os→W8.tape=w.tape→W8.output=w.output →
     (∀k,k≠w.heap.size→W9.heap[k]?=W8.heap[k]?)→W9.heap.size=W8.heap.size→(∀n,n≤w.heap.size→Below n W8 W9) →
     b0H P w M c rs rh (n+1) d.L (a0X ⟨0,wd.ep+1,((d.cuts.length+1:Nat):Int),st0,b0O⟩) { wd with ep:=wd.ep+1,cuts:=wd.cuts++[⟨wd.ep+1,d0D wd,false⟩] } (.returned (a0X ⟨0,wd.ep+1,((d.cuts.length+1:Nat):Int),st0,b0O⟩)) W9 from fun W8 W9 A cp l hs hk hl hm hcell hrow ho1 ho2 ho3 h4 h5 h6=>by
   have h1:=hav.at_.snap (m:=n+1) hs hk (l:=l) ⟨hP l (by omega),by omega⟩ hm hcell (hrow.imp (fun b hb=>⟨hP b (by omega),by omega⟩));have hwd:h0C c rs rh (n+1) { wd with ep:=wd.ep+1,cuts:=wd.cuts++[⟨wd.ep+1,d0D wd,false⟩] }:=by
    have h9:=x0S h.ok (d0L _ hc.st).2;unfold h0S at h9;rw [if_neg (by rw [←t0B h.at_.tof0O (fun q hq=>(h.ok.cep q hq).1)];exact hf)] at h9;exact h9
   have h2:Upd w W8 [M,d.L] [M,d.L]:=⟨ho1,ho2,ho3,hs,fun k hlt hn=>hk k (fun e=>hn (by rw [e];simp)) hlt,fun k hk=>.inl hk⟩;have h3:=FW.fin (d:={ d with A:=A,cp:=cp,cuts:=d.cuts++[⟨wd.ep+1,some l,d.es,false⟩] }) ⟨h1,hwd⟩ h.at_.off h2 (Nat.le_refl _) h.at_.lt h.at_.map.lt h4 h5 h6;exact ⟨_,rfl,h3.1,rfl,h3.2⟩)
 have HMP:=jH (show ∀W,(∀b,b≠M→b<w.heap.size→W.heap[b]?=w.heap[b]?)→a0V skV ldV W d.L d.es from fun W hW=>h.at_.map.block (hW d.L (fun e=>h.at_.ne e.symm) h.at_.map.lt));have HVP:=jH (show ∀W:World,w.heap.size≤W.heap.size→(∀b,b≠M→b<w.heap.size→W.heap[b]?=w.heap[b]?)→a0Q 3 fcC W (.slice d.A d.cuts.length d.cp) d.cuts from fun W hs hW=>(h.at_.row.keepG (Q:=P) hs (fun b hb hlt=>⟨hW b (h.at_.off b hb).1 hlt,hb⟩)).1)
 have HLT:=jH h.at_.lt;have CC:=jH (fun W=>c1K d.A d.cuts.length d.cp W (by obtain ⟨A2,c2,hv,hc2,_⟩:=h.at_.row.1;injection hv with _ _ hv;omega));have z:¬(64:Int)≤((i0I d.cuts:Nat):Int):=by omega
 have hel:(d.cuts.length+1:Nat)=d.cuts.length+1:=rfl;generalize i0I d.cuts=m at *;obtain ⟨e1,he1⟩:∃e,e=wd.ep+1:=⟨_,rfl⟩;rw [←he1] at HFIN ⊢;have hw:wrap64 (wd.ep+1)=e1:=by rw [he1];unfold wrap64;omega
 obtain ⟨cuts,hcu⟩:∃l,l=d.cuts:=⟨_,rfl⟩;obtain ⟨A,hA⟩:∃l,l=d.A:=⟨_,rfl⟩;obtain ⟨cp,hcp⟩:∃l,l=d.cp:=⟨_,rfl⟩;rw [←hcu] at HFIN HVP CC HC hcl ⊢;rw [←hA,←hcp] at HVP CC HC;have HCL:=jH hcl;have HE1:=jH he1;clear h hP hc hn hf hep hav hcu hA hcp hcl hel
 go_enter Tryz.func60,Tryz.ntmps60
 go_upto_region 4 with (first
  | (go_at_call 131
     refine a0B ?_;intro W1 hW1;have HB1:=jH (show jB w W1 by rw [hW1];exact a0C jR _);have HX1:=jH (show W1.heap[w.heap.size]?=some (.cells #[.int .i64 0,.int .i64 0,.int .i64 0,.int .i64 0,.int .i64 0,.int .i64 0,.int .i64 0,.int .i64 0,.int .i64 0,.int .i64 0,.int .i64 0,.int .i64 0,.int .i64 0] 46 (0,0)) by rw [hW1];exact heap_alloc_new _ _);clear hW1;refine (CL.out W1 HB1.out).mono ?_
     rintro e w2 ⟨rfl,hb2⟩;have HB2:=jH (a0D HB1.out hb2);have HX2:=jH (jK hb2 HX1.out);clear hb2;obtain ⟨y1,y2,y3⟩:=a0A jR HX2.out;obtain ⟨m1,m2,m3⟩:=a0A HB2.out HC.out))
 clear z he1;refine a0J ?_;intro W3 hW3;have HM3:=jH (show W3.heap[M]?=some (.cells #[.int .i64 c.st,.int .i64 c.sa,.int .i64 c.lo,.int .i64 c.hi,.map (some d.L),.slice A cuts.length cp,.int .i64 e1,.bool wd.over] 103 (0,0)) by rw [hW3,HE1.out];exact a0E ((HB2.out.block M HLT.out).trans HC.out));have HX3:=jH (show W3.heap[w.heap.size]?=some (.cells #[.int .i64 0,.int .i64 0,.int .i64 0,.int .i64 0,.int .i64 0,.int .i64 0,.int .i64 0,.int .i64 0,.int .i64 0,.int .i64 0,.int .i64 0,.int .i64 0,.int .i64 0] 46 (0,0)) by rw [hW3];exact a0K HX2.out (by have:=HLT.out;omega))
 have HK3:=jH (show ∀b,b≠M→b<w.heap.size→W3.heap[b]?=w.heap[b]? from fun b hb hlt=>by rw [hW3];exact (a0K rfl hb).trans (HB2.out.block b hlt));have HS3:=jH (show w.heap.size≤W3.heap.size by rw [hW3];have:=HB2.out.size;simpa [World.setCell] using this);have HOS3:=jH (show W3.os=w.os∧W3.tape=w.tape∧W3.output=w.output by rw [hW3];exact ⟨HB2.out.os,HB2.out.tape,HB2.out.output⟩);have HV3:=jH (HVP.out W3 HS3.out HK3.out)
 have CMC:=jH (fun (W:World) (hW:jB W3 W)=>d1F d.L d.es W ((HMP.out W3 HK3.out).below hW));clear hW3 hw y1 y2 y3 m1 m2 m3;have rk:∀U,jB W3 U→∀j,U.cell? ⟨M,j,none⟩=(#[.int .i64 c.st,.int .i64 c.sa,.int .i64 c.lo,.int .i64 c.hi,.map (some d.L),.slice A cuts.length cp,.int .i64 e1,.bool wd.over]:Array Value)[j]?:=fun U hU j=>(a0A hU HM3.out).1 j
 have hS0:jB W3 W3.drew:=jR.drew;refine j0A (S:=(fun U=>jB W3 U)) 20 (by kernel_rfl) ?hS1 (fun hHeld=>?_)
 case hS1=>(first|exact hS0|exact HD7.out|exact HD5.out|exact HD8.out|exact a0C HD8.out _|exact HD9.out)
 refine a0P (i:=0) (v:=?v2) rfl (by kernel_rfl) (by kernel_rfl) (by kernel_rfl) (by kernel_rfl) (fun _ _ _ h=>h) (Or.inl ⟨by rfl,?hy2⟩) (by assumption) ?_
 case hy2 =>
  intro w' hSw
  (try dsimp only at hSw)
  go_simp
  try (with_reducible rfl)
 try simp only [Act.put,jA]
 refine a0P (i:=1) (v:=?v3) rfl (by kernel_rfl) (by kernel_rfl) (by kernel_rfl) (by kernel_rfl) (fun _ _ _ h=>h) (Or.inl ⟨by rfl,?hy3⟩) (by assumption) ?_
 case hy3 =>
  intro w' hSw
  (try dsimp only at hSw)
  go_simp
  try (with_reducible rfl)
 try simp only [Act.put,jA]
 refine a0P (i:=2) (v:=?v4) rfl (by kernel_rfl) (by kernel_rfl) (by kernel_rfl) (by kernel_rfl) (fun _ _ _ h=>h) (Or.inl ⟨by rfl,?hy4⟩) (by assumption) ?_
 case hy4 =>
  intro w' hSw
  (try dsimp only at hSw)
  go_simp
  try (with_reducible rfl)
 try simp only [Act.put,jA]
 refine a0P (i:=3) (v:=?v5) rfl (by kernel_rfl) (by kernel_rfl) (by kernel_rfl) (by kernel_rfl) (fun _ _ _ h=>h) (Or.inl ⟨by rfl,?hy5⟩) (by assumption) ?_
 case hy5 =>
  intro w' hSw
  (try dsimp only at hSw)
  go_simp
  try (with_reducible rfl)
 try simp only [Act.put,jA]
 refine a0P (i:=4) (v:=?v6) rfl (by kernel_rfl) (by kernel_rfl) (by kernel_rfl) (by kernel_rfl) (fun _ _ _ h=>h) (Or.inl ⟨by rfl,?hy6⟩) (by assumption) ?_
 case hy6 =>
  intro w' hSw
  (try dsimp only at hSw)
  go_simp
  try (with_reducible rfl)
 try simp only [Act.put,jA]
 refine a0P (i:=6) (v:=?v7) rfl (by kernel_rfl) (by kernel_rfl) (by kernel_rfl) (by kernel_rfl) (fun _ _ _ h=>h) (Or.inl ⟨by rfl,?hy7⟩) (by assumption) ?_
 case hy7 =>
  intro w' hSw
  (try dsimp only at hSw)
  go_simp
  try (with_reducible rfl)
 try simp only [Act.put,jA]
 refine a0P (i:=7) (v:=?v8) rfl (by kernel_rfl) (by kernel_rfl) (by kernel_rfl) (by kernel_rfl) (fun _ _ _ h=>h) (Or.inl ⟨by rfl,?hy8⟩) (by assumption) ?_
 case hy8 =>
  intro w' hSw
  (try dsimp only at hSw)
  go_simp
  try (with_reducible rfl)
 try simp only [Act.put,jA]
 refine a0P (i:=8) (v:=?v9) rfl (by kernel_rfl) (by kernel_rfl) (by kernel_rfl) (by kernel_rfl) (fun _ _ _ h=>h) (Or.inl ⟨by rfl,?hy9⟩) (by assumption) ?_
 case hy9 =>
  intro w' hSw
  (try dsimp only at hSw)
  go_simp
  try (with_reducible rfl)
 try simp only [Act.put,jA]
 refine a0P (i:=9) (v:=?v10) rfl (by kernel_rfl) (by kernel_rfl) (by kernel_rfl) (by kernel_rfl) (fun _ _ _ h=>h) (Or.inl ⟨by rfl,?hy10⟩) (by assumption) ?_
 case hy10 =>
  intro w' hSw
  (try dsimp only at hSw)
  go_simp
  try (with_reducible rfl)
 try simp only [Act.put,jA]
 refine a0P (i:=10) (v:=?v11) rfl (by kernel_rfl) (by kernel_rfl) (by kernel_rfl) (by kernel_rfl) (fun _ _ _ h=>h) (Or.inl ⟨by rfl,?hy11⟩) (by assumption) ?_
 case hy11 =>
  intro w' hSw
  (try dsimp only at hSw)
  go_simp
  try (with_reducible rfl)
 try simp only [Act.put,jA]
 refine a0P (i:=11) (v:=?v12) rfl (by kernel_rfl) (by kernel_rfl) (by kernel_rfl) (by kernel_rfl) (fun _ _ _ h=>h) (Or.inl ⟨by rfl,?hy12⟩) (by assumption) ?_
 case hy12 =>
  intro w' hSw
  (try dsimp only at hSw)
  go_simp
  try (with_reducible rfl)
 try simp only [Act.put,jA]
 refine a0P (i:=12) (v:=?v13) rfl (by kernel_rfl) (by kernel_rfl) (by kernel_rfl) (by kernel_rfl) (fun _ _ _ h=>h) (Or.inl ⟨by rfl,?hy13⟩) (by assumption) ?_
 case hy13 =>
  intro w' hSw
  (try dsimp only at hSw)
  go_simp
  try (with_reducible rfl)
 try simp only [Act.put,jA]
 refine a0P (i:=13) (v:=?v14) rfl (by kernel_rfl) (by kernel_rfl) (by kernel_rfl) (by kernel_rfl) (fun _ _ _ h=>h) (Or.inl ⟨by rfl,?hy14⟩) (by assumption) ?_
 case hy14 =>
  intro w' hSw
  (try dsimp only at hSw)
  go_simp
  try (with_reducible rfl)
 try simp only [Act.put,jA]
 refine c0V (i:=5) (by kernel_rfl) rfl (fun K hK=>?_);go_simp
 (go_at_call 132
  refine a0B ?_;intro V hV;have hd:jB W3 V:=by rw [hV];first|exact jR.drew|exact jR
  skip;clear hV;refine (CC.out V).mono ?_;rintro e w7 ⟨rfl,rfl⟩;have HD7:=jH hd
  skip;clear hd)
 try go_simp
 refine hK.out _ _ ?hS15 (fun hHeld2=>?_)
 case hS15 =>
  intro _
  (first|exact hS0|exact HD7.out|exact HD5.out|exact HD8.out|exact a0C HD8.out _|exact HD9.out)
 clear hK K hHeld;have hHeld:=hHeld2 (by kernel_rfl);clear hHeld2
 try simp only [Act.put,jA]
 refine c0V (i:=14) (by kernel_rfl) rfl (fun K hK=>?_);go_simp
 (go_at_call 71
  refine a0B ?_;intro V hV;have hd:jB W3 V:=by rw [hV];first|exact HD7.out|exact HD7.out.drew
  clear hV;refine (CMC.out V hd).mono ?_;rintro e w8 ⟨rfl,hm5,hb5⟩;have HD8:=jH (a0D hd hb5);have HM8:=jH hm5;have HL6:=jH hd.size;obtain ⟨b6,hb6⟩:∃b,b=V.heap.size:=⟨_,rfl⟩;rw [←hb6] at HM8 HL6 ⊢;clear hb6 hd hm5 hb5)
 try go_simp
 refine hK.out _ _ ?hS16 (fun hHeld2=>?_)
 case hS16 =>
  intro _
  (first|exact hS0|exact HD7.out|exact HD5.out|exact HD8.out|exact a0C HD8.out _|exact HD9.out)
 clear hK K hHeld;have hHeld:=hHeld2 (by kernel_rfl);clear hHeld2
 try simp only [Act.put,jA]
 refine a0P (i:=15) (v:=?v17) rfl (by kernel_rfl) (by kernel_rfl) (by kernel_rfl) (by kernel_rfl) (fun _ _ _ h=>h) (Or.inl ⟨by rfl,?hy17⟩) (by assumption) ?_
 case hy17 =>
  intro w' hSw
  (try dsimp only at hSw)
  go_simp
  try (with_reducible rfl)
 try simp only [Act.put,jA]
 refine c0V (i:=16) (by kernel_rfl) rfl (fun K hK=>?_);go_simp
 skip
 try go_simp
 refine hK.out _ _ ?hS18 (fun hHeld2=>?_)
 case hS18 =>
  intro _
  (first|exact hS0|exact HD7.out|exact HD5.out|exact HD8.out|exact a0C HD8.out _|exact HD9.out)
 clear hK K hHeld;have hHeld:=hHeld2 (by kernel_rfl);clear hHeld2
 try simp only [Act.put,jA]
 refine c0V (i:=17) (by kernel_rfl) rfl (fun K hK=>?_)
 (refine t0Z eFc (by rfl) (.tmp 19) (.tmp 30) (by rfl) cuts [(⟨e1,some b6,d.es,false⟩:p0W)] A _ (by rfl) (by rfl) (a0Q.clip (HV3.out.below (a0C HD8.out _))) (a0Q.lit (n:=3) (f:=fcC) w8 (⟨e1,some b6,d.es,false⟩:p0W) _ _ _ rfl rfl) (by simp) (by have:=HCL.out;simp;omega) ?_
  intro out c9 w9 hout hown hb9;rw [show (w8.alloc (.cells #[.int .i64 e1,.map (some b6),.bool false] 136)).heap.size=w8.heap.size+1 by simp] at hown;have HO9:=jH hown;have HE9:=jH hout;have HD9:=jH (a0D (a0C HD8.out (.cells #[.int .i64 e1,.map (some b6),.bool false] 136)) hb9);have HM9:=jH (HM8.out.below (a0D (a0C jR (.cells #[.int .i64 e1,.map (some b6),.bool false] 136)) hb9));have HS9:=jH (show w.heap.size≤w8.heap.size+1 from Nat.le_succ_of_le (Nat.le_trans HS3.out HD8.out.size))
  obtain ⟨k1,k2,k3⟩:=a0A HD9.out HM3.out;clear hown hout hb9)
 refine hK.out _ _ ?hS19 (fun hHeld2=>?_)
 case hS19 =>
  intro _
  (first|exact hS0|exact HD7.out|exact HD5.out|exact HD8.out|exact a0C HD8.out _|exact HD9.out)
 clear hK K hHeld;have hHeld:=hHeld2 (by kernel_rfl);clear hHeld2
 try simp only [Act.put,jA]
 refine a0P (i:=18) (v:=?v20) rfl (by kernel_rfl) (by kernel_rfl) (by kernel_rfl) (by kernel_rfl) (fun _ _ _ h=>h) (Or.inl ⟨by rfl,?hy20⟩) (by assumption) ?_
 case hy20 =>
  intro w' hSw
  (try dsimp only at hSw)
  go_simp
  try (with_reducible rfl)
 try simp only [Act.put,jA]
 refine a0P (i:=19) (v:=?v21) rfl (by kernel_rfl) (by kernel_rfl) (by kernel_rfl) (by kernel_rfl) (fun _ _ _ h=>h) (Or.inl ⟨by rfl,?hy21⟩) (by assumption) ?_
 case hy21 =>
  intro w' hSw
  (try dsimp only at hSw)
  go_simp
  try (with_reducible rfl)
 try simp only [Act.put,jA]
 refine c0V (i:=20) (by kernel_rfl) rfl (fun K hK=>?_);go_simp
 skip
 try go_simp
 refine hK.out _ _ ?hS22 (fun hHeld2=>?_)
 case hS22=>exact fun h=>nomatch (show (true:Bool)=false from h)
 clear hK K hHeld hHeld2
 try simp only [Act.put,jA]
 refine i0R (by kernel_rfl) ?_ _;refine a0Y ?_;intro W9 hW9;have HM10:=jH (show W9.heap[M]?=some (.cells #[.int .i64 c.st,.int .i64 c.sa,.int .i64 c.lo,.int .i64 c.hi,.map (some d.L),.slice (some ⟨w8.heap.size+1,0,none⟩) out.length c9,.int .i64 e1,.bool wd.over] 103 (0,0)) by rw [hW9];exact a0E ((HD9.out.block M (jL HM3.out)).trans HM3.out));have hRM:w.heap.size≠M:=by have:=HLT.out;omega
 have hX9:=jK HD9.out HX3.out;have HX10:=jH ((show W9.heap[w.heap.size]?=w9.heap[w.heap.size]? by rw [hW9];exact a0K rfl hRM).trans hX9);have HK10:=jH (show ∀b,b≠M→b<w.heap.size→W9.heap[b]?=w.heap[b]? from fun b hb hlt=>by rw [hW9];exact ((a0K rfl hb).trans (HD9.out.block b (Nat.lt_of_lt_of_le hlt HS3.out))).trans (HK3.out b hb hlt));have HZ10:=jH (show W9.heap.size=w9.heap.size by simp [hW9,World.setCell])
 have HOS10:=jH (show W9.os=w.os∧W9.tape=w.tape∧W9.output=w.output by rw [hW9];exact ⟨HD9.out.os.trans HOS3.out.1,HD9.out.tape.trans HOS3.out.2.1,HD9.out.output.trans HOS3.out.2.2⟩);have hMlt:M<W3.heap.size:=(jL HM3.out);have HR10:=jH (show w.heap.size<W3.heap.size from (jL HX3.out));have HMM10:=jH (show a0V skV ldV W9 b6 d.es from HM9.out.block (by rw [hW9];exact a0K rfl (by have:=HL6.out;omega)))
 have HOW10:=jH (show b0Q fcC 136 3 (w8.heap.size+1) W9 (.slice (some ⟨w8.heap.size+1,0,none⟩) out.length c9) out from HO9.out.kept (fun r hr=>by rw [hW9];exact a0K rfl (by have hr2:w8.heap.size+1=r:=(by simpa [Value.ownBlock] using hr);have:=HD8.out.size;omega)));clear hW9 hRM hX9 hMlt k1 k2 k3 rk hS0
 go_upto_region 5 with fail
 obtain ⟨y1,y2,y3⟩:=a0A jR HX10.out;obtain ⟨m1,m2,m3⟩:=a0A jR HM10.out
 go_region
 go_wp2_with fail
 refine a0H ?_;intro V9 hV9;have hV9':V9=(c0T W9 w.heap.size 0 (b0E ⟨0,e1,((out.length:Nat):Int),st0,b0O⟩)).drew:=hV9;obtain ⟨U,hU⟩:∃U,U=c0T W9 w.heap.size 0 (b0E ⟨0,e1,((out.length:Nat):Int),st0,b0O⟩):=⟨_,rfl⟩;rw [←hU] at hV9';obtain ⟨t1,t2,t3,t4⟩:=a0M HX10.out (b0E ⟨0,e1,((out.length:Nat):Int),st0,b0O⟩) rfl U hU;obtain ⟨a9,a8,a7⟩:=a0A (show jB U V9 by rw [hV9'];exact jR.drew) t1
 clear hV9;have hr3:=HR10.out;have hl6:=HL6.out;have hd8:=HD8.out.size;have hfin:=HFIN.out W9 V9 (some ⟨w8.heap.size+1,0,none⟩) c9 b6 (by rw [HZ10.out];exact Nat.le_trans HS3.out HD9.out.size) HK10.out (by omega) HMM10.out (by rw [←HE9.out];exact HM10.out) (by rw [←HE9.out];exact (d0G.own eFc HOW10.out).imp (fun b hb=>by omega)) HOS10.out.1 HOS10.out.2.1 HOS10.out.2.2 (fun k hk=>by rw [hV9'];exact t2 k hk) (by rw [hV9'];exact t3) (fun n hn=>by rw [hV9'];exact (t4 n hn).drew)
 have hlen:out.length=cuts.length+1:=by rw [HE9.out];simp
 rw [←hlen] at hfin ⊢;exact bodyPost_ret (v:=a0X ⟨0,e1,((out.length:Nat):Int),st0,b0O⟩) (by simp [results,Tryz.results60,go_sem,a9,a0X,b0E,st0,b0O]) rfl hfin
theorem c1X {P:Nat→Prop} {w:World} {M:Nat} {c:Cfg} {rs rh n:Nat} {wd:Wd} {d:b0J} (h:FW P w M c rs rh n wd d) (hP:∀b,w.heap.size≤b→P b) (hc:b0S c rs rh) (hn:n≤100000) :
 Calls Tryz.prog 60 #[.pointer (some ⟨M,0,none⟩)] w (b0H P w M c rs rh (n+1) d.L (a0X (h0S wd).2) (h0S wd).1):=by
 have hl:=t0B h.at_.tof0O (fun q hq=>(h.ok.cep q hq).1);unfold h0S
 by_cases hf:64≤i0I d.cuts
 · rw [if_pos (by rw [←hl];exact hf)]
   refine (v0B h hn hf).mono ?_;rintro e w' ⟨rfl,hb⟩;exact h.same (Nat.le_succ _) hb
 · rw [if_neg (by rw [←hl];exact hf)]
   have h9:=h1G h hP hc hn hf;rw [h.at_.len] at h9;exact h9
end
end Go.Proofs.YtmniiodpbebnmaaGreat
