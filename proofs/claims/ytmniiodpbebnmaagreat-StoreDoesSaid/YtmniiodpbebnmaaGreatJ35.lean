/- Part 35 of the proof. -/
import Derived.Test.YtmniiodpbebnmaaGreatJ34
namespace Go.Proofs.YtmniiodpbebnmaaGreat
set_option linter.unusedSimpArgs false
set_option linter.unusedVariables false
set_option linter.unusedSectionVars false
set_option maxRecDepth 100000
set_option maxHeartbeats 16000000
section
open Go.RowKit Go.Lib
theorem b1S {c:Cfg} {rs rh n:Nat} {x:WdH} (hk:g0B c rs rh n (c0O x)) (hst:c.st≤64):x.st.length≤64∧(u0E x).length≤16384∧∀z∈u0E x,n0Z rs rh n (c0X z):=by
 refine ⟨?_,?_,fun z hz=>?_⟩
 · have:=hk.len
   simp [c0O] at this
   omega
 · have:=d1H hk hst
   rw [←n0X,List.length_map] at this;exact this
 · exact z0Z hk _ (by rw [←n0X];exact List.mem_map.2 ⟨z,hz,rfl⟩)
theorem o0W (P:Nat→Prop) (c:Cfg) (rs rh n:Nat) (x:WdH) (id:ByteArray) (w:World) (hP:∀b,w.heap.size≤b→P b) (hx:d0U P w x) (hst:c.st≤64) (hk:g0B c rs rh n (c0O x)) (hm:id.size≤maxLen) :
 ∃ (y:It) (b:Bool),m0H (c0O x) id=(if b=true then some y.nd else none)∧(b=true→a0O 2 b0X w (.slice y.sA y.nd.smp.length y.sc) y.nd.smp∧a0O 5 c0V w (.slice y.pA y.nd.past.length y.pc) y.nd.past∧n0Z rs rh n (c0X y)) ∧
   ∀W,jB w W→Calls Tryz.prog 68 #[.agg #[.int .i64 c.st,.int .i64 c.sa,.int .i64 c.lo,.int .i64 c.hi,.slice x.sA x.st.length x.sc,.slice x.cA x.cuts.length x.cc,.int .i64 x.ep,.bool x.over],.string id] W (jP W (.tuple #[.agg #[.slice y.sA y.nd.smp.length y.sc,.slice y.pA y.nd.past.length y.pc,.int .i64 y.nd.pol.mn,.int .i64 y.nd.pol.mx,.int .i64 y.nd.pol.tg,.int .i64 y.nd.pol.tol,.int .i64 y.nd.pol.win,.int .i64 y.nd.pol.hold,.bool y.nd.ruled,.int .i64 (y.nd.ver:Nat)],.bool b])):=by
 obtain ⟨h1,h2,h3⟩:=b1S hk hst;refine ⟨(q0J x id).getD it0,(q0J x id).isSome,?_,fun hb=>?_,fun W hW=>f1Q P c x id W (fun b hb=>hP b (Nat.le_trans hW.size hb)) (hx.below hW) h1 (by omega) (fun z hz=>(h3 z hz).key) hm⟩
 · rw [←m1X]
   cases q0J x id <;> rfl
 · cases hl:q0J x id with
   | none=>rw [hl] at hb;cases hb
   | some y =>
     obtain ⟨h4,h5⟩:=p1T hx hl;exact ⟨h4.1.1,h4.2.1,h3 y h5⟩
theorem r0W (P:Nat→Prop) (c:Cfg) (rs rh n:Nat) (x:WdH) (id:ByteArray) (w:World) (hP:∀b,w.heap.size≤b→P b) (hx:d0U P w x) (hst:c.st≤64) (hk:g0B c rs rh n (c0O x)) (hr:rs≤1000000∧rh≤1000000) (hm:id.size≤maxLen) :
 Calls Tryz.prog 48 #[.agg (wdC c x).toArray,.string id] w (jP w (.tuple #[.agg (c0V (d0K (c0O x) id).1).toArray,.int .i64 (d0K (c0O x) id).2])):=by
 obtain ⟨y,b,hy,hin,hcl⟩:=o0W P c rs rh n x id w hP hx hst hk hm;have CL:=jH hcl;obtain ⟨a,ha⟩:∃a,a=d0K (c0O x) id:=⟨_,rfl⟩;rw [←ha];unfold d0K at ha;rw [hy] at ha;clear hP hx hst hk hm hcl hy;unfold wdC
 cases b
 · rw [if_neg (by decide)] at ha
   dsimp only at ha;rw [ha];clear ha hin
   go_enter Tryz.func48,Tryz.ntmps48
   go_wp2_with (first
   | (go_at_call 68
      refine a0B ?_;intro W1 hW1;obtain ⟨k0,k1,hs,hb⟩:=c0Y w _ _ W1 hW1;clear hW1;refine (CL.out W1 hb).mono ?_;rintro e w2 ⟨rfl,hb2⟩;have HY2:=jH (jK hb2 k1);have HB2:=jH (a0D hb hb2);have HX2:=jH (jK hb2 k0);obtain ⟨b1,b2,b3⟩:=a0A jR HY2.out;obtain ⟨bx1,bx2,bx3⟩:=a0A jR HX2.out;clear k0 k1 hs hb hb2))
   refine a0H ?_;intro W4 hW4;have hW4':W4=(b0J w2 (w.heap.size+1) 0 [.int .i64 0,.int .i64 0,.int .i64 0,.int .i64 0,.int .i64 0]).alloc (.cells #[.slice y.sA y.nd.smp.length y.sc,.slice y.pA y.nd.past.length y.pc,.int .i64 y.nd.pol.mn,.int .i64 y.nd.pol.mx,.int .i64 y.nd.pol.tg,.int .i64 y.nd.pol.tol,.int .i64 y.nd.pol.win,.int .i64 y.nd.pol.hold,.bool y.nd.ruled,.int .i64 (y.nd.ver:Nat)] 128 (0,0)):=hW4
   obtain ⟨S,hS⟩:∃S,S=b0J w2 (w.heap.size+1) 0 [.int .i64 0,.int .i64 0,.int .i64 0,.int .i64 0,.int .i64 0]:=⟨_,rfl⟩;rw [←hS] at hW4';obtain ⟨s1,s2,s3,s4⟩:=a0P HY2.out [.int .i64 0,.int .i64 0,.int .i64 0,.int .i64 0,.int .i64 0] rfl S hS;obtain ⟨a9,a8,a7⟩:=a0A (w1:=W4) (by rw [hW4'];exact a0C jR _) s1;have hb5:jB w W4:=by rw [hW4'];exact a0C (HB2.out.trans (s4 w.heap.size (by omega))) _
   clear hW4 hW4';exact bodyPost_ret (v:=.tuple #[.agg #[.int .i64 0,.int .i64 0,.int .i64 0,.int .i64 0,.int .i64 0],.int .i64 5]) (by simp [results,Tryz.results48,go_sem,a9]) rfl ⟨rfl,hb5⟩
 · rw [if_pos rfl] at ha
   dsimp only at ha;obtain ⟨h1,h2,h3⟩:=hin rfl
   cases hru:y.nd.ruled
   · rw [hru,if_neg (by decide)] at ha
     rw [ha];have HRU:=jH hru;clear ha hin h1 h2 h3;rw [hru] at CL;clear hru
     go_enter Tryz.func48,Tryz.ntmps48
     go_wp2_with (first
   | (go_at_call 68
      refine a0B ?_;intro W1 hW1;obtain ⟨k0,k1,hs,hb⟩:=c0Y w _ _ W1 hW1;clear hW1;refine (CL.out W1 hb).mono ?_;rintro e w2 ⟨rfl,hb2⟩;have HY2:=jH (jK hb2 k1);have HB2:=jH (a0D hb hb2);have HX2:=jH (jK hb2 k0);obtain ⟨b1,b2,b3⟩:=a0A jR HY2.out;obtain ⟨bx1,bx2,bx3⟩:=a0A jR HX2.out;clear k0 k1 hs hb hb2))
     refine a0H ?_;intro W4 hW4;have hW4':W4=(b0J w2 (w.heap.size+1) 0 [.int .i64 0,.int .i64 0,.int .i64 0,.int .i64 0,.int .i64 0]).alloc (.cells #[.slice y.sA y.nd.smp.length y.sc,.slice y.pA y.nd.past.length y.pc,.int .i64 y.nd.pol.mn,.int .i64 y.nd.pol.mx,.int .i64 y.nd.pol.tg,.int .i64 y.nd.pol.tol,.int .i64 y.nd.pol.win,.int .i64 y.nd.pol.hold,.bool false,.int .i64 (y.nd.ver:Nat)] 128 (0,0)):=hW4
     obtain ⟨S,hS⟩:∃S,S=b0J w2 (w.heap.size+1) 0 [.int .i64 0,.int .i64 0,.int .i64 0,.int .i64 0,.int .i64 0]:=⟨_,rfl⟩;rw [←hS] at hW4';obtain ⟨s1,s2,s3,s4⟩:=a0P HY2.out [.int .i64 0,.int .i64 0,.int .i64 0,.int .i64 0,.int .i64 0] rfl S hS;obtain ⟨a9,a8,a7⟩:=a0A (w1:=W4) (by rw [hW4'];exact a0C jR _) s1;have hb5:jB w W4:=by rw [hW4'];exact a0C (HB2.out.trans (s4 w.heap.size (by omega))) _
     clear hW4 hW4';exact bodyPost_ret (v:=.tuple #[.agg #[.int .i64 0,.int .i64 0,.int .i64 0,.int .i64 0,.int .i64 0],.int .i64 5]) (by simp [results,Tryz.results48,go_sem,a9]) rfl ⟨rfl,hb5⟩
   · rw [hru,if_pos rfl] at ha
     rw [hru] at CL;clear hru hin;obtain ⟨p,hp⟩:∃p,p=y.nd.pol:=⟨_,rfl⟩;have CO:=jH (fun (W:World) (hW:jB w W)=>show Calls Tryz.prog 111 #[.agg #[.int .i64 y.nd.pol.mn,.int .i64 y.nd.pol.mx,.int .i64 y.nd.pol.tg,.int .i64 y.nd.pol.tol,.int .i64 y.nd.pol.win,.int .i64 y.nd.pol.hold],.slice y.sA y.nd.smp.length y.sc,.slice y.pA y.nd.past.length y.pc] W (jP W (.tuple #[.agg #[.int .i64 a.1.tick,.int .i64 a.1.load,.int .i64 a.1.want,.int .i64 a.1.repl,.int .i64 a.1.why],.int .i64 a.2])) from by
      have h9:=y0O y.nd.pol y.nd.smp y.nd.past _ _ W (h1.below hW) (h2.below hW) (by have:=h3.nd.len;dsimp only [c0X] at this;omega) (by have:=h3.nd.past;dsimp only [c0X] at this;omega) h3.smp h3.pol;rw [←ha] at h9;exact h9)
     clear ha h1 h2 h3 hp;dsimp only [c0V]
     go_enter Tryz.func48,Tryz.ntmps48
     go_wp2_with (first
   | (go_at_call 68
      refine a0B ?_;intro W1 hW1;obtain ⟨k0,k1,hs,hb⟩:=c0Y w _ _ W1 hW1;clear hW1;refine (CL.out W1 hb).mono ?_;rintro e w2 ⟨rfl,hb2⟩;have HY2:=jH (jK hb2 k1);have HB2:=jH (a0D hb hb2);have HX2:=jH (jK hb2 k0);obtain ⟨b1,b2,b3⟩:=a0A jR HY2.out;obtain ⟨bx1,bx2,bx3⟩:=a0A jR HX2.out;clear k0 k1 hs hb hb2)
   | (go_at_call 111
      refine a0B ?_;intro W4 hW4;have hb4:jB w2 W4:=by rw [hW4];exact a0C jR _
      clear hW4;refine (CO.out W4 (a0D HB2.out hb4)).mono ?_;rintro e w5 ⟨rfl,hb5⟩;have HY5:=jH (jK (a0D hb4 hb5) HY2.out);have HB5:=jH (a0D HB2.out (a0D hb4 hb5));obtain ⟨d1,d2,d3⟩:=a0A jR HY5.out;clear hb4 hb5 b1 b2 b3))
     refine a0H ?_;intro W4 hW4;have hW4':W4=b0J w5 (w.heap.size+1) 0 [.int .i64 a.1.tick,.int .i64 a.1.load,.int .i64 a.1.want,.int .i64 a.1.repl,.int .i64 a.1.why]:=hW4;obtain ⟨s1,s2,s3,s4⟩:=a0P HY5.out [.int .i64 a.1.tick,.int .i64 a.1.load,.int .i64 a.1.want,.int .i64 a.1.repl,.int .i64 a.1.why] rfl W4 hW4';obtain ⟨a9,a8,a7⟩:=a0A jR s1;have hb5:=HB5.out.trans (s4 w.heap.size (by omega))
     clear hW4 hW4';exact bodyPost_ret (v:=.tuple #[.agg #[.int .i64 a.1.tick,.int .i64 a.1.load,.int .i64 a.1.want,.int .i64 a.1.repl,.int .i64 a.1.why],.int .i64 a.2]) (by simp [results,Tryz.results48,go_sem,a9]) rfl ⟨rfl,hb5⟩
theorem h1V (P:Nat→Prop) (c:Cfg) (rs rh n:Nat) (x:WdH) (id:ByteArray) (w:World) (hP:∀b,w.heap.size≤b→P b) (hx:d0U P w x) (hst:c.st≤64) (hk:g0B c rs rh n (c0O x)) (hr:rs≤1000000∧rh≤1000000) (hm:id.size≤maxLen) :
 Calls Tryz.prog 55 #[.agg (wdC c x).toArray,.string id] w (jP w (d0S (g1T (c0O x) id))):=by
 obtain ⟨y,b,hy,hin,hcl⟩:=o0W P c rs rh n x id w hP hx hst hk hm;have CL:=jH hcl;obtain ⟨a,ha⟩:∃a,a=g1T (c0O x) id:=⟨_,rfl⟩;rw [←ha];unfold g1T at ha;rw [hy] at ha;clear hP hx hst hk hm hcl hy;unfold wdC
 cases b
 · rw [if_neg (by decide)] at ha
   dsimp only at ha;rw [ha];clear ha hin
   go_enter Tryz.func55,Tryz.ntmps55
   go_wp2_with (first
   | (go_at_call 68
      refine a0B ?_;intro W1 hW1;obtain ⟨k0,k1,hs,hb⟩:=c0Y w _ _ W1 hW1;clear hW1;refine (CL.out W1 hb).mono ?_;rintro e w2 ⟨rfl,hb2⟩;have HY2:=jH (jK hb2 k1);have HB2:=jH (a0D hb hb2);have HX2:=jH (jK hb2 k0);obtain ⟨b1,b2,b3⟩:=a0A jR HY2.out;obtain ⟨bx1,bx2,bx3⟩:=a0A jR HX2.out;clear k0 k1 hs hb hb2))
   refine a0H ?_;intro W4 hW4;have hW4':W4=(b0J w2 (w.heap.size+1) 0 [.int .i64 5,.int .i64 0,.int .i64 0,.int .i64 0,.int .i64 0,.int .i64 0,.int .i64 0,.int .i64 0,.int .i64 0,.int .i64 0,.int .i64 0,.int .i64 0,.int .i64 0]).alloc (.cells #[.slice y.sA y.nd.smp.length y.sc,.slice y.pA y.nd.past.length y.pc,.int .i64 y.nd.pol.mn,.int .i64 y.nd.pol.mx,.int .i64 y.nd.pol.tg,.int .i64 y.nd.pol.tol,.int .i64 y.nd.pol.win,.int .i64 y.nd.pol.hold,.bool y.nd.ruled,.int .i64 (y.nd.ver:Nat)] 128 (0,0)):=hW4
   obtain ⟨S,hS⟩:∃S,S=b0J w2 (w.heap.size+1) 0 [.int .i64 5,.int .i64 0,.int .i64 0,.int .i64 0,.int .i64 0,.int .i64 0,.int .i64 0,.int .i64 0,.int .i64 0,.int .i64 0,.int .i64 0,.int .i64 0,.int .i64 0]:=⟨_,rfl⟩;rw [←hS] at hW4';obtain ⟨s1,s2,s3,s4⟩:=a0P HY2.out [.int .i64 5,.int .i64 0,.int .i64 0,.int .i64 0,.int .i64 0,.int .i64 0,.int .i64 0,.int .i64 0,.int .i64 0,.int .i64 0,.int .i64 0,.int .i64 0,.int .i64 0] rfl S hS
   obtain ⟨a9,a8,a7⟩:=a0A (w1:=W4) (by rw [hW4'];exact a0C jR _) s1;have hb5:jB w W4:=by rw [hW4'];exact a0C (HB2.out.trans (s4 w.heap.size (by omega))) _
   clear hW4 hW4';exact bodyPost_ret (v:=.agg #[.int .i64 5,.int .i64 0,.int .i64 0,.int .i64 0,.int .i64 0,.int .i64 0,.int .i64 0,.int .i64 0,.int .i64 0,.int .i64 0,.int .i64 0,.int .i64 0,.int .i64 0]) (by simp [results,Tryz.results55,go_sem,a9]) rfl ⟨rfl,hb5⟩
 · rw [if_pos rfl] at ha
   dsimp only at ha;obtain ⟨h1,h2,h3⟩:=hin rfl;have hpl:y.nd.past.length≤1000000:=by have:=h3.nd.past;dsimp only [c0X] at this;omega
   clear hin h1 h3;obtain ⟨m,hm⟩:∃m,m=y.nd.past.length:=⟨_,rfl⟩
   by_cases h0:m=0
   · have he:y.nd.past=[]:=List.length_eq_zero_iff.1 (by omega)
     rw [he] at ha;have ha:a=c0N 0:=ha;rw [ha];rw [←hm] at CL;subst h0;clear hm h2 ha he hpl
     go_enter Tryz.func55,Tryz.ntmps55
     go_wp2_with (first
   | (go_at_call 68
      refine a0B ?_;intro W1 hW1;obtain ⟨k0,k1,hs,hb⟩:=c0Y w _ _ W1 hW1;clear hW1;refine (CL.out W1 hb).mono ?_;rintro e w2 ⟨rfl,hb2⟩;have HY2:=jH (jK hb2 k1);have HB2:=jH (a0D hb hb2);have HX2:=jH (jK hb2 k0);obtain ⟨b1,b2,b3⟩:=a0A jR HY2.out;obtain ⟨bx1,bx2,bx3⟩:=a0A jR HX2.out;clear k0 k1 hs hb hb2))
     refine a0H ?_;intro W4 hW4;have hW4':W4=(b0J w2 (w.heap.size+1) 0 [.int .i64 0,.int .i64 0,.int .i64 0,.int .i64 0,.int .i64 0,.int .i64 0,.int .i64 0,.int .i64 0,.int .i64 0,.int .i64 0,.int .i64 0,.int .i64 0,.int .i64 0]).alloc (.cells #[.slice y.sA y.nd.smp.length y.sc,.slice y.pA 0 y.pc,.int .i64 y.nd.pol.mn,.int .i64 y.nd.pol.mx,.int .i64 y.nd.pol.tg,.int .i64 y.nd.pol.tol,.int .i64 y.nd.pol.win,.int .i64 y.nd.pol.hold,.bool y.nd.ruled,.int .i64 (y.nd.ver:Nat)] 128 (0,0)):=hW4
     obtain ⟨S,hS⟩:∃S,S=b0J w2 (w.heap.size+1) 0 [.int .i64 0,.int .i64 0,.int .i64 0,.int .i64 0,.int .i64 0,.int .i64 0,.int .i64 0,.int .i64 0,.int .i64 0,.int .i64 0,.int .i64 0,.int .i64 0,.int .i64 0]:=⟨_,rfl⟩;rw [←hS] at hW4';obtain ⟨s1,s2,s3,s4⟩:=a0P HY2.out [.int .i64 0,.int .i64 0,.int .i64 0,.int .i64 0,.int .i64 0,.int .i64 0,.int .i64 0,.int .i64 0,.int .i64 0,.int .i64 0,.int .i64 0,.int .i64 0,.int .i64 0] rfl S hS
     obtain ⟨a9,a8,a7⟩:=a0A (w1:=W4) (by rw [hW4'];exact a0C jR _) s1;have hb5:jB w W4:=by rw [hW4'];exact a0C (HB2.out.trans (s4 w.heap.size (by omega))) _
     clear hW4 hW4';exact bodyPost_ret (v:=.agg #[.int .i64 0,.int .i64 0,.int .i64 0,.int .i64 0,.int .i64 0,.int .i64 0,.int .i64 0,.int .i64 0,.int .i64 0,.int .i64 0,.int .i64 0,.int .i64 0,.int .i64 0]) (by simp [results,Tryz.results55,go_sem,a9]) rfl ⟨rfl,hb5⟩
   · have hlt:m - 1<y.nd.past.length:=by omega
     have hgl:y.nd.past.getLast?=some y.nd.past[m - 1]:=by rw [List.getLast?_eq_getElem?,List.getElem?_eq_getElem (by omega)];congr 2;omega
     rw [hgl] at ha;dsimp only at ha;obtain ⟨pb,po,hpA,hpb,hpc⟩:=h2.at_ hlt;rw [←hm,hpA] at CL;obtain ⟨v,hv⟩:∃v,v=y.nd.past[m - 1]:=⟨_,rfl⟩;rw [←hv] at ha hpc;have HPC:=jH hpc;obtain ⟨k,hk9⟩:∃k,k=m - 1:=⟨_,rfl⟩;rw [←hk9] at HPC;have z0:((m:Int) == 0)=false:=by simp;omega
     have z0b:decide ((m:Int)=0)=false:=by simp;omega
     have z1:IntKind.i64.wrap ((m:Int) - 1)=(k:Int):=by rw [IntKind.wrap_i64];omega
     have z1b:wrap64 ((m:Int) - 1)=(k:Int):=by unfold wrap64;omega
     have z2:(0:Int)≤(k:Int):=by omega
     have z3:(k:Int)<(m:Int):=by omega
     have HPB:=jH hpb;rw [ha];clear ha hpc hv hgl hlt hm h2 hk9 h0 hpb hpA;unfold d0S e0I;dsimp only [st0];obtain ⟨vt,vl,vw,vr,vy⟩:=v;dsimp only at HPC ⊢
     go_enter Tryz.func55,Tryz.ntmps55
     go_wp2_with (first
   | (go_at_call 68
      refine a0B ?_;intro W1 hW1;obtain ⟨k0,k1,hs,hb⟩:=c0Y w _ _ W1 hW1;clear hW1;refine (CL.out W1 hb).mono ?_;rintro e w2 ⟨rfl,hb2⟩;have HY2:=jH (jK hb2 k1);have HB2:=jH (a0D hb hb2);have HX2:=jH (jK hb2 k0);obtain ⟨b1,b2,b3⟩:=a0A jR HY2.out;obtain ⟨bx1,bx2,bx3⟩:=a0A jR HX2.out;have c0:=(HB2.out.cell (p:=⟨pb,_,none⟩) HPB.out).trans (HPC.out 0 _ rfl);have c1:=(HB2.out.cell (p:=⟨pb,_,none⟩) HPB.out).trans (HPC.out 1 _ rfl)
      have c2:=(HB2.out.cell (p:=⟨pb,_,none⟩) HPB.out).trans (HPC.out 2 _ rfl);have c3:=(HB2.out.cell (p:=⟨pb,_,none⟩) HPB.out).trans (HPC.out 3 _ rfl);have c4:=(HB2.out.cell (p:=⟨pb,_,none⟩) HPB.out).trans (HPC.out 4 _ rfl);clear k0 k1 hs hb hb2;dsimp only at c0 c1 c2 c3 c4;have c9:pb<w2.heap.size:=Nat.lt_of_lt_of_le HPB.out HB2.out.size;rw [Nat.add_zero] at c0))
     refine a0H ?_;intro W4 hW4;have hW4':W4=(b0J w2 (w.heap.size+1) 0 [.int .i64 0,.int .i64 0,.int .i64 0,.int .i64 0,.int .i64 0,.int .i64 0,.int .i64 0,.int .i64 0,.int .i64 vt,.int .i64 vl,.int .i64 vw,.int .i64 vr,.int .i64 vy]).alloc (.cells #[.slice y.sA y.nd.smp.length y.sc,.slice (some ⟨pb,po,none⟩) m y.pc,.int .i64 y.nd.pol.mn,.int .i64 y.nd.pol.mx,.int .i64 y.nd.pol.tg,.int .i64 y.nd.pol.tol,.int .i64 y.nd.pol.win,.int .i64 y.nd.pol.hold,.bool y.nd.ruled,.int .i64 (y.nd.ver:Nat)] 128 (0,0)):=hW4
     obtain ⟨S,hS⟩:∃S,S=b0J w2 (w.heap.size+1) 0 [.int .i64 0,.int .i64 0,.int .i64 0,.int .i64 0,.int .i64 0,.int .i64 0,.int .i64 0,.int .i64 0,.int .i64 vt,.int .i64 vl,.int .i64 vw,.int .i64 vr,.int .i64 vy]:=⟨_,rfl⟩;rw [←hS] at hW4';obtain ⟨s1,s2,s3,s4⟩:=a0P HY2.out [.int .i64 0,.int .i64 0,.int .i64 0,.int .i64 0,.int .i64 0,.int .i64 0,.int .i64 0,.int .i64 0,.int .i64 vt,.int .i64 vl,.int .i64 vw,.int .i64 vr,.int .i64 vy] rfl S hS
     obtain ⟨a9,a8,a7⟩:=a0A (w1:=W4) (by rw [hW4'];exact a0C jR _) s1;have hb5:jB w W4:=by rw [hW4'];exact a0C (HB2.out.trans (s4 w.heap.size (by omega))) _
     clear hW4 hW4';exact bodyPost_ret (v:=.agg #[.int .i64 0,.int .i64 0,.int .i64 0,.int .i64 0,.int .i64 0,.int .i64 0,.int .i64 0,.int .i64 0,.int .i64 vt,.int .i64 vl,.int .i64 vw,.int .i64 vr,.int .i64 vy]) (by simp [results,Tryz.results55,go_sem,a9]) rfl ⟨rfl,hb5⟩
theorem d0U.old {P:Nat→Prop} {w:World} {x:WdH} (h:d0U P w x):d0U (fun b=>P b∧b<w.heap.size) w x :=
 ⟨h.sr.old,fun s hs=>(h.it s hs).old,h.cr.old,fun s hs=>(h.ct s hs).old⟩
theorem d0U.keepP {P:Nat→Prop} {w w':World} {x:WdH} (h:d0U P w x) (hs:w.heap.size≤w'.heap.size) (hk:∀b,P b→b<w.heap.size→w'.heap[b]?=w.heap[b]?):d0U P w' x :=
 ⟨h.sr.keepP hs hk,fun s hs'=>(h.it s hs').keepP hs hk,h.cr.keepP hs hk,fun s hs'=>(h.ct s hs').keepP hs hk⟩
def Out (P:Nat→Prop) (n0 n1 b:Nat):Prop:=P b∧(b<n0∨n1≤b)
theorem d0U.out {P:Nat→Prop} {w W:World} {x:WdH} (h:d0U P w x) (hb:jB w W):d0U (Out P w.heap.size W.heap.size) W x :=
 (h.old.below hb).imp (fun b hb'=>⟨hb'.1,.inl hb'.2⟩)
theorem k0O {P:Nat→Prop} {n0 n1:Nat} (hP:∀b,n0≤b→P b) (h:n0≤n1) (b:Nat) (hb:n1≤b):Out P n0 n1 b:=⟨hP b (by omega),.inr hb⟩
theorem d0U.home {P:Nat→Prop} {n0 n1:Nat} {w W:World} {x:WdH} (h:d0U (Out P n0 n1) w x) (hs:w.heap.size≤W.heap.size) (hk:∀b,b<n0∨n1≤b→b<w.heap.size→W.heap[b]?=w.heap[b]?):d0U P W x :=
 (h.keepP hs (fun b hb hlt=>hk b hb.2 hlt)).imp (fun b hb=>hb.1)
def q1O (P:Nat→Prop) (w:World) (c:Cfg) (r:Wd × Bool) (e:Ending) (w':World):Prop :=
 ∃x:WdH,e=.returned (.tuple #[.agg (wdC c x).toArray,.bool r.2])∧d0U P w' x∧c0O x=r.1∧jB w w'
theorem g1K (P:Nat→Prop) (c:Cfg) (rs rh n:Nat) (x:WdH) (id:ByteArray) (a:Adv) (w:World) (hP:∀b,w.heap.size≤b→P b) (hx:d0U P w x) (hc:f0Y c rs rh) (hst:e0X c.st=true) (hk:g0B c rs rh n (c0O x)) (hn:n≤100000) (hm:id.size≤maxLen) :
 Calls Tryz.prog 49 #[.agg (wdC c x).toArray,.string id,.agg (c0V a).toArray] w (q1O P w c (j0P c rs rh (c0O x) id a)):=by
 obtain ⟨y,b,hy,hin,hcl⟩:=o0W P c rs rh n x id w hP hx (by have:=c0B _ hst;omega) hk hm;have CL:=jH hcl;have CO:=jH (fun (W:World) (hW:jB w W)=>show Calls Tryz.prog 50 #[.agg #[.int .i64 c.st,.int .i64 c.sa,.int .i64 c.lo,.int .i64 c.hi,.slice x.sA x.st.length x.sc,.slice x.cA x.cuts.length x.cc,.int .i64 x.ep,.bool x.over],.string id,.agg #[.int .i64 3,.int .i64 0,.int .i64 0,.int .i64 0,.int .i64 0,.int .i64 0,.int .i64 0,.int .i64 0,.int .i64 0,.int .i64 a.tick,.int .i64 a.load,.int .i64 a.want,.int .i64 a.repl,.int .i64 a.why]] W (s0H (Out P w.heap.size W.heap.size) W c (u0V c rs rh (c0O x) id ⟨3,(0,0),k0L,a⟩)) from
  o0U (Out P w.heap.size W.heap.size) c rs rh n x id ⟨3,(0,0),k0L,a⟩ W (k0O hP hW.size) (hx.out hW) hc hst hk hn hm (show ¬(3:Int)<0 by decide) (show (3:Int)≠1 by decide) (show ¬(3:Int)<3 by decide))
 have HX:=jH hx;obtain ⟨r,hr⟩:∃r,r=j0P c rs rh (c0O x) id a:=⟨_,rfl⟩;rw [←hr];unfold j0P at hr;rw [hy] at hr;clear hP hx hc hst hk hn hm hcl hy hin;unfold wdC c0V
 cases b
 · rw [if_neg (by decide)] at hr
   dsimp only at hr;have HRR:=jH hr;clear hr CO
   go_enter Tryz.func49,Tryz.ntmps49
   go_wp2_with (first
   | (go_at_call 68
      refine a0B ?_;intro W1 hW1;have hb:jB w W1:=by rw [hW1];exact a0C (a0C (a0C jR _) _) _
      have k0:W1.heap[w.heap.size]?=some (.cells #[.int .i64 c.st,.int .i64 c.sa,.int .i64 c.lo,.int .i64 c.hi,.slice x.sA x.st.length x.sc,.slice x.cA x.cuts.length x.cc,.int .i64 x.ep,.bool x.over] 32 (0,0)):=by rw [hW1];exact f0B _ _ _ _
      have k1:W1.heap[w.heap.size+1]?=some (.cells #[.int .i64 a.tick,.int .i64 a.load,.int .i64 a.want,.int .i64 a.repl,.int .i64 a.why] 44 (0,0)):=by rw [hW1];exact f0X _ _ _ _
      have k2:W1.heap[w.heap.size+1+1]?=some (.cells #[.int .i64 0,.int .i64 0,.int .i64 0,.int .i64 0,.slice none 0 0,.slice none 0 0,.int .i64 0,.bool false] 32 (0,0)):=by rw [hW1];exact f0Q _ _ _ _
      clear hW1;refine (CL.out W1 hb).mono ?_;rintro e w2 ⟨rfl,hb2⟩;have HX2:=jH (jK hb2 k0);have HA2:=jH (jK hb2 k1);have HR2:=jH (jK hb2 k2);have HB2:=jH (a0D hb hb2);obtain ⟨b1,b2,b3⟩:=a0A jR HX2.out;obtain ⟨c1,c2,c3⟩:=a0A jR HA2.out;obtain ⟨d1,d2,d3⟩:=a0A jR HR2.out;clear k0 k1 k2 hb hb2))
   refine a0H ?_;intro W4 hW4;have hW4':W4=(b0J w2 (w.heap.size+1+1) 0 [.int .i64 c.st,.int .i64 c.sa,.int .i64 c.lo,.int .i64 c.hi,.slice x.sA x.st.length x.sc,.slice x.cA x.cuts.length x.cc,.int .i64 x.ep,.bool x.over]).alloc (.cells #[.slice y.sA y.nd.smp.length y.sc,.slice y.pA y.nd.past.length y.pc,.int .i64 y.nd.pol.mn,.int .i64 y.nd.pol.mx,.int .i64 y.nd.pol.tg,.int .i64 y.nd.pol.tol,.int .i64 y.nd.pol.win,.int .i64 y.nd.pol.hold,.bool y.nd.ruled,.int .i64 (y.nd.ver:Nat)] 128 (0,0)):=hW4
   obtain ⟨S,hS⟩:∃S,S=b0J w2 (w.heap.size+1+1) 0 [.int .i64 c.st,.int .i64 c.sa,.int .i64 c.lo,.int .i64 c.hi,.slice x.sA x.st.length x.sc,.slice x.cA x.cuts.length x.cc,.int .i64 x.ep,.bool x.over]:=⟨_,rfl⟩;rw [←hS] at hW4';obtain ⟨s1,s2,s3,s4⟩:=a0P HR2.out [.int .i64 c.st,.int .i64 c.sa,.int .i64 c.lo,.int .i64 c.hi,.slice x.sA x.st.length x.sc,.slice x.cA x.cuts.length x.cc,.int .i64 x.ep,.bool x.over] rfl S hS
   obtain ⟨a9,a8,a7⟩:=a0A (w1:=W4) (by rw [hW4'];exact a0C jR _) s1;have hb5:jB w W4:=by rw [hW4'];exact a0C (HB2.out.trans (s4 w.heap.size (by omega))) _
   clear hW4 hW4';exact bodyPost_ret (v:=.tuple #[.agg #[.int .i64 c.st,.int .i64 c.sa,.int .i64 c.lo,.int .i64 c.hi,.slice x.sA x.st.length x.sc,.slice x.cA x.cuts.length x.cc,.int .i64 x.ep,.bool x.over],.bool false]) (by simp [results,Tryz.results49,go_sem,a9]) rfl ⟨x,by rw [HRR.out];rfl,HX.out.below hb5,by rw [HRR.out],hb5⟩
 · rw [if_pos rfl] at hr
   dsimp only at hr;have HRR:=jH hr;clear hr
   go_enter Tryz.func49,Tryz.ntmps49
   go_wp2_with (first
   | (go_at_call 68
      refine a0B ?_;intro W1 hW1;have hb:jB w W1:=by rw [hW1];exact a0C (a0C (a0C jR _) _) _
      have k0:W1.heap[w.heap.size]?=some (.cells #[.int .i64 c.st,.int .i64 c.sa,.int .i64 c.lo,.int .i64 c.hi,.slice x.sA x.st.length x.sc,.slice x.cA x.cuts.length x.cc,.int .i64 x.ep,.bool x.over] 32 (0,0)):=by rw [hW1];exact f0B _ _ _ _
      have k1:W1.heap[w.heap.size+1]?=some (.cells #[.int .i64 a.tick,.int .i64 a.load,.int .i64 a.want,.int .i64 a.repl,.int .i64 a.why] 44 (0,0)):=by rw [hW1];exact f0X _ _ _ _
      have k2:W1.heap[w.heap.size+1+1]?=some (.cells #[.int .i64 0,.int .i64 0,.int .i64 0,.int .i64 0,.slice none 0 0,.slice none 0 0,.int .i64 0,.bool false] 32 (0,0)):=by rw [hW1];exact f0Q _ _ _ _
      clear hW1;refine (CL.out W1 hb).mono ?_;rintro e w2 ⟨rfl,hb2⟩;have HX2:=jH (jK hb2 k0);have HA2:=jH (jK hb2 k1);have HR2:=jH (jK hb2 k2);have HB2:=jH (a0D hb hb2);obtain ⟨b1,b2,b3⟩:=a0A jR HX2.out;obtain ⟨c1,c2,c3⟩:=a0A jR HA2.out;obtain ⟨d1,d2,d3⟩:=a0A jR HR2.out;clear k0 k1 k2 hb hb2)
   | (go_at_call 50
      refine a0B ?_;intro W3 hW3;have hb3:jB w2 W3:=by rw [hW3];exact a0C jR _
      clear hW3;refine (CO.out W3 (a0D HB2.out hb3)).mono ?_;rintro e w5 ⟨z,rfl,hz,habs,hb5⟩;have HZ:=jH hz;have HAB:=jH habs;have hq5:=a0D hb3 hb5;have HB5:=jH (a0D HB2.out hq5);have HR5:=jH (jK hq5 HR2.out);have HLT:=jH (show w.heap.size+1+1<W3.heap.size from Nat.lt_of_lt_of_le (jL HR2.out) hb3.size);obtain ⟨e1,e2,e3⟩:=a0A jR HR5.out;clear hz habs hb3 hb5 hq5 b1 b2 b3 c1 c2 c3 d1 d2 d3
      unfold wdC))
   refine a0H ?_;intro W4 hW4;have hW4':W4=(b0J w5 (w.heap.size+1+1) 0 [.int .i64 c.st,.int .i64 c.sa,.int .i64 c.lo,.int .i64 c.hi,.slice z.sA z.st.length z.sc,.slice z.cA z.cuts.length z.cc,.int .i64 z.ep,.bool z.over]).alloc (.cells #[.int .i64 c.st,.int .i64 c.sa,.int .i64 c.lo,.int .i64 c.hi,.slice z.sA z.st.length z.sc,.slice z.cA z.cuts.length z.cc,.int .i64 z.ep,.bool z.over] 32 (0,0)):=hW4
   obtain ⟨S,hS⟩:∃S,S=b0J w5 (w.heap.size+1+1) 0 [.int .i64 c.st,.int .i64 c.sa,.int .i64 c.lo,.int .i64 c.hi,.slice z.sA z.st.length z.sc,.slice z.cA z.cuts.length z.cc,.int .i64 z.ep,.bool z.over]:=⟨_,rfl⟩;rw [←hS] at hW4';obtain ⟨s1,s2,s3,s4⟩:=a0P HR5.out [.int .i64 c.st,.int .i64 c.sa,.int .i64 c.lo,.int .i64 c.hi,.slice z.sA z.st.length z.sc,.slice z.cA z.cuts.length z.cc,.int .i64 z.ep,.bool z.over] rfl S hS
   have hS4:jB S W4:=by rw [hW4'];exact a0C jR _
   obtain ⟨a9,a8,a7⟩:=a0A hS4 s1;have hb5:jB w W4:=(HB5.out.trans (s4 w.heap.size (by omega))).trans (hS4.mono (by have:=HB5.out.size;omega));clear hW4 hW4';have hlt:=HLT.out;refine bodyPost_ret (v:=.tuple #[.agg #[.int .i64 c.st,.int .i64 c.sa,.int .i64 c.lo,.int .i64 c.hi,.slice z.sA z.st.length z.sc,.slice z.cA z.cuts.length z.cc,.int .i64 z.ep,.bool z.over],.bool true]) (by simp [results,Tryz.results49,go_sem,a9]) rfl ⟨z,by rw [HRR.out];rfl,HZ.out.home (by have:=hS4.size;omega) (fun b hb hlt9=>(hS4.block b (by omega)).trans (s2 b (by omega))),by rw [HRR.out];exact HAB.out,hb5⟩
def e0V (P:Nat→Prop) (w:World) (c:Cfg) (r:Wd × i1C) (e:Ending) (w':World):Prop :=
 ∃x:WdH,e=.returned (.tuple #[.agg (wdC c x).toArray,d0S r.2])∧d0U P w' x∧c0O x=r.1∧jB w w'
theorem f1R (l:List CuH) (x:CuH):∀p,p<l.length→a0G cuC (l.set p x)=(((a0G cuC l).set (p * 3) (.int .i64 x.ep)).set (p * 3+1) (.slice x.A x.l.length x.c)).set (p * 3+2) (.bool x.fr):=by
 induction l with
 | nil=>intro p hp;simp at hp
 | cons a l ih =>
   intro p hp
   cases p with
   | zero=>rfl
   | succ p =>
     rw [List.set_cons_succ,a0Y,a0Y,ih p (by simpa using hp),show (p+1) * 3=p * 3+3 by omega];rfl
def set3 (w:World) (g o:Nat) (x:CuH):World:=((w.setCell ⟨g,o,none⟩ (.int .i64 x.ep)).setCell ⟨g,o+1,none⟩ (.slice x.A x.l.length x.c)).setCell ⟨g,o+2,none⟩ (.bool x.fr)
theorem q1N {base:Nat} {w:World} {g c:Nat} {l:List CuH} (h:b0Q cuC 202 3 base w (.slice (some ⟨g,0,none⟩) l.length c) l) (p:Nat) (hp:p<l.length) (x:CuH) :
 b0Q cuC 202 3 base (set3 w g (p * 3) x) (.slice (some ⟨g,0,none⟩) l.length c) (l.set p x)∧w.grownBy (set3 w g (p * 3) x) (some g):=by
 obtain ⟨h1,g1⟩:=World.ownsRow.stored h (p * 3) (.int .i64 x.ep);obtain ⟨h2,g2⟩:=World.ownsRow.stored h1 (p * 3+1) (.slice x.A x.l.length x.c);obtain ⟨h3,g3⟩:=World.ownsRow.stored h2 (p * 3+2) (.bool x.fr);refine ⟨?_,b0L (b0L g1 g2) g3⟩;unfold b0Q;rw [f1R l x p hp,List.length_set];exact h3
theorem k1K {base:Nat} {w:World} {A:Option Addr} {c:Nat} {l:List CuH} (h:b0Q cuC 202 3 base w (.slice A l.length c) l) (hp:0<l.length) :
 ∃g cur,A=some ⟨g,0,none⟩∧w.heap[g]?=some (.cells cur 202 (0,0))∧base≤g∧l.length≤c∧l.length * 3≤cur.size:=by
 rcases h.2 with ⟨hv,h0⟩|⟨g',cap,cur,hv,h1,h2,h3,h4,h5,h6⟩
 · omega
 · injection hv with e1 _ e3
   subst e3;exact ⟨g',cur,e1,h2,h1,h3,by have:=Nat.mul_le_mul_right 3 h3;omega⟩
theorem d0U.cutsAt {P:Nat→Prop} {w W:World} {x:WdH} {A:Option Addr} {cp:Nat} {m:List CuH} (h:d0U P w x) (hb:jB w W) (hP:∀b,w.heap.size≤b→P b) (ho:b0Q cuC 202 3 w.heap.size W (.slice A m.length cp) m) (hm:∀s∈m,b0D P W (.slice s.A s.l.length s.c) s.l) (ep:Int) (over:Bool) :
 d0U P W ⟨x.sA,x.sc,x.st,A,cp,m,ep,over⟩ :=
 ⟨h.sr.below hb,fun s hs=>(h.it s hs).below hb,(e0U.own eCu ho).imp (fun b hb=>hP b hb),hm⟩
theorem b0D.nil (P:Nat→Prop) (w:World):b0D P w (.slice none ([]:List It).length 0) [] :=
 ⟨⟨a0O.nil,fun b o m c e hn=>by cases e⟩,fun x hx=>by cases hx⟩
theorem e1E (P:Nat→Prop) (c:Cfg) (rs rh n:Nat) (x:WdH) (k:Int) (w:World) (hP:∀b,w.heap.size≤b→P b) (hx:d0U P w x) (hk:g0B c rs rh n (c0O x)) (hn:n≤100000) :
 Calls Tryz.prog 53 #[.agg (wdC c x).toArray,.int .i64 k] w (e0V P w c (l0Z (c0O x) k)):=by
 have hcl:x.cuts.length≤100000:=by have:=hk.cuts;simp [c0O] at this;omega
 obtain ⟨r,hr⟩:∃r,r=l0Z (c0O x) k:=⟨_,rfl⟩;rw [←hr];unfold l0Z at hr;rw [←s0Q] at hr;have htl:(r0K x).length=x.cuts.length:=by unfold r0K;simp
 have CT:=jH (fun (W:World) (hW:jB w W)=>k0M P c x W (hx.below hW) hcl);generalize hte:r0K x=t at hr htl CT;have CF:=jH (fun (W:World) (A:Option Addr) (cp:Nat) (h:a0O 1 nmC W (.slice A t.length cp) t)=>r0U _ t k W h (by omega));have HX:=jH hx;have HP:=jH hP;have hcr:a0O 3 cuC w (.slice x.cA x.cuts.length x.cc) x.cuts:=hx.cr.1;have hcit:∀s∈x.cuts,b0D P w (.slice s.A s.l.length s.c) s.l:=hx.ct
 obtain ⟨sA,sc,st,cA,cc,cuts,ep,over⟩:=x;dsimp only at htl hcl hcr hcit;unfold wdC at CT ⊢;dsimp only at CT ⊢;clear hx hP hk hn hte
 by_cases he:b0V t k=0
 · rw [if_neg (by simpa using he)] at hr
   have hk1:¬k<1:=fun h9=>by unfold b0V at he;rw [if_pos (.inl h9)] at he;cases he
   have hk2:¬(t.length:Int)<k:=fun h9=>by unfold b0V at he;rw [if_pos (.inr h9)] at he;cases he
   obtain ⟨j,hj⟩:∃j,j=k.toNat - 1:=⟨_,rfl⟩;have hjl:j<cuts.length:=by omega
   rw [←hj] at hr;have z1:IntKind.i64.wrap (k - 1)=(j:Int):=by rw [IntKind.wrap_i64];omega
   have z1b:wrap64 (k - 1)=(j:Int):=by unfold wrap64;omega
   have z2:(0:Int)≤(j:Int):=by omega
   have z3:(j:Int)<(cuts.length:Int):=by omega
   rw [he] at CF;have HRR:=jH hr;have HCR:=jH hcr;have HCI:=jH hcit;have HLN:=jH hcl;have HJL:=jH hjl;clear he hk1 hk2 hj hr hcr hcit hcl hjl htl
   go_enter Tryz.func53,Tryz.ntmps53
   go_upto_region 6 with (first
   | (go_at_call 117
      refine a0B ?_;intro W1 hW1;have hb:jB w W1:=by rw [hW1];exact a0C (a0C (a0C jR _) _) _
      have k0:W1.heap[w.heap.size]?=some (.cells #[.int .i64 c.st,.int .i64 c.sa,.int .i64 c.lo,.int .i64 c.hi,.slice sA st.length sc,.slice cA cuts.length cc,.int .i64 ep,.bool over] 32 (0,0)):=by rw [hW1];exact f0B _ _ _ _
      have k1:W1.heap[w.heap.size+1]?=some (.cells #[.int .i64 0,.int .i64 0,.int .i64 0,.int .i64 0,.slice none 0 0,.slice none 0 0,.int .i64 0,.bool false] 32 (0,0)):=by rw [hW1];exact f0X _ _ _ _
      have k2:W1.heap[w.heap.size+1+1]?=some (.cells #[.int .i64 0,.int .i64 0,.int .i64 0,.int .i64 0,.int .i64 0,.int .i64 0,.int .i64 0,.int .i64 0,.int .i64 0,.int .i64 0,.int .i64 0,.int .i64 0,.int .i64 0] 46 (0,0)):=by rw [hW1];exact f0Q _ _ _ _
      clear hW1;refine (CT.out W1 hb).mono ?_;rintro e w2 ⟨tA,tc,rfl,hrow,hb2⟩;have HT2:=jH hrow;have HX2:=jH (jK hb2 k0);have HA2:=jH (jK hb2 k1);have HR2:=jH (jK hb2 k2);have HB2:=jH (a0D hb hb2);clear k0 k1 k2 hb hb2 hrow)
   | (go_at_call 119
      refine (CF.out w2 tA tc HT2.out).mono ?_;rintro e w3 ⟨rfl,hb3⟩;have HX3:=jH (jK hb3 HX2.out);have HA3:=jH (jK hb3 HA2.out);have HR3:=jH (jK hb3 HR2.out);have HB3:=jH (a0D HB2.out hb3);obtain ⟨b1,b2,b3⟩:=a0A jR HX3.out;obtain ⟨c1,c2,c3⟩:=a0A jR HA3.out;obtain ⟨d1,d2,d3⟩:=a0A jR HR3.out;clear hb3)
   | (at_builtin
      refine a0N eCu (by rfl) (s:=.tmp 18) (x:=.tmp 20) (by rfl) (w3.heap.size+1) [] cuts _ _ (by rfl) (by rfl) (b0Q.lit0 _ _ _ _ (by simp) (Nat.le_refl _)) (HCR.out.below (a0D HB3.out (a0C (a0C jR _) _))) (by have:=HLN.out;simp;omega) (by simp) ?_;intro out6 A6 c6 w6 hout6 hown6 hg6 _;have hb6:Below (w3.heap.size+1) (w3.alloc (.cells #[.int .i64 c.st,.int .i64 c.sa,.int .i64 c.lo,.int .i64 c.hi,.slice sA st.length sc,.slice cA cuts.length cc,.int .i64 ep,.bool over] 32 (0,0))) w6:=(a0C jR _ |>.mono (by simp)).trans (c0H hg6 (by simp) (fun r hr=>Nat.le_of_eq (Option.some.inj hr)))
      have hx6:w6.heap[w3.heap.size]?=some (.cells #[.int .i64 c.st,.int .i64 c.sa,.int .i64 c.lo,.int .i64 c.hi,.slice sA st.length sc,.slice cA cuts.length cc,.int .i64 ep,.bool over] 32 (0,0)):=(hb6.block _ (by omega)).trans (heap_alloc_new _ _);have HB6:=jH hb6;have HX6:=jH hx6;have HOUT:=jH hout6;have HOWN:=jH hown6;obtain ⟨e1,e2,e3⟩:=a0A jR hx6;clear hb6 hx6 hout6 hown6 hg6 b1 b2 b3 c1 c2 c3 d1 d2 d3))
   refine a0I ?_;intro W7 hW7;have ho:cuts=out6:=by have:=HOUT.out;simpa using this.symm
   subst ho;obtain ⟨g,cur,rfl,hcur,hgb,hgc,hgs⟩:=k1K HOWN.out (by have:=HJL.out;omega);have hx7:W7.heap[w3.heap.size]?=some (.cells #[.int .i64 c.st,.int .i64 c.sa,.int .i64 c.lo,.int .i64 c.hi,.slice sA st.length sc,.slice (some ⟨g,0,none⟩) cuts.length c6,.int .i64 ep,.bool over] 32 (0,0)):=by rw [hW7];exact a0E HX6.out
   have hb7:jB w3 W7:=by rw [hW7];exact ((a0C jR _).trans (HB6.out.mono (by omega))).setCell (by simp) _
   have ho7:b0Q cuC 202 3 (w3.heap.size+1) W7 (.slice (some ⟨g,0,none⟩) cuts.length c6) cuts:=by rw [hW7];exact HOWN.out.kept (fun r hr=>a0U rfl (by have:=HOWN.out.lt hr;omega))
   have hg7:W7.heap[g]?=some (.cells cur 202 (0,0)):=by rw [hW7];exact a0U hcur (by omega)
   have ha7:=jK hb7 HA3.out;have hr7:=jK hb7 HR3.out;have HX7:=jH hx7;have HB7:=jH hb7;have HO7:=jH ho7;have HG7:=jH hg7;have HA7:=jH ha7;have HR7:=jH hr7;have HGB:=jH (show w3.heap.size+1≤g∧w.heap.size+1<w3.heap.size∧w.heap.size+1+1<w3.heap.size from ⟨hgb,(jL HA3.out),(jL HR3.out)⟩);have y1:¬g=w3.heap.size:=by omega
   have y2:¬w3.heap.size=g:=by omega
   have y3:¬g=w.heap.size+1:=by have:=HGB.out;omega
   have y4:¬w.heap.size+1=g:=by have:=HGB.out;omega
   have y5:¬g=w.heap.size+1+1:=by have:=HGB.out;omega
   have y6:¬w.heap.size+1+1=g:=by have:=HGB.out;omega
   have y7:¬w3.heap.size=w.heap.size+1:=by have:=HGB.out;omega
   have y8:¬w3.heap.size=w.heap.size+1+1:=by have:=HGB.out;omega
   have y9:j * 3<cur.size:=by have:=HJL.out;omega
   have y10:j * 3+1<cur.size:=by have:=HJL.out;omega
   have y11:j * 3+2<cur.size:=by have:=HJL.out;omega
   clear hW7 hx7 hb7 ho7 hg7 ha7 hr7 hcur hgb hgc hgs e1 e2 e3 HX6 HB6 HOUT HOWN;obtain ⟨e1,e2,e3⟩:=a0A jR HX7.out;obtain ⟨b1,b2,b3⟩:=a0A jR HA7.out;obtain ⟨c1,c2,c3⟩:=a0A jR HR7.out;obtain ⟨d1,d2,d3⟩:=a0A jR HG7.out;go_wp2_with fail
   refine a0H ?_;intro W9 hW9;have hW9':W9=b0J (b0J (set3 W7 g (j * 3) ⟨0,none,0,[],true⟩) (w.heap.size+1) 0 [.int .i64 c.st,.int .i64 c.sa,.int .i64 c.lo,.int .i64 c.hi,.slice sA st.length sc,.slice (some ⟨g,0,none⟩) cuts.length c6,.int .i64 ep,.bool over]) (w.heap.size+1+1) 0 [.int .i64 0,.int .i64 0,.int .i64 0,.int .i64 0,.int .i64 0,.int .i64 0,.int .i64 0,.int .i64 0,.int .i64 0,.int .i64 0,.int .i64 0,.int .i64 0,.int .i64 0]:=hW9
   obtain ⟨hset,hgr⟩:=q1N HO7.out j HJL.out ⟨0,none,0,[],true⟩;obtain ⟨U,hU⟩:∃U,U=set3 W7 g (j * 3) ⟨0,none,0,[],true⟩:=⟨_,rfl⟩;rw [←hU] at hset hgr hW9';clear hW9 hU;have hgb:=HGB.out;have hau:=(hgr.block _ (jL HA7.out) (fun e=>by have:=Option.some.inj e;omega)).trans HA7.out;have hru:=(hgr.block _ (jL HR7.out) (fun e=>by have:=Option.some.inj e;omega)).trans HR7.out;obtain ⟨S,hS⟩:∃S,S=b0J U (w.heap.size+1) 0 [.int .i64 c.st,.int .i64 c.sa,.int .i64 c.lo,.int .i64 c.hi,.slice sA st.length sc,.slice (some ⟨g,0,none⟩) cuts.length c6,.int .i64 ep,.bool over]:=⟨_,rfl⟩
   rw [←hS] at hW9';obtain ⟨s1,s2,s3,s4⟩:=a0P hau [.int .i64 c.st,.int .i64 c.sa,.int .i64 c.lo,.int .i64 c.hi,.slice sA st.length sc,.slice (some ⟨g,0,none⟩) cuts.length c6,.int .i64 ep,.bool over] rfl S hS;have hr9:=(s2 (w.heap.size+1+1) (by omega)).trans hru;obtain ⟨t1,t2,t3,t4⟩:=a0P hr9 [.int .i64 0,.int .i64 0,.int .i64 0,.int .i64 0,.int .i64 0,.int .i64 0,.int .i64 0,.int .i64 0,.int .i64 0,.int .i64 0,.int .i64 0,.int .i64 0,.int .i64 0] rfl W9 hW9'
   have hs1:=(t2 (w.heap.size+1) (by omega)).trans s1;obtain ⟨a9,a8,a7⟩:=a0A jR hs1;obtain ⟨g9,g8,g7⟩:=a0A jR t1;have hk9:∀b,b≠w.heap.size+1→b≠w.heap.size+1+1→W9.heap[b]?=U.heap[b]?:=fun b q1 q2=>(t2 b q2).trans (s2 b q1)
   have hbU:jB w3 U:=HB7.out.trans (c0H hgr HB7.out.size (fun r hr=>by have:=Option.some.inj hr;omega));have hb9:jB w W9:=(HB3.out.trans (hbU.mono HB3.out.size)).trans ((s4 _ (by omega)).trans (t4 _ (by omega)));have hw3:=HB3.out.size;refine bodyPost_ret (v:=.tuple #[.agg #[.int .i64 c.st,.int .i64 c.sa,.int .i64 c.lo,.int .i64 c.hi,.slice sA st.length sc,.slice (some ⟨g,0,none⟩) cuts.length c6,.int .i64 ep,.bool over],.agg #[.int .i64 0,.int .i64 0,.int .i64 0,.int .i64 0,.int .i64 0,.int .i64 0,.int .i64 0,.int .i64 0,.int .i64 0,.int .i64 0,.int .i64 0,.int .i64 0,.int .i64 0]]) (by simp [results,Tryz.results53,go_sem,a9,g9]) rfl ⟨⟨sA,sc,st,some ⟨g,0,none⟩,c6,cuts.set j ⟨0,none,0,[],true⟩,ep,over⟩,by rw [HRR.out];simp [wdC,d0S,e0I,c0N,st0,c0U],HX.out.cutsAt hb9 HP.out ?_ ?_ _ _,?_,hb9⟩
   · rw [List.length_set]
     exact (hset.kept (fun r hr=>by have:=hset.lt hr;exact hk9 r (by omega) (by omega))).lower (by omega)
   · intro s hs
     rcases List.mem_or_eq_of_mem_set hs with hs|hs
     · exact (HCI.out s hs).below hb9
     · rw [hs];exact b0D.nil P W9
   · rw [HRR.out]
     simp [c0O,absC,List.map_set]
 · rw [if_pos (by simpa using he)] at hr
   have z0:(b0V t k == 0)=false:=by simpa using he
   have z0c:(b0V t k != 0)=true:=by simpa using he
   have HRR:=jH hr;clear he hr htl hcl hcr hcit;generalize b0V t k=ef at CF z0 z0c HRR
   go_enter Tryz.func53,Tryz.ntmps53
   go_wp2_with (first
   | (go_at_call 117
      refine a0B ?_;intro W1 hW1;have hb:jB w W1:=by rw [hW1];exact a0C (a0C (a0C jR _) _) _
      have k0:W1.heap[w.heap.size]?=some (.cells #[.int .i64 c.st,.int .i64 c.sa,.int .i64 c.lo,.int .i64 c.hi,.slice sA st.length sc,.slice cA cuts.length cc,.int .i64 ep,.bool over] 32 (0,0)):=by rw [hW1];exact f0B _ _ _ _
      have k1:W1.heap[w.heap.size+1]?=some (.cells #[.int .i64 0,.int .i64 0,.int .i64 0,.int .i64 0,.slice none 0 0,.slice none 0 0,.int .i64 0,.bool false] 32 (0,0)):=by rw [hW1];exact f0X _ _ _ _
      have k2:W1.heap[w.heap.size+1+1]?=some (.cells #[.int .i64 0,.int .i64 0,.int .i64 0,.int .i64 0,.int .i64 0,.int .i64 0,.int .i64 0,.int .i64 0,.int .i64 0,.int .i64 0,.int .i64 0,.int .i64 0,.int .i64 0] 46 (0,0)):=by rw [hW1];exact f0Q _ _ _ _
      clear hW1;refine (CT.out W1 hb).mono ?_;rintro e w2 ⟨tA,tc,rfl,hrow,hb2⟩;have HT2:=jH hrow;have HX2:=jH (jK hb2 k0);have HA2:=jH (jK hb2 k1);have HR2:=jH (jK hb2 k2);have HB2:=jH (a0D hb hb2);clear k0 k1 k2 hb hb2 hrow)
   | (go_at_call 119
      refine (CF.out w2 tA tc HT2.out).mono ?_;rintro e w3 ⟨rfl,hb3⟩;have HX3:=jH (jK hb3 HX2.out);have HA3:=jH (jK hb3 HA2.out);have HR3:=jH (jK hb3 HR2.out);have HB3:=jH (a0D HB2.out hb3);obtain ⟨b1,b2,b3⟩:=a0A jR HX3.out;obtain ⟨c1,c2,c3⟩:=a0A jR HA3.out;obtain ⟨d1,d2,d3⟩:=a0A jR HR3.out;clear hb3))
   refine a0H ?_;intro W9 hW9;have hW9':W9=b0J (b0J w3 (w.heap.size+1) 0 [.int .i64 c.st,.int .i64 c.sa,.int .i64 c.lo,.int .i64 c.hi,.slice sA st.length sc,.slice cA cuts.length cc,.int .i64 ep,.bool over]) (w.heap.size+1+1) 0 [.int .i64 ef,.int .i64 0,.int .i64 0,.int .i64 0,.int .i64 0,.int .i64 0,.int .i64 0,.int .i64 0,.int .i64 0,.int .i64 0,.int .i64 0,.int .i64 0,.int .i64 0]:=hW9
   obtain ⟨S,hS⟩:∃S,S=b0J w3 (w.heap.size+1) 0 [.int .i64 c.st,.int .i64 c.sa,.int .i64 c.lo,.int .i64 c.hi,.slice sA st.length sc,.slice cA cuts.length cc,.int .i64 ep,.bool over]:=⟨_,rfl⟩;rw [←hS] at hW9';obtain ⟨s1,s2,s3,s4⟩:=a0P HA3.out [.int .i64 c.st,.int .i64 c.sa,.int .i64 c.lo,.int .i64 c.hi,.slice sA st.length sc,.slice cA cuts.length cc,.int .i64 ep,.bool over] rfl S hS;have hr9:=(s2 (w.heap.size+1+1) (by omega)).trans HR3.out
   obtain ⟨t1,t2,t3,t4⟩:=a0P hr9 [.int .i64 ef,.int .i64 0,.int .i64 0,.int .i64 0,.int .i64 0,.int .i64 0,.int .i64 0,.int .i64 0,.int .i64 0,.int .i64 0,.int .i64 0,.int .i64 0,.int .i64 0] rfl W9 hW9';have hs1:=(t2 (w.heap.size+1) (by omega)).trans s1;obtain ⟨a9,a8,a7⟩:=a0A jR hs1;obtain ⟨g9,g8,g7⟩:=a0A jR t1;have hk9:∀b,b≠w.heap.size+1→b≠w.heap.size+1+1→W9.heap[b]?=w3.heap[b]?:=fun b q1 q2=>(t2 b q2).trans (s2 b q1)
   have hsz9:W9.heap.size=w3.heap.size:=t3.trans s3;have hlt9:=(jL HR3.out);clear hW9 hW9' s1 t1 hs1 hr9 a8 a7 g8 g7;have hb9:jB w W9:=HB3.out.trans ((s4 _ (by omega)).trans (t4 _ (by omega)));refine bodyPost_ret (v:=.tuple #[.agg #[.int .i64 c.st,.int .i64 c.sa,.int .i64 c.lo,.int .i64 c.hi,.slice sA st.length sc,.slice cA cuts.length cc,.int .i64 ep,.bool over],.agg #[.int .i64 ef,.int .i64 0,.int .i64 0,.int .i64 0,.int .i64 0,.int .i64 0,.int .i64 0,.int .i64 0,.int .i64 0,.int .i64 0,.int .i64 0,.int .i64 0,.int .i64 0]]) (by simp [results,Tryz.results53,go_sem,a9,g9]) rfl ⟨⟨sA,sc,st,cA,cc,cuts,ep,over⟩,by rw [HRR.out];rfl,HX.out.below hb9,by rw [HRR.out],hb9⟩
end
end Go.Proofs.YtmniiodpbebnmaaGreat
