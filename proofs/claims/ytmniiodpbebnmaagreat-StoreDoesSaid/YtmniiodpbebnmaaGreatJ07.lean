/- Part 7 of the proof. -/
import Derived.Test.YtmniiodpbebnmaaGreatJ06
namespace Go.Proofs.YtmniiodpbebnmaaGreat
set_option linter.unusedSimpArgs false
set_option linter.unusedVariables false
set_option linter.unusedSectionVars false
set_option maxRecDepth 100000
set_option maxHeartbeats 16000000
section
open Go.RowKit Go.Lib Go.Sort
theorem b1C (N:Nat) (p:Pol) (w:World) (hp:d0G p=false) :
 Calls Tryz.prog 157 #[.pointer (some ⟨N,0,none⟩),b0W p] w (jP w (.tuple #[.pointer (some ⟨N,0,none⟩),.int .i64 7])):=by
 have hE:j0N p=7:=by unfold j0N;rw [hp];rfl
 have HE:=jH hE;have HC:=jH (b0E p);clear hp hE;unfold b0W;unfold b0W at HC
 go_enter Tryz.func157,Tryz.ntmps157
 go_wp2_with (go_at_call 103;refine (HC.out _).mono ?_;rw [HE.out];rintro e w2 ⟨rfl,hb2⟩;have HB:=jH hb2;clear hb2)
 exact bodyPost_ret (v:=.tuple #[.pointer (some ⟨N,0,none⟩),.int .i64 7]) (by simp [results,Tryz.results157,go_sem]) rfl ⟨rfl,a0D (a0C jR _) HB.out⟩
theorem j0Y (N:Nat) (x:Nd) (rs rh:Nat) (fp:List Nat) (p:Pol) (w:World) (h:b0B w N x rs rh fp) (hrs:rs≤256) (hrh:rh≤64) (hv:x.ver≤1000000) (hp:d0G p=true) :
 Calls Tryz.prog 157 #[.pointer (some ⟨N,0,none⟩),b0W p] w (r0F w { h0T x with pol:=p,ruled:=true } rs rh (mfp x fp) (fun q=>.tuple #[q,.int .i64 0])):=by
 have HN:=jH h;have hE:j0N p=0:=by unfold j0N;rw [hp];rfl
 have HE:=jH hE;have HC:=jH (b0E p);clear h hp hE;unfold b0W;unfold b0W at HC
 go_enter Tryz.func157,Tryz.ntmps157
 go_wp2_with (first
  | (go_at_call 103
     refine a0B ?_;intro W1 hW1;have hb1:jB w W1:=by rw [hW1];exact a0C jR _
     have hx1:W1.heap[w.heap.size]?=some (.cells #[.int .i64 p.mn,.int .i64 p.mx,.int .i64 p.tg,.int .i64 p.tol,.int .i64 p.win,.int .i64 p.hold] 35 (0,0)):=by rw [hW1];exact heap_alloc_new _ _
     clear hW1;refine (HC.out W1).mono ?_;rw [HE.out];rintro e w2 ⟨rfl,hb2⟩;have HB2:=jH (a0D hb1 hb2);have HX:=jH ((hb2.block w.heap.size (jL hx1)).trans hx1);clear hb1 hb2 hx1)
  | (go_at_call 174
     refine (f0O N x rs rh fp w2 (HN.out.below HB2.out)).mono ?_;rintro e w5 ⟨rfl,hb5⟩;have HB5:=jH (a0D HB2.out hb5);have HX5:=jH ((hb5.block w.heap.size (jL HX.out)).trans HX.out);clear hb5)
  | (go_at_call 207
     refine (s0V N x rs rh fp w5 (HN.out.below HB5.out) hrs hrh hv).mono ?_;rintro e w3 ⟨N3,fp3,rfl,hn3,hu3⟩;have hnm:w.heap.size∉mfp x fp:=fun hm=>by
      unfold mfp at hm
      split at hm
      · simp at hm
      · have:=HN.out.lt _ hm;omega
     have hx3:=(hu3.block w.heap.size (jL HX5.out) hnm).trans HX5.out;obtain ⟨b1,b2,b3⟩:=a0A jR hx3;have hlt5:=(jL HX5.out);have hne:w.heap.size≠N3:=fun e=>by
      rcases hu3.fresh N3 hn3.mem with h|h
      · rw [←e] at h;exact hnm h
      · omega
     have HL:=jH (n1J hn3 p);have HU3:=jH ((Upd.of_below HB5.out _).trans hu3);obtain ⟨S,fs,H,fh,h1,h2,h3,h4,h5,h6,hfp,h7,h8⟩:=hn3;unfold ndC at h1;obtain ⟨a1,a2,a3⟩:=a0A jR h1;clear h1 h2 h3 h4 h5 h6 h7 h8 hfp hu3 hx3 hnm))
 refine bodyPost_ret (v:=.tuple #[.pointer (some ⟨N3,0,none⟩),.int .i64 0]) (by simp [results,Tryz.results157,go_sem]) rfl ?_;exact ⟨N3,fp3,rfl,HL.out.1,HU3.out.trans HL.out.2⟩
theorem b1G {l:List Smp} (hr:b0G l) (t:Int) (h:a0Q l t=0):∀h0:0<l.length,t≤l[0].1:=fun h0=>by
 by_cases h3:l[0].1<t
 · have:=(i0R hr t 0 h0).2 h3;omega
 · omega
theorem d1U {l:List Smp} (hr:b0G l) (t:Int) (h:0<a0Q l t):∃h0:0<l.length,l[0].1<t:=by
 have h0:0<l.length:=by have:=e0S l t;omega
 exact ⟨h0,(i0R hr t 0 h0).1 h⟩
def TrimS (w:World) (N:Nat) (x:Nd) (rs rh:Nat) (fp:List Nat) (t:Int) (e:Ending) (w':World):Prop :=
 (a0Q x.smp t=0∧e=.returned (.tuple #[.pointer (some ⟨N,0,none⟩),.int .i64 0])∧jB w w') ∨
 (0<a0Q x.smp t∧r0F w { h0T x with smp:=x.smp.drop (a0Q x.smp t) } rs rh (mfp x fp) (fun q=>.tuple #[q,.int .i64 (a0Q x.smp t:Nat)]) e w')
theorem t0X (N:Nat) (x:Nd) (rs rh:Nat) (fp:List Nat) (t:Int) (w:World) (h:b0B w N x rs rh fp) (hrs:rs≤256) (h0:a0Q x.smp t=0) :
 Calls Tryz.prog 154 #[.pointer (some ⟨N,0,none⟩),.int .i64 t] w (TrimS w N x rs rh fp t):=by
 have HN:=jH h;have HM:=jH (f0O N x rs rh fp w h);obtain ⟨S,fs,H,fh,h1,h2,h3,h4,h5,h6,hfp,h7,h8⟩:=h;unfold ndC at h1;have hz:=b1G h7 t h0;have HS:=jH h2;have H1:=jH h1;have H0:=jH h0;clear h1 h2 h3 h4 h5 h6 hfp h7 h0
 rcases Nat.eq_zero_or_pos x.smp.length with he|hp
 · go_enter Tryz.func154,Tryz.ntmps154
   go_wp2_with (first
    | (go_at_call 174;refine HM.out.mono ?_;rintro e w2 ⟨rfl,hb2⟩;obtain ⟨a1,a2,a3⟩:=a0A hb2 H1.out;have HB2:=jH hb2;clear hb2)
    | (go_at_call 128
       refine (g0O S _ _ fs w2 (HS.out.below HB2.out) (by omega)).mono ?_;rintro e w3 ⟨A,c,fq,rfl,hq,_,hb3⟩;have HB3:=jH (a0D HB2.out hb3);clear hq hb3))
   exact bodyPost_ret (v:=.tuple #[.pointer (some ⟨N,0,none⟩),.int .i64 0]) (by simp [results,Tryz.results154,go_sem]) rfl (.inl ⟨H0.out,rfl,HB3.out⟩)
 · have hz1:=hz hp
   have hne:((x.smp.length:Int) == 0)=false:=by rw [beq_eq_false_iff_ne];omega
   clear hz
   go_enter Tryz.func154,Tryz.ntmps154
   go_wp2_with (first
    | (go_at_call 174;refine HM.out.mono ?_;rintro e w2 ⟨rfl,hb2⟩;obtain ⟨a1,a2,a3⟩:=a0A hb2 H1.out;have HB2:=jH hb2;clear hb2)
    | (go_at_call 128
       refine (g0O S _ _ fs w2 (HS.out.below HB2.out) (by omega)).mono ?_;rintro e w3 ⟨A,c,fq,rfl,hq,_,hb3⟩;obtain ⟨g,o,rfl,hg,hc⟩:=(hq.row d0J).at_ hp;have hc0:=hc 0 _ rfl;simp only [Nat.zero_mul,Nat.add_zero] at hc0
       have q1:(0:Int)<(x.smp.length:Int):=by omega
       have HB3:=jH (a0D HB2.out hb3);clear hq hb3 hc))
   exact bodyPost_ret (v:=.tuple #[.pointer (some ⟨N,0,none⟩),.int .i64 0]) (by simp [results,Tryz.results154,go_sem]) rfl (.inl ⟨H0.out,rfl,HB3.out⟩)
theorem t0C (N:Nat) (x:Nd) (rs rh:Nat) (fp:List Nat) (t:Int) (w:World) (h:b0B w N x rs rh fp) (hrs:rs≤256) (hrh:rh≤64) (hv:x.ver≤1000000) (h0:0<a0Q x.smp t) :
 Calls Tryz.prog 154 #[.pointer (some ⟨N,0,none⟩),.int .i64 t] w (TrimS w N x rs rh fp t):=by
 have HN:=jH h;have HM:=jH (f0O N x rs rh fp w h);obtain ⟨S,fs,H,fh,h1,h2,h3,h4,h5,h6,hfp,h7,h8⟩:=h;unfold ndC at h1;obtain ⟨hp,hlt⟩:=d1U h7 t h0;have HS:=jH h2;have H1:=jH h1;have H0:=jH h0;clear h1 h2 h3 h4 h5 h6 hfp h7 h0;have hz1:¬t≤x.smp[0].1:=by omega
 have hne:((x.smp.length:Int) == 0)=false:=by rw [beq_eq_false_iff_ne];omega
 clear hlt
 go_enter Tryz.func154,Tryz.ntmps154
 go_wp2_with (first
  | (go_at_call 174;refine HM.out.mono ?_;rintro e w2 ⟨rfl,hb2⟩;obtain ⟨a1,a2,a3⟩:=a0A hb2 H1.out;have HB2:=jH hb2;clear hb2)
  | (go_at_call 128
     refine (g0O S _ _ fs w2 (HS.out.below HB2.out) (by omega)).mono ?_;rintro e w3 ⟨A,c,fq,rfl,hq,_,hb3⟩;obtain ⟨g,o,rfl,hg,hc⟩:=(hq.row d0J).at_ hp;have hc0:=hc 0 _ rfl;simp only [Nat.zero_mul,Nat.add_zero] at hc0
     have q1:(0:Int)<(x.smp.length:Int):=by omega
     have HB3:=jH (a0D HB2.out hb3);clear hq hb3 hc)
  | (go_at_call 207
     refine (s0V N x rs rh fp w3 (HN.out.below HB3.out) hrs hrh hv).mono ?_;rintro e w5 ⟨N3,fp3,rfl,⟨S5,fs5,H5,fh5,h1,h2,h3,h4,h5,h6,hfp,h7,h8⟩,hu3⟩;have g1:=h1;unfold ndC at g1;obtain ⟨b1,b2,b3⟩:=a0A jR g1;have HU3:=jH ((Upd.of_below HB3.out _).trans hu3);have G1:=jH h1;have G2:=jH h2;have G3:=jH h3;have G7:=jH h7;have G8:=jH h8;have HFP:=jH hfp;clear g1 h1 h2 h3 h7 h8 hu3 hfp)
  | (go_at_call 210
     refine (b1F S5 _ (rs:Nat) fs5 t w5 G2.out G7.out (by have:=G8.out;omega)).mono ?_;rintro e w6 ⟨fs',rfl,hs4,hu4⟩;have HL:=jH (d1F G1.out G3.out h4 h5 h6 hs4 hu4 (f0J G7.out _) (by have:=G8.out;simp;omega));clear hs4 hu4))
 refine bodyPost_ret (v:=.tuple #[.pointer (some ⟨N3,0,none⟩),.int .i64 (a0Q x.smp t:Nat)]) (by simp [results,Tryz.results154,go_sem,h0T]) rfl ?_;obtain ⟨l1,l2⟩:=HL.out;refine .inr ⟨H0.out,N3,_,rfl,l1,?_⟩;have hu:=HU3.out;rw [HFP.out] at hu;exact hu.trans l2
def e0U {α:Type} (P:Nat→Prop) (n:Nat) (f:α→List Value) (w:World) (v:Value) (l:List α):Prop :=
 a0O n f w v l∧∀b o m c,v=.slice (some ⟨b,o,none⟩) m c→0<l.length→P b
theorem e0U.below {α:Type} {P:Nat→Prop} {n:Nat} {f:α→List Value} {w w':World} {v:Value} {l:List α} (h:e0U P n f w v l) (hb:jB w w'):e0U P n f w' v l:=⟨h.1.below hb,h.2⟩
theorem e0U.imp {α:Type} {P Q:Nat→Prop} {n:Nat} {f:α→List Value} {w:World} {v:Value} {l:List α} (h:e0U P n f w v l) (hi:∀b,P b→Q b):e0U Q n f w v l:=⟨h.1,fun b o m c e hn=>hi b (h.2 b o m c e hn)⟩
theorem e0U.nil {α:Type} {P:Nat→Prop} {n:Nat} {f:α→List Value} {w:World} {A:Option Addr} {c:Nat}:e0U P n f w (.slice A 0 c) ([]:List α):=⟨a0O.nil,fun _ _ _ _ _ h=>absurd h (Nat.lt_irrefl _)⟩
def g1J {α:Type} (n:Nat) (f:α→List Value) (w:World) (l:List α) (e:Ending) (w':World):Prop :=
 ∃A c,e=.returned (.slice A l.length c)∧e0U (fun b=>w.heap.size≤b) n f w' (.slice A l.length c) l∧jB w w'
theorem e0U.own {α:Type} {t e:TypeId} {n bytes:Nat} {z:Value} {f:α→List Value} (E:i0N t e n bytes z f) {base:Nat} {w:World} {v:Value} {l:List α} (h:b0Q f e n base w v l):e0U (fun b=>base≤b) n f w v l:=by
 refine ⟨h.row E,fun b o m c e hn=>?_⟩
 rcases h.2 with ⟨_,h0⟩|⟨g,cap,cur,hv',hg,_⟩
 · omega
 · rw [e] at hv'
   injection hv' with e1 _ _
   injection e1 with e1
   injection e1 with e1
   omega
theorem e0U.part {α:Type} {P:Nat→Prop} {n:Nat} {f:α→List Value} {w:World} {A A2:Option Addr} {m c c2:Nat} {l l2:List α} (h:e0U P n f w (.slice A m c) l) (hA:0<l.length→∀b o,A2=some ⟨b,o,none⟩→∃o',A=some ⟨b,o',none⟩) (hl:l2.length≤l.length) (h2:a0O n f w (.slice A2 l2.length c2) l2):e0U P n f w (.slice A2 l2.length c2) l2:=by
 refine ⟨h2,fun b o m' c' e hn=>?_⟩;injection e with e1 _ _
 obtain ⟨o',ho⟩:=hA (by omega) b o e1;exact h.2 b o' m c (by rw [ho]) (by omega)
theorem p0Z {α:Type} {t e:TypeId} {n bytes:Nat} {z:Value} {f:α→List Value} (E:i0N t e n bytes z f) {w:World} {A:Option Addr} {c:Nat} {l:List α} (h:a0O n f w (.slice A l.length c) l) (a:Nat) (ha:a≤l.length) :
 ∃(m:List α) (A2:Option Addr) (c2:Nat),m=l.drop a∧(0<l.length→∀b o,A2=some ⟨b,o,none⟩→∃o',A=some ⟨b,o',none⟩)∧(∀w':World,(Instr.sliceAt t (.slice A l.length c) (some (.int .i64 a)) none none).run Tryz.prog w'=.ok (.slice A2 m.length c2) w')∧a0O n f w (.slice A2 m.length c2) m:=by
 obtain ⟨i0,hi0,hz0,hz1,hz2⟩:=info_parts E.hi;have hp:=a0O.part h (i:=a) (j:=l.length) ha (Nat.le_refl _);rw [List.take_length] at hp;have hlen:(l.drop a).length=l.length - a:=by simp
 have hel:Tryz.prog.elem t=e:=by simp [Program.elem,E.ht]
 refine ⟨l.drop a,_,_,rfl,?_,fun w'=>?_,by rw [hlen];exact hp⟩
 · intro hn b o hb
   obtain ⟨A1,c1,hv,_,hr⟩:=h;injection hv with e1 _ _
   subst e1;obtain ⟨b1,o1,rfl,_⟩:=hr hn
   split at hb
   · exact ⟨o,hb⟩
   · rw [Option.map_some,m0X] at hb
     injection hb with hb
     injection hb with hb
     exact ⟨o1,by rw [hb]⟩
 rw [run_sliceAt_slice _ t _ _ _ _ (by rw [hel];exact E.ht),run_slice_l _ t A l.length c (by rw [hel];exact E.ht) _ _ (by omega) (by omega),hel];simp [sizeOf,typeInfo,hi0,hz1,Result.andThen,sliced,hlen]
theorem o0L (t v:Int) (w:World) :
 Calls Tryz.prog 91 #[.int .i64 t,.int .i64 v] w fun e w'=>e=.returned (.int .i64 (g0V t v))∧w'=w:=by
 unfold g0V
 by_cases h1:t<0
 · rw [if_pos h1]
   go_enter Tryz.func91,Tryz.ntmps91
   go_wp2
   go_ret
   exact ⟨rfl,rfl⟩
 · rw [if_neg h1]
   by_cases h2:v<0
   · rw [if_pos h2]
     go_enter Tryz.func91,Tryz.ntmps91
     go_wp2
     go_ret
     exact ⟨rfl,rfl⟩
   · rw [if_neg h2]
     go_enter Tryz.func91,Tryz.ntmps91
     go_wp2
     go_ret
     exact ⟨rfl,rfl⟩
theorem e1F (v:Value) (l:List Adv) (room:Nat) (x:Adv) (w:World) (hv:a0O 5 c0V w v l) (hl:l.length≤room) (h1:1≤room) (hr:room≤1000000) :
 Calls Tryz.prog 229 #[v,.int .i64 (room:Nat),.agg (c0V x).toArray] w (g1J 5 c0V w (f0K l room x)):=by
 obtain ⟨A,c,rfl⟩:=hv.form;have HV:=jH hv;clear hv;rw [show (c0V x).toArray=#[.int .i64 x.tick,.int .i64 x.load,.int .i64 x.want,.int .i64 x.repl,.int .i64 x.why] from rfl]
 go_enter Tryz.func229,Tryz.ntmps229
 go_wp2_with (first
  | (at_builtin;refine a0N q0L (by rfl) (by rfl) w.heap.size [] l (.slice (some ⟨w.heap.size+1,0,none⟩) 0 0) _ (by rfl) (by rfl) (b0Q.lit0 _ _ _ _ (by simp) (by simp)) (HV.out.below (a0C (a0C jR _) _)) (by simp;omega) (by simp;omega) ?_;intro out2 A2 c2 w2 hout2 hown2 hg2 _
     have hb2:jB w w2:=(a0C (a0C jR _) _).grown hg2 (by simp;omega) (fun r hr=>by have hr':some (w.heap.size+1)=some r:=hr;injection hr';omega);have hx2:w2.heap[w.heap.size]?=some (.cells #[.int .i64 x.tick,.int .i64 x.load,.int .i64 x.want,.int .i64 x.repl,.int .i64 x.why] 44 (0,0)):=(hg2.block w.heap.size (by simp;omega) (fun e=>absurd e (by simp [Value.ownBlock]))).trans ((Below.heap_alloc _ _ _ (by simp)).trans (heap_alloc_new _ _))
     obtain ⟨a1,a2,a3⟩:=a0A jR hx2;have HW2:=jH hown2;have HO2:=jH hout2;have HB2:=jH hb2;clear hown2 hout2 hg2 hb2 hx2)
  | (at_builtin;refine a0N q0L (by rfl) (by rfl) w.heap.size out2 [x] _ _ (by rfl) (by rfl) (HW2.out.below (a0C jR _)) (a0O.lit w2 x _ _ _ rfl rfl) (by simp [HO2.out];omega) (by have:=HB2.out.size;simp;omega) ?_;intro out3 A3 c3 w3 hout3 hown3 hg3 _
     have hb3:jB w w3:=(a0C HB2.out _).trans (a0Z hg3 HW2.out (by have:=HB2.out.size;simp;omega));have hl3:(out3.length:Int)=(l.length:Int)+1:=by rw [hout3,HO2.out];simp
     obtain ⟨m,A4,c4,hm,hA,hrun,hrow⟩:=p0Z q0L (hown3.row q0L) 1 (by rw [hout3];simp);simp only [show ((1:Nat):Int)=1 from rfl] at hrun
     have HA:=jH hA;have HW3:=jH hown3;have HO3:=jH hout3;have HB3:=jH hb3;have HM:=jH hm;have HR:=jH hrow;clear hown3 hout3 hg3 hb3 hm hrow hA))
 · go_ret
   have e:m=f0K l room x:=by rw [HM.out,HO3.out,HO2.out];unfold f0K;rw [if_neg (by omega)];cases l with
    | nil=>simp at *;omega
    | cons a l=>simp
   have hrow:=HR.out;have hg3:=e0U.own q0L HW3.out;rw [←e];exact ⟨_,_,rfl,e0U.part hg3 HA.out (by rw [HM.out];simp) hrow,HB3.out⟩
 · go_ret
   have e:out3=f0K l room x:=by rw [HO3.out,HO2.out];unfold f0K;rw [if_pos (by omega)];simp
   rw [←e];exact ⟨_,_,rfl,e0U.own q0L HW3.out,HB3.out⟩
def s0Z (l:List Smp) (t:Int) (p:Nat):Prop:=p≤l.length∧(∀i (h:i<l.length),i<p ↔ l[i].1<t)
theorem s0B (v:Value) (l:List Smp) (t:Int) (w:World) (hv:a0O 2 b0X w v l) (hs:s0Z l t (a0Q l t)) (hl:l.length≤1000000) :
 Calls Tryz.prog 228 #[v,.int .i64 t] w (g1J 2 b0X w (l.drop (a0Q l t))):=by
 obtain ⟨A,c,rfl⟩:=hv.form;have HV:=jH hv;have HS:=jH hs;clear hv hs;generalize a0Q l t=p at HS ⊢
 go_enter Tryz.func228,Tryz.ntmps228
 go_wp2
 go_loopg [5,6] l.length (fun g s5 s6 wr=>∃k:Nat,k≤l.length∧l.length - k≤g∧s6=.int .i64 k∧b0Q b0X 111 2 w.heap.size wr s5 ((l.take k).drop p)∧jB w wr)
 case atStart=>exact ⟨0,Nat.zero_le _,Nat.le_refl _,rfl,by rw [List.take_zero,List.drop_nil];exact b0Q.nil _ _,jR⟩
 case round =>
  obtain ⟨k,hk,hg,rfl,hown,hb⟩:=hrel;obtain ⟨A5,c5,rfl⟩:=hown.form;have HO:=jH hown;clear hown
  by_cases hlt:k<l.length
  · obtain ⟨b,o,rfl,hbw,hc⟩:=HV.out.at_ hlt
    have c1:wr.cell? ⟨b,o+k * 2,none⟩=some (.int .i64 l[k].1):=(hb.cell (p:=⟨b,_,none⟩) hbw).trans (hc 0 _ rfl);have c2:wr.cell? ⟨b,o+k * 2+1,none⟩=some (.int .i64 l[k].2):=(hb.cell (p:=⟨b,_,none⟩) hbw).trans (hc 1 _ rfl);have hsp:=HS.out.2 k hlt;have hnext:p≤k→(l.take (k+1)).drop p=(l.take k).drop p++[l[k]]:=fun hp=>by
     rw [List.take_succ_eq_append_getElem hlt,List.drop_append_of_le_length (by simp;omega)]
    have hsame:k<p→(l.take (k+1)).drop p=(l.take k).drop p:=fun hp=>by
     rw [List.drop_eq_nil_of_le (by simp;omega),List.drop_eq_nil_of_le (by simp;omega)]
    have HN:=jH hnext;have HM:=jH hsame;clear hc hnext hsame;generalize l[k]=x at c1 c2 hsp HN
    by_cases hp:k<p
    · have hlt2:x.1<t:=hsp.1 hp
      clear hsp;go_wp2
      go_roundg (l.length - (k+1))
      case measure=>omega
      case rel=>exact ⟨k+1,hlt,Nat.le_refl _,by go_num,by rw [HM.out hp];exact HO.out,hb⟩
    · have hge:t≤x.1:=by have:=mt hsp.2 hp;omega
      clear hsp
      go_wp2_with (at_builtin;refine a0N d0J (by rfl) (by rfl) w.heap.size ((l.take k).drop p) [x] _ _ (by rfl) (by rfl) (HO.out.below (a0C jR _)) (a0O.lit wr x _ _ _ rfl rfl) (by simp;omega) (by have:=hb.size;simp;omega) ?_;intro out2 A2 c2' w2 hout2 hown2 hg2 _
                   have hb2:jB w w2:=(a0C hb _).trans (a0Z hg2 HO.out (by have:=hb.size;simp;omega));have HW2:=jH hown2;have HO2:=jH hout2;clear hown2 hout2 hg2)
      go_roundg (l.length - (k+1))
      case measure=>omega
      case rel=>exact ⟨k+1,hlt,Nat.le_refl _,by go_num,by rw [HN.out (by omega),←HO2.out];exact HW2.out,hb2⟩
  · obtain rfl:k=l.length:=by omega
    rw [List.take_length] at HO;go_wp2
    go_ret
    have hlen:(l.drop p).length=(List.drop p (List.take l.length l)).length:=by rw [List.take_length]
    rw [List.take_length];exact ⟨_,_,rfl,e0U.own d0J HO.out,hb⟩
def rpA (l:List Smp) (x:Smp) (p q k:Nat):List Smp:=if k≤p then l.take k else l.take p++x::(l.take k).drop q
theorem s1N {l:List Smp} {x:Smp} {p q k:Nat} (h:k<l.length) (hk:k<p):rpA l x p q (k+1)=rpA l x p q k++[l[k]]:=by
 unfold rpA;rw [if_pos (by omega),if_pos (by omega),List.take_succ_eq_append_getElem h]
theorem o1N {l:List Smp} {x:Smp} {p q k:Nat} (h:k<l.length) (hk:p<k) (hq:q≤k):rpA l x p q (k+1)=rpA l x p q k++[l[k]]:=by
 unfold rpA;rw [if_neg (by omega),if_neg (by omega),List.take_succ_eq_append_getElem h,List.drop_append_of_le_length (by simp;omega)];simp
theorem t1Y {l:List Smp} {x:Smp} {p:Nat} (h:p<l.length):rpA l x p (p+1) (p+1)=rpA l x p (p+1) p++[x]:=by
 unfold rpA;rw [if_neg (by omega),if_pos (Nat.le_refl _),List.drop_eq_nil_of_le (by simp;omega)]
theorem rpA_in {l:List Smp} {x:Smp} {p:Nat} (h:p<l.length):rpA l x p p (p+1)=(rpA l x p p p++[x])++[l[p]]:=by
 unfold rpA;rw [if_neg (by omega),if_pos (Nat.le_refl _),List.take_succ_eq_append_getElem h,List.drop_append_of_le_length (by simp;omega),List.drop_eq_nil_of_le (by simp;omega)];simp
theorem m1Q (v:Value) (l:List Smp) (room:Nat) (x:Smp) (w:World) (hv:a0O 2 b0X w v l) (hs:s0Z l x.1 (a0Q l x.1)) (hr:b0G l) (hl:l.length≤room) (h1:1≤room) (hroom:room≤1000000) :
 Calls Tryz.prog 227 #[v,.int .i64 (room:Nat),.agg #[.int .i64 x.1,.int .i64 x.2]] w (g1J 2 b0X w (i0O l (room:Nat) x)):=by
 obtain ⟨A,c,rfl⟩:=hv.form;have HV:=jH hv;have HS:=jH hs;have hhit:y0Y l x=decide (∃h:a0Q l x.1<l.length,l[a0Q l x.1].1=x.1):=by
  unfold y0Y
  by_cases h:a0Q l x.1<l.length
  · rw [List.getElem?_eq_getElem h];simp [h]
  · rw [List.getElem?_eq_none (by omega)];simp;omega
 have hput:i0O l (room:Nat) x=if y0Y l x=true then l.set (a0Q l x.1) x else x0T (room:Nat) (h1Z l x):=rfl;unfold h1Z at hput;have hgt:∀k (h:k<l.length),a0Q l x.1<k→x.1<l[k].1:=fun k h hk=>by
  have h0:=(List.pairwise_iff_getElem.1 hr) (a0Q l x.1) k (by omega) h hk;have h2:=mt (hs.2 (a0Q l x.1) (by omega)).2 (by omega);omega
 have HG:=jH hgt;have HP:=jH hput;have HH:=jH hhit;have hple:=hs.1;clear hv hs hr hput hhit hgt;generalize a0Q l x.1=p at *;generalize y0Y l x=hit at *;obtain ⟨q,hq⟩:∃q,q=if hit=true then p+1 else p:=⟨_,rfl⟩;have hqp:p≤q∧q≤p+1:=by rw [hq];split <;> omega
 have HQ:=jH hq;clear hq
 go_enter Tryz.func227,Tryz.ntmps227
 go_wp2_with fail
 refine a0I ?_;intro W hW;have hb0:jB w W:=by rw [hW];exact a0C jR _
 have hx0:W.heap[w.heap.size]?=some (.cells #[.int .i64 x.1,.int .i64 x.2] 111 (0,0)):=by rw [hW];exact heap_alloc_new _ _
 have HX0:=jH hx0;clear hW hx0;go_wp2
 go_loopg [7,8,9] l.length (fun g s7 s8 s9 wr=>∃k:Nat,k≤l.length∧l.length - k≤g∧s9=.int .i64 k∧s8=.bool (decide (p<k))∧b0Q b0X 111 2 W.heap.size wr s7 (rpA l x p q k)∧jB W wr)
 case atStart=>exact ⟨0,Nat.zero_le _,Nat.le_refl _,rfl,by simp,by unfold rpA;rw [if_pos (Nat.zero_le _),List.take_zero];exact b0Q.nil _ _,jR⟩
 case round =>
  obtain ⟨k,hk,hg,rfl,rfl,hown,hb⟩:=hrel;obtain ⟨A5,c5,rfl⟩:=hown.form;have HO:=jH hown;clear hown;obtain ⟨a1,a2,a3⟩:=a0A hb HX0.out;have hrl:(rpA l x p q k).length≤k+1:=by unfold rpA;split <;> simp <;> omega
  by_cases hlt:k<l.length
  · obtain ⟨b,o,rfl,hbw,hc⟩:=HV.out.at_ hlt
    have c1:wr.cell? ⟨b,o+k * 2,none⟩=some (.int .i64 l[k].1):=((a0D hb0 hb).cell (p:=⟨b,_,none⟩) hbw).trans (hc 0 _ rfl);have c2:wr.cell? ⟨b,o+k * 2+1,none⟩=some (.int .i64 l[k].2):=((a0D hb0 hb).cell (p:=⟨b,_,none⟩) hbw).trans (hc 1 _ rfl);have hbl:b<W.heap.size:=Nat.lt_of_lt_of_le hbw hb0.size;have hsp:=HS.out.2 k hlt;have hgk:=HG.out k hlt
    rcases Nat.lt_trichotomy k p with hp|hp|hp
    · have HN:=jH (s1N (x:=x) (q:=q) hlt hp)
      have hlt2:l[k].1<x.1:=hsp.1 hp;have hne:(l[k].1 != x.1)=true:=by simp;omega
      have hnge:¬x.1≤l[k].1:=by omega
      clear hsp hgk hc;generalize l[k]=y at *;rw [decide_eq_false (show ¬p<k by omega)];have HB:=jH hb;have HCX:=jH (And.intro c1 c2);clear hb;go_wp2_with fail
      go_quiet (fail)
      obtain ⟨w1,hw1⟩:∃w1:World,w1=wr.drewN nq:=⟨_,rfl⟩;rw [←hw1];have hb1:jB wr w1:=by rw [hw1];exact a0F jR _
      clear hw1 c1 c2 a1 a2 a3;have HB1:=jH hb1;have d1:=(hb1.cell (p:=⟨b,_,none⟩) (Nat.lt_of_lt_of_le hbl HB.out.size)).trans HCX.out.1;have d2:=(hb1.cell (p:=⟨b,_,none⟩) (Nat.lt_of_lt_of_le hbl HB.out.size)).trans HCX.out.2;obtain ⟨e1,e2,e3⟩:=a0A (a0D HB.out hb1) HX0.out;clear hb1;go_wp2_with fail
      go_quiet (fail)
      obtain ⟨w2,hw1⟩:∃w2:World,w2=w1.drewN nq:=⟨_,rfl⟩;rw [←hw1];have hb2:jB wr w2:=by rw [hw1];exact a0F HB1.out _
      clear hw1 d1 d2 e1 e2 e3;have HB2:=jH hb2;have d1:=(hb2.cell (p:=⟨b,_,none⟩) (Nat.lt_of_lt_of_le hbl HB.out.size)).trans HCX.out.1;have d2:=(hb2.cell (p:=⟨b,_,none⟩) (Nat.lt_of_lt_of_le hbl HB.out.size)).trans HCX.out.2;obtain ⟨e1,e2,e3⟩:=a0A (a0D HB.out hb2) HX0.out;clear hb2;have HO3:=jH (HO.out.below HB2.out);have HW3:=jH (a0D HB.out HB2.out)
      go_wp2_with (at_builtin;refine a0N d0J (by rfl) (by rfl) W.heap.size (rpA l x p q k) [y] _ _ (by rfl) (by rfl) (HO3.out.below (a0C jR _)) (a0O.lit w2 y _ _ _ rfl rfl) (by simp;omega) (by have:=HW3.out.size;simp;omega) ?_;intro out4 A4 c4' w4 hout2 hown2 hg2 _
                   have hb2:jB W w4:=(a0C HW3.out _).trans (a0Z hg2 HO3.out (by have:=HW3.out.size;simp;omega));have HO4:=jH hown2;have HE4:=jH hout2;have HW4:=jH hb2;clear hown2 hout2 hg2 hb2)
      go_roundg (l.length - (k+1))
      case measure=>omega
      case rel=>exact ⟨k+1,hlt,Nat.le_refl _,by go_num,by rw [decide_eq_false (show ¬p<k+1 by omega)],by rw [HN.out,←HE4.out];exact HO4.out,HW4.out⟩
    · subst hp
      have hge:x.1≤l[k].1:=by have:=mt hsp.2 (by omega);omega
      have HC0:=jH (And.intro (show w.cell? ⟨b,o+k * 2,none⟩=some (.int .i64 l[k].1) from hc 0 _ rfl) (show w.cell? ⟨b,o+k * 2+1,none⟩=some (.int .i64 l[k].2) from hc 1 _ rfl));have hl2:(rpA l x k q k).length≤k:=by unfold rpA;rw [if_pos (Nat.le_refl _)];simp;omega
      cases hit with
      | true =>
        have he:l[k].1=x.1:=by have:=HH.out;simp at this;exact this.2
        have hq2:q=k+1:=by have:=HQ.out;simpa using this
        subst hq2;have HN:=jH (t1Y (x:=x) hlt);have hne:(l[k].1 != x.1)=false:=by simp [he]
        clear hsp hgk hc;generalize l[k]=y at *;rw [decide_eq_false (show ¬k<k by omega)];have HB:=jH hb;have HCX:=jH (And.intro c1 c2);clear hb;go_wp2_with fail
        go_quiet (fail)
        obtain ⟨w1,hw1⟩:∃w1:World,w1=wr.drewN nq:=⟨_,rfl⟩;rw [←hw1];have hb1:jB wr w1:=by rw [hw1];exact a0F jR _
        clear hw1 c1 c2 a1 a2 a3;have HW1:=jH (a0D HB.out hb1);have HO1:=jH (HO.out.below hb1);obtain ⟨e1,e2,e3⟩:=a0A HW1.out HX0.out;clear hb1
        go_wp2_with (at_builtin;refine a0N d0J (by rfl) (by rfl) W.heap.size (rpA l x k (k+1) k) [x] _ _ (by rfl) (by rfl) (HO1.out.below (a0C jR _)) (a0O.lit w1 x _ _ _ rfl rfl) (by simp;omega) (by have:=HW1.out.size;simp;omega) ?_;intro out2 A2 c2 w2 hout2 hown2 hg2 _
                     have hb2:jB W w2:=(a0C HW1.out _).trans (a0Z hg2 HO1.out (by have:=HW1.out.size;simp;omega));have hgb:b<w2.heap.size:=Nat.lt_of_lt_of_le hbl hb2.size;have hcc:=((a0D hb0 hb2).cell (p:=⟨b,_,none⟩) hbw).trans HC0.out.1;have hcd:=((a0D hb0 hb2).cell (p:=⟨b,_,none⟩) hbw).trans HC0.out.2;obtain ⟨f1,f2,f3⟩:=a0A hb2 HX0.out;have HO2:=jH hown2;have HE2:=jH hout2;have HW2:=jH hb2
                     clear hown2 hout2 hg2 hb2 e1 e2 e3)
        go_quiet (fail)
        obtain ⟨w3,hw3⟩:∃w3:World,w3=w2.drewN nq:=⟨_,rfl⟩;rw [←hw3];have hb3:jB w2 w3:=by rw [hw3];exact a0F jR _
        have d1:=(hb3.cell (p:=⟨b,_,none⟩) hgb).trans hcc;have d2:=(hb3.cell (p:=⟨b,_,none⟩) hgb).trans hcd;clear hw3 hcc hcd f1 f2 f3;have HW3:=jH (a0D HW2.out hb3);have HO3:=jH (HO2.out.below hb3);clear hb3;go_wp2
        go_roundg (l.length - (k+1))
        case measure=>omega
        case rel=>exact ⟨k+1,hlt,Nat.le_refl _,by go_num,by rw [decide_eq_true (show k<k+1 by omega)],by rw [HN.out,←HE2.out];exact HO3.out,HW3.out⟩
      | false =>
        have he:l[k].1≠x.1:=by have:=HH.out;simp at this;exact this hlt
        have hq2:k=q:=by have:=HQ.out;simp at this;exact this.symm
        subst hq2;have HN:=jH (rpA_in (x:=x) hlt);have hne:(l[k].1 != x.1)=true:=by simp [he]
        clear he;clear hsp hgk hc;generalize l[k]=y at *;rw [decide_eq_false (show ¬k<k by omega)];have HB:=jH hb;have HCX:=jH (And.intro c1 c2);clear hb;go_wp2_with fail
        go_quiet (fail)
        obtain ⟨w1,hw1⟩:∃w1:World,w1=wr.drewN nq:=⟨_,rfl⟩;rw [←hw1];have hb1:jB wr w1:=by rw [hw1];exact a0F jR _
        clear hw1 c1 c2 a1 a2 a3;have HW1:=jH (a0D HB.out hb1);have HO1:=jH (HO.out.below hb1);obtain ⟨e1,e2,e3⟩:=a0A HW1.out HX0.out;clear hb1
        go_wp2_with (at_builtin;refine a0N d0J (by rfl) (by rfl) W.heap.size (rpA l x k k k) [x] _ _ (by rfl) (by rfl) (HO1.out.below (a0C jR _)) (a0O.lit w1 x _ _ _ rfl rfl) (by simp;omega) (by have:=HW1.out.size;simp;omega) ?_;intro out2 A2 c2 w2 hout2 hown2 hg2 _
                     have hb2:jB W w2:=(a0C HW1.out _).trans (a0Z hg2 HO1.out (by have:=HW1.out.size;simp;omega));have hgb:b<w2.heap.size:=Nat.lt_of_lt_of_le hbl hb2.size;have hcc:=((a0D hb0 hb2).cell (p:=⟨b,_,none⟩) hbw).trans HC0.out.1;have hcd:=((a0D hb0 hb2).cell (p:=⟨b,_,none⟩) hbw).trans HC0.out.2;obtain ⟨f1,f2,f3⟩:=a0A hb2 HX0.out;have HO2:=jH hown2;have HE2:=jH hout2;have HW2:=jH hb2
                     clear hown2 hout2 hg2 hb2 e1 e2 e3)
        go_quiet (fail)
        obtain ⟨w3,hw3⟩:∃w3:World,w3=w2.drewN nq:=⟨_,rfl⟩;rw [←hw3];have hb3:jB w2 w3:=by rw [hw3];exact a0F jR _
        have d1:=(hb3.cell (p:=⟨b,_,none⟩) hgb).trans hcc;have d2:=(hb3.cell (p:=⟨b,_,none⟩) hgb).trans hcd;clear hw3 hcc hcd f1 f2 f3;have HW3:=jH (a0D HW2.out hb3);have HO3:=jH (HO2.out.below hb3);clear hb3;have hl3:out2.length≤k+1:=by rw [HE2.out];simp;omega
        go_wp2_with (at_builtin;refine a0N d0J (by rfl) (by rfl) W.heap.size out2 [y] _ _ (by rfl) (by rfl) (HO3.out.below (a0C jR _)) (a0O.lit w3 y _ _ _ rfl rfl) (by simp;omega) (by have:=HW3.out.size;simp;omega) ?_;intro out4 A4 c4 w4 hout2 hown2 hg2 _
                     have hb2:jB W w4:=(a0C HW3.out _).trans (a0Z hg2 HO3.out (by have:=HW3.out.size;simp;omega));have HO4:=jH hown2;have HE4:=jH hout2;have HW4:=jH hb2;clear hown2 hout2 hg2 hb2)
        go_roundg (l.length - (k+1))
        case measure=>omega
        case rel=>exact ⟨k+1,hlt,Nat.le_refl _,by go_num,by rw [decide_eq_true (show k<k+1 by omega)],by rw [HN.out,←HE2.out,←HE4.out];exact HO4.out,HW4.out⟩
    · have HN:=jH (o1N (x:=x) (q:=q) hlt hp (by omega))
      have hgt2:=hgk hp;have hne:(l[k].1 != x.1)=true:=by simp;omega
      clear hsp hgk hc;generalize l[k]=y at *;rw [decide_eq_true (show p<k by omega)];have HB:=jH hb;have HCX:=jH (And.intro c1 c2);clear hb;go_wp2_with fail
      go_quiet (fail)
      obtain ⟨w1,hw1⟩:∃w1:World,w1=wr.drewN nq:=⟨_,rfl⟩;rw [←hw1];have hb1:jB wr w1:=by rw [hw1];exact a0F jR _
      clear hw1 c1 c2 a1 a2 a3;have HB1:=jH hb1;have d1:=(hb1.cell (p:=⟨b,_,none⟩) (Nat.lt_of_lt_of_le hbl HB.out.size)).trans HCX.out.1;have d2:=(hb1.cell (p:=⟨b,_,none⟩) (Nat.lt_of_lt_of_le hbl HB.out.size)).trans HCX.out.2;obtain ⟨e1,e2,e3⟩:=a0A (a0D HB.out hb1) HX0.out;clear hb1;go_wp2_with fail
      go_quiet (fail)
      obtain ⟨w2,hw1⟩:∃w2:World,w2=w1.drewN nq:=⟨_,rfl⟩;rw [←hw1];have hb2:jB wr w2:=by rw [hw1];exact a0F HB1.out _
      clear hw1 d1 d2 e1 e2 e3;have HB2:=jH hb2;have d1:=(hb2.cell (p:=⟨b,_,none⟩) (Nat.lt_of_lt_of_le hbl HB.out.size)).trans HCX.out.1;have d2:=(hb2.cell (p:=⟨b,_,none⟩) (Nat.lt_of_lt_of_le hbl HB.out.size)).trans HCX.out.2;obtain ⟨e1,e2,e3⟩:=a0A (a0D HB.out hb2) HX0.out;clear hb2;have HO3:=jH (HO.out.below HB2.out);have HW3:=jH (a0D HB.out HB2.out)
      go_wp2_with (at_builtin;refine a0N d0J (by rfl) (by rfl) W.heap.size (rpA l x p q k) [y] _ _ (by rfl) (by rfl) (HO3.out.below (a0C jR _)) (a0O.lit w2 y _ _ _ rfl rfl) (by simp;omega) (by have:=HW3.out.size;simp;omega) ?_;intro out4 A4 c4' w4 hout2 hown2 hg2 _
                   have hb2:jB W w4:=(a0C HW3.out _).trans (a0Z hg2 HO3.out (by have:=HW3.out.size;simp;omega));have HO4:=jH hown2;have HE4:=jH hout2;have HW4:=jH hb2;clear hown2 hout2 hg2 hb2)
      go_roundg (l.length - (k+1))
      case measure=>omega
      case rel=>exact ⟨k+1,hlt,Nat.le_refl _,by go_num,by rw [decide_eq_true (show p<k+1 by omega)],by rw [HN.out,←HE4.out];exact HO4.out,HW4.out⟩
  · obtain rfl:k=l.length:=by omega
    have hpl:=HS.out.1
    rcases Nat.lt_or_ge p l.length with hp|hp
    · rw [decide_eq_true hp]
      cases hit with
      | true =>
        have hq2:q=p+1:=by have:=HQ.out;simpa using this
        have e:rpA l x p q l.length=i0O l (room:Nat) x:=by
         rw [HP.out,if_pos rfl,hq2];unfold rpA;rw [if_neg (by omega),List.take_length,List.set_eq_take_append_cons_drop,if_pos hp]
        rw [e] at HO ⊢;have hlen:(i0O l (room:Nat) x).length=l.length:=by rw [HP.out,if_pos rfl,List.length_set]
        have hnl:¬(room:Int)<((i0O l (room:Nat) x).length:Int):=by rw [hlen];omega
        have HE:=jH (e0U.own d0J HO.out);clear hlen hlt HO e hq2;go_wp2
        go_ret
        exact ⟨_,_,rfl,HE.out.imp (fun b hb'=>Nat.le_trans hb0.size hb'),a0D hb0 hb⟩
      | false =>
        have hq2:q=p:=by have:=HQ.out;simpa using this
        obtain ⟨out,hout⟩:∃out,out=rpA l x p q l.length:=⟨_,rfl⟩;rw [←hout] at HO ⊢;have e:i0O l (room:Nat) x=x0T (room:Nat) out:=by
         rw [HP.out,if_neg (by simp),hout,hq2];unfold rpA;rw [if_neg (by omega),List.take_length]
        have hlen:(out.length:Int)=(l.length:Int)+1:=by
         rw [hout,hq2];unfold rpA;rw [if_neg (by omega)];simp;omega
        obtain ⟨m,A4,c4,hm,hA,hrun,hrow⟩:=p0Z d0J (HO.out.row d0J) 1 (by omega);simp only [show ((1:Nat):Int)=1 from rfl] at hrun
        have HE:=jH (e0U.own d0J HO.out);have HA:=jH hA;have HR:=jH hrow;have HM:=jH hm;have HEQ:=jH e;clear hlt HO hA hrow hm e hout hq2
        by_cases hc:(room:Int)<(l.length:Int)+1
        · go_wp2
          go_ret
          rw [HEQ.out];unfold x0T;rw [if_pos (by omega)];have hp3:=e0U.part HE.out HA.out (by rw [HM.out];simp) HR.out;rw [HM.out] at hp3 ⊢;exact ⟨_,_,rfl,hp3.imp (fun b hb'=>Nat.le_trans hb0.size hb'),a0D hb0 hb⟩
        · go_wp2
          go_ret
          rw [HEQ.out];unfold x0T;rw [if_neg (by omega)];exact ⟨_,_,rfl,HE.out.imp (fun b hb'=>Nat.le_trans hb0.size hb'),a0D hb0 hb⟩
    · obtain rfl:p=l.length:=by omega
      rw [decide_eq_false (show ¬l.length<l.length by omega)];have hf:hit=false:=by rw [HH.out];simp
      subst hf;have e0:rpA l x l.length q l.length=l:=by unfold rpA;rw [if_pos (Nat.le_refl _),List.take_length]
      rw [e0] at HO ⊢;clear hrl e0 hlt
      go_wp2_with (at_builtin;refine a0N d0J (by rfl) (by rfl) W.heap.size l [x] _ _ (by rfl) (by rfl) (HO.out.below (a0C jR _)) (a0O.lit wr x _ _ _ rfl rfl) (by simp;omega) (by have:=hb.size;simp;omega) ?_;intro out A2 c2 w2 hout hown2 hg2 _
                   have hb2:jB W w2:=(a0C hb _).trans (a0Z hg2 HO.out (by have:=hb.size;simp;omega));have hlen:(out.length:Int)=(l.length:Int)+1:=by rw [hout];simp
                   have e:i0O l (room:Nat) x=x0T (room:Nat) out:=by
                    rw [HP.out,if_neg (by simp),hout,List.take_length,List.drop_length]
                   obtain ⟨m,A4,c4,hm,hA,hrun,hrow⟩:=p0Z d0J (hown2.row d0J) 1 (by omega);simp only [show ((1:Nat):Int)=1 from rfl] at hrun
                   have HE:=jH (e0U.own d0J hown2);have HA:=jH hA;have HR:=jH hrow;have HM:=jH hm;have HB2:=jH hb2;have HEQ:=jH e;clear hout hown2 hg2 hb2 hA hrow hm e)
      all_goals
        go_ret
        rw [HEQ.out];unfold x0T
        first
         | (rw [if_pos (by omega)]
            have hp3:=e0U.part HE.out HA.out (by rw [HM.out];simp) HR.out;rw [HM.out] at hp3 ⊢;exact ⟨_,_,rfl,hp3.imp (fun b hb'=>Nat.le_trans hb0.size hb'),a0D hb0 HB2.out⟩)
         | (rw [if_neg (by omega)]
            exact ⟨_,_,rfl,HE.out.imp (fun b hb'=>Nat.le_trans hb0.size hb'),a0D hb0 HB2.out⟩)
theorem o0R {l:List Smp} (hr:b0G l) (t:Int):s0Z l t (a0Q l t):=⟨e0S l t,i0R hr t⟩
end
section
open Go.RowKit Go.Lib
theorem keepS {wo a b:World} {n:Nat} {S:World→Prop} {p q r t:Prop} (H:∀W,jB wo W→S W) (h:p∧q∧r∧t∧jB wo a) (k:Below n a b) (e:n=a.heap.size):S b:=by
 subst e;exact H b (a0D h.2.2.2.2 k)
end
section
open Go.RowKit Go.Lib Go.Sort
structure It where
 key:Ky
 sA:Option Addr
 sc:Nat
 pA:Option Addr
 pc:Nat
 nd:Nd
def d0X (x:It):List Value:=[.slice x.sA x.nd.smp.length x.sc,.slice x.pA x.nd.past.length x.pc,.int .i64 x.nd.pol.mn,.int .i64 x.nd.pol.mx,.int .i64 x.nd.pol.tg,.int .i64 x.nd.pol.tol,.int .i64 x.nd.pol.win,.int .i64 x.nd.pol.hold,.bool x.nd.ruled,.int .i64 (x.nd.ver:Nat)]
def itC (x:It):List Value:=[.int .u64 x.key.1,.int .u64 x.key.2,.slice x.sA x.nd.smp.length x.sc,.slice x.pA x.nd.past.length x.pc,.int .i64 x.nd.pol.mn,.int .i64 x.nd.pol.mx,.int .i64 x.nd.pol.tg,.int .i64 x.nd.pol.tol,.int .i64 x.nd.pol.win,.int .i64 x.nd.pol.hold,.bool x.nd.ruled,.int .i64 (x.nd.ver:Nat)]
theorem eIt:i0N 176 178 12 128 (.agg #[.int .u64 0,.int .u64 0,.slice none 0 0,.slice none 0 0,.int .i64 0,.int .i64 0,.int .i64 0,.int .i64 0,.int .i64 0,.int .i64 0,.bool false,.int .i64 0]) itC :=
 ⟨by kernel_rfl,by kernel_rfl,rfl,by decide,by decide,fun _=>rfl,fun x u hu=>by
  simp only [itC,List.mem_cons,List.not_mem_nil,or_false] at hu
  rcases hu with rfl|rfl|rfl|rfl|rfl|rfl|rfl|rfl|rfl|rfl|rfl|rfl <;> rfl⟩
def b0K (P:Nat→Prop) (w:World) (x:It):Prop:=e0U P 2 b0X w (.slice x.sA x.nd.smp.length x.sc) x.nd.smp∧e0U P 5 c0V w (.slice x.pA x.nd.past.length x.pc) x.nd.past
theorem b0K.below {P:Nat→Prop} {w w':World} {x:It} (h:b0K P w x) (hb:jB w w'):b0K P w' x:=⟨h.1.below hb,h.2.below hb⟩
theorem b0K.imp {P Q:Nat→Prop} {w:World} {x:It} (h:b0K P w x) (hi:∀b,P b→Q b):b0K Q w x:=⟨h.1.imp hi,h.2.imp hi⟩
def b0D (P:Nat→Prop) (w:World) (v:Value) (l:List It):Prop:=e0U P 12 itC w v l∧∀x∈l,b0K P w x
theorem b0D.imp {P Q:Nat→Prop} {w:World} {v:Value} {l:List It} (h:b0D P w v l) (hi:∀b,P b→Q b):b0D Q w v l:=⟨h.1.imp hi,fun x hx=>(h.2 x hx).imp hi⟩
theorem b0D.below {P:Nat→Prop} {w w':World} {v:Value} {l:List It} (h:b0D P w v l) (hb:jB w w'):b0D P w' v l:=⟨h.1.below hb,fun x hx=>(h.2 x hx).below hb⟩
def atI (l:List It) (k:Ky):Nat:=(l.takeWhile (fun x=>ltK x.key k)).length
theorem m1O (l:List It) (k:Ky):atI l k≤l.length:=by
 unfold atI;exact (List.takeWhile_prefix _).length_le
theorem b1W {l:List It} {k:Ky}:∀{i:Nat} (h:i<l.length),i<atI l k→ltK l[i].key k=true:=by
 induction l with
 | nil=>intro i h;simp at h
 | cons a l ih =>
   intro i h hi
   by_cases ha:ltK a.key k=true
   · have e:atI (a::l) k=atI l k+1:=by simp [atI,ha]
     rw [e] at hi
     cases i with
     | zero=>exact ha
     | succ i=>simpa using ih (by simpa using h) (by omega)
   · have e:atI (a::l) k=0:=by simp [atI,ha]
     omega
theorem l1F {l:List It} {k:Ky} (h:atI l k<l.length):ltK l[atI l k].key k=false:=by
 induction l with
 | nil=>simp at h
 | cons a l ih =>
   by_cases ha:ltK a.key k=true
   · have e:atI (a::l) k=atI l k+1:=by simp [atI,ha]
     simp only [e] at h ⊢
     simp only [List.getElem_cons_succ]
     exact ih (by simpa using h)
   · have e:atI (a::l) k=0:=by simp [atI,ha]
     simp only [e,List.getElem_cons_zero]
     simpa using ha
theorem a1Y (v:Value) (l:List It) (k:Ky) (w:World) (hv:a0O 12 itC w v l) (hl:l.length≤1000000) (hok:∀x∈l,x.key.ok) (hk:k.ok) :
 Calls Tryz.prog 230 #[v,.agg #[.int .u64 k.1,.int .u64 k.2]] w (jP w (.int .i64 (atI l k:Nat))):=by
 obtain ⟨A,c,rfl⟩:=hv.form;have HV:=jH hv;have HK:=jH hok;clear hv hok
 go_enter Tryz.func230,Tryz.ntmps230
 go_wp2_with fail
 refine a0I ?_;intro W hW;obtain ⟨k0,k1,hs,hb⟩:=p0D w k W hW;clear hW;go_wp2
 go_loopg [5] l.length (fun g s5 wr=>∃a:Nat,a≤atI l k∧l.length - a≤g∧s5=.int .i64 a∧jB W wr)
 case atStart=>exact ⟨0,Nat.zero_le _,Nat.le_refl _,rfl,jR⟩
 case round =>
  obtain ⟨a,ha,hga,rfl,hbi⟩:=hrel
  by_cases hal:a<l.length
  · obtain ⟨b,o,rfl,hbw,hc⟩:=HV.out.at_ hal
    have c1:w.cell? ⟨b,o+a * 12,none⟩=some (.int .u64 l[a].key.1):=hc 0 _ rfl;have c2:w.cell? ⟨b,o+a * 12+1,none⟩=some (.int .u64 l[a].key.2):=hc 1 _ rfl;have hyok:l[a].key.ok:=HK.out _ (List.getElem_mem hal);have hless:ltK l[a].key k=decide (a<atI l k):=by
     by_cases h:a<atI l k
     · rw [b1W hal h];simp [h]
     · have e:a=atI l k:=by omega
       subst e;rw [l1F hal];simp
    have HL:=jH hless;generalize l[a].key=y at c1 c2 hyok hless HL;have HSB:=jH (show ∀U,jB W U→(U.cell? ⟨w.heap.size,0,none⟩=some (.int .u64 k.1)∧U.cell? ⟨w.heap.size,1,none⟩=some (.int .u64 k.2)∧U.cell? ⟨b,o+a * 12,none⟩=some (.int .u64 y.1)∧U.cell? ⟨b,o+a * 12+1,none⟩=some (.int .u64 y.2)∧jB W U) from fun U hU =>
     ⟨(hU.cell (p:=⟨w.heap.size,0,none⟩) (by simp;omega)).trans k0,(hU.cell (p:=⟨w.heap.size,1,none⟩) (by simp;omega)).trans k1,((a0D hb hU).cell (p:=⟨b,_,none⟩) hbw).trans c1,((a0D hb hU).cell (p:=⟨b,_,none⟩) hbw).trans c2,hU⟩)
    have HS0:=HSB.out _ hbi.drew;clear hc c1 c2 hless k0 k1
    by_cases hlt:a<atI l k
    · have Hly:Hid (ltK y k=true):=jH (by rw [HL.out];simp [hlt])
      clear HL;go_wp2_with fail
      go_region_held3 (fun w'=>w'.cell? ⟨w.heap.size,0,none⟩=some (.int .u64 k.1)∧w'.cell? ⟨w.heap.size,1,none⟩=some (.int .u64 k.2)∧w'.cell? ⟨b,o+a * 12,none⟩=some (.int .u64 y.1)∧w'.cell? ⟨b,o+a * 12+1,none⟩=some (.int .u64 y.2)∧jB W w')
        (first|assumption|exact keepS HSB.out (by assumption) hb1 rfl)
        (first|(go_at_call 278;refine (d1J y k _ hyok hk).mono ?_;rw [Hly.out];rintro e w1 ⟨rfl,hb1⟩))
      obtain ⟨_,_,_,_,r5⟩:=‹w1.cell? _=_∧_›;go_wp2
      go_roundg (l.length - (a+1))
      case measure=>omega
      case rel=>exact ⟨a+1,hlt,Nat.le_refl _,by go_num,r5⟩
    · have Hly:Hid (ltK y k=false):=jH (by rw [HL.out];simp [hlt])
      clear HL;go_wp2_with fail
      go_region_held3 (fun w'=>w'.cell? ⟨w.heap.size,0,none⟩=some (.int .u64 k.1)∧w'.cell? ⟨w.heap.size,1,none⟩=some (.int .u64 k.2)∧w'.cell? ⟨b,o+a * 12,none⟩=some (.int .u64 y.1)∧w'.cell? ⟨b,o+a * 12+1,none⟩=some (.int .u64 y.2)∧jB W w')
        (first|assumption|exact keepS HSB.out (by assumption) hb1 rfl)
        (first|(go_at_call 278;refine (d1J y k _ hyok hk).mono ?_;rw [Hly.out];rintro e w1 ⟨rfl,hb1⟩))
      obtain ⟨_,_,_,_,r5⟩:=‹w1.cell? _=_∧_›;go_wp2
      go_ret
      exact ⟨by first|rfl|(rw [show a=atI l k by omega];rfl),a0D hb r5⟩
  · have hle:=m1O l k
    obtain rfl:a=l.length:=by omega
    have E:=jH (show atI l k=l.length by omega);clear ha hle;go_wp2_with fail
    go_quiet (fail)
    go_wp2
    go_ret
    exact ⟨by rw [E.out];rfl,a0D hb (a0F hbi _)⟩
end
end Go.Proofs.YtmniiodpbebnmaaGreat
