/- Part 26 of the proof. -/
import Derived.Test.YtmniiodpbebnmaaGreatJ25
namespace Go.Proofs.YtmniiodpbebnmaaGreat
set_option linter.unusedSimpArgs false
set_option linter.unusedVariables false
set_option linter.unusedSectionVars false
set_option maxRecDepth 100000
set_option maxHeartbeats 16000000
section
open Go.RowKit Go.Lib
theorem c0S {w wr w':World} {B:Nat} {cs:Array Value} {T:TypeId} (h:wr.heap[B]?=some (.cells cs T (0,0))) (hb:jB wr w'):w'.heap[B]?=some (.cells cs T (0,0)) :=
 jK hb h
theorem q0U (v:Value) (l:List Int) (w:World) (hv:a0Q 1 nmC w v l) (hl:l.length≤1000000) (hi:∀n∈l,0≤n∧n≤9223372036854775807) :
 Calls Tryz.prog 284 #[v] w (jP w (k0J (i0B l))):=by
 obtain ⟨A,c,rfl⟩:=hv.form;have HV:=jH hv;have HI:=jH hi;have HL:=jH hl;have hl9:l.length≤9223372036854775807:=by omega
 clear hv hi hl
 go_enter Tryz.func284,Tryz.ntmps284
 go_wp2
 go_loopg [8] l.length (fun g s8 wr=>∃(k a b:Nat),k≤l.length∧l.length - k≤g∧s8=.int .i64 k∧Hid (a=i0B (l.take k) / 18446744073709551616∧b=i0B (l.take k) % 18446744073709551616)∧jB w wr∧wr.heap[w.heap.size]?=some (.cells #[.int .u64 0,.int .u64 0] 272 (0,0))∧wr.heap[w.heap.size+1]?=some (.cells #[.int .u64 a,.int .u64 b] 272 (0,0)))
 case atStart=>exact ⟨0,0,0,Nat.zero_le _,Nat.le_refl _,rfl,jH (by simp [i0B]),a0C (a0C jR _) _,d0V _ _ _,c0G _ _ _⟩
 case round =>
  obtain ⟨k,a,b,hk,hg,rfl,HAB,hb,hz,hq⟩:=hrel;rename World=>wr
  have HB:=jH hb;have HZ:=jH hz;have HQ:=jH hq;obtain ⟨a1,a2,a3⟩:=a0A jR hz;obtain ⟨c1,c2,c3⟩:=a0A jR hq;clear hb hz hq
  by_cases hlt:k<l.length
  · obtain ⟨b1,o1,rfl,hb1,hc⟩:=(HV.out.below HB.out).at_ hlt
    have z1:(0:Int)≤(k:Int):=by omega
    have z2:(k:Int)<(l.length:Int):=by omega
    have HTK:=jH (show i0B (l.take (k+1))=i0B (l.take k)+l[k].toNat by rw [List.take_succ_eq_append_getElem hlt,f1S]);have hx:=HI.out _ (List.getElem_mem hlt);have HTL:=jH (show i0B (l.take k)≤1000000 * 9223372036854775807 from Nat.le_trans (w0X (fun n hn=>(HI.out n (List.mem_of_mem_take hn)).2)) (Nat.mul_le_mul_right _ (by rw [List.length_take];have:=HL.out;omega)));generalize l[k]=x at hc HTK hx
    have d0:=hc 0 _ rfl;rw [Nat.add_zero,Nat.mul_one] at d0;have HK:=jH hlt;clear hc
    by_cases h0:0<x
    · obtain ⟨y,rfl⟩:∃y:Nat,x=y:=⟨x.toNat,by omega⟩
      have hy:y≤9223372036854775807:=by omega
      have q1:IntKind.u64.wrap (y:Int)=(y:Int):=c0R y (by omega);obtain ⟨a',ha'⟩:∃a',a'=i0B (l.take (k+1)) / 18446744073709551616:=⟨_,rfl⟩;obtain ⟨b',hb'⟩:∃b',b'=i0B (l.take (k+1)) % 18446744073709551616:=⟨_,rfl⟩;have HAB2:=jH (And.intro ha' hb');have CA:=jH (fun W=>show Calls Tryz.prog 242 #[.agg #[.int .u64 a,.int .u64 b],.agg #[.int .u64 0,.int .u64 y]] W (jP W (.tuple #[.agg #[.int .u64 a',.int .u64 b'],.bool true])) from by
       have h:=i0Y (i0B (l.take k)) y (by have:=HTL.out;omega) W;have e1:y / 18446744073709551616=0:=Nat.div_eq_of_lt (by omega);have e2:y % 18446744073709551616=y:=Nat.mod_eq_of_lt (by omega);have e3:i0B (l.take k)+y=i0B (l.take (k+1)):=by rw [HTK.out];simp
       unfold k0J at h;rw [e3,e1,e2,←HAB.out.1,←HAB.out.2,←ha',←hb'] at h;exact h)
      have h0':(0:Int)<(y:Int):=h0;clear ha' hb' hx hy h0
      as_aux_lemma =>
      go_wp2_with (first
       | (go_at_call 242
          refine (CA.out wr).mono ?_;rintro e w3 ⟨rfl,hb3⟩;have HZ3:=jH (c0S (w:=w) HZ.out hb3);have HQ3:=jH (c0S (w:=w) HQ.out hb3);obtain ⟨e1,e2,e3⟩:=a0A jR HQ3.out;have HB3:=jH (a0D HB.out hb3);clear hb3))
      go_roundg (l.length - (k+1))
      case measure=>omega
      case rel=>exact ⟨k+1,a',b',HK.out,Nat.le_refl _,by go_num,HAB2,(HB3.out.setCell (by simp) _).setCell (by simp) _,a0K (a0K HZ3.out (by omega)) (by omega),a0E (a0E HQ3.out)⟩
    · obtain rfl:x=0:=by omega
      have e3:i0B (l.take (k+1))=i0B (l.take k):=by rw [HTK.out];simp
      have HAB2:=jH (show a=i0B (l.take (k+1)) / 18446744073709551616∧b=i0B (l.take (k+1)) % 18446744073709551616 by rw [e3];exact HAB.out);clear e3 hx h0
      as_aux_lemma =>
      go_wp2_with fail
      go_roundg (l.length - (k+1))
      case measure=>omega
      case rel=>exact ⟨k+1,a,b,HK.out,Nat.le_refl _,by go_num,HAB2,HB.out,HZ.out,HQ.out⟩
  · obtain rfl:k=l.length:=by omega
    rw [List.take_length] at HAB;go_wp2_with fail
    have hz2:=a0E (i:=1) (v:=.int .u64 b) (a0E (i:=0) (v:=.int .u64 a) HZ.out);obtain ⟨f1,f2,f3⟩:=a0A jR hz2;refine bodyPost_ret (v:=.agg #[.int .u64 a,.int .u64 b]) (by simp [results,Tryz.results284,go_sem,f1]) rfl ⟨?_,(HB.out.setCell (Nat.le_refl _) _).setCell (Nat.le_refl _) _⟩;unfold k0J;rw [HAB.out.1,HAB.out.2]
theorem m1G (t d:Nat) (hd:0<d):(t+(d - 1)) / d=if 0<t % d then t / d+1 else t / d:=by
 have h:=Nat.div_add_mod t d;have hm:=Nat.mod_lt t hd;generalize t / d=q at *;generalize t % d=r at *;subst h
 split
 · rw [Nat.add_assoc,Nat.mul_add_div hd]
   have:(r+(d - 1)) / d=1:=by
    rw [Nat.div_eq_iff hd];omega
   omega
 · rw [Nat.add_assoc,Nat.mul_add_div hd,Nat.div_eq_of_lt (by omega)]
   rfl
theorem s0I (v:Value) (l:List Int) (w:World) (hv:a0Q 1 nmC w v l) (hl:l.length≤1000000) (hi:∀n∈l,0≤n∧n≤9223372036854775807) :
 Calls Tryz.prog 239 #[v] w (jP w (.int .i64 (k0N l:Nat))):=by
 obtain ⟨A,c,rfl⟩:=hv.form;have hl9:l.length≤9223372036854775807:=by omega
 by_cases hne:l=[]
 · have q1:(l.length:Int)=0:=by rw [hne];rfl
   have HM:=jH (show k0N l=0 by rw [hne];rfl);have q2:((l.length:Int) == 0)=true:=by simp [hne]
   clear hv hi hne
   go_enter Tryz.func239,Tryz.ntmps239
   go_wp2_with fail
   go_ret
   exact ⟨by rw [HM.out];rfl,jR⟩
 · have hp:0<l.length:=List.length_pos_iff.2 hne
   have CT:=jH (q0U _ l w hv hl hi);have htl:=w0X (fun n hn=>(hi n hn).2);have hml:=z0J (fun n hn=>(hi n hn).2);have hmn:k0N l=if 0<i0B l % l.length then i0B l / l.length+1 else i0B l / l.length:=by
    unfold k0N;rw [if_neg hne,m1G _ _ hp]
   have q0:¬(l.length:Int)=0:=by omega
   have q1:((l.length:Int) == 0)=false:=by simpa using hne
   have q2:IntKind.u64.wrap (l.length:Int)=(l.length:Int):=c0R _ (by omega);have htl2:i0B l≤1000000 * 9223372036854775807:=Nat.le_trans htl (Nat.mul_le_mul_right _ hl);generalize i0B l=t at CT hmn htl2;generalize hm:k0N l=m at hml hmn ⊢;obtain ⟨qa,hqa⟩:∃qa,qa=t / l.length / 18446744073709551616:=⟨_,rfl⟩;obtain ⟨qb,hqb⟩:∃qb,qb=t / l.length % 18446744073709551616:=⟨_,rfl⟩;obtain ⟨r,hr⟩:∃r,r=t % l.length:=⟨_,rfl⟩
   obtain ⟨n,hn⟩:∃n,n=l.length:=⟨_,rfl⟩;have hqle:t / l.length≤t:=Nat.div_le_self _ _;have CD:=jH (fun W=>show Calls Tryz.prog 283 #[k0J t,.int .u64 l.length] W (jP W (.tuple #[.agg #[.int .u64 qa,.int .u64 qb],.int .u64 r,.bool true])) from by
    have h:=v0Z t l.length (by omega) hp (by omega) W;unfold k0J at h ⊢;rw [←hqa,←hqb,←hr] at h;exact h)
   by_cases hr0:0<r
   · rw [←hr,if_pos hr0] at hmn
     have CA:=jH (fun W=>show Calls Tryz.prog 242 #[.agg #[.int .u64 qa,.int .u64 qb],.agg #[.int .u64 0,.int .u64 1]] W (jP W (.tuple #[.agg #[.int .u64 0,.int .u64 m],.bool true])) from by
      have h:=i0Y (t / l.length) 1 (by omega) W;unfold k0J at h;rw [←hqa,←hqb,←hmn,show m / 18446744073709551616=0 from Nat.div_eq_of_lt (by omega),show m % 18446744073709551616=m from Nat.mod_eq_of_lt (by omega)] at h;exact h)
     have CS:=jH (fun W=>show Calls Tryz.prog 285 #[.agg #[.int .u64 0,.int .u64 m]] W (jP W (.int .i64 m)) from by
      have h:=j0Z m hml W;unfold k0J at h;rw [show m / 18446744073709551616=0 from Nat.div_eq_of_lt (by omega),show m % 18446744073709551616=m from Nat.mod_eq_of_lt (by omega)] at h;exact h)
     have q5:(0:Int)<(r:Int):=by omega
     clear hv hi hne hp htl hml hmn htl2 hqa hqb hr hn hqle hr0 hm n
     go_enter Tryz.func239,Tryz.ntmps239
     go_wp2_with (first
      | (go_at_call 284
         refine CT.out.mono ?_;rintro e w1 ⟨rfl,hb1⟩;have HB1:=jH hb1;clear hb1)
      | (go_at_call 283
         refine (CD.out w1).mono ?_;rintro e w2 ⟨rfl,hb2⟩;have HB2:=jH (a0D HB1.out hb2);clear hb2)
      | (go_at_call 242
         refine a0B ?_;intro W3 hW3;have hb3:jB w2 W3:=by rw [hW3];exact a0C jR _
         have hx3:W3.heap[w2.heap.size]?=some (.cells #[.int .u64 qa,.int .u64 qb] 272 (0,0)):=by rw [hW3];exact heap_alloc_new _ _
         clear hW3;refine (CA.out W3).mono ?_;rintro e w4 ⟨rfl,hb4⟩;have HX4:=jH (c0S (w:=w) hx3 hb4);obtain ⟨e1,e2,e3⟩:=a0A jR HX4.out;have HB4:=jH (a0D HB2.out (a0D hb3 hb4));have HS4:=jH (show w.heap.size≤w2.heap.size from HB2.out.size);clear hb3 hx3 hb4)
      | (go_at_call 285
         refine (CS.out _).mono ?_;rintro e w5 ⟨rfl,hb5⟩;have HB5:=jH (a0D ((HB4.out.setCell HS4.out _).setCell HS4.out _) hb5);clear hb5))
     go_ret
     exact ⟨rfl,HB5.out⟩
   · rw [←hr,if_neg hr0] at hmn
     have CS:=jH (fun W=>show Calls Tryz.prog 285 #[.agg #[.int .u64 qa,.int .u64 qb]] W (jP W (.int .i64 m)) from by
      have h:=j0Z m hml W;unfold k0J at h;rw [hmn,←hqa,←hqb] at h;rw [hmn];exact h)
     obtain rfl:r=0:=by omega
     clear hv hi hne hp htl hml hmn htl2 hqa hqb hr hn hqle hr0 hm n
     go_enter Tryz.func239,Tryz.ntmps239
     go_wp2_with (first
      | (go_at_call 284
         refine CT.out.mono ?_;rintro e w1 ⟨rfl,hb1⟩;have HB1:=jH hb1;clear hb1)
      | (go_at_call 283
         refine (CD.out w1).mono ?_;rintro e w2 ⟨rfl,hb2⟩;have HB2:=jH (a0D HB1.out hb2);clear hb2)
      | (go_at_call 285
         refine (CS.out _).mono ?_;rintro e w5 ⟨rfl,hb5⟩;have HB5:=jH (a0D (a0C HB2.out _) hb5);clear hb5))
     go_ret
     exact ⟨rfl,HB5.out⟩
theorem g1X (v:Value) (l:List Smp) (w:World) (hv:a0Q 2 c0B w v l) (hl:l.length≤1000000) (hi:u0E l) :
 Calls Tryz.prog 196 #[v] w (jP w (stV (x0F (f0L l)))):=by
 have CV:=jH (fun W (hW:jB w W)=>v0K v l W (hv.below hW) hl);have hvi:=z0G hi;have hvl:(f0L l).length≤1000000:=by rw [y0Q];exact hl
 have HLL:=jH hvl;have HVI:=jH hvi;have hl9:(f0L l).length≤9223372036854775807:=by omega
 clear hv hi hl hvi hvl;generalize f0L l=n at *
 by_cases hne:n=[]
 · subst hne
   have HST:=jH (show x0F []=st0 from rfl);have q2:(((([]:List Int).length:Nat):Int) == 0)=true:=rfl;clear hl9
   go_enter Tryz.func196,Tryz.ntmps196
   go_wp2_with (first
    | (go_at_call 235
       refine a0B ?_;intro W1 hW1;have hb1:jB w W1:=by rw [hW1];exact a0C jR _
       have hx1:W1.heap[w.heap.size]?=some (.cells #[.int .i64 0,.int .i64 0,.int .i64 0,.int .i64 0,.int .i64 0] 42 (0,0)):=by rw [hW1];exact heap_alloc_new _ _
       clear hW1;refine (CV.out W1 hb1).mono ?_;rintro e w2 ⟨A,c,rfl,ho,hb2⟩;have HX2:=jH (c0S (w:=w) hx1 hb2);obtain ⟨e1,e2,e3⟩:=a0A jR HX2.out;have HB2:=jH (a0D hb1 hb2);clear hb1 hx1 ho hb2))
   have hz2:=a0E (i:=4) (v:=.int .i64 0) (a0E (i:=3) (v:=.int .i64 0) (a0E (i:=2) (v:=.int .i64 0) (a0E (i:=1) (v:=.int .i64 0) (a0E (i:=0) (v:=.int .i64 0) HX2.out))));obtain ⟨f1,f2,f3⟩:=a0A jR hz2;refine bodyPost_ret (v:=.agg #[.int .i64 0,.int .i64 0,.int .i64 0,.int .i64 0,.int .i64 0]) (by simp [results,Tryz.results196,go_sem,f1]) rfl ⟨by rw [HST.out];rfl,((((HB2.out.setCell (Nat.le_refl _) _).setCell (Nat.le_refl _) _).setCell (Nat.le_refl _) _).setCell (Nat.le_refl _) _).setCell (Nat.le_refl _) _⟩
 · have hp:0<n.length:=List.length_pos_iff.2 hne
   have HST:=jH (show x0F n=⟨n.length,x0V n 0,d1H n,d1I n,k0N n⟩ by unfold x0F;rw [if_neg hne]);have q0:¬(n.length:Int)=0:=by omega
   have q1:((n.length:Int) == 0)=false:=by simpa using hne
   have CS:=jH (fun v W (h:a0Q 1 nmC W v n)=>a1T v n W h HLL.out (fun m hm=>by have:=HVI.out m hm;unfold I64;omega));have CMi:=jH (fun v W (h:a0Q 1 nmC W v n)=>h1H v n W h HLL.out hne);have CMa:=jH (fun v W (h:a0Q 1 nmC W v n)=>g1Z v n W h HLL.out hne);have CMe:=jH (fun v W (h:a0Q 1 nmC W v n)=>s0I v n W h HLL.out HVI.out);generalize x0V n 0=s1 at CS HST;generalize d1H n=s2 at CMi HST
   generalize d1I n=s3 at CMa HST;generalize k0N n=s4 at CMe HST;clear hne hp
   go_enter Tryz.func196,Tryz.ntmps196
   go_wp2_with (first
    | (go_at_call 235
       refine a0B ?_;intro W1 hW1;have hb1:jB w W1:=by rw [hW1];exact a0C jR _
       have hx1:W1.heap[w.heap.size]?=some (.cells #[.int .i64 0,.int .i64 0,.int .i64 0,.int .i64 0,.int .i64 0] 42 (0,0)):=by rw [hW1];exact heap_alloc_new _ _
       clear hW1;refine (CV.out W1 hb1).mono ?_;rintro e w2 ⟨A,c,rfl,ho,hb2⟩;have HX2:=jH (c0S (w:=w) hx1 hb2);obtain ⟨e1,e2,e3⟩:=a0A jR HX2.out;have HB2:=jH (a0D hb1 hb2);have HR2:=jH (ho.row eNm);clear hb1 hx1 ho hb2)
    | (go_at_call 236
       refine (CS.out _ w2 HR2.out).mono ?_;rintro e w3 ⟨rfl,rfl⟩)
    | (go_at_call 237
       refine (CMi.out _ w2 HR2.out).mono ?_;rintro e w3 ⟨rfl,rfl⟩)
    | (go_at_call 238
       refine (CMa.out _ w2 HR2.out).mono ?_;rintro e w3 ⟨rfl,rfl⟩)
    | (go_at_call 239
       refine (CMe.out _ w2 HR2.out).mono ?_;rintro e w3 ⟨rfl,hb3⟩;have HX3:=jH (c0S (w:=w) HX2.out hb3);obtain ⟨g1,g2,g3⟩:=a0A jR HX3.out;have HB3:=jH (a0D HB2.out hb3);clear hb3))
   have hz2:=a0E (i:=4) (v:=.int .i64 s4) (a0E (i:=3) (v:=.int .i64 s3) (a0E (i:=2) (v:=.int .i64 s2) (a0E (i:=1) (v:=.int .i64 s1) (a0E (i:=0) (v:=.int .i64 n.length) HX3.out))));obtain ⟨f1,f2,f3⟩:=a0A jR hz2;refine bodyPost_ret (v:=.agg #[.int .i64 n.length,.int .i64 s1,.int .i64 s2,.int .i64 s3,.int .i64 s4]) (by simp [results,Tryz.results196,go_sem,f1]) rfl ⟨by rw [HST.out];rfl,((((HB3.out.setCell (Nat.le_refl _) _).setCell (Nat.le_refl _) _).setCell (Nat.le_refl _) _).setCell (Nat.le_refl _) _).setCell (Nat.le_refl _) _⟩
theorem m0P (v:Value) (l:List Smp) (til wd:Int) (w:World) (hv:a0Q 2 c0B w v l) (hl:l.length≤1000000) (hi:u0E l) (ht:I64 til) (hw:I64 wd) :
 Calls Tryz.prog 134 #[v,.int .i64 til,.int .i64 wd] w (jP w (stV (h0P l til wd))):=by
 have CF:=jH (fun W=>w0T til wd W ht hw);have CC:=jH (fun W (hW:jB w W)=>c1I v l (n0V til wd) til W (hv.below hW) hl);have COf:=jH (fun v W (h:a0Q 2 c0B W v (q0Q l (n0V til wd) til))=>g1X v _ W h (Nat.le_trans (g1P _ _ _) hl) (hi.cut _ _));unfold h0P;generalize q0Q l (n0V til wd) til=m at CC COf ⊢;generalize n0V til wd=f at CF CC;generalize x0F (f0L m)=s at COf ⊢
 obtain ⟨s0,s1,s2,s3,s4⟩:=s;unfold stV at COf ⊢;simp only at COf ⊢
 clear hv hl hi ht hw
 go_enter Tryz.func134,Tryz.ntmps134
 go_wp2_with (first
  | (go_at_call 198
     refine a0B ?_;intro W1 hW1;have HB1:=jH (show jB w W1 by rw [hW1];exact a0C jR _);have HX1:=jH (show W1.heap[w.heap.size]?=some (.cells #[.int .i64 0,.int .i64 0,.int .i64 0,.int .i64 0,.int .i64 0] 42 (0,0)) by rw [hW1];exact heap_alloc_new _ _);clear hW1;refine (CF.out W1).mono ?_;rintro e w2 ⟨rfl,rfl⟩)
  | (go_at_call 197
     refine (CC.out W1 HB1.out).mono ?_;rintro e w2 ⟨A,c,rfl,ho,hb2⟩;have HX2:=jH (c0S (w:=w) HX1.out hb2);have HB2:=jH (a0D HB1.out hb2);have HR2:=jH (ho.row d0C);clear ho hb2)
  | (go_at_call 196
     refine (COf.out _ w2 HR2.out).mono ?_;rintro e w3 ⟨rfl,hb3⟩;have HX3:=jH (c0S (w:=w) HX2.out hb3);obtain ⟨g1,g2,g3⟩:=a0A jR HX3.out;have HB3:=jH (a0D HB2.out hb3);clear hb3))
 have hz2:=a0E (i:=4) (v:=.int .i64 s4) (a0E (i:=3) (v:=.int .i64 s3) (a0E (i:=2) (v:=.int .i64 s2) (a0E (i:=1) (v:=.int .i64 s1) (a0E (i:=0) (v:=.int .i64 s0) HX3.out))));obtain ⟨f1,f2,f3⟩:=a0A jR hz2;exact bodyPost_ret (v:=.agg #[.int .i64 s0,.int .i64 s1,.int .i64 s2,.int .i64 s3,.int .i64 s4]) (by simp [results,Tryz.results134,go_sem,f1]) rfl ⟨rfl,((((HB3.out.setCell (Nat.le_refl _) _).setCell (Nat.le_refl _) _).setCell (Nat.le_refl _) _).setCell (Nat.le_refl _) _).setCell (Nat.le_refl _) _⟩
theorem l0Z {a b:Int} (ha:0≤a):a.tdiv b=a / b:=Int.tdiv_eq_ediv_of_nonneg ha
theorem p1U {a b:Int} (hb:1≤b) (h:0<a.tmod b):a.tdiv b+1=n0G a b:=by
 have ha:0<a:=by
  by_cases h0:0<a
  · exact h0
  · exfalso
    have h1:=Int.mul_tdiv_add_tmod a b;have:a.tmod b≤0:=by
     rw [←Int.neg_neg a,Int.neg_tmod];have:=Int.tmod_nonneg b (show 0≤-a by omega);omega
    omega
 unfold n0G;rw [if_neg (by omega),if_neg (by omega),l0Z (by omega),l0Z (by omega)];rw [Int.tmod_eq_emod_of_nonneg (by omega)] at h;have h1:=Int.mul_ediv_add_emod a b;have h2:=Int.emod_lt_of_pos a (show 0<b by omega);have e:a - 1=(a % b - 1)+b * (a / b):=by omega
 have h3:(a % b - 1) / b=0:=Int.ediv_eq_zero_of_lt (by omega) (by omega);have h4:(a - 1) / b=a / b:=by
  rw [e,Int.add_mul_ediv_left _ _ (by omega),h3];omega
 omega
theorem q1D {a b:Int} (hb:1≤b) (h:¬0<a.tmod b):a.tdiv b=n0G a b:=by
 unfold n0G;rw [if_neg (by omega)]
 by_cases h0:a≤0
 · rw [if_pos h0]
 · rw [if_neg h0,l0Z (by omega),l0Z (by omega)]
   rw [Int.tmod_eq_emod_of_nonneg (by omega)] at h;have h1:=Int.mul_ediv_add_emod a b;have h2:=Int.emod_nonneg a (show b≠0 by omega);have e:a - 1=(b - 1)+b * (a / b - 1):=by rw [Int.mul_sub];omega
   have h3:(b - 1) / b=0:=Int.ediv_eq_zero_of_lt (by omega) (by omega);rw [e,Int.add_mul_ediv_left _ _ (by omega),h3];omega
theorem v0U (a b:Int) (w:World) (ha:I64 a) (hb:I64 b) :
 Calls Tryz.prog 199 #[.int .i64 a,.int .i64 b] w fun e w'=>e=.returned (.int .i64 (n0G a b))∧w'=w:=by
 by_cases h1:b<1
 · have HC:=jH (show n0G a b=0 by unfold n0G;rw [if_pos h1])
   clear ha hb
   go_enter Tryz.func199,Tryz.ntmps199
   go_wp2
   go_ret
   exact ⟨by rw [HC.out];rfl,rfl⟩
 · have HI:=k1X (b:=b) ha
   have q0:(b == 0)=false:=by simp;omega
   have q1:¬b=0:=by omega
   have HHI:=jH (fun h:0<a.tmod b=>p1U (a:=a) (b:=b) (by omega) h);have HLO:=jH (fun h:¬0<a.tmod b=>q1D (a:=a) (b:=b) (by omega) h);have HII:=jH HI;clear HI ha hb
   go_enter Tryz.func199,Tryz.ntmps199
   go_wp2
   · rename_i h5
     have h6:=HHI.out h5;have h7:=HII.out;rw [←h6] at h7;go_ret
     refine ⟨e0U ?_,rfl⟩;rw [←h6];generalize a.tdiv b=q at h7;unfold wrap64;unfold I64 at h7;omega
   · rename_i h5
     have h6:=HLO.out (by omega);have h7:=HII.out;rw [←h6] at h7;go_ret
     refine ⟨e0U ?_,rfl⟩;rw [←h6];generalize a.tdiv b=q at h7;unfold wrap64;unfold I64 at h7;omega
end
section
open Go.RowKit Go.Lib Go.Sort
def j1I (l:List En) (nd:En→Nd) (til wd:Int) (k:Ky):StD:=match c0W l k with|none=>st0|some n=>h0P (nd (k,n)).smp til wd
def SmpOk (l:List En) (nd:En→Nd):Prop:=∀x∈l,u0E (nd x).smp
theorem x0G (C:Nat) (ep:Int) (l:List En) (nd:En→Nd) (rs rh:Nat) (k:Ky) (til wd:Int) (w:World) (h:x0D w C ep l) (hr:Ris l) (hl:l.length≤1000) (hn:f1F w l nd rs rh) (hs:SmpOk l nd) (hrs:rs≤256) (ht:I64 til) (hw:I64 wd) :
 Calls Tryz.prog 155 #[.pointer (some ⟨C,0,none⟩),.agg #[.int .u64 k.1,.int .u64 k.2],.int .i64 til,.int .i64 wd] w (jP w (.tuple #[stV (j1I l nd til wd k),.bool (c0W l k).isSome])):=by
 have CG:=jH (fun W (hW:jB w W)=>a1Z C ep l k W (h.below hW) hr hl);unfold j1I
 cases hf:c0W l k with
 | none =>
   have e0:ptr (none:Option Nat)=.pointer none:=rfl;rw [hf,e0] at CG;simp only [Option.isSome_none] at CG ⊢
   clear h hr hl hn hs hf e0
   go_enter Tryz.func155,Tryz.ntmps155
   go_wp2_with (first
    | (go_at_call 100
       refine a0B ?_;intro W1 hW1;have hb1:jB w W1:=by rw [hW1];exact a0C (a0C jR _) _
       have hx1:W1.heap[w.heap.size+1]?=some (.cells #[.int .i64 0,.int .i64 0,.int .i64 0,.int .i64 0,.int .i64 0] 42 (0,0)):=by rw [hW1];exact c0G _ _ _
       clear hW1;refine (CG.out W1 hb1).mono ?_;rintro e w2 ⟨rfl,hb2⟩;have HX2:=jH (c0S (w:=w) hx1 hb2);obtain ⟨e1,e2,e3⟩:=a0A jR HX2.out;have HB2:=jH (a0D hb1 hb2);clear hb1 hx1 hb2))
   have hz2:=a0E (i:=4) (v:=.int .i64 0) (a0E (i:=3) (v:=.int .i64 0) (a0E (i:=2) (v:=.int .i64 0) (a0E (i:=1) (v:=.int .i64 0) (a0E (i:=0) (v:=.int .i64 0) HX2.out))));obtain ⟨f1,f2,f3⟩:=a0A jR hz2;refine bodyPost_ret (v:=.tuple #[.agg #[.int .i64 0,.int .i64 0,.int .i64 0,.int .i64 0,.int .i64 0],.bool false]) (by simp [results,Tryz.results155,go_sem,f1]) rfl ⟨rfl,?_⟩
   exact ((((HB2.out.setCell (by simp) _).setCell (by simp) _).setCell (by simp) _).setCell (by simp) _).setCell (by simp) _
 | some n =>
   have e0:ptr (some n)=.pointer (some ⟨n,0,none⟩):=rfl;rw [hf,e0] at CG;simp only [Option.isSome_some] at CG ⊢
   have hm:=s0C hf;obtain ⟨fp,hnd⟩:=hn _ hm;have hsm:=hs _ hm;have CSm:=jH (fun W (hW:jB w W)=>h0F n (nd (k,n)) rs rh fp W (hnd.below hW) hrs);have hlen:(nd (k,n)).smp.length≤1000000:=by have:=hnd.ok.len;omega
   generalize (nd (k,n)).smp=sm at hsm CSm hlen ⊢;have CAt:=jH (fun v W (hv:a0Q 2 c0B W v sm)=>m0P v sm til wd W hv hlen hsm ht hw);generalize h0P sm til wd=s at CAt ⊢;obtain ⟨s0,s1,s2,s3,s4⟩:=s;unfold stV at CAt ⊢;simp only at CAt ⊢
   clear h hr hl hn hs hf e0 hm hnd hsm hlen
   go_enter Tryz.func155,Tryz.ntmps155
   go_wp2_with (first
    | (go_at_call 100
       refine a0B ?_;intro W1 hW1;have hb1:jB w W1:=by rw [hW1];exact a0C (a0C jR _) _
       have hx1:W1.heap[w.heap.size+1]?=some (.cells #[.int .i64 0,.int .i64 0,.int .i64 0,.int .i64 0,.int .i64 0] 42 (0,0)):=by rw [hW1];exact c0G _ _ _
       clear hW1;refine (CG.out W1 hb1).mono ?_;rintro e w2 ⟨rfl,hb2⟩;have HX2:=jH (c0S (w:=w) hx1 hb2);have HB2:=jH (a0D hb1 hb2);clear hb1 hx1 hb2)
    | (go_at_call 107
       refine (CSm.out w2 HB2.out).mono ?_;rintro e w3 ⟨A,c,f,rfl,hr,_,hb3⟩;have HR3:=jH (hr.row d0C);have HX3:=jH (c0S (w:=w) HX2.out hb3);have HB3:=jH (a0D HB2.out hb3);clear hr hb3)
    | (go_at_call 134
       refine (CAt.out _ w3 HR3.out).mono ?_;rintro e w4 ⟨rfl,hb4⟩;have HX4:=jH (c0S (w:=w) HX3.out hb4);obtain ⟨e1,e2,e3⟩:=a0A jR HX4.out;have HB4:=jH (a0D HB3.out hb4);clear hb4))
   have hz2:=a0E (i:=4) (v:=.int .i64 s4) (a0E (i:=3) (v:=.int .i64 s3) (a0E (i:=2) (v:=.int .i64 s2) (a0E (i:=1) (v:=.int .i64 s1) (a0E (i:=0) (v:=.int .i64 s0) HX4.out))));obtain ⟨f1,f2,f3⟩:=a0A jR hz2;refine bodyPost_ret (v:=.tuple #[.agg #[.int .i64 s0,.int .i64 s1,.int .i64 s2,.int .i64 s3,.int .i64 s4],.bool true]) (by simp [results,Tryz.results155,go_sem,f1]) rfl ⟨rfl,?_⟩
   exact ((((HB4.out.setCell (by simp) _).setCell (by simp) _).setCell (by simp) _).setCell (by simp) _).setCell (by simp) _
end
end Go.Proofs.YtmniiodpbebnmaaGreat
