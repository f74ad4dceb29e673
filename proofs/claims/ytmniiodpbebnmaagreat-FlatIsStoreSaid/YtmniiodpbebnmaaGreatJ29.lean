/- Part 29 of the proof. -/
import Derived.Test.YtmniiodpbebnmaaGreatJ25
namespace Go.Proofs.YtmniiodpbebnmaaGreat
set_option linter.unusedSimpArgs false
set_option linter.unusedVariables false
set_option linter.unusedSectionVars false
set_option maxRecDepth 100000
set_option maxHeartbeats 16000000
section
open Go.RowKit Go.Lib
def h1Z (l:List Smp) (b:Int):Int:=l.foldl (fun b x=>max b x.1) b
theorem e1U (l:List Smp) (x:Smp) (b:Int):h1Z (l++[x]) b=max (h1Z l b) x.1:=by simp [h1Z]
theorem l1S {l:List Smp} (h:0<l.length):h1Z l l[0].1=k0Q l:=by
 cases l with
 | nil=>simp at h
 | cons s l=>simp [h1Z,k0Q]
theorem l1V (p:Pol) {l:List Adv} (h:0<l.length):p1P p l=(l[l.length - 1]'(by omega)).repl:=by
 unfold p1P;rw [List.getLast?_eq_getElem?,List.getElem?_eq_getElem (by omega)]
theorem v0F (v:Value) (l:List Smp) (w:World) (hv:a0Q 2 c0B w v l) (hl:l.length≤1000000) (h0:0<l.length) :
 Calls Tryz.prog 138 #[v] w (jP w (.tuple #[.int .i64 (k0Q l),.bool true])):=by
 obtain ⟨A,c,rfl⟩:=hv.form;have HV:=jH hv;have HL:=jH hl;have hl9:l.length≤9223372036854775807:=by omega
 have z8:(0:Int)<(l.length:Int):=by omega
 have z9:¬((l.length:Nat):Int)=0:=by omega
 have z7:(((l.length:Nat):Int) == 0)=false:=beq_eq_false_iff_ne.2 z9;have HA:=jH (l1S h0);obtain ⟨b0,o0,rfl,hb0,hc0⟩:=hv.at_ h0;generalize l[0]=s at HA hc0;have c0:=hc0 0 _ rfl;rw [Nat.add_zero] at c0;clear hv hl hc0
 go_enter Tryz.func138,Tryz.ntmps138
 go_wp2
 go_loopg [4,16] l.length (fun g s7 s12 wr=>∃k:Nat,k≤l.length∧l.length - k≤g∧s12=.int .i64 k∧s7=.int .i64 (h1Z (l.take k) s.1)∧jB w wr)
 case atStart=>exact ⟨0,Nat.zero_le _,Nat.le_refl _,rfl,rfl,jR⟩
 case round =>
  obtain ⟨k,hk,hg,rfl,rfl,hb⟩:=hrel;rename World=>wr
  have HB:=jH hb;clear hb
  by_cases hlt:k<l.length
  · obtain ⟨b1,o1,e1,hb1,hc⟩:=(HV.out.below HB.out).at_ hlt
    cases e1
    have z1:(0:Int)≤(k:Int):=by omega
    have z2:(k:Int)<(l.length:Int):=by omega
    have HTK:=jH (show h1Z (l.take (k+1)) s.1=max (h1Z (l.take k) s.1) l[k].1 by rw [List.take_succ_eq_append_getElem hlt,e1U]);generalize l[k]=x at hc HTK;generalize h1Z (l.take k) s.1=q at HTK;have d0:=hc 0 _ rfl;have d1:=hc 1 _ rfl;rw [Nat.add_zero] at d0;have HK:=jH hlt;clear hc
    as_aux_lemma =>
     go_wp2_with fail
     go_roundg (l.length - (k+1))
     case measure=>omega
     case rel=>exact ⟨k+1,HK.out,Nat.le_refl _,by go_num,by rw [HTK.out],by first|exact HB.out|exact a0C HB.out _⟩
  · obtain rfl:k=l.length:=by omega
    rw [List.take_length];obtain ⟨q,hq⟩:∃q,q=h1Z l s.1:=⟨_,rfl⟩;rw [←hq];rw [←hq] at HA;have HST:=HA;clear hq;go_wp2_with fail
    exact bodyPost_ret (v:=.tuple #[.int .i64 q,.bool true]) (by simp [results,Tryz.results138,go_sem]) rfl ⟨by rw [←HST.out],HB.out⟩
theorem d1E (p:Pol) (held:Bool) (op now til:Int) (w:World) :
 Calls Tryz.prog 145 #[d0E p,.bool held,.int .i64 op,.int .i64 now,.int .i64 til] w (jP w (.int .i64 (whyI p held op now til))):=by
 unfold d0E;obtain ⟨q,hq⟩:∃q,q=whyI p held op now til:=⟨_,rfl⟩;rw [←hq];have HQ:=jH hq;clear hq
 cases held
 all_goals
   go_enter Tryz.func145,Tryz.ntmps145
   go_wp2
   all_goals
     go_ret
     refine ⟨e0U ?_,a0C jR _⟩;rw [HQ.out];unfold whyI;simp only [Bool.false_eq_true,if_false,if_true,ite_false,ite_true]
     repeat' split
     all_goals omega
theorem b1M (p:Pol) (v:Value) (l:List Adv) (w:World) (hv:a0Q 5 c0U w v l) (hl:l.length≤1000000) :
 Calls Tryz.prog 139 #[d0E p,v] w (jP w (.int .i64 (p1P p l))):=by
 obtain ⟨A,c,rfl⟩:=hv.form;unfold d0E
 by_cases h0:0<l.length
 · have HN:=jH (l1V p h0)
   have z9:¬((l.length:Nat):Int)=0:=by omega
   have z7:(((l.length:Nat):Int) == 0)=false:=beq_eq_false_iff_ne.2 z9;obtain ⟨n,hn⟩:∃n,n=l.length - 1:=⟨_,rfl⟩;have hlt:n<l.length:=by omega
   have HN2:=jH (show p1P p l=l[n].repl by rw [HN.out];simp only [hn]);obtain ⟨b0,o0,rfl,hb0,hc0⟩:=(hv.below (a0C (Below.refl w.heap.size w) (.cells #[.int .i64 p.mn,.int .i64 p.mx,.int .i64 p.tg,.int .i64 p.tol,.int .i64 p.win,.int .i64 p.hold] 35))).at_ hlt;have hw:wrap64 ((n:Nat):Int)=(n:Nat):=by unfold wrap64;omega
   have hw2:((l.length:Nat) - 1:Int)=(n:Nat):=by omega
   have z1:(0:Int)≤(n:Int):=by omega
   have z2:(n:Int)<(l.length:Int):=by omega
   generalize l[n]=x at hc0 HN2;have c3:=hc0 3 _ rfl;clear hv hl hc0 HN hn
   go_enter Tryz.func139,Tryz.ntmps139
   go_wp2
   go_ret
   exact ⟨by rw [HN2.out];rfl,a0C jR _⟩
 · have hz:l=[]:=List.length_eq_zero_iff.1 (by omega)
   subst hz;have HN:=jH (show p1P p []=p.mn from rfl);clear hv hl
   go_enter Tryz.func139,Tryz.ntmps139
   go_wp2
   go_ret
   exact ⟨by rw [HN.out];rfl,a0C jR _⟩
theorem v0V (v:Value) (l:List Adv) (tick hold:Int) (w:World) (hv:a0Q 5 c0U w v l) (hl:l.length≤1000000) (h1:I64 tick) (h2:I64 hold) :
 Calls Tryz.prog 202 #[v,.int .i64 tick,.int .i64 hold] w (jP w (.tuple #[.int .i64 (w0B l tick hold).1,.bool (w0B l tick hold).2])):=by
 obtain ⟨A,c,rfl⟩:=hv.form;have HV:=jH hv;have HL:=jH hl;have hl9:l.length≤9223372036854775807:=by omega
 have C1:=jH (fun W=>p0I tick hold W h1 h2);unfold w0B;generalize e0K (tick - hold)=a at C1;clear hv hl h1 h2
 go_enter Tryz.func202,Tryz.ntmps202
 go_wp2_with (go_at_call 241;refine (C1.out _).mono ?_;rintro e w2 ⟨rfl,rfl⟩)
 go_loopg [9,10,18] l.length (fun g s7 s8 s12 wr=>∃k:Nat,k≤l.length∧l.length - k≤g∧s12=.int .i64 k∧s7=.int .i64 ((l.take k).foldl (i0D a tick) (0,false)).1∧s8=.bool ((l.take k).foldl (i0D a tick) (0,false)).2∧jB w wr)
 case atStart=>exact ⟨0,Nat.zero_le _,Nat.le_refl _,rfl,rfl,rfl,jR⟩
 case round =>
  obtain ⟨k,hk,hg,rfl,rfl,rfl,hb⟩:=hrel;rename World=>wr
  have HB:=jH hb;clear hb
  by_cases hlt:k<l.length
  · obtain ⟨b1,o1,rfl,hb1,hc⟩:=(HV.out.below HB.out).at_ hlt
    have z1:(0:Int)≤(k:Int):=by omega
    have z2:(k:Int)<(l.length:Int):=by omega
    have HTK:=jH (show (l.take (k+1)).foldl (i0D a tick) (0,false)=i0D a tick ((l.take k).foldl (i0D a tick) (0,false)) l[k] by rw [List.take_succ_eq_append_getElem hlt,c1O]);generalize l[k]=x at hc HTK;generalize (l.take k).foldl (i0D a tick) (0,false)=st at HTK;obtain ⟨best,is⟩:=st;have d0:=hc 0 _ rfl;have d1:=hc 1 _ rfl;have d2:=hc 2 _ rfl;have d3:=hc 3 _ rfl;have d4:=hc 4 _ rfl;rw [Nat.add_zero] at d0
    have HK:=jH hlt;clear hc;dsimp only
    by_cases q1:a<x.tick
    · by_cases q2:x.tick≤tick
      · cases is
        · have HN:=jH (show i0D a tick (best,false) x=(x.want,true) from if_pos ⟨q1,q2,Or.inl rfl⟩)
          as_aux_lemma =>
          go_wp2_with fail
          go_roundg (l.length - (k+1))
          case measure=>omega
          case rel=>exact ⟨k+1,HK.out,Nat.le_refl _,by go_num,by rw [HTK.out,HN.out],by rw [HTK.out,HN.out],by first|exact HB.out|exact a0C HB.out _⟩
        · by_cases q3:best<x.want
          · have HN:=jH (show i0D a tick (best,true) x=(x.want,true) from if_pos ⟨q1,q2,Or.inr q3⟩)
            as_aux_lemma =>
            go_wp2_with fail
            go_roundg (l.length - (k+1))
            case measure=>omega
            case rel=>exact ⟨k+1,HK.out,Nat.le_refl _,by go_num,by rw [HTK.out,HN.out],by rw [HTK.out,HN.out],by first|exact HB.out|exact a0C HB.out _⟩
          · have HN:=jH (show i0D a tick (best,true) x=(best,true) from if_neg (fun q=>by rcases q.2.2 with e|e;exact absurd e (by simp);exact q3 e))
            as_aux_lemma =>
            go_wp2_with fail
            go_roundg (l.length - (k+1))
            case measure=>omega
            case rel=>exact ⟨k+1,HK.out,Nat.le_refl _,by go_num,by rw [HTK.out,HN.out],by rw [HTK.out,HN.out],by first|exact HB.out|exact a0C HB.out _⟩
      · have HN:=jH (show i0D a tick (best,is) x=(best,is) from if_neg (fun q=>q2 q.2.1))
        as_aux_lemma =>
        go_wp2_with fail
        go_roundg (l.length - (k+1))
        case measure=>omega
        case rel=>exact ⟨k+1,HK.out,Nat.le_refl _,by go_num,by rw [HTK.out,HN.out],by rw [HTK.out,HN.out],by first|exact HB.out|exact a0C HB.out _⟩
    · have HN:=jH (show i0D a tick (best,is) x=(best,is) from if_neg (fun q=>q1 q.1))
      as_aux_lemma =>
      go_wp2_with fail
      go_roundg (l.length - (k+1))
      case measure=>omega
      case rel=>exact ⟨k+1,HK.out,Nat.le_refl _,by go_num,by rw [HTK.out,HN.out],by rw [HTK.out,HN.out],by first|exact HB.out|exact a0C HB.out _⟩
  · obtain rfl:k=l.length:=by omega
    rw [List.take_length];obtain ⟨st,hst⟩:∃st,st=l.foldl (i0D a tick) (0,false):=⟨_,rfl⟩;rw [←hst];have HST:=jH hst;clear hst;go_wp2_with fail
    exact bodyPost_ret (v:=.tuple #[.int .i64 st.1,.bool st.2]) (by simp [results,Tryz.results202,go_sem]) rfl ⟨by rw [←HST.out],HB.out⟩
theorem f1M (p:Pol) (tick want:Int) (v:Value) (l:List Adv) (w:World) (hv:a0Q 5 c0U w v l) (hl:l.length≤1000000) (h1:I64 tick) (h2:I64 p.hold) :
 Calls Tryz.prog 143 #[d0E p,.int .i64 tick,.int .i64 want,v] w (jP w (.tuple #[.int .i64 (j0F p tick want l).1,.bool (j0F p tick want l).2])):=by
 have C1:=jH (fun W (h:a0Q 5 c0U W v l)=>v0V v l tick p.hold W h hl h1 h2);have HR:=jH (hv.below (a0C (Below.refl w.heap.size w) (.cells #[.int .i64 p.mn,.int .i64 p.mx,.int .i64 p.tg,.int .i64 p.tol,.int .i64 p.win,.int .i64 p.hold] 35)));obtain ⟨s,hs⟩:∃s,s=j0F p tick want l:=⟨_,rfl⟩;rw [←hs];unfold j0F at hs;generalize w0B l tick p.hold=st at C1 hs;obtain ⟨best,is⟩:=st;dsimp only at hs C1
 clear hv hl h1 h2;unfold d0E
 cases is
 · have HN:=jH (show s=(want,false) by rw [hs];exact if_neg (fun q=>absurd q.1 (by simp)))
   clear hs
   go_enter Tryz.func143,Tryz.ntmps143
   go_wp2_with (go_at_call 202;refine (C1.out _ HR.out).mono ?_;rintro e w2 ⟨rfl,hb2⟩;have HB:=jH hb2;clear hb2)
   exact bodyPost_ret (v:=.tuple #[.int .i64 want,.bool false]) (by simp [results,Tryz.results143,go_sem]) rfl ⟨by rw [HN.out],a0D (a0C jR _) HB.out⟩
 · by_cases q:want<best
   · have HN:=jH (show s=(best,true) by rw [hs];exact if_pos ⟨rfl,q⟩)
     clear hs
     go_enter Tryz.func143,Tryz.ntmps143
     go_wp2_with (go_at_call 202;refine (C1.out _ HR.out).mono ?_;rintro e w2 ⟨rfl,hb2⟩;have HB:=jH hb2;clear hb2)
     exact bodyPost_ret (v:=.tuple #[.int .i64 best,.bool true]) (by simp [results,Tryz.results143,go_sem]) rfl ⟨by rw [HN.out],a0D (a0C jR _) HB.out⟩
   · have HN:=jH (show s=(want,false) by rw [hs];exact if_neg (fun e=>q e.2))
     clear hs
     go_enter Tryz.func143,Tryz.ntmps143
     go_wp2_with (go_at_call 202;refine (C1.out _ HR.out).mono ?_;rintro e w2 ⟨rfl,hb2⟩;have HB:=jH hb2;clear hb2)
     exact bodyPost_ret (v:=.tuple #[.int .i64 want,.bool false]) (by simp [results,Tryz.results143,go_sem]) rfl ⟨by rw [HN.out],a0D (a0C jR _) HB.out⟩
end
end Go.Proofs.YtmniiodpbebnmaaGreat
