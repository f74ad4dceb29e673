/- Part 20 of the proof. -/
import Derived.Test.YtmniiodpbebnmaaGreatJ19
import Derived.Sort.WalkB12
import Derived.Lib.OwnBridge
import Derived.Shelf.SlicesE.Clone
namespace Go.Proofs.YtmniiodpbebnmaaGreat
set_option linter.unusedSimpArgs false
set_option linter.unusedVariables false
set_option linter.unusedSectionVars false
set_option maxRecDepth 100000
set_option maxHeartbeats 16000000
section
open Go.RowKit Go.Lib Go.Sort
abbrev Eo:=Ky × Option Nat
def eoC (x:Eo):List Value:=[.int .u64 x.1.1,.int .u64 x.1.2,ptr x.2]
def d0P (fz:Nat→Bool):List Eo→List En
  | []=>[]
  | (k,none)::l=>d0P fz l
  | (k,some n)::l=>if fz n=true then (k,n)::d0P fz l else d0P fz l
theorem h0D (fz:Nat→Bool):∀a b:List Eo,d0P fz (a++b)=d0P fz a++d0P fz b
  | [],b=>rfl
  | (k,none)::a,b=>by simp [d0P,h0D fz a b]
  | (k,some n)::a,b=>by
      simp only [List.cons_append,d0P,h0D fz a b]
      split <;> rfl
abbrev m0A:=Option Addr × Nat × List Eo
def f1L (p:m0A):List Value:=[.slice p.1 p.2.2.length p.2.1]
def p0L (w:World) (v:Value) (ps:List m0A):Prop:=a0O 1 f1L w v ps∧∀p∈ps,a0O 3 eoC w (.slice p.1 p.2.2.length p.2.1) p.2.2
theorem p0L.below {w w':World} {v:Value} {ps:List m0A} (h:p0L w v ps) (hb:jB w w'):p0L w' v ps:=⟨h.1.below hb,fun p hp=>(h.2 p hp).below hb⟩
def FzN (w:World) (n:Nat) (b:Bool):Prop:=∃y rs rh fp,b0B w n y rs rh fp∧y.frz=b
theorem FzN.below {w w':World} {n:Nat} {b:Bool} (h:FzN w n b) (hb:jB w w'):FzN w' n b:=by
 obtain ⟨y,rs,rh,fp,h1,h2⟩:=h;exact ⟨y,rs,rh,fp,h1.below hb,h2⟩
def p0C (B:Nat) (w:World) (C:Nat) (ep:Int) (l:List En):Prop:=B≤C∧∃A c,w.heap[C]?=some (.cells #[.int .i64 ep,.slice A l.length c] 167 (0,0))∧b0Q enC 246 3 (C+1) w (.slice A l.length c) l
theorem p0C.kept {B:Nat} {w w':World} {C:Nat} {ep:Int} {l:List En} (h:p0C B w C ep l) (hk:∀r,B≤r→r<w.heap.size→w'.heap[r]?=w.heap[r]?):p0C B w' C ep l:=by
 obtain ⟨hB,A,c,h1,h2⟩:=h;exact ⟨hB,A,c,(hk C hB (jL h1)).trans h1,h2.kept (fun r hr=>hk r (by have:=(h2.lt hr).1;omega) (h2.lt hr).2)⟩
theorem p0C.below {B:Nat} {w w':World} {C:Nat} {ep:Int} {l:List En} (h:p0C B w C ep l) (hb:jB w w'):p0C B w' C ep l:=h.kept (fun r _ hr=>hb.block r hr)
theorem k1Q {B C:Nat} {w1 w4:World} {ep:Int} {v:Value} {out:List En} {A4:Option Addr} {c4:Nat} (h1:w4.heap[C]?=some (.cells #[.int .i64 ep,v] 167 (0,0))) (hown:b0Q enC 246 3 (C+1) w4 (.slice A4 out.length c4) out) (hB:B≤C) :
 p0C B (w4.setCell ⟨C,1,none⟩ (.slice A4 out.length c4)) C ep out :=
 ⟨hB,A4,c4,a0E h1,hown.kept (fun r hr=>Below.heap_setCell _ _ _ _ (fun e=>by have e':r=C:=e;have:=(hown.lt hr).1;omega))⟩
theorem h1Y (ep:Int) (v:Value) (ps:List m0A) (fz:Nat→Bool) (w:World) (hv:p0L w v ps) (hf:∀p∈ps,∀x∈p.2.2,∀n,x.2=some n→FzN w n (fz n)) (hl:(ps.flatMap fun p=>d0P fz p.2.2).length≤40) (hl2:ps.length≤1000) (hl3:∀p∈ps,p.2.2.length≤1000000) :
 Calls Tryz.prog 94 #[.int .i64 ep,v] w fun e w'=>∃C,e=.returned (.pointer (some ⟨C,0,none⟩))∧p0C w.heap.size w' C ep (e0B (ps.flatMap fun p=>d0P fz p.2.2))∧jB w w':=by
 obtain ⟨A0,c0,rfl⟩:=hv.1.form;have HV:=jH hv;have HF:=jH hf;have HL:=jH hl;have HL3:=jH hl3;have hq:ps.length≤9223372036854775807:=by omega
 clear hv hf hl hl3
 go_enter Tryz.func94,Tryz.ntmps94
 go_wp2_with fail
 go_loopg [15] ps.length (fun g s15 wr=>∃(i:Nat) (out:List En),i≤ps.length∧ps.length - i≤g∧s15=.int .i64 i∧Hid (out=(ps.take i).flatMap fun p=>d0P fz p.2.2)∧p0C w.heap.size wr w.heap.size ep out∧jB w wr)
 case atStart=>exact ⟨0,[],Nat.zero_le _,Nat.le_refl _,rfl,jH rfl,⟨Nat.le_refl _,none,0,heap_alloc_new _ _,b0Q.nil _ _⟩,a0C jR _⟩
 case round =>
  obtain ⟨i,out,hi,hg,rfl,HO,hcut,hbw⟩:=hrel;rename World=>wr
  have HCU:=jH hcut;have HBW:=jH hbw;clear hcut hbw
  by_cases hlt:i<ps.length
  · obtain ⟨b0,o0,rfl,hb0,hc0⟩:=(HV.out.1.below HBW.out).at_ hlt
    have z1:(0:Int)≤(i:Int):=by omega
    have z2:(i:Int)<(ps.length:Int):=by omega
    have hmem:=List.getElem_mem hlt;have HR:=jH (HV.out.2 _ hmem);have HFP:=jH (HF.out _ hmem);have hl3:=HL3.out _ hmem;have HNX:=jH (show ((ps.take (i+1)).flatMap fun p=>d0P fz p.2.2)=out++d0P fz ps[i].2.2 by
     rw [List.take_succ_eq_append_getElem hlt,List.flatMap_append,HO.out];simp)
    have HPL:=jH (show (out++d0P fz ps[i].2.2).length≤40 by
     rw [←HNX.out];refine Nat.le_trans ?_ HL.out;have e:(ps.flatMap fun p=>d0P fz p.2.2)=((ps.take (i+1)).flatMap fun p=>d0P fz p.2.2)++((ps.drop (i+1)).flatMap fun p=>d0P fz p.2.2):=by rw [←List.flatMap_append,List.take_append_drop]
     rw [e,List.length_append];omega)
    have d0:=hc0 0 _ rfl;rw [Nat.mul_one,Nat.add_zero] at d0;clear hc0 hmem;generalize ps[i]=p at HR HFP hl3 HNX HPL d0;obtain ⟨Ap,cp,l⟩:=p;simp only at HR HFP hl3 HNX HPL d0
    have hq3:l.length≤9223372036854775807:=by omega
    go_wp2_with fail
    go_loopg [21] l.length (fun g s21 wx=>∃(j:Nat) (o2:List En),j≤l.length∧l.length - j≤g∧s21=.int .i64 j∧Hid (o2=out++d0P fz (l.take j))∧p0C w.heap.size wx w.heap.size ep o2∧jB w wx)
    case atStart=>exact ⟨0,out,Nat.zero_le _,Nat.le_refl _,rfl,jH (by simp [d0P]),HCU.out,HBW.out⟩
    case round =>
     obtain ⟨j,o2,hj,hgj,rfl,HO2,hcut,hbx⟩:=hrel;rename World=>wx
     have HCX:=jH hcut;have HBX:=jH hbx;clear hcut hbx
     by_cases hjl:j<l.length
     · obtain ⟨b1,o1,rfl,hb1,hc1⟩:=(HR.out.below HBX.out).at_ hjl
       have y1:(0:Int)≤(j:Int):=by omega
       have y2:(j:Int)<(l.length:Int):=by omega
       have HN:=jH (fun n (h:l[j].2=some n)=>(HFP.out _ (List.getElem_mem hjl) n h).below HBX.out);have HTK:=jH (show d0P fz (l.take (j+1))=d0P fz (l.take j)++d0P fz [l[j]] by rw [List.take_succ_eq_append_getElem hjl,h0D]);have HLJ:=jH (show o2.length+(d0P fz [l[j]]).length≤40 by
        refine Nat.le_trans ?_ HPL.out;have e:d0P fz l=d0P fz (l.take (j+1))++d0P fz (l.drop (j+1)):=by rw [←h0D,List.take_append_drop]
        rw [HO2.out,e,HTK.out];simp only [List.length_append];omega)
       have f0:=hc1 0 _ rfl;have f1:=hc1 1 _ rfl;have f2:=hc1 2 _ rfl;rw [Nat.add_zero] at f0;clear hc1;generalize l[j]=x at HN HTK HLJ f0 f1 f2;obtain ⟨k,n⟩:=x;simp only at HN HTK HLJ f0 f1 f2
       cases n with
       | none =>
         simp only [ptr,Option.map_none] at f2
         go_wp2_with fail
         go_roundg (l.length - (j+1))
         case measure=>omega
         case rel=>exact ⟨j+1,o2,hjl,Nat.le_refl _,by go_num,jH (by rw [HTK.out,HO2.out];simp [d0P]),HCX.out.below (a0C jR _),a0D HBX.out (a0C jR _)⟩
       | some n =>
         simp only [ptr,Option.map_some] at f2
         obtain ⟨y,rs,rh,fp,hn,hz⟩:=HN.out n rfl;have HNF:=jH (show ∀W,jB wx W→Calls Tryz.prog 162 #[.pointer (some ⟨n,0,none⟩)] W (jP W (.bool (fz n))) from fun W hW=>by rw [←hz];exact q0E n y rs rh fp W (hn.below hW));clear hn hz
         cases hfz:fz n with
         | false =>
           rw [hfz] at HNF;have HFZ:=jH hfz;clear hfz
           as_aux_lemma =>
            go_wp2_with (first
             | (go_at_call 162
                refine a0B ?_;intro W3 hW3;have hb3:jB wx W3:=by rw [hW3];exact a0C jR _
                clear hW3;refine (HNF.out W3 hb3).mono ?_;rintro e w4 ⟨rfl,hb4⟩;have HB4:=jH (a0D hb3 hb4);clear hb3 hb4))
            go_roundg (l.length - (j+1))
            case measure=>omega
            case rel=>exact ⟨j+1,o2,hjl,Nat.le_refl _,by go_num,jH (by rw [HTK.out,HO2.out];simp [d0P,HFZ.out]),HCX.out.below HB4.out,a0D HBX.out HB4.out⟩
         | true =>
           rw [hfz] at HNF;have HTK2:=jH (show d0P fz (l.take (j+1))=d0P fz (l.take j)++[(k,n)] by rw [HTK.out];simp [d0P,hfz]);have HLJ2:=jH (show o2.length+1≤40 by have:=HLJ.out;simpa [d0P,hfz] using this);clear hfz HTK HLJ HN
           as_aux_lemma =>
            go_upto_region 9 with (first
             | (go_at_call 162
                refine a0B ?_;intro W3 hW3;have hb3:jB wx W3:=by rw [hW3];exact a0C jR _
                have hx3:W3.heap[wx.heap.size]?=some (.cells #[.int .u64 k.1,.int .u64 k.2,.pointer (some ⟨n,0,none⟩)] 246 (0,0)):=by rw [hW3];exact heap_alloc_new _ _
                clear hW3;refine (HNF.out W3 hb3).mono ?_;rintro e w4 ⟨rfl,hb4⟩;have HX4:=jH (jK hb4 hx3);have HB4:=jH (a0D hb3 hb4);clear hb3 hx3 hb4))
            refine a0I ?_;intro W5 hW5;have hb5:jB wx W5:=by rw [hW5];exact HB4.out
            have hx5:W5.heap[wx.heap.size]?=some (.cells #[.int .u64 k.1,.int .u64 k.2,.pointer (some ⟨n,0,none⟩)] 246 (0,0)):=by rw [hW5];exact HX4.out
            have hbw5:jB w W5:=a0D HBX.out hb5;obtain ⟨hBC,A5,c5,hC5,hO5⟩:=HCX.out.below hb5;obtain ⟨a1,a2,a3⟩:=a0A jR hx5;obtain ⟨a4,a5,a6⟩:=a0A jR hC5;have HC5:=jH hC5;have HO5:=jH hO5;have HBW5:=jH hbw5;clear hW5 hb5 hx5 hC5 hO5 hbw5 f0 f1 f2 hBC
            go_region_law ((
              refine d0B eEn (by rfl) (.tmp 37) (.tmp 39) (by rfl) (w.heap.size+1) o2 [(k,n)] _ _ (by rfl) (by rfl) (HO5.out.below (by repeat (first|exact jR|refine a0C ?_ _|refine Below.drew ?_|refine a0F ?_ _))) (a0O.lit _ (k,n) _ _ _ (by first|rfl|simp) rfl) (by have:=HLJ2.out;simp;omega) (by simp;omega) ?_;intro out4 A4 cc4 w4' hout hown4 hg4 hblk4;have hbz:∀W,jB W5 W→W.heap[w.heap.size]?=some (.cells #[.int .i64 ep,.slice A5 o2.length c5] 167 (0,0)):=fun W h=>(h.block _ a6).trans HC5.out
              have hS4:=(hg4.block w.heap.size (by simp;omega) (fun e=>by have:=(HO5.out.lt e.symm).1;omega)).trans (hbz _ (by repeat (first|exact jR|refine a0C ?_ _|refine Below.drew ?_|refine a0F ?_ _)));obtain ⟨e1,e2,e3⟩:=a0A jR hS4;have HCS:=jH (k1Q (B:=w.heap.size) (w1:=W5) hS4 hown4 (Nat.le_refl _));have HOUT:=jH hout;have HB6:=jH (show jB w (w4'.setCell ⟨w.heap.size,1,none⟩ (.slice A4 out4.length cc4)) from
               Below.setCell (p:=⟨w.heap.size,1,none⟩) (HBW5.out.trans ((show jB W5 _ by repeat (first|exact jR|refine a0C ?_ _|refine Below.drew ?_|refine a0F ?_ _)).mono HBW5.out.size |>.trans ((a0Z hg4 HO5.out (by simp;omega)).mono (by omega)))) (Nat.le_refl _) _)
              clear hbz hS4 hout hown4 hg4 hblk4))
            all_goals
              go_wp2_with fail
              go_roundg (l.length - (j+1))
              case measure=>omega
              case rel=>exact ⟨j+1,out4,hjl,Nat.le_refl _,by go_num,jH (by rw [HTK2.out,HOUT.out,HO2.out,List.append_assoc]),HCS.out.below (by repeat (first|exact jR|refine a0C ?_ _|refine Below.drew ?_|refine a0F ?_ _)),a0D HB6.out (by repeat (first|exact jR|refine a0C ?_ _|refine Below.drew ?_|refine a0F ?_ _))⟩
     · obtain rfl:j=l.length:=by omega
       go_wp2_with fail
       go_roundg (ps.length - (i+1))
       case measure=>omega
       case rel=>exact ⟨i+1,o2,hlt,Nat.le_refl _,by go_num,jH (by rw [HNX.out,HO2.out,List.take_length]),HCX.out,HBX.out⟩
  · obtain rfl:i=ps.length:=by omega
    have ho:=HO.out;rw [List.take_length] at ho;obtain ⟨hBC,A5,c5,hC5,hO5⟩:=HCU.out;have hol:out.length≤40:=by rw [ho];exact HL.out
    have CS:=jH (k1R _ out wr (hO5.row eEn) hol);have HOUT:=jH ho;have HC5:=jH hC5;obtain ⟨a4,a5,a6⟩:=a0A jR hC5;clear ho hBC hC5 hO5 hol
    go_wp2_with (first
     | (go_at_call 163
        refine CS.out.mono ?_;rintro e w2 ⟨A2,c2,rfl,hown,hb⟩;have hC2:=(hb.block _ a6).trans HC5.out;obtain ⟨e4,e5,e6⟩:=a0A jR hC2;have HCS:=jH (k1Q (B:=w.heap.size) (w1:=w2) hC2 (hown.lower (by omega)) (Nat.le_refl _));have HB2:=jH (Below.setCell (p:=⟨w.heap.size,1,none⟩) (a0D HBW.out hb) (Nat.le_refl _) _:jB w (w2.setCell ⟨w.heap.size,1,none⟩ (.slice A2 (e0B out).length c2)));clear hC2 hown hb))
    go_ret
    rw [←HOUT.out];exact ⟨w.heap.size,rfl,HCS.out,HB2.out⟩

end
section
open Go.Shelf

end
section
open Go.RowKit Go.Lib Go.Sort

deriving instance DecidableEq for Adv
deriving instance DecidableEq for Pol
def m1G (w:World) (l:List En) (nd:En→Nd) (rs rh:Nat):Prop:=∀x∈l,∃fp,b0B w x.2 (nd x) rs rh fp
theorem u0I {l:List En} {k:Ky} {n:Nat} (h:d0L l k=some n):(k,n)∈l:=by
 unfold d0L at h;obtain ⟨x,hx,rfl⟩:=Option.map_eq_some_iff.1 h;have h1:=List.mem_of_find?_eq_some hx;have h2:=List.find?_some hx;simp at h2
 obtain ⟨a,b⟩:=x;obtain rfl:a=k:=h2;exact h1
theorem blk_at {es:List (KO × NE)} {q:Ky} (h:q∈kyN es):∃p∈es,p.1.1=q∧es.find? (fun p=>p.1.1=q)=some p:=by
 obtain ⟨p,hp,rfl⟩:=List.mem_map.1 h
 cases hf:es.find? (fun x=>x.1.1=p.1.1) with
 | none=>exact absurd (List.find?_eq_none.1 hf p hp) (by simp)
 | some r=>exact ⟨r,List.mem_of_find?_eq_some hf,by simpa using List.find?_some hf,rfl⟩


theorem i1M {n ver:Nat} {es:List (KO × NE)} (h:j0S n ver (ab es)) (K:List Ky):j0S n ver (ab (g0Y es K)):=by
 rw [n1E];refine ⟨by simp only [List.length_map];exact h.len,fun p hp=>?_⟩;obtain ⟨q,hq,rfl⟩:=List.mem_map.1 hp;have:=h.vers q hq;dsimp only
 split
 · simp only [frz];omega
 · omega
theorem l1C {es:List (KO × NE)}:∀p∈g0Y es (risL (kyN es)),p.2.2.1.frz=true:=by
 intro p hp;obtain ⟨q,hq,rfl⟩:=List.mem_map.1 hp;have hm:q.1.1∈risL (kyN es):=(i0C _ _).2 (List.mem_map.2 ⟨q,hq,rfl⟩);dsimp only;rw [if_pos hm];rfl
theorem t1M {x:Nd} (h:x.frz=true) (fp:List Nat):mfp x fp=[]:=by
 unfold mfp;rw [if_pos h]
theorem l1H {T M:Nat} {es:List (KO × NE)} (h:∀p∈es,p.2.2.1.frz=true):∀r∈sfp T M es,r=T∨r=M:=by
 intro r hr;simp only [sfp,List.mem_cons] at hr
 rcases hr with rfl|rfl|hr
 · exact .inl rfl
 · exact .inr rfl
 · obtain ⟨p,hp,hr⟩:=e0G.1 hr
   rw [t1M (h p hp)] at hr
   cases hr
theorem p1I (es:List (KO × NE)) (K:List Ky) (q:Ky):j0O (g0Y es K) q=j0O es q:=by
 unfold j0O g0Y;rw [List.find?_map];simp only [Function.comp_def,Option.map_map]
theorem e0U.lt {α:Type} {P:Nat→Prop} {n:Nat} {f:α→List Value} {w:World} {v:Value} {l:List α} (h:e0U P n f w v l):e0U (fun b=>P b∧b<w.heap.size) n f w v l:=by
 refine ⟨h.1,fun b o m c e hn=>⟨h.2 b o m c e hn,?_⟩⟩;obtain ⟨A,c2,rfl,hl,hx⟩:=h.1;obtain ⟨b2,o2,rfl,hb,-⟩:=hx hn;simp only [Value.slice.injEq,Option.some.injEq,Addr.mk.injEq,and_true] at e
 rw [←e.1.1];exact hb
def soE (l:List En):List Eo:=l.map fun x=>(x.1,some x.2)
theorem o0O (l:List En):(soE l).length=l.length:=by simp [soE]
theorem row_so {w:World} {v:Value} {l:List En} (h:a0O 3 enC w v l):a0O 3 eoC w v (soE l):=by
 obtain ⟨A,c,rfl,hl,hc⟩:=h;refine ⟨A,c,by simp [soE],by simpa [soE] using hl,fun hp=>?_⟩;obtain ⟨b,o,rfl,hb,hx⟩:=hc (by simpa [soE] using hp);refine ⟨b,o,rfl,hb,fun k x hk j u hu=>?_⟩;simp only [soE,List.getElem?_map,Option.map_eq_some_iff] at hk
 obtain ⟨y,hy,rfl⟩:=hk;exact hx k y hy j u hu
theorem t1X (l:List En):d0P (fun _=>true) (soE l)=l:=by
 induction l with
 | nil=>rfl
 | cons x m ih=>simp only [soE,List.map_cons,d0P,if_true] at ih ⊢;rw [ih]
theorem z0J (l:List En) (k:Ky):(e0B l).filter (fun x=>decide (x.1=k))=l.filter (fun x=>decide (x.1=k)):=by
 have hperm:(e0B l).Perm l:=List.mergeSort_perm l _;have hsub:(l.filter (fun x=>decide (x.1=k))).Sublist (e0B l):=by
  unfold e0B;refine List.sublist_mergeSort ?_ ?_ ?_ List.filter_sublist
  · intro a b c h1 h2
    simp only [leS,ltE,Bool.not_eq_true'] at h1 h2 ⊢
    cases h3:ltK c.1 a.1 with
    | false=>rfl
    | true =>
      exfalso
      cases h4:ltK a.1 b.1 with
      | true=>rw [d0T h3 h4] at h2;cases h2
      | false=>rw [e0D h4 h1] at h3;rw [h3] at h2;cases h2
  · intro a b
    simp only [leS,ltE,Bool.or_eq_true,Bool.not_eq_true']
    cases h3:ltK b.1 a.1 with
    | false=>exact Or.inl rfl
    | true=>exact Or.inr (u0U h3)
  · rw [List.pairwise_filter]
    refine List.pairwise_of_forall (fun a b ha hb=>?_);simp only [decide_eq_true_eq] at ha hb
    simp only [leS,ltE,ha,hb,c0Q]
    rfl
 have h2:=hsub.filter (fun x=>decide (x.1=k));rw [List.filter_filter] at h2;simp only [Bool.and_self] at h2
 exact (h2.eq_of_length (by rw [(hperm.filter _).length_eq])).symm
theorem n0G (l:List En) (k:Ky):d0L l k=((l.filter (fun x=>decide (x.1=k))).head?).map (·.2):=by
 unfold d0L;rw [List.head?_filter]
theorem g1O (l:List En) (k:Ky):d0L (e0B l) k=d0L l k:=by
 rw [n0G,n0G,z0J]
theorem u0S (a b:List En) (k:Ky):d0L (a++b) k=(d0L a k).or (d0L b k):=by
 unfold d0L;rw [List.find?_append]
 cases List.find? (fun x=>decide (x.1=k)) a <;> rfl
theorem l1M (l:List En) (x:En):x∈e0B l ↔ x∈l:=(List.mergeSort_perm l _).mem_iff
theorem x0J (C:Nat) (ep:Int) (l:List En) (w:World) (h:z0E w C ep l) :
 Calls Tryz.prog 39 #[.pointer (some ⟨C,0,none⟩)] w (jP w (.int .i64 ep)):=by
 obtain ⟨A,c,h1,h2⟩:=h;obtain ⟨a1,a2,a3⟩:=a0A jR h1;clear h1 h2
 go_enter Tryz.func39,Tryz.ntmps39
 go_wp2_with fail
 go_ret
 exact ⟨rfl,jR⟩
end
section
open Go.RowKit Go.Lib
def l0Y (n:Nat):Value:=.agg #[.int .u64 ((n / 18446744073709551616:Nat):Int),.int .u64 ((n % 18446744073709551616:Nat):Int)]
theorem c1I {x k:Nat} (h:2 ^ (k+1) ∣ x):x ||| 2 ^ k=x+2 ^ k:=by
 obtain ⟨a,rfl⟩:=h;exact (Nat.two_pow_add_eq_or_of_lt (Nat.pow_lt_pow_right (by decide) (by omega)) a).symm
def xD (n i:Nat):Nat:=n * 2 ^ i % 340282366920938463463374607431768211456
def aD (n i:Nat):Nat:=n / 2 ^ (128 - i)
def rD (n d i:Nat):Nat:=aD n i % d
def qD (n d i:Nat):Nat:=aD n i / d * 2 ^ (128 - i)
def bD (n i:Nat):Nat:=(n.testBit (127 - i)).toNat
theorem bD_le (n i:Nat):bD n i≤1:=by unfold bD;cases n.testBit (127 - i) <;> simp
theorem m1I {n i:Nat} (hi:i<128):aD n (i+1)=2 * aD n i+bD n i:=by
 unfold aD bD;have h:=o0P n (127 - i);rw [show 127 - i+1=128 - i by omega] at h;rw [show 128 - (i+1)=127 - i by omega];exact h
theorem q0S:(340282366920938463463374607431768211456:Nat)=2 ^ 128:=by decide
theorem xD_bit {n i:Nat} (hi:i<128):xD n i / 170141183460469231731687303715884105728=bD n i:=by
 unfold xD bD;rw [k0P];have e:(170141183460469231731687303715884105728:Nat)=2 ^ i * 2 ^ (127 - i):=by rw [←Nat.pow_add,show i+(127 - i)=127 by omega]
 have e2:(340282366920938463463374607431768211456:Nat)=170141183460469231731687303715884105728 * 2:=by decide
 rw [e2,Nat.mod_mul_right_div_self,e,←Nat.div_div_eq_div_mul,Nat.mul_div_cancel _ (Nat.two_pow_pos i)]
theorem s1X (n i:Nat):xD n (i+1)=2 * xD n i % 340282366920938463463374607431768211456:=by
 unfold xD;rw [Nat.pow_succ,←Nat.mul_assoc];generalize n * 2 ^ i=y;omega
theorem xD_lt (n i:Nat):xD n i<340282366920938463463374607431768211456:=Nat.mod_lt _ (by decide)
theorem rD_lt {n d i:Nat} (hd:0<d):rD n d i<d:=Nat.mod_lt _ hd
theorem u1G {n d i:Nat} (hi:i<128) (hd:0<d) (h:2 * rD n d i+bD n i<d):rD n d (i+1)=2 * rD n d i+bD n i∧qD n d (i+1)=qD n d i:=by
 unfold rD qD at *;rw [m1I hi];have hm:=Nat.div_add_mod (aD n i) d;generalize aD n i / d=k at *;generalize aD n i % d=r at *;have e:2 * aD n i+bD n i=d * (2 * k)+(2 * r+bD n i):=by rw [←hm,Nat.mul_left_comm];omega
 rw [e,Nat.mul_add_mod,Nat.mod_eq_of_lt h,Nat.mul_add_div hd,Nat.div_eq_of_lt h];refine ⟨rfl,?_⟩;rw [show 128 - i=128 - (i+1)+1 by omega,Nat.pow_succ,Nat.add_zero,Nat.mul_comm 2 k,Nat.mul_assoc,Nat.mul_comm 2]
theorem p1V {n d i:Nat} (hi:i<128) (hd:0<d) (h:d≤2 * rD n d i+bD n i):rD n d (i+1)=2 * rD n d i+bD n i - d∧qD n d (i+1)=qD n d i+2 ^ (127 - i):=by
 have hr:=rD_lt (n:=n) (i:=i) hd;have hb:=bD_le n i;unfold rD qD at *;rw [m1I hi];have hm:=Nat.div_add_mod (aD n i) d;generalize aD n i / d=k at *;generalize aD n i % d=r at *;have e:2 * aD n i+bD n i=d * (2 * k+1)+(2 * r+bD n i - d):=by
  have e1:d * (2 * k+1)=2 * (d * k)+d:=by rw [Nat.mul_add,Nat.mul_one,Nat.mul_left_comm]
  rw [←hm,e1];omega
 have hlt:2 * r+bD n i - d<d:=by omega
 rw [e,Nat.mul_add_mod,Nat.mod_eq_of_lt hlt,Nat.mul_add_div hd,Nat.div_eq_of_lt hlt];refine ⟨rfl,?_⟩;rw [show 128 - i=128 - (i+1)+1 by omega,Nat.pow_succ,Nat.add_zero,Nat.add_mul,Nat.one_mul,show 128 - (i+1)=127 - i by omega,Nat.mul_comm 2 k,Nat.mul_assoc,Nat.mul_comm 2]
theorem r1U (n d i:Nat):2 ^ (128 - i) ∣ qD n d i:=Nat.dvd_mul_left _ _
theorem t1O {n d:Nat} (hn:n<340282366920938463463374607431768211456):qD n d 0=0∧rD n d 0=0∧xD n 0=n:=by
 have h:n / 340282366920938463463374607431768211456=0:=Nat.div_eq_of_lt hn;refine ⟨?_,?_,?_⟩
 · unfold qD aD;rw [Nat.sub_zero,←q0S,h,Nat.zero_div,Nat.zero_mul]
 · unfold rD aD;rw [Nat.sub_zero,←q0S,h,Nat.zero_mod]
 · unfold xD;rw [Nat.pow_zero,Nat.mul_one,Nat.mod_eq_of_lt hn]
theorem qD_end (n d:Nat):qD n d 128=n / d∧rD n d 128=n % d:=by
 unfold qD rD aD;simp
theorem qD_lt {n d i:Nat} (hn:n<340282366920938463463374607431768211456) (hi:i≤128):qD n d i<340282366920938463463374607431768211456:=by
 unfold qD aD;have h1:=Nat.div_le_self (n / 2 ^ (128 - i)) d;have h2:=Nat.mul_le_mul_right (2 ^ (128 - i)) h1;have h3:=Nat.div_mul_le_self n (2 ^ (128 - i));omega
theorem q_hi {n d i:Nat} (hi:i<64) (hn:n<340282366920938463463374607431768211456) :
 (qD n d i+2 ^ (127 - i)) / 18446744073709551616=(qD n d i / 18446744073709551616 ||| 2 ^ (63 - i))∧(qD n d i+2 ^ (127 - i)) % 18446744073709551616=qD n d i % 18446744073709551616:=by
 obtain ⟨m,hm⟩:=r1U n d i;have e1:2 ^ (127 - i)=18446744073709551616 * 2 ^ (63 - i):=by
  rw [show 127 - i=64+(63 - i) by omega,Nat.pow_add]
 have e2:2 ^ (128 - i)=18446744073709551616 * 2 ^ (63 - i+1):=by
  rw [show 128 - i=64+(63 - i+1) by omega,Nat.pow_add]
 have e3:qD n d i / 18446744073709551616=2 ^ (63 - i+1) * m:=by
  rw [hm,e2,Nat.mul_assoc,Nat.mul_div_cancel_left _ (by decide)]
 constructor
 · rw [e3,c1I (Nat.dvd_mul_right _ _),hm,e1,e2,Nat.mul_assoc,←Nat.mul_add,Nat.mul_div_cancel_left _ (by decide)]
 · rw [e1,Nat.add_mul_mod_self_left]
theorem q_lo {n d i:Nat} (h64:64≤i) (hi:i<128) :
 (qD n d i+2 ^ (127 - i)) / 18446744073709551616=qD n d i / 18446744073709551616∧(qD n d i+2 ^ (127 - i)) % 18446744073709551616=(qD n d i % 18446744073709551616 ||| 2 ^ (127 - i)):=by
 have hd:2 ^ (128 - i) ∣ qD n d i % 18446744073709551616:=by
  rw [Nat.dvd_mod_iff]
  · exact r1U n d i
  · rw [show (18446744073709551616:Nat)=2 ^ 64 by decide]
    exact Nat.pow_dvd_pow 2 (by omega)
 have ho:(qD n d i % 18446744073709551616 ||| 2 ^ (127 - i))=qD n d i % 18446744073709551616+2 ^ (127 - i):=c1I (by rw [show 127 - i+1=128 - i by omega];exact hd);have hlt:qD n d i % 18446744073709551616+2 ^ (127 - i)<18446744073709551616:=by
  obtain ⟨m,hm⟩:=hd;have hx:=Nat.mod_lt (qD n d i) (show 0<18446744073709551616 by decide);have e:18446744073709551616=2 ^ (128 - i) * 2 ^ (i - 64):=by rw [←Nat.pow_add,show 128 - i+(i - 64)=64 by omega]
  have e1:2 ^ (128 - i)=2 * 2 ^ (127 - i):=by rw [show 128 - i=127 - i+1 by omega,Nat.pow_succ,Nat.mul_comm]
  have hp:=Nat.two_pow_pos (127 - i);rw [hm] at hx ⊢;have hm2:m<2 ^ (i - 64):=by
   rw [e] at hx;exact Nat.lt_of_mul_lt_mul_left hx
  have hm3:2 ^ (128 - i) * (m+1)≤2 ^ (128 - i) * 2 ^ (i - 64):=Nat.mul_le_mul_left _ hm2;rw [Nat.mul_add,Nat.mul_one,←e] at hm3;omega
 rw [ho];generalize qD n d i=q at *;generalize 2 ^ (127 - i)=p at *;omega
theorem l1W (x:Nat) (hx:x<340282366920938463463374607431768211456) :
 (2 * x % 340282366920938463463374607431768211456) / 18446744073709551616=2 * (x / 18446744073709551616) % 18446744073709551616+x % 18446744073709551616 / 9223372036854775808 ∧
 (2 * x % 340282366920938463463374607431768211456) % 18446744073709551616=2 * (x % 18446744073709551616) % 18446744073709551616∧x / 18446744073709551616 / 9223372036854775808=x / 170141183460469231731687303715884105728:=by
 omega
theorem w0E (x y c:Nat) (hc:c≤1) (w:World) :
 (callFunc 287 #[.int .u64 x,.int .u64 y,.int .u64 c]).run Tryz.prog w =
   .ok (.value (.tuple #[.int .u64 (((x+y+c) % 18446744073709551616:Nat):Int),.int .u64 (((x+y+c) / 18446744073709551616:Nat):Int)])) w:=by
 rw [run_callFunc_extern Tryz.func287 (by kernel_rfl) (by kernel_rfl) (by kernel_rfl) (e:=add64Entry) (by kernel_rfl),run_add64 x y c (by omega) (by omega) (by omega) (by omega)];simp only [Result.andThen]
 congr 5 <;> omega
theorem t0O (a b c d:Nat) (ha:a<18446744073709551616) (hc:c<18446744073709551616) (hb:b<18446744073709551616) (hd:d<18446744073709551616) (lo k hi:Nat) (e1:lo=(b+d) % 18446744073709551616) (e2:k=(b+d) / 18446744073709551616) (e3:hi=a+c+k) (h:hi<18446744073709551616) (w:World) :
 Calls Tryz.prog 242 #[.agg #[.int .u64 a,.int .u64 b],.agg #[.int .u64 c,.int .u64 d]] w (jP w (.tuple #[.agg #[.int .u64 hi,.int .u64 lo],.bool true])):=by
 have r1:∀W,(callFunc 287 #[.int .u64 b,.int .u64 d,.int .u64 0]).run Tryz.prog W=.ok (.value (.tuple #[.int .u64 lo,.int .u64 k])) W:=fun W=>by
  have:=w0E b d 0 (by omega) W;rw [Nat.add_zero,←e1,←e2] at this;exact this
 have hk:k≤1:=by omega
 have r2:∀W,(callFunc 287 #[.int .u64 a,.int .u64 c,.int .u64 k]).run Tryz.prog W=.ok (.value (.tuple #[.int .u64 hi,.int .u64 0])) W:=fun W=>by
  have:=w0E a c k hk W;rw [←e3,Nat.mod_eq_of_lt h,Nat.div_eq_of_lt h] at this;exact this
 clear e1 e2 e3 h hk ha hb hc hd
 go_enter Tryz.func242,Tryz.ntmps242
 go_wp2
 refine bodyPost_ret (v:=.tuple #[.agg #[.int .u64 hi,.int .u64 lo],.bool true]) (by simp [results,Tryz.results242,go_sem]) rfl ⟨rfl,a0C (a0C (a0C jR _) _) _⟩
theorem k0E (m n:Nat) (h:m+n<340282366920938463463374607431768211456) (w:World) :
 Calls Tryz.prog 242 #[l0Y m,l0Y n] w (jP w (.tuple #[l0Y (m+n),.bool true])):=by
 unfold l0Y;have e:(m+n) / 18446744073709551616=m / 18446744073709551616+n / 18446744073709551616+(m % 18446744073709551616+n % 18446744073709551616) / 18446744073709551616:=by omega
 have e2:(m+n) % 18446744073709551616=(m % 18446744073709551616+n % 18446744073709551616) % 18446744073709551616:=by omega
 exact t0O _ _ _ _ (by omega) (by omega) (by omega) (by omega) _ _ _ e2 rfl e (by omega) w
theorem l0K (n:Nat) (h:n≤9223372036854775807) (w:World) :
 Calls Tryz.prog 285 #[l0Y n] w (jP w (.int .i64 n)):=by
 have e1:n / 18446744073709551616=0:=by omega
 have e2:n % 18446744073709551616=n:=by omega
 unfold l0Y;rw [e1,e2];have q1:¬(9223372036854775807:Int)<(n:Int):=by omega
 have q2:decide ((9223372036854775807:Int)<(n:Int))=false:=by simp;omega
 have q3:IntKind.i64.wrap (n:Int)=(n:Int):=by rw [IntKind.wrap_i64];omega
 clear e1 e2 h
 go_enter Tryz.func285,Tryz.ntmps285
 go_wp2
 all_goals
   go_ret
   exact ⟨rfl,a0C jR _⟩
theorem f0B (w:World) (a b c:Obj):(((w.alloc a).alloc b).alloc c).heap[w.heap.size]?=some a:=(Below.heap_alloc _ _ _ (by simp;omega)).trans (c0J w a b)
theorem f0X (w:World) (a b c:Obj):(((w.alloc a).alloc b).alloc c).heap[w.heap.size+1]?=some b:=(Below.heap_alloc _ _ _ (by simp)).trans (b0R w a b)
theorem f0Q (w:World) (a b c:Obj):(((w.alloc a).alloc b).alloc c).heap[w.heap.size+1+1]?=some c:=by
 have h:=heap_alloc_new ((w.alloc a).alloc b) c
 simpa using h
theorem a0U {w:World} {r k i:Nat} {v:Value} {x:Option Obj} (h:w.heap[k]?=x) (hk:k≠r):(w.setCell ⟨r,i,none⟩ v).heap[k]?=x:=(Below.heap_setCell _ _ _ _ hk).trans h
def m0M (w wr:World) (x1 x0 q1 q0:Nat):Prop :=
 jB w wr∧wr.heap[w.heap.size]?=some (.cells #[.int .u64 x1,.int .u64 x0] 272 (0,0))∧wr.heap[w.heap.size+1]?=some (.cells #[.int .u64 0,.int .u64 0] 272 (0,0))∧wr.heap[w.heap.size+1+1]?=some (.cells #[.int .u64 q1,.int .u64 q0] 272 (0,0))
theorem m0M.setx {w wr:World} {x1 x0 q1 q0:Nat} (h:m0M w wr x1 x0 q1 q0) (y1 y0:Nat):m0M w ((wr.setCell ⟨w.heap.size,0,none⟩ (.int .u64 y1)).setCell ⟨w.heap.size,1,none⟩ (.int .u64 y0)) y1 y0 q1 q0:=by
 obtain ⟨a,b,c,d⟩:=h;exact ⟨(a.setCell (Nat.le_refl _) _).setCell (Nat.le_refl _) _,a0E (a0E b),a0U (a0U c (by omega)) (by omega),a0U (a0U d (by omega)) (by omega)⟩
theorem m0M.setq1 {w wr:World} {x1 x0 q1 q0:Nat} (h:m0M w wr x1 x0 q1 q0) (y:Nat):m0M w (wr.setCell ⟨w.heap.size+1+1,0,none⟩ (.int .u64 y)) x1 x0 y q0:=by
 obtain ⟨a,b,c,d⟩:=h;exact ⟨a.setCell (by simp;omega) _,a0U b (by omega),a0U c (by omega),a0E d⟩
theorem m0M.setq0 {w wr:World} {x1 x0 q1 q0:Nat} (h:m0M w wr x1 x0 q1 q0) (y:Nat):m0M w (wr.setCell ⟨w.heap.size+1+1,1,none⟩ (.int .u64 y)) x1 x0 q1 y:=by
 obtain ⟨a,b,c,d⟩:=h;exact ⟨a.setCell (by simp;omega) _,a0U b (by omega),a0U c (by omega),a0E d⟩
theorem m0M.drew {w wr:World} {x1 x0 q1 q0:Nat} (h:m0M w wr x1 x0 q1 q0):m0M w wr.drew x1 x0 q1 q0:=by
 obtain ⟨a,b,c,d⟩:=h;exact ⟨a.drew,b,c,d⟩
theorem c1N {k:Nat} (h:k<64):IntKind.u64.wrap ((2:Int) ^ k)=((2 ^ k:Nat):Int)∧2 ^ k<18446744073709551616:=by
 have hp:2 ^ k<2 ^ 64:=Nat.pow_lt_pow_right (by decide) h;have e:(2:Int) ^ k=((2 ^ k:Nat):Int):=by simp
 rw [e];generalize 2 ^ k=m at hp;exact ⟨c0E m (by omega),by omega⟩
theorem y0V (r:Nat):IntKind.u64.wrap ((r:Int) * 2)=((2 * r % 18446744073709551616:Nat):Int):=by rw [IntKind.wrap_u64];omega
theorem r1K {a b:Nat} (ha:a % 2=0) (hb:b≤1):(a ||| b)=a+b:=by
 have:b=0∨b=1:=by omega
 rcases this with rfl|rfl
 · simp
 · obtain ⟨k,rfl⟩:∃k,a=2 ^ 1 * k:=⟨a / 2,by omega⟩
   exact (Nat.two_pow_add_eq_or_of_lt (by decide) k).symm
theorem a1I (n d:Nat) (hn:n<340282366920938463463374607431768211456) (hd:0<d) (hd2:d<18446744073709551616) (w:World) :
 Calls Tryz.prog 283 #[l0Y n,.int .u64 d] w (jP w (.tuple #[l0Y (n / d),.int .u64 (n % d:Nat),.bool true])):=by
 unfold l0Y;obtain ⟨a,ha⟩:∃a,a=n / 18446744073709551616:=⟨_,rfl⟩;obtain ⟨b,hb⟩:∃b,b=n % 18446744073709551616:=⟨_,rfl⟩;rw [←ha,←hb];have HA:=jH ha;have HB:=jH hb;have HN:=jH hn;have HD:=jH hd;have HD2:=jH hd2;have q0:¬(d:Int)=0:=by omega
 have q1:((d:Int) == 0)=false:=by simp;omega
 clear ha hb hn hd hd2
 go_enter Tryz.func283,Tryz.ntmps283
 go_wp2
 go_loopg [8,14] 128 (fun g s8 s14 wr=>∃(i:Nat) (x1 x0 q1 q0 r:Nat),i≤128∧128 - i≤g∧s14=.int .i64 i∧s8=.int .u64 r∧Hid (r=rD n d i)∧Hid (x1=xD n i / 18446744073709551616∧x0=xD n i % 18446744073709551616)∧Hid (q1=qD n d i / 18446744073709551616∧q0=qD n d i % 18446744073709551616)∧m0M w wr x1 x0 q1 q0)
 case atStart =>
  obtain ⟨z1,z2,z3⟩:=t1O (n:=n) (d:=d) HN.out;refine ⟨0,a,b,0,0,0,by omega,Nat.le_refl _,rfl,rfl,jH z2.symm,jH ⟨by rw [z3];exact HA.out,by rw [z3];exact HB.out⟩,jH ⟨by rw [z1],by rw [z1]⟩,a0C (a0C (a0C jR _) _) _,f0B _ _ _ _,f0X _ _ _ _,f0Q _ _ _ _⟩
 case round =>
  obtain ⟨i,x1,x0,p1,p0,r,hi,hg,rfl,rfl,HRr,HX,HQ,hd⟩:=hrel;rename World=>wr
  have HDA:=jH hd;obtain ⟨hbw,hx,hz,hq⟩:=hd;obtain ⟨c1,c2,c3⟩:=a0A jR hx;obtain ⟨c4,c5,c6⟩:=a0A jR hq;obtain ⟨c7,c8,c9⟩:=a0A jR hz;have HBW:=jH hbw;have HXB:=jH hx;have HZB:=jH hz;have HQB:=jH hq;clear hbw hx hz hq
  by_cases hlt:i<128
  · have q2:(i:Int)<128:=by omega
    have hr:=HRr.out;have hxx:=HX.out;have hxl:=xD_lt n i;have hrl:=rD_lt (n:=n) (i:=i) HD.out;have hbit:=xD_bit (n:=n) hlt;obtain ⟨w1,w2,w3⟩:=l1W (xD n i) hxl;have hxs:=s1X n i;have hbl:=bD_le n i;have hd2:=HD2.out;obtain ⟨R2,hR2⟩:∃R2,R2=2 * r % 18446744073709551616:=⟨_,rfl⟩;obtain ⟨t1,ht1⟩:∃t1,t1=x1 / 9223372036854775808:=⟨_,rfl⟩;obtain ⟨r2,hr2⟩:∃r2,r2=R2+t1:=⟨_,rfl⟩;obtain ⟨X2,hX2⟩:∃X2,X2=2 * x1 % 18446744073709551616:=⟨_,rfl⟩
    obtain ⟨t0,ht0⟩:∃t0,t0=x0 / 9223372036854775808:=⟨_,rfl⟩;obtain ⟨y1,hy1⟩:∃y1,y1=X2+t0:=⟨_,rfl⟩;obtain ⟨y0,hy0⟩:∃y0,y0=2 * x0 % 18446744073709551616:=⟨_,rfl⟩;obtain ⟨o,ho⟩:∃o,o=r / 9223372036854775808:=⟨_,rfl⟩;have hx1l:x1<18446744073709551616:=by omega
    have hx0l:x0<18446744073709551616:=by omega
    have ht1b:t1=bD n i:=by rw [←hbit,←w3,ht1,hxx.1]
    have g1:IntKind.u64.wrap ((r:Int) * 2)=(R2:Int):=by rw [hR2];exact y0V r
    have g2:(x1:Int) / 9223372036854775808=(t1:Int):=by omega
    have g3:bits .or .u64 (R2:Int) (t1:Int)=(r2:Int):=by rw [u64_or_nat _ _ (by omega) (by omega),r1K (by omega) (by omega),hr2]
    have g4:IntKind.u64.wrap ((x1:Int) * 2)=(X2:Int):=by rw [hX2];exact y0V x1
    have g5:(x0:Int) / 9223372036854775808=(t0:Int):=by omega
    have g6:bits .or .u64 (X2:Int) (t0:Int)=(y1:Int):=by rw [u64_or_nat _ _ (by omega) (by omega),r1K (by omega) (by omega),hy1]
    have g7:IntKind.u64.wrap ((x0:Int) * 2)=(y0:Int):=by rw [hy0];exact y0V x0
    have g8:(r:Int) / 9223372036854775808=(o:Int):=by omega
    have hR:2 * rD n d i+bD n i=if o=0 then r2 else 18446744073709551616+r2:=by
     rw [←ht1b,←hr]
     split <;> omega
    have HY:=jH (show y1=xD n (i+1) / 18446744073709551616∧y0=xD n (i+1) % 18446744073709551616 by
     rw [hxs,w1,w2,←hxx.1,←hxx.2];exact ⟨by rw [hy1,hX2,ht0],hy0⟩)
    by_cases hlow:2 * rD n d i+bD n i<d
    · obtain ⟨e1,e2⟩:=u1G hlt HD.out hlow
      have ho0:o=0:=by
       by_cases h:o=0
       · exact h
       · rw [if_neg h] at hR;omega
      rw [if_pos ho0] at hR;subst ho0;have HE:=jH (show r2=rD n d (i+1) by rw [e1,hR]);have HE2:=jH e2;have q3:(r2:Int)<(d:Int):=by omega
      have q4:decide ((r2:Int)<(d:Int))=true:=by simp;omega
      clear hr hxx hxl hrl hbit w1 w2 w3 hxs hbl hd2 hR2 ht1 hr2 hX2 ht0 hy1 hy0 ho hx1l hx0l ht1b hR hlow e1 e2;go_wp2
      go_roundg (128 - (i+1))
      case measure=>omega
      case rel=>exact ⟨i+1,y1,y0,p1,p0,r2,hlt,Nat.le_refl _,by go_num,rfl,HE,HY,jH ⟨by rw [HE2.out];exact HQ.out.1,by rw [HE2.out];exact HQ.out.2⟩,HDA.out.setx y1 y0⟩
    · obtain ⟨e1,e2⟩:=p1V hlt HD.out (Nat.le_of_not_lt hlow)
      obtain ⟨r3,hr3⟩:∃r3,r3=2 * rD n d i+bD n i - d:=⟨_,rfl⟩;have g9:IntKind.u64.wrap ((r2:Int) - (d:Int))=(r3:Int):=by
       rw [IntKind.wrap_u64,hr3,hR];rw [hR] at hlow
       split at hlow
       · rw [if_pos (by assumption)];omega
       · rw [if_neg (by assumption)];omega
      have hog:(o=0∧decide (r2<d)=false)∨((o:Int) == 0)=false:=by
       by_cases h:o=0
       · left
         rw [if_pos h] at hR;exact ⟨h,by simp;omega⟩
       · right
         simp;omega
      have HE:=jH (show r3=rD n d (i+1) by rw [e1,hr3]);have HE2:=jH e2;clear hr hxx hxl hrl hbit w1 w2 w3 hxs hbl hd2 hR2 ht1 hr2 hX2 ht0 hy1 hy0 ho hx1l hx0l ht1b hR hlow e1 e2 hr3
      by_cases h64:i<64
      · have q5:(i:Int)<64:=by omega
        have q6:wrap64 (63 - (i:Int))=((63 - i:Nat):Int):=by unfold wrap64;omega
        obtain ⟨g10,hpw⟩:=c1N (k:=63 - i) (by omega);obtain ⟨P2,hP2⟩:∃P2,P2=2 ^ (63 - i):=⟨_,rfl⟩;rw [←hP2] at g10 hpw;obtain ⟨pp,hpp⟩:∃pp,pp=(p1 ||| P2):=⟨_,rfl⟩;have g11:bits .or .u64 (p1:Int) (P2:Int)=(pp:Int):=by rw [u64_or_nat _ _ (by rw [HQ.out.1];have:=qD_lt (d:=d) HN.out hi;omega) hpw,hpp]
        have HPP:=jH hpp;have HPW:=jH hP2;clear hpp hP2 hpw
        rcases hog with ⟨rfl,hog⟩|hog
        · go_wp2
          all_goals
            refine a0I ?_;intro W hW;have hD:=HDA.out.setx y1 y0;rw [←hW] at hD;have HDW:=jH hD;obtain ⟨d1,d2,d3⟩:=a0A jR hD.2.2.2;clear hW hD
            go_region
            all_goals
              go_wp2
              go_roundg (128 - (i+1))
              case measure=>omega
              case rel=>exact ⟨i+1,y1,y0,pp,p0,r3,hlt,Nat.le_refl _,by go_num,rfl,HE,HY,jH ⟨by rw [HE2.out,(q_hi (d:=d) h64 HN.out).1,HPP.out,HQ.out.1,HPW.out],by rw [HE2.out,(q_hi (d:=d) h64 HN.out).2];exact HQ.out.2⟩,(HDW.out.setq1 pp).drew⟩
        · go_wp2
          all_goals
            refine a0I ?_;intro W hW;have hD:=HDA.out.setx y1 y0;rw [←hW] at hD;have HDW:=jH hD;obtain ⟨d1,d2,d3⟩:=a0A jR hD.2.2.2;clear hW hD
            go_region
            all_goals
              go_wp2
              go_roundg (128 - (i+1))
              case measure=>omega
              case rel=>exact ⟨i+1,y1,y0,pp,p0,r3,hlt,Nat.le_refl _,by go_num,rfl,HE,HY,jH ⟨by rw [HE2.out,(q_hi (d:=d) h64 HN.out).1,HPP.out,HQ.out.1,HPW.out],by rw [HE2.out,(q_hi (d:=d) h64 HN.out).2];exact HQ.out.2⟩,(HDW.out.setq1 pp).drew⟩
      · have q5:¬(i:Int)<64:=by omega
        have q6:wrap64 (127 - (i:Int))=((127 - i:Nat):Int):=by unfold wrap64;omega
        obtain ⟨g10,hpw⟩:=c1N (k:=127 - i) (by omega);obtain ⟨P2,hP2⟩:∃P2,P2=2 ^ (127 - i):=⟨_,rfl⟩;rw [←hP2] at g10 hpw;obtain ⟨pp,hpp⟩:∃pp,pp=(p0 ||| P2):=⟨_,rfl⟩;have g11:bits .or .u64 (p0:Int) (P2:Int)=(pp:Int):=by rw [u64_or_nat _ _ (by rw [HQ.out.2];omega) hpw,hpp]
        have HPP:=jH hpp;have HPW:=jH hP2;clear hpp hP2 hpw
        rcases hog with ⟨rfl,hog⟩|hog
        · go_wp2
          all_goals
            refine a0I ?_;intro W hW;have hD:=HDA.out.setx y1 y0;rw [←hW] at hD;have HDW:=jH hD;obtain ⟨d1,d2,d3⟩:=a0A jR hD.2.2.2;clear hW hD
            go_region
            all_goals
              go_wp2
              go_roundg (128 - (i+1))
              case measure=>omega
              case rel=>exact ⟨i+1,y1,y0,p1,pp,r3,hlt,Nat.le_refl _,by go_num,rfl,HE,HY,jH ⟨by rw [HE2.out,(q_lo (d:=d) (Nat.le_of_not_lt h64) hlt).1];exact HQ.out.1,by rw [HE2.out,(q_lo (d:=d) (Nat.le_of_not_lt h64) hlt).2,HPP.out,HQ.out.2,HPW.out]⟩,(HDW.out.setq0 pp).drew⟩
        · go_wp2
          all_goals
            refine a0I ?_;intro W hW;have hD:=HDA.out.setx y1 y0;rw [←hW] at hD;have HDW:=jH hD;obtain ⟨d1,d2,d3⟩:=a0A jR hD.2.2.2;clear hW hD
            go_region
            all_goals
              go_wp2
              go_roundg (128 - (i+1))
              case measure=>omega
              case rel=>exact ⟨i+1,y1,y0,p1,pp,r3,hlt,Nat.le_refl _,by go_num,rfl,HE,HY,jH ⟨by rw [HE2.out,(q_lo (d:=d) (Nat.le_of_not_lt h64) hlt).1];exact HQ.out.1,by rw [HE2.out,(q_lo (d:=d) (Nat.le_of_not_lt h64) hlt).2,HPP.out,HQ.out.2,HPW.out]⟩,(HDW.out.setq0 pp).drew⟩
  · obtain rfl:i=128:=by omega
    obtain ⟨e1,e2⟩:=qD_end n d;have hq1:=HQ.out;rw [e1] at hq1;have hr1:=HRr.out;rw [e2] at hr1;have HF:=jH (And.intro hq1 hr1);clear hq1 hr1 e1 e2;go_wp2
    have hz2:=a0E (i:=1) (v:=.int .u64 p0) (a0E (i:=0) (v:=.int .u64 p1) HZB.out);obtain ⟨b1,b2,b3⟩:=a0A jR hz2;refine bodyPost_ret (v:=.tuple #[.agg #[.int .u64 p1,.int .u64 p0],.int .u64 r,.bool true]) (by simp [results,Tryz.results283,go_sem,b1]) rfl ⟨?_,(HBW.out.setCell (by simp) _).setCell (by simp) _⟩;rw [HF.out.1.1,HF.out.1.2,HF.out.2]
end
end Go.Proofs.YtmniiodpbebnmaaGreat
