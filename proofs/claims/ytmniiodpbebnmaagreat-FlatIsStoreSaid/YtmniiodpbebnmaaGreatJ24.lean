/- Part 24 of the proof. -/
import Derived.Test.YtmniiodpbebnmaaGreatJ23
import Derived.Sort.WalkB12
import Derived.Lib.OwnBridge
import Derived.Shelf.SlicesE.Clone
namespace Go.Proofs.YtmniiodpbebnmaaGreat
set_option linter.unusedSimpArgs false
set_option linter.unusedVariables false
set_option linter.unusedSectionVars false
set_option maxRecDepth 100000
set_option maxHeartbeats 16000000
section
open Go.RowKit Go.Lib Go.Sort
abbrev Eo:=Ky × Option Nat
def eoC (x:Eo):List Value:=[.int .u64 x.1.1,.int .u64 x.1.2,ptr x.2]
def c0Z (fz:Nat→Bool):List Eo→List En
  | []=>[]
  | (k,none)::l=>c0Z fz l
  | (k,some n)::l=>if fz n=true then (k,n)::c0Z fz l else c0Z fz l
theorem f0W (fz:Nat→Bool):∀a b:List Eo,c0Z fz (a++b)=c0Z fz a++c0Z fz b
  | [],b=>rfl
  | (k,none)::a,b=>by simp [c0Z,f0W fz a b]
  | (k,some n)::a,b=>by
      simp only [List.cons_append,c0Z,f0W fz a b]
      split <;> rfl
abbrev l0E:=Option Addr × Nat × List Eo
def b1K (p:l0E):List Value:=[.slice p.1 p.2.2.length p.2.1]
def m0X (w:World) (v:Value) (ps:List l0E):Prop:=a0Q 1 b1K w v ps∧∀p∈ps,a0Q 3 eoC w (.slice p.1 p.2.2.length p.2.1) p.2.2
theorem m0X.below {w w':World} {v:Value} {ps:List l0E} (h:m0X w v ps) (hb:jB w w'):m0X w' v ps:=⟨h.1.below hb,fun p hp=>(h.2 p hp).below hb⟩
def FzN (w:World) (n:Nat) (b:Bool):Prop:=∃y rs rh fp,b0G w n y rs rh fp∧y.frz=b
theorem FzN.below {w w':World} {n:Nat} {b:Bool} (h:FzN w n b) (hb:jB w w'):FzN w' n b:=by
 obtain ⟨y,rs,rh,fp,h1,h2⟩:=h;exact ⟨y,rs,rh,fp,h1.below hb,h2⟩
def n0I (B:Nat) (w:World) (C:Nat) (ep:Int) (l:List En):Prop:=B≤C∧∃A c,w.heap[C]?=some (.cells #[.int .i64 ep,.slice A l.length c] 167 (0,0))∧b0Q enC 246 3 (C+1) w (.slice A l.length c) l
theorem n0I.kept {B:Nat} {w w':World} {C:Nat} {ep:Int} {l:List En} (h:n0I B w C ep l) (hk:∀r,B≤r→r<w.heap.size→w'.heap[r]?=w.heap[r]?):n0I B w' C ep l:=by
 obtain ⟨hB,A,c,h1,h2⟩:=h;exact ⟨hB,A,c,(hk C hB (jL h1)).trans h1,h2.kept (fun r hr=>hk r (by have:=(h2.lt hr).1;omega) (h2.lt hr).2)⟩
theorem n0I.below {B:Nat} {w w':World} {C:Nat} {ep:Int} {l:List En} (h:n0I B w C ep l) (hb:jB w w'):n0I B w' C ep l:=h.kept (fun r _ hr=>hb.block r hr)
theorem f1C {B C:Nat} {w1 w4:World} {ep:Int} {v:Value} {out:List En} {A4:Option Addr} {c4:Nat} (h1:w4.heap[C]?=some (.cells #[.int .i64 ep,v] 167 (0,0))) (hown:b0Q enC 246 3 (C+1) w4 (.slice A4 out.length c4) out) (hB:B≤C) :
 n0I B (w4.setCell ⟨C,1,none⟩ (.slice A4 out.length c4)) C ep out :=
 ⟨hB,A4,c4,a0E h1,hown.kept (fun r hr=>Below.heap_setCell _ _ _ _ (fun e=>by have e':r=C:=e;have:=(hown.lt hr).1;omega))⟩
theorem b1U (ep:Int) (v:Value) (ps:List l0E) (fz:Nat→Bool) (w:World) (hv:m0X w v ps) (hf:∀p∈ps,∀x∈p.2.2,∀n,x.2=some n→FzN w n (fz n)) (hl:(ps.flatMap fun p=>c0Z fz p.2.2).length≤400) (hl2:ps.length≤1000) (hl3:∀p∈ps,p.2.2.length≤1000000) :
 Calls Tryz.prog 94 #[.int .i64 ep,v] w fun e w'=>∃C,e=.returned (.pointer (some ⟨C,0,none⟩))∧n0I w.heap.size w' C ep (d0Q (ps.flatMap fun p=>c0Z fz p.2.2))∧jB w w':=by
 obtain ⟨A0,c0,rfl⟩:=hv.1.form;have HV:=jH hv;have HF:=jH hf;have HL:=jH hl;have HL3:=jH hl3;have hq:ps.length≤9223372036854775807:=by omega
 clear hv hf hl hl3
 go_enter Tryz.func94,Tryz.ntmps94
 go_wp2_with fail
 go_loopg [15] ps.length (fun g s15 wr=>∃(i:Nat) (out:List En),i≤ps.length∧ps.length - i≤g∧s15=.int .i64 i∧Hid (out=(ps.take i).flatMap fun p=>c0Z fz p.2.2)∧n0I w.heap.size wr w.heap.size ep out∧jB w wr)
 case atStart=>exact ⟨0,[],Nat.zero_le _,Nat.le_refl _,rfl,jH rfl,⟨Nat.le_refl _,none,0,heap_alloc_new _ _,b0Q.nil _ _⟩,a0C jR _⟩
 case round =>
  obtain ⟨i,out,hi,hg,rfl,HO,hcut,hbw⟩:=hrel;rename World=>wr
  have HCU:=jH hcut;have HBW:=jH hbw;clear hcut hbw
  by_cases hlt:i<ps.length
  · obtain ⟨b0,o0,rfl,hb0,hc0⟩:=(HV.out.1.below HBW.out).at_ hlt
    have z1:(0:Int)≤(i:Int):=by omega
    have z2:(i:Int)<(ps.length:Int):=by omega
    have hmem:=List.getElem_mem hlt;have HR:=jH (HV.out.2 _ hmem);have HFP:=jH (HF.out _ hmem);have hl3:=HL3.out _ hmem;have HNX:=jH (show ((ps.take (i+1)).flatMap fun p=>c0Z fz p.2.2)=out++c0Z fz ps[i].2.2 by
     rw [List.take_succ_eq_append_getElem hlt,List.flatMap_append,HO.out];simp)
    have HPL:=jH (show (out++c0Z fz ps[i].2.2).length≤400 by
     rw [←HNX.out];refine Nat.le_trans ?_ HL.out;have e:(ps.flatMap fun p=>c0Z fz p.2.2)=((ps.take (i+1)).flatMap fun p=>c0Z fz p.2.2)++((ps.drop (i+1)).flatMap fun p=>c0Z fz p.2.2):=by rw [←List.flatMap_append,List.take_append_drop]
     rw [e,List.length_append];omega)
    have d0:=hc0 0 _ rfl;rw [Nat.mul_one,Nat.add_zero] at d0;clear hc0 hmem;generalize ps[i]=p at HR HFP hl3 HNX HPL d0;obtain ⟨Ap,cp,l⟩:=p;simp only at HR HFP hl3 HNX HPL d0
    have hq3:l.length≤9223372036854775807:=by omega
    go_wp2_with fail
    go_loopg [21] l.length (fun g s21 wx=>∃(j:Nat) (o2:List En),j≤l.length∧l.length - j≤g∧s21=.int .i64 j∧Hid (o2=out++c0Z fz (l.take j))∧n0I w.heap.size wx w.heap.size ep o2∧jB w wx)
    case atStart=>exact ⟨0,out,Nat.zero_le _,Nat.le_refl _,rfl,jH (by simp [c0Z]),HCU.out,HBW.out⟩
    case round =>
     obtain ⟨j,o2,hj,hgj,rfl,HO2,hcut,hbx⟩:=hrel;rename World=>wx
     have HCX:=jH hcut;have HBX:=jH hbx;clear hcut hbx
     by_cases hjl:j<l.length
     · obtain ⟨b1,o1,rfl,hb1,hc1⟩:=(HR.out.below HBX.out).at_ hjl
       have y1:(0:Int)≤(j:Int):=by omega
       have y2:(j:Int)<(l.length:Int):=by omega
       have HN:=jH (fun n (h:l[j].2=some n)=>(HFP.out _ (List.getElem_mem hjl) n h).below HBX.out);have HTK:=jH (show c0Z fz (l.take (j+1))=c0Z fz (l.take j)++c0Z fz [l[j]] by rw [List.take_succ_eq_append_getElem hjl,f0W]);have HLJ:=jH (show o2.length+(c0Z fz [l[j]]).length≤400 by
        refine Nat.le_trans ?_ HPL.out;have e:c0Z fz l=c0Z fz (l.take (j+1))++c0Z fz (l.drop (j+1)):=by rw [←f0W,List.take_append_drop]
        rw [HO2.out,e,HTK.out];simp only [List.length_append];omega)
       have f0:=hc1 0 _ rfl;have f1:=hc1 1 _ rfl;have f2:=hc1 2 _ rfl;rw [Nat.add_zero] at f0;clear hc1;generalize l[j]=x at HN HTK HLJ f0 f1 f2;obtain ⟨k,n⟩:=x;simp only at HN HTK HLJ f0 f1 f2
       cases n with
       | none =>
         simp only [ptr,Option.map_none] at f2
         go_wp2_with fail
         go_roundg (l.length - (j+1))
         case measure=>omega
         case rel=>exact ⟨j+1,o2,hjl,Nat.le_refl _,by go_num,jH (by rw [HTK.out,HO2.out];simp [c0Z]),HCX.out.below (a0C jR _),a0D HBX.out (a0C jR _)⟩
       | some n =>
         simp only [ptr,Option.map_some] at f2
         obtain ⟨y,rs,rh,fp,hn,hz⟩:=HN.out n rfl;have HNF:=jH (show ∀W,jB wx W→Calls Tryz.prog 162 #[.pointer (some ⟨n,0,none⟩)] W (jP W (.bool (fz n))) from fun W hW=>by rw [←hz];exact o0N n y rs rh fp W (hn.below hW));clear hn hz
         cases hfz:fz n with
         | false =>
           rw [hfz] at HNF;have HFZ:=jH hfz;clear hfz
           as_aux_lemma =>
            go_wp2_with (first
             | (go_at_call 162
                refine a0B ?_;intro W3 hW3;have hb3:jB wx W3:=by rw [hW3];exact a0C jR _
                clear hW3;refine (HNF.out W3 hb3).mono ?_;rintro e w4 ⟨rfl,hb4⟩;have HB4:=jH (a0D hb3 hb4);clear hb3 hb4))
            go_roundg (l.length - (j+1))
            case measure=>omega
            case rel=>exact ⟨j+1,o2,hjl,Nat.le_refl _,by go_num,jH (by rw [HTK.out,HO2.out];simp [c0Z,HFZ.out]),HCX.out.below HB4.out,a0D HBX.out HB4.out⟩
         | true =>
           rw [hfz] at HNF;have HTK2:=jH (show c0Z fz (l.take (j+1))=c0Z fz (l.take j)++[(k,n)] by rw [HTK.out];simp [c0Z,hfz]);have HLJ2:=jH (show o2.length+1≤400 by have:=HLJ.out;simpa [c0Z,hfz] using this);clear hfz HTK HLJ HN
           as_aux_lemma =>
            go_upto_region 9 with (first
             | (go_at_call 162
                refine a0B ?_;intro W3 hW3;have hb3:jB wx W3:=by rw [hW3];exact a0C jR _
                have hx3:W3.heap[wx.heap.size]?=some (.cells #[.int .u64 k.1,.int .u64 k.2,.pointer (some ⟨n,0,none⟩)] 246 (0,0)):=by rw [hW3];exact heap_alloc_new _ _
                clear hW3;refine (HNF.out W3 hb3).mono ?_;rintro e w4 ⟨rfl,hb4⟩;have HX4:=jH (jK hb4 hx3);have HB4:=jH (a0D hb3 hb4);clear hb3 hx3 hb4))
            refine a0J ?_;intro W5 hW5;have hb5:jB wx W5:=by rw [hW5];exact HB4.out
            have hx5:W5.heap[wx.heap.size]?=some (.cells #[.int .u64 k.1,.int .u64 k.2,.pointer (some ⟨n,0,none⟩)] 246 (0,0)):=by rw [hW5];exact HX4.out
            have hbw5:jB w W5:=a0D HBX.out hb5;obtain ⟨hBC,A5,c5,hC5,hO5⟩:=HCX.out.below hb5;obtain ⟨a1,a2,a3⟩:=a0A jR hx5;obtain ⟨a4,a5,a6⟩:=a0A jR hC5;have HC5:=jH hC5;have HO5:=jH hO5;have HBW5:=jH hbw5;clear hW5 hb5 hx5 hC5 hO5 hbw5 f0 f1 f2 hBC
            go_region_law ((
              refine d0W eEn (by rfl) (.tmp 37) (.tmp 39) (by rfl) (w.heap.size+1) o2 [(k,n)] _ _ (by rfl) (by rfl) (HO5.out.below (by repeat (first|exact jR|refine a0C ?_ _|refine Below.drew ?_|refine a0G ?_ _))) (a0Q.lit _ (k,n) _ _ _ (by first|rfl|simp) rfl) (by have:=HLJ2.out;simp;omega) (by simp;omega) ?_;intro out4 A4 cc4 w4' hout hown4 hg4 hblk4;have hbz:∀W,jB W5 W→W.heap[w.heap.size]?=some (.cells #[.int .i64 ep,.slice A5 o2.length c5] 167 (0,0)):=fun W h=>(h.block _ a6).trans HC5.out
              have hS4:=(hg4.block w.heap.size (by simp;omega) (fun e=>by have:=(HO5.out.lt e.symm).1;omega)).trans (hbz _ (by repeat (first|exact jR|refine a0C ?_ _|refine Below.drew ?_|refine a0G ?_ _)));obtain ⟨e1,e2,e3⟩:=a0A jR hS4;have HCS:=jH (f1C (B:=w.heap.size) (w1:=W5) hS4 hown4 (Nat.le_refl _));have HOUT:=jH hout;have HB6:=jH (show jB w (w4'.setCell ⟨w.heap.size,1,none⟩ (.slice A4 out4.length cc4)) from
               Below.setCell (p:=⟨w.heap.size,1,none⟩) (HBW5.out.trans ((show jB W5 _ by repeat (first|exact jR|refine a0C ?_ _|refine Below.drew ?_|refine a0G ?_ _)).mono HBW5.out.size |>.trans ((f0J hg4 HO5.out (by simp;omega)).mono (by omega)))) (Nat.le_refl _) _)
              clear hbz hS4 hout hown4 hg4 hblk4))
            all_goals
              go_wp2_with fail
              go_roundg (l.length - (j+1))
              case measure=>omega
              case rel=>exact ⟨j+1,out4,hjl,Nat.le_refl _,by go_num,jH (by rw [HTK2.out,HOUT.out,HO2.out,List.append_assoc]),HCS.out.below (by repeat (first|exact jR|refine a0C ?_ _|refine Below.drew ?_|refine a0G ?_ _)),a0D HB6.out (by repeat (first|exact jR|refine a0C ?_ _|refine Below.drew ?_|refine a0G ?_ _))⟩
     · obtain rfl:j=l.length:=by omega
       go_wp2_with fail
       go_roundg (ps.length - (i+1))
       case measure=>omega
       case rel=>exact ⟨i+1,o2,hlt,Nat.le_refl _,by go_num,jH (by rw [HNX.out,HO2.out,List.take_length]),HCX.out,HBX.out⟩
  · obtain rfl:i=ps.length:=by omega
    have ho:=HO.out;rw [List.take_length] at ho;obtain ⟨hBC,A5,c5,hC5,hO5⟩:=HCU.out;have hol:out.length≤400:=by rw [ho];exact HL.out
    have CS:=jH (g1F _ out wr (hO5.row eEn) (Nat.le_trans hol (by decide)));have HOUT:=jH ho;have HC5:=jH hC5;obtain ⟨a4,a5,a6⟩:=a0A jR hC5;clear ho hBC hC5 hO5 hol
    go_wp2_with (first
     | (go_at_call 163
        refine CS.out.mono ?_;rintro e w2 ⟨A2,c2,rfl,hown,hb⟩;have hC2:=(hb.block _ a6).trans HC5.out;obtain ⟨e4,e5,e6⟩:=a0A jR hC2;have HCS:=jH (f1C (B:=w.heap.size) (w1:=w2) hC2 (hown.lower (by omega)) (Nat.le_refl _));have HB2:=jH (Below.setCell (p:=⟨w.heap.size,1,none⟩) (a0D HBW.out hb) (Nat.le_refl _) _:jB w (w2.setCell ⟨w.heap.size,1,none⟩ (.slice A2 (d0Q out).length c2)));clear hC2 hown hb))
    go_ret
    rw [←HOUT.out];exact ⟨w.heap.size,rfl,HCS.out,HB2.out⟩

end
section
open Go.Shelf

end
section
open Go.RowKit Go.Lib Go.Sort

deriving instance DecidableEq for Adv
deriving instance DecidableEq for Pol
def f1F (w:World) (l:List En) (nd:En→Nd) (rs rh:Nat):Prop:=∀x∈l,∃fp,b0G w x.2 (nd x) rs rh fp
theorem s0C {l:List En} {k:Ky} {n:Nat} (h:c0W l k=some n):(k,n)∈l:=by
 unfold c0W at h;obtain ⟨x,hx,rfl⟩:=Option.map_eq_some_iff.1 h;have h1:=List.mem_of_find?_eq_some hx;have h2:=List.find?_some hx;simp at h2
 obtain ⟨a,b⟩:=x;obtain rfl:a=k:=h2;exact h1
theorem blk_at {es:List (KO × NE)} {q:Ky} (h:q∈kyN es):∃p∈es,p.1.1=q∧es.find? (fun p=>p.1.1=q)=some p:=by
 obtain ⟨p,hp,rfl⟩:=List.mem_map.1 h
 cases hf:es.find? (fun x=>x.1.1=p.1.1) with
 | none=>exact absurd (List.find?_eq_none.1 hf p hp) (by simp)
 | some r=>exact ⟨r,List.mem_of_find?_eq_some hf,by simpa using List.find?_some hf,rfl⟩


theorem f1W {n ver:Nat} {es:List (KO × NE)} (h:i0G n ver (ab es)) (K:List Ky):i0G n ver (ab (f0P es K)):=by
 rw [d1P];refine ⟨by simp only [List.length_map];exact h.len,fun p hp=>?_⟩;obtain ⟨q,hq,rfl⟩:=List.mem_map.1 hp;have:=h.vers q hq;dsimp only
 split
 · simp only [frz];omega
 · omega
theorem g1O {es:List (KO × NE)}:∀p∈f0P es (risL (kyN es)),p.2.2.1.frz=true:=by
 intro p hp;obtain ⟨q,hq,rfl⟩:=List.mem_map.1 hp;have hm:q.1.1∈risL (kyN es):=(g0X _ _).2 (List.mem_map.2 ⟨q,hq,rfl⟩);dsimp only;rw [if_pos hm];rfl
theorem p1N {x:Nd} (h:x.frz=true) (fp:List Nat):mfp x fp=[]:=by
 unfold mfp;rw [if_pos h]
theorem e1B {T M:Nat} {es:List (KO × NE)} (h:∀p∈es,p.2.2.1.frz=true):∀r∈sfp T M es,r=T∨r=M:=by
 intro r hr;simp only [sfp,List.mem_cons] at hr
 rcases hr with rfl|rfl|hr
 · exact .inl rfl
 · exact .inr rfl
 · obtain ⟨p,hp,hr⟩:=d0S.1 hr
   rw [p1N (h p hp)] at hr
   cases hr
theorem m1A (es:List (KO × NE)) (K:List Ky) (q:Ky):i0H (f0P es K) q=i0H es q:=by
 unfold i0H f0P;rw [List.find?_map];simp only [Function.comp_def,Option.map_map]
theorem d0G.lt {α:Type} {P:Nat→Prop} {n:Nat} {f:α→List Value} {w:World} {v:Value} {l:List α} (h:d0G P n f w v l):d0G (fun b=>P b∧b<w.heap.size) n f w v l:=by
 refine ⟨h.1,fun b o m c e hn=>⟨h.2 b o m c e hn,?_⟩⟩;obtain ⟨A,c2,rfl,hl,hx⟩:=h.1;obtain ⟨b2,o2,rfl,hb,-⟩:=hx hn;simp only [Value.slice.injEq,Option.some.injEq,Addr.mk.injEq,and_true] at e
 rw [←e.1.1];exact hb
def soE (l:List En):List Eo:=l.map fun x=>(x.1,some x.2)
theorem n0Q (l:List En):(soE l).length=l.length:=by simp [soE]
theorem row_so {w:World} {v:Value} {l:List En} (h:a0Q 3 enC w v l):a0Q 3 eoC w v (soE l):=by
 obtain ⟨A,c,rfl,hl,hc⟩:=h;refine ⟨A,c,by simp [soE],by simpa [soE] using hl,fun hp=>?_⟩;obtain ⟨b,o,rfl,hb,hx⟩:=hc (by simpa [soE] using hp);refine ⟨b,o,rfl,hb,fun k x hk j u hu=>?_⟩;simp only [soE,List.getElem?_map,Option.map_eq_some_iff] at hk
 obtain ⟨y,hy,rfl⟩:=hk;exact hx k y hy j u hu
theorem p1O (l:List En):c0Z (fun _=>true) (soE l)=l:=by
 induction l with
 | nil=>rfl
 | cons x m ih=>simp only [soE,List.map_cons,c0Z,if_true] at ih ⊢;rw [ih]
theorem w0J (l:List En) (k:Ky):(d0Q l).filter (fun x=>decide (x.1=k))=l.filter (fun x=>decide (x.1=k)):=by
 have hperm:(d0Q l).Perm l:=List.mergeSort_perm l _;have hsub:(l.filter (fun x=>decide (x.1=k))).Sublist (d0Q l):=by
  unfold d0Q;refine List.sublist_mergeSort ?_ ?_ ?_ List.filter_sublist
  · intro a b c h1 h2
    simp only [leS,ltE,Bool.not_eq_true'] at h1 h2 ⊢
    cases h3:ltK c.1 a.1 with
    | false=>rfl
    | true =>
      exfalso
      cases h4:ltK a.1 b.1 with
      | true=>rw [d0A h3 h4] at h2;cases h2
      | false=>rw [d0P h4 h1] at h3;rw [h3] at h2;cases h2
  · intro a b
    simp only [leS,ltE,Bool.or_eq_true,Bool.not_eq_true']
    cases h3:ltK b.1 a.1 with
    | false=>exact Or.inl rfl
    | true=>exact Or.inr (r0J h3)
  · rw [List.pairwise_filter]
    refine List.pairwise_of_forall (fun a b ha hb=>?_);simp only [decide_eq_true_eq] at ha hb
    simp only [leS,ltE,ha,hb,c0H]
    rfl
 have h2:=hsub.filter (fun x=>decide (x.1=k));rw [List.filter_filter] at h2;simp only [Bool.and_self] at h2
 exact (h2.eq_of_length (by rw [(hperm.filter _).length_eq])).symm
theorem l0O (l:List En) (k:Ky):c0W l k=((l.filter (fun x=>decide (x.1=k))).head?).map (·.2):=by
 unfold c0W;rw [List.head?_filter]
theorem c1G (l:List En) (k:Ky):c0W (d0Q l) k=c0W l k:=by
 rw [l0O,l0O,w0J]
theorem s0U (a b:List En) (k:Ky):c0W (a++b) k=(c0W a k).or (c0W b k):=by
 unfold c0W;rw [List.find?_append]
 cases List.find? (fun x=>decide (x.1=k)) a <;> rfl
theorem e1H (l:List En) (x:En):x∈d0Q l ↔ x∈l:=(List.mergeSort_perm l _).mem_iff
theorem r0N (C:Nat) (ep:Int) (l:List En) (w:World) (h:x0D w C ep l) :
 Calls Tryz.prog 39 #[.pointer (some ⟨C,0,none⟩)] w (jP w (.int .i64 ep)):=by
 obtain ⟨A,c,h1,h2⟩:=h;obtain ⟨a1,a2,a3⟩:=a0A jR h1;clear h1 h2
 go_enter Tryz.func39,Tryz.ntmps39
 go_wp2_with fail
 go_ret
 exact ⟨rfl,jR⟩
end
section
open Go.RowKit Go.Lib
def k0J (n:Nat):Value:=.agg #[.int .u64 ((n / 18446744073709551616:Nat):Int),.int .u64 ((n % 18446744073709551616:Nat):Int)]
theorem y0A {x k:Nat} (h:2 ^ (k+1) ∣ x):x ||| 2 ^ k=x+2 ^ k:=by
 obtain ⟨a,rfl⟩:=h;exact (Nat.two_pow_add_eq_or_of_lt (Nat.pow_lt_pow_right (by decide) (by omega)) a).symm
def xD (n i:Nat):Nat:=n * 2 ^ i % 340282366920938463463374607431768211456
def aD (n i:Nat):Nat:=n / 2 ^ (128 - i)
def rD (n d i:Nat):Nat:=aD n i % d
def qD (n d i:Nat):Nat:=aD n i / d * 2 ^ (128 - i)
def bD (n i:Nat):Nat:=(n.testBit (127 - i)).toNat
theorem bD_le (n i:Nat):bD n i≤1:=by unfold bD;cases n.testBit (127 - i) <;> simp
theorem h1K {n i:Nat} (hi:i<128):aD n (i+1)=2 * aD n i+bD n i:=by
 unfold aD bD;have h:=o1I n (127 - i);rw [show 127 - i+1=128 - i by omega] at h;rw [show 128 - (i+1)=127 - i by omega];exact h
theorem o1C:(340282366920938463463374607431768211456:Nat)=2 ^ 128:=by decide
theorem xD_bit {n i:Nat} (hi:i<128):xD n i / 170141183460469231731687303715884105728=bD n i:=by
 unfold xD bD;rw [i1G];have e:(170141183460469231731687303715884105728:Nat)=2 ^ i * 2 ^ (127 - i):=by rw [←Nat.pow_add,show i+(127 - i)=127 by omega]
 have e2:(340282366920938463463374607431768211456:Nat)=170141183460469231731687303715884105728 * 2:=by decide
 rw [e2,Nat.mod_mul_right_div_self,e,←Nat.div_div_eq_div_mul,Nat.mul_div_cancel _ (Nat.two_pow_pos i)]
theorem p1M (n i:Nat):xD n (i+1)=2 * xD n i % 340282366920938463463374607431768211456:=by
 unfold xD;rw [Nat.pow_succ,←Nat.mul_assoc];generalize n * 2 ^ i=y;omega
theorem xD_lt (n i:Nat):xD n i<340282366920938463463374607431768211456:=Nat.mod_lt _ (by decide)
theorem rD_lt {n d i:Nat} (hd:0<d):rD n d i<d:=Nat.mod_lt _ hd
theorem p1G {n d i:Nat} (hi:i<128) (hd:0<d) (h:2 * rD n d i+bD n i<d):rD n d (i+1)=2 * rD n d i+bD n i∧qD n d (i+1)=qD n d i:=by
 unfold rD qD at *;rw [h1K hi];have hm:=Nat.div_add_mod (aD n i) d;generalize aD n i / d=k at *;generalize aD n i % d=r at *;have e:2 * aD n i+bD n i=d * (2 * k)+(2 * r+bD n i):=by rw [←hm,Nat.mul_left_comm];omega
 rw [e,Nat.mul_add_mod,Nat.mod_eq_of_lt h,Nat.mul_add_div hd,Nat.div_eq_of_lt h];refine ⟨rfl,?_⟩;rw [show 128 - i=128 - (i+1)+1 by omega,Nat.pow_succ,Nat.add_zero,Nat.mul_comm 2 k,Nat.mul_assoc,Nat.mul_comm 2]
theorem j1F {n d i:Nat} (hi:i<128) (hd:0<d) (h:d≤2 * rD n d i+bD n i):rD n d (i+1)=2 * rD n d i+bD n i - d∧qD n d (i+1)=qD n d i+2 ^ (127 - i):=by
 have hr:=rD_lt (n:=n) (i:=i) hd;have hb:=bD_le n i;unfold rD qD at *;rw [h1K hi];have hm:=Nat.div_add_mod (aD n i) d;generalize aD n i / d=k at *;generalize aD n i % d=r at *;have e:2 * aD n i+bD n i=d * (2 * k+1)+(2 * r+bD n i - d):=by
  have e1:d * (2 * k+1)=2 * (d * k)+d:=by rw [Nat.mul_add,Nat.mul_one,Nat.mul_left_comm]
  rw [←hm,e1];omega
 have hlt:2 * r+bD n i - d<d:=by omega
 rw [e,Nat.mul_add_mod,Nat.mod_eq_of_lt hlt,Nat.mul_add_div hd,Nat.div_eq_of_lt hlt];refine ⟨rfl,?_⟩;rw [show 128 - i=128 - (i+1)+1 by omega,Nat.pow_succ,Nat.add_zero,Nat.add_mul,Nat.one_mul,show 128 - (i+1)=127 - i by omega,Nat.mul_comm 2 k,Nat.mul_assoc,Nat.mul_comm 2]
theorem n1Z (n d i:Nat):2 ^ (128 - i) ∣ qD n d i:=Nat.dvd_mul_left _ _
theorem p1J {n d:Nat} (hn:n<340282366920938463463374607431768211456):qD n d 0=0∧rD n d 0=0∧xD n 0=n:=by
 have h:n / 340282366920938463463374607431768211456=0:=Nat.div_eq_of_lt hn;refine ⟨?_,?_,?_⟩
 · unfold qD aD;rw [Nat.sub_zero,←o1C,h,Nat.zero_div,Nat.zero_mul]
 · unfold rD aD;rw [Nat.sub_zero,←o1C,h,Nat.zero_mod]
 · unfold xD;rw [Nat.pow_zero,Nat.mul_one,Nat.mod_eq_of_lt hn]
theorem qD_end (n d:Nat):qD n d 128=n / d∧rD n d 128=n % d:=by
 unfold qD rD aD;simp
theorem qD_lt {n d i:Nat} (hn:n<340282366920938463463374607431768211456) (hi:i≤128):qD n d i<340282366920938463463374607431768211456:=by
 unfold qD aD;have h1:=Nat.div_le_self (n / 2 ^ (128 - i)) d;have h2:=Nat.mul_le_mul_right (2 ^ (128 - i)) h1;have h3:=Nat.div_mul_le_self n (2 ^ (128 - i));omega
theorem q_hi {n d i:Nat} (hi:i<64) (hn:n<340282366920938463463374607431768211456) :
 (qD n d i+2 ^ (127 - i)) / 18446744073709551616=(qD n d i / 18446744073709551616 ||| 2 ^ (63 - i))∧(qD n d i+2 ^ (127 - i)) % 18446744073709551616=qD n d i % 18446744073709551616:=by
 obtain ⟨m,hm⟩:=n1Z n d i;have e1:2 ^ (127 - i)=18446744073709551616 * 2 ^ (63 - i):=by
  rw [show 127 - i=64+(63 - i) by omega,Nat.pow_add]
 have e2:2 ^ (128 - i)=18446744073709551616 * 2 ^ (63 - i+1):=by
  rw [show 128 - i=64+(63 - i+1) by omega,Nat.pow_add]
 have e3:qD n d i / 18446744073709551616=2 ^ (63 - i+1) * m:=by
  rw [hm,e2,Nat.mul_assoc,Nat.mul_div_cancel_left _ (by decide)]
 constructor
 · rw [e3,y0A (Nat.dvd_mul_right _ _),hm,e1,e2,Nat.mul_assoc,←Nat.mul_add,Nat.mul_div_cancel_left _ (by decide)]
 · rw [e1,Nat.add_mul_mod_self_left]
theorem q_lo {n d i:Nat} (h64:64≤i) (hi:i<128) :
 (qD n d i+2 ^ (127 - i)) / 18446744073709551616=qD n d i / 18446744073709551616∧(qD n d i+2 ^ (127 - i)) % 18446744073709551616=(qD n d i % 18446744073709551616 ||| 2 ^ (127 - i)):=by
 have hd:2 ^ (128 - i) ∣ qD n d i % 18446744073709551616:=by
  rw [Nat.dvd_mod_iff]
  · exact n1Z n d i
  · rw [show (18446744073709551616:Nat)=2 ^ 64 by decide]
    exact Nat.pow_dvd_pow 2 (by omega)
 have ho:(qD n d i % 18446744073709551616 ||| 2 ^ (127 - i))=qD n d i % 18446744073709551616+2 ^ (127 - i):=y0A (by rw [show 127 - i+1=128 - i by omega];exact hd);have hlt:qD n d i % 18446744073709551616+2 ^ (127 - i)<18446744073709551616:=by
  obtain ⟨m,hm⟩:=hd;have hx:=Nat.mod_lt (qD n d i) (show 0<18446744073709551616 by decide);have e:18446744073709551616=2 ^ (128 - i) * 2 ^ (i - 64):=by rw [←Nat.pow_add,show 128 - i+(i - 64)=64 by omega]
  have e1:2 ^ (128 - i)=2 * 2 ^ (127 - i):=by rw [show 128 - i=127 - i+1 by omega,Nat.pow_succ,Nat.mul_comm]
  have hp:=Nat.two_pow_pos (127 - i);rw [hm] at hx ⊢;have hm2:m<2 ^ (i - 64):=by
   rw [e] at hx;exact Nat.lt_of_mul_lt_mul_left hx
  have hm3:2 ^ (128 - i) * (m+1)≤2 ^ (128 - i) * 2 ^ (i - 64):=Nat.mul_le_mul_left _ hm2;rw [Nat.mul_add,Nat.mul_one,←e] at hm3;omega
 rw [ho];generalize qD n d i=q at *;generalize 2 ^ (127 - i)=p at *;omega
theorem h1A (x:Nat) (hx:x<340282366920938463463374607431768211456) :
 (2 * x % 340282366920938463463374607431768211456) / 18446744073709551616=2 * (x / 18446744073709551616) % 18446744073709551616+x % 18446744073709551616 / 9223372036854775808 ∧
 (2 * x % 340282366920938463463374607431768211456) % 18446744073709551616=2 * (x % 18446744073709551616) % 18446744073709551616∧x / 18446744073709551616 / 9223372036854775808=x / 170141183460469231731687303715884105728:=by
 omega
end
end Go.Proofs.YtmniiodpbebnmaaGreat
