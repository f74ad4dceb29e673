/- Part 32 of the proof: W21A, W21B. -/
import Derived.Test.YtkcdhaallnhhmaaGreatQ21
namespace Go.Proofs.YtkcdhaallnhhmaaGreat
set_option linter.unusedSimpArgs false
set_option linter.unusedVariables false
set_option linter.unusedSectionVars false
set_option maxRecDepth 100000
set_option maxHeartbeats 16000000
section
open Go.RowKit Go.Lib
theorem flat_take {α β:Type} (f:α→List β) (l:List α) (k:Nat):((l.take k).map f).flatten.length≤(l.map f).flatten.length:=by
 have h:(l.map f).flatten=((l.take k).map f).flatten++((l.drop k).map f).flatten:=by
  rw [←List.flatten_append,←List.map_append,List.take_append_drop]
 rw [h,List.length_append];omega
theorem all21_any (P:Nat→Prop) (c:Cfg) (x:WdH) (w:World) (hP:∀b,w.heap.size≤b→P b) (hx:WdIn P w x) (hl:x.st.length≤64) (hn:(allX x).length≤1000000) :
 Calls Tryz.prog 103 #[.agg (wdC c x).toArray] w (AllSays P w (allX x)):=by
 obtain ⟨sA,sc,st,cA,cc,cuts,ep,over⟩:=x;unfold allX at hn ⊢;dsimp only at hn hl ⊢;have HV:=jH (show RowIn 1 srC w (.slice sA st.length sc) st from hx.sr.1);have HI:=jH (show ∀s∈st,ItemsIn P w (.slice s.A s.l.length s.c) s.l from hx.it);have HP:=jH hP;have HN:=jH (fun k=>Nat.le_trans (flat_take (·.l) st k) hn);obtain ⟨L,hL⟩:∃L,L=(st.map (·.l)).flatten:=⟨_,rfl⟩;rw [←hL];have HL:=jH hL;clear hL;clear hx hP hn
 unfold wdC;dsimp only
 go_enter Tryz.func103,Tryz.ntmps103
 go_wp2_with fail
 refine name_world ?_;intro W hW;have HX0:=jH (show W.heap[w.heap.size]?=some (.cells #[.int .i64 c.st,.int .i64 c.sa,.int .i64 c.lo,.int .i64 c.hi,.slice sA st.length sc,.slice cA cuts.length cc,.int .i64 ep,.bool over] 32 (0,0)) by rw [hW];exact heap_alloc_new _ _);have HB0:=jH (show jB w W by rw [hW];exact balloc jR _);clear hW;go_wp2
 go_loopg [3,4] st.length (fun g s3 s4 wr=>∃k:Nat,k≤st.length∧st.length - k≤g∧s4=.int .i64 k∧OwnL itC 242 12 W.heap.size wr s3 ((st.take k).map (·.l)).flatten∧jB W wr)
 case atStart=>exact ⟨0,Nat.zero_le _,Nat.le_refl _,rfl,by rw [List.take_zero];exact OwnL.nil _ _,jR⟩
 case round =>
  obtain ⟨k,hk,hg,rfl,hown,hb⟩:=hrel;obtain ⟨A3,c3,rfl⟩:=hown.form;have HO:=jH hown;have HB:=jH hb;obtain ⟨a1,a2,a3,a4⟩:=box_at hb HX0.out;clear hown a4
  by_cases hlt:k<st.length
  · have z1:(k:Int)<(st.length:Int):=by omega
    have z2:(0:Int)≤(k:Int):=by omega
    have hbb:=bthen HB0.out hb;obtain ⟨b,o,rfl,hbw,hc⟩:=HV.out.at_ hlt;have c1:wr.cell? ⟨b,o+k,none⟩=some (.slice st[k].A st[k].l.length st[k].c):=by
     have:=(hbb.cell (p:=⟨b,o+k * 1+0,none⟩) hbw).trans (hc 0 _ rfl)
     simpa using this
    have HT:=jH (show ((st.take (k+1)).map (·.l)).flatten=((st.take k).map (·.l)).flatten++st[k].l by
     rw [List.take_succ_eq_append_getElem hlt,List.map_append,List.flatten_append];simp)
    have HIK:=jH ((HI.out _ (List.getElem_mem hlt)).1.1.below hbb);have HNK:=jH (HN.out (k+1));rw [HT.out,List.length_append] at HNK;clear hc hbb;generalize st[k]=y at c1 HT HIK HNK;generalize ((st.take k).map (·.l)).flatten=pre at HO HT HNK
    go_wp2_with (at_builtin;refine wpList_appendL eIt (by rfl) (by rfl) W.heap.size pre y.l _ _ (by rfl) (by rfl) HO.out HIK.out (by have:=HNK.out;omega) (by have:=HB.out.size;omega) ?_;intro out2 A2 c2' w2 hout2 hown2 hg2 _
                 have hb2:jB W w2:=HB.out.trans (grown_own hg2 HO.out (by have:=HB.out.size;omega));have HW2:=jH hown2;have HO2:=jH hout2;clear hown2 hout2 hg2)
    go_roundg (st.length - (k+1))
    case measure=>omega
    case rel=>exact ⟨k+1,hlt,Nat.le_refl _,by go_num,by rw [HT.out,←HO2.out];exact HW2.out,hb2⟩
  · obtain rfl:k=st.length:=by omega
    have e9:((st.take st.length).map (·.l)).flatten=L:=by rw [List.take_length];exact HL.out.symm
    rw [e9] at HO ⊢;clear e9;have z1:¬(st.length:Int)<(st.length:Int):=by omega
    have HF:=jH (show AllSays P w L (.returned (.slice A3 L.length c3)) wr from
     ⟨A3,c3,rfl,⟨(RowG.own eIt HO.out).imp (fun b hb'=>HP.out b (Nat.le_trans HB0.out.size hb')),fun z hz=>by
      rw [HL.out] at hz;obtain ⟨q,hq,hz2⟩:=List.mem_flatten.1 hz;obtain ⟨s,hs,rfl⟩:=List.mem_map.1 hq;exact ((HI.out s hs).2 z hz2).below (bthen HB0.out HB.out)⟩,bthen HB0.out HB.out⟩)
    go_wp2
    go_ret
    exact HF.out
def findX (l:List It) (k:Ky):Option It:=l.find? fun x=>decide (x.key=k)
theorem findX_append (l m:List It) (k:Ky):findX (l++m) k=(findX l k).or (findX m k):=List.find?_append ..
theorem findX_abs (l:List It) (k:Ky):(findX l k).map (·.nd)=findIt (l.map absI) k:=by
 unfold findX findIt;rw [List.find?_map,Option.map_map];rfl
theorem find21_any (v:Value) (l:List It) (k:Ky) (w:World) (hv:RowIn 12 itC w v l) (hl:l.length≤1000000) (hok:∀x∈l,x.key.ok) (hk:k.ok) :
 Calls Tryz.prog 102 #[v,.agg #[.int .u64 k.1,.int .u64 k.2]] w (jP w (.tuple #[.agg (loadC ((findX l k).getD it0)).toArray,.bool (findX l k).isSome])):=by
 obtain ⟨A,c,rfl⟩:=hv.form;have HV:=jH hv;have HOK:=jH hok;clear hv hok
 go_enter Tryz.func102,Tryz.ntmps102
 go_wp2_with fail
 refine name_world ?_;intro W hW;obtain ⟨k0,k1,hs,hb0⟩:=two_boxes w _ _ W hW;have HK0:=jH k0;have HK1:=jH k1;have HB0:=jH hb0;clear hW k0 k1 hs hb0;go_wp2
 go_loopg [6] l.length (fun g s6 wr=>∃i:Nat,i≤l.length∧l.length - i≤g∧s6=.int .i64 i∧Hid (findX (l.take i) k=none)∧jB W wr)
 case atStart=>exact ⟨0,Nat.zero_le _,Nat.le_refl _,rfl,jH rfl,jR⟩
 case round =>
  obtain ⟨i,hi,hg,rfl,HNO,hb⟩:=hrel;rename World=>wr
  have HB:=jH hb;have HBB:=jH (bthen HB0.out hb);obtain ⟨a1,a2,a3,a4⟩:=box_at hb HK0.out;have HR4:=jH (jK hb HK1.out);obtain ⟨b1,b2,b3⟩:=box_cells jR HR4.out;clear hb a4
  by_cases hlt:i<l.length
  · have z1:(i:Int)<(l.length:Int):=by omega
    have z2:(0:Int)≤(i:Int):=by omega
    obtain ⟨b,o,rfl,hbw,hc⟩:=HV.out.at_ hlt;have HDR:=jH (show l=l.take i++l[i]::l.drop (i+1) by rw [List.getElem_cons_drop hlt,List.take_append_drop]);have HXE:=jH (show ∀q,findX [l[i]] q=if decide (l[i].key=q)=true then some l[i] else none from fun q=>by unfold findX;rw [List.find?_cons];cases decide (l[i].key=q) <;> rfl);have hyok:=HOK.out _ (List.getElem_mem hlt);have HC:=jH (show ∀j u,(itC l[i])[j]?=some u→w.cell? ⟨b,o+i * 12+j,none⟩=some u from hc)
    have HTK:=jH (List.take_succ_eq_append_getElem hlt);generalize l[i]=x at HC HDR HXE hyok HTK;have c0:wr.cell? ⟨b,o+i * 12,none⟩=some (.int .u64 x.key.1):=(HBB.out.cell (p:=⟨b,_,none⟩) hbw).trans (HC.out 0 _ rfl);have c1:wr.cell? ⟨b,o+i * 12+1,none⟩=some (.int .u64 x.key.2):=(HBB.out.cell (p:=⟨b,_,none⟩) hbw).trans (HC.out 1 _ rfl);have HNXT:=jH (show ¬x.key=k→findX (l.take (i+1)) k=none from fun hne=>by
     rw [HTK.out,findX_append,HNO.out,HXE.out,if_neg (by simpa using hne)];rfl)
    clear hc
    by_cases hkk:x.key=k
    · have HKE:=jH hkk
      have e1:x.key.1=k.1:=by rw [hkk]
      have e2:x.key.2=k.2:=by rw [hkk]
      rw [e1] at c0;rw [e2] at c1;clear hkk e1 e2;have HFX:=jH (show findX l k=some x by
       have h9:=HNO.out;rw [HDR.out,findX_append,h9,Option.none_or];unfold findX;rw [List.find?_cons,decide_eq_true HKE.out])
      go_wp2_with fail
      go_quiet (fail)
      refine then_named ?_;intro W3 hW3;have hh3:W3.heap=wr.heap:=by rw [hW3];rfl
      have hb3:jB w W3:=by rw [hW3];first|exact HBB.out|exact HBB.out.drew|exact below_drewN HBB.out _
      have HR3:=jH ((show W3.heap[w.heap.size+1]?=wr.heap[w.heap.size+1]? by rw [hh3]).trans HR4.out);clear hW3 hh3 b1 b2 b3 c0 c1 a1 a2 a3;obtain ⟨b1,b2,b3⟩:=box_cells jR HR3.out;have q0:W3.cell? ⟨b,o+i * 12+2,none⟩=some (.slice x.sA x.nd.smp.length x.sc):=(hb3.cell (p:=⟨b,_,none⟩) hbw).trans (HC.out 2 _ rfl);have q1:W3.cell? ⟨b,o+i * 12+3,none⟩=some (.slice x.pA x.nd.past.length x.pc):=(hb3.cell (p:=⟨b,_,none⟩) hbw).trans (HC.out 3 _ rfl)
      have q2:W3.cell? ⟨b,o+i * 12+4,none⟩=some (.int .i64 x.nd.pol.mn):=(hb3.cell (p:=⟨b,_,none⟩) hbw).trans (HC.out 4 _ rfl);have q3:W3.cell? ⟨b,o+i * 12+5,none⟩=some (.int .i64 x.nd.pol.mx):=(hb3.cell (p:=⟨b,_,none⟩) hbw).trans (HC.out 5 _ rfl);have q4:W3.cell? ⟨b,o+i * 12+6,none⟩=some (.int .i64 x.nd.pol.tg):=(hb3.cell (p:=⟨b,_,none⟩) hbw).trans (HC.out 6 _ rfl);have q5:W3.cell? ⟨b,o+i * 12+7,none⟩=some (.int .i64 x.nd.pol.tol):=(hb3.cell (p:=⟨b,_,none⟩) hbw).trans (HC.out 7 _ rfl)
      have q6:W3.cell? ⟨b,o+i * 12+8,none⟩=some (.int .i64 x.nd.pol.win):=(hb3.cell (p:=⟨b,_,none⟩) hbw).trans (HC.out 8 _ rfl);have q7:W3.cell? ⟨b,o+i * 12+9,none⟩=some (.int .i64 x.nd.pol.hold):=(hb3.cell (p:=⟨b,_,none⟩) hbw).trans (HC.out 9 _ rfl);have q8:W3.cell? ⟨b,o+i * 12+10,none⟩=some (.bool x.nd.ruled):=(hb3.cell (p:=⟨b,_,none⟩) hbw).trans (HC.out 10 _ rfl);have q9:W3.cell? ⟨b,o+i * 12+11,none⟩=some (.int .i64 (x.nd.ver:Nat)):=(hb3.cell (p:=⟨b,_,none⟩) hbw).trans (HC.out 11 _ rfl)
      go_wp2
      refine post_named ?_;intro W4 hW4;obtain ⟨h4,h5,h6,h7⟩:=set10 HR3.out _ _ _ _ _ _ _ _ _ _ W4 hW4;obtain ⟨d1,d2,d3⟩:=box_cells jR h4;have hb4:=hb3.trans (h7 w.heap.size (by omega));clear hW4;exact bodyPost_ret (v:=.tuple #[.agg #[.slice x.sA x.nd.smp.length x.sc,.slice x.pA x.nd.past.length x.pc,.int .i64 x.nd.pol.mn,.int .i64 x.nd.pol.mx,.int .i64 x.nd.pol.tg,.int .i64 x.nd.pol.tol,.int .i64 x.nd.pol.win,.int .i64 x.nd.pol.hold,.bool x.nd.ruled,.int .i64 (x.nd.ver:Nat)],.bool true]) (by simp [results,Tryz.results102,go_sem,d1]) rfl ⟨by rw [HFX.out];rfl,hb4⟩
    · by_cases h1:x.key.1=k.1
      · have hh:((x.key.2:Int) == (k.2:Int))=false:=by
         have:x.key.2≠k.2:=fun h2=>hkk (Prod.ext h1 h2)
         simp;omega
        have HNX:=jH (HNXT.out hkk);rw [h1] at c0;clear hkk h1 HNXT;go_wp2_with fail
        go_quiet (fail)
        go_wp2
        go_roundg (l.length - (i+1))
        case measure=>omega
        case rel=>exact ⟨i+1,hlt,Nat.le_refl _,by go_num,HNX,by repeat (first|exact HB.out|refine below_drewN ?_ _|refine Below.drew ?_)⟩
      · have hh:((x.key.1:Int) == (k.1:Int))=false:=by simp;omega
        have HNX:=jH (HNXT.out hkk);clear hkk h1 HNXT;go_wp2_with fail
        go_quiet (fail)
        go_wp2
        go_roundg (l.length - (i+1))
        case measure=>omega
        case rel=>exact ⟨i+1,hlt,Nat.le_refl _,by go_num,HNX,by repeat (first|exact HB.out|refine below_drewN ?_ _|refine Below.drew ?_)⟩
  · obtain rfl:i=l.length:=by omega
    rw [List.take_length] at HNO;have z1:¬(l.length:Int)<(l.length:Int):=by omega
    go_wp2
    refine post_named ?_;intro W4 hW4;obtain ⟨h4,h5,h6,h7⟩:=set10 HR4.out _ _ _ _ _ _ _ _ _ _ W4 hW4;obtain ⟨d1,d2,d3⟩:=box_cells jR h4;have hb4:=HBB.out.trans (h7 w.heap.size (by omega));clear hW4;exact bodyPost_ret (v:=.tuple #[.agg #[.slice none 0 0,.slice none 0 0,.int .i64 0,.int .i64 0,.int .i64 0,.int .i64 0,.int .i64 0,.int .i64 0,.bool false,.int .i64 0],.bool false]) (by simp [results,Tryz.results102,go_sem,d1]) rfl ⟨by rw [HNO.out];rfl,hb4⟩
end
section
open Go.RowKit Go.Lib
theorem refKeyK_any (s:ByteArray) (w:World) (hm:s.size≤maxLen) :
 Calls Tryz.prog 104 #[.string s] w (jP w (.agg #[.int .u64 (keyK s).1,.int .u64 (keyK s).2])):=by
 cases hid:idS s with
 | true =>
   have e:keyK s=(hiN s.data.toList,loN s.data.toList):=by unfold keyK;rw [if_pos hid]
   rw [e];exact refKey_any s w hm hid
 | false =>
   have e:keyK s=(0,0):=by unfold keyK;rw [if_neg (by rw [hid];simp)]
   rw [e];have HID:=jH hid;clear hid e
   go_enter Tryz.func104,Tryz.ntmps104
   go_wp2_with (go_at_call 101;refine (id_any _ _ hm).mono ?_;rw [HID.out];rintro e w' ⟨rfl,rfl⟩)
   exact bodyPost_ret (v:=.agg #[.int .u64 0,.int .u64 0]) (by simp [results,Tryz.results104,go_sem]) rfl ⟨rfl,by repeat (first|exact jR|refine balloc ?_ _|refine Below.setCell ?_ (by simp) _)⟩
def loadX (x:WdH) (id:ByteArray):Option It:=findX (allX x) (keyK id)
theorem loadX_abs (x:WdH) (id:ByteArray):(loadX x id).map (·.nd)=loadW (absW x) id:=by
 unfold loadX loadW;rw [←allX_abs,findX_abs]
theorem allX_mem {x:WdH} {z:It} (h:z∈allX x):∃s∈x.st,z∈s.l:=by
 obtain ⟨q,hq,hz⟩:=List.mem_flatten.1 h;obtain ⟨s,hs,rfl⟩:=List.mem_map.1 hq;exact ⟨s,hs,hz⟩
theorem loadX_in {P:Nat→Prop} {w:World} {x:WdH} {id:ByteArray} {y:It} (hx:WdIn P w x) (h:loadX x id=some y):LoadIn P w y∧y∈allX x:=by
 have hm:=List.mem_of_find?_eq_some h;obtain ⟨s,hs,hz⟩:=allX_mem hm;exact ⟨(hx.it s hs).2 y hz,hm⟩
theorem load21_any (P:Nat→Prop) (c:Cfg) (x:WdH) (id:ByteArray) (w:World) (hP:∀b,w.heap.size≤b→P b) (hx:WdIn P w x) (hl:x.st.length≤64) (hn:(allX x).length≤1000000) (hok:∀z∈allX x,z.key.ok) (hm:id.size≤maxLen) :
 Calls Tryz.prog 57 #[.agg (wdC c x).toArray,.string id] w (jP w (.tuple #[.agg (loadC ((loadX x id).getD it0)).toArray,.bool (loadX x id).isSome])):=by
 have CA:=jH (fun (W:World) (hW:jB w W)=>show Calls Tryz.prog 103 #[.agg #[.int .i64 c.st,.int .i64 c.sa,.int .i64 c.lo,.int .i64 c.hi,.slice x.sA x.st.length x.sc,.slice x.cA x.cuts.length x.cc,.int .i64 x.ep,.bool x.over]] W (AllSays P W (allX x)) from all21_any P c x W (fun b hb=>hP b (Nat.le_trans hW.size hb)) (hx.below hW) hl hn);have CK:=jH (fun W=>refKeyK_any id W hm);have CF:=jH (fun (W:World) (A:Option Addr) (cc:Nat) (h:RowIn 12 itC W (.slice A (allX x).length cc) (allX x))=>find21_any _ (allX x) (keyK id) W h hn hok (keyK_ok id))
 unfold loadX;generalize allX x=l at CA CF ⊢;generalize keyK id=k at CK CF ⊢;generalize (findX l k).isSome=fb at CF ⊢;generalize (findX l k).getD it0=y at CF ⊢;have CF2:=jH (fun (W:World) (A:Option Addr) (cc:Nat) (h:RowIn 12 itC W (.slice A l.length cc) l)=>show Calls Tryz.prog 102 #[.slice A l.length cc,.agg #[.int .u64 k.1,.int .u64 k.2]] W (jP W (.tuple #[.agg #[.slice y.sA y.nd.smp.length y.sc,.slice y.pA y.nd.past.length y.pc,.int .i64 y.nd.pol.mn,.int .i64 y.nd.pol.mx,.int .i64 y.nd.pol.tg,.int .i64 y.nd.pol.tol,.int .i64 y.nd.pol.win,.int .i64 y.nd.pol.hold,.bool y.nd.ruled,.int .i64 (y.nd.ver:Nat)],.bool fb])) from CF.out W A cc h)
 clear CF hP hx hl hn hok hm;unfold wdC
 go_enter Tryz.func57,Tryz.ntmps57
 go_wp2_with (first
  | (go_at_call 103
     refine calls_named ?_;intro W1 hW1;obtain ⟨k0,k1,hs,hb⟩:=two_boxes w _ _ W1 hW1;clear hW1;refine (CA.out W1 hb).mono ?_;rintro e w2 ⟨A3,c3,rfl,hit,hb2⟩;have HI2:=jH hit.1.1;have HY2:=jH (jK hb2 k1);have HB2:=jH (bthen hb hb2);clear k0 k1 hs hb hb2 hit)
  | (go_at_call 104
     refine (CK.out w2).mono ?_;rintro e w3 ⟨rfl,hb3⟩;have HI3:=jH (HI2.out.below hb3);have HY3:=jH (jK hb3 HY2.out);have HB3:=jH (bthen HB2.out hb3);clear hb3)
  | (go_at_call 102
     refine (CF2.out w3 A3 c3 HI3.out).mono ?_;rintro e w4 ⟨rfl,hb4⟩;have HY4:=jH (jK hb4 HY3.out);have HB4:=jH (bthen HB3.out hb4);obtain ⟨b1,b2,b3⟩:=box_cells jR HY4.out;clear hb4))
 refine post_named ?_;intro W4 hW4;obtain ⟨h4,h5,h6,h7⟩:=set10 HY4.out _ _ _ _ _ _ _ _ _ _ W4 hW4;obtain ⟨d1,d2,d3⟩:=box_cells jR h4;have hb5:=HB4.out.trans (h7 w.heap.size (by omega));clear hW4;exact bodyPost_ret (v:=.tuple #[.agg (loadC y).toArray,.bool fb]) (by simp [results,Tryz.results57,go_sem,loadC,d1]) rfl ⟨rfl,hb5⟩
end
end Go.Proofs.YtkcdhaallnhhmaaGreat
