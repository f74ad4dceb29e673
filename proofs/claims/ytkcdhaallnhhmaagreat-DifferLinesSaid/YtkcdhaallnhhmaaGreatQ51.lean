/- Part 51 of the proof: FlTx, DfLine, DfLines, DfP, DfRef. -/
import Derived.Test.YtkcdhaallnhhmaaGreatQ43
import Derived.Test.YtkcdhaallnhhmaaGreatQ48
import Derived.Test.YtkcdhaallnhhmaaGreatQ50
namespace Go.Proofs.YtkcdhaallnhhmaaGreat
set_option linter.unusedSimpArgs false
set_option linter.unusedVariables false
set_option linter.unusedSectionVars false
set_option maxRecDepth 100000
set_option maxHeartbeats 16000000
section
open Go.RowKit Go.Lib
theorem texts22_any (v u:Value) (l:List ByteArray) (w:World) (hv:RowIn 1 idC w v l) (hu:RowIn 1 idC w u l) (hl:l.length≤1000000) :
 Calls Tryz.prog 17 #[v,u] w (jP w (.bool true)):=by
 obtain ⟨A,c,rfl,_,h0⟩:=id hv;obtain ⟨B,d,rfl,_,h1⟩:=id hu;clear h0 h1;have HV:=jH hv;have HU:=jH hu;have q0:(l.length:Int)≤1000000:=by omega
 clear hv hu hl
 go_enter Tryz.func17,Tryz.ntmps17
 go_wp2
 go_loopg [5] l.length (fun g s5 wr=>∃k n:Nat,k≤l.length∧l.length - k≤g∧s5=.int .i64 k∧wr=w.drewN n)
 case atStart=>exact ⟨0,0,Nat.zero_le _,Nat.le_refl _,rfl,rfl⟩
 case round =>
  obtain ⟨k,n,hk,hg,rfl,rfl⟩:=hrel
  by_cases hlt:k<l.length
  · obtain ⟨b1,o1,rfl,hb1,c1⟩:=HV.out.at_ hlt
    obtain ⟨b2,o2,rfl,hb2,c2⟩:=HU.out.at_ hlt;have c1:=c1 0 _ rfl;have c2:=c2 0 _ rfl;rw [Nat.add_zero,Nat.mul_one] at c1 c2;generalize l[k]=x at c1 c2;go_wp2_with fail
    go_quiet (fail)
    go_wp2
    go_roundg (l.length - (k+1))
    case measure=>omega
    case rel=>exact ⟨k+1,_,hlt,Nat.le_refl _,by go_num,rfl⟩
  · obtain rfl:k=l.length:=by omega
    go_wp2
    go_ret
    exact ⟨rfl,below_drewN jR _⟩
end
section
open Go.RowKit Go.Lib
def spS:ByteArray:=⟨#[32]⟩
def sumW (ws:List ByteArray):ByteArray:=ws.foldl (fun o p=>o++(spS++p)) ⟨#[]⟩
theorem sumW_snoc (ws:List ByteArray) (p:ByteArray):sumW (ws++[p])=sumW ws++(spS++p):=by unfold sumW;rw [List.foldl_append];rfl
theorem bsize_append (a b:ByteArray):(a++b).size=a.size+b.size:=by simp
theorem sumW_size (ws:List ByteArray) (h:∀p∈ws,p.size≤7):(sumW ws).size≤8 * ws.length:=by
 have hg:∀(ws:List ByteArray) (o:ByteArray),(∀p∈ws,p.size≤7)→(ws.foldl (fun o p=>o++(spS++p)) o).size≤o.size+8 * ws.length:=by
  intro ws
  induction ws with
  | nil=>intro o _;simp
  | cons p ws ih =>
    intro o hp;have h1:=ih (o++(spS++p)) (fun q hq=>hp q (List.mem_cons_of_mem _ hq));have h2:=hp p (List.mem_cons_self ..);rw [bsize_append,bsize_append] at h1;have h3:spS.size=1:=rfl;rw [List.foldl_cons,List.length_cons];omega
 have:=hg ws ⟨#[]⟩ h;have h0:(⟨#[]⟩:ByteArray).size=0:=rfl;unfold sumW;omega
theorem parts_word (s r p:Bool):∀q∈partsB s r p,q.size≤7:=by
 intro q hq;unfold partsB at hq;simp only [List.mem_append] at hq
 rcases hq with h|h|h
 · cases s with
   | true=>simp at h
   | false=>simp at h;subst h;decide
 · cases r with
   | true=>simp at h
   | false=>simp at h;subst h;decide
 · cases p with
   | true=>simp at h
   | false=>simp at h;subst h;decide
theorem parts_len (s r p:Bool):(partsB s r p).length≤3:=by cases s <;> cases r <;> cases p <;> decide
def lineS (s:ByteArray) (xa xb:Option Nd):ByteArray :=
 match xa.isSome,xb.isSome with
 | true,false=>(⟨#[45,32]⟩:ByteArray)++s
 | false,true=>(⟨#[43,32]⟩:ByteArray)++s
 | _,_=>if (partsN (xa.getD nd0) (xb.getD nd0))=[] then ⟨#[]⟩ else ((⟨#[126,32]⟩:ByteArray)++s)++sumW (partsN (xa.getD nd0) (xb.getD nd0))
theorem sumW_ne {ws:List ByteArray} (h:ws≠[]):(sumW ws).size≠0:=by
 rcases List.eq_nil_or_concat ws with h0|⟨l,p,h0⟩
 · exact absurd h0 h
 · have h0:ws=l++[p]:=by simpa using h0
   rw [h0,sumW_snoc,bsize_append,bsize_append];have:spS.size=1:=rfl;omega
theorem eqE (s:ByteArray) (h:s.size≠0):(s.toList == [])=false:=by
 rw [ByteArray.toList_eq]
 cases hs:s.data.toList with
 | nil =>
   exact absurd (show s.size=0 from by show s.data.size=0;rw [←Array.length_toList,hs];rfl) h
 | cons a l=>rfl
theorem line_core (s:ByteArray) (xa xb:Option It) (M1 M2:Nat) (w:World)
    (CA0:∀W,jB w W→Calls Tryz.prog 88 #[.pointer (some ⟨M1,0,none⟩),.string s] W (LoadS W xa))
    (CB0:∀W,jB w W→Calls Tryz.prog 88 #[.pointer (some ⟨M2,0,none⟩),.string s] W (LoadS W xb))
    (hs:s.size≤1000) (ha:(xa.getD it00).nd.smp.length≤1000000∧(xa.getD it00).nd.past.length≤1000000) (hb:(xb.getD it00).nd.smp.length≤1000000∧(xb.getD it00).nd.past.length≤1000000) :
    Calls Tryz.prog 54 #[.string s,.pointer (some ⟨M1,0,none⟩),.pointer (some ⟨M2,0,none⟩)] w (jP w (.string (lineS s (xa.map (·.nd)) (xb.map (·.nd))))):=by
  have CA:=jH CA0;have CB:=jH CB0;have HS:=jH hs;have HLA:=jH ha;have HLB:=jH hb;obtain ⟨ia,hia⟩:∃r,r=xa.isSome:=⟨_,rfl⟩;obtain ⟨ib,hib⟩:∃r,r=xb.isSome:=⟨_,rfl⟩;obtain ⟨na,hna⟩:∃r,r=(xa.getD it00).nd:=⟨_,rfl⟩;obtain ⟨nb,hnb⟩:∃r,r=(xb.getD it00).nd:=⟨_,rfl⟩;obtain ⟨ans,hans⟩:∃r,r=lineS s (xa.map (·.nd)) (xb.map (·.nd)):=⟨_,rfl⟩;have hga:(xa.map (·.nd)).getD nd0=na:=by rw [hna];cases xa <;> rfl
  have hgb:(xb.map (·.nd)).getD nd0=nb:=by rw [hnb];cases xb <;> rfl
  have hma:(xa.map (·.nd)).isSome=ia:=by rw [hia];cases xa <;> rfl
  have hmb:(xb.map (·.nd)).isSome=ib:=by rw [hib];cases xb <;> rfl
  have HANS:=jH (show ans=match ia,ib with
   | true,false=>(⟨#[45,32]⟩:ByteArray)++s
   | false,true=>(⟨#[43,32]⟩:ByteArray)++s
   | _,_=>if (partsN na nb)=[] then ⟨#[]⟩ else ((⟨#[126,32]⟩:ByteArray)++s)++sumW (partsN na nb) by rw [hans];unfold lineS;rw [hma,hmb,hga,hgb])
  rw [←hans];unfold LoadS at CA CB;rw [←hia,←hna] at CA;rw [←hib,←hnb] at CB;rw [←hna] at HLA;rw [←hnb] at HLB;clear CA0 CB0 hs ha hb hia hib hna hnb hans hga hgb hma hmb
  go_enter Tryz.func54,Tryz.ntmps54
  go_upto_region 3 with (first
   | (go_at_call 88
      have h9:=HN1;refine calls_named ?_;intro W2 hW2;have hb2:jB w1 W2:=by rw [hW2];exact balloc jR _
      have HX2:=jH (show W2.heap[w1.heap.size]?=some (.cells (ldC y1).toArray 50 (0,0)) by rw [hW2];exact heap_alloc_new _ _);have HB2:=jH (bthen HB1.out hb2);have HO2:=jH (show LoadOwn w.heap.size W2 y1 from ⟨HO1.out.1.below hb2,HO1.out.2.below hb2⟩);clear hW2 h9;refine (CB.out W2 HB2.out).mono ?_;rintro e w3 ⟨y2,rfl,hn2,ho2,hb3⟩;unfold ldV ldC;have HN2:=jH hn2;have HO3:=jH ho2;have HX3:=jH (jK hb3 HX2.out)
      have HB3:=jH (bthen HB2.out hb3);have HP3:=jH (show LoadOwn w.heap.size w3 y1 from ⟨HO2.out.1.below hb3,HO2.out.2.below hb3⟩);have HSZ:=jH (show w.heap.size≤W2.heap.size from HB2.out.size);clear hn2 ho2 hb3 hb2)
   | (go_at_call 88
      refine (CA.out w jR).mono ?_;rintro e w1 ⟨y1,rfl,hn1,ho1,hb1⟩;unfold ldV ldC;have HN1:=jH hn1;have HO1:=jH ho1;have HB1:=jH hb1;clear hn1 ho1 hb1))
  refine name_world ?_;intro W4 hW4;have hb4:jB w3 W4:=by rw [hW4];exact balloc jR _
  have HX5:=jH (show W4.heap[w3.heap.size]?=some (.cells (ldC y2).toArray 50 (0,0)) by rw [hW4];exact heap_alloc_new _ _);have HX4:=jH (jK hb4 HX3.out);have HB4:=jH (bthen HB3.out hb4);have HQ1:=jH (show LoadOwn w.heap.size W4 y1 from ⟨HP3.out.1.below hb4,HP3.out.2.below hb4⟩);have HQ2:=jH (show LoadOwn W2.heap.size W4 y2 from ⟨HO3.out.1.below hb4,HO3.out.2.below hb4⟩);clear hW4 hb4 HO1 HO2 HO3 HP3 HX2 HX3 CA CB
  have q1:¬9223372036854775807<2+s.size:=by have:=HS.out;omega
  cases ia with
  | true =>
    cases ib with
    | false =>
      have HA2:=jH (show ans=(⟨#[45,32]⟩:ByteArray)++s from HANS.out);go_wp2_with fail
      go_ret
      exact ⟨by rw [HA2.out];rfl,HB4.out⟩
    | true =>
      have HA2:=jH (show ans=if (partsN na nb)=[] then ⟨#[]⟩ else ((⟨#[126,32]⟩:ByteArray)++s)++sumW (partsN na nb) from HANS.out)
      as_aux_lemma =>
       clear HANS;obtain ⟨cy1,cy2,cy3⟩:=box_cells jR HX4.out;obtain ⟨cz1,cz2,cz3⟩:=box_cells jR HX5.out;have CP:=jH (parts_core y1.nd.pol y2.nd.pol y1.nd.ruled y2.nd.ruled y1.nd.smp y2.nd.smp y1.nd.past y2.nd.past y1.sA y2.sA y1.pA y2.pA y1.sc y2.sc y1.pc y2.pc W4 (jH (HQ1.out.1.row eSmp)) (jH (HQ2.out.1.row eSmp)) (jH (HQ1.out.2.row eAdv)) (jH (HQ2.out.2.row eAdv)) (jH (by rw [HN1.out,HN2.out];exact ⟨HLA.out.1,HLB.out.1,HLA.out.2,HLB.out.2⟩)))
       have hws:partsB (decide (y1.nd.smp=y2.nd.smp)) (decide (y1.nd.ruled=y2.nd.ruled) && decide (y1.nd.pol=y2.nd.pol)) (decide (y1.nd.past=y2.nd.past))=partsN na nb:=by rw [HN1.out,HN2.out];rfl
       rw [hws] at CP;have hwl:(partsN na nb).length≤3:=parts_len _ _ _;have hwz:∀p∈partsN na nb,p.size≤7:=parts_word _ _ _;clear hws;generalize partsN na nb=ws at CP HA2 hwl hwz;have HWL:=jH hwl;have HWZ:=jH hwz;clear hwl hwz;unfold ldC at cy1 cz1
       go_upto_region 9 with (first
        | (go_at_call 19
           refine CP.out.mono ?_;rintro e w5 ⟨A5,c5,rfl,ho5,hb5⟩;have HO5:=jH (ho5.row eId);have HB5:=jH (bthen HB4.out hb5);clear ho5 hb5))
       clear cy1 cy2 cy3 cz1 cz2 cz3;have q2:(ws.length:Int)≤3:=by have:=HWL.out;omega
       go_loopg [11,46] ws.length (fun g s11 s46 wr=>∃k:Nat,k≤ws.length∧ws.length - k≤g∧s11=.string (sumW (ws.take k))∧s46=.int .i64 k∧wr=w5)
       case atStart=>exact ⟨0,Nat.zero_le _,Nat.le_refl _,rfl,rfl,rfl⟩
       case round =>
        obtain ⟨k,hk,hg,rfl,rfl,rfl⟩:=hrel;have hsz:(sumW (ws.take k)).size≤24:=Nat.le_trans (sumW_size _ (fun p hp=>HWZ.out p (List.mem_of_mem_take hp))) (by rw [List.length_take];have:=HWL.out;omega)
        by_cases hlt:k<ws.length
        · have z1:(k:Int)<(ws.length:Int):=by omega
          have z2:(0:Int)≤(k:Int):=by omega
          obtain ⟨b1,o1,rfl,hb1,hc⟩:=HO5.out.at_ hlt;have c0:=hc 0 _ rfl;rw [Nat.add_zero,Nat.mul_one] at c0;have HT:=jH (show sumW (ws.take (k+1))=sumW (ws.take k)++(spS++ws[k]) by rw [List.take_succ_eq_append_getElem hlt,sumW_snoc]);have hpz:=HWZ.out _ (List.getElem_mem hlt);generalize sumW (ws.take k)=o at HT hsz ⊢;generalize ws[k]=p at HT c0 hpz;have n1:¬9223372036854775807<1+p.size:=by omega
          have n2:¬9223372036854775807<o.size+(1+p.size):=by omega
          have n3:¬9223372036854775807<o.size+1+p.size:=by omega
          clear hc hpz hsz;go_wp2_with fail
          go_roundg (ws.length - (k+1))
          case measure=>omega
          case rel=>exact ⟨k+1,hlt,Nat.le_refl _,by rw [HT.out];rfl,by go_num,rfl⟩
        · obtain rfl:k=ws.length:=by omega
          have z1:¬(ws.length:Int)<(ws.length:Int):=by omega
          rw [List.take_length] at hsz ⊢
          by_cases hw0:ws=[]
          · have HA3:=jH (show ans=⟨#[]⟩ by rw [HA2.out,if_pos hw0])
            have HSW:=jH (show sumW ws=⟨#[]⟩ by rw [hw0];rfl);rw [HSW.out];clear hw0;go_wp2_with fail
            go_ret
            exact ⟨by rw [HA3.out];rfl,HB5.out⟩
          · have HA3:=jH (show ans=((⟨#[126,32]⟩:ByteArray)++s)++sumW ws by rw [HA2.out,if_neg hw0])
            have he:=eqE (sumW ws) (sumW_ne hw0);generalize sumW ws=o at HA3 hsz he ⊢;have n2:¬9223372036854775807<2+s.size+o.size:=by have:=HS.out;omega
            clear hw0 hsz;go_wp2_with fail
            go_ret
            exact ⟨by rw [HA3.out];rfl,HB5.out⟩
  | false =>
    cases ib with
    | true =>
      have HA2:=jH (show ans=(⟨#[43,32]⟩:ByteArray)++s from HANS.out);go_wp2_with fail
      go_ret
      exact ⟨by rw [HA2.out];rfl,HB4.out⟩
    | false =>
      have HA2:=jH (show ans=if (partsN na nb)=[] then ⟨#[]⟩ else ((⟨#[126,32]⟩:ByteArray)++s)++sumW (partsN na nb) from HANS.out)
      as_aux_lemma =>
       clear HANS;obtain ⟨cy1,cy2,cy3⟩:=box_cells jR HX4.out;obtain ⟨cz1,cz2,cz3⟩:=box_cells jR HX5.out;have CP:=jH (parts_core y1.nd.pol y2.nd.pol y1.nd.ruled y2.nd.ruled y1.nd.smp y2.nd.smp y1.nd.past y2.nd.past y1.sA y2.sA y1.pA y2.pA y1.sc y2.sc y1.pc y2.pc W4 (jH (HQ1.out.1.row eSmp)) (jH (HQ2.out.1.row eSmp)) (jH (HQ1.out.2.row eAdv)) (jH (HQ2.out.2.row eAdv)) (jH (by rw [HN1.out,HN2.out];exact ⟨HLA.out.1,HLB.out.1,HLA.out.2,HLB.out.2⟩)))
       have hws:partsB (decide (y1.nd.smp=y2.nd.smp)) (decide (y1.nd.ruled=y2.nd.ruled) && decide (y1.nd.pol=y2.nd.pol)) (decide (y1.nd.past=y2.nd.past))=partsN na nb:=by rw [HN1.out,HN2.out];rfl
       rw [hws] at CP;have hwl:(partsN na nb).length≤3:=parts_len _ _ _;have hwz:∀p∈partsN na nb,p.size≤7:=parts_word _ _ _;clear hws;generalize partsN na nb=ws at CP HA2 hwl hwz;have HWL:=jH hwl;have HWZ:=jH hwz;clear hwl hwz;unfold ldC at cy1 cz1
       go_upto_region 9 with (first
        | (go_at_call 19
           refine CP.out.mono ?_;rintro e w5 ⟨A5,c5,rfl,ho5,hb5⟩;have HO5:=jH (ho5.row eId);have HB5:=jH (bthen HB4.out hb5);clear ho5 hb5))
       clear cy1 cy2 cy3 cz1 cz2 cz3;have q2:(ws.length:Int)≤3:=by have:=HWL.out;omega
       go_loopg [11,46] ws.length (fun g s11 s46 wr=>∃k:Nat,k≤ws.length∧ws.length - k≤g∧s11=.string (sumW (ws.take k))∧s46=.int .i64 k∧wr=w5)
       case atStart=>exact ⟨0,Nat.zero_le _,Nat.le_refl _,rfl,rfl,rfl⟩
       case round =>
        obtain ⟨k,hk,hg,rfl,rfl,rfl⟩:=hrel;have hsz:(sumW (ws.take k)).size≤24:=Nat.le_trans (sumW_size _ (fun p hp=>HWZ.out p (List.mem_of_mem_take hp))) (by rw [List.length_take];have:=HWL.out;omega)
        by_cases hlt:k<ws.length
        · have z1:(k:Int)<(ws.length:Int):=by omega
          have z2:(0:Int)≤(k:Int):=by omega
          obtain ⟨b1,o1,rfl,hb1,hc⟩:=HO5.out.at_ hlt;have c0:=hc 0 _ rfl;rw [Nat.add_zero,Nat.mul_one] at c0;have HT:=jH (show sumW (ws.take (k+1))=sumW (ws.take k)++(spS++ws[k]) by rw [List.take_succ_eq_append_getElem hlt,sumW_snoc]);have hpz:=HWZ.out _ (List.getElem_mem hlt);generalize sumW (ws.take k)=o at HT hsz ⊢;generalize ws[k]=p at HT c0 hpz;have n1:¬9223372036854775807<1+p.size:=by omega
          have n2:¬9223372036854775807<o.size+(1+p.size):=by omega
          have n3:¬9223372036854775807<o.size+1+p.size:=by omega
          clear hc hpz hsz;go_wp2_with fail
          go_roundg (ws.length - (k+1))
          case measure=>omega
          case rel=>exact ⟨k+1,hlt,Nat.le_refl _,by rw [HT.out];rfl,by go_num,rfl⟩
        · obtain rfl:k=ws.length:=by omega
          have z1:¬(ws.length:Int)<(ws.length:Int):=by omega
          rw [List.take_length] at hsz ⊢
          by_cases hw0:ws=[]
          · have HA3:=jH (show ans=⟨#[]⟩ by rw [HA2.out,if_pos hw0])
            have HSW:=jH (show sumW ws=⟨#[]⟩ by rw [hw0];rfl);rw [HSW.out];clear hw0;go_wp2_with fail
            go_ret
            exact ⟨by rw [HA3.out];rfl,HB5.out⟩
          · have HA3:=jH (show ans=((⟨#[126,32]⟩:ByteArray)++s)++sumW ws by rw [HA2.out,if_neg hw0])
            have he:=eqE (sumW ws) (sumW_ne hw0);generalize sumW ws=o at HA3 hsz he ⊢;have n2:¬9223372036854775807<2+s.size+o.size:=by have:=HS.out;omega
            clear hw0 hsz;go_wp2_with fail
            go_ret
            exact ⟨by rw [HA3.out];rfl,HB5.out⟩
end
section
open Go.RowKit Go.Lib
def findS (es:List (SK × It)) (s:ByteArray):Option It:=if h:s.size≤maxLen then findM es ⟨s,h⟩ else none
def lineOf (ea eb:List (SK × It)) (s:ByteArray):ByteArray:=lineS s ((findS ea s).map (·.nd)) ((findS eb s).map (·.nd))
def idsU (ea eb:List (SK × It)):List ByteArray:=compB (sortB (idsF ea++idsF eb))
def linesL (f:ByteArray→ByteArray) (l:List ByteArray):List ByteArray:=(l.map f).filter fun s=>decide (s.size≠0)
def linesE (ea eb:List (SK × It)):List ByteArray:=linesL (lineOf ea eb) (idsU ea eb)
theorem linesL_snoc {f:ByteArray→ByteArray} {l:List ByteArray} {s:ByteArray}:linesL f (l++[s])=if (f s).size=0 then linesL f l else linesL f l++[f s]:=by
 unfold linesL;rw [List.map_append,List.filter_append]
 by_cases h:(f s).size=0
 · rw [if_pos h,List.map_cons,List.filter_cons_of_neg (by simpa using h)];simp
 · rw [if_neg h,List.map_cons,List.filter_cons_of_pos (by simpa using h)];rfl
theorem linesL_len (f:ByteArray→ByteArray) (l:List ByteArray):(linesL f l).length≤l.length:=by
 unfold linesL;exact Nat.le_trans (List.length_filter_le _ _) (by simp)
theorem sortB_len (l:List ByteArray):(sortB l).length=l.length:=by unfold sortB;rw [List.length_map,List.length_mergeSort,List.length_map]
theorem sortB_mem {l:List ByteArray} {s:ByteArray}:s∈sortB l ↔ s∈l:=by
 unfold sortB;simp only [List.mem_map,List.mem_mergeSort]
 constructor
 · rintro ⟨x,⟨y,hy,rfl⟩,rfl⟩
   exact hy
 · exact fun h=>⟨_,⟨s,h,rfl⟩,rfl⟩
theorem compB_sub {l:List ByteArray} {s:ByteArray} (h:s∈compB l):s∈l:=by
 unfold compB compactUpTo at h;simp only [List.mem_map,List.mem_filter,List.mem_range] at h
 obtain ⟨j,⟨hj,_⟩,rfl⟩:=h;rw [getElem!_pos _ j hj];simp
theorem idsF_mem {es:List (SK × It)} {s:ByteArray}:s∈idsF es ↔ ∃p∈es,p.1.1=s:=by
 unfold idsF bytesK;simp only [List.mem_map,List.mem_mergeSort]
 constructor
 · rintro ⟨x,⟨p,hp,rfl⟩,rfl⟩
   exact ⟨p,hp,rfl⟩
 · rintro ⟨p,hp,rfl⟩
   exact ⟨_,⟨p,hp,rfl⟩,rfl⟩
theorem idsF_length (es:List (SK × It)):(idsF es).length=es.length:=by unfold idsF bytesK;rw [List.length_map,List.length_mergeSort,List.length_map]
theorem idsU_mem {ea eb:List (SK × It)} {s:ByteArray} (h:s∈idsU ea eb):(∃p∈ea,p.1.1=s)∨∃p∈eb,p.1.1=s:=by
 have h1:=sortB_mem.1 (compB_sub h);rw [List.mem_append,idsF_mem,idsF_mem] at h1;exact h1
theorem idsU_len (ea eb:List (SK × It)):(idsU ea eb).length≤ea.length+eb.length:=by
 unfold idsU;have:=compB_len (sortB (idsF ea++idsF eb));rw [sortB_len,List.length_append,idsF_length,idsF_length] at this;exact this
theorem emptyB {s:ByteArray} (h:s.size=0):s=⟨#[]⟩:=by
 obtain ⟨d⟩:=s;have:d=#[]:=Array.eq_empty_of_size_eq_zero h;rw [this]
structure FlCmp (es:List (SK × It)):Prop where
 len:es.length≤20000
 id:∀p∈es,p.1.1.size≤1000
 nd:∀p∈es,p.2.nd.smp.length≤1000000∧p.2.nd.past.length≤1000000
theorem FlCmp.find {es:List (SK × It)} (h:FlCmp es) (s:SK):((findM es s).getD it00).nd.smp.length≤1000000∧((findM es s).getD it00).nd.past.length≤1000000:=by
 cases hf:findM es s with
 | none=>exact ⟨by decide,by decide⟩
 | some x=>exact h.nd _ (find_mem hf)
theorem lines_any {P Q:Nat→Prop} {w:World} {M1 M2:Nat} {c1 c2:Cfg} {rs1 rh1 n1 rs2 rh2 n2:Nat} {wd1 wd2:Wd} {d1 d2:FlatD} (h1:FlatAt P w M1 c1 rs1 rh1 n1 wd1 d1) (h2:FlatAt Q w M2 c2 rs2 rh2 n2 wd2 d2) (k1:FlCmp d1.es) (k2:FlCmp d2.es) :
 Calls Tryz.prog 15 #[.pointer (some ⟨M1,0,none⟩),.pointer (some ⟨M2,0,none⟩)] w (WordsSays w (linesE d1.es d2.es)):=by
 have C1:=jH (fun W (hW:jB w W)=>flIds_any W (h1.below hW).toFlMem (Nat.le_trans k1.len (by decide)));have C2:=jH (fun W (hW:jB w W)=>flIds_any W (h2.below hW).toFlMem (Nat.le_trans k2.len (by decide)));have HL1:=jH (show (idsF d1.es).length≤20000 by rw [idsF_length];exact k1.len);have HL2:=jH (show (idsF d2.es).length≤20000 by rw [idsF_length];exact k2.len);have HUL:=jH (show (idsU d1.es d2.es).length≤40000 from Nat.le_trans (idsU_len _ _) (by have:=k1.len;have:=k2.len;omega))
 have CL:=jH (show ∀(s:ByteArray),s∈idsU d1.es d2.es→∀W,jB w W→Calls Tryz.prog 54 #[.string s,.pointer (some ⟨M1,0,none⟩),.pointer (some ⟨M2,0,none⟩)] W (jP W (.string (lineOf d1.es d2.es s))) from fun s hs W hW=>by
  have hz:s.size≤1000:=by
   rcases idsU_mem hs with ⟨p,hp,rfl⟩|⟨p,hp,rfl⟩
   · exact k1.id p hp
   · exact k2.id p hp
  have hm:s.size≤maxLen:=Nat.le_trans hz (by decide);have e1:findS d1.es s=findM d1.es ⟨s,hm⟩:=by unfold findS;rw [dif_pos hm]
  have e2:findS d2.es s=findM d2.es ⟨s,hm⟩:=by unfold findS;rw [dif_pos hm]
  unfold lineOf;rw [e1,e2];exact line_core s _ _ M1 M2 W (fun U hU=>flLoad_any ⟨s,hm⟩ U ((h1.below hW).below hU) k1.nd) (fun U hU=>flLoad_any ⟨s,hm⟩ U ((h2.below hW).below hU) k2.nd) hz (k1.find _) (k2.find _))
 have hU:idsU d1.es d2.es=compB (sortB (idsF d1.es++idsF d2.es)):=rfl;have hE:linesE d1.es d2.es=linesL (lineOf d1.es d2.es) (idsU d1.es d2.es):=rfl;rw [hE];generalize lineOf d1.es d2.es=f at CL ⊢;obtain ⟨us,hus⟩:∃r,r=idsU d1.es d2.es:=⟨_,rfl⟩;rw [←hus] at hU HUL CL ⊢;generalize idsF d1.es=la at C1 HL1 hU;generalize idsF d2.es=lb at C2 HL2 hU;have HU:=jH hU;clear hE hus hU h1 h2 k1 k2;have q8:(us.length:Int)≤40000:=by have:=HUL.out;omega
 go_enter Tryz.func15,Tryz.ntmps15
 go_upto_region 5 with (first
  | (go_at_call 51
     have h9:=HB1.out;refine (C2.out w1 HB1.out).mono ?_;rintro e w2 ⟨A2,e2,rfl,ho2,hb2⟩;have HA2:=jH (HO1.out.below hb2);have HR2:=jH (ho2.row eId);have HB2:=jH (bthen HB1.out hb2);clear h9 ho2 hb2)
  | (go_at_call 51
     refine (C1.out w jR).mono ?_;rintro e w1 ⟨A1,e1,rfl,ho1,hb1⟩;have HO1:=jH ho1;have HB1:=jH hb1;clear ho1 hb1)
  | (at_builtin
     refine wpList_appendL eId (by rfl) (by rfl) w.heap.size la lb (.slice A1 la.length e1) _ (by rfl) (by rfl) HA2.out HR2.out (by have:=HL1.out;have:=HL2.out;omega) (by have:=HB2.out.size;omega) ?_;intro o3 A3 c3 w3 hout hown hg hor;have HO3:=jH hown;have HOU:=jH (show o3=la++lb from hout);have HB3:=jH (show jB w w3 from HB2.out.trans (grown_own hg HA2.out (by have:=HB2.out.size;omega)));clear hout hown hg hor)
  | (go_at_call 52
     refine (sortStr_any w.heap.size _ o3 w3 HO3.out (by rw [HOU.out,List.length_append];have:=HL1.out;have:=HL2.out;omega)).mono ?_;rintro e w4 ⟨rfl,ho4,hb4⟩;have HO4:=jH ho4;have HB4:=jH (HB3.out.trans hb4);clear ho4 hb4)
  | (go_at_call 53
     refine (compStr_any w.heap.size _ (sortB o3) w4 HO4.out (by rw [sortB_len,HOU.out,List.length_append];have:=HL1.out;have:=HL2.out;omega)).mono ?_;have hcu:compB (sortB o3)=us:=by rw [HOU.out,←HU.out]
     rw [hcu];rintro e w5 ⟨A5,c5,rfl,ho5,hb5⟩;have HO5:=jH (ho5.row eId);have HB5:=jH (HB4.out.trans hb5);clear ho5 hb5 hcu))
 have HLT:=jH (show w.heap.size≤w5.heap.size from HB5.out.size)
 go_loopg [6,20] us.length (fun g s6 s20 wr=>∃k:Nat,k≤us.length∧us.length - k≤g∧s20=.int .i64 k∧OwnL idC 9 1 w5.heap.size wr s6 (linesL f (us.take k))∧jB w5 wr)
 case atStart=>exact ⟨0,Nat.zero_le _,Nat.le_refl _,rfl,OwnL.nil _ _,jR⟩
 case round =>
  obtain ⟨k,hk,hg,rfl,hown,hbw⟩:=hrel;rename World=>wr
  have HBr:=jH hbw
  by_cases hlt:k<us.length
  · obtain ⟨B1,e9,rfl⟩:=hown.form
    have z1:(k:Int)<(us.length:Int):=by omega
    have z2:(0:Int)≤(k:Int):=by omega
    obtain ⟨b1,o1,rfl,hb1,hc⟩:=(HO5.out.below HBr.out).at_ hlt;have c0:=hc 0 _ rfl;rw [Nat.add_zero,Nat.mul_one] at c0;have HT2:=jH (show linesL f (us.take (k+1))=if (f us[k]).size=0 then linesL f (us.take k) else linesL f (us.take k)++[f us[k]] by rw [List.take_succ_eq_append_getElem hlt,linesL_snoc]);have htl:(linesL f (us.take k)).length≤40000:=Nat.le_trans (linesL_len _ _) (by rw [List.length_take];have:=HUL.out;omega)
    have CX:=jH (CL.out us[k] (List.getElem_mem hlt));generalize linesL f (us.take k)=ys at hown HT2 htl ⊢;generalize f us[k]=x at HT2 CX;generalize us[k]=s at c0 CX;have HY:=jH hown;have HYL:=jH htl;clear hc hown htl hbw
    by_cases hx:x.size=0
    · have HT3:=jH (HT2.out.trans (if_pos hx))
      obtain rfl:=emptyB hx
      go_wp2_with (first
       | (go_at_call 54
          refine (CX.out wr (bthen HB5.out HBr.out)).mono ?_;rintro e w7 ⟨rfl,hb7⟩;have HB7:=jH hb7;clear hb7))
      go_roundg (us.length - (k+1))
      case measure=>omega
      case rel=>exact ⟨k+1,hlt,Nat.le_refl _,by go_num,by rw [HT3.out];exact HY.out.below HB7.out,bthen HBr.out HB7.out⟩
    · have HT3:=jH (HT2.out.trans (if_neg hx))
      have he:=eqE x hx;clear hx
      go_wp2_with (first
       | (go_at_call 54
          refine (CX.out wr (bthen HB5.out HBr.out)).mono ?_;rintro e w7 ⟨rfl,hb7⟩;have HB7:=jH hb7;have HBS:=jH (bthen HBr.out hb7);clear hb7)
       | (at_builtin
          refine wpList_appendL eId (by rfl) (by rfl) w5.heap.size ys [x] (.slice B1 ys.length e9) _ (by rfl) (by rfl) ((HY.out.below HB7.out).below (balloc jR _)) (RowIn.lit (n:=1) (f:=idC) w7 x _ _ _ (by first|rfl|simp) rfl) (by have:=HYL.out;simp;omega) (by have:=HBS.out.size;simp;omega) ?_;intro o8 A8 c8 w8 hout hown hg hor;have HOX:=jH (show o8=ys++[x] from hout);have HO8:=jH hown;have HB8:=jH (show jB w5 w8 from (bthen HBS.out (balloc jR _)).trans (grown_own hg HY.out (by have:=HBS.out.size;simp;omega)))
          clear hown hout hg hor))
      go_roundg (us.length - (k+1))
      case measure=>omega
      case rel=>exact ⟨k+1,hlt,Nat.le_refl _,by go_num,by rw [HT3.out,←HOX.out];exact HO8.out,HB8.out⟩
  · obtain rfl:k=us.length:=by omega
    have z1:¬(us.length:Int)<(us.length:Int):=by omega
    rw [List.take_length] at hown;obtain ⟨B1,e9,rfl⟩:=hown.form;have HO:=jH hown;clear hown hbw;go_wp2_with fail
    go_ret
    exact ⟨_,_,rfl,HO.out.lower HLT.out,bthen HB5.out HBr.out⟩
theorem same47_any {P Q:Nat→Prop} {w:World} {M1 M2:Nat} {c1 c2:Cfg} {rs1 rh1 n1 rs2 rh2 n2:Nat} {wd1 wd2:Wd} {d1 d2:FlatD} (h1:FlatAt P w M1 c1 rs1 rh1 n1 wd1 d1) (h2:FlatAt Q w M2 c2 rs2 rh2 n2 wd2 d2) (k1:FlCmp d1.es) (k2:FlCmp d2.es) :
 Calls Tryz.prog 14 #[.pointer (some ⟨M1,0,none⟩),.pointer (some ⟨M2,0,none⟩)] w (jP w (.bool (decide ((linesE d1.es d2.es).length=0)))):=by
 have CL:=jH (lines_any h1 h2 k1 k2);generalize linesE d1.es d2.es=ls at CL ⊢;clear h1 h2 k1 k2;obtain ⟨n,hn⟩:∃r,r=ls.length:=⟨_,rfl⟩;rw [←hn]
 by_cases h0:n=0
 · have z:((n:Int) == 0)=true:=by simp [h0]
   rw [decide_eq_true h0];have HN:=jH hn;clear hn h0
   go_enter Tryz.func14,Tryz.ntmps14
   go_wp2_with (first
    | (go_at_call 15
       refine CL.out.mono ?_;rintro e w1 ⟨A1,c1,rfl,ho,hb⟩;rw [←HN.out];have HB:=jH hb;clear ho hb))
   go_ret
   exact ⟨rfl,HB.out⟩
 · have z:((n:Int) == 0)=false:=by simpa using h0
   rw [decide_eq_false h0];have HN:=jH hn;clear hn h0
   go_enter Tryz.func14,Tryz.ntmps14
   go_wp2_with (first
    | (go_at_call 15
       refine CL.out.mono ?_;rintro e w1 ⟨A1,c1,rfl,ho,hb⟩;rw [←HN.out];have HB:=jH hb;clear ho hb))
   go_ret
   exact ⟨rfl,HB.out⟩
end
section
open Go.RowKit Go.Lib
theorem sortB_le (l:List ByteArray):(sortB l).Pairwise fun a b=>a.data.toList≤b.data.toList:=by
 unfold sortB;rw [List.pairwise_map];have h1:=List.pairwise_mergeSort (le:=fun x y:List UInt8=>decide (x≤y)) (fun a b c h1 h2=>by
  rw [decide_eq_true_eq] at *;exact List.le_trans h1 h2) (fun a b=>by
  rcases List.le_total a b with h|h
  · simp [h]
  · simp [h]) (l.map (·.data.toList))
 refine h1.imp (fun {a b} h=>?_)
 simpa using h
theorem before_le {a b:ByteArray} (h:a.data.toList≤b.data.toList):beforeS b a=false:=by
 unfold beforeS;rw [beforeL_lt,decide_eq_false_iff_not];exact List.not_lt.2 h
theorem compB_pair (d:Array ByteArray) (hs:∀i j,i≤j→j<d.size→beforeS d[j]! d[i]! = false):SrtB (compactUpTo d d.size):=by
 unfold compactUpTo;unfold SrtB;rw [List.pairwise_map];refine (List.Pairwise.filter _ List.pairwise_lt_range).imp_of_mem ?_;intro i j hi hj hij;have hj2:=List.mem_filter.1 hj;have hjn:j<d.size:=List.mem_range.1 hj2.1;have hk:j=0∨d[j]!≠d[j - 1]!:=by simpa [keeps] using hj2.2
 have hne:d[j]!≠d[j - 1]!:=hk.resolve_left (by omega)
 cases h:beforeS d[i]! d[j]! with
 | true=>rfl
 | false =>
   have h1:=hs i j (by omega) hjn;have e:d[i]! = d[j]!:=by
    by_cases e:d[i]! = d[j]!
    · exact e
    · rw [beforeS_tot h e] at h1;cases h1
   have h2:=hs i (j - 1) (by omega) (by omega);have h3:=hs (j - 1) j (by omega) hjn;rw [e] at h2;have e2:d[j]! = d[j - 1]!:=by
    by_cases e2:d[j]! = d[j - 1]!
    · exact e2
    · rw [beforeS_tot h3 e2] at h2;cases h2
   exact absurd e2 hne
theorem compB_has (d:Array ByteArray):∀i,i<d.size→d[i]!∈compactUpTo d d.size:=by
 intro i
 induction i with
 | zero =>
   intro h;unfold compactUpTo;exact List.mem_map.2 ⟨0,List.mem_filter.2 ⟨List.mem_range.2 h,by simp [keeps]⟩,rfl⟩
 | succ i ih =>
   intro h
   by_cases e:d[i+1]! = d[i]!
   · rw [e];exact ih (by omega)
   · unfold compactUpTo
     exact List.mem_map.2 ⟨i+1,List.mem_filter.2 ⟨List.mem_range.2 h,by simp [keeps,e]⟩,rfl⟩
theorem compB_mem {l:List ByteArray} {s:ByteArray}:s∈compB l ↔ s∈l:=by
 refine ⟨compB_sub,fun h=>?_⟩;obtain ⟨i,hi,rfl⟩:=List.getElem_of_mem h;have h1:=compB_has l.toArray i (by simpa using hi);rw [getElem!_pos l.toArray i (by simpa using hi)] at h1
 simpa [compB] using h1
theorem idsU_srt (ea eb:List (SK × It)):SrtB (idsU ea eb):=by
 unfold idsU compB;refine compB_pair _ (fun i j hij hj=>?_);have hp:=sortB_le (idsF ea++idsF eb);have hj2:j<(sortB (idsF ea++idsF eb)).length:=by simpa using hj
 rw [getElem!_pos _ j hj,getElem!_pos _ i (by omega)];simp only [List.getElem_toArray]
 refine before_le ?_
 rcases Nat.lt_or_ge i j with h|h
 · exact List.pairwise_iff_getElem.1 hp i j (by omega) hj2 h
 · obtain rfl:i=j:=by omega
   exact List.le_refl _
theorem idsU_iff {ea eb:List (SK × It)} {s:ByteArray}:s∈idsU ea eb ↔ (∃p∈ea,p.1.1=s)∨∃p∈eb,p.1.1=s:=by
 unfold idsU;rw [compB_mem,sortB_mem,List.mem_append,idsF_mem,idsF_mem]
theorem dtells_find {c:Cfg} {es:List (SK × It)} {wd:Wd} (h:FlTells c es wd) {s:ByteArray} (hs:idS s=true):match findS es s with
 | none=>loadW wd s=none
 | some x=>∃y,loadW wd s=some y∧sameN x.nd y:=by
 have hm:s.size≤maxLen:=by
  rcases Nat.lt_or_ge 20 s.size with h9|h9
  · rw [idS_len s (.inr h9)] at hs;cases hs
  · exact Nat.le_trans h9 (by decide)
 have e:findS es s=findM es ⟨s,hm⟩:=by unfold findS;rw [dif_pos hm]
 rw [e];exact h.has.2 ⟨s,hm⟩ hs
theorem dtells_mem {c:Cfg} {es:List (SK × It)} {wd:Wd} (h:FlTells c es wd) {s:ByteArray}:(∃p∈es,p.1.1=s) ↔ idS s=true∧(loadW wd s).isSome=true:=by
 constructor
 · rintro ⟨p,hp,rfl⟩
   have hi:=h.has.1 p hp;refine ⟨hi,?_⟩;have h1:=h.has.2 p.1 hi
   cases hf:findM es p.1 with
   | none =>
     obtain ⟨v,hv,_⟩:=findM_some (es:=es) (x:=p.1) (by simp only [hasM,List.any_eq_true,decide_eq_true_eq];exact ⟨p,hp,rfl⟩);rw [hf] at hv
     cases hv
   | some x =>
     rw [hf] at h1;obtain ⟨y,hy,_⟩:=h1;unfold loadW;rw [hy];rfl
 · rintro ⟨hi,hl⟩
   have h1:=dtells_find h hi
   cases hf:findS es s with
   | none=>rw [hf] at h1;rw [h1] at hl;cases hl
   | some x =>
     unfold findS at hf
     split at hf
     · exact ⟨_,find_mem hf,rfl⟩
     · cases hf
theorem partsN_same {x y x' y':Nd} (h:sameN x x') (h2:sameN y y'):partsN x y=partsN x' y':=by
 unfold partsN;rw [h.1,h.2.1,h.2.2.1,h.2.2.2,h2.1,h2.2.1,h2.2.2.1,h2.2.2.2]
theorem lineS_both (s:ByteArray) (a b:Nd):lineS s (some a) (some b)=if partsN a b=[] then ⟨#[]⟩ else ((⟨#[126,32]⟩:ByteArray)++s)++sumW (partsN a b):=rfl
theorem lineOf_wd {c c2:Cfg} {ea eb:List (SK × It)} {wa wb:Wd} (h1:FlTells c ea wa) (h2:FlTells c2 eb wb) {s:ByteArray} (hs:idS s=true):lineOf ea eb s=lineS s (loadW wa s) (loadW wb s):=by
 have f1:=dtells_find h1 hs;have f2:=dtells_find h2 hs;unfold lineOf
 cases hx:findS ea s with
 | none =>
   rw [hx] at f1;have f1:loadW wa s=none:=f1
   cases hy:findS eb s with
   | none=>rw [hy] at f2;have f2:loadW wb s=none:=f2;rw [f1,f2];rfl
   | some y=>rw [hy] at f2;obtain ⟨y',e2,_⟩:=f2;rw [f1,e2];rfl
 | some x =>
   rw [hx] at f1;obtain ⟨x',e1,s1⟩:=f1
   cases hy:findS eb s with
   | none=>rw [hy] at f2;have f2:loadW wb s=none:=f2;rw [e1,f2];rfl
   | some y =>
     rw [hy] at f2;obtain ⟨y',e2,s2⟩:=f2;rw [e1,e2]
     show lineS s (some x.nd) (some y.nd)=lineS s (some x') (some y')
     rw [lineS_both,lineS_both,partsN_same s1 s2]
def linesWd (wa wb:Wd) (l:List ByteArray):List ByteArray:=linesL (fun s=>lineS s (loadW wa s) (loadW wb s)) l
theorem linesE_wd {c c2:Cfg} {ea eb:List (SK × It)} {wa wb:Wd} (h1:FlTells c ea wa) (h2:FlTells c2 eb wb) (l:List ByteArray) (hl:SrtB l) (hm:∀s,s∈l ↔ idS s=true∧((loadW wa s).isSome=true∨(loadW wb s).isSome=true)) :
 linesE ea eb=linesWd wa wb l:=by
 have e:idsU ea eb=l:=srtB_eq (idsU_srt _ _) hl (fun s=>by
  rw [idsU_iff,dtells_mem h1,dtells_mem h2,hm]
  constructor
  · rintro (⟨a,b⟩|⟨a,b⟩)
    · exact ⟨a,.inl b⟩
    · exact ⟨a,.inr b⟩
  · rintro ⟨a,b|b⟩
    · exact .inl ⟨a,b⟩
    · exact .inr ⟨a,b⟩)
 unfold linesE linesWd linesL;rw [e]
 congr 1
 exact List.map_congr_left (fun s hs=>lineOf_wd h1 h2 ((hm s).1 hs).1)
end
section
open Go.RowKit Go.Lib
theorem bapp_assoc (a b c:ByteArray):(a++b)++c=a++(b++c):=ByteArray.append_assoc
def sumR (o:ByteArray) (ws:List ByteArray):ByteArray:=ws.foldl (fun o p=>(o++spS)++p) o
theorem sumR_snoc (o:ByteArray) (ws:List ByteArray) (p:ByteArray):sumR o (ws++[p])=(sumR o ws++spS)++p:=by unfold sumR;rw [List.foldl_append];rfl
theorem sumR_eq (o:ByteArray) (ws:List ByteArray):sumR o ws=o++sumW ws:=by
 have h:∀(m:Nat) (ws:List ByteArray),ws.length=m→sumR o ws=o++sumW ws:=by
  intro m
  induction m with
  | zero =>
    intro ws hw;rw [List.length_eq_zero_iff] at hw;subst hw
    show o=o++⟨#[]⟩
    exact ByteArray.append_empty.symm
  | succ m ih =>
    intro ws hw
    rcases List.eq_nil_or_concat ws with h0|⟨l,p,h0⟩
    · subst h0;simp at hw
    · have h0:ws=l++[p]:=by simpa using h0
      subst h0;rw [sumR_snoc,sumW_snoc,ih l (by rw [List.length_append] at hw;simpa using hw),bapp_assoc,bapp_assoc]
 exact h _ ws rfl
theorem sumR_size (o:ByteArray) (ws:List ByteArray) (h:∀p∈ws,p.size≤7):(sumR o ws).size≤o.size+8 * ws.length:=by
 rw [sumR_eq,bsize_append];have:=sumW_size ws h;omega
def okT (s:ByteArray):Bool:=true
def idsN (xa xb:Wd) (names:List ByteArray):List ByteArray :=
 refI okT (refI (fun id=>(loadW xa id).isSome && idS id) names++refI (fun id=>(loadW xb id).isSome && idS id) names)
theorem idsN_mem {xa xb:Wd} {names:List ByteArray} {s:ByteArray}:s∈idsN xa xb names ↔ s∈names∧idS s=true∧((loadW xa s).isSome=true∨(loadW xb s).isSome=true):=by
 unfold idsN;rw [mem_refI,List.mem_append,mem_refI,mem_refI];simp only [Bool.and_eq_true,okT,and_true]
 constructor
 · rintro (⟨h1,h2,h3⟩|⟨h1,h2,h3⟩)
   · exact ⟨h1,h3,.inl h2⟩
   · exact ⟨h1,h3,.inr h2⟩
 · rintro ⟨h1,h2,h3|h3⟩
   · exact .inl ⟨h1,h3,h2⟩
   · exact .inr ⟨h1,h3,h2⟩
theorem idsN_srt (xa xb:Wd) (names:List ByteArray):SrtB (idsN xa xb names):=refI_srt _ _
theorem rlines_any (P Q:Nat→Prop) (c:Cfg) (rs rh n:Nat) (x y:WdH) (v:Value) (l:List ByteArray) (w:World) (hP:∀b,w.heap.size≤b→P b) (hQ:∀b,w.heap.size≤b→Q b) (hx:WdIn P w x) (hy:WdIn Q w y) (hst:c.st≤64) (hk:WdOk c rs rh n (absW x)) (hk2:WdOk c rs rh n (absW y)) (hr:rs≤1000∧rh≤1000) (hv:RowIn 1 idC w v l) (hl:l.length≤1000) (hm:∀s∈l,s.size≤maxLen) :
 Calls Tryz.prog 18 #[.agg (wdC c x).toArray,.agg (wdC c y).toArray,v] w (WordsSays w (linesWd (absW x) (absW y) (idsN (absW x) (absW y) l))):=by
 have CI1:=jH (fun W (hW:jB w W)=>ids22_any P c rs rh n x v l W (fun b hb=>hP b (Nat.le_trans hW.size hb)) (hx.below hW) hst hk (hv.below hW) hl hm);have CI2:=jH (fun W (hW:jB w W)=>ids22_any Q c rs rh n y v l W (fun b hb=>hQ b (Nat.le_trans hW.size hb)) (hy.below hW) hst hk2 (hv.below hW) hl hm);have CL1:=jH (fun (id:ByteArray) (hid:id.size≤maxLen)=>load21_at P c rs rh n x id w hP hx hst hk hid);have CL2:=jH (fun (id:ByteArray) (hid:id.size≤maxLen)=>load21_at Q c rs rh n y id w hQ hy hst hk2 hid)
 have HAM:=jH (fun (s:ByteArray) (hs:s∈idsN (absW x) (absW y) l)=>(idsN_mem.1 hs).2);have HRR:=jH hr;obtain ⟨f,hf⟩:∃f:ByteArray→ByteArray,f=fun s=>lineS s (loadW (absW x) s) (loadW (absW y) s):=⟨_,rfl⟩
 have HF:=jH (fun s=>congrFun hf s);have hres:linesWd (absW x) (absW y) (idsN (absW x) (absW y) l)=linesL f (idsN (absW x) (absW y) l):=by rw [hf];rfl
 rw [hres];obtain ⟨la,hla⟩:∃r,r=refI (fun id=>(loadW (absW x) id).isSome && idS id) l:=⟨_,rfl⟩;obtain ⟨lb,hlb⟩:∃r,r=refI (fun id=>(loadW (absW y) id).isSome && idS id) l:=⟨_,rfl⟩;rw [←hla] at CI1;rw [←hlb] at CI2;have hall:idsN (absW x) (absW y) l=refI okT (la++lb):=by rw [hla,hlb];rfl
 rw [hall] at HAM ⊢;have HLA:=jH (show la.length≤1000 by rw [hla];exact Nat.le_trans (refI_len _ _) hl);have HLB:=jH (show lb.length≤1000 by rw [hlb];exact Nat.le_trans (refI_len _ _) hl);have HM:=jH (show ∀s∈la++lb,s.size≤maxLen from fun s hs=>hm s (by
  rw [hla,hlb,List.mem_append,mem_refI,mem_refI] at hs
  rcases hs with h|h
  · exact h.1
  · exact h.1))
 obtain ⟨ok,hok⟩:∃f:ByteArray→Bool,f=okT:=⟨_,rfl⟩;have HOK:=jH (show ∀s,ok s=true from fun s=>by rw [hok];rfl);rw [←hok] at HAM ⊢;obtain ⟨A,cp,rfl⟩:=hv.form;clear hP hQ hx hy hst hk hk2 hr hv hl hm hf hres hla hlb hall hok;unfold wdC at CI1 CI2 ⊢
 go_enter Tryz.func18,Tryz.ntmps18
 go_upto_region 1 with fail
 refine name_world ?_;intro W0 hW0;have HB0:=jH (show jB w W0 by rw [hW0];exact balloc (balloc jR _) _);have HX0:=jH (show W0.heap[w.heap.size]?=some (.cells #[.int .i64 c.st,.int .i64 c.sa,.int .i64 c.lo,.int .i64 c.hi,.slice x.sA x.st.length x.sc,.slice x.cA x.cuts.length x.cc,.int .i64 x.ep,.bool x.over] 32 (0,0)) by rw [hW0];exact box_old _ _ _);have HY0:=jH (show W0.heap[w.heap.size+1]?=some (.cells #[.int .i64 c.st,.int .i64 c.sa,.int .i64 c.lo,.int .i64 c.hi,.slice y.sA y.st.length y.sc,.slice y.cA y.cuts.length y.cc,.int .i64 y.ep,.bool y.over] 32 (0,0)) by rw [hW0];exact box_new _ _ _)
 clear hW0;obtain ⟨a1,a2,a3⟩:=box_cells jR HX0.out;obtain ⟨a4,a5,a6⟩:=box_cells jR HY0.out
 go_upto_region 5 with (first
  | (go_at_call 55
     have h9:=HB1.out;refine (CI2.out w1 (bthen HB0.out HB1.out)).mono ?_;rintro e w2 ⟨v2,rfl,ho2,hb⟩;obtain ⟨A2,c2,rfl⟩:=ho2.form;have HO12:=jH (HO1.out.below hb);have HR2:=jH (ho2.row eId);have HB2:=jH (bthen HB1.out hb);clear h9 ho2 hb a1 a2 a3 a4 a5 a6)
  | (go_at_call 55
     refine (CI1.out W0 HB0.out).mono ?_;rintro e w1 ⟨v1,rfl,ho1,hb⟩;obtain ⟨A1,c1,rfl⟩:=ho1.form;have HO1:=jH ho1;have HB1:=jH hb;clear a1 a2 a3 a4 a5 a6;obtain ⟨a1,a2,a3⟩:=box_cells hb HX0.out;obtain ⟨a4,a5,a6⟩:=box_cells hb HY0.out;clear ho1 hb)
  | (at_builtin
     refine wpList_appendL eId (by rfl) (by rfl) W0.heap.size la lb (.slice A1 la.length c1) _ (by rfl) (by rfl) HO12.out HR2.out (by have:=HLA.out;have:=HLB.out;omega) (by have:=HB2.out.size;omega) ?_;intro ids A3 c3 W3 hout hown hg hor;have HIDS:=jH (show ids=la++lb from hout);have HV:=jH (hown.row eId);have HB3:=jH (show jB W0 W3 from HB2.out.trans (grown_own hg HO12.out (by have:=HB2.out.size;omega)))
     clear hout hown hg hor))
 have HL:=jH (show ids.length≤2000 by rw [HIDS.out,List.length_append];have:=HLA.out;have:=HLB.out;omega);have HMI:=jH (show ∀s∈ids,s.size≤maxLen by rw [HIDS.out];exact HM.out);have q9:(ids.length:Int)≤2000:=by have:=HL.out;omega
 rw [←HIDS.out] at HAM;rw [←HIDS.out];clear HM
 go_loopg [8,9] ids.length (fun g s8 s9 wr=>∃k:Nat,k≤ids.length∧ids.length - k≤g∧s9=.int .i64 k∧OwnL idC 9 1 W3.heap.size wr s8 (refI ok (ids.take k))∧jB W3 wr)
 case atStart=>exact ⟨0,Nat.zero_le _,Nat.le_refl _,rfl,by rw [List.take_zero];exact OwnL.nil _ _,jR⟩
 case round =>
  obtain ⟨k,hk,hg,rfl,hown,hb⟩:=hrel;rename World=>wr
  obtain ⟨out,hout⟩:∃pre,pre=refI ok (ids.take k):=⟨_,rfl⟩;rw [←hout] at hown;have HOL:=jH (show out.length≤2000 by rw [hout];have:=refI_len ok (ids.take k);rw [List.length_take] at this;have:=HL.out;omega);have HOM:=jH (show ∀z∈out,z.size≤maxLen from fun z hz=>HMI.out z (List.mem_of_mem_take (mem_refI.1 (by rw [hout] at hz;exact hz)).1));have HOUT:=jH hout;have HB:=jH hb
  by_cases hlt:k<ids.length
  · obtain ⟨A5,c5,rfl⟩:=hown.form
    have HO:=jH hown;clear hout hown hb;obtain ⟨b1,o1,rfl,hb1,hc⟩:=HV.out.at_ hlt;have hms:=HMI.out _ (List.getElem_mem hlt);have hl9:ids.length≤2000:=HL.out;have hol9:out.length≤2000:=HOL.out;have HTK:=jH (show refI ok (ids.take (k+1))=if ok ids[k]=true then insB ids[k] out else out by
     rw [HOUT.out,List.take_succ_eq_append_getElem hlt];unfold refI;rw [List.foldl_append];rfl)
    have z1:(0:Int)≤(k:Int):=by omega
    have z2:(k:Int)<(ids.length:Int):=by omega
    generalize ids[k]=s at hc hms HTK;have rd:∀W,jB wr W→W.cell? ⟨b1,o1+k,none⟩=some (.string s):=fun W hW=>by
     have h9:=hc 0 _ rfl;rw [Nat.add_zero,Nat.mul_one] at h9;exact ((bthen HB.out hW).cell (p:=⟨b1,_,none⟩) hb1).trans h9
    have rx:True:=trivial;have HBU:=jH (Below.refl wr.heap.size wr);clear hc;have HOKS:=jH (HOK.out s);have HR:=jH (HO.out.row eId);have hms9:s.size≤maxLen:=hms;have rds:True:=trivial;go_wp2_with fail
    go_loopg [10] out.length (fun g s10 wi=>∃a:Nat,a≤out.length∧out.length - a≤g∧s10=.int .i64 a∧(∀j (h:j<out.length),j<a→beforeS out[j] s=true)∧jB wr wi)
    case atStart=>exact ⟨0,Nat.zero_le _,Nat.le_refl _,rfl,fun j h hj=>absurd hj (Nat.not_lt_zero _),jR⟩
    case round =>
     obtain ⟨a,ha,hga,rfl,hless,hbi⟩:=hrel;rename World=>wi
     have HLs:=jH hless;clear hless rds;have ha0:(0:Int)≤(a:Int):=by omega
     have rdi:=rd wi (bthen HBU.out hbi)
     by_cases hal:a<out.length
     · obtain ⟨b4,o4,rfl,hbl4,hc4⟩:=HR.out.at_ hal
       have rdo:wi.cell? ⟨b4,o4+a,none⟩=some (.string out[a]):=by
        have h9:=hc4 0 _ rfl;rw [Nat.add_zero,Nat.mul_one] at h9;exact (hbi.cell (p:=⟨b4,_,none⟩) hbl4).trans h9
       have hyf:=HOM.out _ (List.getElem_mem hal);have HY:=jH (show ∃y,y=out[a] from ⟨_,rfl⟩);obtain ⟨y,hye⟩:=HY.out;have HYe:=jH hye;rw [←hye] at rdo hyf;clear hc4 hye;have ha1:(a:Int)<(out.length:Int):=by omega
       have hstep:beforeS y s=true→∀j (h:j<out.length),j<a+1→beforeS out[j] s=true:=fun hly j h hj=>by
        rcases Nat.lt_or_ge j a with h1|h1
        · exact HLs.out j h h1
        · obtain rfl:j=a:=by omega
          rw [←HYe.out];exact hly
       have HST:=jH hstep;clear hstep;have HBq:=fun W=>before_quiet y s W hyf hms9
       cases hbs:beforeS y s with
       | true =>
         rw [hbs] at HBq;have HBQ:=jH HBq;have HBS:=jH hbs;clear hbs HBq;go_wp2_with fail
         go_quiet ((go_at_call 56;exact Calls.quiet_of (HBQ.out _)))
         go_wp2
         go_roundg (out.length - (a+1))
         case measure=>omega
         case rel=>exact ⟨a+1,hal,Nat.le_refl _,by go_num,HST.out HBS.out,below_drewN hbi _⟩
       | false =>
         have HBS:=jH hbs;rw [hbs] at HBq;have HBQ:=jH HBq;clear hbs HBq
         by_cases e1:y=s
         · have HI:=jH (show insB s out=out by
            rw [insB_at s out a ha HLs.out (fun _=>by rw [←HYe.out];exact HBS.out),if_pos (by rw [List.getElem?_eq_getElem hal,←HYe.out,e1])])
           have hq9:(s.toList == s.toList)=true:=by simp
           rw [e1] at rdo HBQ;clear e1;go_wp2_with fail
           go_quiet ((go_at_call 56;exact Calls.quiet_of (HBQ.out _)))
           obtain ⟨wj,hwj⟩:∃wj:World,wj=wi.drewN nq:=⟨_,rfl⟩;rw [←hwj];have hbj:jB wr wj:=by rw [hwj];exact below_drewN hbi _
           have rdj:=rd wj (bthen HBU.out hbj);have rdo2:wj.cell? ⟨b4,o4+a,none⟩=some (.string s):=by rw [hwj];exact rdo
           clear hwj;go_wp2
           go_quiet (fail)
           go_wp2
           go_roundg (ids.length - (k+1))
           case measure=>omega
           case rel=>exact ⟨k+1,hlt,Nat.le_refl _,by go_num,by rw [HTK.out,if_pos HOKS.out,HI.out];exact HO.out.below (bthen HBU.out (below_drewN hbj _)),bthen HB.out (bthen HBU.out (below_drewN hbj _))⟩
         · have HI:=jH (show insB s out=out.take a++(s::out.drop a) by
            rw [insB_at s out a ha HLs.out (fun _=>by rw [←HYe.out];exact HBS.out),if_neg (by rw [List.getElem?_eq_getElem hal,←HYe.out];simpa using e1)])
           have e3:=str_ne22 e1;clear e1;go_wp2_with fail
           go_quiet ((go_at_call 56;exact Calls.quiet_of (HBQ.out _)))
           obtain ⟨wj,hwj⟩:∃wj:World,wj=wi.drewN nq:=⟨_,rfl⟩;rw [←hwj];have hbj:jB wr wj:=by rw [hwj];exact below_drewN hbi _
           have rdj:=rd wj (bthen HBU.out hbj);have rdo2:wj.cell? ⟨b4,o4+a,none⟩=some (.string y):=by rw [hwj];exact rdo
           clear hwj;go_wp2
           go_quiet (fail)
           obtain ⟨w2,hw2⟩:∃w2:World,w2=wj.drewN nq:=⟨_,rfl⟩;rw [←hw2];have hb2:jB wr w2:=by rw [hw2];exact below_drewN hbj _
           clear hw2;have hbw2:jB W3 w2:=bthen HB.out (bthen HBU.out hb2);have hs2:=hbw2.size;have hs3:=hb2.size;obtain ⟨mt,At,ct,hmt,hrt,hRt⟩:=row_to eId (HR.out.below hb2) a ha;obtain ⟨mf,Af,cf,hmf,hrf,hRf⟩:=row_from eId (HR.out.below hb2) a ha;have HMT:=jH hmt;have HMF:=jH hmf;have HRT:=jH hRt;have HRF:=jH hRf;have hmtl:mt.length≤1000000:=by rw [hmt,List.length_take];have:=HOL.out;omega
           have hmfl:mf.length≤1000000:=by rw [hmf,List.length_drop];have:=HOL.out;omega
           have hbwr2:jB wr w2:=bthen HBU.out hb2;have rd2:∀W,jB w2 W→W.cell? ⟨b1,o1+k,none⟩=some (.string s):=fun W hW=>rd W (bthen hbwr2 hW)
           have HRD:=jH rd2;clear hmt hmf hRt hRf rd rd2 rx
           go_wp2_with (first
            | (at_builtin;refine wpList_appendL eId (by rfl) (s:=.tmp 67) (x:=.tmp 70) (by rfl) w2.heap.size [] mt _ _ (by rfl) (by rfl) (OwnL.lit0 _ w2 _ _ rfl (Nat.le_refl _)) (HRT.out.below (balloc jR _)) (by simp;omega) (by simp) ?_;intro out6 A6 c6 w6 hout6 hown6 hg6 _
               have HO6:=jH hout6;have HW6:=jH hown6;have hb6:jB w2 w6:=(balloc jR _).trans (grown_below hg6 (by simp) (fun r hr=>by have hr':some w2.heap.size=some r:=hr;injection hr';omega));have hl6:out6.length≤1000000:=by rw [hout6];simpa using hmtl
               have rd6:=HRD.out w6 hb6;clear hout6 hown6 hg6)
            | (at_builtin;refine wpList_appendL eId (by rfl) (s:=.tmp 72) (x:=.tmp 77) (by rfl) w2.heap.size out6 [s] _ _ (by rfl) (by rfl) (HW6.out.below (balloc jR _)) (RowIn.lit w6 s _ _ _ rfl rfl) (by simp;omega) (by have:=hb6.size;simp;omega) ?_;intro out7 A7 c7 w7 hout7 hown7 hg7 _
               have HO7:=jH hout7;have HW7:=jH hown7;have hb7:jB w2 w7:=(balloc hb6 _).trans (grown_own hg7 HW6.out (by have:=hb6.size;simp;omega));have hl7:out7.length≤1000001:=by rw [hout7];simp;omega
               clear hout7 hown7 hg7)
            | (at_builtin;refine wpList_appendL eId (by rfl) (s:=.tmp 79) (x:=.tmp 82) (by rfl) w2.heap.size out7 mf _ _ (by rfl) (by rfl) HW7.out (HRF.out.below hb7) (by omega) hb7.size ?_;intro out8 A8 c8 w8 hout8 hown8 hg8 _
               have HO8:=jH hout8;have HW8:=jH hown8;have hb8:jB w2 w8:=hb7.trans (grown_own hg8 HW7.out hb7.size);clear hout8 hown8 hg8))
           go_roundg (ids.length - (k+1))
           case measure=>omega
           case rel =>
            refine ⟨k+1,hlt,Nat.le_refl _,by go_num,?_,hbw2.trans (hb8.mono hs2)⟩;rw [HTK.out,if_pos HOKS.out,HI.out];have e8:out8=out.take a++(s::out.drop a):=by rw [HO8.out,HO7.out,HO6.out,HMT.out,HMF.out];simp
            rw [←e8];exact HW8.out.lower hs2
     · go_wp2_with fail
       go_quiet (fail)
       obtain ⟨wj,hwj⟩:∃wj:World,wj=wi.drewN nq:=⟨_,rfl⟩;rw [←hwj];have hbj:jB wr wj:=by rw [hwj];exact below_drewN hbi _
       have rdj:=rd wj (bthen HBU.out hbj);clear hwj;go_wp2
       go_quiet (fail)
       have HI:=jH (show insB s out=out.take a++(s::out.drop a) by
        rw [insB_at s out a ha HLs.out (fun h=>absurd h (by omega)),if_neg (by rw [List.getElem?_eq_none (by omega)];simp)])
       obtain ⟨w2,hw2⟩:∃w2:World,w2=wj.drewN nq:=⟨_,rfl⟩;rw [←hw2];have hb2:jB wr w2:=by rw [hw2];exact below_drewN hbj _
       clear hw2;have hbw2:jB W3 w2:=bthen HB.out (bthen HBU.out hb2);have hs2:=hbw2.size;have hs3:=hb2.size;obtain ⟨mt,At,ct,hmt,hrt,hRt⟩:=row_to eId (HR.out.below hb2) a ha;obtain ⟨mf,Af,cf,hmf,hrf,hRf⟩:=row_from eId (HR.out.below hb2) a ha;have HMT:=jH hmt;have HMF:=jH hmf;have HRT:=jH hRt;have HRF:=jH hRf;have hmtl:mt.length≤1000000:=by rw [hmt,List.length_take];have:=HOL.out;omega
       have hmfl:mf.length≤1000000:=by rw [hmf,List.length_drop];have:=HOL.out;omega
       have hbwr2:jB wr w2:=bthen HBU.out hb2;have rd2:∀W,jB w2 W→W.cell? ⟨b1,o1+k,none⟩=some (.string s):=fun W hW=>rd W (bthen hbwr2 hW)
       have HRD:=jH rd2;clear hmt hmf hRt hRf rd rd2 rx
       go_wp2_with (first
        | (at_builtin;refine wpList_appendL eId (by rfl) (s:=.tmp 67) (x:=.tmp 70) (by rfl) w2.heap.size [] mt _ _ (by rfl) (by rfl) (OwnL.lit0 _ w2 _ _ rfl (Nat.le_refl _)) (HRT.out.below (balloc jR _)) (by simp;omega) (by simp) ?_;intro out6 A6 c6 w6 hout6 hown6 hg6 _
           have HO6:=jH hout6;have HW6:=jH hown6;have hb6:jB w2 w6:=(balloc jR _).trans (grown_below hg6 (by simp) (fun r hr=>by have hr':some w2.heap.size=some r:=hr;injection hr';omega));have hl6:out6.length≤1000000:=by rw [hout6];simpa using hmtl
           have rd6:=HRD.out w6 hb6;clear hout6 hown6 hg6)
        | (at_builtin;refine wpList_appendL eId (by rfl) (s:=.tmp 72) (x:=.tmp 77) (by rfl) w2.heap.size out6 [s] _ _ (by rfl) (by rfl) (HW6.out.below (balloc jR _)) (RowIn.lit w6 s _ _ _ rfl rfl) (by simp;omega) (by have:=hb6.size;simp;omega) ?_;intro out7 A7 c7 w7 hout7 hown7 hg7 _
           have HO7:=jH hout7;have HW7:=jH hown7;have hb7:jB w2 w7:=(balloc hb6 _).trans (grown_own hg7 HW6.out (by have:=hb6.size;simp;omega));have hl7:out7.length≤1000001:=by rw [hout7];simp;omega
           clear hout7 hown7 hg7)
        | (at_builtin;refine wpList_appendL eId (by rfl) (s:=.tmp 79) (x:=.tmp 82) (by rfl) w2.heap.size out7 mf _ _ (by rfl) (by rfl) HW7.out (HRF.out.below hb7) (by omega) hb7.size ?_;intro out8 A8 c8 w8 hout8 hown8 hg8 _
           have HO8:=jH hout8;have HW8:=jH hown8;have hb8:jB w2 w8:=hb7.trans (grown_own hg8 HW7.out hb7.size);clear hout8 hown8 hg8))
       go_roundg (ids.length - (k+1))
       case measure=>omega
       case rel =>
        refine ⟨k+1,hlt,Nat.le_refl _,by go_num,?_,hbw2.trans (hb8.mono hs2)⟩;rw [HTK.out,if_pos HOKS.out,HI.out];have e8:out8=out.take a++(s::out.drop a):=by rw [HO8.out,HO7.out,HO6.out,HMT.out,HMF.out];simp
        rw [←e8];exact HW8.out.lower hs2
  · obtain rfl:k=ids.length:=by omega
    have z1:¬(ids.length:Int)<(ids.length:Int):=by omega
    rw [List.take_length] at hout;have HAL:=jH hout;obtain ⟨A5,c5,rfl⟩:=hown.form;have HO:=jH (hown.row eId);clear hout hown hb HOUT;rw [←HAL.out] at HAM;rw [←HAL.out];have HB9:=jH (show jB W0 wr from bthen HB3.out HB.out);have q8:(out.length:Int)≤2000:=by have:=HOL.out;omega
    go_upto_region 16 with fail
    rename World=>wq
    go_loopg [12,13] out.length (fun g s12 s13 wi=>∃k:Nat,k≤out.length∧out.length - k≤g∧s13=.int .i64 k∧OwnL idC 9 1 wq.heap.size wi s12 (linesL f (out.take k))∧jB wq wi)
    case atStart=>exact ⟨0,Nat.zero_le _,Nat.le_refl _,rfl,OwnL.nil _ _,jR⟩
    case round =>
     obtain ⟨k,hk,hg,rfl,hown,hbw⟩:=hrel;rename World=>wi
     have HBi:=jH hbw
     by_cases hlt:k<out.length
     · obtain ⟨B9,e9,rfl⟩:=hown.form
       have z1':(k:Int)<(out.length:Int):=by omega
       have z2':(0:Int)≤(k:Int):=by omega
       obtain ⟨b1,o1,rfl,hb1,hc⟩:=(HO.out.below HBi.out).at_ hlt;have hms:=HOM.out _ (List.getElem_mem hlt);have hmem:=HAM.out _ (List.getElem_mem hlt);have HT2:=jH (show linesL f (out.take (k+1))=if (f out[k]).size=0 then linesL f (out.take k) else linesL f (out.take k)++[f out[k]] by rw [List.take_succ_eq_append_getElem hlt,linesL_snoc]);have htl:(linesL f (out.take k)).length≤2000:=Nat.le_trans (linesL_len _ _) (by rw [List.length_take];have:=HOL.out;omega)
       have hfs:=HF.out out[k];obtain ⟨z,bz,hz,hin,hcl⟩:=CL1.out out[k] hms;obtain ⟨y2,by2,hy2,hin2,hcl2⟩:=CL2.out out[k] hms;rw [hz,hy2] at hfs;rw [hz,hy2] at hmem;have hs20:out[k].size≤20:=by
        rcases Nat.lt_or_ge 20 out[k].size with h9|h9
        · have:=hmem.1;rw [idS_len _ (.inr h9)] at this;cases this
        · exact h9
       have hbo:bz=true∨by2=true:=by
        rcases hmem.2 with h9|h9
        · left;cases bz with
          | true=>rfl
          | false=>cases h9
        · right;cases by2 with
          | true=>rfl
          | false=>cases h9
       generalize linesL f (out.take k)=ys at hown HT2 htl ⊢;generalize f out[k]=fs at HT2 hfs;generalize out[k]=s at hc hfs hcl hcl2 hs20;have HY:=jH hown;have HYL:=jH htl;have HFS:=jH hfs;have HIN:=jH hin;have HIN2:=jH hin2;have HBO:=jH hbo;have HWI:=jH (show jB w wi from bthen HB0.out (bthen HB9.out HBi.out));have CX1:=jH (fun W (hW:jB wi W)=>hcl W (bthen HWI.out hW));have rd:∀W,jB wi W→W.cell? ⟨b1,o1+k,none⟩=some (.string s):=fun W hW=>by
        have h9:=hc 0 _ rfl;rw [Nat.add_zero,Nat.mul_one] at h9;exact (hW.cell (p:=⟨b1,_,none⟩) hb1).trans h9
       have HRD:=jH rd;have rx:∀W,jB wi W→∀j,W.cell? ⟨w.heap.size,j,none⟩=(#[.int .i64 c.st,.int .i64 c.sa,.int .i64 c.lo,.int .i64 c.hi,.slice x.sA x.st.length x.sc,.slice x.cA x.cuts.length x.cc,.int .i64 x.ep,.bool x.over]:Array Value)[j]?:=fun W hW j=>(box_cells (bthen HB9.out (bthen HBi.out hW)) HX0.out).1 j
       have ry:∀W,jB wi W→∀j,W.cell? ⟨w.heap.size+1,j,none⟩=(#[.int .i64 c.st,.int .i64 c.sa,.int .i64 c.lo,.int .i64 c.hi,.slice y.sA y.st.length y.sc,.slice y.cA y.cuts.length y.cc,.int .i64 y.ep,.bool y.over]:Array Value)[j]?:=fun W hW j=>(box_cells (bthen HB9.out (bthen HBi.out hW)) HY0.out).1 j
       have HRY:=jH ry;have HCL2:=jH (fun W (hW:jB wi W)=>hcl2 W (bthen HWI.out hW));clear hc hown htl hbw hms hmem hz hy2 hin hin2 hcl hcl2 hfs hbo ry
       go_upto_region 18 with fail
       go_cut [14,15] (fun s14 s15 wx=>∃B,s14=.pointer (some ⟨B,0,none⟩)∧s15=.bool bz∧wx.heap[B]?=some (.cells #[.slice z.sA z.nd.smp.length z.sc,.slice z.pA z.nd.past.length z.pc,.int .i64 z.nd.pol.mn,.int .i64 z.nd.pol.mx,.int .i64 z.nd.pol.tg,.int .i64 z.nd.pol.tol,.int .i64 z.nd.pol.win,.int .i64 z.nd.pol.hold,.bool z.nd.ruled,.int .i64 (z.nd.ver:Nat)] 48 (0,0))∧wi.heap.size≤B∧jB wi wx)
       case first =>
        have hS00:jB wi wi:=jR;have hS0:jB wi wi.drew:=hS00.drew
        go_region_held3 (fun U=>jB wi U)
          (first
            | with_reducible exact hS0
            | with_reducible exact HB5.out
            | with_reducible exact balloc HB5.out _
            | with_reducible exact Below.drew (balloc hS00 _)
            | with_reducible exact balloc hS0 _
            | (iterate 10 (with_reducible refine Below.setCell ?_ (by first|exact Nat.le_refl _|exact HB5.out.size) _)
               first
                | with_reducible exact HB5.out
                | with_reducible exact balloc HB5.out _))
          (first
          | (go_at_call 57
             refine calls_named ?_;intro W5 hW5;have hz:W5.heap[wi.heap.size]?=some (.cells #[.slice none 0 0,.slice none 0 0,.int .i64 0,.int .i64 0,.int .i64 0,.int .i64 0,.int .i64 0,.int .i64 0,.bool false,.int .i64 0] 48 (0,0)):=by
              first
               | (with_reducible refine new_at hW5 ?_
                  rfl)
               | (with_reducible refine new_atd hW5 ?_
                  rfl)
             subst hW5;refine (CX1.out _ ‹jB wi _›).mono ?_;rintro e w5 ⟨rfl,hb5⟩;have HZ5:=jH (jK hb5 hz);obtain ⟨zz1,zz2,zz3⟩:=box_cells jR HZ5.out;have HB5:=jH (bthen ‹jB wi _› hb5);clear hb5 hz)
          | (go_at_call 57
             refine calls_named ?_;intro W5 hW5;subst hW5;refine (CX1.out _ ‹jB wi _›).mono ?_;rintro e w5 ⟨rfl,hb5⟩;have HB5:=jH (bthen ‹jB wi _› hb5);clear hb5))
        all_goals
          go_wp2_with fail
          go_meet
          refine ⟨_,rfl,rfl,?_⟩
          first
           | exact box_in HZ5.out (Nat.le_refl _) HB5.out [.slice z.sA z.nd.smp.length z.sc,.slice z.pA z.nd.past.length z.pc,.int .i64 z.nd.pol.mn,.int .i64 z.nd.pol.mx,.int .i64 z.nd.pol.tg,.int .i64 z.nd.pol.tol,.int .i64 z.nd.pol.win,.int .i64 z.nd.pol.hold,.bool z.nd.ruled,.int .i64 (z.nd.ver:Nat)] rfl
           | exact box_fresh HB5.out [.slice z.sA z.nd.smp.length z.sc,.slice z.pA z.nd.past.length z.pc,.int .i64 z.nd.pol.mn,.int .i64 z.nd.pol.mx,.int .i64 z.nd.pol.tg,.int .i64 z.nd.pol.tol,.int .i64 z.nd.pol.win,.int .i64 z.nd.pol.hold,.bool z.nd.ruled,.int .i64 (z.nd.ver:Nat)]
       case rest =>
        obtain ⟨B,rfl,rfl,hB,hle,hb⟩:=hcut;rename World=>wa
        have HBa:=jH hb;have HBX:=jH hB;have HLE:=jH hle;have rd:∀W,jB wa W→W.cell? ⟨b1,o1+k,none⟩=some (.string s):=fun W hW=>HRD.out W (bthen HBa.out hW)
        have ry:∀W,jB wa W→∀j,W.cell? ⟨w.heap.size+1,j,none⟩=(#[.int .i64 c.st,.int .i64 c.sa,.int .i64 c.lo,.int .i64 c.hi,.slice y.sA y.st.length y.sc,.slice y.cA y.cuts.length y.cc,.int .i64 y.ep,.bool y.over]:Array Value)[j]?:=fun W hW=>HRY.out W (bthen HBa.out hW)
        have CX2:=jH (fun W (hW:jB wa W)=>HCL2.out W (bthen HBa.out hW));clear hB hle hb rx
        go_upto_region 19 with fail
        go_cut [16,17] (fun s16 s17 wx=>∃B,s16=.pointer (some ⟨B,0,none⟩)∧s17=.bool by2∧wx.heap[B]?=some (.cells #[.slice y2.sA y2.nd.smp.length y2.sc,.slice y2.pA y2.nd.past.length y2.pc,.int .i64 y2.nd.pol.mn,.int .i64 y2.nd.pol.mx,.int .i64 y2.nd.pol.tg,.int .i64 y2.nd.pol.tol,.int .i64 y2.nd.pol.win,.int .i64 y2.nd.pol.hold,.bool y2.nd.ruled,.int .i64 (y2.nd.ver:Nat)] 48 (0,0))∧wa.heap.size≤B∧jB wa wx)
        case first =>
         have hS00:jB wa wa:=jR;have hS0:jB wa wa.drew:=hS00.drew
         go_region_held3 (fun U=>jB wa U)
           (first
             | with_reducible exact hS0
             | with_reducible exact HB5.out
             | with_reducible exact balloc HB5.out _
             | with_reducible exact Below.drew (balloc hS00 _)
             | with_reducible exact balloc hS0 _
             | (iterate 10 (with_reducible refine Below.setCell ?_ (by first|exact Nat.le_refl _|exact HB5.out.size) _)
                first
                 | with_reducible exact HB5.out
                 | with_reducible exact balloc HB5.out _))
           (first
           | (go_at_call 57
              refine calls_named ?_;intro W5 hW5;have hz:W5.heap[wa.heap.size]?=some (.cells #[.slice none 0 0,.slice none 0 0,.int .i64 0,.int .i64 0,.int .i64 0,.int .i64 0,.int .i64 0,.int .i64 0,.bool false,.int .i64 0] 48 (0,0)):=by
               first
                | (with_reducible refine new_at hW5 ?_
                   rfl)
                | (with_reducible refine new_atd hW5 ?_
                   rfl)
              subst hW5;refine (CX2.out _ ‹jB wa _›).mono ?_;rintro e w5 ⟨rfl,hb5⟩;have HZ5:=jH (jK hb5 hz);obtain ⟨zz1,zz2,zz3⟩:=box_cells jR HZ5.out;have HB5:=jH (bthen ‹jB wa _› hb5);clear hb5 hz)
           | (go_at_call 57
              refine calls_named ?_;intro W5 hW5;subst hW5;refine (CX2.out _ ‹jB wa _›).mono ?_;rintro e w5 ⟨rfl,hb5⟩;have HB5:=jH (bthen ‹jB wa _› hb5);clear hb5))
         all_goals
           go_wp2_with fail
           go_meet
           refine ⟨_,rfl,rfl,?_⟩
           first
            | exact box_in HZ5.out (Nat.le_refl _) HB5.out [.slice y2.sA y2.nd.smp.length y2.sc,.slice y2.pA y2.nd.past.length y2.pc,.int .i64 y2.nd.pol.mn,.int .i64 y2.nd.pol.mx,.int .i64 y2.nd.pol.tg,.int .i64 y2.nd.pol.tol,.int .i64 y2.nd.pol.win,.int .i64 y2.nd.pol.hold,.bool y2.nd.ruled,.int .i64 (y2.nd.ver:Nat)] rfl
            | exact box_fresh HB5.out [.slice y2.sA y2.nd.smp.length y2.sc,.slice y2.pA y2.nd.past.length y2.pc,.int .i64 y2.nd.pol.mn,.int .i64 y2.nd.pol.mx,.int .i64 y2.nd.pol.tg,.int .i64 y2.nd.pol.tol,.int .i64 y2.nd.pol.win,.int .i64 y2.nd.pol.hold,.bool y2.nd.ruled,.int .i64 (y2.nd.ver:Nat)]
        case rest =>
         obtain ⟨B',rfl,rfl,hB,hle,hb⟩:=hcut;rename World=>wb
         have HBb:=jH (show jB wi wb from bthen HBa.out hb);have HBX2:=jH hB;have HBX1:=jH (jK hb HBX.out);have HBq:=jH (show jB wq wb from bthen HBi.out HBb.out);have rds:=HRD.out wb HBb.out;have n1:¬9223372036854775807<2+s.size:=by omega
         clear hB hle hb ry rd CX1 CX2 HRY HCL2
         cases by2 with
         | false =>
           have hbz:bz=true:=HBO.out.resolve_right (by simp);subst hbz;have HE:=jH (show fs=(⟨#[45,32]⟩:ByteArray)++s from HFS.out);have HT3:=jH (HT2.out.trans (if_neg (by rw [HE.out,bsize_append];have:(⟨#[45,32]⟩:ByteArray).size=2:=rfl;omega)));rw [HE.out] at HT3
           go_wp2_with (first
            | (at_builtin
               refine wpList_appendL eId (by rfl) (by rfl) wq.heap.size ys [(⟨#[45,32]⟩:ByteArray)++s] (.slice B9 ys.length e9) _ (by rfl) (by rfl) ((HY.out.below HBb.out).below (balloc jR _)) (RowIn.lit (n:=1) (f:=idC) wb ((⟨#[45,32]⟩:ByteArray)++s) _ _ _ (by first|rfl|simp) rfl) (by have:=HYL.out;simp;omega) (by have:=HBq.out.size;simp;omega) ?_;intro o8 A8 c8 w8 hout hown hg hor;have HOX:=jH (show o8=ys++[(⟨#[45,32]⟩:ByteArray)++s] from hout)
               have HO8:=jH hown;have HB8:=jH (show jB wq w8 from (bthen HBq.out (balloc jR _)).trans (grown_own hg HY.out (by have:=HBq.out.size;simp;omega)));clear hown hout hg hor))
           go_roundg (out.length - (k+1))
           case measure=>omega
           case rel=>exact ⟨k+1,hlt,Nat.le_refl _,by go_num,by rw [HT3.out,←HOX.out];exact HO8.out,HB8.out⟩
         | true =>
           cases bz with
           | false =>
             have HE:=jH (show fs=(⟨#[43,32]⟩:ByteArray)++s from HFS.out);have HT3:=jH (HT2.out.trans (if_neg (by rw [HE.out,bsize_append];have:(⟨#[43,32]⟩:ByteArray).size=2:=rfl;omega)));rw [HE.out] at HT3
             go_wp2_with (first
              | (at_builtin
                 refine wpList_appendL eId (by rfl) (by rfl) wq.heap.size ys [(⟨#[43,32]⟩:ByteArray)++s] (.slice B9 ys.length e9) _ (by rfl) (by rfl) ((HY.out.below HBb.out).below (balloc jR _)) (RowIn.lit (n:=1) (f:=idC) wb ((⟨#[43,32]⟩:ByteArray)++s) _ _ _ (by first|rfl|simp) rfl) (by have:=HYL.out;simp;omega) (by have:=HBq.out.size;simp;omega) ?_;intro o8 A8 c8 w8 hout hown hg hor;have HOX:=jH (show o8=ys++[(⟨#[43,32]⟩:ByteArray)++s] from hout)
                 have HO8:=jH hown;have HB8:=jH (show jB wq w8 from (bthen HBq.out (balloc jR _)).trans (grown_own hg HY.out (by have:=HBq.out.size;simp;omega)));clear hown hout hg hor))
             go_roundg (out.length - (k+1))
             case measure=>omega
             case rel=>exact ⟨k+1,hlt,Nat.le_refl _,by go_num,by rw [HT3.out,←HOX.out];exact HO8.out,HB8.out⟩
           | true =>
             obtain ⟨r1,r2,r3⟩:=HIN.out rfl;obtain ⟨r4,r5,r6⟩:=HIN2.out rfl;have HE:=jH (show fs=if partsN z.nd y2.nd=[] then ⟨#[]⟩ else ((⟨#[126,32]⟩:ByteArray)++s)++sumW (partsN z.nd y2.nd) from HFS.out);have HWb:=jH (bthen HWI.out HBb.out);have CP:=jH (rparts_core z.nd.pol y2.nd.pol z.nd.ruled y2.nd.ruled z.nd.smp y2.nd.smp z.nd.past y2.nd.past z.sA y2.sA z.pA y2.pA z.sc y2.sc z.pc y2.pc (z.nd.ver:Nat) (y2.nd.ver:Nat) wb (jH (r1.below HWb.out)) (jH (r4.below HWb.out)) (jH (r2.below HWb.out)) (jH (r5.below HWb.out)) (jH (by
              have h1:=r3.nd.len;have h2:=r3.nd.past;have h3:=r6.nd.len;have h4:=r6.nd.past;have h5:=HRR.out;dsimp only [absI] at h1 h2 h3 h4;omega)))
             have hws:partsB (decide (z.nd.smp=y2.nd.smp)) (decide (z.nd.ruled=y2.nd.ruled) && decide (z.nd.pol=y2.nd.pol)) (decide (z.nd.past=y2.nd.past))=partsN z.nd y2.nd:=rfl;rw [hws] at CP;have hwl:(partsN z.nd y2.nd).length≤3:=parts_len _ _ _;have hwz:∀p∈partsN z.nd y2.nd,p.size≤7:=parts_word _ _ _;generalize partsN z.nd y2.nd=ws at CP HE hwl hwz;have HWL:=jH hwl;have HWZ:=jH hwz;obtain ⟨x1,x2,x3⟩:=box_cells jR HBX1.out
             obtain ⟨u1,u2,u3⟩:=box_cells jR HBX2.out;clear hwl hwz hws r1 r2 r3 r4 r5 r6 HIN HIN2
             go_upto_region 25 with (first
              | (go_at_call 20
                 refine CP.out.mono ?_;rintro e w5 ⟨A6,c6,rfl,ho5,hb5⟩;have HO5:=jH (ho5.row eId);have HB5:=jH hb5;have rd5:=HRD.out w5 (bthen HBb.out hb5);clear ho5 hb5 x1 x2 x3 u1 u2 u3 rds))
             have q7:(ws.length:Int)≤3:=by have:=HWL.out;omega
             go_upto_region 27 with fail
             go_loopg [19,20] ws.length (fun g s19 s20 wt=>∃j:Nat,j≤ws.length∧ws.length - j≤g∧s19=.string (sumR ((⟨#[126,32]⟩:ByteArray)++s) (ws.take j))∧s20=.int .i64 j∧wt=w5)
             case atStart=>exact ⟨0,Nat.zero_le _,Nat.le_refl _,rfl,rfl,rfl⟩
             case round =>
              obtain ⟨j,hj,hg,rfl,rfl,rfl⟩:=hrel;rename World=>w5
              have hsz:(sumR ((⟨#[126,32]⟩:ByteArray)++s) (ws.take j)).size≤100:=by
               have h1:=sumR_size ((⟨#[126,32]⟩:ByteArray)++s) (ws.take j) (fun p hp=>HWZ.out p (List.mem_of_mem_take hp));rw [bsize_append,List.length_take] at h1;have h2:(⟨#[126,32]⟩:ByteArray).size=2:=rfl;have:=HWL.out;omega
              by_cases hlj:j<ws.length
              · have v1:(j:Int)<(ws.length:Int):=by omega
                have v2:(0:Int)≤(j:Int):=by omega
                obtain ⟨b4,o4,rfl,hb4,hc4⟩:=HO5.out.at_ hlj;have c0:=hc4 0 _ rfl;rw [Nat.add_zero,Nat.mul_one] at c0;have HTT:=jH (show sumR ((⟨#[126,32]⟩:ByteArray)++s) (ws.take (j+1))=(sumR ((⟨#[126,32]⟩:ByteArray)++s) (ws.take j)++spS)++ws[j] by rw [List.take_succ_eq_append_getElem hlj,sumR_snoc]);have hpz:=HWZ.out _ (List.getElem_mem hlj);generalize sumR ((⟨#[126,32]⟩:ByteArray)++s) (ws.take j)=o at HTT hsz ⊢
                generalize ws[j]=p at HTT c0 hpz;have n2:¬9223372036854775807<o.size+1:=by omega
                have n3:¬9223372036854775807<o.size+1+p.size:=by omega
                clear hc4 hpz hsz;go_wp2_with fail
                go_roundg (ws.length - (j+1))
                case measure=>omega
                case rel=>exact ⟨j+1,hlj,Nat.le_refl _,by rw [HTT.out];rfl,by go_num,rfl⟩
              · obtain rfl:j=ws.length:=by omega
                have v1:¬(ws.length:Int)<(ws.length:Int):=by omega
                rw [List.take_length] at hsz ⊢;rw [sumR_eq] at hsz ⊢;have HBw:=jH (show jB wq w5 from bthen HBq.out HB5.out)
                by_cases hw0:ws=[]
                · have HE2:=jH (show fs=⟨#[]⟩ by rw [HE.out,if_pos hw0])
                  have HT3:=jH (HT2.out.trans (if_pos (by rw [HE2.out];rfl)));have v2:¬(0:Int)<(ws.length:Int):=by rw [hw0];simp
                  clear hw0;go_wp2_with fail
                  go_roundg (out.length - (k+1))
                  case measure=>omega
                  case rel=>exact ⟨k+1,hlt,Nat.le_refl _,by go_num,by rw [HT3.out];exact HY.out.below (bthen HBb.out HB5.out),HBw.out⟩
                · have HE2:=jH (show fs=((⟨#[126,32]⟩:ByteArray)++s)++sumW ws by rw [HE.out,if_neg hw0])
                  have HT3:=jH (HT2.out.trans (if_neg (by rw [HE2.out,bsize_append,bsize_append];have:(⟨#[126,32]⟩:ByteArray).size=2:=rfl;omega)));rw [HE2.out] at HT3;have v2:(0:Int)<(ws.length:Int):=by have:=List.length_pos_iff.2 hw0;omega
                  generalize ((⟨#[126,32]⟩:ByteArray)++s)++sumW ws=o at HT3 ⊢;clear hw0 hsz
                  go_wp2_with (first
                   | (at_builtin
                      refine wpList_appendL eId (by rfl) (by rfl) wq.heap.size ys [o] (.slice B9 ys.length e9) _ (by rfl) (by rfl) ((HY.out.below (bthen HBb.out HB5.out)).below (balloc jR _)) (RowIn.lit (n:=1) (f:=idC) w5 (o) _ _ _ (by first|rfl|simp) rfl) (by have:=HYL.out;simp;omega) (by have:=HBw.out.size;simp;omega) ?_;intro o8 A8 c8 w8 hout hown hg hor;have HOX:=jH (show o8=ys++[o] from hout)
                      have HO8:=jH hown;have HB8:=jH (show jB wq w8 from (bthen HBw.out (balloc jR _)).trans (grown_own hg HY.out (by have:=HBw.out.size;simp;omega)));clear hown hout hg hor))
                  go_roundg (out.length - (k+1))
                  case measure=>omega
                  case rel=>exact ⟨k+1,hlt,Nat.le_refl _,by go_num,by rw [HT3.out,←HOX.out];exact HO8.out,HB8.out⟩
     · obtain rfl:k=out.length:=by omega
       have z1':¬(out.length:Int)<(out.length:Int):=by omega
       rw [List.take_length] at hown;obtain ⟨B9,e9,rfl⟩:=hown.form;have HO9:=jH hown;have HLT:=jH (show w.heap.size≤wq.heap.size from Nat.le_trans HB0.out.size HB9.out.size);clear hown hbw;go_wp2_with fail
       go_ret
       rw [show refI ok (la++lb)=out from by rw [HAL.out,HIDS.out]];exact ⟨_,_,rfl,HO9.out.lower HLT.out,bthen HB0.out (bthen HB9.out HBi.out)⟩
end
end Go.Proofs.YtkcdhaallnhhmaaGreat
