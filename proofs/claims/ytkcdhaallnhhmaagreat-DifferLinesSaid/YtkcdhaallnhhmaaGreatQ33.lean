/- Part 33 of the proof: W21C. -/
import Derived.Test.YtkcdhaallnhhmaaGreatQ21
namespace Go.Proofs.YtkcdhaallnhhmaaGreat
set_option linter.unusedSimpArgs false
set_option linter.unusedVariables false
set_option linter.unusedSectionVars false
set_option maxRecDepth 100000
set_option maxHeartbeats 16000000
section
open Go.RowKit Go.Lib
theorem liveT_snoc (t:List Int) (n:Int):liveT (t++[n])=liveT t+if 0≤n then 1 else 0:=by
 unfold liveT;rw [List.countP_append]
 by_cases h:0≤n
 · simp [h]
 · simp [h]
theorem liveT_le (t:List Int):liveT t≤t.length:=List.countP_le_length ..
theorem live20_any (v:Value) (t:List Int) (w:World) (hv:RowIn 1 nmC w v t) (hl:t.length≤1000000) :
 Calls Tryz.prog 141 #[.agg #[v]] w (jP w (.int .i64 (liveT t:Nat))):=by
 obtain ⟨A,c,rfl⟩:=hv.form;have HV:=jH hv;clear hv
 go_enter Tryz.func141,Tryz.ntmps141
 go_wp2_with fail
 refine name_world ?_;intro W hW;have HX0:=jH (show W.heap[w.heap.size]?=some (.cells #[.slice A t.length c] 223 (0,0)) by rw [hW];exact heap_alloc_new _ _);have HB0:=jH (show jB w W by rw [hW];exact balloc jR _);clear hW;go_wp2
 go_loopg [3,4] t.length (fun g s3 s4 wr=>∃k:Nat,k≤t.length∧t.length - k≤g∧s4=.int .i64 k∧s3=.int .i64 (liveT (t.take k):Nat)∧jB W wr)
 case atStart=>exact ⟨0,Nat.zero_le _,Nat.le_refl _,rfl,rfl,jR⟩
 case round =>
  obtain ⟨k,hk,hg,rfl,rfl,hb⟩:=hrel;obtain ⟨a1,a2,a3,a4⟩:=box_at hb HX0.out;have HB:=jH hb;clear a4
  by_cases hlt:k<t.length
  · have z1:(k:Int)<(t.length:Int):=by omega
    have z2:(0:Int)≤(k:Int):=by omega
    obtain ⟨b,o,rfl,hbw,hc⟩:=HV.out.at_ hlt;have c1:wr.cell? ⟨b,o+k,none⟩=some (.int .i64 t[k]):=by
     have:=((bthen HB0.out hb).cell (p:=⟨b,o+k * 1+0,none⟩) hbw).trans (hc 0 _ rfl)
     simpa using this
    have HT:=jH (show liveT (t.take (k+1))=liveT (t.take k)+if 0≤t[k] then 1 else 0 by rw [List.take_succ_eq_append_getElem hlt,liveT_snoc]);have hle:liveT (t.take k)≤1000000:=by have:=liveT_le (t.take k);simp at this;omega
    clear hc hb;generalize t[k]=n at c1 HT;generalize liveT (t.take k)=m at HT hle ⊢
    by_cases h0:0≤n
    · have HT2:=jH (show liveT (t.take (k+1))=m+1 by rw [HT.out,if_pos h0])
      go_wp2
      go_roundg (t.length - (k+1))
      case measure=>omega
      case rel=>exact ⟨k+1,hlt,Nat.le_refl _,by go_num,by rw [HT2.out];go_num,HB.out⟩
    · have HT2:=jH (show liveT (t.take (k+1))=m by rw [HT.out,if_neg h0];rfl)
      go_wp2
      go_roundg (t.length - (k+1))
      case measure=>omega
      case rel=>exact ⟨k+1,hlt,Nat.le_refl _,by go_num,by rw [HT2.out],HB.out⟩
  · obtain rfl:k=t.length:=by omega
    have z1:¬(t.length:Int)<(t.length:Int):=by omega
    rw [List.take_length];go_wp2
    go_ret
    exact ⟨rfl,bthen HB0.out HB.out⟩
theorem find20_any (v:Value) (t:List Int) (n:Int) (w:World) (hv:RowIn 1 nmC w v t) (hl:t.length≤1000000) :
 Calls Tryz.prog 143 #[.agg #[v],.int .i64 n] w (jP w (.int .i64 (findT t n))):=by
 obtain ⟨A,c,rfl⟩:=hv.form
 by_cases h1:n<1
 · have HF:=jH (show findT t n=5 by unfold findT;rw [if_pos (.inl h1)])
   rw [HF.out];clear hv
   go_enter Tryz.func143,Tryz.ntmps143
   go_wp2
   go_ret
   exact ⟨rfl,balloc jR _⟩
 · have d1:decide (n<1)=false:=by simp;omega
   by_cases h2:(t.length:Int)<n
   · have HF:=jH (show findT t n=5 by unfold findT;rw [if_pos (.inr h2)])
     rw [HF.out];clear hv
     go_enter Tryz.func143,Tryz.ntmps143
     go_wp2
     go_ret
     exact ⟨rfl,balloc jR _⟩
   · have d2:decide ((t.length:Int)<n)=false:=by simp;omega
     obtain ⟨k,rfl⟩:∃k:Nat,n=((k+1:Nat):Int):=⟨n.toNat - 1,by omega⟩;have hlt:k<t.length:=by omega
     obtain ⟨b,o,rfl,hbw,hc⟩:=hv.at_ hlt;have c1:w.cell? ⟨b,o+k,none⟩=some (.int .i64 t[k]):=by simpa using hc 0 _ rfl
     have HF:=jH (show findT t ((k+1:Nat):Int)=if t[k]<0 then 8 else 0 by
      unfold findT;rw [if_neg (by omega),show ((k+1:Nat):Int).toNat - 1=k by omega,List.getElem?_eq_getElem hlt])
     rw [HF.out];clear hc hv HF;generalize t[k]=m at c1 ⊢;have z1:IntKind.i64.wrap (((k+1:Nat):Int) - 1)=(k:Int):=by rw [IntKind.wrap_i64];omega
     have z1b:wrap64 (((k+1:Nat):Int) - 1)=(k:Int):=by unfold wrap64;omega
     have z2:(0:Int)≤(k:Int):=by omega
     have z3:(k:Int)<(t.length:Int):=by omega
     generalize hq:((k+1:Nat):Int)=q at *;clear hq
     by_cases h0:m<0
     · rw [if_pos h0]
       go_enter Tryz.func143,Tryz.ntmps143
       go_wp2
       go_ret
       exact ⟨rfl,balloc jR _⟩
     · rw [if_neg h0]
       go_enter Tryz.func143,Tryz.ntmps143
       go_wp2
       go_ret
       exact ⟨rfl,balloc jR _⟩
def tabX (x:WdH):List Int:=x.cuts.map fun c=>if c.fr=true then -1 else c.ep
theorem tabX_abs (x:WdH):tabX x=tabW (absW x):=by
 unfold tabX tabW absW;rw [List.map_map];rfl
def TabSays (w:World) (t:List Int) (e:Ending) (w':World):Prop :=
 ∃A c,e=.returned (.agg #[.slice A t.length c])∧RowIn 1 nmC w' (.slice A t.length c) t∧jB w w'
structure TabAt (w wr:World) (wd:Array Value) (s:Value) (t:List Int):Prop where
 b:jB w wr
 x0:wr.heap[w.heap.size]?=some (.cells wd 32 (0,0))
 x1:wr.heap[w.heap.size+1]?=some (.cells #[.slice none 0 0] 223 (0,0))
 x2:wr.heap[w.heap.size+1+1]?=some (.cells #[s] 223 (0,0))
 own:OwnL nmC 2 1 (w.heap.size+3) wr s t
 sz:w.heap.size+3≤wr.heap.size
theorem TabAt.put {w wr w2 w3:World} {wd:Array Value} {s s2:Value} {t t2:List Int} (h:TabAt w wr wd s t) (hb:Below (w.heap.size+3) wr w2) (ho:OwnL nmC 2 1 (w.heap.size+3) w2 s2 t2) (h3:w3=w2.setCell ⟨w.heap.size+1+1,0,none⟩ s2):TabAt w w3 wd s2 t2:=by
 subst h3;refine ⟨h.b.trans ((hb.mono (by omega)).setCell (by simp;omega) _),?_,?_,?_,?_,?_⟩
 · exact heap_set_ne ((hb.block _ (by omega)).trans h.x0) (by omega)
 · exact heap_set_ne ((hb.block _ (by omega)).trans h.x1) (by omega)
 · exact setCell_block ((hb.block _ (by omega)).trans h.x2)
 · exact ho.kept (fun r hr=>heap_set_ne rfl (by have:=ho.lt hr;omega))
 · have:=hb.size
   have:=h.sz;simp
   omega
theorem table21_any (P:Nat→Prop) (c:Cfg) (x:WdH) (w:World) (hx:WdIn P w x) (hl:x.cuts.length≤100000) :
 Calls Tryz.prog 142 #[.agg (wdC c x).toArray] w (TabSays w (tabX x)):=by
 obtain ⟨sA,sc,st,cA,cc,cuts,ep,over⟩:=x;have HV:=jH (show RowIn 3 cuC w (.slice cA cuts.length cc) cuts from hx.cr.1);have HS:=jH (show ∀k (hk:k<cuts.length),(tabX ⟨sA,sc,st,cA,cc,cuts,ep,over⟩).take (k+1)=(tabX ⟨sA,sc,st,cA,cc,cuts,ep,over⟩).take k++[if cuts[k].fr=true then -1 else cuts[k].ep] from fun k hk=>by
  have hk2:k<(tabX ⟨sA,sc,st,cA,cc,cuts,ep,over⟩).length:=by unfold tabX;simpa using hk
  rw [List.take_succ_eq_append_getElem hk2];simp only [tabX,List.getElem_map])
 have HN:=jH (show (tabX ⟨sA,sc,st,cA,cc,cuts,ep,over⟩).length=cuts.length by unfold tabX;simp);generalize tabX ⟨sA,sc,st,cA,cc,cuts,ep,over⟩=t at HS HN ⊢;clear hx;dsimp only at hl;unfold wdC;dsimp only
 go_enter Tryz.func142,Tryz.ntmps142
 go_wp2_with fail
 refine name_world ?_;intro W hW;have HAT0:=jH (show TabAt w W #[.int .i64 c.st,.int .i64 c.sa,.int .i64 c.lo,.int .i64 c.hi,.slice sA st.length sc,.slice cA cuts.length cc,.int .i64 ep,.bool over] (.slice none 0 0) [] by
  rw [hW];exact ⟨balloc (balloc (balloc jR _) _) _,box3_0 _ _ _ _,box3_1 _ _ _ _,box3_2 _ _ _ _,OwnL.nil _ _,by simp⟩)
 clear hW;go_wp2
 go_loopg [4] cuts.length (fun g s4 wr=>∃(k:Nat) (s:Value),k≤cuts.length∧cuts.length - k≤g∧s4=.int .i64 k∧TabAt w wr #[.int .i64 c.st,.int .i64 c.sa,.int .i64 c.lo,.int .i64 c.hi,.slice sA st.length sc,.slice cA cuts.length cc,.int .i64 ep,.bool over] s (t.take k))
 case atStart=>exact ⟨0,_,Nat.zero_le _,Nat.le_refl _,rfl,by rw [List.take_zero];exact HAT0.out⟩
 case round =>
  obtain ⟨k,s,hk,hg,rfl,hat⟩:=hrel;rename World=>wr
  obtain ⟨A3,c3,rfl⟩:=hat.own.form;have HAT:=jH hat;have HO:=jH hat.own;have hsz:=hat.sz;obtain ⟨a1,a2,a3⟩:=box_cells jR hat.x0;obtain ⟨d1,d2,d3⟩:=box_cells jR hat.x2;clear hat
  by_cases hlt:k<cuts.length
  · have z1:(k:Int)<(cuts.length:Int):=by omega
    have z2:(0:Int)≤(k:Int):=by omega
    obtain ⟨b,o,rfl,hbw,hc⟩:=HV.out.at_ hlt;have c1:wr.cell? ⟨b,o+k * 3,none⟩=some (.int .i64 cuts[k].ep):=(HAT.out.b.cell (p:=⟨b,_,none⟩) hbw).trans (hc 0 _ rfl);have c2:wr.cell? ⟨b,o+k * 3+2,none⟩=some (.bool cuts[k].fr):=(HAT.out.b.cell (p:=⟨b,_,none⟩) hbw).trans (hc 2 _ rfl);have HT:=jH (HS.out k hlt);have hlen:(t.take k).length≤100000:=by have:=HN.out;simp;omega
    have hbw2:b<wr.heap.size:=Nat.lt_of_lt_of_le hbw HAT.out.b.size;clear hc;generalize cuts[k]=y at c1 c2 HT;generalize t.take k=pre at HO HAT HT hlen d1;obtain ⟨ye,yA,yc,yl,yf⟩:=y;dsimp only at c1 c2 HT;have hbase:w.heap.size+3≤wr.heap.size:=hsz
    cases yf
    · have HT2:=jH (show t.take (k+1)=pre++[ye] from HT.out)
      clear HT
      go_upto_region 7 with fail
      go_region_law ((
        refine step_appendL eNm (by rfl) (.tmp 24) (.tmp 31) (by rfl) (w.heap.size+3) pre [ye] (.slice A3 pre.length c3) _ (by rfl) (by rfl) (HO.out.below (by repeat (first|exact jR|refine balloc ?_ _|refine Below.drew ?_|refine below_drewN ?_ _))) (RowIn.lit (n:=1) (f:=nmC) _ ye _ _ _ (by first|rfl|simp) rfl) (by simp;omega) (by simp;omega) ?_;intro out4 A4 c4 w4 hout hown4 hg4 hblk4;have hb4:Below (w.heap.size+3) wr w4:=(Below.mono (by repeat (first|exact Below.refl wr.heap.size wr|refine balloc ?_ _|refine Below.drew ?_|refine below_drewN ?_ _)) hbase).trans (grown_own hg4 HO.out (by simp;omega))
        have HOUT:=jH hout;have HOWN:=jH hown4;have HB4:=jH hb4;obtain ⟨e1,e2,e3⟩:=box_cells jR ((hb4.block (w.heap.size+1+1) (by omega)).trans HAT.out.x2);clear hout hown4 hg4 hblk4 hb4))
      all_goals
        go_wp2
        go_roundg (cuts.length - (k+1))
        case measure=>omega
        case rel=>exact ⟨k+1,_,hlt,Nat.le_refl _,by go_num,by rw [HT2.out,←HOUT.out];exact HAT.out.put HB4.out HOWN.out rfl⟩
    · have HT2:=jH (show t.take (k+1)=pre++[-1] from HT.out)
      clear HT
      go_wp2_with (at_builtin;refine wpList_appendL eNm (by rfl) (by rfl) (w.heap.size+3) pre [-1] _ _ (by rfl) (by rfl) (HO.out.below (balloc jR _)) (RowIn.lit wr (-1) _ _ _ rfl rfl) (by simp;omega) (by simp;omega) ?_;intro out2 A2 c2' w2 hout2 hown2 hg2 _
                   have hb2:Below (w.heap.size+3) wr w2:=(Below.mono (balloc (Below.refl wr.heap.size wr) _) hbase).trans (grown_own hg2 HO.out (by simp;omega));have HOWN:=jH hown2;have HOUT:=jH hout2;have HB4:=jH hb2;obtain ⟨e1,e2,e3⟩:=box_cells jR ((hb2.block (w.heap.size+1+1) (by omega)).trans HAT.out.x2);clear hown2 hout2 hg2 hb2)
      go_roundg (cuts.length - (k+1))
      case measure=>omega
      case rel=>exact ⟨k+1,_,hlt,Nat.le_refl _,by go_num,by rw [HT2.out,←HOUT.out];exact HAT.out.put HB4.out HOWN.out rfl⟩
  · obtain rfl:k=cuts.length:=by omega
    have z1:¬(cuts.length:Int)<(cuts.length:Int):=by omega
    have htl:t.take cuts.length=t:=by rw [List.take_of_length_le (by rw [HN.out];exact Nat.le_refl _)]
    rw [htl] at HO HAT d1;clear htl;have hx1:=HAT.out.x1;obtain ⟨f1,f2,f3⟩:=box_cells jR hx1;go_wp2
    refine post_named ?_;intro W4 hW4;have hW5:W4=wr.setCell ⟨w.heap.size+1,0,none⟩ (.slice A3 t.length c3):=hW4;have h4:W4.heap[w.heap.size+1]?=some (.cells #[.slice A3 t.length c3] 223 (0,0)):=by rw [hW5];exact setCell_block hx1
    obtain ⟨g1,g2,g3⟩:=box_cells jR h4;have hb5:jB w W4:=by rw [hW5];exact HAT.out.b.setCell (by simp) _
    have ho5:OwnL nmC 2 1 (w.heap.size+3) W4 (.slice A3 t.length c3) t:=HO.out.kept (fun r hr=>by rw [hW5];exact heap_set_ne rfl (by have:=HO.out.lt hr;omega));clear hW4 hW5;exact bodyPost_ret (v:=.agg #[.slice A3 t.length c3]) (by simp [results,Tryz.results142,go_sem,g1]) rfl ⟨A3,c3,rfl,ho5.row eNm,hb5⟩
end
end Go.Proofs.YtkcdhaallnhhmaaGreat
