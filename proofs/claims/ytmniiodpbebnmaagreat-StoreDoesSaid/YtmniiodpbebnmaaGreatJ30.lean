/- Part 30 of the proof. -/
import Derived.Test.YtmniiodpbebnmaaGreatJ29
namespace Go.Proofs.YtmniiodpbebnmaaGreat
set_option linter.unusedSimpArgs false
set_option linter.unusedVariables false
set_option linter.unusedSectionVars false
set_option maxRecDepth 100000
set_option maxHeartbeats 16000000
section
open Go.RowKit Go.Lib
theorem k0K (s:ByteArray) (w:World) (hm:s.size≤maxLen) :
 Calls Tryz.prog 112 #[.string s] w (jP w (.agg #[.int .u64 (c0C s).1,.int .u64 (c0C s).2])):=by
 cases hid:idS s with
 | true =>
   have e:c0C s=(hiN s.data.toList,loN s.data.toList):=by unfold c0C;rw [if_pos hid]
   rw [e];exact h1A s w hm hid
 | false =>
   have e:c0C s=(0,0):=by unfold c0C;rw [if_neg (by rw [hid];simp)]
   rw [e];have HID:=jH hid;clear hid e
   go_enter Tryz.func112,Tryz.ntmps112
   go_wp2_with (go_at_call 21;refine (h0C _ _ hm).mono ?_;rw [HID.out];rintro e w' ⟨rfl,rfl⟩)
   exact bodyPost_ret (v:=.agg #[.int .u64 0,.int .u64 0]) (by simp [results,Tryz.results112,go_sem]) rfl ⟨rfl,by repeat (first|exact jR|refine a0C ?_ _|refine Below.setCell ?_ (by simp) _)⟩
def q0J (x:WdH) (id:ByteArray):Option It:=h0L (u0E x) (c0C id)
theorem m1X (x:WdH) (id:ByteArray):(q0J x id).map (·.nd)=m0H (c0O x) id:=by
 unfold q0J m0H;rw [←n0X,w0O]
theorem o1L {x:WdH} {z:It} (h:z∈u0E x):∃s∈x.st,z∈s.l:=by
 obtain ⟨q,hq,hz⟩:=List.mem_flatten.1 h;obtain ⟨s,hs,rfl⟩:=List.mem_map.1 hq;exact ⟨s,hs,hz⟩
theorem p1T {P:Nat→Prop} {w:World} {x:WdH} {id:ByteArray} {y:It} (hx:d0U P w x) (h:q0J x id=some y):b0K P w y∧y∈u0E x:=by
 have hm:=List.mem_of_find?_eq_some h;obtain ⟨s,hs,hz⟩:=o1L hm;exact ⟨(hx.it s hs).2 y hz,hm⟩
theorem f1Q (P:Nat→Prop) (c:Cfg) (x:WdH) (id:ByteArray) (w:World) (hP:∀b,w.heap.size≤b→P b) (hx:d0U P w x) (hl:x.st.length≤64) (hn:(u0E x).length≤1000000) (hok:∀z∈u0E x,z.key.ok) (hm:id.size≤maxLen) :
 Calls Tryz.prog 68 #[.agg (wdC c x).toArray,.string id] w (jP w (.tuple #[.agg (d0X ((q0J x id).getD it0)).toArray,.bool (q0J x id).isSome])):=by
 have CA:=jH (fun (W:World) (hW:jB w W)=>show Calls Tryz.prog 118 #[.agg #[.int .i64 c.st,.int .i64 c.sa,.int .i64 c.lo,.int .i64 c.hi,.slice x.sA x.st.length x.sc,.slice x.cA x.cuts.length x.cc,.int .i64 x.ep,.bool x.over]] W (a1W P W (u0E x)) from x0K P c x W (fun b hb=>hP b (Nat.le_trans hW.size hb)) (hx.below hW) hl hn);have CK:=jH (fun W=>k0K id W hm);have CF:=jH (fun (W:World) (A:Option Addr) (cc:Nat) (h:a0O 12 itC W (.slice A (u0E x).length cc) (u0E x))=>s0D _ (u0E x) (c0C id) W h hn hok (c0S id))
 unfold q0J;generalize u0E x=l at CA CF ⊢;generalize c0C id=k at CK CF ⊢;generalize (h0L l k).isSome=fb at CF ⊢;generalize (h0L l k).getD it0=y at CF ⊢;have CF2:=jH (fun (W:World) (A:Option Addr) (cc:Nat) (h:a0O 12 itC W (.slice A l.length cc) l)=>show Calls Tryz.prog 120 #[.slice A l.length cc,.agg #[.int .u64 k.1,.int .u64 k.2]] W (jP W (.tuple #[.agg #[.slice y.sA y.nd.smp.length y.sc,.slice y.pA y.nd.past.length y.pc,.int .i64 y.nd.pol.mn,.int .i64 y.nd.pol.mx,.int .i64 y.nd.pol.tg,.int .i64 y.nd.pol.tol,.int .i64 y.nd.pol.win,.int .i64 y.nd.pol.hold,.bool y.nd.ruled,.int .i64 (y.nd.ver:Nat)],.bool fb])) from CF.out W A cc h)
 clear CF hP hx hl hn hok hm;unfold wdC
 go_enter Tryz.func68,Tryz.ntmps68
 go_wp2_with (first
  | (go_at_call 118
     refine a0B ?_;intro W1 hW1;obtain ⟨k0,k1,hs,hb⟩:=c0Y w _ _ W1 hW1;clear hW1;refine (CA.out W1 hb).mono ?_;rintro e w2 ⟨A3,c3,rfl,hit,hb2⟩;have HI2:=jH hit.1.1;have HY2:=jH (jK hb2 k1);have HB2:=jH (a0D hb hb2);clear k0 k1 hs hb hb2 hit)
  | (go_at_call 112
     refine (CK.out w2).mono ?_;rintro e w3 ⟨rfl,hb3⟩;have HI3:=jH (HI2.out.below hb3);have HY3:=jH (jK hb3 HY2.out);have HB3:=jH (a0D HB2.out hb3);clear hb3)
  | (go_at_call 120
     refine (CF2.out w3 A3 c3 HI3.out).mono ?_;rintro e w4 ⟨rfl,hb4⟩;have HY4:=jH (jK hb4 HY3.out);have HB4:=jH (a0D HB3.out hb4);obtain ⟨b1,b2,b3⟩:=a0A jR HY4.out;clear hb4))
 refine a0H ?_;intro W4 hW4;obtain ⟨h4,h5,h6,h7⟩:=t0G HY4.out _ _ _ _ _ _ _ _ _ _ W4 hW4;obtain ⟨d1,d2,d3⟩:=a0A jR h4;have hb5:=HB4.out.trans (h7 w.heap.size (by omega));clear hW4;exact bodyPost_ret (v:=.tuple #[.agg (d0X y).toArray,.bool fb]) (by simp [results,Tryz.results68,go_sem,d0X,d1]) rfl ⟨rfl,hb5⟩
theorem f1X (t:List Int) (n:Int):f0V (t++[n])=f0V t+if 0≤n then 1 else 0:=by
 unfold f0V;rw [List.countP_append]
 by_cases h:0≤n
 · simp [h]
 · simp [h]
theorem o1K (t:List Int):f0V t≤t.length:=List.countP_le_length ..
theorem e1R (v:Value) (t:List Int) (w:World) (hv:a0O 1 nmC w v t) (hl:t.length≤1000000) :
 Calls Tryz.prog 116 #[.agg #[v]] w (jP w (.int .i64 (f0V t:Nat))):=by
 obtain ⟨A,c,rfl⟩:=hv.form;have HV:=jH hv;clear hv
 go_enter Tryz.func116,Tryz.ntmps116
 go_wp2_with fail
 refine a0I ?_;intro W hW;have HX0:=jH (show W.heap[w.heap.size]?=some (.cells #[.slice A t.length c] 198 (0,0)) by rw [hW];exact heap_alloc_new _ _);have HB0:=jH (show jB w W by rw [hW];exact a0C jR _);clear hW;go_wp2
 go_loopg [3,4] t.length (fun g s3 s4 wr=>∃k:Nat,k≤t.length∧t.length - k≤g∧s4=.int .i64 k∧s3=.int .i64 (f0V (t.take k):Nat)∧jB W wr)
 case atStart=>exact ⟨0,Nat.zero_le _,Nat.le_refl _,rfl,rfl,jR⟩
 case round =>
  obtain ⟨k,hk,hg,rfl,rfl,hb⟩:=hrel;obtain ⟨a1,a2,a3,a4⟩:=b0F hb HX0.out;have HB:=jH hb;clear a4
  by_cases hlt:k<t.length
  · have z1:(k:Int)<(t.length:Int):=by omega
    have z2:(0:Int)≤(k:Int):=by omega
    obtain ⟨b,o,rfl,hbw,hc⟩:=HV.out.at_ hlt;have c1:wr.cell? ⟨b,o+k,none⟩=some (.int .i64 t[k]):=by
     have:=((a0D HB0.out hb).cell (p:=⟨b,o+k * 1+0,none⟩) hbw).trans (hc 0 _ rfl)
     simpa using this
    have HT:=jH (show f0V (t.take (k+1))=f0V (t.take k)+if 0≤t[k] then 1 else 0 by rw [List.take_succ_eq_append_getElem hlt,f1X]);have hle:f0V (t.take k)≤1000000:=by have:=o1K (t.take k);simp at this;omega
    clear hc hb;generalize t[k]=n at c1 HT;generalize f0V (t.take k)=m at HT hle ⊢
    by_cases h0:0≤n
    · have HT2:=jH (show f0V (t.take (k+1))=m+1 by rw [HT.out,if_pos h0])
      go_wp2
      go_roundg (t.length - (k+1))
      case measure=>omega
      case rel=>exact ⟨k+1,hlt,Nat.le_refl _,by go_num,by rw [HT2.out];go_num,HB.out⟩
    · have HT2:=jH (show f0V (t.take (k+1))=m by rw [HT.out,if_neg h0];rfl)
      go_wp2
      go_roundg (t.length - (k+1))
      case measure=>omega
      case rel=>exact ⟨k+1,hlt,Nat.le_refl _,by go_num,by rw [HT2.out],HB.out⟩
  · obtain rfl:k=t.length:=by omega
    have z1:¬(t.length:Int)<(t.length:Int):=by omega
    rw [List.take_length];go_wp2
    go_ret
    exact ⟨rfl,a0D HB0.out HB.out⟩
theorem r0U (v:Value) (t:List Int) (n:Int) (w:World) (hv:a0O 1 nmC w v t) (hl:t.length≤1000000) :
 Calls Tryz.prog 119 #[.agg #[v],.int .i64 n] w (jP w (.int .i64 (b0V t n))):=by
 obtain ⟨A,c,rfl⟩:=hv.form
 by_cases h1:n<1
 · have HF:=jH (show b0V t n=5 by unfold b0V;rw [if_pos (.inl h1)])
   rw [HF.out];clear hv
   go_enter Tryz.func119,Tryz.ntmps119
   go_wp2
   go_ret
   exact ⟨rfl,a0C jR _⟩
 · have d1:decide (n<1)=false:=by simp;omega
   by_cases h2:(t.length:Int)<n
   · have HF:=jH (show b0V t n=5 by unfold b0V;rw [if_pos (.inr h2)])
     rw [HF.out];clear hv
     go_enter Tryz.func119,Tryz.ntmps119
     go_wp2
     go_ret
     exact ⟨rfl,a0C jR _⟩
   · have d2:decide ((t.length:Int)<n)=false:=by simp;omega
     obtain ⟨k,rfl⟩:∃k:Nat,n=((k+1:Nat):Int):=⟨n.toNat - 1,by omega⟩;have hlt:k<t.length:=by omega
     obtain ⟨b,o,rfl,hbw,hc⟩:=hv.at_ hlt;have c1:w.cell? ⟨b,o+k,none⟩=some (.int .i64 t[k]):=by simpa using hc 0 _ rfl
     have HF:=jH (show b0V t ((k+1:Nat):Int)=if t[k]<0 then 8 else 0 by
      unfold b0V;rw [if_neg (by omega),show ((k+1:Nat):Int).toNat - 1=k by omega,List.getElem?_eq_getElem hlt])
     rw [HF.out];clear hc hv HF;generalize t[k]=m at c1 ⊢;have z1:IntKind.i64.wrap (((k+1:Nat):Int) - 1)=(k:Int):=by rw [IntKind.wrap_i64];omega
     have z1b:wrap64 (((k+1:Nat):Int) - 1)=(k:Int):=by unfold wrap64;omega
     have z2:(0:Int)≤(k:Int):=by omega
     have z3:(k:Int)<(t.length:Int):=by omega
     generalize hq:((k+1:Nat):Int)=q at *;clear hq
     by_cases h0:m<0
     · rw [if_pos h0]
       go_enter Tryz.func119,Tryz.ntmps119
       go_wp2
       go_ret
       exact ⟨rfl,a0C jR _⟩
     · rw [if_neg h0]
       go_enter Tryz.func119,Tryz.ntmps119
       go_wp2
       go_ret
       exact ⟨rfl,a0C jR _⟩
def r0K (x:WdH):List Int:=x.cuts.map fun c=>if c.fr=true then -1 else c.ep
theorem s0Q (x:WdH):r0K x=e0J (c0O x):=by
 unfold r0K e0J c0O;rw [List.map_map];rfl
def t1G (w:World) (t:List Int) (e:Ending) (w':World):Prop :=
 ∃A c,e=.returned (.agg #[.slice A t.length c])∧a0O 1 nmC w' (.slice A t.length c) t∧jB w w'
structure k1G (w wr:World) (wd:Array Value) (s:Value) (t:List Int):Prop where
 b:jB w wr
 x0:wr.heap[w.heap.size]?=some (.cells wd 32 (0,0))
 x1:wr.heap[w.heap.size+1]?=some (.cells #[.slice none 0 0] 198 (0,0))
 x2:wr.heap[w.heap.size+1+1]?=some (.cells #[s] 198 (0,0))
 own:b0Q nmC 2 1 (w.heap.size+3) wr s t
 sz:w.heap.size+3≤wr.heap.size
theorem k1G.put {w wr w2 w3:World} {wd:Array Value} {s s2:Value} {t t2:List Int} (h:k1G w wr wd s t) (hb:Below (w.heap.size+3) wr w2) (ho:b0Q nmC 2 1 (w.heap.size+3) w2 s2 t2) (h3:w3=w2.setCell ⟨w.heap.size+1+1,0,none⟩ s2):k1G w w3 wd s2 t2:=by
 subst h3;refine ⟨h.b.trans ((hb.mono (by omega)).setCell (by simp;omega) _),?_,?_,?_,?_,?_⟩
 · exact a0U ((hb.block _ (by omega)).trans h.x0) (by omega)
 · exact a0U ((hb.block _ (by omega)).trans h.x1) (by omega)
 · exact a0E ((hb.block _ (by omega)).trans h.x2)
 · exact ho.kept (fun r hr=>a0U rfl (by have:=ho.lt hr;omega))
 · have:=hb.size
   have:=h.sz;simp
   omega
theorem k0M (P:Nat→Prop) (c:Cfg) (x:WdH) (w:World) (hx:d0U P w x) (hl:x.cuts.length≤100000) :
 Calls Tryz.prog 117 #[.agg (wdC c x).toArray] w (t1G w (r0K x)):=by
 obtain ⟨sA,sc,st,cA,cc,cuts,ep,over⟩:=x;have HV:=jH (show a0O 3 cuC w (.slice cA cuts.length cc) cuts from hx.cr.1);have HS:=jH (show ∀k (hk:k<cuts.length),(r0K ⟨sA,sc,st,cA,cc,cuts,ep,over⟩).take (k+1)=(r0K ⟨sA,sc,st,cA,cc,cuts,ep,over⟩).take k++[if cuts[k].fr=true then -1 else cuts[k].ep] from fun k hk=>by
  have hk2:k<(r0K ⟨sA,sc,st,cA,cc,cuts,ep,over⟩).length:=by unfold r0K;simpa using hk
  rw [List.take_succ_eq_append_getElem hk2];simp only [r0K,List.getElem_map])
 have HN:=jH (show (r0K ⟨sA,sc,st,cA,cc,cuts,ep,over⟩).length=cuts.length by unfold r0K;simp);generalize r0K ⟨sA,sc,st,cA,cc,cuts,ep,over⟩=t at HS HN ⊢;clear hx;dsimp only at hl;unfold wdC;dsimp only
 go_enter Tryz.func117,Tryz.ntmps117
 go_wp2_with fail
 refine a0I ?_;intro W hW;have HAT0:=jH (show k1G w W #[.int .i64 c.st,.int .i64 c.sa,.int .i64 c.lo,.int .i64 c.hi,.slice sA st.length sc,.slice cA cuts.length cc,.int .i64 ep,.bool over] (.slice none 0 0) [] by
  rw [hW];exact ⟨a0C (a0C (a0C jR _) _) _,f0B _ _ _ _,f0X _ _ _ _,f0Q _ _ _ _,b0Q.nil _ _,by simp⟩)
 clear hW;go_wp2
 go_loopg [4] cuts.length (fun g s4 wr=>∃(k:Nat) (s:Value),k≤cuts.length∧cuts.length - k≤g∧s4=.int .i64 k∧k1G w wr #[.int .i64 c.st,.int .i64 c.sa,.int .i64 c.lo,.int .i64 c.hi,.slice sA st.length sc,.slice cA cuts.length cc,.int .i64 ep,.bool over] s (t.take k))
 case atStart=>exact ⟨0,_,Nat.zero_le _,Nat.le_refl _,rfl,by rw [List.take_zero];exact HAT0.out⟩
 case round =>
  obtain ⟨k,s,hk,hg,rfl,hat⟩:=hrel;rename World=>wr
  obtain ⟨A3,c3,rfl⟩:=hat.own.form;have HAT:=jH hat;have HO:=jH hat.own;have hsz:=hat.sz;obtain ⟨a1,a2,a3⟩:=a0A jR hat.x0;obtain ⟨d1,d2,d3⟩:=a0A jR hat.x2;clear hat
  by_cases hlt:k<cuts.length
  · have z1:(k:Int)<(cuts.length:Int):=by omega
    have z2:(0:Int)≤(k:Int):=by omega
    obtain ⟨b,o,rfl,hbw,hc⟩:=HV.out.at_ hlt;have c1:wr.cell? ⟨b,o+k * 3,none⟩=some (.int .i64 cuts[k].ep):=(HAT.out.b.cell (p:=⟨b,_,none⟩) hbw).trans (hc 0 _ rfl);have c2:wr.cell? ⟨b,o+k * 3+2,none⟩=some (.bool cuts[k].fr):=(HAT.out.b.cell (p:=⟨b,_,none⟩) hbw).trans (hc 2 _ rfl);have HT:=jH (HS.out k hlt);have hlen:(t.take k).length≤100000:=by have:=HN.out;simp;omega
    have hbw2:b<wr.heap.size:=Nat.lt_of_lt_of_le hbw HAT.out.b.size;clear hc;generalize cuts[k]=y at c1 c2 HT;generalize t.take k=pre at HO HAT HT hlen d1;obtain ⟨ye,yA,yc,yl,yf⟩:=y;dsimp only at c1 c2 HT;have hbase:w.heap.size+3≤wr.heap.size:=hsz
    cases yf
    · have HT2:=jH (show t.take (k+1)=pre++[ye] from HT.out)
      clear HT
      go_upto_region 7 with fail
      go_region_law ((
        refine d0B eNm (by rfl) (.tmp 24) (.tmp 31) (by rfl) (w.heap.size+3) pre [ye] (.slice A3 pre.length c3) _ (by rfl) (by rfl) (HO.out.below (by repeat (first|exact jR|refine a0C ?_ _|refine Below.drew ?_|refine a0F ?_ _))) (a0O.lit (n:=1) (f:=nmC) _ ye _ _ _ (by first|rfl|simp) rfl) (by simp;omega) (by simp;omega) ?_;intro out4 A4 c4 w4 hout hown4 hg4 hblk4;have hb4:Below (w.heap.size+3) wr w4:=(Below.mono (by repeat (first|exact Below.refl wr.heap.size wr|refine a0C ?_ _|refine Below.drew ?_|refine a0F ?_ _)) hbase).trans (a0Z hg4 HO.out (by simp;omega))
        have HOUT:=jH hout;have HOWN:=jH hown4;have HB4:=jH hb4;obtain ⟨e1,e2,e3⟩:=a0A jR ((hb4.block (w.heap.size+1+1) (by omega)).trans HAT.out.x2);clear hout hown4 hg4 hblk4 hb4))
      all_goals
        go_wp2
        go_roundg (cuts.length - (k+1))
        case measure=>omega
        case rel=>exact ⟨k+1,_,hlt,Nat.le_refl _,by go_num,by rw [HT2.out,←HOUT.out];exact HAT.out.put HB4.out HOWN.out rfl⟩
    · have HT2:=jH (show t.take (k+1)=pre++[-1] from HT.out)
      clear HT
      go_wp2_with (at_builtin;refine a0N eNm (by rfl) (by rfl) (w.heap.size+3) pre [-1] _ _ (by rfl) (by rfl) (HO.out.below (a0C jR _)) (a0O.lit wr (-1) _ _ _ rfl rfl) (by simp;omega) (by simp;omega) ?_;intro out2 A2 c2' w2 hout2 hown2 hg2 _
                   have hb2:Below (w.heap.size+3) wr w2:=(Below.mono (a0C (Below.refl wr.heap.size wr) _) hbase).trans (a0Z hg2 HO.out (by simp;omega));have HOWN:=jH hown2;have HOUT:=jH hout2;have HB4:=jH hb2;obtain ⟨e1,e2,e3⟩:=a0A jR ((hb2.block (w.heap.size+1+1) (by omega)).trans HAT.out.x2);clear hown2 hout2 hg2 hb2)
      go_roundg (cuts.length - (k+1))
      case measure=>omega
      case rel=>exact ⟨k+1,_,hlt,Nat.le_refl _,by go_num,by rw [HT2.out,←HOUT.out];exact HAT.out.put HB4.out HOWN.out rfl⟩
  · obtain rfl:k=cuts.length:=by omega
    have z1:¬(cuts.length:Int)<(cuts.length:Int):=by omega
    have htl:t.take cuts.length=t:=by rw [List.take_of_length_le (by rw [HN.out];exact Nat.le_refl _)]
    rw [htl] at HO HAT d1;clear htl;have hx1:=HAT.out.x1;obtain ⟨f1,f2,f3⟩:=a0A jR hx1;go_wp2
    refine a0H ?_;intro W4 hW4;have hW5:W4=wr.setCell ⟨w.heap.size+1,0,none⟩ (.slice A3 t.length c3):=hW4;have h4:W4.heap[w.heap.size+1]?=some (.cells #[.slice A3 t.length c3] 198 (0,0)):=by rw [hW5];exact a0E hx1
    obtain ⟨g1,g2,g3⟩:=a0A jR h4;have hb5:jB w W4:=by rw [hW5];exact HAT.out.b.setCell (by simp) _
    have ho5:b0Q nmC 2 1 (w.heap.size+3) W4 (.slice A3 t.length c3) t:=HO.out.kept (fun r hr=>by rw [hW5];exact a0U rfl (by have:=HO.out.lt hr;omega));clear hW4 hW5;exact bodyPost_ret (v:=.agg #[.slice A3 t.length c3]) (by simp [results,Tryz.results117,go_sem,g1]) rfl ⟨A3,c3,rfl,ho5.row eNm,hb5⟩

section
section
variable {w a b:World} {n:Nat} {cs ds:Array Value}
end
section
variable (s:Nat) (sa lo hi:Int) (id:ByteArray) (tick val handle a b tg tol win hold:Int) (w:World)
end
end

section
section
variable (id:ByteArray) (tick val handle a b tg tol win hold:Int) (w:World)
theorem u0T (hid:id.size≤maxLen) :
 Calls Tryz.prog 33 #[b0A (d0Q 1 id tick val handle a b tg tol win hold)] w (jP w (.int .i64 (if idS id=true then g0V tick val else 2))):=by
 unfold b0A d0Q;simp only
 cases hi:idS id with
 | false =>
   have Hi:=jH hi;clear hi
   go_enter Tryz.func33,Tryz.ntmps33
   go_wp2_with (go_at_call 21;refine (h0C _ _ hid).mono ?_;rw [Hi.out];rintro e w' ⟨rfl,rfl⟩)
   go_ret
   exact ⟨rfl,a0C jR _⟩
 | true =>
   have Hi:=jH hi;clear hi
   go_enter Tryz.func33,Tryz.ntmps33
   go_wp2_with (first|(go_at_call 21;refine (h0C _ _ hid).mono ?_;rw [Hi.out];rintro e w' ⟨rfl,rfl⟩)|(go_at_call 91;refine (q0G _ _ _).mono ?_;rintro e w' ⟨rfl,rfl⟩))
   go_ret
   exact ⟨rfl,a0C jR _⟩
theorem x0Q :
 Calls Tryz.prog 33 #[b0A (d0Q 2 id tick val handle a b tg tol win hold)] w (jP w (.int .i64 (if tick<0 then 3 else 0))):=by
 unfold b0A d0Q;simp only
 by_cases ht:tick<0
 · rw [if_pos ht]
   go_enter Tryz.func33,Tryz.ntmps33
   go_wp2
   go_ret
   exact ⟨rfl,a0C jR _⟩
 · rw [if_neg ht]
   go_enter Tryz.func33,Tryz.ntmps33
   go_wp2
   go_ret
   exact ⟨rfl,a0C jR _⟩
theorem u0O (hid:id.size≤maxLen) :
 Calls Tryz.prog 33 #[b0A (d0Q 6 id tick val handle a b tg tol win hold)] w (jP w (.int .i64 (if idS id=true then j0N ⟨a,b,tg,tol,win,hold⟩ else 2))):=by
 unfold b0A d0Q;simp only
 cases hi:idS id with
 | false =>
   have Hi:=jH hi;clear hi
   go_enter Tryz.func33,Tryz.ntmps33
   go_wp2_with (go_at_call 21;refine (h0C _ _ hid).mono ?_;rw [Hi.out];rintro e w' ⟨rfl,rfl⟩)
   go_ret
   exact ⟨rfl,a0C jR _⟩
 | true =>
   have Hi:=jH hi;clear hi
   cases hp:d0G ⟨a,b,tg,tol,win,hold⟩ with
   | false =>
     have he:j0N ⟨a,b,tg,tol,win,hold⟩=7:=by simp [j0N,hp]
     rw [he];have Hp:=jH hp;clear hp he
     go_enter Tryz.func33,Tryz.ntmps33
     go_wp2_with (first|(go_at_call 21;refine (h0C _ _ hid).mono ?_;rw [Hi.out];rintro e w' ⟨rfl,rfl⟩)|(go_at_call 92;refine (j0X ⟨a,b,tg,tol,win,hold⟩ _).mono ?_;rw [Hp.out];rintro e w2 ⟨rfl,hb2⟩))
     go_ret
     exact ⟨rfl,a0D (a0C jR _) hb2⟩
   | true =>
     have he:j0N ⟨a,b,tg,tol,win,hold⟩=0:=by simp [j0N,hp]
     rw [he];have Hp:=jH hp;clear hp he
     go_enter Tryz.func33,Tryz.ntmps33
     go_wp2_with (first|(go_at_call 21;refine (h0C _ _ hid).mono ?_;rw [Hi.out];rintro e w' ⟨rfl,rfl⟩)|(go_at_call 92;refine (j0X ⟨a,b,tg,tol,win,hold⟩ _).mono ?_;rw [Hp.out];rintro e w2 ⟨rfl,hb2⟩))
     go_ret
     exact ⟨rfl,a0D (a0C jR _) hb2⟩
theorem v0K (hid:id.size≤maxLen) :
 Calls Tryz.prog 33 #[b0A (d0Q 5 id tick val handle a b tg tol win hold)] w (jP w (.int .i64 (if idS id=true then 0 else 2))):=by
 unfold b0A d0Q;simp only
 cases hi:idS id with
 | false =>
   have Hi:=jH hi;clear hi
   go_enter Tryz.func33,Tryz.ntmps33
   go_wp2_with (go_at_call 21;refine (h0C _ _ hid).mono ?_;rw [Hi.out];rintro e w' ⟨rfl,rfl⟩)
   go_ret
   exact ⟨rfl,a0C jR _⟩
 | true =>
   have Hi:=jH hi;clear hi
   go_enter Tryz.func33,Tryz.ntmps33
   go_wp2_with (go_at_call 21;refine (h0C _ _ hid).mono ?_;rw [Hi.out];rintro e w' ⟨rfl,rfl⟩)
   go_ret
   exact ⟨rfl,a0C jR _⟩
theorem u0L (hid:id.size≤maxLen) :
 Calls Tryz.prog 33 #[b0A (d0Q 7 id tick val handle a b tg tol win hold)] w (jP w (.int .i64 (if idS id=true then 0 else 2))):=by
 unfold b0A d0Q;simp only
 cases hi:idS id with
 | false =>
   have Hi:=jH hi;clear hi
   go_enter Tryz.func33,Tryz.ntmps33
   go_wp2_with (go_at_call 21;refine (h0C _ _ hid).mono ?_;rw [Hi.out];rintro e w' ⟨rfl,rfl⟩)
   go_ret
   exact ⟨rfl,a0C jR _⟩
 | true =>
   have Hi:=jH hi;clear hi
   go_enter Tryz.func33,Tryz.ntmps33
   go_wp2_with (go_at_call 21;refine (h0C _ _ hid).mono ?_;rw [Hi.out];rintro e w' ⟨rfl,rfl⟩)
   go_ret
   exact ⟨rfl,a0C jR _⟩
theorem v0H :
 Calls Tryz.prog 33 #[b0A (d0Q 3 id tick val handle a b tg tol win hold)] w (jP w (.int .i64 (0))):=by
 unfold b0A d0Q;simp only
 go_enter Tryz.func33,Tryz.ntmps33
 go_wp2
 go_ret
 exact ⟨rfl,a0C jR _⟩
theorem v0E :
 Calls Tryz.prog 33 #[b0A (d0Q 4 id tick val handle a b tg tol win hold)] w (jP w (.int .i64 (0))):=by
 unfold b0A d0Q;simp only
 go_enter Tryz.func33,Tryz.ntmps33
 go_wp2
 go_ret
 exact ⟨rfl,a0C jR _⟩
theorem v0J :
 Calls Tryz.prog 33 #[b0A (d0Q 8 id tick val handle a b tg tol win hold)] w (jP w (.int .i64 (0))):=by
 unfold b0A d0Q;simp only
 go_enter Tryz.func33,Tryz.ntmps33
 go_wp2
 go_ret
 exact ⟨rfl,a0C jR _⟩
theorem s0O (k:Int) (hk:k<1∨8<k) :
 Calls Tryz.prog 33 #[b0A (d0Q k id tick val handle a b tg tol win hold)] w (jP w (.int .i64 (14))):=by
 unfold b0A d0Q;simp only
 by_cases h1:k<1
 · go_enter Tryz.func33,Tryz.ntmps33
   go_wp2
   go_ret
   exact ⟨rfl,a0C jR _⟩
 · have h2:8<k:=by omega
   clear hk
   go_enter Tryz.func33,Tryz.ntmps33
   go_wp2
   go_ret
   exact ⟨rfl,a0C jR _⟩
end
theorem b0T (c:c0D) (w:World) (hc:c.ok) :
 Calls Tryz.prog 33 #[b0A c] w (jP w (.int .i64 (e0Y c))):=by
 obtain ⟨kind,id,tick,val,handle,⟨a,b,tg,tol,win,hold⟩⟩:=c;obtain ⟨_,hid,_,_,_,_⟩:=hc;simp only at hid
 rcases k0U ⟨kind,id,tick,val,handle,⟨a,b,tg,tol,win,hold⟩⟩ with h|h|h|h|h|h|h|h|h
 all_goals simp only at h
 · subst h
   have e:e0Y ⟨1,id,tick,val,handle,⟨a,b,tg,tol,win,hold⟩⟩=if idS id=true then g0V tick val else 2:=by
    cases hi:idS id <;> simp [e0Y,hi]
   rw [e];exact u0T id tick val handle a b tg tol win hold w hid
 · subst h
   have e:e0Y ⟨2,id,tick,val,handle,⟨a,b,tg,tol,win,hold⟩⟩=if tick<0 then 3 else 0:=by simp [e0Y]
   rw [e];exact x0Q id tick val handle a b tg tol win hold w
 · subst h
   exact v0H id tick val handle a b tg tol win hold w
 · subst h
   exact v0E id tick val handle a b tg tol win hold w
 · subst h
   have e:e0Y ⟨5,id,tick,val,handle,⟨a,b,tg,tol,win,hold⟩⟩=if idS id=true then 0 else 2:=by
    cases hi:idS id <;> simp [e0Y,hi]
   rw [e];exact v0K id tick val handle a b tg tol win hold w hid
 · subst h
   have e:e0Y ⟨6,id,tick,val,handle,⟨a,b,tg,tol,win,hold⟩⟩=if idS id=true then j0N ⟨a,b,tg,tol,win,hold⟩ else 2:=by
    cases hi:idS id <;> cases hp:d0G ⟨a,b,tg,tol,win,hold⟩ <;> simp [e0Y,j0N,hi,hp]
   rw [e];exact u0O id tick val handle a b tg tol win hold w hid
 · subst h
   have e:e0Y ⟨7,id,tick,val,handle,⟨a,b,tg,tol,win,hold⟩⟩=if idS id=true then 0 else 2:=by
    cases hi:idS id <;> simp [e0Y,hi]
   rw [e];exact u0L id tick val handle a b tg tol win hold w hid
 · subst h
   exact v0J id tick val handle a b tg tol win hold w
 · have e:e0Y ⟨kind,id,tick,val,handle,⟨a,b,tg,tol,win,hold⟩⟩=14:=by simp [e0Y,h]
   rw [e];exact s0O id tick val handle a b tg tol win hold w kind h
end
theorem c1Q (a b k:Nat):(a ^^^ b) % 2 ^ (k+1)=(a ^^^ b) % 2 ^ k+if a / 2 ^ k % 2=b / 2 ^ k % 2 then 0 else 2 ^ k:=by
 have h1:(a ^^^ b) / 2 ^ k % 2=if a / 2 ^ k % 2=b / 2 ^ k % 2 then 0 else 1:=by
  rw [←Nat.shiftRight_eq_div_pow,Nat.shiftRight_xor_distrib,Nat.shiftRight_eq_div_pow,Nat.shiftRight_eq_div_pow];have h2:=Nat.xor_mod_two_eq_one (a:=a / 2 ^ k) (b:=b / 2 ^ k);have h3:=Nat.mod_lt ((a / 2 ^ k) ^^^ (b / 2 ^ k)) (show 0<2 by decide);have h4:=Nat.mod_lt (a / 2 ^ k) (show 0<2 by decide);have h5:=Nat.mod_lt (b / 2 ^ k) (show 0<2 by decide)
  split <;> omega
 have h2:(a ^^^ b) % 2 ^ (k+1)=(a ^^^ b) % 2 ^ k+2 ^ k * ((a ^^^ b) / 2 ^ k % 2):=by
  rw [Nat.pow_succ,Nat.mod_mul]
 rw [h2,h1]
 split <;> simp
theorem h0O (a k:Nat):a / 2 ^ k / 2=a / 2 ^ (k+1):=by rw [Nat.div_div_eq_div_mul,Nat.pow_succ]
theorem g1E (a b:Nat) (w:World) (ha:a<256) (hb:b<256) :
 Calls Tryz.prog 214 #[.int .u64 a,.int .u64 b] w fun e w'=>e=.returned (.int .u64 ((a ^^^ b:Nat):Int))∧w=w':=by
 go_enter Tryz.func214,Tryz.ntmps214
 go_wp2
 go_loop [0,1,5,6,7] (fun x y o n i=>∃k:Nat,k≤8∧i=.int .i64 k∧x=.int .u64 (a / 2 ^ k:Nat)∧y=.int .u64 (b / 2 ^ k:Nat)∧o=.int .u64 ((a ^^^ b) % 2 ^ k:Nat)∧n=.int .u64 (2 ^ k:Nat)) (fun _ _ _ _ i=>8 - (intOf i).toNat)
 case atStart=>exact ⟨0,by omega,rfl,by simp,by simp,by simp [Nat.mod_one],rfl⟩
 case round =>
  obtain ⟨k,hk,rfl,rfl,rfl,rfl,rfl⟩:=hrel
  by_cases hlt:k<8
  · have hp:2 ^ k≤2 ^ 7:=Nat.pow_le_pow_right (by decide) (by omega)
    have hx:(a ^^^ b) % 2 ^ k<2 ^ k:=Nat.mod_lt _ (Nat.pow_pos (by decide));have ha2:a / 2 ^ k≤a:=Nat.div_le_self _ _;have hb2:b / 2 ^ k≤b:=Nat.div_le_self _ _;have s1:=jH (c1Q a b k);have s2:=jH (h0O a k);have s3:=jH (h0O b k);have s4:=jH (Nat.pow_succ 2 k)
    by_cases he:a / 2 ^ k % 2=b / 2 ^ k % 2
    · have He:=jH he
      clear he;generalize hA:a / 2 ^ k=A at *;generalize hB:b / 2 ^ k=B at *;generalize hX:(a ^^^ b) % 2 ^ k=X at *;generalize hN:2 ^ k=N at *;clear hA hB hX hN;have hq:((A:Int) % 2 != (B:Int) % 2)=false:=by have:=He.out;simp;omega
      go_wp2
      go_round
      case rel=>exact ⟨k+1,hlt,by go_num,by rw [←s2.out];simp,by rw [←s3.out];simp,by rw [s1.out,if_pos He.out];simp,by rw [s4.out];simp⟩
      case measure=>simp [intOf];omega
    · have He:=jH he
      clear he;generalize hA:a / 2 ^ k=A at *;generalize hB:b / 2 ^ k=B at *;generalize hX:(a ^^^ b) % 2 ^ k=X at *;generalize hN:2 ^ k=N at *;clear hA hB hX hN;have hq:((A:Int) % 2 != (B:Int) % 2)=true:=by have:=He.out;simp;omega
      go_wp2
      go_round
      case rel=>exact ⟨k+1,hlt,by go_num,by rw [←s2.out];simp,by rw [←s3.out];simp,by rw [s1.out,if_neg He.out];simp,by rw [s4.out];simp⟩
      case measure=>simp [intOf];omega
  · obtain rfl:k=8:=by omega
    go_wp2
    go_ret
    have hv:a ^^^ b<2 ^ 8:=Nat.xor_lt_two_pow (by omega) (by omega);exact ⟨c0G (by omega),rfl⟩
theorem r1E (h c:Nat) (hc:c<256):h - h % 256+((h % 256) ^^^ c)=h ^^^ c:=by
 have h1:(h ^^^ c) / 256=h / 256:=by
  have:=Nat.shiftRight_xor_distrib (a:=h) (b:=c) (i:=8);rw [Nat.shiftRight_eq_div_pow,Nat.shiftRight_eq_div_pow,Nat.shiftRight_eq_div_pow] at this;have h2:c / 2 ^ 8=0:=Nat.div_eq_of_lt hc;rw [h2,Nat.xor_zero] at this;exact this
 have h2:(h ^^^ c) % 256=(h % 256) ^^^ c:=by
  have:=Nat.xor_mod_two_pow (a:=h) (b:=c) (n:=8);rw [show (2:Nat) ^ 8=256 from rfl,Nat.mod_eq_of_lt hc] at this;exact this
 omega
theorem p0Q (h c:Nat) (w:World) (hh:h<18446744073709551616) (hc:c<256) :
 Calls Tryz.prog 161 #[.int .u64 h,.int .u8 c] w fun e w'=>e=.returned (.int .u64 (k0B h c:Nat))∧w=w':=by
 have hx:=r1E h c hc;have hlt:h ^^^ c<2 ^ 64:=Nat.xor_lt_two_pow (by omega) (by omega);have hb:(h % 256) ^^^ c<2 ^ 8:=Nat.xor_lt_two_pow (by omega) (by omega);have hl:h % 256<256:=by omega
 have hd:((h:Int) % 256)=((h % 256:Nat):Int):=by simp
 have hs:((h:Int) - ((h % 256:Nat):Int))+((((h % 256) ^^^ c:Nat)):Int)=((h ^^^ c:Nat):Int):=by omega
 have hst:IntKind.u64.wrap (((h ^^^ c:Nat):Int) * 1099511628211)=(k0B h c:Nat):=by
  rw [show ((h ^^^ c:Nat):Int) * 1099511628211=(((h ^^^ c) * a1F:Nat):Int) by rw [Int.natCast_mul];rfl,n0I];rfl
 have hle:h % 256≤h:=by omega
 generalize hm:h % 256=m at *;generalize hX:m ^^^ c=X at *;generalize hY:h ^^^ c=Y at *;have Hm:=jH hm;have HX:=jH hX;have Hst:=jH hst;have Hs:=jH hs;have Hd:=jH hd;clear hm hX hY hst hs hd hx
 go_enter Tryz.func161,Tryz.ntmps161
 go_wp2_with fail
 rw [Hd.out];refine (g1E m c _ hl hc).mono ?_;rw [HX.out];rintro e w' ⟨rfl,rfl⟩;have hbd:(h:Int) - (m:Int)+(X:Int)≤18446744073709551615:=by have:=Hs.out;omega
 go_wp2
 go_ret
 refine ⟨c0G ?_,rfl⟩;rw [←Hst.out,←Hs.out]
def hG (f:Nat→Nat→Nat) (x h0:Nat):Nat→Nat
  | 0=>h0
  | k+1=>f (hG f x h0 k) (x / (72057594037927936 / 256 ^ k) % 256)
def hF (x h0 k:Nat):Nat:=hG k0B x h0 k
theorem a1B (x h0 k:Nat):hF x h0 (k+1)=k0B (hF x h0 k) (x / (72057594037927936 / 256 ^ k) % 256):=rfl
theorem t1T (x h0 k:Nat) (h:h0<18446744073709551616):hF x h0 k<18446744073709551616:=by
 cases k with
 | zero=>exact h
 | succ k=>rw [a1B];exact c1F _ _
theorem k1J (l:List Int) (h:∀n∈l,0≤n∧n<256) (h0:Nat):(strOfNums l).data.toList.foldl (fun h b=>k0B h b.toNat) h0=l.foldl (fun h n=>k0B h n.toNat) h0:=by
 rw [strOfNums_data]
 induction l generalizing h0 with
 | nil=>rfl
 | cons a l ih =>
   have ha:=h a (by simp);rw [List.map_cons,List.foldl_cons,List.foldl_cons];have e:(UInt8.ofNat a.toNat).toNat=a.toNat:=by
    rw [UInt8.toNat_ofNat'];omega
   rw [e];exact ih (fun n hn=>h n (by simp [hn])) _
theorem p1F (x k:Nat):0≤a0X x k∧a0X x k<256:=by unfold a0X;omega
theorem m1K (x k:Nat):(a0X x k).toNat=x / k % 256:=by unfold a0X;omega
theorem e1P (f:Nat→Nat→Nat) (hi lo b:Nat):(k0N hi lo).foldl (fun h n=>f h n.toNat) b=hG f lo (hG f hi b 8) 8:=by
 simp only [k0N,List.foldl_cons,List.foldl_nil,m1K,hG,Nat.reducePow,Nat.reduceDiv]
theorem j1C (hi lo:Nat):j0D hi lo=hF lo (hF hi f0I 8) 8:=by
 have h:∀n∈k0N hi lo,0≤n∧n<256:=by
  intro n hn;simp only [k0N,List.mem_cons,List.not_mem_nil,or_false] at hn
  rcases hn with rfl|rfl|rfl|rfl|rfl|rfl|rfl|rfl|rfl|rfl|rfl|rfl|rfl|rfl|rfl|rfl <;> exact p1F _ _
 unfold j0D r0J i1A;rw [k1J _ h];exact e1P k0B hi lo f0I
theorem s0T (hi lo:Nat) (w:World) (h1:hi<18446744073709551616) (h2:lo<18446744073709551616) :
 Calls Tryz.prog 90 #[x0D hi lo] w (jP w (.int .u64 (j0D hi lo:Nat))):=by
 have hk:=jH (j1C hi lo);unfold x0D
 go_enter Tryz.func90,Tryz.ntmps90
 go_wp2
 go_loop [3,4,5] (fun h d i=>∃k:Nat,k≤8∧i=.int .i64 k∧d=.int .u64 (72057594037927936 / 256 ^ k:Nat)∧h=.int .u64 (hF hi f0I k:Nat)) (fun _ _ i=>8 - (intOf i).toNat)
 case atStart=>exact ⟨0,by omega,rfl,by simp,rfl⟩
 case round =>
  obtain ⟨k,hk8,rfl,rfl,rfl⟩:=hrel
  by_cases hlt:k<8
  · have hst:hF hi f0I (k+1)=k0B (hF hi f0I k) (hi / (72057594037927936 / 256 ^ k) % 256):=a1B _ _ _
    have hd:72057594037927936 / 256 ^ k / 256=72057594037927936 / 256 ^ (k+1):=by rw [Nat.div_div_eq_div_mul,Nat.pow_succ]
    have hp:1≤72057594037927936 / 256 ^ k:=by
     have h3:256 ^ k≤256 ^ 7:=Nat.pow_le_pow_right (by decide) (by omega);exact (Nat.le_div_iff_mul_le (Nat.pow_pos (by decide))).2 (by omega)
    have hpu:72057594037927936 / 256 ^ k≤72057594037927936:=Nat.div_le_self _ _;have hl:=t1T hi f0I k t0W;have Hst:=jH hst;have Hd:=jH hd;clear hst hd;generalize hx:72057594037927936 / 256 ^ k=D at *;generalize hy:hF hi f0I k=H at *;clear hx hy;have hc:hi / D % 256<256:=Nat.mod_lt _ (by decide);have hdv:hi / D≤hi:=Nat.div_le_self _ _;have hdi:(hi:Int) / (D:Int)=((hi / D:Nat):Int):=by simp
    have hb1:0≤(hi:Int) / (D:Int):=by rw [hdi];exact Int.natCast_nonneg _
    have hb2:(hi:Int) / (D:Int)≤18446744073709551615:=by rw [hdi];omega
    have hm:(hi:Int) / (D:Int) % 256=((hi / D % 256:Nat):Int):=by rw [hdi];simp
    have Hm:=jH hm;clear hdi hm;go_wp2_with fail
    rw [Hm.out];refine (p0Q H (hi / D % 256) _ hl hc).mono ?_;rintro e w' ⟨rfl,rfl⟩;go_wp2
    go_round
    case rel=>exact ⟨k+1,hlt,by go_num,by rw [←Hd.out];simp,by rw [Hst.out]⟩
    case measure=>simp [intOf];omega
  · obtain rfl:k=8:=by omega
    have hB:=t1T hi f0I 8 t0W;generalize hF hi f0I 8=B0 at *;go_wp2
    go_loop [3,4,6] (fun h d i=>∃k:Nat,k≤8∧i=.int .i64 k∧d=.int .u64 (72057594037927936 / 256 ^ k:Nat)∧h=.int .u64 (hF lo B0 k:Nat)) (fun _ _ i=>8 - (intOf i).toNat)
    case atStart=>exact ⟨0,by omega,rfl,by simp,rfl⟩
    case round =>
     obtain ⟨k,hk8',rfl,rfl,rfl⟩:=hrel
     by_cases hlt:k<8
     · have hst:hF lo B0 (k+1)=k0B (hF lo B0 k) (lo / (72057594037927936 / 256 ^ k) % 256):=a1B _ _ _
       have hd:72057594037927936 / 256 ^ k / 256=72057594037927936 / 256 ^ (k+1):=by rw [Nat.div_div_eq_div_mul,Nat.pow_succ]
       have hp:1≤72057594037927936 / 256 ^ k:=by
        have h3:256 ^ k≤256 ^ 7:=Nat.pow_le_pow_right (by decide) (by omega);exact (Nat.le_div_iff_mul_le (Nat.pow_pos (by decide))).2 (by omega)
       have hpu:72057594037927936 / 256 ^ k≤72057594037927936:=Nat.div_le_self _ _;have hl:=t1T lo B0 k hB;have Hst:=jH hst;have Hd:=jH hd;clear hst hd;generalize hx:72057594037927936 / 256 ^ k=D at *;generalize hy:hF lo B0 k=H at *;clear hx hy;have hc:lo / D % 256<256:=Nat.mod_lt _ (by decide);have hdv:lo / D≤lo:=Nat.div_le_self _ _;have hdi:(lo:Int) / (D:Int)=((lo / D:Nat):Int):=by simp
       have hb1:0≤(lo:Int) / (D:Int):=by rw [hdi];exact Int.natCast_nonneg _
       have hb2:(lo:Int) / (D:Int)≤18446744073709551615:=by rw [hdi];omega
       have hm:(lo:Int) / (D:Int) % 256=((lo / D % 256:Nat):Int):=by rw [hdi];simp
       have Hm:=jH hm;clear hdi hm;go_wp2_with fail
       rw [Hm.out];refine (p0Q H (lo / D % 256) _ hl hc).mono ?_;rintro e w' ⟨rfl,rfl⟩;go_wp2
       go_round
       case rel=>exact ⟨k+1,hlt,by go_num,by rw [←Hd.out];simp,by rw [Hst.out]⟩
       case measure=>simp [intOf];omega
     · obtain rfl:k=8:=by omega
       go_wp2
       go_ret
       exact ⟨c0G (by rw [hk.out]),a0C jR _⟩
theorem m1V (h m:Nat) (h1:1≤m) (h2:m≤32):j0E h m=(h % 2 ^ m) ^^^ (h / 2 ^ m % 2 ^ m):=by
 rw [j0E,if_neg (by omega),Nat.xor_mod_two_pow]
theorem z0K (h m:Nat) (w:World) (hh:h<18446744073709551616) (hm:m≤6) :
 Calls Tryz.prog 89 #[.int .u64 h,.int .i64 m] w fun e w'=>e=.returned (.int .u64 (j0E h m:Nat))∧w=w':=by
 by_cases h0:m<1
 · obtain rfl:m=0:=by omega
   have hv:j0E h 0=0:=by simp [j0E]
   rw [hv];clear hv
   go_enter Tryz.func89,Tryz.ntmps89
   go_wp2
   go_ret
   exact ⟨rfl,rfl⟩
 · have hfin:=jH (m1V h m (by omega) (by omega))
   have q0:(1:Int)≤(m:Int):=by omega
   go_enter Tryz.func89,Tryz.ntmps89
   go_wp2
   go_loop [5,6] (fun d i=>∃k:Nat,k≤m∧i=.int .i64 k∧d=.int .u64 (2 ^ k:Nat)) (fun _ i=>m - (intOf i).toNat)
   case atStart=>exact ⟨0,by omega,rfl,rfl⟩
   case round =>
    obtain ⟨k,hk,rfl,rfl⟩:=hrel;have hp:2 ^ k≤2 ^ 6:=Nat.pow_le_pow_right (by decide) (by omega);have hp1:1≤2 ^ k:=Nat.pow_pos (by decide)
    by_cases hlt:k<m
    · have s4:=jH (Nat.pow_succ 2 k)
      generalize hN:2 ^ k=N at *;clear hN;go_wp2
      go_round
      case rel=>exact ⟨k+1,hlt,by go_num,by rw [s4.out];simp⟩
      case measure=>simp [intOf];omega
    · obtain rfl:k=m:=by omega
      have hA:h % 2 ^ k<2 ^ k:=Nat.mod_lt _ hp1;have hB:h / 2 ^ k % 2 ^ k<2 ^ k:=Nat.mod_lt _ hp1;have hAi:(h:Int) % ((2 ^ k:Nat):Int)=((h % 2 ^ k:Nat):Int):=by simp
      have hBi:(h:Int) / ((2 ^ k:Nat):Int) % ((2 ^ k:Nat):Int)=((h / 2 ^ k % 2 ^ k:Nat):Int):=by simp
      have hd:h / 2 ^ k≤h:=Nat.div_le_self _ _;have hDi:(h:Int) / ((2 ^ k:Nat):Int)=((h / 2 ^ k:Nat):Int):=by simp
      have hb1:0≤(h:Int) / ((2 ^ k:Nat):Int):=by rw [hDi];exact Int.natCast_nonneg _
      have hb2:(h:Int) / ((2 ^ k:Nat):Int)≤18446744073709551615:=by rw [hDi];omega
      have HAi:=jH hAi;have HBi:=jH hBi;clear hAi hBi hDi hd;generalize hx:h % 2 ^ k=A at *;generalize hy:h / 2 ^ k % 2 ^ k=B at *;have Hp:Hid (∀j,j≤k→2 ^ j≤2 ^ 6):=jH (fun j hj=>Nat.pow_le_pow_right (by decide) (by omega));have HA:Hid (A<2 ^ k∧B<2 ^ k):=jH ⟨hA,hB⟩;clear hx hy;generalize hN:2 ^ k=N at HAi HBi hb1 hb2 hp hp1 hA hB ⊢;have HN:=jH hN;clear hN;go_wp2
      rw [HAi.out,HBi.out];have hk6:(k:Int)≤6:=by omega
      clear hb1 hb2 hlt hk
      go_loop [7,8,9,10,11] (fun x y o n i=>∃j:Nat,j≤k∧i=.int .i64 j∧x=.int .u64 (A / 2 ^ j:Nat)∧y=.int .u64 (B / 2 ^ j:Nat)∧o=.int .u64 ((A ^^^ B) % 2 ^ j:Nat)∧n=.int .u64 (2 ^ j:Nat)) (fun _ _ _ _ i=>k - (intOf i).toNat)
      case atStart=>exact ⟨0,by omega,rfl,by simp,by simp,by simp [Nat.mod_one],rfl⟩
      case round =>
       obtain ⟨j,hj,rfl,rfl,rfl,rfl,rfl⟩:=hrel
       by_cases hlt2:j<k
       · have hp:=Hp.out j hj
         have hx:(A ^^^ B) % 2 ^ j<2 ^ j:=Nat.mod_lt _ (Nat.pow_pos (by decide));have ha2:A / 2 ^ j≤A:=Nat.div_le_self _ _;have hb2:B / 2 ^ j≤B:=Nat.div_le_self _ _;have s1:=jH (c1Q A B j);have s4:=jH (Nat.pow_succ 2 j)
         by_cases he:A / 2 ^ j % 2=B / 2 ^ j % 2
         · have s2:=jH (h0O A j)
           have s3:=jH (h0O B j);have He:=jH he;clear he;generalize hA':A / 2 ^ j=A' at *;generalize hB':B / 2 ^ j=B' at *;generalize hX':(A ^^^ B) % 2 ^ j=X at *;generalize hM':2 ^ j=M at *;clear hA' hB' hX' hM';have hq:((A':Int) % 2 != (B':Int) % 2)=false:=by have:=He.out;simp;omega
           go_wp2
           go_round
           case rel=>exact ⟨j+1,hlt2,by go_num,by rw [←s2.out];simp,by rw [←s3.out];simp,by rw [s1.out,if_pos He.out];simp,by rw [s4.out];simp⟩
           case measure=>simp [intOf];omega
         · have s2:=jH (h0O A j)
           have s3:=jH (h0O B j);have He:=jH he;clear he;generalize hA':A / 2 ^ j=A' at *;generalize hB':B / 2 ^ j=B' at *;generalize hX':(A ^^^ B) % 2 ^ j=X at *;generalize hM':2 ^ j=M at *;clear hA' hB' hX' hM';have hq:((A':Int) % 2 != (B':Int) % 2)=true:=by have:=He.out;simp;omega
           go_wp2
           go_round
           case rel=>exact ⟨j+1,hlt2,by go_num,by rw [←s2.out];simp,by rw [←s3.out];simp,by rw [s1.out,if_neg He.out];simp,by rw [s4.out];simp⟩
           case measure=>simp [intOf];omega
       · obtain rfl:j=k:=by omega
         go_wp2
         go_ret
         refine ⟨c0G ?_,rfl⟩;rw [hfin.out];have hv:A ^^^ B<2 ^ j:=Nat.xor_lt_two_pow HA.out.1 HA.out.2;have hv2:(A ^^^ B) % 2 ^ j=A ^^^ B:=Nat.mod_eq_of_lt hv;rw [show ((A ^^^ B:Nat):Int) % 2 ^ j=(((A ^^^ B) % 2 ^ j:Nat):Int) by simp,hv2]
theorem l1I (hi lo:Nat) (n:Int) (w:World) (h1:hi<18446744073709551616) (h2:lo<18446744073709551616) :
 Calls Tryz.prog 31 #[x0D hi lo,.int .i64 n] w (jP w (.int .i64 (c0Z hi lo n))):=by
 cases hr:e0X n with
 | false =>
   have hv:c0Z hi lo n = -1:=by simp [c0Z,hr]
   have hb:(m0G n<0):=by
    have:=c1V n;rw [hr] at this
    simpa using this
   rw [hv];clear hr hv;unfold x0D
   go_enter Tryz.func31,Tryz.ntmps31
   go_wp2_with (go_at_call 47;refine (i0B n _).mono ?_;rintro e w' ⟨rfl,rfl⟩)
   go_ret
   exact ⟨rfl,a0C jR _⟩
 | true =>
   have hb:=c1K n hr;obtain ⟨m,hm⟩:=Int.eq_ofNat_of_zero_le hb.1;have hv:c0Z hi lo n=(j0E (j0D hi lo) m:Nat):=by simp [c0Z,hr,hm]
   have hf:=c1L (j0D hi lo) m;have hk:=v0Y hi lo;have hm6:m≤6:=by omega
   rw [hv];have Hm:=jH hm;clear hr hv hm hb;unfold x0D
   go_enter Tryz.func31,Tryz.ntmps31
   go_wp2_with (first
    | (go_at_call 47;refine (i0B n _).mono ?_;rw [Hm.out];rintro e w' ⟨rfl,rfl⟩)
    | (go_at_call 90;refine (s0T hi lo _ h1 h2).mono ?_;rintro e w1 ⟨rfl,hb1⟩)
    | (go_at_call 89;refine (z0K _ m _ hk hm6).mono ?_;rintro e w' ⟨rfl,rfl⟩))
   go_ret
   exact ⟨rfl,a0D (a0C jR _) hb1⟩
end
end Go.Proofs.YtmniiodpbebnmaaGreat
