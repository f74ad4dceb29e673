/- Part 23 of the proof: FlD, RefFnv, RefHome. -/
import Derived.Test.YtpmfcpdelkchaaaGreatL20
import Derived.Test.YtpmfcpdelkchaaaGreatL21
import Derived.Test.YtpmfcpdelkchaaaGreatL22
namespace Go.Proofs.YtpmfcpdelkchaaaGreat
set_option linter.unusedSimpArgs false
set_option linter.unusedVariables false
set_option linter.unusedSectionVars false
set_option maxRecDepth 100000
set_option maxHeartbeats 16000000
section
open Go.RowKit Go.Lib
def planF (o:Option It):Adv × Int:=match o with
 | none=>(adv0,5)
 | some x=>if x.nd.ruled=true then decI x.nd.pol x.nd.smp x.nd.past else (adv0,5)
theorem flPlan_no (M:Option Addr) (id:ByteArray) (o:Option It) (w:World) (ho:o=none∨∃x,o=some x∧x.nd.ruled=false)
    (CL:Hid (∀W,jB w W→Calls Tryz.prog 97 #[.pointer M,.string id] W (LoadS W o))) :
    Calls Tryz.prog 99 #[.pointer M,.string id] w (jP w (.tuple #[.agg (advC adv0).toArray,.int .i64 5])):=by
  obtain ⟨ob,hob⟩:∃b,b=o.isSome:=⟨_,rfl⟩;have hru:∀y:It,y.nd=(o.getD it00).nd→ob=false∨y.nd.ruled=false:=fun y hy=>by
   rcases ho with rfl|⟨x,rfl,hx⟩
   · exact .inl hob
   · exact .inr (by rw [hy];exact hx)
  unfold LoadS at CL;rw [←hob] at CL;have HRU:=jH hru;clear ho hru hob
  go_enter Tryz.func99,Tryz.ntmps99
  go_upto_region 2 with (first
   | (go_at_call 97
      refine calls_named ?_;intro W1 hW1;have hb1:jB w W1:=by rw [hW1];exact balloc jR _
      have HR1:=jH (show W1.heap[w.heap.size]?=some (.cells #[.int .i64 0,.int .i64 0,.int .i64 0,.int .i64 0,.int .i64 0] 74 (0,0)) by rw [hW1];exact heap_alloc_new _ _);have HB1:=jH hb1;clear hW1 hb1;refine (CL.out W1 HB1.out).mono ?_;rintro e w2 ⟨y,rfl,hy1,hy3,hb2⟩;have HR2:=jH (jK hb2 HR1.out);have HB2:=jH (bthen HB1.out hb2);have HY3:=jH hy3.load;unfold ldV ldC;have HRY:=jH (HRU.out y hy1);clear hb2 hy3 hy1))
  refine name_world ?_;intro W3 hW3;have hd3:jB w2 W3:=by rw [hW3];exact balloc jR _
  have hx3:W3.heap[w2.heap.size]?=some (.cells #[.slice y.sA y.nd.smp.length y.sc,.slice y.pA y.nd.past.length y.pc,.int .i64 y.nd.pol.mn,.int .i64 y.nd.pol.mx,.int .i64 y.nd.pol.tg,.int .i64 y.nd.pol.tol,.int .i64 y.nd.pol.win,.int .i64 y.nd.pol.hold,.bool y.nd.ruled] 50 (0,0)):=by rw [hW3];exact heap_alloc_new _ _
  have HRX:=jH (jK hd3 HR2.out);have HBX:=jH (bthen HB2.out hd3);clear hW3 hd3;obtain ⟨b1,b2,b3⟩:=box_cells jR hx3;obtain ⟨r1,r2,r3⟩:=box_cells jR HRX.out;clear hx3
  rcases HRY.out with h9|h9
  all_goals (first|subst h9|rw [h9] at b1)
  all_goals go_wp2_with fail
  all_goals
      refine post_named ?_;intro W9 hW9;have hW9':W9=stor W3 w.heap.size 0 [.int .i64 0,.int .i64 0,.int .i64 0,.int .i64 0,.int .i64 0]:=hW9;obtain ⟨t1,t2,t3,t4⟩:=stor_at HRX.out [.int .i64 0,.int .i64 0,.int .i64 0,.int .i64 0,.int .i64 0] rfl W9 hW9';obtain ⟨a9,a8,a7⟩:=box_cells jR t1;clear hW9 hW9';exact bodyPost_ret (v:=.tuple #[.agg #[.int .i64 0,.int .i64 0,.int .i64 0,.int .i64 0,.int .i64 0],.int .i64 5]) (by simp [results,Tryz.results99,go_sem,a9]) rfl ⟨rfl,HBX.out.trans (t4 _ (Nat.le_refl _))⟩
theorem flPlan_yes (M:Option Addr) (id:ByteArray) (x:It) (w:World) (hx:x.nd.ruled=true) (hl1:x.nd.smp.length≤1000000) (hl2:x.nd.past.length≤1000000) (hi:smpI x.nd.smp) (hp:x.nd.pol.ok)
    (CL:Hid (∀W,jB w W→Calls Tryz.prog 97 #[.pointer M,.string id] W (LoadS W (some x)))) :
    Calls Tryz.prog 99 #[.pointer M,.string id] w (jP w (.tuple #[.agg (advC (decI x.nd.pol x.nd.smp x.nd.past).1).toArray,.int .i64 (decI x.nd.pol x.nd.smp x.nd.past).2])):=by
  obtain ⟨⟨a,er⟩,ha⟩:∃r,decI x.nd.pol x.nd.smp x.nd.past=r:=⟨_,rfl⟩;have HCO:=jH (show ∀(y:It) W,y.nd=x.nd→LoadIn (fun _=>True) W y→Calls Tryz.prog 141 #[.agg #[.int .i64 y.nd.pol.mn,.int .i64 y.nd.pol.mx,.int .i64 y.nd.pol.tg,.int .i64 y.nd.pol.tol,.int .i64 y.nd.pol.win,.int .i64 y.nd.pol.hold],.slice y.sA y.nd.smp.length y.sc,.slice y.pA y.nd.past.length y.pc] W (jP W (.tuple #[.agg #[.int .i64 a.tick,.int .i64 a.load,.int .i64 a.want,.int .i64 a.repl,.int .i64 a.why],.int .i64 er])) from fun y W hy hin=>by
   have:=decOf_any y.nd.pol y.nd.smp y.nd.past _ _ W hin.1.1 hin.2.1 (by rw [hy];exact hl1) (by rw [hy];exact hl2) (by rw [hy];exact hi) (by rw [hy];exact hp);rw [show decI y.nd.pol y.nd.smp y.nd.past=(a,er) by rw [hy];exact ha] at this;exact this)
  rw [ha];unfold advC;dsimp only;unfold LoadS at CL;have HRU:=jH (show ∀y:It,y.nd=x.nd→y.nd.ruled=true from fun y hy=>by rw [hy];exact hx);clear hx hl1 hl2 hi hp ha
  go_enter Tryz.func99,Tryz.ntmps99
  go_upto_region 2 with (first
   | (go_at_call 97
      refine calls_named ?_;intro W1 hW1;have hb1:jB w W1:=by rw [hW1];exact balloc jR _
      have HR1:=jH (show W1.heap[w.heap.size]?=some (.cells #[.int .i64 0,.int .i64 0,.int .i64 0,.int .i64 0,.int .i64 0] 74 (0,0)) by rw [hW1];exact heap_alloc_new _ _);have HB1:=jH hb1;clear hW1 hb1;refine (CL.out W1 HB1.out).mono ?_;rintro e w2 ⟨y,rfl,hy1,hy3,hb2⟩;have HR2:=jH (jK hb2 HR1.out);have HB2:=jH (bthen HB1.out hb2);have HY3:=jH hy3.load;have HRY:=jH (HRU.out y hy1);have HC2:=jH (fun W=>HCO.out y W hy1)
      unfold ldV ldC;clear hb2 hy3 hy1))
  refine name_world ?_;intro W3 hW3;have hd3:jB w2 W3:=by rw [hW3];exact balloc jR _
  have hx3:W3.heap[w2.heap.size]?=some (.cells #[.slice y.sA y.nd.smp.length y.sc,.slice y.pA y.nd.past.length y.pc,.int .i64 y.nd.pol.mn,.int .i64 y.nd.pol.mx,.int .i64 y.nd.pol.tg,.int .i64 y.nd.pol.tol,.int .i64 y.nd.pol.win,.int .i64 y.nd.pol.hold,.bool y.nd.ruled] 50 (0,0)):=by rw [hW3];exact heap_alloc_new _ _
  have HR3:=jH (jK hd3 HR2.out);have HB3:=jH (bthen HB2.out hd3);have HY4:=jH ((HY3.out.below hd3).imp (fun b hb=>True.intro));clear hW3 hd3;obtain ⟨b1,b2,b3⟩:=box_cells jR hx3;clear hx3;rw [HRY.out] at b1
  go_wp2_with (first
   | (go_at_call 141
      refine (HC2.out W3 HY4.out).mono ?_;rintro e w4 ⟨rfl,hb4⟩;have HRX:=jH (jK hb4 HR3.out);have HBX:=jH (bthen HB3.out hb4);obtain ⟨r1,r2,r3⟩:=box_cells jR HRX.out;clear hb4 b1 b2 b3))
  refine post_named ?_;intro W9 hW9;have hW9':W9=stor w4 w.heap.size 0 [.int .i64 a.tick,.int .i64 a.load,.int .i64 a.want,.int .i64 a.repl,.int .i64 a.why]:=hW9;obtain ⟨t1,t2,t3,t4⟩:=stor_at HRX.out [.int .i64 a.tick,.int .i64 a.load,.int .i64 a.want,.int .i64 a.repl,.int .i64 a.why] rfl W9 hW9';obtain ⟨a9,a8,a7⟩:=box_cells jR t1;clear hW9 hW9';exact bodyPost_ret (v:=.tuple #[.agg #[.int .i64 a.tick,.int .i64 a.load,.int .i64 a.want,.int .i64 a.repl,.int .i64 a.why],.int .i64 er]) (by simp [results,Tryz.results99,go_sem,a9]) rfl ⟨rfl,HBX.out.trans (t4 _ (Nat.le_refl _))⟩
end
section
open Go.RowKit Go.Lib
theorem refStep_any (h c:Nat) (w:World) (hh:h<18446744073709551616) (hc:c<256) :
 Calls Tryz.prog 244 #[.int .u64 h,.int .u8 c] w fun e w'=>e=.returned (.int .u64 (stepH h c:Nat))∧w=w':=by
 have hx:=xor_byte h c hc;have hlt:h ^^^ c<2 ^ 64:=Nat.xor_lt_two_pow (by omega) (by omega);have hb:(h % 256) ^^^ c<2 ^ 8:=Nat.xor_lt_two_pow (by omega) (by omega);have hl:h % 256<256:=by omega
 have hd:((h:Int) % 256)=((h % 256:Nat):Int):=by simp
 have hs:((h:Int) - ((h % 256:Nat):Int))+((((h % 256) ^^^ c:Nat)):Int)=((h ^^^ c:Nat):Int):=by omega
 have hst:IntKind.u64.wrap (((h ^^^ c:Nat):Int) * 1099511628211)=(stepH h c:Nat):=by
  rw [show ((h ^^^ c:Nat):Int) * 1099511628211=(((h ^^^ c) * prime64:Nat):Int) by rw [Int.natCast_mul];rfl,u64_wrap_mod];rfl
 have hle:h % 256≤h:=by omega
 generalize hm:h % 256=m at *;generalize hX:m ^^^ c=X at *;generalize hY:h ^^^ c=Y at *;have Hm:=jH hm;have HX:=jH hX;have Hst:=jH hst;have Hs:=jH hs;have Hd:=jH hd;clear hm hX hY hst hs hd hx
 go_enter Tryz.func244,Tryz.ntmps244
 go_wp2_with fail
 rw [Hd.out];refine (unlike_any m c _ hl hc).mono ?_;rw [HX.out];rintro e w' ⟨rfl,rfl⟩;have hbd:(h:Int) - (m:Int)+(X:Int)≤18446744073709551615:=by have:=Hs.out;omega
 go_wp2
 go_ret
 refine ⟨ret_int ?_,rfl⟩;rw [←Hst.out,←Hs.out]
def hG (f:Nat→Nat→Nat) (x h0:Nat):Nat→Nat
  | 0=>h0
  | k+1=>f (hG f x h0 k) (x / (72057594037927936 / 256 ^ k) % 256)
def hF (x h0 k:Nat):Nat:=hG stepH x h0 k
theorem hF_succ (x h0 k:Nat):hF x h0 (k+1)=stepH (hF x h0 k) (x / (72057594037927936 / 256 ^ k) % 256):=rfl
theorem hF_lt (x h0 k:Nat) (h:h0<18446744073709551616):hF x h0 k<18446744073709551616:=by
 cases k with
 | zero=>exact h
 | succ k=>rw [hF_succ];exact stepH_lt _ _
theorem sumL_nums (l:List Int) (h:∀n∈l,0≤n∧n<256) (h0:Nat):(strOfNums l).data.toList.foldl (fun h b=>stepH h b.toNat) h0=l.foldl (fun h n=>stepH h n.toNat) h0:=by
 rw [strOfNums_data]
 induction l generalizing h0 with
 | nil=>rfl
 | cons a l ih =>
   have ha:=h a (by simp);rw [List.map_cons,List.foldl_cons,List.foldl_cons];have e:(UInt8.ofNat a.toNat).toNat=a.toNat:=by
    rw [UInt8.toNat_ofNat'];omega
   rw [e];exact ih (fun n hn=>h n (by simp [hn])) _
theorem byteI_bd (x k:Nat):0≤byteI x k∧byteI x k<256:=by unfold byteI;omega
theorem byteI_nat (x k:Nat):(byteI x k).toNat=x / k % 256:=by unfold byteI;omega
theorem keyNums_hG (f:Nat→Nat→Nat) (hi lo b:Nat):(keyNums hi lo).foldl (fun h n=>f h n.toNat) b=hG f lo (hG f hi b 8) 8:=by
 simp only [keyNums,List.foldl_cons,List.foldl_nil,byteI_nat,hG,Nat.reducePow,Nat.reduceDiv]
theorem fnvKey_hF (hi lo:Nat):fnvKey hi lo=hF lo (hF hi basis64 8) 8:=by
 have h:∀n∈keyNums hi lo,0≤n∧n<256:=by
  intro n hn;simp only [keyNums,List.mem_cons,List.not_mem_nil,or_false] at hn
  rcases hn with rfl|rfl|rfl|rfl|rfl|rfl|rfl|rfl|rfl|rfl|rfl|rfl|rfl|rfl|rfl|rfl <;> exact byteI_bd _ _
 unfold fnvKey keyStr sumL;rw [sumL_nums _ h];exact keyNums_hG stepH hi lo basis64
theorem refFnvKey_any (hi lo:Nat) (w:World) (h1:hi<18446744073709551616) (h2:lo<18446744073709551616) :
 Calls Tryz.prog 203 #[keyV hi lo] w (jP w (.int .u64 (fnvKey hi lo:Nat))):=by
 have hk:=jH (fnvKey_hF hi lo);unfold keyV
 go_enter Tryz.func203,Tryz.ntmps203
 go_wp2
 go_loop [3,4,5] (fun h d i=>∃k:Nat,k≤8∧i=.int .i64 k∧d=.int .u64 (72057594037927936 / 256 ^ k:Nat)∧h=.int .u64 (hF hi basis64 k:Nat)) (fun _ _ i=>8 - (intOf i).toNat)
 case atStart=>exact ⟨0,by omega,rfl,by simp,rfl⟩
 case round =>
  obtain ⟨k,hk8,rfl,rfl,rfl⟩:=hrel
  by_cases hlt:k<8
  · have hst:hF hi basis64 (k+1)=stepH (hF hi basis64 k) (hi / (72057594037927936 / 256 ^ k) % 256):=hF_succ _ _ _
    have hd:72057594037927936 / 256 ^ k / 256=72057594037927936 / 256 ^ (k+1):=by rw [Nat.div_div_eq_div_mul,Nat.pow_succ]
    have hp:1≤72057594037927936 / 256 ^ k:=by
     have h3:256 ^ k≤256 ^ 7:=Nat.pow_le_pow_right (by decide) (by omega);exact (Nat.le_div_iff_mul_le (Nat.pow_pos (by decide))).2 (by omega)
    have hpu:72057594037927936 / 256 ^ k≤72057594037927936:=Nat.div_le_self _ _;have hl:=hF_lt hi basis64 k basis_lt;have Hst:=jH hst;have Hd:=jH hd;clear hst hd;generalize hx:72057594037927936 / 256 ^ k=D at *;generalize hy:hF hi basis64 k=H at *;clear hx hy;have hc:hi / D % 256<256:=Nat.mod_lt _ (by decide);have hdv:hi / D≤hi:=Nat.div_le_self _ _;have hdi:(hi:Int) / (D:Int)=((hi / D:Nat):Int):=by simp
    have hb1:0≤(hi:Int) / (D:Int):=by rw [hdi];exact Int.natCast_nonneg _
    have hb2:(hi:Int) / (D:Int)≤18446744073709551615:=by rw [hdi];omega
    have hm:(hi:Int) / (D:Int) % 256=((hi / D % 256:Nat):Int):=by rw [hdi];simp
    have Hm:=jH hm;clear hdi hm;go_wp2_with fail
    rw [Hm.out];refine (refStep_any H (hi / D % 256) _ hl hc).mono ?_;rintro e w' ⟨rfl,rfl⟩;go_wp2
    go_round
    case rel=>exact ⟨k+1,hlt,by go_num,by rw [←Hd.out];simp,by rw [Hst.out]⟩
    case measure=>simp [intOf];omega
  · obtain rfl:k=8:=by omega
    have hB:=hF_lt hi basis64 8 basis_lt;generalize hF hi basis64 8=B0 at *;go_wp2
    go_loop [3,4,6] (fun h d i=>∃k:Nat,k≤8∧i=.int .i64 k∧d=.int .u64 (72057594037927936 / 256 ^ k:Nat)∧h=.int .u64 (hF lo B0 k:Nat)) (fun _ _ i=>8 - (intOf i).toNat)
    case atStart=>exact ⟨0,by omega,rfl,by simp,rfl⟩
    case round =>
     obtain ⟨k,hk8',rfl,rfl,rfl⟩:=hrel
     by_cases hlt:k<8
     · have hst:hF lo B0 (k+1)=stepH (hF lo B0 k) (lo / (72057594037927936 / 256 ^ k) % 256):=hF_succ _ _ _
       have hd:72057594037927936 / 256 ^ k / 256=72057594037927936 / 256 ^ (k+1):=by rw [Nat.div_div_eq_div_mul,Nat.pow_succ]
       have hp:1≤72057594037927936 / 256 ^ k:=by
        have h3:256 ^ k≤256 ^ 7:=Nat.pow_le_pow_right (by decide) (by omega);exact (Nat.le_div_iff_mul_le (Nat.pow_pos (by decide))).2 (by omega)
       have hpu:72057594037927936 / 256 ^ k≤72057594037927936:=Nat.div_le_self _ _;have hl:=hF_lt lo B0 k hB;have Hst:=jH hst;have Hd:=jH hd;clear hst hd;generalize hx:72057594037927936 / 256 ^ k=D at *;generalize hy:hF lo B0 k=H at *;clear hx hy;have hc:lo / D % 256<256:=Nat.mod_lt _ (by decide);have hdv:lo / D≤lo:=Nat.div_le_self _ _;have hdi:(lo:Int) / (D:Int)=((lo / D:Nat):Int):=by simp
       have hb1:0≤(lo:Int) / (D:Int):=by rw [hdi];exact Int.natCast_nonneg _
       have hb2:(lo:Int) / (D:Int)≤18446744073709551615:=by rw [hdi];omega
       have hm:(lo:Int) / (D:Int) % 256=((lo / D % 256:Nat):Int):=by rw [hdi];simp
       have Hm:=jH hm;clear hdi hm;go_wp2_with fail
       rw [Hm.out];refine (refStep_any H (lo / D % 256) _ hl hc).mono ?_;rintro e w' ⟨rfl,rfl⟩;go_wp2
       go_round
       case rel=>exact ⟨k+1,hlt,by go_num,by rw [←Hd.out];simp,by rw [Hst.out]⟩
       case measure=>simp [intOf];omega
     · obtain rfl:k=8:=by omega
       go_wp2
       go_ret
       exact ⟨ret_int (by rw [hk.out]),balloc jR _⟩
end
section
open Go.RowKit Go.Lib
theorem foldN_xor (h m:Nat) (h1:1≤m) (h2:m≤32):foldN h m=(h % 2 ^ m) ^^^ (h / 2 ^ m % 2 ^ m):=by
 rw [foldN,if_neg (by omega),Nat.xor_mod_two_pow]
theorem refFold_any (h m:Nat) (w:World) (hh:h<18446744073709551616) (hm:m≤6) :
 Calls Tryz.prog 202 #[.int .u64 h,.int .i64 m] w fun e w'=>e=.returned (.int .u64 (foldN h m:Nat))∧w=w':=by
 by_cases h0:m<1
 · obtain rfl:m=0:=by omega
   have hv:foldN h 0=0:=by simp [foldN]
   rw [hv];clear hv
   go_enter Tryz.func202,Tryz.ntmps202
   go_wp2
   go_ret
   exact ⟨rfl,rfl⟩
 · have hfin:=jH (foldN_xor h m (by omega) (by omega))
   have q0:(1:Int)≤(m:Int):=by omega
   go_enter Tryz.func202,Tryz.ntmps202
   go_wp2
   go_loop [5,6] (fun d i=>∃k:Nat,k≤m∧i=.int .i64 k∧d=.int .u64 (2 ^ k:Nat)) (fun _ i=>m - (intOf i).toNat)
   case atStart=>exact ⟨0,by omega,rfl,rfl⟩
   case round =>
    obtain ⟨k,hk,rfl,rfl⟩:=hrel;have hp:2 ^ k≤2 ^ 6:=Nat.pow_le_pow_right (by decide) (by omega);have hp1:1≤2 ^ k:=Nat.pow_pos (by decide)
    by_cases hlt:k<m
    · have s4:=jH (Nat.pow_succ 2 k)
      generalize hN:2 ^ k=N at *;clear hN;go_wp2
      go_round
      case rel=>exact ⟨k+1,hlt,by go_num,by rw [s4.out];simp⟩
      case measure=>simp [intOf];omega
    · obtain rfl:k=m:=by omega
      have hA:h % 2 ^ k<2 ^ k:=Nat.mod_lt _ hp1;have hB:h / 2 ^ k % 2 ^ k<2 ^ k:=Nat.mod_lt _ hp1;have hAi:(h:Int) % ((2 ^ k:Nat):Int)=((h % 2 ^ k:Nat):Int):=by simp
      have hBi:(h:Int) / ((2 ^ k:Nat):Int) % ((2 ^ k:Nat):Int)=((h / 2 ^ k % 2 ^ k:Nat):Int):=by simp
      have hd:h / 2 ^ k≤h:=Nat.div_le_self _ _;have hDi:(h:Int) / ((2 ^ k:Nat):Int)=((h / 2 ^ k:Nat):Int):=by simp
      have hb1:0≤(h:Int) / ((2 ^ k:Nat):Int):=by rw [hDi];exact Int.natCast_nonneg _
      have hb2:(h:Int) / ((2 ^ k:Nat):Int)≤18446744073709551615:=by rw [hDi];omega
      have HAi:=jH hAi;have HBi:=jH hBi;clear hAi hBi hDi hd;generalize hx:h % 2 ^ k=A at *;generalize hy:h / 2 ^ k % 2 ^ k=B at *;have Hp:Hid (∀j,j≤k→2 ^ j≤2 ^ 6):=jH (fun j hj=>Nat.pow_le_pow_right (by decide) (by omega));have HA:Hid (A<2 ^ k∧B<2 ^ k):=jH ⟨hA,hB⟩;clear hx hy;generalize hN:2 ^ k=N at HAi HBi hb1 hb2 hp hp1 hA hB ⊢;have HN:=jH hN;clear hN;go_wp2
      rw [HAi.out,HBi.out];have hk6:(k:Int)≤6:=by omega
      clear hb1 hb2 hlt hk
      go_loop [7,8,9,10,11] (fun x y o n i=>∃j:Nat,j≤k∧i=.int .i64 j∧x=.int .u64 (A / 2 ^ j:Nat)∧y=.int .u64 (B / 2 ^ j:Nat)∧o=.int .u64 ((A ^^^ B) % 2 ^ j:Nat)∧n=.int .u64 (2 ^ j:Nat)) (fun _ _ _ _ i=>k - (intOf i).toNat)
      case atStart=>exact ⟨0,by omega,rfl,by simp,by simp,by simp [Nat.mod_one],rfl⟩
      case round =>
       obtain ⟨j,hj,rfl,rfl,rfl,rfl,rfl⟩:=hrel
       by_cases hlt2:j<k
       · have hp:=Hp.out j hj
         have hx:(A ^^^ B) % 2 ^ j<2 ^ j:=Nat.mod_lt _ (Nat.pow_pos (by decide));have ha2:A / 2 ^ j≤A:=Nat.div_le_self _ _;have hb2:B / 2 ^ j≤B:=Nat.div_le_self _ _;have s1:=jH (xor_step A B j);have s4:=jH (Nat.pow_succ 2 j)
         by_cases he:A / 2 ^ j % 2=B / 2 ^ j % 2
         · have s2:=jH (half_step A j)
           have s3:=jH (half_step B j);have He:=jH he;clear he;generalize hA':A / 2 ^ j=A' at *;generalize hB':B / 2 ^ j=B' at *;generalize hX':(A ^^^ B) % 2 ^ j=X at *;generalize hM':2 ^ j=M at *;clear hA' hB' hX' hM';have hq:((A':Int) % 2 != (B':Int) % 2)=false:=by have:=He.out;simp;omega
           go_wp2
           go_round
           case rel=>exact ⟨j+1,hlt2,by go_num,by rw [←s2.out];simp,by rw [←s3.out];simp,by rw [s1.out,if_pos He.out];simp,by rw [s4.out];simp⟩
           case measure=>simp [intOf];omega
         · have s2:=jH (half_step A j)
           have s3:=jH (half_step B j);have He:=jH he;clear he;generalize hA':A / 2 ^ j=A' at *;generalize hB':B / 2 ^ j=B' at *;generalize hX':(A ^^^ B) % 2 ^ j=X at *;generalize hM':2 ^ j=M at *;clear hA' hB' hX' hM';have hq:((A':Int) % 2 != (B':Int) % 2)=true:=by have:=He.out;simp;omega
           go_wp2
           go_round
           case rel=>exact ⟨j+1,hlt2,by go_num,by rw [←s2.out];simp,by rw [←s3.out];simp,by rw [s1.out,if_neg He.out];simp,by rw [s4.out];simp⟩
           case measure=>simp [intOf];omega
       · obtain rfl:j=k:=by omega
         go_wp2
         go_ret
         refine ⟨ret_int ?_,rfl⟩;rw [hfin.out];have hv:A ^^^ B<2 ^ j:=Nat.xor_lt_two_pow HA.out.1 HA.out.2;have hv2:(A ^^^ B) % 2 ^ j=A ^^^ B:=Nat.mod_eq_of_lt hv;rw [show ((A ^^^ B:Nat):Int) % 2 ^ j=(((A ^^^ B) % 2 ^ j:Nat):Int) by simp,hv2]
theorem refOf_any (hi lo:Nat) (n:Int) (w:World) (h1:hi<18446744073709551616) (h2:lo<18446744073709551616) :
 Calls Tryz.prog 145 #[keyV hi lo,.int .i64 n] w (jP w (.int .i64 (routeI hi lo n))):=by
 cases hr:okSt n with
 | false =>
   have hv:routeI hi lo n = -1:=by simp [routeI,hr]
   have hb:(bitsI n<0):=by
    have:=bitsI_ok n;rw [hr] at this
    simpa using this
   rw [hv];clear hr hv;unfold keyV
   go_enter Tryz.func145,Tryz.ntmps145
   go_wp2_with (go_at_call 61;refine (ref05Bits_any n _).mono ?_;rintro e w' ⟨rfl,rfl⟩)
   go_ret
   exact ⟨rfl,balloc jR _⟩
 | true =>
   have hb:=bitsI_bd n hr;obtain ⟨m,hm⟩:=Int.eq_ofNat_of_zero_le hb.1;have hv:routeI hi lo n=(foldN (fnvKey hi lo) m:Nat):=by simp [routeI,hr,hm]
   have hf:=foldN_lt (fnvKey hi lo) m;have hk:=fnvKey_lt hi lo;have hm6:m≤6:=by omega
   rw [hv];have Hm:=jH hm;clear hr hv hm hb;unfold keyV
   go_enter Tryz.func145,Tryz.ntmps145
   go_wp2_with (first
    | (go_at_call 61;refine (ref05Bits_any n _).mono ?_;rw [Hm.out];rintro e w' ⟨rfl,rfl⟩)
    | (go_at_call 203;refine (refFnvKey_any hi lo _ h1 h2).mono ?_;rintro e w1 ⟨rfl,hb1⟩)
    | (go_at_call 202;refine (refFold_any _ m _ hk hm6).mono ?_;rintro e w' ⟨rfl,rfl⟩))
   go_ret
   exact ⟨rfl,bthen (balloc jR _) hb1⟩
end
end Go.Proofs.YtpmfcpdelkchaaaGreat
