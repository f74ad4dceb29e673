/- Part 11 of the proof. -/
import Derived.Test.YtmniiodpbebnmaaGreatJ10
namespace Go.Proofs.YtmniiodpbebnmaaGreat
set_option linter.unusedSimpArgs false
set_option linter.unusedVariables false
set_option linter.unusedSectionVars false
set_option maxRecDepth 100000
set_option maxHeartbeats 16000000
section
open Go.RowKit Go.Lib Go.Sort
def f0T (cut:Int) (x:Nd):Nd:=if a0N x.smp cut=0 then x else { x with smp:=x.smp.drop (a0N x.smp cut),ver:=x.ver+1 }
def k1C (l:List It) (cut:Int):Nat:=(l.map (fun x=>a0N x.nd.smp cut)).sum
def l1M (l:List It) (cut:Int):Nat:=l.countP (fun x=>0<a0N x.nd.smp cut)
theorem c1M {α:Type} {P:Nat→Prop} {n:Nat} {f:α→List Value} {w u w4:World} {v v' vr:Value} {l:List α} (h:d0G (fun b=>P b∧v.ownBlock≠some b) n f w vr l) (hb:jB w u) (hg:u.grownBy w4 v.ownBlock) (hblk:v'.ownBlock=v.ownBlock∨v'.ownBlock=some u.heap.size) :
 d0G (fun b=>P b∧v'.ownBlock≠some b) n f w4 vr l:=by
 have h1:=h.old;refine (h1.keepP (Nat.le_trans hb.size hg.size) (fun b hb' hlt=>(hg.block b (Nat.lt_of_lt_of_le hlt hb.size) (Ne.symm hb'.1.2)).trans (hb.block b hlt))).imp (fun b hb'=>⟨hb'.1.1,fun e=>?_⟩)
 rcases hblk with h2|h2
 · rw [h2] at e
   exact hb'.1.2 e
 · rw [h2] at e
   injection e with e
   have:=hb.size;have:=hb'.2;omega
end
section
open Go.RowKit Go.Lib
def b0C (x k:Nat):Int:=((x / k % 256:Nat):Int)
def x0Z (hi lo:Nat):Array Value:=#[
  .int .u8 (b0C hi 72057594037927936),
  .int .u8 (b0C hi 281474976710656),
  .int .u8 (b0C hi 1099511627776),
  .int .u8 (b0C hi 4294967296),
  .int .u8 (b0C hi 16777216),
  .int .u8 (b0C hi 65536),
  .int .u8 (b0C hi 256),
  .int .u8 (b0C hi 1),
  .int .u8 (b0C lo 72057594037927936),
  .int .u8 (b0C lo 281474976710656),
  .int .u8 (b0C lo 1099511627776),
  .int .u8 (b0C lo 4294967296),
  .int .u8 (b0C lo 16777216),
  .int .u8 (b0C lo 65536),
  .int .u8 (b0C lo 256),
  .int .u8 (b0C lo 1)]
theorem e1G (x k:Nat):b0C x k=(x:Int) / (k:Int) % 256:=by unfold b0C;simp
theorem f1L (x:Nat):b0C x 1=(x:Int) % 256:=by unfold b0C;simp
theorem t0O (x:Nat) (h:x<18446744073709551616):b0C x 72057594037927936=(x:Int) / 72057594037927936:=by unfold b0C;omega
theorem x0L (hi lo:Nat) (h1:hi<18446744073709551616) (h2:lo<18446744073709551616):x0Z hi lo=#[.int .u8 ((hi:Int) / 72057594037927936),.int .u8 ((hi:Int) / 281474976710656 % 256),.int .u8 ((hi:Int) / 1099511627776 % 256),.int .u8 ((hi:Int) / 4294967296 % 256),.int .u8 ((hi:Int) / 16777216 % 256),.int .u8 ((hi:Int) / 65536 % 256),.int .u8 ((hi:Int) / 256 % 256),.int .u8 ((hi:Int) % 256),.int .u8 ((lo:Int) / 72057594037927936),.int .u8 ((lo:Int) / 281474976710656 % 256),.int .u8 ((lo:Int) / 1099511627776 % 256),.int .u8 ((lo:Int) / 4294967296 % 256),.int .u8 ((lo:Int) / 16777216 % 256),.int .u8 ((lo:Int) / 65536 % 256),.int .u8 ((lo:Int) / 256 % 256),.int .u8 ((lo:Int) % 256)]:=by
 unfold x0Z;rw [t0O hi h1,t0O lo h2];simp only [f1L]
 simp only [e1G]
 simp
theorem t0T (hi lo:Nat) (w:World) (h1:hi<18446744073709551616) (h2:lo<18446744073709551616) :
 Calls Tryz.prog 212 #[o1Z hi lo] w (jP w (.agg (x0Z hi lo))):=by
 unfold o1Z
 go_enter Tryz.func212,Tryz.ntmps212
 go_wp2
 refine wp_loop_rounds 9 ?_;rw [rounds_succ];go_wp2
 rw [rounds_succ];go_wp2
 rw [rounds_succ];go_wp2
 rw [rounds_succ];go_wp2
 rw [rounds_succ];go_wp2
 rw [rounds_succ];go_wp2
 rw [rounds_succ];go_wp2
 rw [rounds_succ];go_wp2
 rw [rounds_succ];go_wp2
 rw [x0L hi lo h1 h2];exact bodyPost_ret (v:=.agg #[.int .u8 ((hi:Int) / 72057594037927936),.int .u8 ((hi:Int) / 281474976710656 % 256),.int .u8 ((hi:Int) / 1099511627776 % 256),.int .u8 ((hi:Int) / 4294967296 % 256),.int .u8 ((hi:Int) / 16777216 % 256),.int .u8 ((hi:Int) / 65536 % 256),.int .u8 ((hi:Int) / 256 % 256),.int .u8 ((hi:Int) % 256),.int .u8 ((lo:Int) / 72057594037927936),.int .u8 ((lo:Int) / 281474976710656 % 256),.int .u8 ((lo:Int) / 1099511627776 % 256),.int .u8 ((lo:Int) / 4294967296 % 256),.int .u8 ((lo:Int) / 16777216 % 256),.int .u8 ((lo:Int) / 65536 % 256),.int .u8 ((lo:Int) / 256 % 256),.int .u8 ((lo:Int) % 256)]) (by simp [results,Tryz.results212,go_sem]) rfl ⟨rfl,a0C (a0C (a0C jR _) _) _⟩
def e1D:Nat:=1099511628211
def q0D:Nat:=14695981039346656037
def b1Q (h b:Nat):Nat:=(h ^^^ b) * e1D % 18446744073709551616
def e1O (l:List UInt8):Nat:=l.foldl (fun h b=>b1Q h b.toNat) q0D
theorem m1E (h b:Nat):b1Q h b<18446744073709551616:=Nat.mod_lt _ (by decide)
theorem j1K (l:List UInt8) (h:Nat) (hh:h<18446744073709551616):l.foldl (fun h b=>b1Q h b.toNat) h<18446744073709551616:=by
 induction l generalizing h with
 | nil=>exact hh
 | cons a l ih=>exact ih _ (m1E _ _)
theorem j1U:q0D<18446744073709551616:=by unfold q0D;omega
theorem e1K (l:List UInt8):e1O l<18446744073709551616:=by
 unfold e1O;exact j1K l q0D j1U
theorem e1J (l:List UInt8) (b:UInt8):e1O (l++[b])=b1Q (e1O l) b.toNat:=by
 unfold e1O;rw [List.foldl_append,List.foldl_cons,List.foldl_nil]
theorem t0I (n:Nat):IntKind.u64.wrap (n:Int)=((n % 18446744073709551616:Nat):Int):=by
 have h:IntKind.u64.wrap (n:Int)=(n:Int) % 18446744073709551616:=by
  simp only [IntKind.wrap,IntKind.signed,IntKind.bits]
  simp
 rw [h];omega
theorem i1U (h c:Nat) (hh:h<18446744073709551616) (hc:c<256) :
 IntKind.u64.wrap (bits BinOp.xor IntKind.u64 (h:Int) (c:Int) * 1099511628211)=(b1Q h c:Nat):=by
 rw [u64_xor_nat h c hh (by omega)];have e:((h ^^^ c:Nat):Int) * 1099511628211=(((h ^^^ c) * e1D:Nat):Int):=by
  rw [Int.natCast_mul];rfl
 rw [e,t0I];rfl
theorem h1J (s:ByteArray) (w:World) (hm:s.size≤maxLen) :
 Calls Tryz.prog 213 #[.string s] w fun e w'=>e=.returned (.int .u64 (e1O s.data.toList:Nat))∧w=w':=by
 have hmm:s.size≤9223372036854775807:=hm
 go_enter Tryz.func213,Tryz.ntmps213
 go_wp2
 go_loop [3,4,7] (fun h _ i=>∃k:Nat,k≤s.size∧i=.int .i64 k∧h=.int .u64 (e1O (s.data.toList.take k):Nat)) (fun _ _ i=>s.size - (intOf i).toNat)
 case atStart=>exact ⟨0,Nat.zero_le _,rfl,rfl⟩
 case round =>
  obtain ⟨k,hk,rfl,rfl⟩:=hrel
  by_cases hlt:k<s.size
  · have hsn:e1O (s.data.toList.take (k+1))=b1Q (e1O (s.data.toList.take k)) (s[k]).toNat:=by
     rw [List.take_succ_eq_append_getElem (by simpa using hlt),e1J];rfl
    have hb:=e1K (s.data.toList.take k);generalize e1O (s.data.toList.take k)=h at hsn hb;have hc:(s[k]).toNat<256:=(s[k]).toNat_lt;have hst:=i1U h _ hb hc;have Hsn:=jH hsn;have Hst:=jH hst;clear hsn hst;go_wp2
    go_round
    case rel=>exact ⟨k+1,hlt,by go_num,by rw [Hsn.out,Hst.out]⟩
    case measure=>simp [intOf];omega
  · obtain rfl:k=s.size:=by omega
    go_wp2
    go_ret
    refine ⟨e0U ?_,rfl⟩;rw [List.take_of_length_le (by simp)]
def w0Y (hi lo:Nat):List Int:=[b0C hi 72057594037927936,b0C hi 281474976710656,b0C hi 1099511627776,b0C hi 4294967296,b0C hi 16777216,b0C hi 65536,b0C hi 256,b0C hi 1,b0C lo 72057594037927936,b0C lo 281474976710656,b0C lo 1099511627776,b0C lo 4294967296,b0C lo 16777216,b0C lo 65536,b0C lo 256,b0C lo 1]
def s0V (hi lo:Nat):ByteArray:=strOfNums (w0Y hi lo)
def p0C (hi lo:Nat):Nat:=e1O (s0V hi lo).data.toList
theorem h1N (hi lo:Nat):p0C hi lo<18446744073709551616:=e1K _
theorem u0U (hi lo:Nat):(s0V hi lo).size=16:=by simp [s0V,strOfNums_size,w0Y]
theorem o0C {P:Program} (w:World) (hi lo T:Nat) (src e dst:TypeId) (hs:P.underlying src=some (.slice e)) (he:P.underlying e=some (.int .u8)) (hd:P.underlying dst=some .string) (H:Nat) (hH:w.heap.size=H) :
 (convert src dst (.slice (some ⟨H,0,none⟩) 16 16)).run P (w.alloc (.cells #[.int .u8 (b0C hi 72057594037927936),.int .u8 (b0C hi 281474976710656),.int .u8 (b0C hi 1099511627776),.int .u8 (b0C hi 4294967296),.int .u8 (b0C hi 16777216),.int .u8 (b0C hi 65536),.int .u8 (b0C hi 256),.int .u8 (b0C hi 1),.int .u8 (b0C lo 72057594037927936),.int .u8 (b0C lo 281474976710656),.int .u8 (b0C lo 1099511627776),.int .u8 (b0C lo 4294967296),.int .u8 (b0C lo 16777216),.int .u8 (b0C lo 65536),.int .u8 (b0C lo 256),.int .u8 (b0C lo 1)] T))=.ok (.string (s0V hi lo)) (w.alloc (.cells #[.int .u8 (b0C hi 72057594037927936),.int .u8 (b0C hi 281474976710656),.int .u8 (b0C hi 1099511627776),.int .u8 (b0C hi 4294967296),.int .u8 (b0C hi 16777216),.int .u8 (b0C hi 65536),.int .u8 (b0C hi 256),.int .u8 (b0C hi 1),.int .u8 (b0C lo 72057594037927936),.int .u8 (b0C lo 281474976710656),.int .u8 (b0C lo 1099511627776),.int .u8 (b0C lo 4294967296),.int .u8 (b0C lo 16777216),.int .u8 (b0C lo 65536),.int .u8 (b0C lo 256),.int .u8 (b0C lo 1)] T)):=by
 subst hH;exact run_convert_bytes_arg (P:=P) _ src e hs he w.heap.size 0 16 16 (w0Y hi lo) rfl (fun i hlt=>by
  have hc:=(i0O w #[.int .u8 (b0C hi 72057594037927936),.int .u8 (b0C hi 281474976710656),.int .u8 (b0C hi 1099511627776),.int .u8 (b0C hi 4294967296),.int .u8 (b0C hi 16777216),.int .u8 (b0C hi 65536),.int .u8 (b0C hi 256),.int .u8 (b0C hi 1),.int .u8 (b0C lo 72057594037927936),.int .u8 (b0C lo 281474976710656),.int .u8 (b0C lo 1099511627776),.int .u8 (b0C lo 4294967296),.int .u8 (b0C lo 16777216),.int .u8 (b0C lo 65536),.int .u8 (b0C lo 256),.int .u8 (b0C lo 1)] T).1 i
  rw [Nat.zero_add,hc]
  match i,hlt with
  | 0,_=>rfl
  | 1,_=>rfl
  | 2,_=>rfl
  | 3,_=>rfl
  | 4,_=>rfl
  | 5,_=>rfl
  | 6,_=>rfl
  | 7,_=>rfl
  | 8,_=>rfl
  | 9,_=>rfl
  | 10,_=>rfl
  | 11,_=>rfl
  | 12,_=>rfl
  | 13,_=>rfl
  | 14,_=>rfl
  | 15,_=>rfl
  | n+16,h=>exact absurd h (by omega)) dst hd
theorem c1Y (hi lo:Nat) (w:World) (h1:hi<18446744073709551616) (h2:lo<18446744073709551616) :
 Calls Tryz.prog 159 #[o1Z hi lo] w (jP w (.int .u64 (p0C hi lo:Nat))):=by
 have hsz:(s0V hi lo).size≤maxLen:=by rw [u0U];decide
 have Hsz:=jH hsz;clear hsz;unfold o1Z
 go_enter Tryz.func159,Tryz.ntmps159
 go_wp2_with (first
  | (go_at_call 212;refine (t0T hi lo _ h1 h2).mono ?_;unfold x0Z;rintro e w1 ⟨rfl,hb1⟩;have hcv:=o0C (P:=Tryz.prog) w1 hi lo 285 288 5 9 Tryz.underlying288 Tryz.underlying5 Tryz.underlying9 _ rfl)
  | (go_at_call 213;refine (h1J _ _ Hsz.out).mono ?_;rintro e w' ⟨rfl,rfl⟩))
 go_ret
 exact ⟨rfl,a0C (a0D (a0C jR _) hb1) _⟩
def n0M (h b:Nat):Nat:=if b<1∨32<b then 0 else (h ^^^ (h / 2 ^ b)) % 2 ^ b
theorem m1S (h b:Nat):n0M h b<4294967296:=by
 unfold n0M
 split
 · omega
 · have h1:(h ^^^ (h / 2 ^ b)) % 2 ^ b<2 ^ b:=Nat.mod_lt _ (Nat.pow_pos (by decide))
   have h2:2 ^ b≤2 ^ 32:=Nat.pow_le_pow_right (by decide) (by omega);omega
theorem g1S (h b:Nat) (hh:h<18446744073709551616) (hb1:1≤b) (hb2:b≤32) :
 bits BinOp.and IntKind.u64 (bits BinOp.xor IntKind.u64 (h:Int) ((h:Int) / 2 ^ b)) (IntKind.u64.wrap (IntKind.u64.wrap (2 ^ b) - 1))=(n0M h b:Nat):=by
 have hp:2 ^ b≤2 ^ 32:=Nat.pow_le_pow_right (by decide) hb2;have hp0:0<2 ^ b:=Nat.pow_pos (by decide);have e1:(h:Int) / 2 ^ b=((h / 2 ^ b:Nat):Int):=by rw [Int.natCast_ediv,Int.natCast_pow];rfl
 have hd:h / 2 ^ b≤h:=Nat.div_le_self _ _;have hx:h ^^^ (h / 2 ^ b)<2 ^ 64:=Nat.xor_lt_two_pow (by omega) (by omega);have e2:IntKind.u64.wrap (2 ^ b)=((2 ^ b:Nat):Int):=by
  have:=c0R (2 ^ b) (by omega);rw [Int.natCast_pow] at this;exact this.trans (by rw [Int.natCast_pow])
 have e3:((2 ^ b:Nat):Int) - 1=((2 ^ b - 1:Nat):Int):=by omega
 rw [e1,u64_xor_nat _ _ hh (by omega),e2,e3,c0R _ (by omega),u64_and_nat _ _ (by omega) (by omega),Nat.and_two_pow_sub_one_eq_mod];rw [n0M,if_neg (by omega)]
theorem j1W (h:Nat) (b:Nat) (w:World) (hh:h<18446744073709551616) (hb:b≤6) :
 Calls Tryz.prog 158 #[.int .u64 h,.int .i64 b] w fun e w'=>e=.returned (.int .u64 (n0M h b:Nat))∧w=w':=by
 by_cases h0:b<1
 · obtain rfl:b=0:=by omega
   have hv:n0M h 0=0:=by simp [n0M]
   rw [hv];clear hv
   go_enter Tryz.func158,Tryz.ntmps158
   go_wp2
   go_ret
   exact ⟨rfl,rfl⟩
 · have hv:=g1S h b hh (by omega) (by omega)
   have Hv:=jH hv;clear hv
   go_enter Tryz.func158,Tryz.ntmps158
   go_wp2
   go_ret
   exact ⟨e0U Hv.out,rfl⟩
theorem v0X (w:World) :
 Calls Tryz.prog 160 #[.int .i64 1] w fun e w'=>e=.returned (.int .i64 0)∧w=w':=by
 have hr:e0R 1=true:=by decide
 have Hr:=jH hr;clear hr
 go_enter Tryz.func160,Tryz.ntmps160
 go_wp2_with (go_at_call 110;refine (b0P 1 _ (by simp [I64])).mono ?_;rw [Hr.out];rintro e w' ⟨rfl,rfl⟩)
 refine wp_loop_rounds 1 ?_;rw [rounds_succ];go_wp2
 go_ret
 exact ⟨rfl,rfl⟩
theorem v0L (w:World) :
 Calls Tryz.prog 160 #[.int .i64 2] w fun e w'=>e=.returned (.int .i64 1)∧w=w':=by
 have hr:e0R 2=true:=by decide
 have Hr:=jH hr;clear hr
 go_enter Tryz.func160,Tryz.ntmps160
 go_wp2_with (go_at_call 110;refine (b0P 2 _ (by simp [I64])).mono ?_;rw [Hr.out];rintro e w' ⟨rfl,rfl⟩)
 refine wp_loop_rounds 2 ?_;rw [rounds_succ];go_wp2
 rw [rounds_succ];go_wp2
 go_ret
 exact ⟨rfl,rfl⟩
theorem u0G (w:World) :
 Calls Tryz.prog 160 #[.int .i64 4] w fun e w'=>e=.returned (.int .i64 2)∧w=w':=by
 have hr:e0R 4=true:=by decide
 have Hr:=jH hr;clear hr
 go_enter Tryz.func160,Tryz.ntmps160
 go_wp2_with (go_at_call 110;refine (b0P 4 _ (by simp [I64])).mono ?_;rw [Hr.out];rintro e w' ⟨rfl,rfl⟩)
 refine wp_loop_rounds 3 ?_;rw [rounds_succ];go_wp2
 rw [rounds_succ];go_wp2
 rw [rounds_succ];go_wp2
 go_ret
 exact ⟨rfl,rfl⟩
theorem u0J (w:World) :
 Calls Tryz.prog 160 #[.int .i64 8] w fun e w'=>e=.returned (.int .i64 3)∧w=w':=by
 have hr:e0R 8=true:=by decide
 have Hr:=jH hr;clear hr
 go_enter Tryz.func160,Tryz.ntmps160
 go_wp2_with (go_at_call 110;refine (b0P 8 _ (by simp [I64])).mono ?_;rw [Hr.out];rintro e w' ⟨rfl,rfl⟩)
 refine wp_loop_rounds 4 ?_;rw [rounds_succ];go_wp2
 rw [rounds_succ];go_wp2
 rw [rounds_succ];go_wp2
 rw [rounds_succ];go_wp2
 go_ret
 exact ⟨rfl,rfl⟩
theorem u0H (w:World) :
 Calls Tryz.prog 160 #[.int .i64 16] w fun e w'=>e=.returned (.int .i64 4)∧w=w':=by
 have hr:e0R 16=true:=by decide
 have Hr:=jH hr;clear hr
 go_enter Tryz.func160,Tryz.ntmps160
 go_wp2_with (go_at_call 110;refine (b0P 16 _ (by simp [I64])).mono ?_;rw [Hr.out];rintro e w' ⟨rfl,rfl⟩)
 refine wp_loop_rounds 5 ?_;rw [rounds_succ];go_wp2
 rw [rounds_succ];go_wp2
 rw [rounds_succ];go_wp2
 rw [rounds_succ];go_wp2
 rw [rounds_succ];go_wp2
 go_ret
 exact ⟨rfl,rfl⟩
theorem u0I (w:World) :
 Calls Tryz.prog 160 #[.int .i64 32] w fun e w'=>e=.returned (.int .i64 5)∧w=w':=by
 have hr:e0R 32=true:=by decide
 have Hr:=jH hr;clear hr
 go_enter Tryz.func160,Tryz.ntmps160
 go_wp2_with (go_at_call 110;refine (b0P 32 _ (by simp [I64])).mono ?_;rw [Hr.out];rintro e w' ⟨rfl,rfl⟩)
 refine wp_loop_rounds 6 ?_;rw [rounds_succ];go_wp2
 rw [rounds_succ];go_wp2
 rw [rounds_succ];go_wp2
 rw [rounds_succ];go_wp2
 rw [rounds_succ];go_wp2
 rw [rounds_succ];go_wp2
 go_ret
 exact ⟨rfl,rfl⟩
theorem w0E (w:World) :
 Calls Tryz.prog 160 #[.int .i64 64] w fun e w'=>e=.returned (.int .i64 6)∧w=w':=by
 have hr:e0R 64=true:=by decide
 have Hr:=jH hr;clear hr
 go_enter Tryz.func160,Tryz.ntmps160
 go_wp2_with (go_at_call 110;refine (b0P 64 _ (by simp [I64])).mono ?_;rw [Hr.out];rintro e w' ⟨rfl,rfl⟩)
 refine wp_loop_rounds 7 ?_;rw [rounds_succ];go_wp2
 rw [rounds_succ];go_wp2
 rw [rounds_succ];go_wp2
 rw [rounds_succ];go_wp2
 rw [rounds_succ];go_wp2
 rw [rounds_succ];go_wp2
 rw [rounds_succ];go_wp2
 go_ret
 exact ⟨rfl,rfl⟩
theorem q0M (n:Int) (w:World) (hn:e0R n=true) :
 Calls Tryz.prog 160 #[.int .i64 n] w fun e w'=>e=.returned (.int .i64 (l0W n))∧w=w':=by
 rcases (j0J n).1 hn with rfl|rfl|rfl|rfl|rfl|rfl|rfl
 · exact v0X w
 · exact v0L w
 · exact u0G w
 · exact u0J w
 · exact u0H w
 · exact u0I w
 · exact w0E w
def c0J (hi lo:Nat) (n:Int):Int:=if e0R n=true then (n0M (p0C hi lo) (l0W n).toNat:Nat) else -1
theorem m1N (n:Int) (h:e0R n=true):0≤l0W n∧l0W n≤6:=by
 unfold l0W
 rcases (j0J n).1 h with rfl|rfl|rfl|rfl|rfl|rfl|rfl <;> decide
theorem o0D (hi lo:Nat) (n:Int) (w:World) (h1:hi<18446744073709551616) (h2:lo<18446744073709551616) (hn:I64 n) :
 Calls Tryz.prog 88 #[o1Z hi lo,.int .i64 n] w (jP w (.int .i64 (c0J hi lo n))):=by
 cases hr:e0R n with
 | false =>
   have hv:c0J hi lo n = -1:=by simp [c0J,hr]
   rw [hv];have Hr:=jH hr;clear hr hv;unfold o1Z
   go_enter Tryz.func88,Tryz.ntmps88
   go_wp2_with (go_at_call 110;refine (b0P n _ hn).mono ?_;rw [Hr.out];rintro e w' ⟨rfl,rfl⟩)
   go_ret
   exact ⟨rfl,a0C jR _⟩
 | true =>
   have hb:=m1N n hr;obtain ⟨m,hm⟩:=Int.eq_ofNat_of_zero_le hb.1;have hv:c0J hi lo n=(n0M (p0C hi lo) m:Nat):=by simp [c0J,hr,hm]
   have hf:=m1S (p0C hi lo) m;have hk:=h1N hi lo;have hm6:m≤6:=by omega
   rw [hv];have Hr:=jH hr;have Hm:=jH hm;clear hr hv hm hb;unfold o1Z
   go_enter Tryz.func88,Tryz.ntmps88
   go_wp2_with (first
    | (go_at_call 110;refine (b0P n _ hn).mono ?_;rw [Hr.out];rintro e w' ⟨rfl,rfl⟩)
    | (go_at_call 159;refine (c1Y hi lo _ h1 h2).mono ?_;rintro e w1 ⟨rfl,hb1⟩)
    | (go_at_call 160;refine (q0M n _ Hr.out).mono ?_;rw [Hm.out];rintro e w' ⟨rfl,rfl⟩)
    | (go_at_call 158;refine (j1W _ m _ hk hm6).mono ?_;rintro e w' ⟨rfl,rfl⟩))
   go_ret
   exact ⟨rfl,a0D (a0C jR _) hb1⟩
abbrev Itm:=Ky × Nd
def atP (l:List Itm) (k:Ky):Nat:=(l.takeWhile (fun x=>ltK x.1 k)).length
def u0F (l:List Itm) (k:Ky):Bool:=match l[atP l k]? with
 | none=>false
 | some x=>decide (x.1=k)
def x0R (l:List Itm) (k:Ky):Nd:=match l[atP l k]? with
 | none=>nd0
 | some x=>if x.1=k then x.2 else nd0
def o0L (l:List Itm) (k:Ky) (y:Nd):List Itm:=l.take (atP l k)++[(k,y)]++l.drop (if u0F l k=true then atP l k+1 else atP l k)
theorem g0J {α β:Type} (f:α→β) (p:β→Bool):∀l:List α,((l.map f).takeWhile p).length=(l.takeWhile (fun x=>p (f x))).length
  | []=>rfl
  | a::l=>by
    rw [List.map_cons,List.takeWhile_cons,List.takeWhile_cons]
    cases p (f a)
    · rfl
    · simp [g0J f p l]
theorem v0Y (l:List It) (k:Ky):atP (l.map g0O) k=atI l k:=g0J g0O _ l
theorem m0A (l:List It) (k:Ky):u0F (l.map g0O) k=j0H l k:=by
 unfold u0F j0H;rw [v0Y]
 by_cases h:atI l k<l.length
 · rw [dif_pos h,List.getElem?_map,List.getElem?_eq_getElem h]
   rfl
 · rw [dif_neg h,List.getElem?_map,List.getElem?_eq_none (by omega)]
   rfl
theorem y0M (l:List It) (k:Ky):x0R (l.map g0O) k=(k0H l k).nd:=by
 unfold x0R k0H;rw [v0Y]
 by_cases h:atI l k<l.length
 · rw [dif_pos h,List.getElem?_map,List.getElem?_eq_getElem h]
   by_cases h2:l[atI l k].key=k
   · rw [if_pos h2]
     exact if_pos h2
   · rw [if_neg h2]
     exact if_neg h2
 · rw [dif_neg h,List.getElem?_map,List.getElem?_eq_none (by omega)]
   rfl
theorem q0E (l:List It) (k:Ky) (y:Nd):o0L (l.map g0O) k y=j1A l k y:=by
 unfold o0L j1A;rw [v0Y,m0A]
def i0N (c:Cfg) (rs rh:Nat) (l:List Itm) (k:Ky) (a:d0U):List Itm × Int :=
 let r:=l0S rs rh (x0R l k) a
 if r.2.1≠0 then (l,r.2.1)
 else if u0F l k=false∧a.kind=3 then (l,5)
 else if u0F l k=false∧c.lo≤(l.length:Nat) then (l,6)
 else (o0L l k r.1,0)
theorem j1V (c:Cfg) (rs rh:Nat) (l:List It) (k:Ky) (a:d0U):i0N c rs rh (l.map g0O) k a=((i0T c rs rh l k a).1,(i0T c rs rh l k a).2.1):=by
 unfold i0N i0T;rw [y0M,m0A];simp only [q0E,List.length_map]
 split
 · rfl
 · split
   · rfl
   · split
     · rfl
     · rfl
structure c1C where
 err:Int
 ep:Int
 hd:Int
 st:StD
 adv:Adv
def b0E (r:c1C):List Value:=[.int .i64 r.err,.int .i64 r.ep,.int .i64 r.hd,.int .i64 r.st.cnt,.int .i64 r.st.sum,.int .i64 r.st.least,.int .i64 r.st.most,.int .i64 r.st.mean,.int .i64 r.adv.tick,.int .i64 r.adv.load,.int .i64 r.adv.want,.int .i64 r.adv.repl,.int .i64 r.adv.why]
def a0X (r:c1C):Value:=.agg (b0E r).toArray
def a0R (e:Int):c1C:=⟨e,0,0,st0,b0O⟩
structure CutD where
 ep:Int
 items:List Itm
 freed:Bool
structure Wd where
 st:List (List Itm)
 cuts:List CutD
 ep:Int
 over:Bool
def o0J (n:Nat):Wd:=⟨List.replicate n [],[],0,false⟩
def b0L (s:ByteArray):Ky:=if idS s=true then (hiN s.data.toList,loN s.data.toList) else (0,0)
theorem d0K (s:ByteArray):(b0L s).ok:=by
 unfold b0L
 split
 · have h1:=hiN_lt s.data.toList
   have h2:=loN_lt s.data.toList;exact ⟨by show hiN _<_;omega,by show loN _<_;omega⟩
 · exact ⟨by decide,by decide⟩
def a0Z (l:List Itm) (k:Ky):Option Nd:=(l.find? fun p=>decide (p.1=k)).map (·.2)
def d0D (w:Wd):List Itm:=w.st.flatten
def h0O (w:Wd) (id:ByteArray):Option Nd:=a0Z (d0D w) (b0L id)
def atW (c:Cfg) (id:ByteArray):Nat:=(c0J (b0L id).1 (b0L id).2 c.st).toNat
def h0E (c:Cfg) (rs rh:Nat) (w:Wd) (id:ByteArray) (a:d0U):Wd × Int :=
 ({ w with st:=w.st.set (atW c id) (i0N c rs rh (w.st.getD (atW c id) []) (b0L id) a).1 },(i0N c rs rh (w.st.getD (atW c id) []) (b0L id) a).2)
def i0E (w:Wd) (cut:Int):Wd:={ w with st:=w.st.map fun l=>l.map fun p=>(p.1,f0T cut p.2) }
def c0I (w:Wd):List Int:=w.cuts.map fun c=>if c.freed=true then -1 else c.ep
def n0C (t:List Int):Nat:=t.countP fun n=>decide (0≤n)
def b0U (t:List Int) (n:Int):Int:=if n<1∨(t.length:Nat)<n then 5 else match t[n.toNat - 1]? with
 | none=>5
 | some e=>if e<0 then 8 else 0
def h0S (w:Wd):Wd × c1C :=
 if 64≤n0C (c0I w) then (w,a0R 6)
 else ({ w with ep:=w.ep+1,cuts:=w.cuts++[⟨w.ep+1,d0D w,false⟩] },⟨0,w.ep+1,((w.cuts.length+1:Nat):Int),st0,b0O⟩)
def l0D (w:Wd) (n:Int):Wd × c1C :=
 if b0U (c0I w) n≠0 then (w,a0R (b0U (c0I w) n))
 else ({ w with cuts:=w.cuts.set (n.toNat - 1) ⟨0,[],true⟩ },a0R 0)
def w0Z (w:Wd) (x:b0Z):c1C :=
 if b0U (c0I w) x.handle≠0 then a0R (b0U (c0I w) x.handle)
 else match w.cuts[x.handle.toNat - 1]? with
  | none=>a0R 5
  | some c=>match a0Z c.items (b0L x.id) with
    | none=>a0R 5
    | some y=>⟨0,c.ep,0,h0P y.smp x.tick x.val,b0O⟩
def n1A (w:Wd) (id:ByteArray):c1C:=match h0O w id with
 | none=>a0R 5
 | some y=>match y.past.getLast? with
   | none=>a0R 0
   | some a=>⟨0,0,0,st0,a⟩
def doW (c:Cfg) (rs rh:Nat) (w:Wd) (x:b0Z):Wd × c1C :=
 if f0V x≠0 then (w,a0R (f0V x))
 else if x.kind=1 then ((h0E c rs rh w x.id ⟨0,(x.tick,x.val),g0P,b0O⟩).1,a0R (h0E c rs rh w x.id ⟨0,(x.tick,x.val),g0P,b0O⟩).2)
 else if x.kind=2 then (i0E w x.tick,a0R 0)
 else if x.kind=3 then h0S w
 else if x.kind=4 then l0D w x.handle
 else if x.kind=5 then (w,w0Z w x)
 else if x.kind=6 then ((h0E c rs rh w x.id ⟨2,(0,0),x.pol,b0O⟩).1,a0R (h0E c rs rh w x.id ⟨2,(0,0),x.pol,b0O⟩).2)
 else if x.kind=7 then (w,n1A w x.id)
 else if w.over=true then (w,a0R 9)
 else ({ w with over:=true },a0R 0)
def e0C (w:Wd) (id:ByteArray):Adv × Int:=match h0O w id with
 | none=>(b0O,5)
 | some y=>if y.ruled=true then o0G y.pol y.smp y.past else (b0O,5)
def e0D (c:Cfg) (rs rh:Nat) (w:Wd) (id:ByteArray) (a:Adv):Wd × Bool:=match h0O w id with
 | none=>(w,false)
 | some _=>((h0E c rs rh w id ⟨3,(0,0),g0P,a⟩).1,true)
end
end Go.Proofs.YtmniiodpbebnmaaGreat
