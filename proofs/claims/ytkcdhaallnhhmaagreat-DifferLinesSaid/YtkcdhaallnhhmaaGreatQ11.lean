/- Part 11 of the proof: Route. -/
import Derived.Test.YtkcdhaallnhhmaaGreatQ04
import Derived.Test.YtkcdhaallnhhmaaGreatQ08
import Derived.Test.YtkcdhaallnhhmaaGreatQ10
namespace Go.Proofs.YtkcdhaallnhhmaaGreat
set_option linter.unusedSimpArgs false
set_option linter.unusedVariables false
set_option linter.unusedSectionVars false
set_option maxRecDepth 100000
set_option maxHeartbeats 16000000
section
open Go.RowKit Go.Lib
def keyNums (hi lo:Nat):List Int:=[byteI hi 72057594037927936,byteI hi 281474976710656,byteI hi 1099511627776,byteI hi 4294967296,byteI hi 16777216,byteI hi 65536,byteI hi 256,byteI hi 1,byteI lo 72057594037927936,byteI lo 281474976710656,byteI lo 1099511627776,byteI lo 4294967296,byteI lo 16777216,byteI lo 65536,byteI lo 256,byteI lo 1]
def keyStr (hi lo:Nat):ByteArray:=strOfNums (keyNums hi lo)
def fnvKey (hi lo:Nat):Nat:=sumL (keyStr hi lo).data.toList
theorem fnvKey_lt (hi lo:Nat):fnvKey hi lo<18446744073709551616:=sumL_lt _
theorem keyStr_size (hi lo:Nat):(keyStr hi lo).size=16:=by simp [keyStr,strOfNums_size,keyNums]
theorem run_convert_key {P:Program} (w:World) (hi lo T:Nat) (src e dst:TypeId) (hs:P.underlying src=some (.slice e)) (he:P.underlying e=some (.int .u8)) (hd:P.underlying dst=some .string) (H:Nat) (hH:w.heap.size=H) :
 (convert src dst (.slice (some ⟨H,0,none⟩) 16 16)).run P (w.alloc (.cells #[.int .u8 (byteI hi 72057594037927936),.int .u8 (byteI hi 281474976710656),.int .u8 (byteI hi 1099511627776),.int .u8 (byteI hi 4294967296),.int .u8 (byteI hi 16777216),.int .u8 (byteI hi 65536),.int .u8 (byteI hi 256),.int .u8 (byteI hi 1),.int .u8 (byteI lo 72057594037927936),.int .u8 (byteI lo 281474976710656),.int .u8 (byteI lo 1099511627776),.int .u8 (byteI lo 4294967296),.int .u8 (byteI lo 16777216),.int .u8 (byteI lo 65536),.int .u8 (byteI lo 256),.int .u8 (byteI lo 1)] T))=.ok (.string (keyStr hi lo)) (w.alloc (.cells #[.int .u8 (byteI hi 72057594037927936),.int .u8 (byteI hi 281474976710656),.int .u8 (byteI hi 1099511627776),.int .u8 (byteI hi 4294967296),.int .u8 (byteI hi 16777216),.int .u8 (byteI hi 65536),.int .u8 (byteI hi 256),.int .u8 (byteI hi 1),.int .u8 (byteI lo 72057594037927936),.int .u8 (byteI lo 281474976710656),.int .u8 (byteI lo 1099511627776),.int .u8 (byteI lo 4294967296),.int .u8 (byteI lo 16777216),.int .u8 (byteI lo 65536),.int .u8 (byteI lo 256),.int .u8 (byteI lo 1)] T)):=by
 subst hH;exact run_convert_bytes_arg (P:=P) _ src e hs he w.heap.size 0 16 16 (keyNums hi lo) rfl (fun i hlt=>by
  have hc:=(startA w #[.int .u8 (byteI hi 72057594037927936),.int .u8 (byteI hi 281474976710656),.int .u8 (byteI hi 1099511627776),.int .u8 (byteI hi 4294967296),.int .u8 (byteI hi 16777216),.int .u8 (byteI hi 65536),.int .u8 (byteI hi 256),.int .u8 (byteI hi 1),.int .u8 (byteI lo 72057594037927936),.int .u8 (byteI lo 281474976710656),.int .u8 (byteI lo 1099511627776),.int .u8 (byteI lo 4294967296),.int .u8 (byteI lo 16777216),.int .u8 (byteI lo 65536),.int .u8 (byteI lo 256),.int .u8 (byteI lo 1)] T).1 i
  rw [Nat.zero_add,hc]
  match i,hlt with
  | 0,_=>rfl
  | 1,_=>rfl
  | 2,_=>rfl
  | 3,_=>rfl
  | 4,_=>rfl
  | 5,_=>rfl
  | 6,_=>rfl
  | 7,_=>rfl
  | 8,_=>rfl
  | 9,_=>rfl
  | 10,_=>rfl
  | 11,_=>rfl
  | 12,_=>rfl
  | 13,_=>rfl
  | 14,_=>rfl
  | 15,_=>rfl
  | n+16,h=>exact absurd h (by omega)) dst hd
theorem fnvKey_any (hi lo:Nat) (w:World) (h1:hi<18446744073709551616) (h2:lo<18446744073709551616) :
 Calls Tryz.prog 218 #[keyV hi lo] w (jP w (.int .u64 (fnvKey hi lo:Nat))):=by
 have hsz:(keyStr hi lo).size≤maxLen:=by rw [keyStr_size];decide
 have Hsz:=jH hsz;clear hsz;unfold keyV
 go_enter Tryz.func218,Tryz.ntmps218
 go_wp2_with (first
  | (go_at_call 233;refine (fnvBytes_any hi lo _ h1 h2).mono ?_;unfold bytesA;rintro e w1 ⟨rfl,hb1⟩;have hcv:=run_convert_key (P:=Tryz.prog) w1 hi lo 308 243 5 9 Tryz.underlying243 Tryz.underlying5 Tryz.underlying9 _ rfl)
  | (go_at_call 234;refine (sum64_any _ _ Hsz.out).mono ?_;rintro e w' ⟨rfl,rfl⟩))
 go_ret
 exact ⟨rfl,balloc (bthen (balloc jR _) hb1) _⟩
def foldN (h b:Nat):Nat:=if b<1∨32<b then 0 else (h ^^^ (h / 2 ^ b)) % 2 ^ b
theorem foldN_lt (h b:Nat):foldN h b<4294967296:=by
 unfold foldN
 split
 · omega
 · have h1:(h ^^^ (h / 2 ^ b)) % 2 ^ b<2 ^ b:=Nat.mod_lt _ (Nat.pow_pos (by decide))
   have h2:2 ^ b≤2 ^ 32:=Nat.pow_le_pow_right (by decide) (by omega);omega
theorem fold_walk (h b:Nat) (hh:h<18446744073709551616) (hb1:1≤b) (hb2:b≤32) :
 bits BinOp.and IntKind.u64 (bits BinOp.xor IntKind.u64 (h:Int) ((h:Int) / 2 ^ b)) (IntKind.u64.wrap (IntKind.u64.wrap (2 ^ b) - 1))=(foldN h b:Nat):=by
 have hp:2 ^ b≤2 ^ 32:=Nat.pow_le_pow_right (by decide) hb2;have hp0:0<2 ^ b:=Nat.pow_pos (by decide);have e1:(h:Int) / 2 ^ b=((h / 2 ^ b:Nat):Int):=by rw [Int.natCast_ediv,Int.natCast_pow];rfl
 have hd:h / 2 ^ b≤h:=Nat.div_le_self _ _;have hx:h ^^^ (h / 2 ^ b)<2 ^ 64:=Nat.xor_lt_two_pow (by omega) (by omega);have e2:IntKind.u64.wrap (2 ^ b)=((2 ^ b:Nat):Int):=by
  have:=u64_wrap (2 ^ b) (by omega);rw [Int.natCast_pow] at this;exact this.trans (by rw [Int.natCast_pow])
 have e3:((2 ^ b:Nat):Int) - 1=((2 ^ b - 1:Nat):Int):=by omega
 rw [e1,u64_xor_nat _ _ hh (by omega),e2,e3,u64_wrap _ (by omega),u64_and_nat _ _ (by omega) (by omega),Nat.and_two_pow_sub_one_eq_mod];rw [foldN,if_neg (by omega)]
theorem fold_any (h:Nat) (b:Nat) (w:World) (hh:h<18446744073709551616) (hb:b≤6) :
 Calls Tryz.prog 217 #[.int .u64 h,.int .i64 b] w fun e w'=>e=.returned (.int .u64 (foldN h b:Nat))∧w=w':=by
 by_cases h0:b<1
 · obtain rfl:b=0:=by omega
   have hv:foldN h 0=0:=by simp [foldN]
   rw [hv];clear hv
   go_enter Tryz.func217,Tryz.ntmps217
   go_wp2
   go_ret
   exact ⟨rfl,rfl⟩
 · have hv:=fold_walk h b hh (by omega) (by omega)
   have Hv:=jH hv;clear hv
   go_enter Tryz.func217,Tryz.ntmps217
   go_wp2
   go_ret
   exact ⟨ret_int Hv.out,rfl⟩
theorem routeBits_0 (w:World) :
 Calls Tryz.prog 219 #[.int .i64 1] w fun e w'=>e=.returned (.int .i64 0)∧w=w':=by
 have hr:okSt 1=true:=by decide
 have Hr:=jH hr;clear hr
 go_enter Tryz.func219,Tryz.ntmps219
 go_wp2_with (go_at_call 86;refine (routeRight_any 1 _ (by simp [I64])).mono ?_;rw [Hr.out];rintro e w' ⟨rfl,rfl⟩)
 refine wp_loop_rounds 1 ?_;rw [rounds_succ];go_wp2
 go_ret
 exact ⟨rfl,rfl⟩
theorem routeBits_1 (w:World) :
 Calls Tryz.prog 219 #[.int .i64 2] w fun e w'=>e=.returned (.int .i64 1)∧w=w':=by
 have hr:okSt 2=true:=by decide
 have Hr:=jH hr;clear hr
 go_enter Tryz.func219,Tryz.ntmps219
 go_wp2_with (go_at_call 86;refine (routeRight_any 2 _ (by simp [I64])).mono ?_;rw [Hr.out];rintro e w' ⟨rfl,rfl⟩)
 refine wp_loop_rounds 2 ?_;rw [rounds_succ];go_wp2
 rw [rounds_succ];go_wp2
 go_ret
 exact ⟨rfl,rfl⟩
theorem routeBits_2 (w:World) :
 Calls Tryz.prog 219 #[.int .i64 4] w fun e w'=>e=.returned (.int .i64 2)∧w=w':=by
 have hr:okSt 4=true:=by decide
 have Hr:=jH hr;clear hr
 go_enter Tryz.func219,Tryz.ntmps219
 go_wp2_with (go_at_call 86;refine (routeRight_any 4 _ (by simp [I64])).mono ?_;rw [Hr.out];rintro e w' ⟨rfl,rfl⟩)
 refine wp_loop_rounds 3 ?_;rw [rounds_succ];go_wp2
 rw [rounds_succ];go_wp2
 rw [rounds_succ];go_wp2
 go_ret
 exact ⟨rfl,rfl⟩
theorem routeBits_3 (w:World) :
 Calls Tryz.prog 219 #[.int .i64 8] w fun e w'=>e=.returned (.int .i64 3)∧w=w':=by
 have hr:okSt 8=true:=by decide
 have Hr:=jH hr;clear hr
 go_enter Tryz.func219,Tryz.ntmps219
 go_wp2_with (go_at_call 86;refine (routeRight_any 8 _ (by simp [I64])).mono ?_;rw [Hr.out];rintro e w' ⟨rfl,rfl⟩)
 refine wp_loop_rounds 4 ?_;rw [rounds_succ];go_wp2
 rw [rounds_succ];go_wp2
 rw [rounds_succ];go_wp2
 rw [rounds_succ];go_wp2
 go_ret
 exact ⟨rfl,rfl⟩
theorem routeBits_4 (w:World) :
 Calls Tryz.prog 219 #[.int .i64 16] w fun e w'=>e=.returned (.int .i64 4)∧w=w':=by
 have hr:okSt 16=true:=by decide
 have Hr:=jH hr;clear hr
 go_enter Tryz.func219,Tryz.ntmps219
 go_wp2_with (go_at_call 86;refine (routeRight_any 16 _ (by simp [I64])).mono ?_;rw [Hr.out];rintro e w' ⟨rfl,rfl⟩)
 refine wp_loop_rounds 5 ?_;rw [rounds_succ];go_wp2
 rw [rounds_succ];go_wp2
 rw [rounds_succ];go_wp2
 rw [rounds_succ];go_wp2
 rw [rounds_succ];go_wp2
 go_ret
 exact ⟨rfl,rfl⟩
theorem routeBits_5 (w:World) :
 Calls Tryz.prog 219 #[.int .i64 32] w fun e w'=>e=.returned (.int .i64 5)∧w=w':=by
 have hr:okSt 32=true:=by decide
 have Hr:=jH hr;clear hr
 go_enter Tryz.func219,Tryz.ntmps219
 go_wp2_with (go_at_call 86;refine (routeRight_any 32 _ (by simp [I64])).mono ?_;rw [Hr.out];rintro e w' ⟨rfl,rfl⟩)
 refine wp_loop_rounds 6 ?_;rw [rounds_succ];go_wp2
 rw [rounds_succ];go_wp2
 rw [rounds_succ];go_wp2
 rw [rounds_succ];go_wp2
 rw [rounds_succ];go_wp2
 rw [rounds_succ];go_wp2
 go_ret
 exact ⟨rfl,rfl⟩
theorem routeBits_6 (w:World) :
 Calls Tryz.prog 219 #[.int .i64 64] w fun e w'=>e=.returned (.int .i64 6)∧w=w':=by
 have hr:okSt 64=true:=by decide
 have Hr:=jH hr;clear hr
 go_enter Tryz.func219,Tryz.ntmps219
 go_wp2_with (go_at_call 86;refine (routeRight_any 64 _ (by simp [I64])).mono ?_;rw [Hr.out];rintro e w' ⟨rfl,rfl⟩)
 refine wp_loop_rounds 7 ?_;rw [rounds_succ];go_wp2
 rw [rounds_succ];go_wp2
 rw [rounds_succ];go_wp2
 rw [rounds_succ];go_wp2
 rw [rounds_succ];go_wp2
 rw [rounds_succ];go_wp2
 rw [rounds_succ];go_wp2
 go_ret
 exact ⟨rfl,rfl⟩
theorem routeBits_any (n:Int) (w:World) (hn:okSt n=true) :
 Calls Tryz.prog 219 #[.int .i64 n] w fun e w'=>e=.returned (.int .i64 (bitsI n))∧w=w':=by
 rcases (okSt_iff n).1 hn with rfl|rfl|rfl|rfl|rfl|rfl|rfl
 · exact routeBits_0 w
 · exact routeBits_1 w
 · exact routeBits_2 w
 · exact routeBits_3 w
 · exact routeBits_4 w
 · exact routeBits_5 w
 · exact routeBits_6 w
def routeI (hi lo:Nat) (n:Int):Int:=if okSt n=true then (foldN (fnvKey hi lo) (bitsI n).toNat:Nat) else -1
theorem bitsI_bd (n:Int) (h:okSt n=true):0≤bitsI n∧bitsI n≤6:=by
 unfold bitsI
 rcases (okSt_iff n).1 h with rfl|rfl|rfl|rfl|rfl|rfl|rfl <;> decide
theorem routeOf_any (hi lo:Nat) (n:Int) (w:World) (h1:hi<18446744073709551616) (h2:lo<18446744073709551616) (hn:I64 n) :
 Calls Tryz.prog 193 #[keyV hi lo,.int .i64 n] w (jP w (.int .i64 (routeI hi lo n))):=by
 cases hr:okSt n with
 | false =>
   have hv:routeI hi lo n = -1:=by simp [routeI,hr]
   rw [hv];have Hr:=jH hr;clear hr hv;unfold keyV
   go_enter Tryz.func193,Tryz.ntmps193
   go_wp2_with (go_at_call 86;refine (routeRight_any n _ hn).mono ?_;rw [Hr.out];rintro e w' ⟨rfl,rfl⟩)
   go_ret
   exact ⟨rfl,balloc jR _⟩
 | true =>
   have hb:=bitsI_bd n hr;obtain ⟨m,hm⟩:=Int.eq_ofNat_of_zero_le hb.1;have hv:routeI hi lo n=(foldN (fnvKey hi lo) m:Nat):=by simp [routeI,hr,hm]
   have hf:=foldN_lt (fnvKey hi lo) m;have hk:=fnvKey_lt hi lo;have hm6:m≤6:=by omega
   rw [hv];have Hr:=jH hr;have Hm:=jH hm;clear hr hv hm hb;unfold keyV
   go_enter Tryz.func193,Tryz.ntmps193
   go_wp2_with (first
    | (go_at_call 86;refine (routeRight_any n _ hn).mono ?_;rw [Hr.out];rintro e w' ⟨rfl,rfl⟩)
    | (go_at_call 218;refine (fnvKey_any hi lo _ h1 h2).mono ?_;rintro e w1 ⟨rfl,hb1⟩)
    | (go_at_call 219;refine (routeBits_any n _ Hr.out).mono ?_;rw [Hm.out];rintro e w' ⟨rfl,rfl⟩)
    | (go_at_call 217;refine (fold_any _ m _ hk hm6).mono ?_;rintro e w' ⟨rfl,rfl⟩))
   go_ret
   exact ⟨rfl,bthen (balloc jR _) hb1⟩
end
end Go.Proofs.YtkcdhaallnhhmaaGreat
