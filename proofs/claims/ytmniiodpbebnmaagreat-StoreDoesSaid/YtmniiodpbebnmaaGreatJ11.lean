/- Part 11 of the proof. -/
import Derived.Test.YtmniiodpbebnmaaGreatJ10
import Derived.RangeFuncNested
import Derived.RangeFuncBound
import Derived.RangeFuncCalls
import Derived.RangeFuncLeaves
import Derived.Shelf.Abstract
import Derived.Shelf.RegionOpen
import Derived.OwnWalkIn
import Derived.TacticsInMore
import Derived.LoopNIn
import Derived.LoopIn
import Derived.Maps.AppendAt
namespace Go.Proofs.YtmniiodpbebnmaaGreat
set_option linter.unusedSimpArgs false
set_option linter.unusedVariables false
set_option linter.unusedSectionVars false
set_option maxRecDepth 100000
set_option maxHeartbeats 16000000
section
open Go.RowKit Go.Lib
def a1F:Nat:=1099511628211
def f0I:Nat:=14695981039346656037
def k0B (h b:Nat):Nat:=(h ^^^ b) * a1F % 18446744073709551616
def i1A (l:List UInt8):Nat:=l.foldl (fun h b=>k0B h b.toNat) f0I
theorem c1F (h b:Nat):k0B h b<18446744073709551616:=Nat.mod_lt _ (by decide)
theorem p1A (l:List UInt8) (h:Nat) (hh:h<18446744073709551616):l.foldl (fun h b=>k0B h b.toNat) h<18446744073709551616:=by
 induction l generalizing h with
 | nil=>exact hh
 | cons a l ih=>exact ih _ (c1F _ _)
theorem t0W:f0I<18446744073709551616:=by unfold f0I;omega
theorem m1E (l:List UInt8):i1A l<18446744073709551616:=by
 unfold i1A;exact p1A l f0I t0W
theorem k1P (l:List UInt8) (b:UInt8):i1A (l++[b])=k0B (i1A l) b.toNat:=by
 unfold i1A;rw [List.foldl_append,List.foldl_cons,List.foldl_nil]
theorem n0I (n:Nat):IntKind.u64.wrap (n:Int)=((n % 18446744073709551616:Nat):Int):=by
 have h:IntKind.u64.wrap (n:Int)=(n:Int) % 18446744073709551616:=by
  simp only [IntKind.wrap,IntKind.signed,IntKind.bits]
  simp
 rw [h];omega
theorem i1N (h c:Nat) (hh:h<18446744073709551616) (hc:c<256) :
 IntKind.u64.wrap (bits BinOp.xor IntKind.u64 (h:Int) (c:Int) * 1099511628211)=(k0B h c:Nat):=by
 rw [u64_xor_nat h c hh (by omega)];have e:((h ^^^ c:Nat):Int) * 1099511628211=(((h ^^^ c) * a1F:Nat):Int):=by
  rw [Int.natCast_mul];rfl
 rw [e,n0I];rfl
theorem k1S (s:ByteArray) (w:World) (hm:s.size≤maxLen) :
 Calls Tryz.prog 213 #[.string s] w fun e w'=>e=.returned (.int .u64 (i1A s.data.toList:Nat))∧w=w':=by
 have hmm:s.size≤9223372036854775807:=hm
 go_enter Tryz.func213,Tryz.ntmps213
 go_wp2
 go_loop [3,4,7] (fun h _ i=>∃k:Nat,k≤s.size∧i=.int .i64 k∧h=.int .u64 (i1A (s.data.toList.take k):Nat)) (fun _ _ i=>s.size - (intOf i).toNat)
 case atStart=>exact ⟨0,Nat.zero_le _,rfl,rfl⟩
 case round =>
  obtain ⟨k,hk,rfl,rfl⟩:=hrel
  by_cases hlt:k<s.size
  · have hsn:i1A (s.data.toList.take (k+1))=k0B (i1A (s.data.toList.take k)) (s[k]).toNat:=by
     rw [List.take_succ_eq_append_getElem (by simpa using hlt),k1P];rfl
    have hb:=m1E (s.data.toList.take k);generalize i1A (s.data.toList.take k)=h at hsn hb;have hc:(s[k]).toNat<256:=(s[k]).toNat_lt;have hst:=i1N h _ hb hc;have Hsn:=jH hsn;have Hst:=jH hst;clear hsn hst;go_wp2
    go_round
    case rel=>exact ⟨k+1,hlt,by go_num,by rw [Hsn.out,Hst.out]⟩
    case measure=>simp [intOf];omega
  · obtain rfl:k=s.size:=by omega
    go_wp2
    go_ret
    refine ⟨c0G ?_,rfl⟩;rw [List.take_of_length_le (by simp)]
def k0N (hi lo:Nat):List Int:=[a0X hi 72057594037927936,a0X hi 281474976710656,a0X hi 1099511627776,a0X hi 4294967296,a0X hi 16777216,a0X hi 65536,a0X hi 256,a0X hi 1,a0X lo 72057594037927936,a0X lo 281474976710656,a0X lo 1099511627776,a0X lo 4294967296,a0X lo 16777216,a0X lo 65536,a0X lo 256,a0X lo 1]
def r0J (hi lo:Nat):ByteArray:=strOfNums (k0N hi lo)
def j0D (hi lo:Nat):Nat:=i1A (r0J hi lo).data.toList
theorem v0Y (hi lo:Nat):j0D hi lo<18446744073709551616:=m1E _
theorem y0T (hi lo:Nat):(r0J hi lo).size=16:=by simp [r0J,strOfNums_size,k0N]
theorem p0B {P:Program} (w:World) (hi lo T:Nat) (src e dst:TypeId) (hs:P.underlying src=some (.slice e)) (he:P.underlying e=some (.int .u8)) (hd:P.underlying dst=some .string) (H:Nat) (hH:w.heap.size=H) :
 (convert src dst (.slice (some ⟨H,0,none⟩) 16 16)).run P (w.alloc (.cells #[.int .u8 (a0X hi 72057594037927936),.int .u8 (a0X hi 281474976710656),.int .u8 (a0X hi 1099511627776),.int .u8 (a0X hi 4294967296),.int .u8 (a0X hi 16777216),.int .u8 (a0X hi 65536),.int .u8 (a0X hi 256),.int .u8 (a0X hi 1),.int .u8 (a0X lo 72057594037927936),.int .u8 (a0X lo 281474976710656),.int .u8 (a0X lo 1099511627776),.int .u8 (a0X lo 4294967296),.int .u8 (a0X lo 16777216),.int .u8 (a0X lo 65536),.int .u8 (a0X lo 256),.int .u8 (a0X lo 1)] T))=.ok (.string (r0J hi lo)) (w.alloc (.cells #[.int .u8 (a0X hi 72057594037927936),.int .u8 (a0X hi 281474976710656),.int .u8 (a0X hi 1099511627776),.int .u8 (a0X hi 4294967296),.int .u8 (a0X hi 16777216),.int .u8 (a0X hi 65536),.int .u8 (a0X hi 256),.int .u8 (a0X hi 1),.int .u8 (a0X lo 72057594037927936),.int .u8 (a0X lo 281474976710656),.int .u8 (a0X lo 1099511627776),.int .u8 (a0X lo 4294967296),.int .u8 (a0X lo 16777216),.int .u8 (a0X lo 65536),.int .u8 (a0X lo 256),.int .u8 (a0X lo 1)] T)):=by
 subst hH;exact run_convert_bytes_arg (P:=P) _ src e hs he w.heap.size 0 16 16 (k0N hi lo) rfl (fun i hlt=>by
  have hc:=(i0K w #[.int .u8 (a0X hi 72057594037927936),.int .u8 (a0X hi 281474976710656),.int .u8 (a0X hi 1099511627776),.int .u8 (a0X hi 4294967296),.int .u8 (a0X hi 16777216),.int .u8 (a0X hi 65536),.int .u8 (a0X hi 256),.int .u8 (a0X hi 1),.int .u8 (a0X lo 72057594037927936),.int .u8 (a0X lo 281474976710656),.int .u8 (a0X lo 1099511627776),.int .u8 (a0X lo 4294967296),.int .u8 (a0X lo 16777216),.int .u8 (a0X lo 65536),.int .u8 (a0X lo 256),.int .u8 (a0X lo 1)] T).1 i
  rw [Nat.zero_add,hc]
  match i,hlt with
  | 0,_=>rfl
  | 1,_=>rfl
  | 2,_=>rfl
  | 3,_=>rfl
  | 4,_=>rfl
  | 5,_=>rfl
  | 6,_=>rfl
  | 7,_=>rfl
  | 8,_=>rfl
  | 9,_=>rfl
  | 10,_=>rfl
  | 11,_=>rfl
  | 12,_=>rfl
  | 13,_=>rfl
  | 14,_=>rfl
  | 15,_=>rfl
  | n+16,h=>exact absurd h (by omega)) dst hd
theorem h1X (hi lo:Nat) (w:World) (h1:hi<18446744073709551616) (h2:lo<18446744073709551616) :
 Calls Tryz.prog 159 #[x0D hi lo] w (jP w (.int .u64 (j0D hi lo:Nat))):=by
 have hsz:(r0J hi lo).size≤maxLen:=by rw [y0T];decide
 have Hsz:=jH hsz;clear hsz;unfold x0D
 go_enter Tryz.func159,Tryz.ntmps159
 go_wp2_with (first
  | (go_at_call 212;refine (w0X hi lo _ h1 h2).mono ?_;unfold c1D;rintro e w1 ⟨rfl,hb1⟩;have hcv:=p0B (P:=Tryz.prog) w1 hi lo 285 288 5 9 Tryz.underlying288 Tryz.underlying5 Tryz.underlying9 _ rfl)
  | (go_at_call 213;refine (k1S _ _ Hsz.out).mono ?_;rintro e w' ⟨rfl,rfl⟩))
 go_ret
 exact ⟨rfl,a0C (a0D (a0C jR _) hb1) _⟩
def j0E (h b:Nat):Nat:=if b<1∨32<b then 0 else (h ^^^ (h / 2 ^ b)) % 2 ^ b
theorem c1L (h b:Nat):j0E h b<4294967296:=by
 unfold j0E
 split
 · omega
 · have h1:(h ^^^ (h / 2 ^ b)) % 2 ^ b<2 ^ b:=Nat.mod_lt _ (Nat.pow_pos (by decide))
   have h2:2 ^ b≤2 ^ 32:=Nat.pow_le_pow_right (by decide) (by omega);omega
theorem n1I (h b:Nat) (hh:h<18446744073709551616) (hb1:1≤b) (hb2:b≤32) :
 bits BinOp.and IntKind.u64 (bits BinOp.xor IntKind.u64 (h:Int) ((h:Int) / 2 ^ b)) (IntKind.u64.wrap (IntKind.u64.wrap (2 ^ b) - 1))=(j0E h b:Nat):=by
 have hp:2 ^ b≤2 ^ 32:=Nat.pow_le_pow_right (by decide) hb2;have hp0:0<2 ^ b:=Nat.pow_pos (by decide);have e1:(h:Int) / 2 ^ b=((h / 2 ^ b:Nat):Int):=by rw [Int.natCast_ediv,Int.natCast_pow];rfl
 have hd:h / 2 ^ b≤h:=Nat.div_le_self _ _;have hx:h ^^^ (h / 2 ^ b)<2 ^ 64:=Nat.xor_lt_two_pow (by omega) (by omega);have e2:IntKind.u64.wrap (2 ^ b)=((2 ^ b:Nat):Int):=by
  have:=c0E (2 ^ b) (by omega);rw [Int.natCast_pow] at this;exact this.trans (by rw [Int.natCast_pow])
 have e3:((2 ^ b:Nat):Int) - 1=((2 ^ b - 1:Nat):Int):=by omega
 rw [e1,u64_xor_nat _ _ hh (by omega),e2,e3,c0E _ (by omega),u64_and_nat _ _ (by omega) (by omega),Nat.and_two_pow_sub_one_eq_mod];rw [j0E,if_neg (by omega)]
theorem o1S (h:Nat) (b:Nat) (w:World) (hh:h<18446744073709551616) (hb:b≤6) :
 Calls Tryz.prog 158 #[.int .u64 h,.int .i64 b] w fun e w'=>e=.returned (.int .u64 (j0E h b:Nat))∧w=w':=by
 by_cases h0:b<1
 · obtain rfl:b=0:=by omega
   have hv:j0E h 0=0:=by simp [j0E]
   rw [hv];clear hv
   go_enter Tryz.func158,Tryz.ntmps158
   go_wp2
   go_ret
   exact ⟨rfl,rfl⟩
 · have hv:=n1I h b hh (by omega) (by omega)
   have Hv:=jH hv;clear hv
   go_enter Tryz.func158,Tryz.ntmps158
   go_wp2
   go_ret
   exact ⟨c0G Hv.out,rfl⟩
theorem y0C (w:World) :
 Calls Tryz.prog 160 #[.int .i64 1] w fun e w'=>e=.returned (.int .i64 0)∧w=w':=by
 have hr:e0X 1=true:=by decide
 have Hr:=jH hr;clear hr
 go_enter Tryz.func160,Tryz.ntmps160
 go_wp2_with (go_at_call 110;refine (b0P 1 _ (by simp [I64])).mono ?_;rw [Hr.out];rintro e w' ⟨rfl,rfl⟩)
 refine wp_loop_rounds 1 ?_;rw [rounds_succ];go_wp2
 go_ret
 exact ⟨rfl,rfl⟩
theorem y0W (w:World) :
 Calls Tryz.prog 160 #[.int .i64 2] w fun e w'=>e=.returned (.int .i64 1)∧w=w':=by
 have hr:e0X 2=true:=by decide
 have Hr:=jH hr;clear hr
 go_enter Tryz.func160,Tryz.ntmps160
 go_wp2_with (go_at_call 110;refine (b0P 2 _ (by simp [I64])).mono ?_;rw [Hr.out];rintro e w' ⟨rfl,rfl⟩)
 refine wp_loop_rounds 2 ?_;rw [rounds_succ];go_wp2
 rw [rounds_succ];go_wp2
 go_ret
 exact ⟨rfl,rfl⟩
theorem a1E (w:World) :
 Calls Tryz.prog 160 #[.int .i64 4] w fun e w'=>e=.returned (.int .i64 2)∧w=w':=by
 have hr:e0X 4=true:=by decide
 have Hr:=jH hr;clear hr
 go_enter Tryz.func160,Tryz.ntmps160
 go_wp2_with (go_at_call 110;refine (b0P 4 _ (by simp [I64])).mono ?_;rw [Hr.out];rintro e w' ⟨rfl,rfl⟩)
 refine wp_loop_rounds 3 ?_;rw [rounds_succ];go_wp2
 rw [rounds_succ];go_wp2
 rw [rounds_succ];go_wp2
 go_ret
 exact ⟨rfl,rfl⟩
theorem z0T (w:World) :
 Calls Tryz.prog 160 #[.int .i64 8] w fun e w'=>e=.returned (.int .i64 3)∧w=w':=by
 have hr:e0X 8=true:=by decide
 have Hr:=jH hr;clear hr
 go_enter Tryz.func160,Tryz.ntmps160
 go_wp2_with (go_at_call 110;refine (b0P 8 _ (by simp [I64])).mono ?_;rw [Hr.out];rintro e w' ⟨rfl,rfl⟩)
 refine wp_loop_rounds 4 ?_;rw [rounds_succ];go_wp2
 rw [rounds_succ];go_wp2
 rw [rounds_succ];go_wp2
 rw [rounds_succ];go_wp2
 go_ret
 exact ⟨rfl,rfl⟩
theorem a1R (w:World) :
 Calls Tryz.prog 160 #[.int .i64 16] w fun e w'=>e=.returned (.int .i64 4)∧w=w':=by
 have hr:e0X 16=true:=by decide
 have Hr:=jH hr;clear hr
 go_enter Tryz.func160,Tryz.ntmps160
 go_wp2_with (go_at_call 110;refine (b0P 16 _ (by simp [I64])).mono ?_;rw [Hr.out];rintro e w' ⟨rfl,rfl⟩)
 refine wp_loop_rounds 5 ?_;rw [rounds_succ];go_wp2
 rw [rounds_succ];go_wp2
 rw [rounds_succ];go_wp2
 rw [rounds_succ];go_wp2
 rw [rounds_succ];go_wp2
 go_ret
 exact ⟨rfl,rfl⟩
theorem z0O (w:World) :
 Calls Tryz.prog 160 #[.int .i64 32] w fun e w'=>e=.returned (.int .i64 5)∧w=w':=by
 have hr:e0X 32=true:=by decide
 have Hr:=jH hr;clear hr
 go_enter Tryz.func160,Tryz.ntmps160
 go_wp2_with (go_at_call 110;refine (b0P 32 _ (by simp [I64])).mono ?_;rw [Hr.out];rintro e w' ⟨rfl,rfl⟩)
 refine wp_loop_rounds 6 ?_;rw [rounds_succ];go_wp2
 rw [rounds_succ];go_wp2
 rw [rounds_succ];go_wp2
 rw [rounds_succ];go_wp2
 rw [rounds_succ];go_wp2
 rw [rounds_succ];go_wp2
 go_ret
 exact ⟨rfl,rfl⟩
theorem y0Z (w:World) :
 Calls Tryz.prog 160 #[.int .i64 64] w fun e w'=>e=.returned (.int .i64 6)∧w=w':=by
 have hr:e0X 64=true:=by decide
 have Hr:=jH hr;clear hr
 go_enter Tryz.func160,Tryz.ntmps160
 go_wp2_with (go_at_call 110;refine (b0P 64 _ (by simp [I64])).mono ?_;rw [Hr.out];rintro e w' ⟨rfl,rfl⟩)
 refine wp_loop_rounds 7 ?_;rw [rounds_succ];go_wp2
 rw [rounds_succ];go_wp2
 rw [rounds_succ];go_wp2
 rw [rounds_succ];go_wp2
 rw [rounds_succ];go_wp2
 rw [rounds_succ];go_wp2
 rw [rounds_succ];go_wp2
 go_ret
 exact ⟨rfl,rfl⟩
theorem t0R (n:Int) (w:World) (hn:e0X n=true) :
 Calls Tryz.prog 160 #[.int .i64 n] w fun e w'=>e=.returned (.int .i64 (m0G n))∧w=w':=by
 rcases (l0P n).1 hn with rfl|rfl|rfl|rfl|rfl|rfl|rfl
 · exact y0C w
 · exact y0W w
 · exact a1E w
 · exact z0T w
 · exact a1R w
 · exact z0O w
 · exact y0Z w
def c0Z (hi lo:Nat) (n:Int):Int:=if e0X n=true then (j0E (j0D hi lo) (m0G n).toNat:Nat) else -1
theorem c1K (n:Int) (h:e0X n=true):0≤m0G n∧m0G n≤6:=by
 unfold m0G
 rcases (l0P n).1 h with rfl|rfl|rfl|rfl|rfl|rfl|rfl <;> decide
theorem a1V (hi lo:Nat) (n:Int) (w:World) (h1:hi<18446744073709551616) (h2:lo<18446744073709551616) (hn:I64 n) :
 Calls Tryz.prog 88 #[x0D hi lo,.int .i64 n] w (jP w (.int .i64 (c0Z hi lo n))):=by
 cases hr:e0X n with
 | false =>
   have hv:c0Z hi lo n = -1:=by simp [c0Z,hr]
   rw [hv];have Hr:=jH hr;clear hr hv;unfold x0D
   go_enter Tryz.func88,Tryz.ntmps88
   go_wp2_with (go_at_call 110;refine (b0P n _ hn).mono ?_;rw [Hr.out];rintro e w' ⟨rfl,rfl⟩)
   go_ret
   exact ⟨rfl,a0C jR _⟩
 | true =>
   have hb:=c1K n hr;obtain ⟨m,hm⟩:=Int.eq_ofNat_of_zero_le hb.1;have hv:c0Z hi lo n=(j0E (j0D hi lo) m:Nat):=by simp [c0Z,hr,hm]
   have hf:=c1L (j0D hi lo) m;have hk:=v0Y hi lo;have hm6:m≤6:=by omega
   rw [hv];have Hr:=jH hr;have Hm:=jH hm;clear hr hv hm hb;unfold x0D
   go_enter Tryz.func88,Tryz.ntmps88
   go_wp2_with (first
    | (go_at_call 110;refine (b0P n _ hn).mono ?_;rw [Hr.out];rintro e w' ⟨rfl,rfl⟩)
    | (go_at_call 159;refine (h1X hi lo _ h1 h2).mono ?_;rintro e w1 ⟨rfl,hb1⟩)
    | (go_at_call 160;refine (t0R n _ Hr.out).mono ?_;rw [Hm.out];rintro e w' ⟨rfl,rfl⟩)
    | (go_at_call 158;refine (o1S _ m _ hk hm6).mono ?_;rintro e w' ⟨rfl,rfl⟩))
   go_ret
   exact ⟨rfl,a0D (a0C jR _) hb1⟩
abbrev Itm:=Ky × Nd
def atP (l:List Itm) (k:Ky):Nat:=(l.takeWhile (fun x=>ltK x.1 k)).length
def r1M (l:List Itm) (k:Ky):Bool:=match l[atP l k]? with
 | none=>false
 | some x=>decide (x.1=k)
def getP (l:List Itm) (k:Ky):Nd:=match l[atP l k]? with
 | none=>nd0
 | some x=>if x.1=k then x.2 else nd0
def s1S (l:List Itm) (k:Ky) (y:Nd):List Itm:=l.take (atP l k)++[(k,y)]++l.drop (if r1M l k=true then atP l k+1 else atP l k)
theorem h0J {α β:Type} (f:α→β) (p:β→Bool):∀l:List α,((l.map f).takeWhile p).length=(l.takeWhile (fun x=>p (f x))).length
  | []=>rfl
  | a::l=>by
    rw [List.map_cons,List.takeWhile_cons,List.takeWhile_cons]
    cases p (f a)
    · rfl
    · simp [h0J f p l]
theorem y0F (l:List It) (k:Ky):atP (l.map c0X) k=atI l k:=h0J c0X _ l
theorem b1X (l:List It) (k:Ky):r1M (l.map c0X) k=h0U l k:=by
 unfold r1M h0U;rw [y0F]
 by_cases h:atI l k<l.length
 · rw [dif_pos h,List.getElem?_map,List.getElem?_eq_getElem h]
   rfl
 · rw [dif_neg h,List.getElem?_map,List.getElem?_eq_none (by omega)]
   rfl
theorem d1M (l:List It) (k:Ky):getP (l.map c0X) k=(i0Q l k).nd:=by
 unfold getP i0Q;rw [y0F]
 by_cases h:atI l k<l.length
 · rw [dif_pos h,List.getElem?_map,List.getElem?_eq_getElem h]
   by_cases h2:l[atI l k].key=k
   · rw [if_pos h2]
     exact if_pos h2
   · rw [if_neg h2]
     exact if_neg h2
 · rw [dif_neg h,List.getElem?_map,List.getElem?_eq_none (by omega)]
   rfl
theorem o1M (l:List It) (k:Ky) (y:Nd):s1S (l.map c0X) k y=i1B l k y:=by
 unfold s1S i1B;rw [y0F,b1X]
def l0X (c:Cfg) (rs rh:Nat) (l:List Itm) (k:Ky) (a:c0W):List Itm × Int :=
 let r:=n0P rs rh (getP l k) a
 if r.2.1≠0 then (l,r.2.1)
 else if r1M l k=false∧a.kind=3 then (l,5)
 else if r1M l k=false∧c.lo≤(l.length:Nat) then (l,6)
 else (s1S l k r.1,0)
theorem d1P (c:Cfg) (rs rh:Nat) (l:List It) (k:Ky) (a:c0W):l0X c rs rh (l.map c0X) k a=((g0Q c rs rh l k a).1,(g0Q c rs rh l k a).2.1):=by
 unfold l0X g0Q;rw [d1M,b1X];simp only [o1M,List.length_map]
 split
 · rfl
 · split
   · rfl
   · split
     · rfl
     · rfl
structure i1C where
 err:Int
 ep:Int
 hd:Int
 st:StD
 adv:Adv
def e0I (r:i1C):List Value:=[.int .i64 r.err,.int .i64 r.ep,.int .i64 r.hd,.int .i64 r.st.cnt,.int .i64 r.st.sum,.int .i64 r.st.least,.int .i64 r.st.most,.int .i64 r.st.mean,.int .i64 r.adv.tick,.int .i64 r.adv.load,.int .i64 r.adv.want,.int .i64 r.adv.repl,.int .i64 r.adv.why]
def d0S (r:i1C):Value:=.agg (e0I r).toArray
def c0N (e:Int):i1C:=⟨e,0,0,st0,c0U⟩
structure CutD where
 ep:Int
 items:List Itm
 freed:Bool
structure Wd where
 st:List (List Itm)
 cuts:List CutD
 ep:Int
 over:Bool
def w0Z (n:Nat):Wd:=⟨List.replicate n [],[],0,false⟩
def c0C (s:ByteArray):Ky:=if idS s=true then (hiN s.data.toList,loN s.data.toList) else (0,0)
theorem c0S (s:ByteArray):(c0C s).ok:=by
 unfold c0C
 split
 · have h1:=hiN_lt s.data.toList
   have h2:=loN_lt s.data.toList;exact ⟨by show hiN _<_;omega,by show loN _<_;omega⟩
 · exact ⟨by decide,by decide⟩
def b0O (l:List Itm) (k:Ky):Option Nd:=(l.find? fun p=>decide (p.1=k)).map (·.2)
def g0C (w:Wd):List Itm:=w.st.flatten
def m0H (w:Wd) (id:ByteArray):Option Nd:=b0O (g0C w) (c0C id)
def atW (c:Cfg) (id:ByteArray):Nat:=(c0Z (c0C id).1 (c0C id).2 c.st).toNat
def u0V (c:Cfg) (rs rh:Nat) (w:Wd) (id:ByteArray) (a:c0W):Wd × Int :=
 ({ w with st:=w.st.set (atW c id) (l0X c rs rh (w.st.getD (atW c id) []) (c0C id) a).1 },(l0X c rs rh (w.st.getD (atW c id) []) (c0C id) a).2)
def q0I (w:Wd) (cut:Int):Wd:={ w with st:=w.st.map fun l=>l.map fun p=>(p.1,g0R cut p.2) }
def e0J (w:Wd):List Int:=w.cuts.map fun c=>if c.freed=true then -1 else c.ep
def f0V (t:List Int):Nat:=t.countP fun n=>decide (0≤n)
def b0V (t:List Int) (n:Int):Int:=if n<1∨(t.length:Nat)<n then 5 else match t[n.toNat - 1]? with
 | none=>5
 | some e=>if e<0 then 8 else 0
def j0B (w:Wd):Wd × i1C :=
 if 64≤f0V (e0J w) then (w,c0N 6)
 else ({ w with ep:=w.ep+1,cuts:=w.cuts++[⟨w.ep+1,g0C w,false⟩] },⟨0,w.ep+1,((w.cuts.length+1:Nat):Int),st0,c0U⟩)
def l0Z (w:Wd) (n:Int):Wd × i1C :=
 if b0V (e0J w) n≠0 then (w,c0N (b0V (e0J w) n))
 else ({ w with cuts:=w.cuts.set (n.toNat - 1) ⟨0,[],true⟩ },c0N 0)
def f1P (w:Wd) (x:c0D):i1C :=
 if b0V (e0J w) x.handle≠0 then c0N (b0V (e0J w) x.handle)
 else match w.cuts[x.handle.toNat - 1]? with
  | none=>c0N 5
  | some c=>match b0O c.items (c0C x.id) with
    | none=>c0N 5
    | some y=>⟨0,c.ep,0,i0P y.smp x.tick x.val,c0U⟩
def g1T (w:Wd) (id:ByteArray):i1C:=match m0H w id with
 | none=>c0N 5
 | some y=>match y.past.getLast? with
   | none=>c0N 0
   | some a=>⟨0,0,0,st0,a⟩
def doW (c:Cfg) (rs rh:Nat) (w:Wd) (x:c0D):Wd × i1C :=
 if e0Y x≠0 then (w,c0N (e0Y x))
 else if x.kind=1 then ((u0V c rs rh w x.id ⟨0,(x.tick,x.val),k0L,c0U⟩).1,c0N (u0V c rs rh w x.id ⟨0,(x.tick,x.val),k0L,c0U⟩).2)
 else if x.kind=2 then (q0I w x.tick,c0N 0)
 else if x.kind=3 then j0B w
 else if x.kind=4 then l0Z w x.handle
 else if x.kind=5 then (w,f1P w x)
 else if x.kind=6 then ((u0V c rs rh w x.id ⟨2,(0,0),x.pol,c0U⟩).1,c0N (u0V c rs rh w x.id ⟨2,(0,0),x.pol,c0U⟩).2)
 else if x.kind=7 then (w,g1T w x.id)
 else if w.over=true then (w,c0N 9)
 else ({ w with over:=true },c0N 0)
def d0K (w:Wd) (id:ByteArray):Adv × Int:=match m0H w id with
 | none=>(c0U,5)
 | some y=>if y.ruled=true then n0K y.pol y.smp y.past else (c0U,5)
def j0P (c:Cfg) (rs rh:Nat) (w:Wd) (id:ByteArray) (a:Adv):Wd × Bool:=match m0H w id with
 | none=>(w,false)
 | some _=>((u0V c rs rh w id ⟨3,(0,0),k0L,a⟩).1,true)
structure n0Z (rs rh n:Nat) (p:Itm):Prop where
 nd:NdOk rs rh p.2
 ver:p.2.ver≤n
 key:p.1.ok
 smp:r0Y p.2.smp
 val:∀s∈p.2.smp,0≤s.1∧0≤s.2
 pol:p.2.pol.ok
theorem n0Z.mono {rs rh n m:Nat} {p:Itm} (h:n0Z rs rh n p) (hm:n≤m):n0Z rs rh m p:=⟨h.nd,Nat.le_trans h.ver hm,h.key,h.smp,h.val,h.pol⟩
theorem z0F:k0L.ok:=by unfold Pol.ok I64 k0L;dsimp only;omega
theorem r1V (rs rh n:Nat) (k:Ky) (hk:k.ok):n0Z rs rh n (k,nd0) :=
 ⟨⟨List.Pairwise.nil,Nat.zero_le _,Nat.zero_le _⟩,Nat.zero_le _,hk,(fun s hs=>by cases hs),(fun s hs=>by cases hs),z0F⟩
theorem l1Y {rs rh n:Nat} {l:List Itm} (h:∀p∈l,n0Z rs rh n p) (k:Ky) (hk:k.ok):n0Z rs rh n (k,getP l k):=by
 unfold getP
 split
 · exact r1V rs rh n k hk
 · rename_i x hx
   split
   · have hm:=List.mem_of_getElem? hx
     exact ⟨(h x hm).nd,(h x hm).ver,hk,(h x hm).smp,(h x hm).val,(h x hm).pol⟩
   · exact r1V rs rh n k hk
theorem d1B {l:List Smp} {room:Int} {x s:Smp} (h:s∈i0O l room x):s∈l∨s=x:=by
 unfold i0O at h
 split at h
 · rcases List.mem_or_eq_of_mem_set h with h|h
   · exact .inl h
   · exact .inr h
 · have h2:s∈h1Z l x:=by
    unfold x0T at h
    split at h
    · exact List.mem_of_mem_drop h
    · exact h
   unfold h1Z at h2;simp only [List.mem_append,List.mem_cons,List.mem_singleton,List.not_mem_nil,or_false] at h2
   rcases h2 with h2|h2|h2
   · exact .inl (List.mem_of_mem_take h2)
   · exact .inr h2
   · exact .inl (List.mem_of_mem_drop h2)
structure s1T (a:c0W):Prop where
 smp:I64 a.smp.1∧I64 a.smp.2
 pol:a.pol.ok
theorem t1V {rs rh n:Nat} {k:Ky} {x:Nd} {a:c0W} (h:n0Z rs rh n (k,x)) (ha:s1T a) (h1:1≤rh):n0Z rs rh (n+1) (k,(n0P rs rh x a).1):=by
 have hver:=h.ver;have hnd:=h.nd;dsimp only at hver hnd;unfold n0P
 split
 · split
   · rename_i _ hs
     refine ⟨⟨q0W hnd.ris _ _,t0Y hnd.len _,hnd.past⟩,Nat.succ_le_succ hver,h.key,fun s hs'=>?_,fun s hs'=>?_,h.pol⟩
     · rcases d1B hs' with h9|h9
       · exact h.smp s h9
       · rw [h9];exact ha.smp
     · rcases d1B hs' with h9|h9
       · exact h.val s h9
       · rw [h9]
         unfold g0V at hs
         split at hs
         · cases hs
         · split at hs
           · cases hs
           · exact ⟨by omega,by omega⟩
   · exact h.mono (Nat.le_succ n)
 · split
   · split
     · exact h.mono (Nat.le_succ n)
     · exact ⟨⟨f0J hnd.ris _,Nat.le_trans (by simp) hnd.len,hnd.past⟩,Nat.succ_le_succ hver,h.key,fun s hs=>h.smp s (List.mem_of_mem_drop hs),fun s hs=>h.val s (List.mem_of_mem_drop hs),h.pol⟩
   · split
     · split
       · exact ⟨⟨hnd.ris,hnd.len,hnd.past⟩,Nat.succ_le_succ hver,h.key,h.smp,h.val,ha.pol⟩
       · exact h.mono (Nat.le_succ n)
     · split
       · refine ⟨⟨hnd.ris,hnd.len,?_⟩,Nat.succ_le_succ hver,h.key,h.smp,h.val,h.pol⟩
         show (f0K x.past rh a.adv).length≤rh
         unfold f0K;have:=hnd.past
         split
         · simp;omega
         · simp;omega
       · exact h.mono (Nat.le_succ n)
theorem b1T {l:List Itm} {k:Ky} {y:Nd} {p:Itm} (h:p∈s1S l k y):p∈l∨p=(k,y):=by
 unfold s1S at h
 rcases List.mem_append.1 h with h|h
 · rcases List.mem_append.1 h with h|h
   · exact .inl (List.mem_of_mem_take h)
   · exact .inr (List.mem_singleton.1 h)
 · exact .inl (List.mem_of_mem_drop h)
theorem t1D {c:Cfg} {rs rh n:Nat} {l:List Itm} {k:Ky} {a:c0W} (h:∀p∈l,n0Z rs rh n p) (hk:k.ok) (ha:s1T a) (h1:1≤rh):∀p∈(l0X c rs rh l k a).1,n0Z rs rh (n+1) p:=by
 intro p hp;unfold l0X at hp;dsimp only at hp
 split at hp
 · exact (h p hp).mono (Nat.le_succ n)
 · split at hp
   · exact (h p hp).mono (Nat.le_succ n)
   · split at hp
     · exact (h p hp).mono (Nat.le_succ n)
     · rcases b1T hp with h9|h9
       · exact (h p h9).mono (Nat.le_succ n)
       · rw [h9];exact t1V (l1Y h k hk) ha h1
theorem q1T {c:Cfg} {rs rh:Nat} {l:List Itm} {k:Ky} {a:c0W} (hc:c.lo≤256) (h:l.length≤256):(l0X c rs rh l k a).1.length≤256:=by
 unfold l0X;dsimp only
 split
 · exact h
 · split
   · exact h
   · split
     · exact h
     · rename_i _ _ h3
       unfold s1S;have hat:atP l k≤l.length:=by
        unfold atP;exact (List.takeWhile_sublist _).length_le
       cases hh:r1M l k
       · rw [hh] at h3
         have:¬c.lo≤(l.length:Nat):=fun h9=>h3 ⟨rfl,h9⟩
         simp
         omega
       · have hlt:atP l k<l.length:=by
          unfold r1M at hh
          cases h9:l[atP l k]? with
          | none=>rw [h9] at hh;cases hh
          | some z=>exact (List.getElem?_eq_some_iff.1 h9).1
         simp
         omega
structure g0B (c:Cfg) (rs rh n:Nat) (w:Wd):Prop where
 len:(w.st.length:Int)=c.st
 room:∀l∈w.st,l.length≤256
 it:∀l∈w.st,∀p∈l,n0Z rs rh n p
 cuts:w.cuts.length≤n
 cit:∀q∈w.cuts,q.items.length≤20000∧∀p∈q.items,n0Z rs rh n p
 cep:∀q∈w.cuts,0≤q.ep∧q.ep≤n
 ep:0≤w.ep∧w.ep≤n
theorem g0B.mono {c:Cfg} {rs rh n m:Nat} {w:Wd} (h:g0B c rs rh n w) (hm:n≤m):g0B c rs rh m w :=
 ⟨h.len,h.room,fun l hl p hp=>(h.it l hl p hp).mono hm,Nat.le_trans h.cuts hm,fun q hq=>⟨(h.cit q hq).1,fun p hp=>((h.cit q hq).2 p hp).mono hm⟩,fun q hq=>⟨(h.cep q hq).1,by have:=(h.cep q hq).2;omega⟩,⟨h.ep.1,by have:=h.ep.2;omega⟩⟩
theorem s1K (c:Cfg) (rs rh:Nat) (k:Nat) (hk:(k:Int)=c.st):g0B c rs rh 0 (w0Z k) :=
 ⟨by simpa [w0Z] using hk,(fun l hl=>by rw [List.eq_of_mem_replicate hl];exact Nat.zero_le _),(fun l hl p hp=>by rw [List.eq_of_mem_replicate hl] at hp;cases hp),Nat.le_refl _,(fun q hq=>by cases hq),(fun q hq=>by cases hq),⟨Int.le_refl _,Int.le_refl _⟩⟩
theorem b1H {c:Cfg} {rs rh n:Nat} {w:Wd} {id:ByteArray} {a:c0W} (h:g0B c rs rh n w) (hc:c.lo≤256) (ha:s1T a) (h1:1≤rh):g0B c rs rh (n+1) (u0V c rs rh w id a).1:=by
 have hl:∀p∈w.st.getD (atW c id) [],n0Z rs rh n p:=by
  intro p hp
  by_cases hlt:atW c id<w.st.length
  · rw [List.getD_eq_getElem?_getD,List.getElem?_eq_getElem hlt] at hp
    exact h.it _ (List.getElem_mem hlt) p hp
  · rw [List.getD_eq_getElem?_getD,List.getElem?_eq_none (by omega)] at hp
    cases hp
 have hl2:(w.st.getD (atW c id) []).length≤256:=by
  by_cases hlt:atW c id<w.st.length
  · rw [List.getD_eq_getElem?_getD,List.getElem?_eq_getElem hlt]
    exact h.room _ (List.getElem_mem hlt)
  · rw [List.getD_eq_getElem?_getD,List.getElem?_eq_none (by omega)]
    exact Nat.zero_le _
 have hm:=h.mono (Nat.le_succ n);refine ⟨by show (((w.st.set _ _).length:Nat):Int)=c.st;simpa using h.len,fun l hlm=>?_,fun l hlm=>?_,hm.cuts,hm.cit,hm.cep,hm.ep⟩
 · rcases List.mem_or_eq_of_mem_set hlm with h9|h9
   · exact h.room l h9
   · rw [h9];exact q1T hc hl2
 · rcases List.mem_or_eq_of_mem_set hlm with h9|h9
   · exact hm.it l h9
   · rw [h9];exact t1D hl (c0S id) ha h1
theorem o1G {rs rh n:Nat} {p:Itm} (h:n0Z rs rh n p) (cut:Int):n0Z rs rh (n+1) (p.1,g0R cut p.2):=by
 have hver:=h.ver;unfold g0R
 split
 · exact (show n0Z rs rh n (p.1,p.2) from h).mono (Nat.le_succ n)
 · exact ⟨⟨f0J h.nd.ris _,Nat.le_trans (by simp) h.nd.len,h.nd.past⟩,Nat.succ_le_succ hver,h.key,fun s hs=>h.smp s (List.mem_of_mem_drop hs),fun s hs=>h.val s (List.mem_of_mem_drop hs),h.pol⟩
theorem n1R {c:Cfg} {rs rh n:Nat} {w:Wd} {cut:Int} (h:g0B c rs rh n w):g0B c rs rh (n+1) (q0I w cut):=by
 have hm:=h.mono (Nat.le_succ n);refine ⟨by show (((w.st.map _).length:Nat):Int)=c.st;simpa using h.len,fun l hlm=>?_,fun l hlm p hp=>?_,hm.cuts,hm.cit,hm.cep,hm.ep⟩
 · obtain ⟨l2,h2,rfl⟩:=List.mem_map.1 hlm
   simpa using h.room l2 h2
 · obtain ⟨l2,h2,rfl⟩:=List.mem_map.1 hlm
   obtain ⟨q,hq,rfl⟩:=List.mem_map.1 hp;exact o1G (h.it l2 h2 q hq) cut
theorem d1C:∀(l:List (List Itm)),(∀x∈l,x.length≤256)→l.flatten.length≤256 * l.length
  | [],_=>Nat.le_refl _
  | a::l,h=>by
    have h1:=h a (List.mem_cons_self ..);have h2:=d1C l (fun x hx=>h x (List.mem_cons_of_mem _ hx));simp only [List.flatten_cons,List.length_append,List.length_cons]
    omega
theorem d1H {c:Cfg} {rs rh n:Nat} {w:Wd} (h:g0B c rs rh n w) (hst:c.st≤64):(g0C w).length≤16384:=by
 have h1:=d1C w.st h.room;have h2:=h.len;unfold g0C;omega
theorem z0Z {c:Cfg} {rs rh n:Nat} {w:Wd} (h:g0B c rs rh n w):∀p∈g0C w,n0Z rs rh n p:=fun p hp=>by
 obtain ⟨l,hl,hp2⟩:=List.mem_flatten.1 hp;exact h.it l hl p hp2
theorem o1T {c:Cfg} {rs rh n:Nat} {w:Wd} (h:g0B c rs rh n w) (hst:c.st≤64):g0B c rs rh (n+1) (j0B w).1:=by
 have hm:=h.mono (Nat.le_succ n);have hep:=h.ep;unfold j0B
 split
 · exact hm
 · refine ⟨hm.len,hm.room,hm.it,?_,fun q hq=>?_,fun q hq=>?_,?_⟩
   · show (w.cuts++[_]).length≤n+1
     have:=h.cuts
     simp;omega
   · rcases List.mem_append.1 hq with h9|h9
     · exact hm.cit q h9
     · rw [List.mem_singleton.1 h9]
       exact ⟨by have:=d1H h hst;show (g0C w).length≤20000;omega,fun p hp=>(z0Z h p hp).mono (Nat.le_succ n)⟩
   · rcases List.mem_append.1 hq with h9|h9
     · exact hm.cep q h9
     · rw [List.mem_singleton.1 h9]
       show 0≤w.ep+1∧w.ep+1≤((n+1:Nat):Int)
       omega
   · show 0≤w.ep+1∧w.ep+1≤((n+1:Nat):Int)
     omega
theorem n1M {c:Cfg} {rs rh n:Nat} {w:Wd} {k:Int} (h:g0B c rs rh n w):g0B c rs rh (n+1) (l0Z w k).1:=by
 have hm:=h.mono (Nat.le_succ n);unfold l0Z
 split
 · exact hm
 · refine ⟨hm.len,hm.room,hm.it,?_,fun q hq=>?_,fun q hq=>?_,hm.ep⟩
   · show (w.cuts.set _ _).length≤n+1
     have:=h.cuts
     simp;omega
   · rcases List.mem_or_eq_of_mem_set hq with h9|h9
     · exact hm.cit q h9
     · rw [h9];exact ⟨Nat.zero_le _,(fun p hp=>by cases hp)⟩
   · rcases List.mem_or_eq_of_mem_set hq with h9|h9
     · exact hm.cep q h9
     · rw [h9];show (0:Int)≤0∧(0:Int)≤((n+1:Nat):Int);omega
theorem doW_ok {c:Cfg} {rs rh n:Nat} {w:Wd} {x:c0D} (h:g0B c rs rh n w) (hst:c.st≤64) (hlo:c.lo≤256) (h1:1≤rh) (hx:x.ok):g0B c rs rh (n+1) (doW c rs rh w x).1:=by
 have hm:=h.mono (Nat.le_succ n);obtain ⟨x1,x2,x3,x4,x5,x6⟩:=hx;unfold doW
 split
 · exact hm
 · split
   · exact b1H h hlo ⟨⟨x3,x4⟩,z0F⟩ h1
   · split
     · exact n1R h
     · split
       · exact o1T h hst
       · split
         · exact n1M h
         · split
           · exact hm
           · split
             · exact b1H h hlo ⟨⟨f1I,f1I⟩,x6⟩ h1
             · split
               · exact hm
               · split
                 · exact hm
                 · exact ⟨hm.len,hm.room,hm.it,hm.cuts,hm.cit,hm.cep,hm.ep⟩
theorem n1T {c:Cfg} {rs rh n:Nat} {w:Wd} {id:ByteArray} {a:Adv} (h:g0B c rs rh n w) (hlo:c.lo≤256) (h1:1≤rh):g0B c rs rh (n+1) (j0P c rs rh w id a).1:=by
 unfold j0P
 split
 · exact h.mono (Nat.le_succ n)
 · exact b1H h hlo ⟨⟨f1I,f1I⟩,z0F⟩ h1
end
section
open Go.RowKit Go.Lib Go.Sort
theorem g0N (N:Nat) (x:Nd) (rs rh:Nat) (fp:List Nat) (w:World) (h:b0B w N x rs rh fp) (hrs:rs≤256) :
 Calls Tryz.prog 107 #[.pointer (some ⟨N,0,none⟩)] w (n0C b0X 111 2 w x.smp):=by
 have HM:=jH (f0O N x rs rh fp w h);obtain ⟨S,fs,H,fh,h1,h2,h3,h4,h5,h6,hfp,h7,h8⟩:=h;unfold ndC at h1;have HS:=jH h2;have H1:=jH h1;clear h1 h2 h3 h4 h5 h6 hfp h7
 go_enter Tryz.func107,Tryz.ntmps107
 go_wp2_with (first
  | (go_at_call 174
     refine HM.out.mono ?_;rintro e w2 ⟨rfl,hb2⟩;obtain ⟨a1,a2,a3⟩:=a0A hb2 H1.out;have HB2:=jH hb2;clear hb2)
  | (go_at_call 128
     refine (g0O S _ _ fs w2 (HS.out.below HB2.out) (by omega)).mono ?_;rintro e w3 ⟨A,c,fq,rfl,hq,hf,hb3⟩;have HQ:=jH hq;have HF:=jH hf;have HB3:=jH hb3;clear hq hf hb3))
 go_ret
 have hs:=HB2.out.size;exact ⟨A,c,fq,rfl,HQ.out,fun k hk=>Nat.le_trans hs (HF.out k hk),a0D HB2.out HB3.out⟩
end
section
open Go.RowKit Go.Lib Go.Shelf
section
attribute [local go_sem] Oper.semAt_some
def Kp (n₀:Nat) (W W':World):Prop:=Below n₀ W W'∧KeepsWalks W W'
theorem kp_t {n₀:Nat} {A B C:World} (h:Kp n₀ A B) (k:Kp n₀ B C):Kp n₀ A C:=⟨h.1.trans k.1,h.2.trans k.2⟩
theorem kp_b {n₀:Nat} {w:World} (hn:n₀≤w.heap.size) (W:World) (l:Nat) (o o':Obj) (hl:w.heap.size≤l) (h:W.heap[l]?=some o) (hc:o.isCells=false) (hw:o.isWalk=false):Kp n₀ W (W.putObj l o') :=
 ⟨belowK_b hn W l o o' hl h hc hw,walksK_b (w:=w) W l o o' hl h hc hw⟩
def i1Z (W:World) (B:Nat) (x:Ky):Prop:=W.heap[B]?=some (.cells #[.int .u64 x.1,.int .u64 x.2] 74 (0,0))
theorem i1Z.lt {W:World} {B:Nat} {x:Ky} (h:i1Z W B x):B<W.heap.size:=(jL h)
theorem i1Z.c0 {W:World} {B:Nat} {x:Ky} (h:i1Z W B x):W.cell? ⟨B,0,none⟩=some (.int .u64 x.1):=by simp [World.cell?,show W.heap[B]?=_ from h]
theorem i1Z.c1 {W:World} {B:Nat} {x:Ky} (h:i1Z W B x):W.cell? ⟨B,1,none⟩=some (.int .u64 x.2):=by simp [World.cell?,show W.heap[B]?=_ from h]
theorem i1Z.kept {W W':World} {B:Nat} {x:Ky} {row:Option Nat} (h:i1Z W B x) (hg:W.grownBy W' row) (hne:some B≠row):i1Z W' B x:=(hg.block B h.lt hne).trans h
theorem o1Y (B:Nat) (x:Ky):Own (fun (_:Unit) W=>i1Z W B x):=fun s X Y row hs hg hrow =>
 hs.kept hg (fun e'=>by obtain ⟨o,ho,hc⟩:=hrow B e'.symm;rw [show X.heap[B]?=_ from hs] at ho;cases ho;cases hc)
abbrev encA (x:Ky):Array Value:=#[.agg #[.int .u64 x.1,.int .u64 x.2]]
theorem u0J (n:Nat) (hn:2≤n) (gf:Nat) (lb:Array Value) (eg:∀args w,(callFunc gf args).run Tryz.prog w=.ok (.enter gf args) w)
    (S Sp:List Ky→Prop) (N:Nat) (hN:N≤1000000) (w:World) (hseq:∀w',jB w w'→SeqStopsK Fence.wide (n - 1) Tryz.prog gf lb encA (Kp w.heap.size) S Sp N w') :
    CallsIn Fence.wide n Tryz.prog 295 #[.slice none 0 0,.func (.func gf) #[] lb] w fun e w'=>∃(v:Value) (ss:List Ky),e=.returned v∧S ss∧w'.ownsRow w.heap.size 74 2 v ss.length (a0G m0E ss)∧jB w w':=by
  have h1:1≤n:=by omega
  obtain ⟨i0,hi,hz0,hz1,hz2⟩:=info_parts p1D;refine callsIn_of_wp_marks Tryz.func295 rfl trivial ?_ rfl;simp only [Tryz.ntmps295,List.size_toArray,List.length_cons,List.length_nil,Nat.reduceAdd,Nat.reduceSub,Array.replicate_succ,Array.replicate_zero,List.push_toArray,List.append_toArray,List.nil_append,List.cons_append]
  gi_wp2
  have bS:=Boxed.new w 92 (.slice none 0 0);have hB0:jB w (w.alloc (.cells #[.slice none 0 0] 92)):=(Below.refl _ w).alloc (Nat.le_refl _) _;have hsz:(w.alloc (.cells #[.slice none 0 0] 92)).heap.size=w.heap.size+1:=by simp
  obtain ⟨W0,hW0⟩:∃W0,w.alloc (.cells #[.slice none 0 0] 92)=W0:=⟨_,rfl⟩;rw [hW0] at bS hB0 hsz ⊢;clear hW0
  refine wpIn_rangeFunc_ownH rfl h1 (gf:=gf) (lb:=lb) rfl trivial eg (hseq W0 hB0) kp_t (kp_b (by omega)) jR (fun _=>rfl)
    (fun pre W=>(∃v,Boxed W w.heap.size 92 v∧W.ownsRow w.heap.size 74 2 v pre.length (a0G m0E pre)∧True)∧jB w W)
    (fun _ _ _=>False)
    (OwnFrom.and (Own.from (holdsRow_own w.heap.size w.heap.size 92 74 2 (fun pre=>pre.length) (fun pre=>a0G m0E pre) (fun _ _=>True)) _) (ownFrom_below (Nat.le_refl _) (by omega)))
    (fun _ _ _ _ _ hs _ _=>hs)
    ⟨⟨_,bS,World.ownsRow_nil _ _ _ _,trivial⟩,hB0⟩
    (fun x a' W=>∃Bx,w.heap.size<Bx∧i1Z W Bx x∧a' = { tmps:=#[.slice none 0 0,.func (.func gf) #[] lb,.pointer (some ⟨w.heap.size,0,none⟩),undef,.slice none 0 0,.pointer (some ⟨Bx,0,none⟩),.func (.func gf) #[] lb,.agg #[.int .u64 x.1,.int .u64 x.2],undef,undef,undef,undef,undef],defers:=[] })
    (fun x a' _ X Y row hs hg hr=>by obtain ⟨Bx,h1,h2,h3⟩:=hs;exact ⟨Bx,h1,o1Y Bx x () X Y row h2 hg (fun r e=>(hr r e).2),h3⟩)
    ?assign ?body ?done ?stop
  case assign =>
   rintro l pre x W K ⟨⟨v,hv,hrow,_⟩,hB⟩ hK;have hs:=hB.size
   gi_wp2
   have hW:jB W (W.alloc (.cells #[.int .u64 x.1,.int .u64 x.2] 74)):=(Below.refl _ W).alloc (Nat.le_refl _) _
   exact hK _ _ ((KeepsOthers.alloc _ _).from _) ⟨hW.mono hs,KeepsWalks.alloc _ _⟩
     ⟨⟨v,(hW.block _ hv.lt).trans hv,p0F hrow hW,trivial⟩,hB.trans (hW.mono hs)⟩ ⟨W.heap.size,hv.lt,World.alloc_heap_new W _,rfl⟩
  case body =>
   rintro l pre x a' W hl ⟨r,hr⟩ ⟨⟨v,hv,hrow,_⟩,hB⟩ ⟨Bx,hBx,bX,rfl⟩ hlt;have hc:=hv.cell;have k0:=bX.c0;have k1:=bX.c1;have hs:=hB.size;have hpl:pre.length<1000000:=by omega
   gi_wp2_with (gi_at_builtin;refine wpListIn_append_own _ rfl _ _ 92 rfl w.heap.size 74 i0 (.agg #[.int .u64 0,.int .u64 0]) 2 16 Tryz.underlying92 hi hz0 hz1 hz2 rfl (by decide) _ _ _ rfl (hrow.alloc _) ⟨W.heap.size,0,none⟩ 1 1 (m0E x) rfl rfl (c1Y _ _ _ _ rfl) (n1Y x) (by simp only [maxLen];omega) (by omega) (by simp;omega) ?_;intro v' w1 hown' hgrow _;obtain ⟨g',cap',rfl⟩:=ownsRow_succ hown';obtain ⟨hv1,hv2,hr2,hk2,hb2⟩:=hv.appended (by decide) hrow hB.size (Nat.le_refl _) hown' hgrow;have hc1:=hv1.cell;have hf1:=hv1.frozen)
   have e1:(pre++[x]).length=pre.length+1:=by simp
   have e2:a0G m0E (pre++[x])=a0G m0E pre++m0E x:=by rw [c0M];simp [a0G]
   exact ⟨hk2.from _,⟨hb2,hk2.walks⟩,⟨_,hv2,by rw [e1,e2];exact hr2,trivial⟩,hB.trans hb2⟩
  case done =>
   rintro D ys W hD hS ⟨⟨v,hv,hrow,_⟩,hB⟩ hK;have hc:=hv.cell
   gi_wp2
   refine ⟨by simp,.inl ⟨_,_,rfl,run_takeDeferred hK,?_⟩⟩;exact ⟨_,results_tmp rfl _ _ _,v,ys,rfl,hS,ownsRow_putObj hrow _ hK rfl,hB.trans (belowK_b (w:=w) (Nat.le_refl _) W D _ _ (by omega) hK rfl rfl)⟩
  case stop =>
   rintro D c pre W _ _ h _;exact h.elim
theorem a1L {n gf:Nat} {lb:Array Value} {Kq:World→World→Prop} {S Sp:List Ky→Prop} {N:Nat} {w w':World} (hb:jB w w') (h:SeqStopsK Fence.wide n Tryz.prog gf lb encA Kq S Sp N w):SeqStopsK Fence.wide n Tryz.prog gf lb encA Kq S Sp N w' :=
 fun l J Jx W hW h1 h2 h3 h4=>h l J Jx W (hb.trans (hW.mono hb.size)) h1 h2 h3 h4
theorem f1J (n:Nat) (hn:3≤n) (gf:Nat) (lb:Array Value) (eg:∀args w,(callFunc gf args).run Tryz.prog w=.ok (.enter gf args) w)
    (S Sp:List Ky→Prop) (N:Nat) (hN:N≤1000000) (w:World) (hseq:SeqStopsK Fence.wide (n - 1 - 1) Tryz.prog gf lb encA (Kp w.heap.size) S Sp N w) :
    CallsIn Fence.wide n Tryz.prog 257 #[.func (.func gf) #[] lb] w fun e w'=>∃(v:Value) (ss:List Ky),e=.returned v∧S ss∧w'.ownsRow w.heap.size 74 2 v ss.length (a0G m0E ss)∧jB w w':=by
  have h1:1≤n:=by omega
  have e11:∀args w,(callFunc 295 args).run Tryz.prog w=.ok (.enter 295 args) w:=enters_of Tryz.func295 (by kernel_rfl) rfl;refine callsIn_of_wp Tryz.func257 rfl trivial ?_ rfl;simp only [Tryz.ntmps257,List.size_toArray,List.length_cons,List.length_nil,Nat.reduceAdd,Nat.reduceSub,Array.replicate_succ,Array.replicate_zero,List.push_toArray,List.append_toArray,List.nil_append,List.cons_append]
  gi_wp2_with (refine ⟨trivial,?_⟩;gi_at_call 295;refine (u0J (n - 1) (by omega) gf lb eg S Sp N hN _ (fun w' hb=>a1L hb hseq)).mono ?_;rintro e w' ⟨v,ss,rfl,hS,hrow,hb⟩)
  go_ret
  exact ⟨v,ss,rfl,hS,hrow,hb⟩
end
section
attribute [local go_sem] Oper.semAt_some
def intOf:Value→Int
  | .int _ i=>i
  | _=>0
def Lists (w:World) (ss:List Ky) (e:Ending) (w':World):Prop :=
 ∃v,e=.returned v∧w'.ownsRow w.heap.size 74 2 v ss.length (a0G m0E ss)∧jB w w'
end
end
end Go.Proofs.YtmniiodpbebnmaaGreat
