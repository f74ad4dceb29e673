/- Part 10 of the proof: FnvBytes. -/
import Derived.Test.YtkcdhaallnhhmaaGreatQ01
namespace Go.Proofs.YtkcdhaallnhhmaaGreat
set_option linter.unusedSimpArgs false
set_option linter.unusedVariables false
set_option linter.unusedSectionVars false
set_option maxRecDepth 100000
set_option maxHeartbeats 16000000
section
open Go.RowKit Go.Lib
def byteI (x k:Nat):Int:=((x / k % 256:Nat):Int)
def bytesA (hi lo:Nat):Array Value:=#[
  .int .u8 (byteI hi 72057594037927936),
  .int .u8 (byteI hi 281474976710656),
  .int .u8 (byteI hi 1099511627776),
  .int .u8 (byteI hi 4294967296),
  .int .u8 (byteI hi 16777216),
  .int .u8 (byteI hi 65536),
  .int .u8 (byteI hi 256),
  .int .u8 (byteI hi 1),
  .int .u8 (byteI lo 72057594037927936),
  .int .u8 (byteI lo 281474976710656),
  .int .u8 (byteI lo 1099511627776),
  .int .u8 (byteI lo 4294967296),
  .int .u8 (byteI lo 16777216),
  .int .u8 (byteI lo 65536),
  .int .u8 (byteI lo 256),
  .int .u8 (byteI lo 1)]
theorem byteI_mid (x k:Nat):byteI x k=(x:Int) / (k:Int) % 256:=by unfold byteI;simp
theorem byteI_low (x:Nat):byteI x 1=(x:Int) % 256:=by unfold byteI;simp
theorem byteI_top (x:Nat) (h:x<18446744073709551616):byteI x 72057594037927936=(x:Int) / 72057594037927936:=by unfold byteI;omega
theorem bytesA_walk (hi lo:Nat) (h1:hi<18446744073709551616) (h2:lo<18446744073709551616):bytesA hi lo=#[.int .u8 ((hi:Int) / 72057594037927936),.int .u8 ((hi:Int) / 281474976710656 % 256),.int .u8 ((hi:Int) / 1099511627776 % 256),.int .u8 ((hi:Int) / 4294967296 % 256),.int .u8 ((hi:Int) / 16777216 % 256),.int .u8 ((hi:Int) / 65536 % 256),.int .u8 ((hi:Int) / 256 % 256),.int .u8 ((hi:Int) % 256),.int .u8 ((lo:Int) / 72057594037927936),.int .u8 ((lo:Int) / 281474976710656 % 256),.int .u8 ((lo:Int) / 1099511627776 % 256),.int .u8 ((lo:Int) / 4294967296 % 256),.int .u8 ((lo:Int) / 16777216 % 256),.int .u8 ((lo:Int) / 65536 % 256),.int .u8 ((lo:Int) / 256 % 256),.int .u8 ((lo:Int) % 256)]:=by
 unfold bytesA;rw [byteI_top hi h1,byteI_top lo h2];simp only [byteI_low]
 simp only [byteI_mid]
 simp
theorem fnvBytes_any (hi lo:Nat) (w:World) (h1:hi<18446744073709551616) (h2:lo<18446744073709551616) :
 Calls Tryz.prog 233 #[keyV hi lo] w (jP w (.agg (bytesA hi lo))):=by
 unfold keyV
 go_enter Tryz.func233,Tryz.ntmps233
 go_wp2
 refine wp_loop_rounds 9 ?_;rw [rounds_succ];go_wp2
 rw [rounds_succ];go_wp2
 rw [rounds_succ];go_wp2
 rw [rounds_succ];go_wp2
 rw [rounds_succ];go_wp2
 rw [rounds_succ];go_wp2
 rw [rounds_succ];go_wp2
 rw [rounds_succ];go_wp2
 rw [rounds_succ];go_wp2
 rw [bytesA_walk hi lo h1 h2];exact bodyPost_ret (v:=.agg #[.int .u8 ((hi:Int) / 72057594037927936),.int .u8 ((hi:Int) / 281474976710656 % 256),.int .u8 ((hi:Int) / 1099511627776 % 256),.int .u8 ((hi:Int) / 4294967296 % 256),.int .u8 ((hi:Int) / 16777216 % 256),.int .u8 ((hi:Int) / 65536 % 256),.int .u8 ((hi:Int) / 256 % 256),.int .u8 ((hi:Int) % 256),.int .u8 ((lo:Int) / 72057594037927936),.int .u8 ((lo:Int) / 281474976710656 % 256),.int .u8 ((lo:Int) / 1099511627776 % 256),.int .u8 ((lo:Int) / 4294967296 % 256),.int .u8 ((lo:Int) / 16777216 % 256),.int .u8 ((lo:Int) / 65536 % 256),.int .u8 ((lo:Int) / 256 % 256),.int .u8 ((lo:Int) % 256)]) (by simp [results,Tryz.results233,go_sem]) rfl ⟨rfl,balloc (balloc (balloc jR _) _) _⟩
end
end Go.Proofs.YtkcdhaallnhhmaaGreat
