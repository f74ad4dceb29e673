/- Part 28 of the proof: StoB, ShClone, FlAw, FlTx. -/
import Derived.KernelRfl
import Derived.Test.YtkcdhaallnhhmaaGreatP27
namespace Go.Proofs.YtkcdhaallnhhmaaGreat
set_option linter.unusedSimpArgs false
set_option linter.unusedVariables false
set_option linter.unusedSectionVars false
set_option maxRecDepth 100000
set_option maxHeartbeats 16000000
section
open Go.RowKit Go.Lib Go.Sort
open Go.ChangeMaps (setBlock)
section
variable {B:Nat→Prop} {S:Nat} {c:Cfg} {rs rh n:Nat} {wd:Wd} {d:StoD}
theorem findT_out {t:List Int} {k:Int} (h:k<1∨(t.length:Nat)<k):findT t k=5:=by
 unfold findT;rw [if_pos h]
end
end
section
open Go.Shelf
def cloneM_ren:Go.Shelf.Ren:=⟨fun|5=>49|7=>96|n=>n,fun|23=>94|25=>9|3=>50|4=>4|20=>20|n=>n,fun|n=>n⟩
theorem cloneM:Go.Proofs.SlLaysW.n5 Tryz.prog cloneM_ren:={
  mixed:=by kernel_rfl
  f5:=⟨Tryz.f49.name,by decide,Tryz.func49.trans (congrArg some (by kernel_rfl))⟩
  f7:=Tryz.func96.trans (congrArg some (by kernel_rfl))
  t4:=Tryz.underlying4
  a4:=Tryz.isAgg4
  z4:=Tryz.sizeOf4
  v4:=Tryz.zeroValue4
  t20:=Tryz.underlying20
  a20:=Tryz.isAgg20
  z20:=Tryz.sizeOf20
  v20:=Tryz.zeroValue20
  t23:=Tryz.underlying94
  a23:=Tryz.isAgg94
  z23:=Tryz.sizeOf94
  v23:=Tryz.zeroValue94 }
end
section
open Go.RowKit Go.Lib
theorem fw_new (c:Cfg) (rs rh k:Nat) (w:World) (hc:CfgOk c rs rh) (hk:(k:Int)=c.st) :
 Calls Tryz.prog 10 #[cfgV c] w fun e w'=>∃M d,e=.returned (.pointer (some ⟨M,0,none⟩))∧FW (fun b=>b≠M∧b≠d.L) w' M c rs rh 0 (newW k) d∧w.heap.size≤M∧w.heap.size≤d.L∧jB w w':=by
 refine (flNew_ok c rs rh k w hc.ok (by unfold cfgE;rw [if_pos hc.cfg]) hk).mono ?_;rintro e w' ⟨M,d,rfl,h,h1,h2,h3⟩;exact ⟨M,d,rfl,⟨h,newW_ok c rs rh k hk⟩,h1,h2,h3⟩
end
section
open Go.RowKit Go.Lib
theorem texts22_any (v u:Value) (l:List ByteArray) (w:World) (hv:RowIn 1 idC w v l) (hu:RowIn 1 idC w u l) (hl:l.length≤1000000) :
 Calls Tryz.prog 17 #[v,u] w (jP w (.bool true)):=by
 obtain ⟨A,c,rfl,_,h0⟩:=id hv;obtain ⟨B,d,rfl,_,h1⟩:=id hu;clear h0 h1;have HV:=jH hv;have HU:=jH hu;have q0:(l.length:Int)≤1000000:=by omega
 clear hv hu hl
 go_enter Tryz.func17,Tryz.ntmps17
 go_wp2
 go_loopg [5] l.length (fun g s5 wr=>∃k n:Nat,k≤l.length∧l.length - k≤g∧s5=.int .i64 k∧wr=w.drewN n)
 case atStart=>exact ⟨0,0,Nat.zero_le _,Nat.le_refl _,rfl,rfl⟩
 case round =>
  obtain ⟨k,n,hk,hg,rfl,rfl⟩:=hrel
  by_cases hlt:k<l.length
  · obtain ⟨b1,o1,rfl,hb1,c1⟩:=HV.out.at_ hlt
    obtain ⟨b2,o2,rfl,hb2,c2⟩:=HU.out.at_ hlt;have c1:=c1 0 _ rfl;have c2:=c2 0 _ rfl;rw [Nat.add_zero,Nat.mul_one] at c1 c2;generalize l[k]=x at c1 c2;go_wp2_with fail
    go_quiet (fail)
    go_wp2
    go_roundg (l.length - (k+1))
    case measure=>omega
    case rel=>exact ⟨k+1,_,hlt,Nat.le_refl _,by go_num,rfl⟩
  · obtain rfl:k=l.length:=by omega
    go_wp2
    go_ret
    exact ⟨rfl,below_drewN jR _⟩
end
end Go.Proofs.YtkcdhaallnhhmaaGreat
