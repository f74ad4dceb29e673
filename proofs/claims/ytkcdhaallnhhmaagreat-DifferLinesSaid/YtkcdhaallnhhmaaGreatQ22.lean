/- Part 22 of the proof: Eqs. -/
import Derived.Test.YtkcdhaallnhhmaaGreatQ04
namespace Go.Proofs.YtkcdhaallnhhmaaGreat
set_option linter.unusedSimpArgs false
set_option linter.unusedVariables false
set_option linter.unusedSectionVars false
set_option maxRecDepth 100000
set_option maxHeartbeats 16000000
section
open Go.RowKit Go.Lib Go.Sort
deriving instance DecidableEq for Adv
theorem smp_ne {x y:Smp} (h:x≠y):x.1≠y.1∨x.2≠y.2:=by
 by_cases h1:x.1=y.1
 · exact .inr (fun h2=>h (Prod.ext h1 h2))
 · exact .inl h1
theorem adv_ne {x y:Adv} (h:x≠y):x.tick≠y.tick∨x.load≠y.load∨x.want≠y.want∨x.repl≠y.repl∨x.why≠y.why:=by
 obtain ⟨a,b,c,d,e⟩:=x;obtain ⟨a2,b2,c2,d2,e2⟩:=y
 by_cases h1:a=a2 <;> by_cases h2:b=b2 <;> by_cases h3:c=c2 <;> by_cases h4:d=d2 <;> by_cases h5:e=e2 <;> simp_all
theorem sEqual_any (v u:Value) (l m:List Smp) (w:World) (hv:RowIn 2 smpC w v l) (hu:RowIn 2 smpC w u m) (hl:l.length≤1000000) (hm:m.length≤1000000) :
 Calls Tryz.prog 58 #[v,u] w (jP w (.bool (decide (l=m)))):=by
 obtain ⟨A,c,rfl⟩:=hv.form;obtain ⟨A',c',rfl⟩:=hu.form;have HV:=jH hv;have HU:=jH hu;have hl9:l.length≤9223372036854775807:=by omega
 have hm9:m.length≤9223372036854775807:=by omega
 clear hv hu
 by_cases hlen:l.length=m.length
 · have HLE:=jH hlen
   have hne:((l.length:Int) != (m.length:Int))=false:=by rw [hlen];simp
   clear hlen
   go_enter Tryz.func58,Tryz.ntmps58
   go_wp2_with fail
   clear hne
   go_loopg [13] l.length (fun g s13 wr=>∃k:Nat,k≤l.length∧l.length - k≤g∧s13=.int .i64 k∧Hid (l.take k=m.take k)∧jB w wr)
   case atStart=>exact ⟨0,Nat.zero_le _,Nat.le_refl _,rfl,jH (by simp),jR⟩
   case round =>
    obtain ⟨k,hk,hg,rfl,HT,hb⟩:=hrel;rename World=>wr
    have HB:=jH hb;clear hb
    by_cases hlt:k<l.length
    · have hlt2:k<m.length:=by have:=HLE.out;omega
      obtain ⟨b1,o1,rfl,hb1,hc1⟩:=(HV.out.below HB.out).at_ hlt;obtain ⟨b2,o2,rfl,hb2,hc2⟩:=(HU.out.below HB.out).at_ hlt2;have z1:(0:Int)≤(k:Int):=by omega
      have z2:(k:Int)<(l.length:Int):=by omega
      have z3:(k:Int)<(m.length:Int):=by omega
      by_cases hxy:l[k]=m[k]
      · have HT2:=jH (show l.take (k+1)=m.take (k+1) by rw [List.take_succ_eq_append_getElem hlt,List.take_succ_eq_append_getElem hlt2,HT.out,hxy])
        rw [←hxy] at hc2;generalize l[k]=x at hc1 hc2;have c0:=hc1 0 _ rfl;have c1:=hc1 1 _ rfl;rw [Nat.add_zero] at c0;have d0:=hc2 0 _ rfl;have d1:=hc2 1 _ rfl;rw [Nat.add_zero] at d0;clear hc1 hc2 hxy;go_wp2_with fail
        go_quiet (fail)
        go_wp2_with fail
        go_roundg (l.length - (k+1))
        case measure=>omega
        case rel=>exact ⟨k+1,hlt,Nat.le_refl _,by go_num,HT2,below_drewN HB.out _⟩
      · have HNE:=jH (show decide (l=m)=false from decide_eq_false (fun e=>hxy (by subst e;rfl)))
        generalize l[k]=x at hc1 hxy;generalize m[k]=y at hc2 hxy;have c0:=hc1 0 _ rfl;have c1:=hc1 1 _ rfl;rw [Nat.add_zero] at c0;have d0:=hc2 0 _ rfl;have d1:=hc2 1 _ rfl;rw [Nat.add_zero] at d0;clear hc1 hc2
        rcases smp_ne hxy with hne|hne
        · have hq:(x.1 == y.1)=false:=by simpa using hne
          clear hne;go_wp2_with fail
          go_quiet (fail)
          go_wp2_with fail
          go_ret
          exact ⟨by rw [HNE.out];rfl,below_drewN HB.out _⟩
        · have hq:(x.2 == y.2)=false:=by simpa using hne
          clear hne;go_wp2_with fail
          go_quiet (fail)
          go_wp2_with fail
          go_ret
          exact ⟨by rw [HNE.out];rfl,below_drewN HB.out _⟩
    · obtain rfl:k=l.length:=by omega
      have e:l=m:=by have:=HT.out;rw [List.take_length,HLE.out,List.take_length] at this;exact this
      have HE:=jH (show decide (l=m)=true from decide_eq_true e);clear e;go_wp2_with fail
      go_ret
      exact ⟨by rw [HE.out];rfl,HB.out⟩
 · have hne:((l.length:Int) != (m.length:Int))=true:=by simp;omega
   have HNE:=jH (show decide (l=m)=false from decide_eq_false (fun e=>hlen (by rw [e])));clear hlen
   go_enter Tryz.func58,Tryz.ntmps58
   go_wp2_with fail
   go_ret
   exact ⟨by rw [HNE.out];rfl,jR⟩
theorem aEqual_any (v u:Value) (l m:List Adv) (w:World) (hv:RowIn 5 advC w v l) (hu:RowIn 5 advC w u m) (hl:l.length≤1000000) (hm:m.length≤1000000) :
 Calls Tryz.prog 59 #[v,u] w (jP w (.bool (decide (l=m)))):=by
 obtain ⟨A,c,rfl⟩:=hv.form;obtain ⟨A',c',rfl⟩:=hu.form;have HV:=jH hv;have HU:=jH hu;have hl9:l.length≤9223372036854775807:=by omega
 have hm9:m.length≤9223372036854775807:=by omega
 clear hv hu
 by_cases hlen:l.length=m.length
 · have HLE:=jH hlen
   have hne:((l.length:Int) != (m.length:Int))=false:=by rw [hlen];simp
   clear hlen
   go_enter Tryz.func59,Tryz.ntmps59
   go_wp2_with fail
   clear hne
   go_loopg [13] l.length (fun g s13 wr=>∃k:Nat,k≤l.length∧l.length - k≤g∧s13=.int .i64 k∧Hid (l.take k=m.take k)∧jB w wr)
   case atStart=>exact ⟨0,Nat.zero_le _,Nat.le_refl _,rfl,jH (by simp),jR⟩
   case round =>
    obtain ⟨k,hk,hg,rfl,HT,hb⟩:=hrel;rename World=>wr
    have HB:=jH hb;clear hb
    by_cases hlt:k<l.length
    · have hlt2:k<m.length:=by have:=HLE.out;omega
      obtain ⟨b1,o1,rfl,hb1,hc1⟩:=(HV.out.below HB.out).at_ hlt;obtain ⟨b2,o2,rfl,hb2,hc2⟩:=(HU.out.below HB.out).at_ hlt2;have z1:(0:Int)≤(k:Int):=by omega
      have z2:(k:Int)<(l.length:Int):=by omega
      have z3:(k:Int)<(m.length:Int):=by omega
      by_cases hxy:l[k]=m[k]
      · have HT2:=jH (show l.take (k+1)=m.take (k+1) by rw [List.take_succ_eq_append_getElem hlt,List.take_succ_eq_append_getElem hlt2,HT.out,hxy])
        rw [←hxy] at hc2;generalize l[k]=x at hc1 hc2;have c0:=hc1 0 _ rfl;have c1:=hc1 1 _ rfl;have c2:=hc1 2 _ rfl;have c3:=hc1 3 _ rfl;have c4:=hc1 4 _ rfl;rw [Nat.add_zero] at c0;have d0:=hc2 0 _ rfl;have d1:=hc2 1 _ rfl;have d2:=hc2 2 _ rfl;have d3:=hc2 3 _ rfl;have d4:=hc2 4 _ rfl;rw [Nat.add_zero] at d0;clear hc1 hc2 hxy;go_wp2_with fail
        go_quiet (fail)
        go_wp2_with fail
        go_roundg (l.length - (k+1))
        case measure=>omega
        case rel=>exact ⟨k+1,hlt,Nat.le_refl _,by go_num,HT2,below_drewN HB.out _⟩
      · have HNE:=jH (show decide (l=m)=false from decide_eq_false (fun e=>hxy (by subst e;rfl)))
        generalize l[k]=x at hc1 hxy;generalize m[k]=y at hc2 hxy;have c0:=hc1 0 _ rfl;have c1:=hc1 1 _ rfl;have c2:=hc1 2 _ rfl;have c3:=hc1 3 _ rfl;have c4:=hc1 4 _ rfl;rw [Nat.add_zero] at c0;have d0:=hc2 0 _ rfl;have d1:=hc2 1 _ rfl;have d2:=hc2 2 _ rfl;have d3:=hc2 3 _ rfl;have d4:=hc2 4 _ rfl;rw [Nat.add_zero] at d0;clear hc1 hc2
        rcases adv_ne hxy with hne|hne|hne|hne|hne
        · have hq:(x.tick == y.tick)=false:=by simpa using hne
          clear hne;go_wp2_with fail
          go_quiet (fail)
          go_wp2_with fail
          go_ret
          exact ⟨by rw [HNE.out];rfl,below_drewN HB.out _⟩
        · have hq:(x.load == y.load)=false:=by simpa using hne
          clear hne;go_wp2_with fail
          go_quiet (fail)
          go_wp2_with fail
          go_ret
          exact ⟨by rw [HNE.out];rfl,below_drewN HB.out _⟩
        · have hq:(x.want == y.want)=false:=by simpa using hne
          clear hne;go_wp2_with fail
          go_quiet (fail)
          go_wp2_with fail
          go_ret
          exact ⟨by rw [HNE.out];rfl,below_drewN HB.out _⟩
        · have hq:(x.repl == y.repl)=false:=by simpa using hne
          clear hne;go_wp2_with fail
          go_quiet (fail)
          go_wp2_with fail
          go_ret
          exact ⟨by rw [HNE.out];rfl,below_drewN HB.out _⟩
        · have hq:(x.why == y.why)=false:=by simpa using hne
          clear hne;go_wp2_with fail
          go_quiet (fail)
          go_wp2_with fail
          go_ret
          exact ⟨by rw [HNE.out];rfl,below_drewN HB.out _⟩
    · obtain rfl:k=l.length:=by omega
      have e:l=m:=by have:=HT.out;rw [List.take_length,HLE.out,List.take_length] at this;exact this
      have HE:=jH (show decide (l=m)=true from decide_eq_true e);clear e;go_wp2_with fail
      go_ret
      exact ⟨by rw [HE.out];rfl,HB.out⟩
 · have hne:((l.length:Int) != (m.length:Int))=true:=by simp;omega
   have HNE:=jH (show decide (l=m)=false from decide_eq_false (fun e=>hlen (by rw [e])));clear hlen
   go_enter Tryz.func59,Tryz.ntmps59
   go_wp2_with fail
   go_ret
   exact ⟨by rw [HNE.out];rfl,jR⟩
theorem r8eq_any (v u:Value) (l m:List Smp) (w:World) (hv:RowIn 2 smpC w v l) (hu:RowIn 2 smpC w u m) (hl:l.length≤1000000) (hm:m.length≤1000000) :
 Calls Tryz.prog 21 #[v,u] w (jP w (.bool (decide (l=m)))):=by
 obtain ⟨A,c,rfl⟩:=hv.form;obtain ⟨A',c',rfl⟩:=hu.form;have HV:=jH hv;have HU:=jH hu;have hl9:l.length≤9223372036854775807:=by omega
 have hm9:m.length≤9223372036854775807:=by omega
 clear hv hu
 by_cases hlen:l.length=m.length
 · have HLE:=jH hlen
   have hne:((l.length:Int) != (m.length:Int))=false:=by rw [hlen];simp
   clear hlen
   go_enter Tryz.func21,Tryz.ntmps21
   go_wp2_with fail
   clear hne
   go_loopg [5] l.length (fun g s5 wr=>∃k:Nat,k≤l.length∧l.length - k≤g∧s5=.int .i64 k∧Hid (l.take k=m.take k)∧jB w wr)
   case atStart=>exact ⟨0,Nat.zero_le _,Nat.le_refl _,rfl,jH (by simp),jR⟩
   case round =>
    obtain ⟨k,hk,hg,rfl,HT,hb⟩:=hrel;rename World=>wr
    have HB:=jH hb;clear hb
    by_cases hlt:k<l.length
    · have hlt2:k<m.length:=by have:=HLE.out;omega
      obtain ⟨b1,o1,rfl,hb1,hc1⟩:=(HV.out.below HB.out).at_ hlt;obtain ⟨b2,o2,rfl,hb2,hc2⟩:=(HU.out.below HB.out).at_ hlt2;have z1:(0:Int)≤(k:Int):=by omega
      have z2:(k:Int)<(l.length:Int):=by omega
      have z3:(k:Int)<(m.length:Int):=by omega
      by_cases hxy:l[k]=m[k]
      · have HT2:=jH (show l.take (k+1)=m.take (k+1) by rw [List.take_succ_eq_append_getElem hlt,List.take_succ_eq_append_getElem hlt2,HT.out,hxy])
        rw [←hxy] at hc2;generalize l[k]=x at hc1 hc2;have c0:=hc1 0 _ rfl;have c1:=hc1 1 _ rfl;rw [Nat.add_zero] at c0;have d0:=hc2 0 _ rfl;have d1:=hc2 1 _ rfl;rw [Nat.add_zero] at d0;clear hc1 hc2 hxy;go_wp2_with fail
        go_quiet (fail)
        go_wp2_with fail
        go_roundg (l.length - (k+1))
        case measure=>omega
        case rel=>exact ⟨k+1,hlt,Nat.le_refl _,by go_num,HT2,below_drewN HB.out _⟩
      · have HNE:=jH (show decide (l=m)=false from decide_eq_false (fun e=>hxy (by subst e;rfl)))
        generalize l[k]=x at hc1 hxy;generalize m[k]=y at hc2 hxy;have c0:=hc1 0 _ rfl;have c1:=hc1 1 _ rfl;rw [Nat.add_zero] at c0;have d0:=hc2 0 _ rfl;have d1:=hc2 1 _ rfl;rw [Nat.add_zero] at d0;clear hc1 hc2
        rcases smp_ne hxy with hne|hne
        · have hq:(x.1 == y.1)=false:=by simpa using hne
          clear hne;go_wp2_with fail
          go_quiet (fail)
          go_wp2_with fail
          go_ret
          exact ⟨by rw [HNE.out];rfl,below_drewN HB.out _⟩
        · have hq:(x.2 == y.2)=false:=by simpa using hne
          clear hne;go_wp2_with fail
          go_quiet (fail)
          go_wp2_with fail
          go_ret
          exact ⟨by rw [HNE.out];rfl,below_drewN HB.out _⟩
    · obtain rfl:k=l.length:=by omega
      have e:l=m:=by have:=HT.out;rw [List.take_length,HLE.out,List.take_length] at this;exact this
      have HE:=jH (show decide (l=m)=true from decide_eq_true e);clear e;go_wp2_with fail
      go_ret
      exact ⟨by rw [HE.out];rfl,HB.out⟩
 · have hne:((l.length:Int) != (m.length:Int))=true:=by simp;omega
   have HNE:=jH (show decide (l=m)=false from decide_eq_false (fun e=>hlen (by rw [e])));clear hlen
   go_enter Tryz.func21,Tryz.ntmps21
   go_wp2_with fail
   go_ret
   exact ⟨by rw [HNE.out];rfl,jR⟩
theorem r14eq_any (v u:Value) (l m:List Adv) (w:World) (hv:RowIn 5 advC w v l) (hu:RowIn 5 advC w u m) (hl:l.length≤1000000) (hm:m.length≤1000000) :
 Calls Tryz.prog 60 #[v,u] w (jP w (.bool (decide (l=m)))):=by
 obtain ⟨A,c,rfl⟩:=hv.form;obtain ⟨A',c',rfl⟩:=hu.form;have HV:=jH hv;have HU:=jH hu;have hl9:l.length≤9223372036854775807:=by omega
 have hm9:m.length≤9223372036854775807:=by omega
 clear hv hu
 by_cases hlen:l.length=m.length
 · have HLE:=jH hlen
   have hne:((l.length:Int) != (m.length:Int))=false:=by rw [hlen];simp
   clear hlen
   go_enter Tryz.func60,Tryz.ntmps60
   go_wp2_with fail
   clear hne
   go_loopg [5] l.length (fun g s5 wr=>∃k:Nat,k≤l.length∧l.length - k≤g∧s5=.int .i64 k∧Hid (l.take k=m.take k)∧jB w wr)
   case atStart=>exact ⟨0,Nat.zero_le _,Nat.le_refl _,rfl,jH (by simp),jR⟩
   case round =>
    obtain ⟨k,hk,hg,rfl,HT,hb⟩:=hrel;rename World=>wr
    have HB:=jH hb;clear hb
    by_cases hlt:k<l.length
    · have hlt2:k<m.length:=by have:=HLE.out;omega
      obtain ⟨b1,o1,rfl,hb1,hc1⟩:=(HV.out.below HB.out).at_ hlt;obtain ⟨b2,o2,rfl,hb2,hc2⟩:=(HU.out.below HB.out).at_ hlt2;have z1:(0:Int)≤(k:Int):=by omega
      have z2:(k:Int)<(l.length:Int):=by omega
      have z3:(k:Int)<(m.length:Int):=by omega
      by_cases hxy:l[k]=m[k]
      · have HT2:=jH (show l.take (k+1)=m.take (k+1) by rw [List.take_succ_eq_append_getElem hlt,List.take_succ_eq_append_getElem hlt2,HT.out,hxy])
        rw [←hxy] at hc2;generalize l[k]=x at hc1 hc2;have c0:=hc1 0 _ rfl;have c1:=hc1 1 _ rfl;have c2:=hc1 2 _ rfl;have c3:=hc1 3 _ rfl;have c4:=hc1 4 _ rfl;rw [Nat.add_zero] at c0;have d0:=hc2 0 _ rfl;have d1:=hc2 1 _ rfl;have d2:=hc2 2 _ rfl;have d3:=hc2 3 _ rfl;have d4:=hc2 4 _ rfl;rw [Nat.add_zero] at d0;clear hc1 hc2 hxy;go_wp2_with fail
        go_quiet (fail)
        go_wp2_with fail
        go_roundg (l.length - (k+1))
        case measure=>omega
        case rel=>exact ⟨k+1,hlt,Nat.le_refl _,by go_num,HT2,below_drewN HB.out _⟩
      · have HNE:=jH (show decide (l=m)=false from decide_eq_false (fun e=>hxy (by subst e;rfl)))
        generalize l[k]=x at hc1 hxy;generalize m[k]=y at hc2 hxy;have c0:=hc1 0 _ rfl;have c1:=hc1 1 _ rfl;have c2:=hc1 2 _ rfl;have c3:=hc1 3 _ rfl;have c4:=hc1 4 _ rfl;rw [Nat.add_zero] at c0;have d0:=hc2 0 _ rfl;have d1:=hc2 1 _ rfl;have d2:=hc2 2 _ rfl;have d3:=hc2 3 _ rfl;have d4:=hc2 4 _ rfl;rw [Nat.add_zero] at d0;clear hc1 hc2
        rcases adv_ne hxy with hne|hne|hne|hne|hne
        · have hq:(x.tick == y.tick)=false:=by simpa using hne
          clear hne;go_wp2_with fail
          go_quiet (fail)
          go_wp2_with fail
          go_ret
          exact ⟨by rw [HNE.out];rfl,below_drewN HB.out _⟩
        · have hq:(x.load == y.load)=false:=by simpa using hne
          clear hne;go_wp2_with fail
          go_quiet (fail)
          go_wp2_with fail
          go_ret
          exact ⟨by rw [HNE.out];rfl,below_drewN HB.out _⟩
        · have hq:(x.want == y.want)=false:=by simpa using hne
          clear hne;go_wp2_with fail
          go_quiet (fail)
          go_wp2_with fail
          go_ret
          exact ⟨by rw [HNE.out];rfl,below_drewN HB.out _⟩
        · have hq:(x.repl == y.repl)=false:=by simpa using hne
          clear hne;go_wp2_with fail
          go_quiet (fail)
          go_wp2_with fail
          go_ret
          exact ⟨by rw [HNE.out];rfl,below_drewN HB.out _⟩
        · have hq:(x.why == y.why)=false:=by simpa using hne
          clear hne;go_wp2_with fail
          go_quiet (fail)
          go_wp2_with fail
          go_ret
          exact ⟨by rw [HNE.out];rfl,below_drewN HB.out _⟩
    · obtain rfl:k=l.length:=by omega
      have e:l=m:=by have:=HT.out;rw [List.take_length,HLE.out,List.take_length] at this;exact this
      have HE:=jH (show decide (l=m)=true from decide_eq_true e);clear e;go_wp2_with fail
      go_ret
      exact ⟨by rw [HE.out];rfl,HB.out⟩
 · have hne:((l.length:Int) != (m.length:Int))=true:=by simp;omega
   have HNE:=jH (show decide (l=m)=false from decide_eq_false (fun e=>hlen (by rw [e])));clear hlen
   go_enter Tryz.func60,Tryz.ntmps60
   go_wp2_with fail
   go_ret
   exact ⟨by rw [HNE.out];rfl,jR⟩
end
end Go.Proofs.YtkcdhaallnhhmaaGreat
