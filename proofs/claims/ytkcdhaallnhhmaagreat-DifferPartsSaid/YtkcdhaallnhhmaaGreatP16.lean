/- Part 16 of the proof: Eqs, SerRest, RIt3, RTrim, StripeAt. -/
import Derived.Test.YtkcdhaallnhhmaaGreatP14
namespace Go.Proofs.YtkcdhaallnhhmaaGreat
set_option linter.unusedSimpArgs false
set_option linter.unusedVariables false
set_option linter.unusedSectionVars false
set_option maxRecDepth 100000
set_option maxHeartbeats 16000000
section
open Go.RowKit Go.Lib Go.Sort
deriving instance DecidableEq for Adv
theorem smp_ne {x y:Smp} (h:x≠y):x.1≠y.1∨x.2≠y.2:=by
 by_cases h1:x.1=y.1
 · exact .inr (fun h2=>h (Prod.ext h1 h2))
 · exact .inl h1
theorem adv_ne {x y:Adv} (h:x≠y):x.tick≠y.tick∨x.load≠y.load∨x.want≠y.want∨x.repl≠y.repl∨x.why≠y.why:=by
 obtain ⟨a,b,c,d,e⟩:=x;obtain ⟨a2,b2,c2,d2,e2⟩:=y
 by_cases h1:a=a2 <;> by_cases h2:b=b2 <;> by_cases h3:c=c2 <;> by_cases h4:d=d2 <;> by_cases h5:e=e2 <;> simp_all
theorem sEqual_any (v u:Value) (l m:List Smp) (w:World) (hv:RowIn 2 smpC w v l) (hu:RowIn 2 smpC w u m) (hl:l.length≤1000000) (hm:m.length≤1000000) :
 Calls Tryz.prog 58 #[v,u] w (jP w (.bool (decide (l=m)))):=by
 obtain ⟨A,c,rfl⟩:=hv.form;obtain ⟨A',c',rfl⟩:=hu.form;have HV:=jH hv;have HU:=jH hu;have hl9:l.length≤9223372036854775807:=by omega
 have hm9:m.length≤9223372036854775807:=by omega
 clear hv hu
 by_cases hlen:l.length=m.length
 · have HLE:=jH hlen
   have hne:((l.length:Int) != (m.length:Int))=false:=by rw [hlen];simp
   clear hlen
   go_enter Tryz.func58,Tryz.ntmps58
   go_wp2_with fail
   clear hne
   go_loopg [13] l.length (fun g s13 wr=>∃k:Nat,k≤l.length∧l.length - k≤g∧s13=.int .i64 k∧Hid (l.take k=m.take k)∧jB w wr)
   case atStart=>exact ⟨0,Nat.zero_le _,Nat.le_refl _,rfl,jH (by simp),jR⟩
   case round =>
    obtain ⟨k,hk,hg,rfl,HT,hb⟩:=hrel;rename World=>wr
    have HB:=jH hb;clear hb
    by_cases hlt:k<l.length
    · have hlt2:k<m.length:=by have:=HLE.out;omega
      obtain ⟨b1,o1,rfl,hb1,hc1⟩:=(HV.out.below HB.out).at_ hlt;obtain ⟨b2,o2,rfl,hb2,hc2⟩:=(HU.out.below HB.out).at_ hlt2;have z1:(0:Int)≤(k:Int):=by omega
      have z2:(k:Int)<(l.length:Int):=by omega
      have z3:(k:Int)<(m.length:Int):=by omega
      by_cases hxy:l[k]=m[k]
      · have HT2:=jH (show l.take (k+1)=m.take (k+1) by rw [List.take_succ_eq_append_getElem hlt,List.take_succ_eq_append_getElem hlt2,HT.out,hxy])
        rw [←hxy] at hc2;generalize l[k]=x at hc1 hc2;have c0:=hc1 0 _ rfl;have c1:=hc1 1 _ rfl;rw [Nat.add_zero] at c0;have d0:=hc2 0 _ rfl;have d1:=hc2 1 _ rfl;rw [Nat.add_zero] at d0;clear hc1 hc2 hxy;go_wp2_with fail
        go_quiet (fail)
        go_wp2_with fail
        go_roundg (l.length - (k+1))
        case measure=>omega
        case rel=>exact ⟨k+1,hlt,Nat.le_refl _,by go_num,HT2,below_drewN HB.out _⟩
      · have HNE:=jH (show decide (l=m)=false from decide_eq_false (fun e=>hxy (by subst e;rfl)))
        generalize l[k]=x at hc1 hxy;generalize m[k]=y at hc2 hxy;have c0:=hc1 0 _ rfl;have c1:=hc1 1 _ rfl;rw [Nat.add_zero] at c0;have d0:=hc2 0 _ rfl;have d1:=hc2 1 _ rfl;rw [Nat.add_zero] at d0;clear hc1 hc2
        rcases smp_ne hxy with hne|hne
        · have hq:(x.1 == y.1)=false:=by simpa using hne
          clear hne;go_wp2_with fail
          go_quiet (fail)
          go_wp2_with fail
          go_ret
          exact ⟨by rw [HNE.out];rfl,below_drewN HB.out _⟩
        · have hq:(x.2 == y.2)=false:=by simpa using hne
          clear hne;go_wp2_with fail
          go_quiet (fail)
          go_wp2_with fail
          go_ret
          exact ⟨by rw [HNE.out];rfl,below_drewN HB.out _⟩
    · obtain rfl:k=l.length:=by omega
      have e:l=m:=by have:=HT.out;rw [List.take_length,HLE.out,List.take_length] at this;exact this
      have HE:=jH (show decide (l=m)=true from decide_eq_true e);clear e;go_wp2_with fail
      go_ret
      exact ⟨by rw [HE.out];rfl,HB.out⟩
 · have hne:((l.length:Int) != (m.length:Int))=true:=by simp;omega
   have HNE:=jH (show decide (l=m)=false from decide_eq_false (fun e=>hlen (by rw [e])));clear hlen
   go_enter Tryz.func58,Tryz.ntmps58
   go_wp2_with fail
   go_ret
   exact ⟨by rw [HNE.out];rfl,jR⟩
theorem aEqual_any (v u:Value) (l m:List Adv) (w:World) (hv:RowIn 5 advC w v l) (hu:RowIn 5 advC w u m) (hl:l.length≤1000000) (hm:m.length≤1000000) :
 Calls Tryz.prog 59 #[v,u] w (jP w (.bool (decide (l=m)))):=by
 obtain ⟨A,c,rfl⟩:=hv.form;obtain ⟨A',c',rfl⟩:=hu.form;have HV:=jH hv;have HU:=jH hu;have hl9:l.length≤9223372036854775807:=by omega
 have hm9:m.length≤9223372036854775807:=by omega
 clear hv hu
 by_cases hlen:l.length=m.length
 · have HLE:=jH hlen
   have hne:((l.length:Int) != (m.length:Int))=false:=by rw [hlen];simp
   clear hlen
   go_enter Tryz.func59,Tryz.ntmps59
   go_wp2_with fail
   clear hne
   go_loopg [13] l.length (fun g s13 wr=>∃k:Nat,k≤l.length∧l.length - k≤g∧s13=.int .i64 k∧Hid (l.take k=m.take k)∧jB w wr)
   case atStart=>exact ⟨0,Nat.zero_le _,Nat.le_refl _,rfl,jH (by simp),jR⟩
   case round =>
    obtain ⟨k,hk,hg,rfl,HT,hb⟩:=hrel;rename World=>wr
    have HB:=jH hb;clear hb
    by_cases hlt:k<l.length
    · have hlt2:k<m.length:=by have:=HLE.out;omega
      obtain ⟨b1,o1,rfl,hb1,hc1⟩:=(HV.out.below HB.out).at_ hlt;obtain ⟨b2,o2,rfl,hb2,hc2⟩:=(HU.out.below HB.out).at_ hlt2;have z1:(0:Int)≤(k:Int):=by omega
      have z2:(k:Int)<(l.length:Int):=by omega
      have z3:(k:Int)<(m.length:Int):=by omega
      by_cases hxy:l[k]=m[k]
      · have HT2:=jH (show l.take (k+1)=m.take (k+1) by rw [List.take_succ_eq_append_getElem hlt,List.take_succ_eq_append_getElem hlt2,HT.out,hxy])
        rw [←hxy] at hc2;generalize l[k]=x at hc1 hc2;have c0:=hc1 0 _ rfl;have c1:=hc1 1 _ rfl;have c2:=hc1 2 _ rfl;have c3:=hc1 3 _ rfl;have c4:=hc1 4 _ rfl;rw [Nat.add_zero] at c0;have d0:=hc2 0 _ rfl;have d1:=hc2 1 _ rfl;have d2:=hc2 2 _ rfl;have d3:=hc2 3 _ rfl;have d4:=hc2 4 _ rfl;rw [Nat.add_zero] at d0;clear hc1 hc2 hxy;go_wp2_with fail
        go_quiet (fail)
        go_wp2_with fail
        go_roundg (l.length - (k+1))
        case measure=>omega
        case rel=>exact ⟨k+1,hlt,Nat.le_refl _,by go_num,HT2,below_drewN HB.out _⟩
      · have HNE:=jH (show decide (l=m)=false from decide_eq_false (fun e=>hxy (by subst e;rfl)))
        generalize l[k]=x at hc1 hxy;generalize m[k]=y at hc2 hxy;have c0:=hc1 0 _ rfl;have c1:=hc1 1 _ rfl;have c2:=hc1 2 _ rfl;have c3:=hc1 3 _ rfl;have c4:=hc1 4 _ rfl;rw [Nat.add_zero] at c0;have d0:=hc2 0 _ rfl;have d1:=hc2 1 _ rfl;have d2:=hc2 2 _ rfl;have d3:=hc2 3 _ rfl;have d4:=hc2 4 _ rfl;rw [Nat.add_zero] at d0;clear hc1 hc2
        rcases adv_ne hxy with hne|hne|hne|hne|hne
        · have hq:(x.tick == y.tick)=false:=by simpa using hne
          clear hne;go_wp2_with fail
          go_quiet (fail)
          go_wp2_with fail
          go_ret
          exact ⟨by rw [HNE.out];rfl,below_drewN HB.out _⟩
        · have hq:(x.load == y.load)=false:=by simpa using hne
          clear hne;go_wp2_with fail
          go_quiet (fail)
          go_wp2_with fail
          go_ret
          exact ⟨by rw [HNE.out];rfl,below_drewN HB.out _⟩
        · have hq:(x.want == y.want)=false:=by simpa using hne
          clear hne;go_wp2_with fail
          go_quiet (fail)
          go_wp2_with fail
          go_ret
          exact ⟨by rw [HNE.out];rfl,below_drewN HB.out _⟩
        · have hq:(x.repl == y.repl)=false:=by simpa using hne
          clear hne;go_wp2_with fail
          go_quiet (fail)
          go_wp2_with fail
          go_ret
          exact ⟨by rw [HNE.out];rfl,below_drewN HB.out _⟩
        · have hq:(x.why == y.why)=false:=by simpa using hne
          clear hne;go_wp2_with fail
          go_quiet (fail)
          go_wp2_with fail
          go_ret
          exact ⟨by rw [HNE.out];rfl,below_drewN HB.out _⟩
    · obtain rfl:k=l.length:=by omega
      have e:l=m:=by have:=HT.out;rw [List.take_length,HLE.out,List.take_length] at this;exact this
      have HE:=jH (show decide (l=m)=true from decide_eq_true e);clear e;go_wp2_with fail
      go_ret
      exact ⟨by rw [HE.out];rfl,HB.out⟩
 · have hne:((l.length:Int) != (m.length:Int))=true:=by simp;omega
   have HNE:=jH (show decide (l=m)=false from decide_eq_false (fun e=>hlen (by rw [e])));clear hlen
   go_enter Tryz.func59,Tryz.ntmps59
   go_wp2_with fail
   go_ret
   exact ⟨by rw [HNE.out];rfl,jR⟩
theorem r8eq_any (v u:Value) (l m:List Smp) (w:World) (hv:RowIn 2 smpC w v l) (hu:RowIn 2 smpC w u m) (hl:l.length≤1000000) (hm:m.length≤1000000) :
 Calls Tryz.prog 21 #[v,u] w (jP w (.bool (decide (l=m)))):=by
 obtain ⟨A,c,rfl⟩:=hv.form;obtain ⟨A',c',rfl⟩:=hu.form;have HV:=jH hv;have HU:=jH hu;have hl9:l.length≤9223372036854775807:=by omega
 have hm9:m.length≤9223372036854775807:=by omega
 clear hv hu
 by_cases hlen:l.length=m.length
 · have HLE:=jH hlen
   have hne:((l.length:Int) != (m.length:Int))=false:=by rw [hlen];simp
   clear hlen
   go_enter Tryz.func21,Tryz.ntmps21
   go_wp2_with fail
   clear hne
   go_loopg [5] l.length (fun g s5 wr=>∃k:Nat,k≤l.length∧l.length - k≤g∧s5=.int .i64 k∧Hid (l.take k=m.take k)∧jB w wr)
   case atStart=>exact ⟨0,Nat.zero_le _,Nat.le_refl _,rfl,jH (by simp),jR⟩
   case round =>
    obtain ⟨k,hk,hg,rfl,HT,hb⟩:=hrel;rename World=>wr
    have HB:=jH hb;clear hb
    by_cases hlt:k<l.length
    · have hlt2:k<m.length:=by have:=HLE.out;omega
      obtain ⟨b1,o1,rfl,hb1,hc1⟩:=(HV.out.below HB.out).at_ hlt;obtain ⟨b2,o2,rfl,hb2,hc2⟩:=(HU.out.below HB.out).at_ hlt2;have z1:(0:Int)≤(k:Int):=by omega
      have z2:(k:Int)<(l.length:Int):=by omega
      have z3:(k:Int)<(m.length:Int):=by omega
      by_cases hxy:l[k]=m[k]
      · have HT2:=jH (show l.take (k+1)=m.take (k+1) by rw [List.take_succ_eq_append_getElem hlt,List.take_succ_eq_append_getElem hlt2,HT.out,hxy])
        rw [←hxy] at hc2;generalize l[k]=x at hc1 hc2;have c0:=hc1 0 _ rfl;have c1:=hc1 1 _ rfl;rw [Nat.add_zero] at c0;have d0:=hc2 0 _ rfl;have d1:=hc2 1 _ rfl;rw [Nat.add_zero] at d0;clear hc1 hc2 hxy;go_wp2_with fail
        go_quiet (fail)
        go_wp2_with fail
        go_roundg (l.length - (k+1))
        case measure=>omega
        case rel=>exact ⟨k+1,hlt,Nat.le_refl _,by go_num,HT2,below_drewN HB.out _⟩
      · have HNE:=jH (show decide (l=m)=false from decide_eq_false (fun e=>hxy (by subst e;rfl)))
        generalize l[k]=x at hc1 hxy;generalize m[k]=y at hc2 hxy;have c0:=hc1 0 _ rfl;have c1:=hc1 1 _ rfl;rw [Nat.add_zero] at c0;have d0:=hc2 0 _ rfl;have d1:=hc2 1 _ rfl;rw [Nat.add_zero] at d0;clear hc1 hc2
        rcases smp_ne hxy with hne|hne
        · have hq:(x.1 == y.1)=false:=by simpa using hne
          clear hne;go_wp2_with fail
          go_quiet (fail)
          go_wp2_with fail
          go_ret
          exact ⟨by rw [HNE.out];rfl,below_drewN HB.out _⟩
        · have hq:(x.2 == y.2)=false:=by simpa using hne
          clear hne;go_wp2_with fail
          go_quiet (fail)
          go_wp2_with fail
          go_ret
          exact ⟨by rw [HNE.out];rfl,below_drewN HB.out _⟩
    · obtain rfl:k=l.length:=by omega
      have e:l=m:=by have:=HT.out;rw [List.take_length,HLE.out,List.take_length] at this;exact this
      have HE:=jH (show decide (l=m)=true from decide_eq_true e);clear e;go_wp2_with fail
      go_ret
      exact ⟨by rw [HE.out];rfl,HB.out⟩
 · have hne:((l.length:Int) != (m.length:Int))=true:=by simp;omega
   have HNE:=jH (show decide (l=m)=false from decide_eq_false (fun e=>hlen (by rw [e])));clear hlen
   go_enter Tryz.func21,Tryz.ntmps21
   go_wp2_with fail
   go_ret
   exact ⟨by rw [HNE.out];rfl,jR⟩
theorem r14eq_any (v u:Value) (l m:List Adv) (w:World) (hv:RowIn 5 advC w v l) (hu:RowIn 5 advC w u m) (hl:l.length≤1000000) (hm:m.length≤1000000) :
 Calls Tryz.prog 60 #[v,u] w (jP w (.bool (decide (l=m)))):=by
 obtain ⟨A,c,rfl⟩:=hv.form;obtain ⟨A',c',rfl⟩:=hu.form;have HV:=jH hv;have HU:=jH hu;have hl9:l.length≤9223372036854775807:=by omega
 have hm9:m.length≤9223372036854775807:=by omega
 clear hv hu
 by_cases hlen:l.length=m.length
 · have HLE:=jH hlen
   have hne:((l.length:Int) != (m.length:Int))=false:=by rw [hlen];simp
   clear hlen
   go_enter Tryz.func60,Tryz.ntmps60
   go_wp2_with fail
   clear hne
   go_loopg [5] l.length (fun g s5 wr=>∃k:Nat,k≤l.length∧l.length - k≤g∧s5=.int .i64 k∧Hid (l.take k=m.take k)∧jB w wr)
   case atStart=>exact ⟨0,Nat.zero_le _,Nat.le_refl _,rfl,jH (by simp),jR⟩
   case round =>
    obtain ⟨k,hk,hg,rfl,HT,hb⟩:=hrel;rename World=>wr
    have HB:=jH hb;clear hb
    by_cases hlt:k<l.length
    · have hlt2:k<m.length:=by have:=HLE.out;omega
      obtain ⟨b1,o1,rfl,hb1,hc1⟩:=(HV.out.below HB.out).at_ hlt;obtain ⟨b2,o2,rfl,hb2,hc2⟩:=(HU.out.below HB.out).at_ hlt2;have z1:(0:Int)≤(k:Int):=by omega
      have z2:(k:Int)<(l.length:Int):=by omega
      have z3:(k:Int)<(m.length:Int):=by omega
      by_cases hxy:l[k]=m[k]
      · have HT2:=jH (show l.take (k+1)=m.take (k+1) by rw [List.take_succ_eq_append_getElem hlt,List.take_succ_eq_append_getElem hlt2,HT.out,hxy])
        rw [←hxy] at hc2;generalize l[k]=x at hc1 hc2;have c0:=hc1 0 _ rfl;have c1:=hc1 1 _ rfl;have c2:=hc1 2 _ rfl;have c3:=hc1 3 _ rfl;have c4:=hc1 4 _ rfl;rw [Nat.add_zero] at c0;have d0:=hc2 0 _ rfl;have d1:=hc2 1 _ rfl;have d2:=hc2 2 _ rfl;have d3:=hc2 3 _ rfl;have d4:=hc2 4 _ rfl;rw [Nat.add_zero] at d0;clear hc1 hc2 hxy;go_wp2_with fail
        go_quiet (fail)
        go_wp2_with fail
        go_roundg (l.length - (k+1))
        case measure=>omega
        case rel=>exact ⟨k+1,hlt,Nat.le_refl _,by go_num,HT2,below_drewN HB.out _⟩
      · have HNE:=jH (show decide (l=m)=false from decide_eq_false (fun e=>hxy (by subst e;rfl)))
        generalize l[k]=x at hc1 hxy;generalize m[k]=y at hc2 hxy;have c0:=hc1 0 _ rfl;have c1:=hc1 1 _ rfl;have c2:=hc1 2 _ rfl;have c3:=hc1 3 _ rfl;have c4:=hc1 4 _ rfl;rw [Nat.add_zero] at c0;have d0:=hc2 0 _ rfl;have d1:=hc2 1 _ rfl;have d2:=hc2 2 _ rfl;have d3:=hc2 3 _ rfl;have d4:=hc2 4 _ rfl;rw [Nat.add_zero] at d0;clear hc1 hc2
        rcases adv_ne hxy with hne|hne|hne|hne|hne
        · have hq:(x.tick == y.tick)=false:=by simpa using hne
          clear hne;go_wp2_with fail
          go_quiet (fail)
          go_wp2_with fail
          go_ret
          exact ⟨by rw [HNE.out];rfl,below_drewN HB.out _⟩
        · have hq:(x.load == y.load)=false:=by simpa using hne
          clear hne;go_wp2_with fail
          go_quiet (fail)
          go_wp2_with fail
          go_ret
          exact ⟨by rw [HNE.out];rfl,below_drewN HB.out _⟩
        · have hq:(x.want == y.want)=false:=by simpa using hne
          clear hne;go_wp2_with fail
          go_quiet (fail)
          go_wp2_with fail
          go_ret
          exact ⟨by rw [HNE.out];rfl,below_drewN HB.out _⟩
        · have hq:(x.repl == y.repl)=false:=by simpa using hne
          clear hne;go_wp2_with fail
          go_quiet (fail)
          go_wp2_with fail
          go_ret
          exact ⟨by rw [HNE.out];rfl,below_drewN HB.out _⟩
        · have hq:(x.why == y.why)=false:=by simpa using hne
          clear hne;go_wp2_with fail
          go_quiet (fail)
          go_wp2_with fail
          go_ret
          exact ⟨by rw [HNE.out];rfl,below_drewN HB.out _⟩
    · obtain rfl:k=l.length:=by omega
      have e:l=m:=by have:=HT.out;rw [List.take_length,HLE.out,List.take_length] at this;exact this
      have HE:=jH (show decide (l=m)=true from decide_eq_true e);clear e;go_wp2_with fail
      go_ret
      exact ⟨by rw [HE.out];rfl,HB.out⟩
 · have hne:((l.length:Int) != (m.length:Int))=true:=by simp;omega
   have HNE:=jH (show decide (l=m)=false from decide_eq_false (fun e=>hlen (by rw [e])));clear hlen
   go_enter Tryz.func60,Tryz.ntmps60
   go_wp2_with fail
   go_ret
   exact ⟨by rw [HNE.out];rfl,jR⟩
end
section
open Go.RowKit Go.Lib Go.Sort
def NewSer (w:World) (l:List Smp) (room:Int) (e:Ending) (w':World):Prop :=
 ∃S fp,e=.returned (.pointer (some ⟨S,0,none⟩))∧SerIn w' S l room fp∧(∀k∈fp,w.heap.size≤k)∧jB w w'
theorem serNew_any (room:Int) (w:World) (h1:1≤room) (h2:room≤256) :
 Calls Tryz.prog 164 #[.int .i64 room] w (NewSer w [] room):=by
 have q1:¬room<1:=by omega
 have q2:¬256<room:=by omega
 go_enter Tryz.func164,Tryz.ntmps164
 go_wp2
 go_ret
 refine ⟨w.heap.size,[w.heap.size],rfl,⟨.slice none 0 0,[],heap_alloc_new _ _,SRow.nil _,by simp,rfl⟩,fun k hk=>by simp at hk;omega,balloc jR _⟩
theorem serList_any (S:Nat) (l:List Smp) (room:Int) (fp:List Nat) (w:World) (h:SerIn w S l room fp) (hl:l.length≤1000000) :
 Calls Tryz.prog 117 #[.pointer (some ⟨S,0,none⟩)] w (CloneS smpC 118 2 w l):=by
 obtain ⟨v,fr,hS,hrow,_,_⟩:=h;have C:=jH (cloneS_any v l w (hrow.row eSmp) hl);have z0:w.cell? ⟨S,0,none⟩=some v:=by simp only [World.cell?,hS];rfl
 clear hS hrow
 go_enter Tryz.func117,Tryz.ntmps117
 go_wp2_with (go_at_call 116;refine C.out.mono ?_;rintro e w2 ⟨A,c,fp,rfl,h1,h2,h3⟩;have H1:=jH h1;have H2:=jH h2;have H3:=jH h3;clear h1 h2 h3)
 go_ret
 exact ⟨A,c,fp,rfl,H1.out,H2.out,H3.out⟩
end
section
open Go.RowKit Go.Lib Go.Sort
def it0:It:=⟨(0,0),none,0,none,0,nd0⟩
def getL (l:List It) (k:Ky):It:=if h:atI l k<l.length then (if l[atI l k].key=k then l[atI l k] else it0) else it0
theorem getL_has {l:List It} {k:Ky} (h:hasI l k=true):∃hl:atI l k<l.length,getL l k=l[atI l k]:=by
 unfold hasI at h
 split at h
 · rename_i hl
   refine ⟨hl,?_⟩;unfold getL;rw [dif_pos hl,if_pos (by simpa using h)]
 · cases h
end
section
open Go.RowKit Go.Lib Go.Sort
def trimR (cut:Int) (x:Nd):Nd:=if placeS x.smp cut=0 then x else { x with smp:=x.smp.drop (placeS x.smp cut),ver:=x.ver+1 }
end
section
open Go.RowKit Go.Lib Go.Sort
open Go.ChangeMaps (setBlock)
section
variable {α β:Type} [DecidableEq α]
theorem mem_putM {es:List (α × β)} {x:α} {v:β} {p:α × β} (h:p∈putM es x v):p=(x,v)∨(p∈es∧p.1≠x):=by
 unfold putM at h
 split at h
 · obtain ⟨q,hq,e⟩:=List.mem_map.1 h
   split at e
   · exact .inl e.symm
   · rename_i hn
     subst e;exact .inr ⟨hq,hn⟩
 · rename_i hn
   rcases List.mem_append.1 h with h|h
   · refine .inr ⟨h,fun e=>hn ?_⟩
     rw [hasM_iff];exact List.mem_map.2 ⟨p,h,e⟩
   · exact .inl (List.mem_singleton.1 h)
theorem find_mem {es:List (α × β)} {x:α} {v:β} (h:findM es x=some v):(x,v)∈es:=by
 unfold findM at h;obtain ⟨q,hq,rfl⟩:=Option.map_eq_some_iff.1 h;have h1:=List.find?_some hq;simp at h1
 rw [←h1];exact List.mem_of_find?_eq_some hq
theorem find_putM (es:List (α × β)) (x y:α) (v:β):findM (putM es x v) y=if y=x then some v else findM es y:=by
 unfold putM
 split
 · rename_i hh
   induction es with
   | nil=>simp [hasM] at hh
   | cons p es ih =>
     unfold findM;simp only [List.map_cons,List.find?_cons]
     by_cases hp:p.1=x
     · rw [if_pos hp]
       by_cases hy:y=x
       · subst hy
         simp
       · rw [if_neg hy]
         have e1:decide (x=y)=false:=by simpa using fun e=>hy e.symm
         have e2:decide (p.1=y)=false:=by rw [hp];exact e1
         simp only [e1,e2]
         by_cases hq:hasM es x=true
         · have:=ih hq
           unfold findM at this;rw [if_neg hy] at this;exact this
         · have:es.map (fun p=>if p.1=x then (x,v) else p)=es:=by
            conv=>rhs;rw [←List.map_id es]
            refine List.map_congr_left fun q hq'=>?_
            rw [if_neg]
            · rfl
            · intro e
              exact hq ((hasM_iff es x).2 (List.mem_map.2 ⟨q,hq',e⟩))
           rw [this]
     · rw [if_neg hp]
       have hq:hasM es x=true:=by simpa [hasM,hp] using hh
       have:=ih hq;unfold findM at this
       by_cases hpy:p.1=y
       · have hy:¬y=x:=fun e=>hp (hpy.trans e)
         rw [if_neg hy];simp [hpy]
       · have e2:decide (p.1=y)=false:=by simpa using hpy
         simp only [e2]
         exact this
 · rename_i hh
   unfold findM;rw [List.find?_append]
   by_cases hy:y=x
   · subst hy
     rw [if_pos rfl];have:List.find? (fun p=>decide (p.1=y)) es=none:=by
      rw [List.find?_eq_none];intro p hp hpy;exact hh ((hasM_iff es y).2 (List.mem_map.2 ⟨p,hp,by simpa using hpy⟩))
     rw [this];simp
   · rw [if_neg hy]
     have e1:decide (x=y)=false:=by simpa using fun e=>hy e.symm
     simp [e1]
end
def ab (es:List (KO × NE)):List (KO × Nd):=es.map fun p=>(p.1,p.2.2.1)
end
end Go.Proofs.YtkcdhaallnhhmaaGreat
