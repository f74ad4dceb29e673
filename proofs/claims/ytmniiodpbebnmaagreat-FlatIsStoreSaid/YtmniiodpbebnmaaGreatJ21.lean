/- Part 21 of the proof. -/
import Derived.Test.YtmniiodpbebnmaaGreatJ20
namespace Go.Proofs.YtmniiodpbebnmaaGreat
set_option linter.unusedSimpArgs false
set_option linter.unusedVariables false
set_option linter.unusedSectionVars false
set_option maxRecDepth 100000
set_option maxHeartbeats 16000000
section
open Go.RowKit Go.Lib Go.Sort
def ltE (x y:En):Bool:=ltK x.1 y.1
def cfP (x y:Pl):Int:=h0B x.1.1.1 x.1.1.2 y.1.1.1 y.1.1.2
theorem h1B:ltOf cfP=ltP ltE:=by
 funext x y
 exact congrFun (congrFun h0Z x.1.1) y.1.1
theorem m1X (x y:Pl):(cfP x y<0) ↔ ltP ltE x y=true:=by
 rw [←h1B];exact (decide_eq_true_iff ..).symm
theorem j1B:SWO ltE:=by
 have h:=swoK;rw [h0Z] at h;exact ⟨fun x=>h.irrefl _,fun x y z=>h.trans _ _ _,fun x y z=>h.ntrans _ _ _⟩
theorem swoP:SWO (ltOf cfP):=by
 rw [h1B];have h:=j1B;exact ⟨fun x=>h.irrefl _,fun x y z=>h.trans _ _ _,fun x y z=>h.ntrans _ _ _⟩
theorem j0S (x y:En) (W:World):Calls Tryz.prog 217 #[.agg #[.int .u64 x.1.1,.int .u64 x.1.2,.pointer (some ⟨x.2,0,none⟩)],.agg #[.int .u64 y.1.1,.int .u64 y.1.2,.pointer (some ⟨y.2,0,none⟩)]] W fun e w'=>e=.returned (.int .i64 (h0B x.1.1 x.1.2 y.1.1 y.1.2))∧∃q os',w'=grow (W.drewN q) os':=by
 have HC:=jH (fun W=>q0O x.1 y.1 W)
 go_enter Tryz.func217,Tryz.ntmps217
 go_wp2_with (go_at_call 168
              refine (HC.out _).mono ?_;rintro e w1 ⟨rfl,q,os,rfl⟩)
 go_ret
 exact ⟨rfl,q,#[_]++(#[_]++os),by rw [←grow_grow,←grow_grow,←alloc_eq_grow,←alloc_eq_grow];rfl⟩
theorem w0R (w0:World) (g cap a m b:Nat) (d0 d:Array Pl) (w:World) (hS:a0O w0 g d0 d w) (hb:b≤d.size) (hm:m=a+1) (hab:m<b) (hsz:d.size≤1000000) (hu:Up (RZ ltE) m b d) (hc:Crs (ltP ltE) (RZ ltE) a m b d) :
 Calls Tryz.prog 297 #[.slice (some ⟨g,0,none⟩) d.size cap,.int .i64 a,.int .i64 m,.int .i64 b,.func (.func 217) #[] #[]] w fun e w' =>
  e=.returned (.tuple #[])∧∃d',d'.size=d.size∧PermIn a b d d'∧Up (RZ ltE) a b d'∧a0O w0 g d0 d' w':=by
 have HST:=jH hS;have HU:=jH hu;have HC:=jH hc;have q1:((m:Int) - (a:Int) == 1)=true:=by simp;omega
 have HM:=jH hm;have hm1:a<m:=by omega
 have hm2:m≤a+1:=by omega
 have mixed:Tryz.prog.follows .mixedOrders=true:=by kernel_rfl
 clear hS hu hc hm
 go_enter Tryz.func297,Tryz.ntmps297
 go_wp2
 go_loopg [10,11] (b - a) (fun gg s10 s11 wr=>∃i j:Nat,m≤i∧i≤j∧j≤b∧j - i≤gg∧s10=.int .i64 i∧s11=.int .i64 j∧Hid (m<i→ltP ltE d[i - 1]! d[a]! = true)∧Hid (j<b→ltP ltE d[j]! d[a]! = false)∧a0O w0 g d0 d wr)
 case atStart=>exact ⟨m,b,Nat.le_refl _,by omega,Nat.le_refl _,by omega,rfl,rfl,jH (fun h=>absurd h (by omega)),jH (fun h=>absurd h (by omega)),HST.out⟩
 case round =>
  obtain ⟨i,j,hi,hij,hj,hgg,rfl,rfl,H1,H2,hin⟩:=hrel;rename World=>wr
  have HIN:=jH hin;clear hin
  by_cases hlt:i<j
  · obtain ⟨h,hh⟩:∃h,h=(i+j) / 2:=⟨_,rfl⟩
    have um:((i:Int)+(j:Int)) / 2=(h:Int):=by omega
    have b1:i≤h:=by omega
    have b2:h<j:=by omega
    have z1:(0:Int)≤(h:Int):=by omega
    have z2:(h:Int)<(d.size:Int):=by omega
    have z3:(a:Int)<(d.size:Int):=by omega
    clear hh;obtain ⟨x,hx⟩:∃x,d[h]! = x:=⟨_,rfl⟩;obtain ⟨y,hy⟩:∃y,d[a]! = y:=⟨_,rfl⟩;have cx:=fun n os=>c0Y (HIN.out.grown n os).holds (i:=h) (by omega) hx
    have cy:=fun n os=>c0Y (HIN.out.grown n os).holds (i:=a) (by omega) hy
    have c1:=fun n os=>(cx n os).1
    have c2:=fun n os=>(cx n os).2.1
    have c3:=fun n os=>(cx n os).2.2
    have c4:=fun n os=>(cy n os).1
    have c5:=fun n os=>(cy n os).2.1
    have c6:=fun n os=>(cy n os).2.2
    obtain ⟨cv,hcv⟩:∃cv,h0B x.1.1.1 x.1.1.2 y.1.1.1 y.1.1.2=cv:=⟨_,rfl⟩;have hcg:∀n' os',Calls Tryz.prog 217 #[.agg #[.int .u64 x.1.1.1,.int .u64 x.1.1.2,.pointer (some ⟨x.1.2,0,none⟩)],.agg #[.int .u64 y.1.1.1,.int .u64 y.1.1.2,.pointer (some ⟨y.1.2,0,none⟩)]] (grow (wr.drewN n') os') fun e w'=>e=.returned (.int .i64 cv)∧∃q os'',w'=grow ((grow (wr.drewN n') os').drewN q) os'':=fun n' os'=>by rw [←hcv];exact j0S x.1 y.1 _
    have HLT:=jH (show cv<0 ↔ ltP ltE d[h]! d[a]! = true by rw [←hcv,hx,hy];exact m1X x y);have HG:=jH hcg;clear cx cy hcv hx hy hcg
    by_cases hlv:cv<0
    · have hld:decide (cv<0)=true:=decide_eq_true hlv
      go_wp2_with fail
      go_quiet_grown (first|(go_at_call 217;refine Calls.grown_of (HG.out _ _)))
      go_wp2_with fail
      go_roundg (j - (h+1))
      case measure=>omega
      case rel=>exact ⟨h+1,j,by omega,by omega,hj,Nat.le_refl _,by go_num,rfl,jH (fun _=>by rw [Nat.add_sub_cancel];exact HLT.out.1 hlv),H2,HIN.out.grown _ _⟩
    · have hld:decide (cv<0)=false:=decide_eq_false hlv
      go_wp2_with fail
      go_quiet_grown (first|(go_at_call 217;refine Calls.grown_of (HG.out _ _)))
      go_wp2_with fail
      go_roundg (h - i)
      case measure=>omega
      case rel=>exact ⟨i,h,hi,by omega,by omega,Nat.le_refl _,rfl,rfl,H1,jH (fun _=>Bool.eq_false_iff.2 (fun k=>absurd (HLT.out.2 k) (by omega))),HIN.out.grown _ _⟩
  · obtain rfl:i=j:=by omega
    have u1:(i:Int) - 1=((i - 1:Nat):Int):=by omega
    go_wp2_with fail
    go_loopg [13] (b - a) (fun gg s13 wr=>∃(k:Nat) (dk:Array Pl),a≤k∧k≤i - 1∧i - 1 - k≤gg∧s13=.int .i64 k∧Hid (dk.size=d.size)∧Hid (Rot d dk a m (k+1))∧Hid (PermIn a b d dk)∧a0O w0 g d0 dk wr)
    case atStart=>exact ⟨a,d,Nat.le_refl _,by omega,by omega,rfl,jH rfl,jH (Rot.none (Or.inr (by omega)) ⟨by omega,by omega⟩),jH (permIn_refl d _ _),HIN.out⟩
    case round =>
     obtain ⟨k,dk,hak,hki,hgk,rfl,HSK,HR,HP,hin⟩:=hrel;rename World=>wr
     have hsk:=HSK.out
     by_cases hlk:k<i - 1
     · have l1:k<dk.size:=by omega
       have l2:k+1<dk.size:=by omega
       obtain ⟨x,hx⟩:∃x,dk[k]! = x:=⟨_,rfl⟩;obtain ⟨y,hy⟩:∃y,dk[k+1]! = y:=⟨_,rfl⟩;obtain ⟨c1,c2,c3⟩:=c0Y hin.holds l1 hx;obtain ⟨c4,c5,c6⟩:=c0Y hin.holds l2 hy;obtain ⟨f1,f2,f3⟩:=f0F hin.holds l1;obtain ⟨f4,f5,f6⟩:=f0F hin.holds l2;have HW:=jH (hin.swap l1 l2 hx hy);have HR2:=jH (show Rot d (swp dk k (k+1)) a m (k+2) by have e:=HM.out;subst e;exact HR.out.up hak l2);have HP2:=jH (permIn_trans _ _ _ _ _ HP.out (swp_permIn dk a b k (k+1) (by omega) (by omega) (by omega) (by omega) (by omega)))
       have e1:((k:Int)+1).toNat=k+1:=by omega
       have p1:(0:Int)≤(k:Int)+1:=by omega
       have r1:(k:Int)+1<(d.size:Int):=by omega
       have r2:(k:Int)<(d.size:Int):=by omega
       have hne:k * 3≠(k+1) * 3:=by omega
       clear hin hx hy hsk;go_wp2_with fail
       go_region
       all_goals go_wp2
       go_roundg (i - 1 - (k+1))
       case measure=>omega
       case rel=>exact ⟨k+1,swp dk k (k+1),by omega,by omega,Nat.le_refl _,by go_num,jH (by rw [size_swp];exact HSK.out),HR2,HP2,HW.out.drewN 1⟩
     · obtain rfl:k=i - 1:=by omega
       have HIN2:=jH hin;clear hin hsk;go_wp2_with fail
       refine bodyPost_ret (results_none rfl _ _ _) rfl ?_;refine ⟨rfl,dk,HSK.out,HP.out,?_,HIN2.out⟩;have hr:=HR.out;rw [show i - 1+1=i by omega] at hr;have e:=HM.out;subst e;exact l1D (ordZ j1B) hi hj HU.out HC.out H1.out H2.out hr
theorem a1E (w0:World) (g cap a m b:Nat) (d0 d:Array Pl) (w:World) (hS:a0O w0 g d0 d w) (hb:b≤d.size) (hm:b=m+1) (ham:a+1<m) (hsz:d.size≤1000000) (hu:Up (RZ ltE) a m d) (hc:Crs (ltP ltE) (RZ ltE) a m b d) :
 Calls Tryz.prog 297 #[.slice (some ⟨g,0,none⟩) d.size cap,.int .i64 a,.int .i64 m,.int .i64 b,.func (.func 217) #[] #[]] w fun e w' =>
  e=.returned (.tuple #[])∧∃d',d'.size=d.size∧PermIn a b d d'∧Up (RZ ltE) a b d'∧a0O w0 g d0 d' w':=by
 have HST:=jH hS;have HU:=jH hu;have HC:=jH hc;have q1:((m:Int) - (a:Int) == 1)=false:=by simp;omega
 have q2:((b:Int) - (m:Int) == 1)=true:=by simp;omega
 have HM:=jH hm;have hm1:m<b:=by omega
 have hm2:b≤m+1:=by omega
 have mixed:Tryz.prog.follows .mixedOrders=true:=by kernel_rfl
 clear hS hu hc hm
 go_enter Tryz.func297,Tryz.ntmps297
 go_wp2
 go_loopg [14,15] (m - a) (fun gg s10 s11 wr=>∃i j:Nat,a≤i∧i≤j∧j≤m∧j - i≤gg∧s10=.int .i64 i∧s11=.int .i64 j∧Hid (a<i→ltP ltE d[m]! d[i - 1]! = false)∧Hid (j<m→ltP ltE d[m]! d[j]! = true)∧a0O w0 g d0 d wr)
 case atStart=>exact ⟨a,m,Nat.le_refl _,by omega,Nat.le_refl _,by omega,rfl,rfl,jH (fun h=>absurd h (by omega)),jH (fun h=>absurd h (by omega)),HST.out⟩
 case round =>
  obtain ⟨i,j,hi,hij,hj,hgg,rfl,rfl,H1,H2,hin⟩:=hrel;rename World=>wr
  have HIN:=jH hin;clear hin
  by_cases hlt:i<j
  · obtain ⟨h,hh⟩:∃h,h=(i+j) / 2:=⟨_,rfl⟩
    have um:((i:Int)+(j:Int)) / 2=(h:Int):=by omega
    have b1:i≤h:=by omega
    have b2:h<j:=by omega
    have z1:(0:Int)≤(h:Int):=by omega
    have z2:(h:Int)<(d.size:Int):=by omega
    have z3:(m:Int)<(d.size:Int):=by omega
    clear hh;obtain ⟨x,hx⟩:∃x,d[m]! = x:=⟨_,rfl⟩;obtain ⟨y,hy⟩:∃y,d[h]! = y:=⟨_,rfl⟩;have cx:=fun n os=>c0Y (HIN.out.grown n os).holds (i:=m) (by omega) hx
    have cy:=fun n os=>c0Y (HIN.out.grown n os).holds (i:=h) (by omega) hy
    have c1:=fun n os=>(cx n os).1
    have c2:=fun n os=>(cx n os).2.1
    have c3:=fun n os=>(cx n os).2.2
    have c4:=fun n os=>(cy n os).1
    have c5:=fun n os=>(cy n os).2.1
    have c6:=fun n os=>(cy n os).2.2
    obtain ⟨cv,hcv⟩:∃cv,h0B x.1.1.1 x.1.1.2 y.1.1.1 y.1.1.2=cv:=⟨_,rfl⟩;have hcg:∀n' os',Calls Tryz.prog 217 #[.agg #[.int .u64 x.1.1.1,.int .u64 x.1.1.2,.pointer (some ⟨x.1.2,0,none⟩)],.agg #[.int .u64 y.1.1.1,.int .u64 y.1.1.2,.pointer (some ⟨y.1.2,0,none⟩)]] (grow (wr.drewN n') os') fun e w'=>e=.returned (.int .i64 cv)∧∃q os'',w'=grow ((grow (wr.drewN n') os').drewN q) os'':=fun n' os'=>by rw [←hcv];exact j0S x.1 y.1 _
    have HLT:=jH (show cv<0 ↔ ltP ltE d[m]! d[h]! = true by rw [←hcv,hx,hy];exact m1X x y);have HG:=jH hcg;clear cx cy hcv hx hy hcg
    by_cases hlv:cv<0
    · have hld:decide (cv<0)=true:=decide_eq_true hlv
      go_wp2_with fail
      go_quiet_grown (first|(go_at_call 217;refine Calls.grown_of (HG.out _ _)))
      go_wp2_with fail
      go_roundg (h - i)
      case measure=>omega
      case rel=>exact ⟨i,h,hi,by omega,by omega,Nat.le_refl _,rfl,rfl,H1,jH (fun _=>HLT.out.1 hlv),HIN.out.grown _ _⟩
    · have hld:decide (cv<0)=false:=decide_eq_false hlv
      go_wp2_with fail
      go_quiet_grown (first|(go_at_call 217;refine Calls.grown_of (HG.out _ _)))
      go_wp2_with fail
      go_roundg (j - (h+1))
      case measure=>omega
      case rel=>exact ⟨h+1,j,by omega,by omega,hj,Nat.le_refl _,by go_num,rfl,jH (fun _=>by rw [Nat.add_sub_cancel];exact Bool.eq_false_iff.2 (fun k=>absurd (HLT.out.2 k) (by omega))),H2,HIN.out.grown _ _⟩
  · obtain rfl:i=j:=by omega
    go_wp2_with fail
    go_loopg [17] (m - a) (fun gg s17 wr=>∃(k:Nat) (dk:Array Pl),i≤k∧k≤m∧k - i≤gg∧s17=.int .i64 k∧Hid (dk.size=d.size)∧Hid (Rot d dk k m b)∧Hid (PermIn a b d dk)∧a0O w0 g d0 dk wr)
    case atStart=>exact ⟨m,d,by omega,Nat.le_refl _,by omega,rfl,jH rfl,jH (Rot.none (Or.inl (Nat.le_refl _)) ⟨by omega,by omega⟩),jH (permIn_refl d _ _),HIN.out⟩
    case round =>
     obtain ⟨k,dk,hik,hkm,hgk,rfl,HSK,HR,HP,hin⟩:=hrel;rename World=>wr
     have hsk:=HSK.out
     by_cases hlk:i<k
     · obtain ⟨kk,rfl⟩:∃kk,k=kk+1:=⟨k - 1,by omega⟩
       have l1:kk+1<dk.size:=by omega
       have l2:kk<dk.size:=by omega
       obtain ⟨x,hx⟩:∃x,dk[kk+1]! = x:=⟨_,rfl⟩;obtain ⟨y,hy⟩:∃y,dk[kk]! = y:=⟨_,rfl⟩;obtain ⟨c1,c2,c3⟩:=c0Y hin.holds l1 hx;obtain ⟨c4,c5,c6⟩:=c0Y hin.holds l2 hy;obtain ⟨f1,f2,f3⟩:=f0F hin.holds l1;obtain ⟨f4,f5,f6⟩:=f0F hin.holds l2;have HW:=jH (hin.swap l1 l2 hx hy);have HR2:=jH (show Rot d (swp dk (kk+1) kk) kk m b by have e:=HM.out;subst e;exact HR.out.down (by omega) (by omega))
       have HP2:=jH (permIn_trans _ _ _ _ _ HP.out (swp_permIn dk a b (kk+1) kk (by omega) (by omega) (by omega) (by omega) (by omega)));have e1:((kk:Int)+1).toNat=kk+1:=by omega
       have p1:(0:Int)≤(kk:Int)+1:=by omega
       have r1:(kk:Int)+1<(d.size:Int):=by omega
       have r2:(kk:Int)<(d.size:Int):=by omega
       have u1:IntKind.i64.wrap (kk:Int)=(kk:Int):=by rw [IntKind.wrap_i64];omega
       have hne:(kk+1) * 3≠kk * 3:=by omega
       clear hin hx hy hsk;go_wp2_with fail
       go_region
       all_goals go_wp2
       go_roundg (kk - i)
       case measure=>omega
       case rel=>exact ⟨kk,swp dk (kk+1) kk,by omega,by omega,Nat.le_refl _,by first|rfl|go_num|(congr 1;omega),jH (by rw [size_swp];exact HSK.out),HR2,HP2,HW.out.drewN 1⟩
     · obtain rfl:k=i:=by omega
       have HIN2:=jH hin;clear hin hsk;go_wp2_with fail
       refine bodyPost_ret (results_none rfl _ _ _) rfl ?_;refine ⟨rfl,dk,HSK.out,HP.out,?_,HIN2.out⟩;have hr:=HR.out;have e:=HM.out;subst e;exact o1N (ordZ j1B) hi hj HU.out HC.out H1.out H2.out hr
theorem s0B (w0:World) (g cap a m b mid N:Nat) (d0 d:Array Pl) (w:World) (hS:a0O w0 g d0 d w) (hb:b≤d.size) (ham:a+1<m) (hmb:m+1<b) (hsz:d.size≤1000000) (hmm:mid=(a+b) / 2) (hmid:mid<m)
    (hu:Up (RZ ltE) a m d) (hu2:Up (RZ ltE) m b d) (hc:Crs (ltP ltE) (RZ ltE) a m b d) (hN:b - a<N+1)
    (IH:∀(a m b:Nat) (dk:Array Pl) (W:World),b - a<N→a0O w0 g d0 dk W→dk.size=d.size→a<m→m<b→b≤d.size→Up (RZ ltE) a m dk→Up (RZ ltE) m b dk→Crs (ltP ltE) (RZ ltE) a m b dk →
      Calls Tryz.prog 297 #[.slice (some ⟨g,0,none⟩) d.size cap,.int .i64 a,.int .i64 m,.int .i64 b,.func (.func 217) #[] #[]] W fun e w' =>
       e=.returned (.tuple #[])∧∃d',d'.size=d.size∧PermIn a b dk d'∧Up (RZ ltE) a b d'∧a0O w0 g d0 d' w') :
    Calls Tryz.prog 297 #[.slice (some ⟨g,0,none⟩) d.size cap,.int .i64 a,.int .i64 m,.int .i64 b,.func (.func 217) #[] #[]] w fun e w' =>
     e=.returned (.tuple #[])∧∃d',d'.size=d.size∧PermIn a b d d'∧Up (RZ ltE) a b d'∧a0O w0 g d0 d' w':=by
  have HST:=jH hS;have HU:=jH hu;have HU2:=jH hu2;have HC:=jH hc;have HMM:=jH hmm;have HI:=jH IH;have CR:=jH (fun (s e:Nat) (W:World) (h:a0O w0 g d0 d W) (h1:s<m) (h2:m<e) (h3:e≤d.size)=>p0F w0 g cap s m e d0 d W (.func (.func 217) #[] #[]) h h1 h2 h3 hsz);have q1:((m:Int) - (a:Int) == 1)=false:=by simp;omega
  have q2:((b:Int) - (m:Int) == 1)=false:=by simp;omega
  have um:((a:Int)+(b:Int)) / 2=(mid:Int):=by omega
  have hm1:a<mid:=by omega
  have hm2:mid<b:=by omega
  have mixed:Tryz.prog.follows .mixedOrders=true:=by kernel_rfl
  have qb:¬(m:Int)≤(mid:Int):=by omega
  have qb2:(mid:Int)<(m:Int):=by omega
  have u20:(mid:Int)+(m:Int) - (b:Int)=((mid+m - b:Nat):Int):=by omega
  clear hS hu hu2 hc IH hmm
  go_enter Tryz.func297,Tryz.ntmps297
  go_wp2
  go_loopg [20,21] (b - a) (fun gg s20 s21 wr=>∃s r:Nat,(mid+m - b)≤s∧s≤r∧r≤mid∧r - s≤gg∧s20=.int .i64 s∧s21=.int .i64 r∧Hid ((mid+m - b)<s→ltP ltE d[mid+m - s]! d[s - 1]! = false)∧Hid (r<mid→ltP ltE d[mid+m - 1 - r]! d[r]! = true)∧a0O w0 g d0 d wr)
  case atStart=>exact ⟨(mid+m - b),mid,Nat.le_refl _,by omega,Nat.le_refl _,by omega,rfl,rfl,jH (fun h=>absurd h (by omega)),jH (fun h=>absurd h (by omega)),HST.out⟩
  case round =>
   obtain ⟨i,j,hi,hij,hj,hgg,rfl,rfl,H1,H2,hin⟩:=hrel;rename World=>wr
   have HIN:=jH hin;clear hin
   by_cases hlt:i<j
   · obtain ⟨h,hh⟩:∃h,h=(i+j) / 2:=⟨_,rfl⟩
     have uh:((i:Int)+(j:Int)) / 2=(h:Int):=by omega
     have b1:i≤h:=by omega
     have b2:h<j:=by omega
     obtain ⟨p,hp⟩:∃p,p=mid+m - 1 - h:=⟨_,rfl⟩;have up:(mid:Int)+(m:Int) - 1 - (h:Int)=(p:Int):=by have:=HMM.out;omega
     have up2:IntKind.i64.wrap (p:Int)=(p:Int):=by rw [IntKind.wrap_i64];have:=HMM.out;omega
     have bp:p<b:=by have:=HMM.out;omega
     have z1:(0:Int)≤(h:Int):=by omega
     have z2:(h:Int)<(d.size:Int):=by have:=HMM.out;omega
     have z3:(p:Int)<(d.size:Int):=by omega
     have z4:(0:Int)≤(p:Int):=by omega
     have HPP:=jH hp;have z5:h<d.size:=by omega
     have z6:p<d.size:=by omega
     clear hh hp;obtain ⟨x,hx⟩:∃x,d[p]! = x:=⟨_,rfl⟩;obtain ⟨y,hy⟩:∃y,d[h]! = y:=⟨_,rfl⟩;have cx:=fun n os=>c0Y (HIN.out.grown n os).holds (i:=p) (by omega) hx
     have cy:=fun n os=>c0Y (HIN.out.grown n os).holds (i:=h) (by omega) hy
     have c1:=fun n os=>(cx n os).1
     have c2:=fun n os=>(cx n os).2.1
     have c3:=fun n os=>(cx n os).2.2
     have c4:=fun n os=>(cy n os).1
     have c5:=fun n os=>(cy n os).2.1
     have c6:=fun n os=>(cy n os).2.2
     obtain ⟨cv,hcv⟩:∃cv,h0B x.1.1.1 x.1.1.2 y.1.1.1 y.1.1.2=cv:=⟨_,rfl⟩;have hcg:∀n' os',Calls Tryz.prog 217 #[.agg #[.int .u64 x.1.1.1,.int .u64 x.1.1.2,.pointer (some ⟨x.1.2,0,none⟩)],.agg #[.int .u64 y.1.1.1,.int .u64 y.1.1.2,.pointer (some ⟨y.1.2,0,none⟩)]] (grow (wr.drewN n') os') fun e w'=>e=.returned (.int .i64 cv)∧∃q os'',w'=grow ((grow (wr.drewN n') os').drewN q) os'':=fun n' os'=>by rw [←hcv];exact j0S x.1 y.1 _
     have HLT:=jH (show cv<0 ↔ ltP ltE d[p]! d[h]! = true by rw [←hcv,hx,hy];exact m1X x y);have HG:=jH hcg;clear cx cy hcv hx hy hcg
     by_cases hlv:cv<0
     · have hld:decide (cv<0)=true:=decide_eq_true hlv
       go_wp2_with fail
       go_quiet_grown (first|(go_at_call 217;refine Calls.grown_of (HG.out _ _)))
       go_wp2_with fail
       go_roundg (h - i)
       case measure=>omega
       case rel=>exact ⟨i,h,hi,by omega,by omega,Nat.le_refl _,rfl,rfl,H1,jH (fun _=>by rw [←HPP.out];exact HLT.out.1 hlv),HIN.out.grown _ _⟩
     · have hld:decide (cv<0)=false:=decide_eq_false hlv
       go_wp2_with fail
       go_quiet_grown (first|(go_at_call 217;refine Calls.grown_of (HG.out _ _)))
       go_wp2_with fail
       go_roundg (j - (h+1))
       case measure=>omega
       case rel=>exact ⟨h+1,j,by omega,by omega,hj,Nat.le_refl _,by go_num,rfl,jH (fun _=>by rw [Nat.add_sub_cancel,show mid+m - (h+1)=p by rw [HPP.out];omega];exact Bool.eq_false_iff.2 (fun k=>absurd (HLT.out.2 k) (by omega))),H2,HIN.out.grown _ _⟩
   · obtain rfl:i=j:=by omega
     obtain ⟨en,hen⟩:∃en,en=mid+m - i:=⟨_,rfl⟩;have ue:(mid:Int)+(m:Int) - (i:Int)=(en:Int):=by have:=HMM.out;omega
     have be1:mid≤en:=by have:=HMM.out;omega
     have be2:en≤b:=by have:=HMM.out;omega
     have be3:m≤en:=by have:=HMM.out;omega
     have be4:i≤m:=by have:=HMM.out;omega
     have be5:i≤mid:=by have:=HMM.out;omega
     have be6:a≤i:=by have:=HMM.out;omega
     have HSP:=jH (fun (d1:Array Pl) (hr:Rot d d1 i m en)=>y0I (s0:=(mid+m - b)) (r0:=mid) (ordZ j1B) (by omega) (by omega) HMM.out (Or.inl ⟨hmid,rfl,rfl⟩) hi hj HU.out HU2.out HC.out H1.out H2.out (by rw [←hen];exact hr));rw [←hen] at HSP;have HEN:=jH hen;clear hen H1 H2;have hr1:i<m:=by omega
     go_upto_if 185 with fail
     go_cut [24] (fun s24 wx=>s24=.int .i64 en∧∃d1:Array Pl,d1.size=d.size∧PermIn a b d d1∧s0X (ltP ltE) (RZ ltE) d1 a i mid en b∧a0O w0 g d0 d1 wx)
     case first =>
      by_cases hr2:m<en
      · go_wp2_with (go_at_call 307
                     refine (CR.out i en wr HIN.out hr1 hr2 (by omega)).mono ?_;rintro e w1 ⟨rfl,d1,hs1,hro,hp1,hin1⟩;have HX:=jH (show d1.size=d.size∧PermIn a b d d1∧s0X (ltP ltE) (RZ ltE) d1 a i mid en b∧a0O w0 g d0 d1 w1 from ⟨hs1,permIn_mono d d1 i en a b be6 be2 hb hp1,HSP.out d1 hro,hin1⟩);clear hs1 hro hp1 hin1)
        go_meet
        exact ⟨rfl,d1,HX.out⟩
      · have hr3:decide ((m:Int)<(en:Int))=false:=decide_eq_false (by omega)
        have hr4:¬(m:Int)<(en:Int):=by omega
        have HX:=jH (show PermIn a b d d∧s0X (ltP ltE) (RZ ltE) d a i mid en b∧a0O w0 g d0 d wr from ⟨permIn_refl d a b,HSP.out d (Rot.none (by omega) ⟨be4,be3⟩),HIN.out⟩);go_wp2_with fail
        all_goals
          go_meet
          exact ⟨rfl,d,rfl,HX.out⟩
     case rest =>
      obtain ⟨rfl,d1,hs1,hp1,hsp,hin1⟩:=hcut;rename World=>wx
      have HS1:=jH hs1;have HP1:=jH hp1;have HSP1:=jH hsp;have HIN1:=jH hin1;clear hs1 hp1 hsp hin1 HSP
      by_cases hl1:a<i
      · go_upto_if 199 with fail
        go_cut [24] (fun s24 wx=>s24=.int .i64 en∧∃d2:Array Pl,d2.size=d.size∧PermIn a mid d1 d2∧Up (RZ ltE) a mid d2∧a0O w0 g d0 d2 wx)
        case first =>
         by_cases hl2:i<mid
         · go_wp2_with (go_at_call 297
                        refine (HI.out a i mid d1 wx (by omega) HIN1.out HS1.out hl1 hl2 (by omega) HSP1.out.u1 HSP1.out.u2 HSP1.out.c1).mono ?_;rintro e w1 ⟨rfl,d2,hs2,hp2,hu2,hin2⟩;have HX:=jH (show d2.size=d.size∧PermIn a mid d1 d2∧Up (RZ ltE) a mid d2∧a0O w0 g d0 d2 w1 from ⟨hs2,hp2,hu2,hin2⟩);clear hs2 hp2 hu2 hin2)
           go_meet
           exact ⟨rfl,d2,HX.out⟩
         · have hr2:¬(i:Int)<(mid:Int):=by omega
           have hr3:decide ((i:Int)<(mid:Int))=false:=decide_eq_false hr2;have HX:=jH (show PermIn a mid d1 d1∧Up (RZ ltE) a mid d1∧a0O w0 g d0 d1 wx from ⟨permIn_refl d1 _ _,by have:=HSP1.out.u1;rwa [show i=mid by omega] at this,HIN1.out⟩);go_wp2_with fail
           all_goals
             go_meet
             exact ⟨rfl,d1,(by first|exact HS1.out|rfl),HX.out⟩
        case rest =>
         obtain ⟨rfl,d2,hs2,hp2,hu2,hin2⟩:=hcut;rename World=>wy
         have HS2:=jH hs2;have HP2:=jH hp2;have HU3:=jH hu2;have HIN2:=jH hin2;clear hs2 hp2 hu2 hin2;have HEND:=jH (fun (d3:Array Pl) (h3:PermIn mid b d2 d3) (hu3:Up (RZ ltE) mid b d3)=>(show PermIn a b d d3∧Up (RZ ltE) a b d3 from
          ⟨permIn_trans _ _ _ a b HP1.out (permIn_trans _ _ _ a b (permIn_mono d1 d2 a mid a b (Nat.le_refl _) (by omega) (by have:=HS1.out;omega) HP2.out) (permIn_mono d2 d3 mid b a b (by omega) (Nat.le_refl _) (by have:=HS2.out;omega) h3)),
           k0U HSP1.out (by have:=HS1.out;omega) (by omega) (by omega) HP2.out HU3.out h3 hu3⟩))
         have HV3:=jH (Up.out HP2.out HSP1.out.u3 (Or.inr (Nat.le_refl _)));have HV4:=jH (Up.out HP2.out HSP1.out.u4 (Or.inr be1));have HVC:=jH (Crs.out HP2.out HSP1.out.c2 (Or.inr (Nat.le_refl _)) ⟨be1,be2⟩)
         by_cases hl1:mid<en
         · by_cases hl2:en<b
           · go_wp2_with (go_at_call 297
                          refine (HI.out mid en b d2 wy (by omega) HIN2.out HS2.out hl1 hl2 hb HV3.out HV4.out HVC.out).mono ?_;rintro e w1 ⟨rfl,d3,hs3,hp3,hu3,hin3⟩;have HX:=jH (show d3.size=d.size∧PermIn a b d d3∧Up (RZ ltE) a b d3∧a0O w0 g d0 d3 w1 from ⟨hs3,(HEND.out d3 hp3 hu3).1,(HEND.out d3 hp3 hu3).2,hin3⟩);clear hs3 hp3 hu3 hin3)
             go_end0
             exact ⟨rfl,d3,HX.out⟩
           · have hr2:¬(en:Int)<(b:Int):=by omega
             have hr3:decide ((en:Int)<(b:Int))=false:=decide_eq_false hr2;have hv:Up (RZ ltE) mid b d2:=by have:=HV3.out;rwa [show en=b by omega] at this
             have HX:=jH (show PermIn a b d d2∧Up (RZ ltE) a b d2∧a0O w0 g d0 d2 wy from ⟨(HEND.out d2 (permIn_refl d2 _ _) hv).1,(HEND.out d2 (permIn_refl d2 _ _) hv).2,HIN2.out⟩);clear hv;go_wp2_with fail
             go_end0
             exact ⟨rfl,d2,(by first|exact HS2.out|rfl),HX.out⟩
         · have hr2:¬(mid:Int)<(en:Int):=by omega
           have hv:Up (RZ ltE) mid b d2:=by have:=HV4.out;rwa [show en=mid by omega] at this
           have HX:=jH (show PermIn a b d d2∧Up (RZ ltE) a b d2∧a0O w0 g d0 d2 wy from ⟨(HEND.out d2 (permIn_refl d2 _ _) hv).1,(HEND.out d2 (permIn_refl d2 _ _) hv).2,HIN2.out⟩);clear hv;go_wp2_with fail
           go_end0
           exact ⟨rfl,d2,(by first|exact HS2.out|rfl),HX.out⟩
      · have hr2:¬(a:Int)<(i:Int):=by omega
        have HS2:=HS1;have HP2:=jH (permIn_refl d1 a mid);have HU3:=jH (show Up (RZ ltE) a mid d1 by have:=HSP1.out.u2;rwa [show i=a by omega] at this);have HIN2:=HIN1;have HEND:=jH (fun (d3:Array Pl) (h3:PermIn mid b d1 d3) (hu3:Up (RZ ltE) mid b d3)=>(show PermIn a b d d3∧Up (RZ ltE) a b d3 from
         ⟨permIn_trans _ _ _ a b HP1.out (permIn_trans _ _ _ a b (permIn_mono d1 d1 a mid a b (Nat.le_refl _) (by omega) (by have:=HS1.out;omega) HP2.out) (permIn_mono d1 d3 mid b a b (by omega) (Nat.le_refl _) (by have:=HS2.out;omega) h3)),
          k0U HSP1.out (by have:=HS1.out;omega) (by omega) (by omega) HP2.out HU3.out h3 hu3⟩))
        have HV3:=jH (Up.out HP2.out HSP1.out.u3 (Or.inr (Nat.le_refl _)));have HV4:=jH (Up.out HP2.out HSP1.out.u4 (Or.inr be1));have HVC:=jH (Crs.out HP2.out HSP1.out.c2 (Or.inr (Nat.le_refl _)) ⟨be1,be2⟩)
        by_cases hl1:mid<en
        · by_cases hl2:en<b
          · go_wp2_with (go_at_call 297
                         refine (HI.out mid en b d1 wx (by omega) HIN2.out HS2.out hl1 hl2 hb HV3.out HV4.out HVC.out).mono ?_;rintro e w1 ⟨rfl,d3,hs3,hp3,hu3,hin3⟩;have HX:=jH (show d3.size=d.size∧PermIn a b d d3∧Up (RZ ltE) a b d3∧a0O w0 g d0 d3 w1 from ⟨hs3,(HEND.out d3 hp3 hu3).1,(HEND.out d3 hp3 hu3).2,hin3⟩);clear hs3 hp3 hu3 hin3)
            go_end0
            exact ⟨rfl,d3,HX.out⟩
          · have hr2:¬(en:Int)<(b:Int):=by omega
            have hr3:decide ((en:Int)<(b:Int))=false:=decide_eq_false hr2;have hv:Up (RZ ltE) mid b d1:=by have:=HV3.out;rwa [show en=b by omega] at this
            have HX:=jH (show PermIn a b d d1∧Up (RZ ltE) a b d1∧a0O w0 g d0 d1 wx from ⟨(HEND.out d1 (permIn_refl d1 _ _) hv).1,(HEND.out d1 (permIn_refl d1 _ _) hv).2,HIN2.out⟩);clear hv;go_wp2_with fail
            go_end0
            exact ⟨rfl,d1,(by first|exact HS2.out|rfl),HX.out⟩
        · have hr2:¬(mid:Int)<(en:Int):=by omega
          have hv:Up (RZ ltE) mid b d1:=by have:=HV4.out;rwa [show en=mid by omega] at this
          have HX:=jH (show PermIn a b d d1∧Up (RZ ltE) a b d1∧a0O w0 g d0 d1 wx from ⟨(HEND.out d1 (permIn_refl d1 _ _) hv).1,(HEND.out d1 (permIn_refl d1 _ _) hv).2,HIN2.out⟩);clear hv;go_wp2_with fail
          go_end0
          exact ⟨rfl,d1,(by first|exact HS2.out|rfl),HX.out⟩
theorem t0L (w0:World) (g cap a m b mid N:Nat) (d0 d:Array Pl) (w:World) (hS:a0O w0 g d0 d w) (hb:b≤d.size) (ham:a+1<m) (hmb:m+1<b) (hsz:d.size≤1000000) (hmm:mid=(a+b) / 2) (hmid:m≤mid)
    (hu:Up (RZ ltE) a m d) (hu2:Up (RZ ltE) m b d) (hc:Crs (ltP ltE) (RZ ltE) a m b d) (hN:b - a<N+1)
    (IH:∀(a m b:Nat) (dk:Array Pl) (W:World),b - a<N→a0O w0 g d0 dk W→dk.size=d.size→a<m→m<b→b≤d.size→Up (RZ ltE) a m dk→Up (RZ ltE) m b dk→Crs (ltP ltE) (RZ ltE) a m b dk →
      Calls Tryz.prog 297 #[.slice (some ⟨g,0,none⟩) d.size cap,.int .i64 a,.int .i64 m,.int .i64 b,.func (.func 217) #[] #[]] W fun e w' =>
       e=.returned (.tuple #[])∧∃d',d'.size=d.size∧PermIn a b dk d'∧Up (RZ ltE) a b d'∧a0O w0 g d0 d' w') :
    Calls Tryz.prog 297 #[.slice (some ⟨g,0,none⟩) d.size cap,.int .i64 a,.int .i64 m,.int .i64 b,.func (.func 217) #[] #[]] w fun e w' =>
     e=.returned (.tuple #[])∧∃d',d'.size=d.size∧PermIn a b d d'∧Up (RZ ltE) a b d'∧a0O w0 g d0 d' w':=by
  have HST:=jH hS;have HU:=jH hu;have HU2:=jH hu2;have HC:=jH hc;have HMM:=jH hmm;have HI:=jH IH;have CR:=jH (fun (s e:Nat) (W:World) (h:a0O w0 g d0 d W) (h1:s<m) (h2:m<e) (h3:e≤d.size)=>p0F w0 g cap s m e d0 d W (.func (.func 217) #[] #[]) h h1 h2 h3 hsz);have q1:((m:Int) - (a:Int) == 1)=false:=by simp;omega
  have q2:((b:Int) - (m:Int) == 1)=false:=by simp;omega
  have um:((a:Int)+(b:Int)) / 2=(mid:Int):=by omega
  have hm1:a<mid:=by omega
  have hm2:mid<b:=by omega
  have mixed:Tryz.prog.follows .mixedOrders=true:=by kernel_rfl
  have qb:¬(mid:Int)<(m:Int):=by omega
  clear hS hu hu2 hc IH hmm
  go_enter Tryz.func297,Tryz.ntmps297
  go_wp2
  go_loopg [20,21] (b - a) (fun gg s20 s21 wr=>∃s r:Nat,a≤s∧s≤r∧r≤m∧r - s≤gg∧s20=.int .i64 s∧s21=.int .i64 r∧Hid (a<s→ltP ltE d[mid+m - s]! d[s - 1]! = false)∧Hid (r<m→ltP ltE d[mid+m - 1 - r]! d[r]! = true)∧a0O w0 g d0 d wr)
  case atStart=>exact ⟨a,m,Nat.le_refl _,by omega,Nat.le_refl _,by omega,rfl,rfl,jH (fun h=>absurd h (by omega)),jH (fun h=>absurd h (by omega)),HST.out⟩
  case round =>
   obtain ⟨i,j,hi,hij,hj,hgg,rfl,rfl,H1,H2,hin⟩:=hrel;rename World=>wr
   have HIN:=jH hin;clear hin
   by_cases hlt:i<j
   · obtain ⟨h,hh⟩:∃h,h=(i+j) / 2:=⟨_,rfl⟩
     have uh:((i:Int)+(j:Int)) / 2=(h:Int):=by omega
     have b1:i≤h:=by omega
     have b2:h<j:=by omega
     obtain ⟨p,hp⟩:∃p,p=mid+m - 1 - h:=⟨_,rfl⟩;have up:(mid:Int)+(m:Int) - 1 - (h:Int)=(p:Int):=by have:=HMM.out;omega
     have up2:IntKind.i64.wrap (p:Int)=(p:Int):=by rw [IntKind.wrap_i64];have:=HMM.out;omega
     have bp:p<b:=by have:=HMM.out;omega
     have z1:(0:Int)≤(h:Int):=by omega
     have z2:(h:Int)<(d.size:Int):=by have:=HMM.out;omega
     have z3:(p:Int)<(d.size:Int):=by omega
     have z4:(0:Int)≤(p:Int):=by omega
     have HPP:=jH hp;have z5:h<d.size:=by omega
     have z6:p<d.size:=by omega
     clear hh hp;obtain ⟨x,hx⟩:∃x,d[p]! = x:=⟨_,rfl⟩;obtain ⟨y,hy⟩:∃y,d[h]! = y:=⟨_,rfl⟩;have cx:=fun n os=>c0Y (HIN.out.grown n os).holds (i:=p) (by omega) hx
     have cy:=fun n os=>c0Y (HIN.out.grown n os).holds (i:=h) (by omega) hy
     have c1:=fun n os=>(cx n os).1
     have c2:=fun n os=>(cx n os).2.1
     have c3:=fun n os=>(cx n os).2.2
     have c4:=fun n os=>(cy n os).1
     have c5:=fun n os=>(cy n os).2.1
     have c6:=fun n os=>(cy n os).2.2
     obtain ⟨cv,hcv⟩:∃cv,h0B x.1.1.1 x.1.1.2 y.1.1.1 y.1.1.2=cv:=⟨_,rfl⟩;have hcg:∀n' os',Calls Tryz.prog 217 #[.agg #[.int .u64 x.1.1.1,.int .u64 x.1.1.2,.pointer (some ⟨x.1.2,0,none⟩)],.agg #[.int .u64 y.1.1.1,.int .u64 y.1.1.2,.pointer (some ⟨y.1.2,0,none⟩)]] (grow (wr.drewN n') os') fun e w'=>e=.returned (.int .i64 cv)∧∃q os'',w'=grow ((grow (wr.drewN n') os').drewN q) os'':=fun n' os'=>by rw [←hcv];exact j0S x.1 y.1 _
     have HLT:=jH (show cv<0 ↔ ltP ltE d[p]! d[h]! = true by rw [←hcv,hx,hy];exact m1X x y);have HG:=jH hcg;clear cx cy hcv hx hy hcg
     by_cases hlv:cv<0
     · have hld:decide (cv<0)=true:=decide_eq_true hlv
       go_wp2_with fail
       go_quiet_grown (first|(go_at_call 217;refine Calls.grown_of (HG.out _ _)))
       go_wp2_with fail
       go_roundg (h - i)
       case measure=>omega
       case rel=>exact ⟨i,h,hi,by omega,by omega,Nat.le_refl _,rfl,rfl,H1,jH (fun _=>by rw [←HPP.out];exact HLT.out.1 hlv),HIN.out.grown _ _⟩
     · have hld:decide (cv<0)=false:=decide_eq_false hlv
       go_wp2_with fail
       go_quiet_grown (first|(go_at_call 217;refine Calls.grown_of (HG.out _ _)))
       go_wp2_with fail
       go_roundg (j - (h+1))
       case measure=>omega
       case rel=>exact ⟨h+1,j,by omega,by omega,hj,Nat.le_refl _,by go_num,rfl,jH (fun _=>by rw [Nat.add_sub_cancel,show mid+m - (h+1)=p by rw [HPP.out];omega];exact Bool.eq_false_iff.2 (fun k=>absurd (HLT.out.2 k) (by omega))),H2,HIN.out.grown _ _⟩
   · obtain rfl:i=j:=by omega
     obtain ⟨en,hen⟩:∃en,en=mid+m - i:=⟨_,rfl⟩;have ue:(mid:Int)+(m:Int) - (i:Int)=(en:Int):=by have:=HMM.out;omega
     have be1:mid≤en:=by have:=HMM.out;omega
     have be2:en≤b:=by have:=HMM.out;omega
     have be3:m≤en:=by have:=HMM.out;omega
     have be4:i≤m:=by have:=HMM.out;omega
     have be5:i≤mid:=by have:=HMM.out;omega
     have be6:a≤i:=by have:=HMM.out;omega
     have HSP:=jH (fun (d1:Array Pl) (hr:Rot d d1 i m en)=>y0I (s0:=a) (r0:=m) (ordZ j1B) (by omega) (by omega) HMM.out (Or.inr ⟨hmid,rfl,rfl⟩) hi hj HU.out HU2.out HC.out H1.out H2.out (by rw [←hen];exact hr));rw [←hen] at HSP;have HEN:=jH hen;clear hen H1 H2
     by_cases hr1:i<m
     · go_upto_if 185 with fail
       go_cut [24] (fun s24 wx=>s24=.int .i64 en∧∃d1:Array Pl,d1.size=d.size∧PermIn a b d d1∧s0X (ltP ltE) (RZ ltE) d1 a i mid en b∧a0O w0 g d0 d1 wx)
       case first =>
        by_cases hr2:m<en
        · go_wp2_with (go_at_call 307
                       refine (CR.out i en wr HIN.out hr1 hr2 (by omega)).mono ?_;rintro e w1 ⟨rfl,d1,hs1,hro,hp1,hin1⟩;have HX:=jH (show d1.size=d.size∧PermIn a b d d1∧s0X (ltP ltE) (RZ ltE) d1 a i mid en b∧a0O w0 g d0 d1 w1 from ⟨hs1,permIn_mono d d1 i en a b be6 be2 hb hp1,HSP.out d1 hro,hin1⟩);clear hs1 hro hp1 hin1)
          go_meet
          exact ⟨rfl,d1,HX.out⟩
        · have hr3:decide ((m:Int)<(en:Int))=false:=decide_eq_false (by omega)
          have hr4:¬(m:Int)<(en:Int):=by omega
          have HX:=jH (show PermIn a b d d∧s0X (ltP ltE) (RZ ltE) d a i mid en b∧a0O w0 g d0 d wr from ⟨permIn_refl d a b,HSP.out d (Rot.none (by omega) ⟨be4,be3⟩),HIN.out⟩);go_wp2_with fail
          all_goals
            go_meet
            exact ⟨rfl,d,rfl,HX.out⟩
       case rest =>
        obtain ⟨rfl,d1,hs1,hp1,hsp,hin1⟩:=hcut;rename World=>wx
        have HS1:=jH hs1;have HP1:=jH hp1;have HSP1:=jH hsp;have HIN1:=jH hin1;clear hs1 hp1 hsp hin1 HSP
        by_cases hl1:a<i
        · go_upto_if 199 with fail
          go_cut [24] (fun s24 wx=>s24=.int .i64 en∧∃d2:Array Pl,d2.size=d.size∧PermIn a mid d1 d2∧Up (RZ ltE) a mid d2∧a0O w0 g d0 d2 wx)
          case first =>
           by_cases hl2:i<mid
           · go_wp2_with (go_at_call 297
                          refine (HI.out a i mid d1 wx (by omega) HIN1.out HS1.out hl1 hl2 (by omega) HSP1.out.u1 HSP1.out.u2 HSP1.out.c1).mono ?_;rintro e w1 ⟨rfl,d2,hs2,hp2,hu2,hin2⟩;have HX:=jH (show d2.size=d.size∧PermIn a mid d1 d2∧Up (RZ ltE) a mid d2∧a0O w0 g d0 d2 w1 from ⟨hs2,hp2,hu2,hin2⟩);clear hs2 hp2 hu2 hin2)
             go_meet
             exact ⟨rfl,d2,HX.out⟩
           · have hr2:¬(i:Int)<(mid:Int):=by omega
             have hr3:decide ((i:Int)<(mid:Int))=false:=decide_eq_false hr2;have HX:=jH (show PermIn a mid d1 d1∧Up (RZ ltE) a mid d1∧a0O w0 g d0 d1 wx from ⟨permIn_refl d1 _ _,by have:=HSP1.out.u1;rwa [show i=mid by omega] at this,HIN1.out⟩);go_wp2_with fail
             all_goals
               go_meet
               exact ⟨rfl,d1,(by first|exact HS1.out|rfl),HX.out⟩
          case rest =>
           obtain ⟨rfl,d2,hs2,hp2,hu2,hin2⟩:=hcut;rename World=>wy
           have HS2:=jH hs2;have HP2:=jH hp2;have HU3:=jH hu2;have HIN2:=jH hin2;clear hs2 hp2 hu2 hin2;have HEND:=jH (fun (d3:Array Pl) (h3:PermIn mid b d2 d3) (hu3:Up (RZ ltE) mid b d3)=>(show PermIn a b d d3∧Up (RZ ltE) a b d3 from
            ⟨permIn_trans _ _ _ a b HP1.out (permIn_trans _ _ _ a b (permIn_mono d1 d2 a mid a b (Nat.le_refl _) (by omega) (by have:=HS1.out;omega) HP2.out) (permIn_mono d2 d3 mid b a b (by omega) (Nat.le_refl _) (by have:=HS2.out;omega) h3)),
             k0U HSP1.out (by have:=HS1.out;omega) (by omega) (by omega) HP2.out HU3.out h3 hu3⟩))
           have HV3:=jH (Up.out HP2.out HSP1.out.u3 (Or.inr (Nat.le_refl _)));have HV4:=jH (Up.out HP2.out HSP1.out.u4 (Or.inr be1));have HVC:=jH (Crs.out HP2.out HSP1.out.c2 (Or.inr (Nat.le_refl _)) ⟨be1,be2⟩)
           by_cases hl1:mid<en
           · by_cases hl2:en<b
             · go_wp2_with (go_at_call 297
                            refine (HI.out mid en b d2 wy (by omega) HIN2.out HS2.out hl1 hl2 hb HV3.out HV4.out HVC.out).mono ?_;rintro e w1 ⟨rfl,d3,hs3,hp3,hu3,hin3⟩;have HX:=jH (show d3.size=d.size∧PermIn a b d d3∧Up (RZ ltE) a b d3∧a0O w0 g d0 d3 w1 from ⟨hs3,(HEND.out d3 hp3 hu3).1,(HEND.out d3 hp3 hu3).2,hin3⟩);clear hs3 hp3 hu3 hin3)
               go_end0
               exact ⟨rfl,d3,HX.out⟩
             · have hr2:¬(en:Int)<(b:Int):=by omega
               have hr3:decide ((en:Int)<(b:Int))=false:=decide_eq_false hr2;have hv:Up (RZ ltE) mid b d2:=by have:=HV3.out;rwa [show en=b by omega] at this
               have HX:=jH (show PermIn a b d d2∧Up (RZ ltE) a b d2∧a0O w0 g d0 d2 wy from ⟨(HEND.out d2 (permIn_refl d2 _ _) hv).1,(HEND.out d2 (permIn_refl d2 _ _) hv).2,HIN2.out⟩);clear hv;go_wp2_with fail
               go_end0
               exact ⟨rfl,d2,(by first|exact HS2.out|rfl),HX.out⟩
           · have hr2:¬(mid:Int)<(en:Int):=by omega
             have hv:Up (RZ ltE) mid b d2:=by have:=HV4.out;rwa [show en=mid by omega] at this
             have HX:=jH (show PermIn a b d d2∧Up (RZ ltE) a b d2∧a0O w0 g d0 d2 wy from ⟨(HEND.out d2 (permIn_refl d2 _ _) hv).1,(HEND.out d2 (permIn_refl d2 _ _) hv).2,HIN2.out⟩);clear hv;go_wp2_with fail
             go_end0
             exact ⟨rfl,d2,(by first|exact HS2.out|rfl),HX.out⟩
        · have hr2:¬(a:Int)<(i:Int):=by omega
          have HS2:=HS1;have HP2:=jH (permIn_refl d1 a mid);have HU3:=jH (show Up (RZ ltE) a mid d1 by have:=HSP1.out.u2;rwa [show i=a by omega] at this);have HIN2:=HIN1;have HEND:=jH (fun (d3:Array Pl) (h3:PermIn mid b d1 d3) (hu3:Up (RZ ltE) mid b d3)=>(show PermIn a b d d3∧Up (RZ ltE) a b d3 from
           ⟨permIn_trans _ _ _ a b HP1.out (permIn_trans _ _ _ a b (permIn_mono d1 d1 a mid a b (Nat.le_refl _) (by omega) (by have:=HS1.out;omega) HP2.out) (permIn_mono d1 d3 mid b a b (by omega) (Nat.le_refl _) (by have:=HS2.out;omega) h3)),
            k0U HSP1.out (by have:=HS1.out;omega) (by omega) (by omega) HP2.out HU3.out h3 hu3⟩))
          have HV3:=jH (Up.out HP2.out HSP1.out.u3 (Or.inr (Nat.le_refl _)));have HV4:=jH (Up.out HP2.out HSP1.out.u4 (Or.inr be1));have HVC:=jH (Crs.out HP2.out HSP1.out.c2 (Or.inr (Nat.le_refl _)) ⟨be1,be2⟩)
          by_cases hl1:mid<en
          · by_cases hl2:en<b
            · go_wp2_with (go_at_call 297
                           refine (HI.out mid en b d1 wx (by omega) HIN2.out HS2.out hl1 hl2 hb HV3.out HV4.out HVC.out).mono ?_;rintro e w1 ⟨rfl,d3,hs3,hp3,hu3,hin3⟩;have HX:=jH (show d3.size=d.size∧PermIn a b d d3∧Up (RZ ltE) a b d3∧a0O w0 g d0 d3 w1 from ⟨hs3,(HEND.out d3 hp3 hu3).1,(HEND.out d3 hp3 hu3).2,hin3⟩);clear hs3 hp3 hu3 hin3)
              go_end0
              exact ⟨rfl,d3,HX.out⟩
            · have hr2:¬(en:Int)<(b:Int):=by omega
              have hr3:decide ((en:Int)<(b:Int))=false:=decide_eq_false hr2;have hv:Up (RZ ltE) mid b d1:=by have:=HV3.out;rwa [show en=b by omega] at this
              have HX:=jH (show PermIn a b d d1∧Up (RZ ltE) a b d1∧a0O w0 g d0 d1 wx from ⟨(HEND.out d1 (permIn_refl d1 _ _) hv).1,(HEND.out d1 (permIn_refl d1 _ _) hv).2,HIN2.out⟩);clear hv;go_wp2_with fail
              go_end0
              exact ⟨rfl,d1,(by first|exact HS2.out|rfl),HX.out⟩
          · have hr2:¬(mid:Int)<(en:Int):=by omega
            have hv:Up (RZ ltE) mid b d1:=by have:=HV4.out;rwa [show en=mid by omega] at this
            have HX:=jH (show PermIn a b d d1∧Up (RZ ltE) a b d1∧a0O w0 g d0 d1 wx from ⟨(HEND.out d1 (permIn_refl d1 _ _) hv).1,(HEND.out d1 (permIn_refl d1 _ _) hv).2,HIN2.out⟩);clear hv;go_wp2_with fail
            go_end0
            exact ⟨rfl,d1,(by first|exact HS2.out|rfl),HX.out⟩
     · have hr2:¬(i:Int)<(m:Int):=by omega
       have HS1:=jH (show d.size=d.size from rfl);have HP1:=jH (permIn_refl d a b);have HSP1:=jH (HSP.out d (Rot.none (by omega) ⟨be4,be3⟩));have HIN1:=HIN;clear HSP
       by_cases hl1:a<i
       · go_upto_if 199 with fail
         go_cut [24] (fun s24 wx=>s24=.int .i64 en∧∃d2:Array Pl,d2.size=d.size∧PermIn a mid d d2∧Up (RZ ltE) a mid d2∧a0O w0 g d0 d2 wx)
         case first =>
          by_cases hl2:i<mid
          · go_wp2_with (go_at_call 297
                         refine (HI.out a i mid d wr (by omega) HIN1.out HS1.out hl1 hl2 (by omega) HSP1.out.u1 HSP1.out.u2 HSP1.out.c1).mono ?_;rintro e w1 ⟨rfl,d2,hs2,hp2,hu2,hin2⟩;have HX:=jH (show d2.size=d.size∧PermIn a mid d d2∧Up (RZ ltE) a mid d2∧a0O w0 g d0 d2 w1 from ⟨hs2,hp2,hu2,hin2⟩);clear hs2 hp2 hu2 hin2)
            go_meet
            exact ⟨rfl,d2,HX.out⟩
          · have hr2:¬(i:Int)<(mid:Int):=by omega
            have hr3:decide ((i:Int)<(mid:Int))=false:=decide_eq_false hr2;have HX:=jH (show PermIn a mid d d∧Up (RZ ltE) a mid d∧a0O w0 g d0 d wr from ⟨permIn_refl d _ _,by have:=HSP1.out.u1;rwa [show i=mid by omega] at this,HIN1.out⟩);go_wp2_with fail
            all_goals
              go_meet
              exact ⟨rfl,d,(by first|exact HS1.out|rfl),HX.out⟩
         case rest =>
          obtain ⟨rfl,d2,hs2,hp2,hu2,hin2⟩:=hcut;rename World=>wy
          have HS2:=jH hs2;have HP2:=jH hp2;have HU3:=jH hu2;have HIN2:=jH hin2;clear hs2 hp2 hu2 hin2;have HEND:=jH (fun (d3:Array Pl) (h3:PermIn mid b d2 d3) (hu3:Up (RZ ltE) mid b d3)=>(show PermIn a b d d3∧Up (RZ ltE) a b d3 from
           ⟨permIn_trans _ _ _ a b HP1.out (permIn_trans _ _ _ a b (permIn_mono d d2 a mid a b (Nat.le_refl _) (by omega) (by have:=HS1.out;omega) HP2.out) (permIn_mono d2 d3 mid b a b (by omega) (Nat.le_refl _) (by have:=HS2.out;omega) h3)),
            k0U HSP1.out (by have:=HS1.out;omega) (by omega) (by omega) HP2.out HU3.out h3 hu3⟩))
          have HV3:=jH (Up.out HP2.out HSP1.out.u3 (Or.inr (Nat.le_refl _)));have HV4:=jH (Up.out HP2.out HSP1.out.u4 (Or.inr be1));have HVC:=jH (Crs.out HP2.out HSP1.out.c2 (Or.inr (Nat.le_refl _)) ⟨be1,be2⟩)
          by_cases hl1:mid<en
          · by_cases hl2:en<b
            · go_wp2_with (go_at_call 297
                           refine (HI.out mid en b d2 wy (by omega) HIN2.out HS2.out hl1 hl2 hb HV3.out HV4.out HVC.out).mono ?_;rintro e w1 ⟨rfl,d3,hs3,hp3,hu3,hin3⟩;have HX:=jH (show d3.size=d.size∧PermIn a b d d3∧Up (RZ ltE) a b d3∧a0O w0 g d0 d3 w1 from ⟨hs3,(HEND.out d3 hp3 hu3).1,(HEND.out d3 hp3 hu3).2,hin3⟩);clear hs3 hp3 hu3 hin3)
              go_end0
              exact ⟨rfl,d3,HX.out⟩
            · have hr2:¬(en:Int)<(b:Int):=by omega
              have hr3:decide ((en:Int)<(b:Int))=false:=decide_eq_false hr2;have hv:Up (RZ ltE) mid b d2:=by have:=HV3.out;rwa [show en=b by omega] at this
              have HX:=jH (show PermIn a b d d2∧Up (RZ ltE) a b d2∧a0O w0 g d0 d2 wy from ⟨(HEND.out d2 (permIn_refl d2 _ _) hv).1,(HEND.out d2 (permIn_refl d2 _ _) hv).2,HIN2.out⟩);clear hv;go_wp2_with fail
              go_end0
              exact ⟨rfl,d2,(by first|exact HS2.out|rfl),HX.out⟩
          · have hr2:¬(mid:Int)<(en:Int):=by omega
            have hv:Up (RZ ltE) mid b d2:=by have:=HV4.out;rwa [show en=mid by omega] at this
            have HX:=jH (show PermIn a b d d2∧Up (RZ ltE) a b d2∧a0O w0 g d0 d2 wy from ⟨(HEND.out d2 (permIn_refl d2 _ _) hv).1,(HEND.out d2 (permIn_refl d2 _ _) hv).2,HIN2.out⟩);clear hv;go_wp2_with fail
            go_end0
            exact ⟨rfl,d2,(by first|exact HS2.out|rfl),HX.out⟩
       · have hr2:¬(a:Int)<(i:Int):=by omega
         have HS2:=HS1;have HP2:=jH (permIn_refl d a mid);have HU3:=jH (show Up (RZ ltE) a mid d by have:=HSP1.out.u2;rwa [show i=a by omega] at this);have HIN2:=HIN1;have HEND:=jH (fun (d3:Array Pl) (h3:PermIn mid b d d3) (hu3:Up (RZ ltE) mid b d3)=>(show PermIn a b d d3∧Up (RZ ltE) a b d3 from
          ⟨permIn_trans _ _ _ a b HP1.out (permIn_trans _ _ _ a b (permIn_mono d d a mid a b (Nat.le_refl _) (by omega) (by have:=HS1.out;omega) HP2.out) (permIn_mono d d3 mid b a b (by omega) (Nat.le_refl _) (by have:=HS2.out;omega) h3)),
           k0U HSP1.out (by have:=HS1.out;omega) (by omega) (by omega) HP2.out HU3.out h3 hu3⟩))
         have HV3:=jH (Up.out HP2.out HSP1.out.u3 (Or.inr (Nat.le_refl _)));have HV4:=jH (Up.out HP2.out HSP1.out.u4 (Or.inr be1));have HVC:=jH (Crs.out HP2.out HSP1.out.c2 (Or.inr (Nat.le_refl _)) ⟨be1,be2⟩)
         by_cases hl1:mid<en
         · by_cases hl2:en<b
           · go_wp2_with (go_at_call 297
                          refine (HI.out mid en b d wr (by omega) HIN2.out HS2.out hl1 hl2 hb HV3.out HV4.out HVC.out).mono ?_;rintro e w1 ⟨rfl,d3,hs3,hp3,hu3,hin3⟩;have HX:=jH (show d3.size=d.size∧PermIn a b d d3∧Up (RZ ltE) a b d3∧a0O w0 g d0 d3 w1 from ⟨hs3,(HEND.out d3 hp3 hu3).1,(HEND.out d3 hp3 hu3).2,hin3⟩);clear hs3 hp3 hu3 hin3)
             go_end0
             exact ⟨rfl,d3,HX.out⟩
           · have hr2:¬(en:Int)<(b:Int):=by omega
             have hr3:decide ((en:Int)<(b:Int))=false:=decide_eq_false hr2;have hv:Up (RZ ltE) mid b d:=by have:=HV3.out;rwa [show en=b by omega] at this
             have HX:=jH (show PermIn a b d d∧Up (RZ ltE) a b d∧a0O w0 g d0 d wr from ⟨(HEND.out d (permIn_refl d _ _) hv).1,(HEND.out d (permIn_refl d _ _) hv).2,HIN2.out⟩);clear hv;go_wp2_with fail
             go_end0
             exact ⟨rfl,d,(by first|exact HS2.out|rfl),HX.out⟩
         · have hr2:¬(mid:Int)<(en:Int):=by omega
           have hv:Up (RZ ltE) mid b d:=by have:=HV4.out;rwa [show en=mid by omega] at this
           have HX:=jH (show PermIn a b d d∧Up (RZ ltE) a b d∧a0O w0 g d0 d wr from ⟨(HEND.out d (permIn_refl d _ _) hv).1,(HEND.out d (permIn_refl d _ _) hv).2,HIN2.out⟩);clear hv;go_wp2_with fail
           go_end0
           exact ⟨rfl,d,(by first|exact HS2.out|rfl),HX.out⟩
theorem m0K (w0:World) (g cap:Nat) (d0:Array Pl) (n:Nat) (hn:n≤1000000):∀(N a m b:Nat) (dk:Array Pl) (W:World),b - a<N→a0O w0 g d0 dk W→dk.size=n→a<m→m<b→b≤n→Up (RZ ltE) a m dk→Up (RZ ltE) m b dk→Crs (ltP ltE) (RZ ltE) a m b dk →
      Calls Tryz.prog 297 #[.slice (some ⟨g,0,none⟩) n cap,.int .i64 a,.int .i64 m,.int .i64 b,.func (.func 217) #[] #[]] W fun e w' =>
       e=.returned (.tuple #[])∧∃d',d'.size=n∧PermIn a b dk d'∧Up (RZ ltE) a b d'∧a0O w0 g d0 d' w'
  | 0,_,_,_,_,_,h,_,_,_,_,_,_,_,_=>absurd h (Nat.not_lt_zero _)
  | N+1,a,m,b,dk,W,h,hin,hs,ham,hmb,hb,hu1,hu2,hc=>by
    subst hs
    by_cases h1:m=a+1
    · subst h1
      exact w0R w0 g cap a (a+1) b d0 dk W hin hb rfl hmb hn hu2 hc
    · by_cases h2:b=m+1
      · exact a1E w0 g cap a m b d0 dk W hin hb h2 (by omega) hn hu1 hc
      · by_cases hm:(a+b) / 2<m
        · exact s0B w0 g cap a m b _ N d0 dk W hin hb (by omega) (by omega) hn rfl hm hu1 hu2 hc (by omega) (m0K w0 g cap d0 dk.size hn N)
        · exact t0L w0 g cap a m b _ N d0 dk W hin hb (by omega) (by omega) hn rfl (by omega) hu1 hu2 hc (by omega) (m0K w0 g cap d0 dk.size hn N)
end
end Go.Proofs.YtmniiodpbebnmaaGreat
