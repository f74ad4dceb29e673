/- Part 20 of the proof. -/
import Derived.Test.YtmniiodpbebnmaaGreatJ19
import Derived.Shelf.SlSortCmp.QuietGrown
import Derived.Shelf.SlSortFuncK.SWK
namespace Go.Proofs.YtmniiodpbebnmaaGreat
set_option linter.unusedSimpArgs false
set_option linter.unusedVariables false
set_option linter.unusedSectionVars false
set_option maxRecDepth 100000
set_option maxHeartbeats 16000000
section
open Go.RowKit Go.Lib Go.Sort
abbrev Pl:=En × Nat
def plC (x:Pl):List Value:=enC x.1
theorem v0M (x:Pl):(plC x).length=3:=rfl
theorem o1U (x:Pl):∀v∈plC x,v.oneCell'=true:=eEn.one x.1
theorem c0Y {W:World} {g:Nat} {d:Array Pl} (h:HoldsK plC 3 W g 0 d) {i:Nat} (hi:i<d.size) {x:Pl} (hx:d[i]! = x) :
 W.cell? ⟨g,i * 3,none⟩=some (.int .u64 x.1.1.1)∧W.cell? ⟨g,i * 3+1,none⟩=some (.int .u64 x.1.1.2)∧W.cell? ⟨g,i * 3+2,none⟩=some (.pointer (some ⟨x.1.2,0,none⟩)):=by
 subst hx;have hc:=HoldsK.cells h v0M hi;have h0:=hc 0 _ rfl;have h1:=hc 1 _ rfl;have h2:=hc 2 _ rfl;rw [Addr.add_lit,Nat.zero_add] at h0 h1 h2;exact ⟨h0,h1,h2⟩
theorem f0F {W:World} {g:Nat} {d:Array Pl} (h:HoldsK plC 3 W g 0 d) {i:Nat} (hi:i<d.size) :
 W.frozen? ⟨g,i * 3,none⟩=false∧W.frozen? ⟨g,i * 3+1,none⟩=false∧W.frozen? ⟨g,i * 3+2,none⟩=false:=by
 have h0:=(h.cell (k:=3) hi (show 0<3 by decide)).2;have h1:=(h.cell (k:=3) hi (show 1<3 by decide)).2;have h2:=(h.cell (k:=3) hi (show 2<3 by decide)).2;rw [Nat.zero_add] at h0 h1 h2;exact ⟨h0,h1,h2⟩
structure a0O (w0:World) (g:Nat) (d0 d:Array Pl) (w:World):Prop where
 hg:g<w0.heap.size
 h0:HoldsK plC 3 w0 g 0 d0
 hs:d.size=d0.size
 sw:SWK plC 3 w0 g 0 d w
theorem a0O.holds {w0 w:World} {g:Nat} {d0 d:Array Pl} (h:a0O w0 g d0 d w):HoldsK plC 3 w g 0 d:=h.sw.holds h.hg h.h0 h.hs
theorem a0O.drewN {w0 w:World} {g:Nat} {d0 d:Array Pl} (h:a0O w0 g d0 d w) (n:Nat):a0O w0 g d0 d (w.drewN n):=⟨h.hg,h.h0,h.hs,h.sw.drewN n⟩
theorem a0O.grown {w0 w:World} {g:Nat} {d0 d:Array Pl} (h:a0O w0 g d0 d w) (n:Nat) (os:Array Obj):a0O w0 g d0 d (grow (w.drewN n) os):=by
 refine ⟨h.hg,h.h0,h.hs,?_⟩;obtain ⟨m,os',rfl⟩:=h.sw;exact ⟨_,_,sortWorldK_grown_c plC 3 w0 g 0 m n d os' os⟩
theorem a0O.swap {w0 w:World} {g:Nat} {d0 d:Array Pl} (h:a0O w0 g d0 d w) {i j:Nat} (hi:i<d.size) (hj:j<d.size) {x y:Pl} (hx:d[i]! = x) (hy:d[j]! = y) :
 a0O w0 g d0 (swp d i j) ((((((w.setCell ⟨g,i * 3,none⟩ (.int .u64 y.1.1.1)).setCell ⟨g,i * 3+1,none⟩ (.int .u64 y.1.1.2)).setCell ⟨g,i * 3+2,none⟩ (.pointer (some ⟨y.1.2,0,none⟩))).setCell ⟨g,j * 3,none⟩ (.int .u64 x.1.1.1)).setCell ⟨g,j * 3+1,none⟩ (.int .u64 x.1.1.2)).setCell ⟨g,j * 3+2,none⟩ (.pointer (some ⟨x.1.2,0,none⟩))):=by
 have k:=h.sw.swap v0M h.hg i j hi hj;rw [Nat.zero_add,Nat.zero_add,hx,hy] at k;exact ⟨h.hg,h.h0,by rw [size_swp];exact h.hs,k⟩
theorem q0X (w0:World) (g cap a b n:Nat) (d0 d:Array Pl) (w:World) (fv:Value) (hS:a0O w0 g d0 d w) (hab:a+n≤b) (hb:b+n≤d.size) (hsz:d.size≤1000000) :
 Calls Tryz.prog 310 #[.slice (some ⟨g,0,none⟩) d.size cap,.int .i64 a,.int .i64 b,.int .i64 n,fv] w fun e w' =>
  e=.returned (.tuple #[])∧∃d',d'.size=d.size∧Swr d d' a b n∧PermIn a (b+n) d d'∧a0O w0 g d0 d' w':=by
 have HST:=jH hS;have HB:=jH hb;clear hS
 go_enter Tryz.func310,Tryz.ntmps310
 go_wp2
 go_loopg [10] n (fun gg s10 wr=>∃(i:Nat) (dk:Array Pl),i≤n∧n - i≤gg∧s10=.int .i64 i∧dk.size=d.size∧Hid (Swr d dk a b i)∧Hid (PermIn a (b+n) d dk)∧a0O w0 g d0 dk wr)
 case atStart=>exact ⟨0,d,Nat.zero_le _,Nat.le_refl _,rfl,rfl,jH (Swr.zero d a b),jH (permIn_refl d _ _),HST.out⟩
 case round =>
  obtain ⟨i,dk,hi,hgg,rfl,hsk,HS,HP,hin⟩:=hrel;rename World=>wr
  have HIN:=jH hin
  by_cases hlt:i<n
  · have l1:a+i<dk.size:=by omega
    have l2:b+i<dk.size:=by omega
    obtain ⟨x,hx⟩:∃x,dk[a+i]! = x:=⟨_,rfl⟩;obtain ⟨y,hy⟩:∃y,dk[b+i]! = y:=⟨_,rfl⟩;obtain ⟨c1,c2,c3⟩:=c0Y hin.holds l1 hx;obtain ⟨c4,c5,c6⟩:=c0Y hin.holds l2 hy;obtain ⟨f1,f2,f3⟩:=f0F hin.holds l1;obtain ⟨f4,f5,f6⟩:=f0F hin.holds l2;have HW:=jH (hin.swap l1 l2 hx hy);have HS2:=jH (HS.out.step (show a+i<b by omega) l2);have HP2:=jH (permIn_trans _ _ _ _ _ HP.out (swp_permIn dk a (b+n) (a+i) (b+i) (by omega) (by omega) (by omega) (by omega) (by omega)))
    have e1:((a:Int)+(i:Int)).toNat=a+i:=by omega
    have e2:((b:Int)+(i:Int)).toNat=b+i:=by omega
    have p1:(0:Int)≤(a:Int)+(i:Int):=by omega
    have p2:(0:Int)≤(b:Int)+(i:Int):=by omega
    have r1:(a:Int)+(i:Int)<(d.size:Int):=by omega
    have r2:(b:Int)+(i:Int)<(d.size:Int):=by omega
    have u1:IntKind.i64.wrap ((a:Int)+(i:Int))=(a:Int)+(i:Int):=by rw [IntKind.wrap_i64];omega
    have u2:IntKind.i64.wrap ((b:Int)+(i:Int))=(b:Int)+(i:Int):=by rw [IntKind.wrap_i64];omega
    have hne:(a+i) * 3≠(b+i) * 3:=by omega
    clear hin hx hy;go_wp2_with fail
    go_region
    all_goals go_wp2
    go_roundg (n - (i+1))
    case measure=>omega
    case rel=>exact ⟨i+1,swp dk (a+i) (b+i),hlt,Nat.le_refl _,by go_num,by rw [size_swp];exact hsk,HS2,HP2,HW.out.drewN 1⟩
  · obtain rfl:i=n:=by omega
    go_wp2
    go_end0
    exact ⟨rfl,dk,hsk,HS.out,HP.out,HIN.out⟩
def RotOn (d dk:Array Pl) (a m b i j:Nat):Prop:=∀d',Rot dk d' (m - i) m (m+j)→Rot d d' a m b
theorem p0F (w0:World) (g cap a m b:Nat) (d0 d:Array Pl) (w:World) (fv:Value) (hS:a0O w0 g d0 d w) (ham:a<m) (hmb:m<b) (hb:b≤d.size) (hsz:d.size≤1000000) :
 Calls Tryz.prog 307 #[.slice (some ⟨g,0,none⟩) d.size cap,.int .i64 a,.int .i64 m,.int .i64 b,fv] w fun e w' =>
  e=.returned (.tuple #[])∧∃d',d'.size=d.size∧Rot d d' a m b∧PermIn a b d d'∧a0O w0 g d0 d' w':=by
 have HST:=jH hS;have CS:=jH (fun (a b n:Nat) (dk:Array Pl) (W:World) (h:a0O w0 g d0 dk W) (hs:dk.size=d.size) (h1:a+n≤b) (h2:b+n≤d.size)=>by
  have:=q0X w0 g cap a b n d0 dk W fv h h1 (by omega) (by omega)
  rwa [hs] at this)
 clear hS
 go_enter Tryz.func307,Tryz.ntmps307
 go_wp2
 go_loopg [10,11] (b - a) (fun gg s10 s11 wr=>∃(i j:Nat) (dk:Array Pl),0<i∧0<j∧i≤m - a∧j≤b - m∧i+j≤gg∧s10=.int .i64 i∧s11=.int .i64 j∧dk.size=d.size∧Hid (RotOn d dk a m b i j)∧Hid (PermIn a b d dk)∧a0O w0 g d0 dk wr)
 case atStart=>exact ⟨m - a,b - m,d,by omega,by omega,Nat.le_refl _,Nat.le_refl _,by omega,by first|go_num|(congr 1;omega),by first|go_num|(congr 1;omega),rfl,jH (fun d' h=>by rwa [show m - (m - a)=a by omega,show m+(b - m)=b by omega] at h),jH (permIn_refl d _ _),HST.out⟩
 case round =>
  obtain ⟨i,j,dk,hi0,hj0,hi,hj,hgg,rfl,rfl,hsk,HR,HP,hin⟩:=hrel;rename World=>wr
  have HIN:=jH hin;have HSK:=jH hsk;clear hin hsk;have u1:(m:Int) - (i:Int)=((m - i:Nat):Int):=by omega
  by_cases hij:j<i
  · have qn:((i:Int) != (j:Int))=true:=by simp;omega
    have qn2:((i:Int) == (j:Int))=false:=by simp;omega
    have u2:(i:Int) - (j:Int)=((i - j:Nat):Int):=by omega
    go_wp2_with (go_at_call 310
                 refine (CS.out (m - i) m j dk wr HIN.out HSK.out (by omega) (by omega)).mono ?_;rintro e w1 ⟨rfl,d1,hs1,hsw,hp,hin1⟩;have HS1:=jH (show d1.size=d.size from hs1);have HSW:=jH hsw;have HP1:=jH (permIn_trans _ _ _ a b HP.out (permIn_mono dk d1 _ _ a b (by omega) (by omega) (by have:=HSK.out;omega) hp));have HIN1:=jH hin1;clear hs1 hsw hp hin1)
    go_roundg i
    case measure=>omega
    case rel=>exact ⟨i - j,j,d1,by omega,hj0,by omega,hj,by omega,by first|rfl|go_num,rfl,HS1.out,jH (fun d' h=>HR.out d' (Rot.left HSW.out (by omega) hij h)),HP1,HIN1.out⟩
  · by_cases hji:i<j
    · have qn:((i:Int) != (j:Int))=true:=by simp;omega
      have qn2:((i:Int) == (j:Int))=false:=by simp;omega
      have u2:(j:Int) - (i:Int)=((j - i:Nat):Int):=by omega
      have u3:(m:Int)+(j:Int) - (i:Int)=((m+j - i:Nat):Int):=by omega
      go_wp2_with (go_at_call 310
                   refine (CS.out (m - i) (m+j - i) i dk wr HIN.out HSK.out (by omega) (by omega)).mono ?_;rintro e w1 ⟨rfl,d1,hs1,hsw,hp,hin1⟩;have HS1:=jH (show d1.size=d.size from hs1);have HSW:=jH hsw;have HP1:=jH (permIn_trans _ _ _ a b HP.out (permIn_mono dk d1 _ _ a b (by omega) (by omega) (by have:=HSK.out;omega) hp));have HIN1:=jH hin1;clear hs1 hsw hp hin1)
      go_roundg j
      case measure=>omega
      case rel=>exact ⟨i,j - i,d1,hi0,by omega,hi,by omega,by omega,rfl,by first|rfl|go_num,HS1.out,jH (fun d' h=>HR.out d' (Rot.right HSW.out (by omega) hji h)),HP1,HIN1.out⟩
    · obtain rfl:i=j:=by omega
      have qn:((i:Int) != (i:Int))=false:=by simp
      go_wp2_with (go_at_call 310
                   refine (CS.out (m - i) m i dk wr HIN.out HSK.out (by omega) (by omega)).mono ?_;rintro e w1 ⟨rfl,d1,hs1,hsw,hp,hin1⟩;have HS1:=jH (show d1.size=d.size from hs1);have HSW:=jH hsw;have HP1:=jH (permIn_trans _ _ _ a b HP.out (permIn_mono dk d1 _ _ a b (by omega) (by omega) (by have:=HSK.out;omega) hp));have HIN1:=jH hin1;clear hs1 hsw hp hin1)
      go_end0
      refine ⟨rfl,d1,HS1.out,HR.out d1 ?_,HP1.out,HIN1.out⟩;have:=Rot.half (a:=m - i) (m:=m) (b:=m+i) (by rw [show m - (m - i)=i by omega];exact HSW.out) (by omega) (by omega) (by omega);exact this
end
end Go.Proofs.YtmniiodpbebnmaaGreat
