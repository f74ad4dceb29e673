/- Part 19 of the proof. -/
import Derived.Test.YtmniiodpbebnmaaGreatJ18
import Derived.Shelf.SlSortCmp.PdqK
namespace Go.Proofs.YtmniiodpbebnmaaGreat
set_option linter.unusedSimpArgs false
set_option linter.unusedVariables false
set_option linter.unusedSectionVars false
set_option maxRecDepth 100000
set_option maxHeartbeats 16000000
section
open Go.Shelf
def o1C:Go.Shelf.Ren:=⟨fun|20=>296|n=>n,fun|24=>246|22=>164|3=>3|25=>291|4=>4|0=>0|n=>n,fun|n=>n⟩
theorem insE:Go.Proofs.SlLaysF0.n20 Tryz.prog o1C:={
  mixed:=by kernel_rfl
  f20:=⟨Tryz.f296.name,by decide,Tryz.func296.trans (congrArg some (by kernel_rfl))⟩
  t0:=Tryz.underlying0
  a0:=Tryz.isAgg0
  z0:=Tryz.sizeOf0
  v0:=Tryz.zeroValue0
  t3:=Tryz.underlying3
  a3:=Tryz.isAgg3
  z3:=Tryz.sizeOf3
  v3:=Tryz.zeroValue3
  t4:=Tryz.underlying4
  a4:=Tryz.isAgg4
  z4:=Tryz.sizeOf4
  v4:=Tryz.zeroValue4
  t22:=Tryz.underlying164
  a22:=Tryz.isAgg164
  z22:=Tryz.sizeOf164
  v22:=Tryz.zeroValue164
  t25:=Tryz.underlying291
  a25:=Tryz.isAgg291
  z25:=Tryz.sizeOf291
  v25:=Tryz.zeroValue291 }
end
section
open Go.RowKit Go.Lib Go.Sort Go.Shelf
theorem n0T (w0:World) (g cap a b:Nat) (d0 d:Array Pl) (w:World) (hS:a0S w0 g d0 d w) (hab:a≤b) (hb:b≤d.size) (hsz:d.size≤1000000) (hr:u0F a b d) :
 Calls Tryz.prog 296 #[.slice (some ⟨g,0,none⟩) d.size cap,.int .i64 a,.int .i64 b,.func (.func 217) #[] #[]] w fun e w' =>
  e=.returned (.tuple #[])∧∃d',d'.size=d.size∧PermIn a b d d'∧Up (RZ ltE) a b d'∧a0S w0 g d0 d' w':=by
 have eg:∀args w,(callFunc 217 args).run Tryz.prog w=.ok (.enter 217 args) w:=enters_of Tryz.func217 (by kernel_rfl) rfl;have hcmp:CmpLays Tryz.prog 217 #[] plC 3 cfP g 0 d0.size w0:=fun m os dk _ x y=>l0B x.1 y.1 _
 refine (AnyQ.insertionSortCmpFunc_w insE 3 Tryz.isAgg246 Tryz.sizeOf246 plC cfP 217 #[] g 0 cap a b d0 d w0 w eg hcmp ⟨z0U,u1D,hS.h0,hS.hg⟩ hS.hs.symm hS.sw swoP hab hb (by omega)).mono ?_;rintro e w' ⟨rfl,hsw⟩;rw [m1U] at hsw;obtain ⟨hp,hu⟩:=m1L o1U hab hb hr;exact ⟨rfl,_,hp.1,hp,hu,⟨hS.hg,hS.h0,hp.1.trans hS.hs,hsw⟩⟩
theorem u0F.out {d d':Array Pl} {a b x y:Nat} (h:PermIn x y d d') (hr:u0F a b d) (ho:b≤x∨y≤a):u0F a b d':=fun i j p q r=>by
 rw [i0I h (show i<x∨y≤i by omega),i0I h (show j<x∨y≤j by omega)];exact hr i j p q r
theorem r0S {d0 d1 d2:Array Pl} {m n:Nat} (hmn:m≤n) (hd:d0.size=n) (hr:u0F 0 n d0) (h1:PermIn 0 m d0 d1) (h2:PermIn m n d1 d2):Crs (ltP ltE) (RZ ltE) 0 m n d2:=by
 refine crs_of fun i j p q r s=>?_
 rw [i0I h2 (Or.inl q)];have k1:∀j,m≤j→j<n→(d1[i]!).2≤(d1[j]!).2:=fun j r s=>by
  rw [i0I h1 (i:=j) (Or.inr r)];exact permIn_all d0 d1 0 m (fun x=>x.2≤(d0[j]!).2) (by omega) h1 (fun i p q=>Nat.le_of_lt (hr i j p (by omega) s)) i p q
 exact permIn_all d1 d2 m n (fun x=>(d1[i]!).2≤x.2) (by rw [j1J h1];omega) h2 (fun j r s=>k1 j r s) j r s
theorem o1J (w0:World) (g cap n:Nat) (d0:Array Pl) (w:World) (hS:a0S w0 g d0 d0 w) (hd:d0.size=n) (hn:n<20) (hr:u0F 0 n d0) :
 Calls Tryz.prog 260 #[.slice (some ⟨g,0,none⟩) n cap,.int .i64 n,.func (.func 217) #[] #[]] w fun e w'=>e=.returned (.tuple #[])∧∃d',d'.size=n∧PermIn 0 n d0 d'∧Up (RZ ltE) 0 n d'∧a0S w0 g d0 d' w':=by
 have CI:=jH (fun (a b:Nat) (dk:Array Pl) (W:World) (h:a0S w0 g d0 dk W) (h1:a≤b) (h2:b≤n) (h3:u0F a b dk)=>by
  have:=n0T w0 g cap a b d0 dk W h h1 (by rw [h.hs,hd];exact h2) (by rw [h.hs,hd];omega) h3
  rwa [show dk.size=n from h.hs.trans hd] at this)
 have CM:=jH (h0K w0 g cap d0 n (by omega));have HR:=jH hr;have HST:=jH hS;have HD:=jH hd;clear hr hS hd
 go_enter Tryz.func260,Tryz.ntmps260
 go_wp2_with fail
 refine wp_loop_rounds 1 ?_;rw [rounds_succ]
 go_wp2_with (first
  | (go_at_call 296
     refine (CI.out 0 n d0 w HST.out (by omega) (by omega) HR.out).mono ?_;rintro e w1 ⟨rfl,d1,hs,hp,hu,hin⟩;have HS1:=jH hs;have HP1:=jH hp;have HU1:=jH hu;have HI1:=jH hin;clear hs hp hu hin))
 refine wp_loop_rounds 1 ?_;rw [rounds_succ];go_wp2_with fail
 go_end0
 exact ⟨rfl,d1,HS1.out,HP1.out,HU1.out,HI1.out⟩
theorem o1R (w0:World) (g cap n:Nat) (d0:Array Pl) (w:World) (hS:a0S w0 g d0 d0 w) (hd:d0.size=n) (hn:n=20) (hr:u0F 0 n d0) :
 Calls Tryz.prog 260 #[.slice (some ⟨g,0,none⟩) n cap,.int .i64 n,.func (.func 217) #[] #[]] w fun e w'=>e=.returned (.tuple #[])∧∃d',d'.size=n∧PermIn 0 n d0 d'∧Up (RZ ltE) 0 n d'∧a0S w0 g d0 d' w':=by
 have CI:=jH (fun (a b:Nat) (dk:Array Pl) (W:World) (h:a0S w0 g d0 dk W) (h1:a≤b) (h2:b≤n) (h3:u0F a b dk)=>by
  have:=n0T w0 g cap a b d0 dk W h h1 (by rw [h.hs,hd];exact h2) (by rw [h.hs,hd];omega) h3
  rwa [show dk.size=n from h.hs.trans hd] at this)
 have CM:=jH (h0K w0 g cap d0 n (by omega));have HR:=jH hr;have HST:=jH hS;have HD:=jH hd;clear hr hS hd;subst hn
 go_enter Tryz.func260,Tryz.ntmps260
 go_wp2_with fail
 refine wp_loop_rounds 2 ?_;rw [rounds_succ]
 go_wp2_with (first
  | (go_at_call 296
     refine (CI.out 0 20 d0 w HST.out (by omega) (by omega) HR.out).mono ?_;rintro e w1 ⟨rfl,d1,hs,hp,hu,hin⟩;have HS1:=jH hs;have HP1:=jH hp;have HU1:=jH hu;have HI1:=jH hin;clear hs hp hu hin))
 rw [rounds_succ]
 go_wp2_with (first
  | (go_at_call 296
     refine (CI.out 20 20 d1 w1 HI1.out (by omega) (by omega) (fun i j p q r=>absurd r (by omega))).mono ?_;rintro e w2 ⟨rfl,d2,hs,hp,hu,hin⟩;have HS2:=jH hs;have HP2:=jH hp;have HU2:=jH hu;have HI2:=jH hin;clear hs hp hu hin))
 refine wp_loop_rounds 1 ?_;rw [rounds_succ];go_wp2_with fail
 go_end0
 exact ⟨rfl,d2,HS2.out,permIn_trans _ _ _ _ _ HP1.out (permIn_mono d1 d2 20 20 0 20 (by omega) (by omega) (by rw [HS1.out];omega) HP2.out),HU1.out.out HP2.out (Or.inl (Nat.le_refl _)),HI2.out⟩
theorem p1B (w0:World) (g cap n:Nat) (d0:Array Pl) (w:World) (hS:a0S w0 g d0 d0 w) (hd:d0.size=n) (hn:20<n) (hn2:n<40) (hr:u0F 0 n d0) :
 Calls Tryz.prog 260 #[.slice (some ⟨g,0,none⟩) n cap,.int .i64 n,.func (.func 217) #[] #[]] w fun e w'=>e=.returned (.tuple #[])∧∃d',d'.size=n∧PermIn 0 n d0 d'∧Up (RZ ltE) 0 n d'∧a0S w0 g d0 d' w':=by
 have CI:=jH (fun (a b:Nat) (dk:Array Pl) (W:World) (h:a0S w0 g d0 dk W) (h1:a≤b) (h2:b≤n) (h3:u0F a b dk)=>by
  have:=n0T w0 g cap a b d0 dk W h h1 (by rw [h.hs,hd];exact h2) (by rw [h.hs,hd];omega) h3
  rwa [show dk.size=n from h.hs.trans hd] at this)
 have CM:=jH (h0K w0 g cap d0 n (by omega));have HR:=jH hr;have HST:=jH hS;have HD:=jH hd;clear hr hS hd
 go_enter Tryz.func260,Tryz.ntmps260
 go_wp2_with fail
 refine wp_loop_rounds 2 ?_;rw [rounds_succ]
 go_wp2_with (first
  | (go_at_call 296
     refine (CI.out 0 20 d0 w HST.out (by omega) (by omega) (fun i j p q r=>HR.out i j p q (by omega))).mono ?_;rintro e w1 ⟨rfl,d1,hs,hp,hu,hin⟩;have HS1:=jH hs;have HP1:=jH hp;have HU1:=jH hu;have HI1:=jH hin;clear hs hp hu hin))
 rw [rounds_succ]
 go_wp2_with (first
  | (go_at_call 296
     refine (CI.out 20 n d1 w1 HI1.out (by omega) (by omega) (u0F.out HP1.out (fun i j p q r=>HR.out i j (by omega) q r) (Or.inr (Nat.le_refl _)))).mono ?_;rintro e w2 ⟨rfl,d2,hs,hp,hu,hin⟩;have HS2:=jH hs;have HP2:=jH hp;have HU2:=jH hu;have HI2:=jH hin;clear hs hp hu hin))
 have HV1:=jH (HU1.out.out HP2.out (Or.inl (Nat.le_refl _)));have HV2:=HU2;have HCR:=jH (r0S (by omega) HD.out HR.out HP1.out HP2.out);refine wp_loop_rounds 2 ?_;rw [rounds_succ];go_wp2_with fail
 refine wp_loop_rounds 1 ?_;rw [rounds_succ]
 go_wp2_with (first
  | (go_at_call 297
     refine (CM.out 1000 0 20 n d2 w2 (by omega) HI2.out HS2.out (by omega) (by omega) (by omega) HV1.out HV2.out HCR.out).mono ?_;rintro e w9 ⟨rfl,d9,hs,hp,hu,hin⟩;have HS9:=jH hs;have HP9:=jH hp;have HU9:=jH hu;have HI9:=jH hin;clear hs hp hu hin))
 rw [rounds_succ];go_wp2_with fail
 go_end0
 exact ⟨rfl,d9,HS9.out,permIn_trans _ _ _ _ _ (permIn_trans _ _ _ _ _ (permIn_mono d0 d1 0 20 0 n (by omega) (by omega) (by have:=HD.out;omega) HP1.out) (permIn_mono d1 d2 20 n 0 n (by omega) (by omega) (by have:=HS1.out;omega) HP2.out)) HP9.out,HU9.out,HI9.out⟩
theorem n1X (w0:World) (g cap n:Nat) (d0:Array Pl) (w:World) (hS:a0S w0 g d0 d0 w) (hd:d0.size=n) (hn:n=40) (hr:u0F 0 n d0) :
 Calls Tryz.prog 260 #[.slice (some ⟨g,0,none⟩) n cap,.int .i64 n,.func (.func 217) #[] #[]] w fun e w'=>e=.returned (.tuple #[])∧∃d',d'.size=n∧PermIn 0 n d0 d'∧Up (RZ ltE) 0 n d'∧a0S w0 g d0 d' w':=by
 have CI:=jH (fun (a b:Nat) (dk:Array Pl) (W:World) (h:a0S w0 g d0 dk W) (h1:a≤b) (h2:b≤n) (h3:u0F a b dk)=>by
  have:=n0T w0 g cap a b d0 dk W h h1 (by rw [h.hs,hd];exact h2) (by rw [h.hs,hd];omega) h3
  rwa [show dk.size=n from h.hs.trans hd] at this)
 have CM:=jH (h0K w0 g cap d0 n (by omega));have HR:=jH hr;have HST:=jH hS;have HD:=jH hd;clear hr hS hd;subst hn
 go_enter Tryz.func260,Tryz.ntmps260
 go_wp2_with fail
 refine wp_loop_rounds 3 ?_;rw [rounds_succ]
 go_wp2_with (first
  | (go_at_call 296
     refine (CI.out 0 20 d0 w HST.out (by omega) (by omega) (fun i j p q r=>HR.out i j p q (by omega))).mono ?_;rintro e w1 ⟨rfl,d1,hs,hp,hu,hin⟩;have HS1:=jH hs;have HP1:=jH hp;have HU1:=jH hu;have HI1:=jH hin;clear hs hp hu hin))
 rw [rounds_succ]
 go_wp2_with (first
  | (go_at_call 296
     refine (CI.out 20 40 d1 w1 HI1.out (by omega) (by omega) (u0F.out HP1.out (fun i j p q r=>HR.out i j (by omega) q r) (Or.inr (Nat.le_refl _)))).mono ?_;rintro e w2 ⟨rfl,d2,hs,hp,hu,hin⟩;have HS2:=jH hs;have HP2:=jH hp;have HU2:=jH hu;have HI2:=jH hin;clear hs hp hu hin))
 rw [rounds_succ]
 go_wp2_with (first
  | (go_at_call 296
     refine (CI.out 40 40 d2 w2 HI2.out (by omega) (by omega) (fun i j p q r=>absurd r (by omega))).mono ?_;rintro e w3 ⟨rfl,d3,hs,hp,hu,hin⟩;have HS3:=jH hs;have HP3:=jH hp;have HU3:=jH hu;have HI3:=jH hin;clear hs hp hu hin))
 have HV1:=jH ((HU1.out.out HP2.out (Or.inl (Nat.le_refl _))).out HP3.out (Or.inl (by omega)));have HV2:=jH (HU2.out.out HP3.out (Or.inl (Nat.le_refl _)));have HCR:=jH ((r0S (by omega) HD.out HR.out HP1.out HP2.out).out HP3.out (Or.inl (Nat.le_refl _)) ⟨by omega,by omega⟩);refine wp_loop_rounds 2 ?_;rw [rounds_succ];go_wp2_with fail
 refine wp_loop_rounds 2 ?_;rw [rounds_succ]
 go_wp2_with (first
  | (go_at_call 297
     refine (CM.out 1000 0 20 40 d3 w3 (by omega) HI3.out HS3.out (by omega) (by omega) (by omega) HV1.out HV2.out HCR.out).mono ?_;rintro e w9 ⟨rfl,d9,hs,hp,hu,hin⟩;have HS9:=jH hs;have HP9:=jH hp;have HU9:=jH hu;have HI9:=jH hin;clear hs hp hu hin))
 rw [rounds_succ];go_wp2_with fail
 rw [rounds_succ];go_wp2_with fail
 go_end0
 exact ⟨rfl,d9,HS9.out,permIn_trans _ _ _ _ _ (permIn_trans _ _ _ _ _ (permIn_trans _ _ _ _ _ (permIn_mono d0 d1 0 20 0 40 (by omega) (by omega) (by have:=HD.out;omega) HP1.out) (permIn_mono d1 d2 20 40 0 40 (by omega) (by omega) (by have:=HS1.out;omega) HP2.out)) (permIn_mono d2 d3 40 40 0 40 (by omega) (by omega) (by have:=HS2.out;omega) HP3.out)) HP9.out,HU9.out,HI9.out⟩
theorem f1H (w0:World) (g cap n:Nat) (d0:Array Pl) (w:World) (hS:a0S w0 g d0 d0 w) (hd:d0.size=n) (hn:n≤40) (hr:u0F 0 n d0) :
 Calls Tryz.prog 260 #[.slice (some ⟨g,0,none⟩) n cap,.int .i64 n,.func (.func 217) #[] #[]] w fun e w'=>e=.returned (.tuple #[])∧∃d',d'.size=n∧PermIn 0 n d0 d'∧Up (RZ ltE) 0 n d'∧a0S w0 g d0 d' w':=by
 rcases Nat.lt_or_ge n 20 with h|h
 · exact o1J w0 g cap n d0 w hS hd h hr
 · rcases Nat.lt_or_ge 20 n with h2|h2
   · rcases Nat.lt_or_ge n 40 with h3|h3
     · exact p1B w0 g cap n d0 w hS hd h2 h3 hr
     · exact n1X w0 g cap n d0 w hS hd (by omega) hr
   · exact o1R w0 g cap n d0 w hS hd (by omega) hr
def e0B (l:List En):List En:=l.mergeSort (leS ltE)
theorem h0N (l:List En):(e0B l).length=l.length:=by simp [e0B]
theorem c1J (d:Array Pl):flatK plC 3 d=flatK enC 3 (d.map (·.1)):=by
 unfold flatK;rw [Array.size_map]
 apply Array.ext
 · simp
 · intro i h1 h2
   simp only [Array.getElem_map,Array.getElem_range]
   have hi:i / 3<d.size:=by simp at h1;omega
   have:(d.map (·.1))[i / 3]! = (d[i / 3]!).1:=by
    rw [getElem!_pos (d.map (·.1)) (i / 3) (by simpa using hi),getElem!_pos d (i / 3) hi,Array.getElem_map]
   rw [this];rfl
theorem s1G (l:List En):(w0A l).map (·.1)=l.toArray:=by
 unfold w0A;rw [List.map_toArray];simp
theorem j1Y {w:World} {g:Nat} {l:List En} (h:HoldsK enC 3 w g 0 l.toArray):HoldsK plC 3 w g 0 (w0A l):=by
 unfold HoldsK at *;rw [c1J,s1G];exact h
theorem z0N (w:World):Calls Tryz.prog 260 #[.slice none 0 0,.int .i64 0,.func (.func 217) #[] #[]] w fun e w'=>e=.returned (.tuple #[])∧w=w':=by
 have CI:=jH (fun W=>AnyF.insertionSortCmpFunc_none insE none 0 (.func (.func 217) #[] #[]) W)
 go_enter Tryz.func260,Tryz.ntmps260
 go_wp2_with fail
 refine wp_loop_rounds 1 ?_;rw [rounds_succ]
 go_wp2_with (first
  | (go_at_call 296
     refine (CI.out _).mono ?_;rintro e w1 ⟨rfl,rfl⟩))
 refine wp_loop_rounds 1 ?_;rw [rounds_succ];go_wp2_with fail
 go_end0
 exact ⟨rfl,rfl⟩
theorem l1N {base:Nat} (v:Value) (l:List En) (w:World) (h:b0Q enC 246 3 base w v l) (hl:l.length≤40) :
 Calls Tryz.prog 216 #[v,.func (.func 217) #[] #[]] w fun e w' =>
  e=.returned (.tuple #[])∧w'.ownsRow base 246 3 v l.length (a0G enC (e0B l))∧w.grownBy w' v.ownBlock:=by
 rcases Go.Joins.ownsRow_forms h with ⟨rfl,h0⟩|⟨g,cap,rfl⟩
 · obtain rfl:l=[]:=List.eq_nil_of_length_eq_zero h0
   have CN:=jH (z0N w);have H:=jH h;clear h
   go_enter Tryz.func216,Tryz.ntmps216
   go_wp2_with (first
    | (go_at_call 260
       refine CN.out.mono ?_;rintro e w1 ⟨rfl,rfl⟩))
   go_end0
   exact ⟨rfl,by rw [show e0B []=[] from List.eq_nil_of_length_eq_zero (h0N [])];exact H.out,⟨rfl,rfl,rfl,Nat.le_refl _,fun _ _ _=>rfl⟩⟩
 · have hH:=j1Y (r0D (f:=enC) (n:=3) eEn.len (by decide) h)
   have hg:=(b0Q.lt h (r:=g) rfl).2;have hin:a0S w g (w0A l) (w0A l) w:=⟨hg,hH,rfl,SWK.start hH⟩;have CS:=jH (f1H w g cap l.length (w0A l) w hin (p0V l) hl (j1E l 0 l.length (Nat.le_refl _)));have H:=jH h;have q0:(l.length:Int)≤40:=by omega
   clear h hH hg hin
   go_enter Tryz.func216,Tryz.ntmps216
   go_wp2_with (first
    | (go_at_call 260
       refine CS.out.mono ?_;rintro e w1 ⟨rfl,d1,hs,hp,hu,hin⟩;have HX:=jH (show PermIn 0 l.length (w0A l) d1∧Up (RZ ltE) 0 l.length d1∧a0S w g (w0A l) d1 w1 from ⟨hp,hu,hin⟩);clear hs hp hu hin))
   go_end0
   obtain ⟨hp,hu,hin⟩:=HX.out;have hl2:d1.toList.map (·.1)=e0B l:=g1N o1U l d1 hp hu;obtain ⟨m,os,rfl⟩:=hin.sw;have e1:sortWorldK plC 3 w g 0 m d1 os=grow (putRowK enC 3 (Sort.ahead w m) g 0 (e0B l).toArray) os:=by
    unfold sortWorldK putRowK;rw [c1J,←hl2]
    congr 3
    rw [←List.map_toArray]
   rw [e1];have k:=p0I (f:=enC) (n:=3) (m:=e0B l) (k:=m) eEn.len (by decide) H.out (h0N l) os;rw [h0N] at k;exact ⟨rfl,k.1,k.2⟩
def r1I (w:World) (l:List En) (e:Ending) (w':World):Prop:=∃A c,e=.returned (.slice A l.length c)∧b0Q enC 246 3 w.heap.size w' (.slice A l.length c) l∧jB w w'
theorem e1D (v:Value) (l:List En) (w:World) (hv:a0O 3 enC w v l) (hl:l.length≤1000000) :
 Calls Tryz.prog 215 #[v] w (r1I w l):=by
 obtain ⟨A,c,rfl⟩:=hv.form
 cases A with
 | none =>
   have h0:l.length=0:=by
    obtain ⟨A1,c1,e1,_,hr⟩:=hv;injection e1 with e1 _ _
    rcases Nat.eq_zero_or_pos l.length with h|h
    · exact h
    · obtain ⟨_,_,hA,_⟩:=hr h;rw [hA] at e1;cases e1
   obtain rfl:l=[]:=List.eq_nil_of_length_eq_zero h0;have hq:∀W,(binOp .eql 164 (.slice none 0 c) (.slice none 0 0)).run Tryz.prog W=.ok (.bool true) W:=fun W=>Lib.run_eql_slice_nil W _ _ none 0 c 0 0 eEn.ht
   clear hv h0
   go_enter Tryz.func215,Tryz.ntmps215
   go_wp2
   go_ret
   exact ⟨none,0,rfl,b0Q.nil _ _,jR⟩
 | some ad =>
   have HV:=jH hv;have hq:∀W,(binOp .eql 164 (.slice (some ad) l.length c) (.slice none 0 0)).run Tryz.prog W=.ok (.bool false) W:=fun W=>Lib.run_eql_slice_nil W _ _ (some ad) l.length c 0 0 eEn.ht
   clear hv
   go_enter Tryz.func215,Tryz.ntmps215
   go_wp2_with (at_builtin;refine a0N eEn (by rfl) (s:=.tmp 5) (x:=.tmp 6) (by rfl) w.heap.size [] l _ _ (by rfl) (by rfl) (b0Q.lit0 _ w _ _ rfl (Nat.le_refl _)) (HV.out.below (a0C jR _)) (by simp;omega) (by simp) ?_;intro out A2 c2 w2 hout hown hg _;have HOUT:=jH hout;have HO:=jH hown;have HG:=jH hg;clear hout hown hg)
   go_ret
   have e1:out=l:=by rw [HOUT.out];rfl
   subst e1;exact ⟨A2,c2,rfl,HO.out,(a0C jR _).trans (c0H HG.out (by simp) (fun r hr=>by have hr':some w.heap.size=some r:=hr;injection hr';omega))⟩
theorem k1R (v:Value) (l:List En) (w:World) (hv:a0O 3 enC w v l) (hl:l.length≤40) :
 Calls Tryz.prog 163 #[v] w (r1I w (e0B l)):=by
 have CC:=jH (e1D v l w hv (by omega));have CS:=jH (fun (v:Value) (W:World) (h:b0Q enC 246 3 w.heap.size W v l)=>l1N v l W h hl);clear hv
 go_enter Tryz.func163,Tryz.ntmps163
 go_wp2_with (first
  | (go_at_call 215
     refine CC.out.mono ?_;rintro e w1 ⟨A,c,rfl,hown,hb⟩;have HO:=jH hown;have HB:=jH hb;clear hown hb)
  | (go_at_call 216
     refine (CS.out _ w1 HO.out).mono ?_;rintro e w2 ⟨rfl,hown,hg⟩;have HO2:=jH hown;have HG:=jH hg;clear hown hg))
 go_ret
 have ho:=HO2.out;refine ⟨A,c,by rw [h0N];rfl,?_,HB.out.trans (c0H HG.out HB.out.size (fun r hr=>(HO.out.lt hr).1))⟩;unfold b0Q;rw [h0N];exact ho
end
section
open Go.RowKit Go.Lib Go.Sort

def q1G (l:List En) (k:Ky):Nat:=(l.takeWhile fun x=>ltK x.1 k).length
def d0L (l:List En) (k:Ky):Option Nat:=(l.find? fun x=>decide (x.1=k)).map (·.2)
def Ris (l:List En):Prop:=∀i j (h1:i<l.length) (h2:j<l.length),i<j→ltK l[j].1 l[i].1=false
theorem n1V (l:List En):Ris (e0B l):=by
 intro i j h1 h2 hij;have hp:(e0B l).Pairwise (fun x y=>leS ltE x y=true):=List.pairwise_mergeSort (o0Q o1U) (p0X o1U) l;have:=List.pairwise_iff_getElem.1 hp i j h1 h2 hij
 simpa [leS,ltE] using this
theorem y0J (k:Ky):∀(l:List En) (i:Nat),i≤l.length→(∀t (h:t<l.length),t<i→ltK l[t].1 k=true)→(∀h:i<l.length,ltK l[i].1 k=false)→q1G l k=i
  | [],i,h,_,_=>by simp at h;simp [q1G,h]
  | x::l,0,_,_,h=>by
    have:=h (by simp);simp at this
    simp [q1G,this]
  | x::l,i+1,hi,h1,h2=>by
    have hx:=h1 0 (by simp) (by omega);simp at hx
    have ih:=y0J k l i (by simpa using hi) (fun t ht hti=>by have:=h1 (t+1) (by simpa using ht) (by omega);simpa using this) (fun h=>by have:=h2 (by simpa using h);simpa using this);unfold q1G at ih ⊢;rw [List.takeWhile_cons,if_pos hx,List.length_cons,ih]
theorem r1N (k:Ky):∀l:List En,∃i,i≤l.length∧(∀t (h:t<l.length),t<i→ltK l[t].1 k=true)∧(∀h:i<l.length,ltK l[i].1 k=false)
  | []=>⟨0,Nat.le_refl _,fun t h=>absurd h (by simp),fun h=>absurd h (by simp)⟩
  | x::l=>by
    cases hx:ltK x.1 k with
    | false=>exact ⟨0,Nat.zero_le _,fun t _ h=>absurd h (by omega),fun _=>hx⟩
    | true =>
      obtain ⟨i,h1,h2,h3⟩:=r1N k l;refine ⟨i+1,by simpa using h1,fun t ht hti=>?_,fun h=>?_⟩
      · cases t with
        | zero=>exact hx
        | succ t=>simpa using h2 t (by simpa using ht) (by omega)
      · simpa using h3 (by simpa using h)
theorem p0T (k:Ky):∀(l:List En) (i:Nat),Ris l→i≤l.length→(∀t (h:t<l.length),t<i→ltK l[t].1 k=true)→(∀h:i<l.length,ltK l[i].1 k=false) →
    d0L l k=if h:i<l.length then (if l[i].1=k then some l[i].2 else none) else none
  | [],i,_,h,_,_=>by simp [d0L]
  | x::l,0,hr,_,_,h=>by
    have h0:=h (by simp);simp at h0
    by_cases e:x.1=k
    · simp [d0L,e]
    · have hk:∀y∈l,y.1≠k:=by
       intro y hy e2;obtain ⟨j,hj,rfl⟩:=List.getElem_of_mem hy;have:=hr 0 (j+1) (by simp) (by simpa using hj) (by omega);simp at this
       rw [e2] at this;exact e (e0D h0 this)
      have hn:l.find? (fun x=>decide (x.1=k))=none:=by
       rw [List.find?_eq_none];intro y hy
       simpa using hk y hy
      simp [d0L,e,hn]
  | x::l,i+1,hr,hi,h1,h2=>by
    have hx:=h1 0 (by simp) (by omega);simp at hx
    have e:¬x.1=k:=by intro e;rw [e,c0Q] at hx;cases hx
    have ih:=p0T k l i (fun a b ha hb hab=>by have:=hr (a+1) (b+1) (by simpa using ha) (by simpa using hb) (by omega);simpa using this) (by simpa using hi) (fun t ht hti=>by have:=h1 (t+1) (by simpa using ht) (by omega);simpa using this) (fun h=>by have:=h2 (by simpa using h);simpa using this);have:d0L (x::l) k=d0L l k:=by simp [d0L,e]
    rw [this,ih];simp
theorem z0P (x:En) (k:Ky) (W:World):Calls Tryz.prog 171 #[.agg #[.int .u64 x.1.1,.int .u64 x.1.2,.pointer (some ⟨x.2,0,none⟩)],.agg #[.int .u64 k.1,.int .u64 k.2]] W fun e w'=>e=.returned (.int .i64 (i0M x.1.1 x.1.2 k.1 k.2))∧∃q os',w'=grow (W.drewN q) os':=by
 have HC:=jH (fun W=>t0K x.1 k W)
 go_enter Tryz.func171,Tryz.ntmps171
 go_wp2_with (first
  | (go_at_call 168
     refine (HC.out _).mono ?_;rintro e w1 ⟨rfl,q,os,rfl⟩))
 go_ret
 exact ⟨rfl,q,#[_]++(#[_]++os),by rw [←grow_grow,←grow_grow,←alloc_eq_grow,←alloc_eq_grow];rfl⟩
theorem x0F (x k:Ky):i0M x.1 x.2 k.1 k.2=0 ↔ x=k:=by
 obtain ⟨a,b⟩:=x;obtain ⟨c,d⟩:=k;unfold i0M
 constructor
 · intro h
   split at h
   · rename_i e;simpa using e
   · split at h <;> simp at h
 · intro h
   simp only [Prod.mk.injEq] at h
   rw [if_pos (by simpa using h)]
theorem t1F (x k:Ky):i0M x.1 x.2 k.1 k.2<0 ↔ ltK x k=true:=by
 have h:=congrFun (congrFun j0I x) k;rw [←h];exact (decide_eq_true_iff ..).symm
theorem r1H {B:Nat} {w0 w:World} (h:Below B w0 w) (hB:B≤w.heap.size) (os:Array Obj):Below B w0 (grow w os) :=
 ⟨h.os,h.tape,h.output,Nat.le_trans h.size (by rw [size_grow];omega),fun k hk=>(Sort.heap_grow_old w os (by omega)).trans (h.block k hk)⟩
theorem g0J {w wr:World} {b o:Nat} {v:Value} (hb:jB w wr) (hl:b<w.heap.size) (h:w.cell? ⟨b,o,none⟩=some v) (n:Nat) (os:Array Obj):(grow (wr.drewN n) os).cell? ⟨b,o,none⟩=some v :=
 ((t1N (r1H (a0F hb n) (a0F hb n).size os)).1 b o hl).trans h
theorem m0B {w wr:World} (hb:jB w wr) (n:Nat) (os:Array Obj):jB w (grow (wr.drewN n) os):=r1H (a0F hb n) (a0F hb n).size os
theorem y0U (k:Ky) (A:Option Addr) (c:Nat) (l:List En) (w:World) (hv:a0O 3 enC w (.slice A l.length c) l) (hr:Ris l) (hl:l.length≤1000) :
 Calls Tryz.prog 170 #[.slice A l.length c,.agg #[.int .u64 k.1,.int .u64 k.2],.func (.func 171) #[] #[]] w (jP w (.tuple #[.int .i64 (q1G l k:Nat),.bool (d0L l k).isSome])):=by
 have HV:=jH hv;have HR:=jH hr;have HGC:=jH (fun (x:En) W=>z0P x k W);have mixed:Tryz.prog.follows .mixedOrders=true:=by kernel_rfl
 clear hv hr
 go_enter Tryz.func170,Tryz.ntmps170
 go_wp2_with fail
 go_loopg [9,10] l.length (fun g s9 s10 wr=>∃i j:Nat,i≤j∧j≤l.length∧j - i≤g∧s9=.int .i64 i∧s10=.int .i64 j∧Hid (∀t (h:t<l.length),t<i→ltK l[t].1 k=true)∧Hid (∀t (h:t<l.length),j≤t→ltK l[t].1 k=false)∧wr.heap[w.heap.size]?=some (.cells #[.int .u64 k.1,.int .u64 k.2] 74 (0,0))∧jB w wr)
 case atStart=>exact ⟨0,l.length,Nat.zero_le _,Nat.le_refl _,Nat.le_refl _,rfl,rfl,jH (fun t h h2=>absurd h2 (by omega)),jH (fun t h h2=>absurd h2 (by omega)),heap_alloc_new _ _,a0C jR _⟩
 case round =>
  obtain ⟨i,j,hij,hj,hg,rfl,rfl,H1,H2,hx,hbw⟩:=hrel;rename World=>wr
  have HX:=jH hx;have HBr:=jH hbw;have hwz:=(jL hx);have HBX:=jH (fun n os=>(show (grow (wr.drewN n) os).heap[w.heap.size]?=some (.cells #[.int .u64 k.1,.int .u64 k.2] 74 (0,0)) from ((m0B (Below.refl wr.heap.size wr) n os).block _ hwz).trans HX.out));have e1:=fun n os=>((a0A jR (HBX.out n os)).1 0)
  have e2:=fun n os=>((a0A jR (HBX.out n os)).1 1)
  clear hx hbw hwz
  by_cases hlt:i<j
  · obtain ⟨h,hh⟩:∃h,h=(i+j) / 2:=⟨_,rfl⟩
    have um:((i:Int)+(j:Int)) / 2=(h:Int):=by omega
    have b1':i≤h:=by omega
    have b2':h<j:=by omega
    have hhl:h<l.length:=by omega
    have z1:(0:Int)≤(h:Int):=by omega
    have z2:(h:Int)<(l.length:Int):=by omega
    clear hh;obtain ⟨b1,o1,rfl,hb1,hc⟩:=HV.out.at_ hhl;have d0:=g0J HBr.out hb1 (hc 0 _ rfl);have d1:=g0J HBr.out hb1 (hc 1 _ rfl);have d2:=g0J HBr.out hb1 (hc 2 _ rfl);rw [Nat.add_zero] at d0;obtain ⟨cv,hcv⟩:∃cv,i0M l[h].1.1 l[h].1.2 k.1 k.2=cv:=⟨_,rfl⟩;have HG:=jH (show ∀n' os',Calls Tryz.prog 171 #[.agg #[.int .u64 l[h].1.1,.int .u64 l[h].1.2,.pointer (some ⟨l[h].2,0,none⟩)],.agg #[.int .u64 k.1,.int .u64 k.2]] (grow (wr.drewN n') os') fun e w'=>e=.returned (.int .i64 cv)∧∃q os'',w'=grow ((grow (wr.drewN n') os').drewN q) os'' from fun n' os'=>by rw [←hcv];exact HGC.out l[h] _)
    have HLT:=jH (show cv<0 ↔ ltK l[h].1 k=true by rw [←hcv];exact t1F _ _);have HRH:=jH (fun t (ht:t<l.length) (hth:t≤h)=>(show ltK l[h].1 k=true→ltK l[t].1 k=true from fun q=>by
     by_cases e:t=h
     · subst e;exact q
     · have r:=HR.out t h ht hhl (by omega)
       cases q2:ltK l[t].1 k with
       | true=>rfl
       | false =>
         cases q3:ltK k l[t].1 with
         | true=>rw [d0T q q3] at r;cases r
         | false=>rw [e0D q2 q3] at r;rw [r] at q;cases q))
    have HRG:=jH (fun t (ht:t<l.length) (hth:h≤t)=>(show ltK l[h].1 k=false→ltK l[t].1 k=false from fun q=>by
     by_cases e:t=h
     · subst e;exact q
     · have r:=HR.out h t hhl ht (by omega)
       cases q2:ltK l[t].1 k with
       | false=>rfl
       | true =>
         cases q3:ltK k l[h].1 with
         | true=>rw [d0T q2 q3] at r;cases r
         | false=>rw [e0D q q3] at r;rw [r] at q2;cases q2))
    clear hc hcv hb1;generalize l[h]=x at d0 d1 d2 HG HLT HRH HRG
    by_cases hlv:cv<0
    · have hld:decide (cv<0)=true:=decide_eq_true hlv
      go_wp2_with fail
      go_quiet_grown (first|(go_at_call 171;refine Calls.grown_of (HG.out _ _)))
      go_wp2_with fail
      go_roundg (j - (h+1))
      case measure=>omega
      case rel=>exact ⟨h+1,j,by omega,hj,Nat.le_refl _,by go_num,rfl,jH (fun t ht hti=>HRH.out t ht (by omega) (HLT.out.1 hlv)),H2,HBX.out _ _,m0B HBr.out _ _⟩
    · have hld:decide (cv<0)=false:=decide_eq_false hlv
      go_wp2_with fail
      go_quiet_grown (first|(go_at_call 171;refine Calls.grown_of (HG.out _ _)))
      go_wp2_with fail
      go_roundg (h - i)
      case measure=>omega
      case rel=>exact ⟨i,h,by omega,by omega,Nat.le_refl _,rfl,rfl,H1,jH (fun t ht hti=>HRG.out t ht hti (Bool.eq_false_iff.2 (fun q=>absurd (HLT.out.2 q) (by omega)))),HBX.out _ _,m0B HBr.out _ _⟩
  · obtain rfl:i=j:=by omega
    have HLW:=jH (y0J k l i hj H1.out (fun h=>H2.out i h (Nat.le_refl _)));have HFE:=jH (p0T k l i HR.out hj H1.out (fun h=>H2.out i h (Nat.le_refl _)))
    by_cases hil:i<l.length
    · have z1:(0:Int)≤(i:Int):=by omega
      have z2:(i:Int)<(l.length:Int):=by omega
      obtain ⟨b1,o1,rfl,hb1,hc⟩:=HV.out.at_ hil;have d0:=g0J HBr.out hb1 (hc 0 _ rfl);have d1:=g0J HBr.out hb1 (hc 1 _ rfl);have d2:=g0J HBr.out hb1 (hc 2 _ rfl);rw [Nat.add_zero] at d0;obtain ⟨cv,hcv⟩:∃cv,i0M l[i].1.1 l[i].1.2 k.1 k.2=cv:=⟨_,rfl⟩;have HG:=jH (show ∀n' os',Calls Tryz.prog 171 #[.agg #[.int .u64 l[i].1.1,.int .u64 l[i].1.2,.pointer (some ⟨l[i].2,0,none⟩)],.agg #[.int .u64 k.1,.int .u64 k.2]] (grow (wr.drewN n') os') fun e w'=>e=.returned (.int .i64 cv)∧∃q os'',w'=grow ((grow (wr.drewN n') os').drewN q) os'' from fun n' os'=>by rw [←hcv];exact HGC.out l[i] _)
      have HF2:=jH (show (d0L l k).isSome=decide (cv=0) by
       rw [HFE.out,dif_pos hil,←hcv]
       by_cases e:l[i].1=k
       · rw [if_pos e,(x0F _ _).2 e];rfl
       · rw [if_neg e]
         symm
         rw [Option.isSome_none];exact decide_eq_false (fun q=>e ((x0F _ _).1 q)))
      clear hc hcv hb1;generalize l[i]=x at d0 d1 d2 HG
      by_cases hc0:cv=0
      · subst hc0
        go_wp2_with fail
        go_quiet_grown (first|(go_at_call 171;refine Calls.grown_of (HG.out _ _)))
        go_wp2_with fail
        go_ret2
        exact ⟨by rw [HLW.out,HF2.out];rfl,m0B HBr.out _ _⟩
      · have hq:(cv == 0)=false:=by simpa using hc0
        have hq2:decide (cv=0)=false:=decide_eq_false hc0;go_wp2_with fail
        go_quiet_grown (first|(go_at_call 171;refine Calls.grown_of (HG.out _ _)))
        go_wp2_with fail
        go_ret2
        exact ⟨by rw [HLW.out,HF2.out,decide_eq_false hc0];rfl,m0B HBr.out _ _⟩
    · obtain rfl:i=l.length:=by omega
      have hq:decide ((l.length:Int)<(l.length:Int))=false:=decide_eq_false (by omega);go_wp2_with fail
      go_quiet_grown (fail)
      go_wp2_with fail
      go_ret2
      exact ⟨by rw [HLW.out,HFE.out,dif_neg hil];rfl,m0B HBr.out _ _⟩
def z0E (w:World) (C:Nat) (ep:Int) (l:List En):Prop:=∃A c,w.heap[C]?=some (.cells #[.int .i64 ep,.slice A l.length c] 167 (0,0))∧a0O 3 enC w (.slice A l.length c) l
theorem z0E.below {w w':World} {C:Nat} {ep:Int} {l:List En} (h:z0E w C ep l) (hb:jB w w'):z0E w' C ep l:=by
 obtain ⟨A,c,h1,h2⟩:=h;exact ⟨A,c,jK hb h1,h2.below hb⟩
def ptr (o:Option Nat):Value:=.pointer (o.map fun n=>⟨n,0,none⟩)
theorem e1X (C:Nat) (ep:Int) (l:List En) (k:Ky) (w:World) (h:z0E w C ep l) (hr:Ris l) (hl:l.length≤1000) :
 Calls Tryz.prog 100 #[.pointer (some ⟨C,0,none⟩),.agg #[.int .u64 k.1,.int .u64 k.2]] w (jP w (.tuple #[ptr (d0L l k),.bool (d0L l k).isSome])):=by
 obtain ⟨A,c,h1,h2⟩:=h;have CB:=jH (show ∀W,jB w W→Calls Tryz.prog 170 #[.slice A l.length c,.agg #[.int .u64 k.1,.int .u64 k.2],.func (.func 171) #[] #[]] W (jP W (.tuple #[.int .i64 (q1G l k:Nat),.bool (d0L l k).isSome])) from fun W hW=>y0U k A c l W (h2.below hW) hr hl);have HX:=jH h1;have HRW:=jH h2;have HLO:=jH (show (d0L l k=none∨∃(h:q1G l k<l.length),d0L l k=some l[q1G l k].2) by
  obtain ⟨i,hi,e1,e2⟩:=r1N k l;have hlow:=y0J k l i hi e1 e2;rw [p0T k l i hr hi e1 e2,hlow]
  by_cases hil:i<l.length
  · rw [dif_pos hil]
    by_cases e:l[i].1=k
    · exact Or.inr ⟨hil,by rw [if_pos e]⟩
    · exact Or.inl (by rw [if_neg e])
  · exact Or.inl (by rw [dif_neg hil]))
 have q0:(l.length:Int)≤1000:=by omega
 clear h1 h2 hr
 go_enter Tryz.func100,Tryz.ntmps100
 go_upto_region 3 with fail
 refine a0I ?_;intro W hW;have HBW:=jH (show jB w W by rw [hW];exact a0C jR _);have HXC:=jH (show W.heap[C]?=some (.cells #[.int .i64 ep,.slice A l.length c] 167 (0,0)) by rw [hW];exact (Below.heap_alloc _ _ _ (jL HX.out)).trans HX.out);have HXK:=jH (show W.heap[w.heap.size]?=some (.cells #[.int .u64 k.1,.int .u64 k.2] 74 (0,0)) by rw [hW];exact heap_alloc_new _ _);have HBr:=jH (Below.refl W.heap.size W)
 clear hW;refine wp_region_held_drew (S:=(fun U:World=>jB W U)) (by kernel_rfl) ?hS1 (fun hHeld=>?_)
 case hS1=>first|with_reducible exact HBr.out|exact HBr.out.drew|with_reducible exact HB5.out
 refine wpAnyH_take (i:=0) (v:=?v2) rfl (by kernel_rfl) (by kernel_rfl) (by kernel_rfl) (fun _ _ _ h=>h) (Or.inl ⟨by rfl,?hy2⟩) (by assumption) ?_
 case hy2 =>
  intro w' hSw
  (try dsimp only at hSw)
  go_simp
  try (with_reducible rfl)
 try simp only [Act.put,jA]
 refine wpAnyH_take (i:=1) (v:=?v3) rfl (by kernel_rfl) (by kernel_rfl) (by kernel_rfl) (fun _ _ _ h=>h) (Or.inl ⟨by rfl,?hy3⟩) (by assumption) ?_
 case hy3 =>
  intro w' hSw
  (try dsimp only at hSw)
  go_simp
  try (with_reducible rfl)
 try simp only [Act.put,jA]
 refine wpAnyH_take (i:=2) (v:=?v4) rfl (by kernel_rfl) (by kernel_rfl) (by kernel_rfl) (fun _ _ _ h=>h) (Or.inl ⟨by rfl,?hy4⟩) (by assumption) ?_
 case hy4 =>
  intro w' hSw
  (try dsimp only at hSw)
  go_simp
  try (with_reducible rfl)
 try simp only [Act.put,jA]
 refine wpAnyH_take (i:=3) (v:=?v5) rfl (by kernel_rfl) (by kernel_rfl) (by kernel_rfl) (fun _ _ _ h=>h) (Or.inl ⟨by rfl,?hy5⟩) (by assumption) ?_
 case hy5 =>
  intro w' hSw
  (try dsimp only at hSw)
  have q1:=(a0A hSw HXC.out).1;go_simp
  try (with_reducible rfl)
 try simp only [Act.put,jA]
 refine wpAnyH_take (i:=4) (v:=?v6) rfl (by kernel_rfl) (by kernel_rfl) (by kernel_rfl) (fun _ _ _ h=>h) (Or.inl ⟨by rfl,?hy6⟩) (by assumption) ?_
 case hy6 =>
  intro w' hSw
  (try dsimp only at hSw)
  have q1:=(a0A hSw HXK.out).1;go_simp
  try (with_reducible rfl)
 try simp only [Act.put,jA]
 refine wpAnyH_ready (rs:=[5]) (by kernel_rfl) (by simp) ?_;refine AllReadyH.cons rfl (fun K hK=>?_) AllReadyH.nil;go_simp
 go_at_call 170
 refine a0B ?_;intro W5 hW5;have hb5:jB W W5:=by rw [hW5];first|exact jR|exact jR.drew
 clear hW5
 with_reducible refine (CB.out W5 (a0D HBW.out hb5)).mono ?_
 rintro e w5 ⟨rfl,hb6⟩;have HB5:=jH (a0D hb5 hb6);clear hb5 hb6
 try go_simp
 refine hK.out _ _ ?hS7 (fun hHeld2=>?_)
 case hS7=>first|with_reducible exact HBr.out|exact HBr.out.drew|with_reducible exact HB5.out
 clear hK K hHeld;have hHeld:=hHeld2;clear hHeld2
 try simp only [Act.put,jA]
 refine wpAnyH_take (i:=6) (v:=?v8) rfl (by kernel_rfl) (by kernel_rfl) (by kernel_rfl) (fun _ _ _ h=>h) (Or.inl ⟨by rfl,?hy8⟩) (by assumption) ?_
 case hy8 =>
  intro w' hSw
  (try dsimp only at hSw)
  go_simp
  try (with_reducible rfl)
 try simp only [Act.put,jA]
 refine wpAnyH_take (i:=7) (v:=?v9) rfl (by kernel_rfl) (by kernel_rfl) (by kernel_rfl) (fun _ _ _ h=>h) (Or.inl ⟨by rfl,?hy9⟩) (by assumption) ?_
 case hy9 =>
  intro w' hSw
  (try dsimp only at hSw)
  go_simp
  try (with_reducible rfl)
 try simp only [Act.put,jA]
 refine wpAnyH_take (i:=8) (v:=?v10) rfl (by kernel_rfl) (by kernel_rfl) (by kernel_rfl) (fun _ _ _ h=>h) (Or.inl ⟨by rfl,?hy10⟩) (by assumption) ?_
 case hy10 =>
  intro w' hSw
  (try dsimp only at hSw)
  go_simp
  try (with_reducible rfl)
 try simp only [Act.put,jA]
 refine wpAnyH_take (i:=9) (v:=?v11) rfl (by kernel_rfl) (by kernel_rfl) (by kernel_rfl) (fun _ _ _ h=>h) (Or.inl ⟨by rfl,?hy11⟩) (by assumption) ?_
 case hy11 =>
  intro w' hSw
  (try dsimp only at hSw)
  go_simp
  try (with_reducible rfl)
 try simp only [Act.put,jA]
 refine wpAnyH_take (i:=10) (v:=?v12) rfl (by kernel_rfl) (by kernel_rfl) (by kernel_rfl) (fun _ _ _ h=>h) (Or.inl ⟨by rfl,?hy12⟩) (by assumption) ?_
 case hy12 =>
  intro w' hSw
  (try dsimp only at hSw)
  go_simp
  try (with_reducible rfl)
 try simp only [Act.put,jA]
 refine wpAnyH_done (by kernel_rfl) ?_ _;have HRW5:=jH (HRW.out.below (a0D HBW.out HB5.out));obtain ⟨y1,y2,y3,y4⟩:=b0F HB5.out HXC.out;clear y2 y4
 rcases HLO.out with hn|⟨hlow,hs⟩
 · rw [hn]
   have HN:=jH hn;clear hn;go_wp2_with fail
   go_ret2
   exact ⟨by rw [HN.out];rfl,a0D HBW.out HB5.out⟩
 · obtain ⟨b1,o1,rfl,hb1,hc⟩:=HRW5.out.at_ hlow
   have d2:=hc 2 _ rfl;rw [hs];have HSS:=jH hs;generalize q1G l k=i at hlow hc d2 HSS ⊢;generalize l[i].2=n at d2 HSS ⊢;clear hs hc;go_wp2_with fail
   go_ret2
   exact ⟨by rw [HSS.out];rfl,a0D HBW.out HB5.out⟩
end
end Go.Proofs.YtmniiodpbebnmaaGreat
