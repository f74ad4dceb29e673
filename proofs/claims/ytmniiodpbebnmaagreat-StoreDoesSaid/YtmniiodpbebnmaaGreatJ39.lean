/- Part 39 of the proof. -/
import Derived.Test.YtmniiodpbebnmaaGreatJ38
import Derived.KernelRfl
namespace Go.Proofs.YtmniiodpbebnmaaGreat
set_option linter.unusedSimpArgs false
set_option linter.unusedVariables false
set_option linter.unusedSectionVars false
set_option maxRecDepth 100000
set_option maxHeartbeats 16000000
section
open Go.RowKit Go.Lib Go.Sort
structure j1F (w:World) (fp:List Nat) (X:Nat) (o:Obj):Prop where
 at_:w.heap[X]?=some o
 off:X∉fp
theorem j1F.lt {w:World} {fp:List Nat} {X:Nat} {o:Obj} (h:j1F w fp X o):X<w.heap.size:=(Array.getElem?_eq_some_iff.1 h.at_).1
theorem j1F.upd {w w':World} {fp fp':List Nat} {X:Nat} {o:Obj} (h:j1F w fp X o) (hu:Upd w w' fp fp'):j1F w' fp' X o :=
 ⟨(hu.block X h.lt h.off).trans h.at_,fun hq=>(hu.fresh X hq).elim h.off (fun h9=>by have:=h.lt;omega)⟩
theorem j1F.below {w w':World} {fp:List Nat} {X:Nat} {o:Obj} (h:j1F w fp X o) (hb:jB w w'):j1F w' fp X o:=⟨(hb.block X h.lt).trans h.at_,h.off⟩
structure SW (B:Nat→Prop) (w:World) (S:Nat) (c:Cfg) (rs rh n:Nat) (wd:Wd) (d:d0M):Prop where
 at_:a0J B w S c rs rh n wd d
 ok:g0B c rs rh n wd
 home:c0F c wd
 tot:(g0C wd).length≤n
theorem SW.below {B:Nat→Prop} {w w':World} {S:Nat} {c:Cfg} {rs rh n:Nat} {wd:Wd} {d:d0M} (h:SW B w S c rs rh n wd d) (hb:jB w w'):SW B w' S c rs rh n wd d:=⟨h.at_.below hb,h.ok,h.home,h.tot⟩
def l0N (B:Nat→Prop) (w:World) (S:Nat) (c:Cfg) (rs rh n:Nat) (fp:List Nat) (v:Value) (wd:Wd) (e:Ending) (w':World):Prop:=∃d',e=.returned v∧SW B w' S c rs rh n wd d'∧Upd w w' fp (d'.fp S)
theorem y0N {B:Nat→Prop} {w:World} {S:Nat} {c:Cfg} {rs rh n:Nat} {wd:Wd} {d:d0M} (h:SW B w S c rs rh n wd d) (hB:∀b,w.heap.size≤b→B b) (hc:e0T c rs rh) (hn:n≤40) (x:c0D) (hx:x.ok) :
 Calls Tryz.prog 28 #[.pointer (some ⟨S,0,none⟩),b0A x] w (l0N B w S c rs rh (n+1) (d.fp S) (d0S (doW c rs rh wd x).2) (doW c rs rh wd x).1):=by
 have hst:e0X c.st=true:=by have:=hc.cfg;unfold i0L at this;simp only [Bool.and_eq_true] at this;exact this.1
 have hbd:=c0B _ hst;have hlo:c.lo≤256:=by have:=hc.cfg;unfold i0L at this;simp only [Bool.and_eq_true,decide_eq_true_eq] at this;omega
 refine (k1I w h.at_ hB hc h.ok h.home (by have:=h.tot;omega) (by omega) x hx).mono ?_;rintro e w' ⟨fp',rfl,⟨d',hd',rfl⟩,hu⟩;exact ⟨d',rfl,⟨hd',doW_ok h.ok hbd.2 hlo hc.room.h1 hx,n1A h.home hst h.ok.len,Nat.le_trans tot_do (by have:=h.tot;omega)⟩,hu⟩
theorem j1O {w:World} {c:Cfg} {rs rh:Nat} (hc:e0T c rs rh):Calls Tryz.prog 27 #[j0Q c] w fun e w'=>∃S d,e=.returned (.tuple #[.pointer (some ⟨S,0,none⟩),.int .i64 0])∧SW (fun b=>w.heap.size≤b) w' S c rs rh 0 (w0Z c.st.toNat) d∧jB w w':=by
 have hst:e0X c.st=true:=by have:=hc.cfg;unfold i0L at this;simp only [Bool.and_eq_true] at this;exact this.1
 have hbd:=c0B _ hst;refine (h1S c rs rh w hc).mono ?_;rintro e w' ⟨S,d,rfl,h,hl,hb⟩;have e9:d.sts.length=c.st.toNat:=by omega
 rw [e9] at h;exact ⟨S,d,rfl,⟨h,s1K c rs rh _ (by omega),h1I c _,by rw [u1C];exact Nat.le_refl _⟩,hb⟩
theorem a0K {n:Int} (h:0≤n∧n≤100):I64 n:=by unfold I64;omega
def l0W:Cfg:=⟨2,4,4,2⟩
theorem k0D:e0T l0W 4 2:=⟨by decide,rfl,rfl,by unfold Cfg.ok I64 l0W;decide⟩
def xA1:c0D:=⟨1,{ data:=#[97] },1,5,0,⟨0,0,0,0,0,0⟩⟩
theorem xA1_ok:xA1.ok:=⟨a0K (by decide),by decide,a0K (by decide),a0K (by decide),a0K (by decide),⟨a0K (by decide),a0K (by decide),a0K (by decide),a0K (by decide),a0K (by decide),a0K (by decide)⟩⟩
def wA1:Wd:=(doW l0W 4 2 (w0Z 2) xA1).1
theorem rA1:d0S (doW l0W 4 2 (w0Z 2) xA1).2=.agg #[.int .i64 0,.int .i64 0,.int .i64 0,.int .i64 0,.int .i64 0,.int .i64 0,.int .i64 0,.int .i64 0,.int .i64 0,.int .i64 0,.int .i64 0,.int .i64 0,.int .i64 0]:=by kernel_rfl
def xA2:c0D:=⟨3,{ data:=#[] },0,0,0,⟨0,0,0,0,0,0⟩⟩
theorem xA2_ok:xA2.ok:=⟨a0K (by decide),by decide,a0K (by decide),a0K (by decide),a0K (by decide),⟨a0K (by decide),a0K (by decide),a0K (by decide),a0K (by decide),a0K (by decide),a0K (by decide)⟩⟩
def wA2:Wd:=(doW l0W 4 2 wA1 xA2).1
theorem rA2:d0S (doW l0W 4 2 wA1 xA2).2=.agg #[.int .i64 0,.int .i64 1,.int .i64 1,.int .i64 0,.int .i64 0,.int .i64 0,.int .i64 0,.int .i64 0,.int .i64 0,.int .i64 0,.int .i64 0,.int .i64 0,.int .i64 0]:=by kernel_rfl
def xA3:c0D:=⟨1,{ data:=#[97] },2,0,0,⟨0,0,0,0,0,0⟩⟩
theorem xA3_ok:xA3.ok:=⟨a0K (by decide),by decide,a0K (by decide),a0K (by decide),a0K (by decide),⟨a0K (by decide),a0K (by decide),a0K (by decide),a0K (by decide),a0K (by decide),a0K (by decide)⟩⟩
def wA3:Wd:=(doW l0W 4 2 wA2 xA3).1
theorem rA3:d0S (doW l0W 4 2 wA2 xA3).2=.agg #[.int .i64 0,.int .i64 0,.int .i64 0,.int .i64 0,.int .i64 0,.int .i64 0,.int .i64 0,.int .i64 0,.int .i64 0,.int .i64 0,.int .i64 0,.int .i64 0,.int .i64 0]:=by kernel_rfl
def xA4:c0D:=⟨5,{ data:=#[97] },9,9,1,⟨0,0,0,0,0,0⟩⟩
theorem xA4_ok:xA4.ok:=⟨a0K (by decide),by decide,a0K (by decide),a0K (by decide),a0K (by decide),⟨a0K (by decide),a0K (by decide),a0K (by decide),a0K (by decide),a0K (by decide),a0K (by decide)⟩⟩
def wA4:Wd:=(doW l0W 4 2 wA3 xA4).1
theorem rA4:d0S (doW l0W 4 2 wA3 xA4).2=.agg #[.int .i64 0,.int .i64 1,.int .i64 0,.int .i64 1,.int .i64 5,.int .i64 5,.int .i64 5,.int .i64 5,.int .i64 0,.int .i64 0,.int .i64 0,.int .i64 0,.int .i64 0]:=by kernel_rfl
def xA5:c0D:=⟨4,{ data:=#[] },0,0,1,⟨0,0,0,0,0,0⟩⟩
theorem xA5_ok:xA5.ok:=⟨a0K (by decide),by decide,a0K (by decide),a0K (by decide),a0K (by decide),⟨a0K (by decide),a0K (by decide),a0K (by decide),a0K (by decide),a0K (by decide),a0K (by decide)⟩⟩
def wA5:Wd:=(doW l0W 4 2 wA4 xA5).1
theorem rA5:d0S (doW l0W 4 2 wA4 xA5).2=.agg #[.int .i64 0,.int .i64 0,.int .i64 0,.int .i64 0,.int .i64 0,.int .i64 0,.int .i64 0,.int .i64 0,.int .i64 0,.int .i64 0,.int .i64 0,.int .i64 0,.int .i64 0]:=by kernel_rfl
def xA6:c0D:=⟨5,{ data:=#[97] },0,0,1,⟨0,0,0,0,0,0⟩⟩
theorem xA6_ok:xA6.ok:=⟨a0K (by decide),by decide,a0K (by decide),a0K (by decide),a0K (by decide),⟨a0K (by decide),a0K (by decide),a0K (by decide),a0K (by decide),a0K (by decide),a0K (by decide)⟩⟩
def wA6:Wd:=(doW l0W 4 2 wA5 xA6).1
theorem rA6:d0S (doW l0W 4 2 wA5 xA6).2=.agg #[.int .i64 8,.int .i64 0,.int .i64 0,.int .i64 0,.int .i64 0,.int .i64 0,.int .i64 0,.int .i64 0,.int .i64 0,.int .i64 0,.int .i64 0,.int .i64 0,.int .i64 0]:=by kernel_rfl
theorem dA1 {B:Nat→Prop} {w:World} {S:Nat} {d:d0M} (h:SW B w S l0W 4 2 0 (w0Z 2) d) (hB:∀b,w.heap.size≤b→B b) :
 Calls Tryz.prog 28 #[.pointer (some ⟨S,0,none⟩),.agg #[.int .i64 1,.string { data:=#[97] },.int .i64 1,.int .i64 5,.int .i64 0,.int .i64 0,.int .i64 0,.int .i64 0,.int .i64 0,.int .i64 0,.int .i64 0]] w (l0N B w S l0W 4 2 1 (d.fp S) (.agg #[.int .i64 0,.int .i64 0,.int .i64 0,.int .i64 0,.int .i64 0,.int .i64 0,.int .i64 0,.int .i64 0,.int .i64 0,.int .i64 0,.int .i64 0,.int .i64 0,.int .i64 0]) wA1):=by
 have:=y0N h hB k0D (by decide) xA1 xA1_ok;rw [rA1] at this;exact this
theorem dA2 {B:Nat→Prop} {w:World} {S:Nat} {d:d0M} (h:SW B w S l0W 4 2 1 wA1 d) (hB:∀b,w.heap.size≤b→B b) :
 Calls Tryz.prog 28 #[.pointer (some ⟨S,0,none⟩),.agg #[.int .i64 3,.string { data:=#[] },.int .i64 0,.int .i64 0,.int .i64 0,.int .i64 0,.int .i64 0,.int .i64 0,.int .i64 0,.int .i64 0,.int .i64 0]] w (l0N B w S l0W 4 2 2 (d.fp S) (.agg #[.int .i64 0,.int .i64 1,.int .i64 1,.int .i64 0,.int .i64 0,.int .i64 0,.int .i64 0,.int .i64 0,.int .i64 0,.int .i64 0,.int .i64 0,.int .i64 0,.int .i64 0]) wA2):=by
 have:=y0N h hB k0D (by decide) xA2 xA2_ok;rw [rA2] at this;exact this
theorem dA3 {B:Nat→Prop} {w:World} {S:Nat} {d:d0M} (h:SW B w S l0W 4 2 2 wA2 d) (hB:∀b,w.heap.size≤b→B b) :
 Calls Tryz.prog 28 #[.pointer (some ⟨S,0,none⟩),.agg #[.int .i64 1,.string { data:=#[97] },.int .i64 2,.int .i64 0,.int .i64 0,.int .i64 0,.int .i64 0,.int .i64 0,.int .i64 0,.int .i64 0,.int .i64 0]] w (l0N B w S l0W 4 2 3 (d.fp S) (.agg #[.int .i64 0,.int .i64 0,.int .i64 0,.int .i64 0,.int .i64 0,.int .i64 0,.int .i64 0,.int .i64 0,.int .i64 0,.int .i64 0,.int .i64 0,.int .i64 0,.int .i64 0]) wA3):=by
 have:=y0N h hB k0D (by decide) xA3 xA3_ok;rw [rA3] at this;exact this
theorem dA4 {B:Nat→Prop} {w:World} {S:Nat} {d:d0M} (h:SW B w S l0W 4 2 3 wA3 d) (hB:∀b,w.heap.size≤b→B b) :
 Calls Tryz.prog 28 #[.pointer (some ⟨S,0,none⟩),.agg #[.int .i64 5,.string { data:=#[97] },.int .i64 9,.int .i64 9,.int .i64 1,.int .i64 0,.int .i64 0,.int .i64 0,.int .i64 0,.int .i64 0,.int .i64 0]] w (l0N B w S l0W 4 2 4 (d.fp S) (.agg #[.int .i64 0,.int .i64 1,.int .i64 0,.int .i64 1,.int .i64 5,.int .i64 5,.int .i64 5,.int .i64 5,.int .i64 0,.int .i64 0,.int .i64 0,.int .i64 0,.int .i64 0]) wA4):=by
 have:=y0N h hB k0D (by decide) xA4 xA4_ok;rw [rA4] at this;exact this
theorem dA5 {B:Nat→Prop} {w:World} {S:Nat} {d:d0M} (h:SW B w S l0W 4 2 4 wA4 d) (hB:∀b,w.heap.size≤b→B b) :
 Calls Tryz.prog 28 #[.pointer (some ⟨S,0,none⟩),.agg #[.int .i64 4,.string { data:=#[] },.int .i64 0,.int .i64 0,.int .i64 1,.int .i64 0,.int .i64 0,.int .i64 0,.int .i64 0,.int .i64 0,.int .i64 0]] w (l0N B w S l0W 4 2 5 (d.fp S) (.agg #[.int .i64 0,.int .i64 0,.int .i64 0,.int .i64 0,.int .i64 0,.int .i64 0,.int .i64 0,.int .i64 0,.int .i64 0,.int .i64 0,.int .i64 0,.int .i64 0,.int .i64 0]) wA5):=by
 have:=y0N h hB k0D (by decide) xA5 xA5_ok;rw [rA5] at this;exact this
theorem dA6 {B:Nat→Prop} {w:World} {S:Nat} {d:d0M} (h:SW B w S l0W 4 2 5 wA5 d) (hB:∀b,w.heap.size≤b→B b) :
 Calls Tryz.prog 28 #[.pointer (some ⟨S,0,none⟩),.agg #[.int .i64 5,.string { data:=#[97] },.int .i64 0,.int .i64 0,.int .i64 1,.int .i64 0,.int .i64 0,.int .i64 0,.int .i64 0,.int .i64 0,.int .i64 0]] w (l0N B w S l0W 4 2 6 (d.fp S) (.agg #[.int .i64 8,.int .i64 0,.int .i64 0,.int .i64 0,.int .i64 0,.int .i64 0,.int .i64 0,.int .i64 0,.int .i64 0,.int .i64 0,.int .i64 0,.int .i64 0,.int .i64 0]) wA6):=by
 have:=y0N h hB k0D (by decide) xA6 xA6_ok;rw [rA6] at this;exact this
theorem k0F (w:World):Calls Tryz.prog 26 #[] w (jP w (.bool true)):=by
 have CN:=jH (show Calls Tryz.prog 27 #[.agg #[.int .i64 2,.int .i64 4,.int .i64 4,.int .i64 2]] w fun e w'=>∃S d,e=.returned (.tuple #[.pointer (some ⟨S,0,none⟩),.int .i64 0])∧SW (fun b=>w.heap.size≤b) w' S l0W 4 2 0 (w0Z 2) d∧jB w w' from j1O (c:=l0W) k0D);have CK:=jH (fun W=>show Calls Tryz.prog 42 #[.agg #[.int .i64 9,.string { data:=#[] },.int .i64 0,.int .i64 0,.int .i64 0,.int .i64 0,.int .i64 0,.int .i64 0,.int .i64 0,.int .i64 0,.int .i64 0]] W (jP W (.int .i64 14)) from
  f0M ⟨9,⟨#[]⟩,0,0,0,⟨0,0,0,0,0,0⟩⟩ W ⟨a0K (by decide),by decide,a0K (by decide),a0K (by decide),a0K (by decide),⟨a0K (by decide),a0K (by decide),a0K (by decide),a0K (by decide),a0K (by decide),a0K (by decide)⟩⟩)
 go_enter Tryz.func26,Tryz.ntmps26
 go_wp2_with (first
  | (go_at_call 27
     refine CN.out.mono ?_;rintro e w0 ⟨S,d0,rfl,hd,hb⟩;have HD0:=jH hd;have HB0:=jH hb.size;have HU0:=jH (show Upd w w0 [] (d0.fp S) from ⟨hb.os,hb.tape,hb.output,hb.size,fun r hr _=>hb.block r hr,fun r hr=>.inr (hd.at_.fpLt r hr).2⟩);have HF0:=jH (show ∀r∈d0.fp S,w.heap.size≤r from fun r hr=>(hd.at_.fpLt r hr).2);clear hd hb)
  | (go_at_call 28
     refine a0B ?_;intro W6 hW6;have hb6:jB w5 W6:=by rw [hW6];repeat (first|exact jR|refine a0C ?_ _)
     have hx5:W6.heap[w5.heap.size]?=some (.cells #[.int .i64 0,.int .i64 0,.int .i64 0,.int .i64 0,.int .i64 0,.int .i64 0,.int .i64 0,.int .i64 0,.int .i64 0,.int .i64 0,.int .i64 0,.int .i64 0,.int .i64 0] 46 (0,0)):=by rw [hW6];exact heap_alloc_new _ _
     have hK5:j1F W6 (d5.fp S) w5.heap.size (.cells #[.int .i64 0,.int .i64 0,.int .i64 0,.int .i64 0,.int .i64 0,.int .i64 0,.int .i64 0,.int .i64 0,.int .i64 0,.int .i64 0,.int .i64 0,.int .i64 0,.int .i64 0] 46 (0,0)):=⟨hx5,fun hq=>by have:=(HD5.out.at_.fpLt _ hq).1;omega⟩;clear hW6
     with_reducible refine (dA6 (HD5.out.below hb6) (fun b hb=>Nat.le_trans HB5.out (Nat.le_trans hb6.size hb))).mono ?_
     rintro e w6 ⟨d6,rfl,hd,hu⟩;have HD6:=jH hd;have HB6:=jH (Nat.le_trans HB5.out (Nat.le_trans hb6.size hu.size));have HU6:=jH (HU5.out.trans ((Upd.of_below hb6 _).trans hu));have HK2_6:=jH ((HK2_5.out.below hb6).upd hu);have HK4_6:=jH ((HK4_5.out.below hb6).upd hu);have HK5_6:=jH (hK5.upd hu);obtain ⟨p2,pf2,pl2⟩:=a0A jR HK2_6.out.at_;obtain ⟨p4,pf4,pl4⟩:=a0A jR HK4_6.out.at_;obtain ⟨p5,pf5,pl5⟩:=a0A jR HK5_6.out.at_
     clear hd hu hb6 hx5 hK5)
  | (go_at_call 28
     refine a0B ?_;intro W5 hW5;have hb5:jB w4 W5:=by rw [hW5];repeat (first|exact jR|refine a0C ?_ _)
     have hx4:W5.heap[w4.heap.size]?=some (.cells #[.int .i64 0,.int .i64 1,.int .i64 0,.int .i64 1,.int .i64 5,.int .i64 5,.int .i64 5,.int .i64 5,.int .i64 0,.int .i64 0,.int .i64 0,.int .i64 0,.int .i64 0] 46 (0,0)):=by rw [hW5];exact heap_alloc_new _ _
     have hK4:j1F W5 (d4.fp S) w4.heap.size (.cells #[.int .i64 0,.int .i64 1,.int .i64 0,.int .i64 1,.int .i64 5,.int .i64 5,.int .i64 5,.int .i64 5,.int .i64 0,.int .i64 0,.int .i64 0,.int .i64 0,.int .i64 0] 46 (0,0)):=⟨hx4,fun hq=>by have:=(HD4.out.at_.fpLt _ hq).1;omega⟩;clear hW5
     with_reducible refine (dA5 (HD4.out.below hb5) (fun b hb=>Nat.le_trans HB4.out (Nat.le_trans hb5.size hb))).mono ?_
     rintro e w5 ⟨d5,rfl,hd,hu⟩;have HD5:=jH hd;have HB5:=jH (Nat.le_trans HB4.out (Nat.le_trans hb5.size hu.size));have HU5:=jH (HU4.out.trans ((Upd.of_below hb5 _).trans hu));have HK2_5:=jH ((HK2_4.out.below hb5).upd hu);have HK4_5:=jH (hK4.upd hu);clear hd hu hb5 hx4 hK4)
  | (go_at_call 28
     refine a0B ?_;intro W4 hW4;have hb4:jB w3 W4:=by rw [hW4];repeat (first|exact jR|refine a0C ?_ _)
     clear hW4
     with_reducible refine (dA4 (HD3.out.below hb4) (fun b hb=>Nat.le_trans HB3.out (Nat.le_trans hb4.size hb))).mono ?_
     rintro e w4 ⟨d4,rfl,hd,hu⟩;have HD4:=jH hd;have HB4:=jH (Nat.le_trans HB3.out (Nat.le_trans hb4.size hu.size));have HU4:=jH (HU3.out.trans ((Upd.of_below hb4 _).trans hu));have HK2_4:=jH ((HK2_3.out.below hb4).upd hu);clear hd hu hb4)
  | (go_at_call 28
     refine a0B ?_;intro W3 hW3;have hb3:jB w2 W3:=by rw [hW3];repeat (first|exact jR|refine a0C ?_ _)
     have hx2:W3.heap[w2.heap.size]?=some (.cells #[.int .i64 0,.int .i64 1,.int .i64 1,.int .i64 0,.int .i64 0,.int .i64 0,.int .i64 0,.int .i64 0,.int .i64 0,.int .i64 0,.int .i64 0,.int .i64 0,.int .i64 0] 46 (0,0)):=by rw [hW3];exact heap_alloc_new _ _
     have hK2:j1F W3 (d2.fp S) w2.heap.size (.cells #[.int .i64 0,.int .i64 1,.int .i64 1,.int .i64 0,.int .i64 0,.int .i64 0,.int .i64 0,.int .i64 0,.int .i64 0,.int .i64 0,.int .i64 0,.int .i64 0,.int .i64 0] 46 (0,0)):=⟨hx2,fun hq=>by have:=(HD2.out.at_.fpLt _ hq).1;omega⟩;clear hW3
     with_reducible refine (dA3 (HD2.out.below hb3) (fun b hb=>Nat.le_trans HB2.out (Nat.le_trans hb3.size hb))).mono ?_
     rintro e w3 ⟨d3,rfl,hd,hu⟩;have HD3:=jH hd;have HB3:=jH (Nat.le_trans HB2.out (Nat.le_trans hb3.size hu.size));have HU3:=jH (HU2.out.trans ((Upd.of_below hb3 _).trans hu));have HK2_3:=jH (hK2.upd hu);clear hd hu hb3 hx2 hK2)
  | (go_at_call 28
     refine a0B ?_;intro W2 hW2;have hb2:jB w1 W2:=by rw [hW2];repeat (first|exact jR|refine a0C ?_ _)
     clear hW2
     with_reducible refine (dA2 (HD1.out.below hb2) (fun b hb=>Nat.le_trans HB1.out (Nat.le_trans hb2.size hb))).mono ?_
     rintro e w2 ⟨d2,rfl,hd,hu⟩;have HD2:=jH hd;have HB2:=jH (Nat.le_trans HB1.out (Nat.le_trans hb2.size hu.size));have HU2:=jH (HU1.out.trans ((Upd.of_below hb2 _).trans hu));clear hd hu hb2)
  | (go_at_call 28
     refine a0B ?_;intro W1 hW1;have hb1:jB w0 W1:=by rw [hW1];repeat (first|exact jR|refine a0C ?_ _)
     clear hW1
     with_reducible refine (dA1 (HD0.out.below hb1) (fun b hb=>Nat.le_trans HB0.out (Nat.le_trans hb1.size hb))).mono ?_
     rintro e w1 ⟨d1,rfl,hd,hu⟩;have HD1:=jH hd;have HB1:=jH (Nat.le_trans HB0.out (Nat.le_trans hb1.size hu.size));have HU1:=jH (HU0.out.trans ((Upd.of_below hb1 _).trans hu));clear hd hu hb1)
  | (go_at_call 42
     refine (CK.out _).mono ?_;rintro e w7 ⟨rfl,hb7⟩;have HB7:=jH hb7;clear hb7))
 go_ret
 exact ⟨rfl,a0D (a0D (HU6.out.below (Nat.le_refl _) (fun k hk=>by cases hk)) (a0C jR _)) HB7.out⟩
end
end Go.Proofs.YtmniiodpbebnmaaGreat
