/- Part 9 of the proof. -/
import Derived.Test.YtmniiodpbebnmaaGreatJ08
namespace Go.Proofs.YtmniiodpbebnmaaGreat
set_option linter.unusedSimpArgs false
set_option linter.unusedVariables false
set_option linter.unusedSectionVars false
set_option maxRecDepth 100000
set_option maxHeartbeats 16000000
section
open Go.RowKit Go.Lib Go.Sort
theorem b1B (l:List Adv) (x:Adv):∀p,p<l.length→a0F c0U (l.set p x)=(((((a0F c0U l).set (p * 5) (.int .i64 x.tick)).set (p * 5+1) (.int .i64 x.load)).set (p * 5+2) (.int .i64 x.want)).set (p * 5+3) (.int .i64 x.repl)).set (p * 5+4) (.int .i64 x.why):=by
 induction l with
 | nil=>intro p hp;simp at hp
 | cons a l ih =>
   intro p hp
   cases p with
   | zero=>rfl
   | succ p =>
     rw [List.set_cons_succ,a0U,a0U,ih p (by simpa using hp),show (p+1) * 5=p * 5+5 by omega];rfl
def set5 (w:World) (g o:Nat) (x:Adv):World:=((((w.setCell ⟨g,o,none⟩ (.int .i64 x.tick)).setCell ⟨g,o+1,none⟩ (.int .i64 x.load)).setCell ⟨g,o+2,none⟩ (.int .i64 x.want)).setCell ⟨g,o+3,none⟩ (.int .i64 x.repl)).setCell ⟨g,o+4,none⟩ (.int .i64 x.why)
theorem k1B {base:Nat} {w:World} {g c:Nat} {l:List Adv} (h:b0Q c0U 44 5 base w (.slice (some ⟨g,0,none⟩) l.length c) l) (p:Nat) (hp:p<l.length) (x:Adv) :
 b0Q c0U 44 5 base (set5 w g (p * 5) x) (.slice (some ⟨g,0,none⟩) l.length c) (l.set p x)∧w.grownBy (set5 w g (p * 5) x) (some g):=by
 obtain ⟨h1,g1⟩:=World.ownsRow.stored h (p * 5) (.int .i64 x.tick);obtain ⟨h2,g2⟩:=World.ownsRow.stored h1 (p * 5+1) (.int .i64 x.load);obtain ⟨h3,g3⟩:=World.ownsRow.stored h2 (p * 5+2) (.int .i64 x.want);obtain ⟨h4,g4⟩:=World.ownsRow.stored h3 (p * 5+3) (.int .i64 x.repl);obtain ⟨h5,g5⟩:=World.ownsRow.stored h4 (p * 5+4) (.int .i64 x.why);refine ⟨?_,b0D (b0D (b0D (b0D g1 g2) g3) g4) g5⟩
 unfold b0Q;rw [b1B l x p hp,List.length_set];exact h5
theorem f1N {base:Nat} {w:World} {g c:Nat} {l:List Adv} (h:b0Q c0U 44 5 base w (.slice (some ⟨g,0,none⟩) l.length c) l) :
 ∃cur,w.heap[g]?=some (.cells cur 44 (0,0))∧base≤g∧l.length≤c:=by
 rcases h.2 with ⟨hv,_⟩|⟨g',cap,cur,hv,h1,h2,h3,h4,h5,h6⟩
 · cases hv
 · injection hv with e1 _ e3
   injection e1 with e1
   injection e1 with e1
   subst e1 e3;exact ⟨cur,h2,h1,h3⟩
theorem i1R (raw:List Adv) (frm room:Nat) (x:Adv) (h1:raw.length=room) (h2:frm<room):(raw.set frm x).drop ((frm+1) % room)++(raw.set frm x).take ((frm+1) % room)=(raw.drop frm++raw.take frm).drop 1++[x]:=by
 have hd:raw.drop frm=raw[frm]::raw.drop (frm+1):=List.drop_eq_getElem_cons (by omega);have ht:(raw.set frm x).take (frm+1)=raw.take frm++[x]:=by
  rw [List.take_succ_eq_append_getElem (by simp;omega),List.getElem_set_self,List.take_set_of_le (Nat.le_refl _)]
 rw [hd,List.cons_append,List.drop_one,List.tail_cons,List.append_assoc]
 by_cases h:frm+1=room
 · rw [h,Nat.mod_self,List.drop_zero,List.take_zero,List.append_nil]
   have:(raw.set frm x).take (frm+1)=raw.set frm x:=List.take_of_length_le (by simp;omega);rw [←this,ht,List.drop_of_length_le (by omega),List.nil_append]
 · rw [Nat.mod_eq_of_lt (by omega),ht,List.drop_set_of_lt (by omega)]
theorem f1J {w w7 w8:World} {B R g c:Nat} {frm room:Nat} {raw:List Adv} {x:Adv} (hS:w.heap[R]?=some (.cells #[.slice (some ⟨g,0,none⟩) raw.length c,.int .i64 (frm:Nat),.int .i64 (room:Nat)] 363 (0,0))) (hne:R≠g) (hglt:g<w.heap.size)
    (hb7:jB w w7) (hown:b0Q c0U 44 5 0 w8 (.slice (some ⟨g,0,none⟩) raw.length c) (raw.set frm x)) (hg:w7.grownBy w8 (some g)) (h1:raw.length=room) (h2:frm<room) :
    RAt w (w8.setCell ⟨R,1,none⟩ (.int .i64 ((frm+1) % room:Nat))) B R ((raw.drop frm++raw.take frm).drop 1++[x]) room (R::(Value.slice (some ⟨g,0,none⟩) raw.length c).ownBlock.toList):=by
  have hSlt:=(jL hS);have hS7:=(hb7.block R hSlt).trans hS;have hS':=(hg.block R (jL hS7) (fun e=>hne (by injection e))).trans hS7;refine ⟨R::(Value.slice (some ⟨g,0,none⟩) raw.length c).ownBlock.toList,⟨.slice (some ⟨g,0,none⟩) raw.length c,_,raw.set frm x,(frm+1) % room,a0E hS',⟨hown.kept (fun r hr=>Below.heap_setCell _ _ _ _ (fun e=>by have e':r=R:=e;rw [e'] at hr;simp [Value.ownBlock] at hr;exact hne hr.symm)),rfl⟩,by simpa [Value.ownBlock] using hne,rfl,(i1R raw frm room x h1 h2).symm,by simp;omega,Nat.mod_lt _ (by omega),fun h=>by simp at h;omega⟩,List.mem_cons_self ..,?_,?_⟩
  · refine (Upd.of_below hb7 _).trans ⟨hg.os,hg.tape,hg.output,by simp [World.setCell];exact hg.size,fun k hk hn=>?_,fun k hk=>.inl hk⟩
    simp only [List.mem_cons,Option.mem_toList,not_or] at hn
    exact (Below.heap_setCell _ _ _ _ hn.1).trans (hg.block k hk (fun e=>hn.2 (by simp [Value.ownBlock];injection e with e;exact e.symm)))
  · intro k hk
    rcases List.mem_cons.1 hk with rfl|hk
    · exact .inl hSlt
    · simp [Value.ownBlock] at hk
      exact .inl (by omega)
theorem box5 {w:World} {B:Nat} {cs:Array Value} {v0 v1 v2 v3 v4:Value} {T:TypeId} (h:w.heap[B]?=some (.cells #[.int .i64 0,.int .i64 0,.int .i64 0,.int .i64 0,.int .i64 0] T (0,0))) :
 (((((w.setCell ⟨B,0,none⟩ v0).setCell ⟨B,1,none⟩ v1).setCell ⟨B,2,none⟩ v2).setCell ⟨B,3,none⟩ v3).setCell ⟨B,4,none⟩ v4).heap[B]?=some (.cells #[v0,v1,v2,v3,v4] T (0,0)) :=
 a0E (a0E (a0E (a0E (a0E h))))
theorem n1L {w a:World} {B:Nat} (h:jB w a) (hB:w.heap.size≤B) (v0 v1 v2 v3 v4:Value):jB w (((((a.setCell ⟨B,0,none⟩ v0).setCell ⟨B,1,none⟩ v1).setCell ⟨B,2,none⟩ v2).setCell ⟨B,3,none⟩ v3).setCell ⟨B,4,none⟩ v4) :=
 (below4 h hB v0 v1 v2 v3).setCell hB _
theorem d1U (R:Nat) (l:List Adv) (room:Nat) (fp:List Nat) (x:Adv) (w:World) (h:c0P w R l room fp) (hroom:room≤4096) (hl:¬l.length<room) :
 Calls Tryz.prog 270 #[.pointer (some ⟨R,0,none⟩),.agg (c0U x).toArray] w (j1S w R (l.drop 1++[x]) room fp):=by
 obtain ⟨v,fr,raw,frm,hS,⟨hown,rfl⟩,h3,rfl,rfl,h4,h5,h6⟩:=h;have hlr:raw.length=room:=by simp at hl;omega
 clear h6 hl;have hSlt:=(jL hS)
 rcases Go.Joins.ownsRow_forms hown with ⟨rfl,hz⟩|⟨g,c,rfl⟩
 · omega
 have hSg:R≠g:=by intro e;apply h3;rw [e];simp [Value.ownBlock]
 have hfr:frm<raw.length:=by omega
 obtain ⟨g',o',e',hglt,hc⟩:=(a0Q.own p0Q.len hown:a0Q 5 c0U w _ raw).at_ hfr;injection e' with e'
 injection e' with e1 e2
 subst e1 e2;have hc0:=hc 0 _ rfl;have hc1:=hc 1 _ rfl;have hc2:=hc 2 _ rfl;have hc3:=hc 3 _ rfl;have hc4:=hc 4 _ rfl;simp only [Nat.zero_add,Nat.add_zero] at hc0 hc1 hc2 hc3 hc4
 generalize raw[frm]=y at hc0 hc1 hc2 hc3 hc4;obtain ⟨cur,hgb,_⟩:=f1N hown;have HO:=jH hown;have HS:=jH hS;have HG:=jH hgb;have z0:w.cell? ⟨R,0,none⟩=some (.slice (some ⟨g,0,none⟩) raw.length c):=by simp only [World.cell?,hS];rfl
 have z2:w.cell? ⟨R,2,none⟩=some (.int .i64 (room:Nat)):=by simp only [World.cell?,hS];rfl
 have q0:((room:Int) == 0)=false:=by simp;omega
 have q1:¬(raw.length:Int)<(room:Int):=by omega
 have p0:(0:Int)≤(frm:Int):=by omega
 have p1:(frm:Int)<(raw.length:Int):=by omega
 have z2':∀o1 o2 o3,(((w.alloc o1).alloc o2).alloc o3).cell? ⟨R,2,none⟩=some (.int .i64 (room:Nat)):=fun o1 o2 o3=>((a0C (a0C (a0C jR _) _) _).cell (p:=⟨R,2,none⟩) hSlt).trans z2
 clear hS hown h3 hc hgb;unfold c0U
 go_enter Tryz.func270,Tryz.ntmps270
 go_wp2_with fail
 refine a0J ?_;intro W3 hW3;obtain ⟨hx3,hy3,hu3,hsz3,hb3⟩:=m0W w _ _ _ W3 hW3;have hsz:w.heap.size+2<W3.heap.size:=by omega
 clear hW3 hsz3;have hS3:=(hb3.block R hSlt).trans HS.out;obtain ⟨a1,a2,a3⟩:=a0A jR hx3;obtain ⟨a4,a5,a6⟩:=a0A jR hS3;have HB3:=jH hb3;have HX:=jH hx3;have HY:=jH hy3;have HU:=jH hu3;have HS3:=jH hS3;clear hb3 hx3 hy3 hu3 hS3
 go_quiet (fail)
 go_wp2_with fail
 refine a0J ?_;intro W5 hW5;have hb5:jB W3 W5:=by rw [hW5];exact a0G jR _
 have hb5':=a0D HB3.out hb5;have hS5:=(hb5.block R a6).trans HS3.out;have hx5:=(hb5.block _ a3).trans HX.out;have hy5:=(hb5.block _ (by omega)).trans HY.out;have hsz5:w.heap.size+2<W5.heap.size:=by have:=hb5.size;omega
 clear hW5 hb5 a1 a2 a3 a4 a5 a6 hsz HB3 HY HU HS3 HX;obtain ⟨a4,a5,a6⟩:=a0A jR hS5;have b0:=(hb5'.cell (p:=⟨g,frm * 5,none⟩) hglt).trans hc0;have b1:=(hb5'.cell (p:=⟨g,frm * 5+1,none⟩) hglt).trans hc1;have b2:=(hb5'.cell (p:=⟨g,frm * 5+2,none⟩) hglt).trans hc2;have b3:=(hb5'.cell (p:=⟨g,frm * 5+3,none⟩) hglt).trans hc3;have b4:=(hb5'.cell (p:=⟨g,frm * 5+4,none⟩) hglt).trans hc4;have hg5:g<W5.heap.size:=by omega
 have HB5:=jH hb5';have HX:=jH hx5;have HY:=jH hy5;have HS5:=jH hS5;have HL:=jH hlr;clear hb5' hx5 hy5 hS5 hc0 hc1 hc2 hc3 hc4 hlr
 go_region
 all_goals
   refine a0Y ?_;intro W6 hW6;have hW6':∃W,W6=W∧Below (W5.alloc (.cells (c0U y).toArray 44)).heap.size (W5.alloc (.cells (c0U y).toArray 44)) W:=⟨_,hW6,by repeat (first|exact jR|refine Below.drew ?_)⟩;obtain ⟨W7,rfl,hb6⟩:=hW6';clear hW6;have hb56:jB W5 W6:=a0D (a0C jR _) hb6;have ho6:=(hb6.block W5.heap.size (by simp)).trans (heap_alloc_new _ _);have hS6:=(hb56.block R a6).trans HS5.out
   have hx6:=(hb56.block w.heap.size (by omega)).trans HX.out;have hy6:=(hb56.block (w.heap.size+1) (by omega)).trans HY.out;have hbw6:=a0D HB5.out hb56;have hg6:g<W6.heap.size:=by have:=hb56.size;omega
   have fz:∀j,W6.frozen? ⟨g,j,none⟩=false:=fun j=>e0J ((hbw6.block g hglt).trans HG.out)
   have hsz6:W5.heap.size<W6.heap.size:=by have:=hb6.size;simp at this;omega
   have c0:=(hb56.cell (p:=⟨g,frm * 5,none⟩) hg5).trans b0;have c1:=(hb56.cell (p:=⟨g,frm * 5+1,none⟩) hg5).trans b1;have c2:=(hb56.cell (p:=⟨g,frm * 5+2,none⟩) hg5).trans b2;have c3:=(hb56.cell (p:=⟨g,frm * 5+3,none⟩) hg5).trans b3;have c4:=(hb56.cell (p:=⟨g,frm * 5+4,none⟩) hg5).trans b4;clear b0 b1 b2 b3 b4 a4 a5 a6 hg5 hb6;obtain ⟨a1,a2,a3⟩:=a0A jR hx6;obtain ⟨a4,a5,a6⟩:=a0A jR hS6
   have HB6:=jH hbw6;have HS6:=jH hS6;have HY6:=jH hy6;have HO6:=jH ho6;clear hb56 ho6 hS6 hx6 hy6 hbw6;go_wp2_with fail
   go_region
   refine a0Y ?_;intro W8 hW8;have hW8':∃W,W8=W∧Below (set5 W6 g (frm * 5) x).heap.size (set5 W6 g (frm * 5) x) W:=⟨_,hW8,by unfold set5;repeat (first|exact jR|refine Below.drew ?_)⟩;obtain ⟨W9,rfl,hb8⟩:=hW8';clear hW8;obtain ⟨hown8,hg8⟩:=k1B (HO.out.below HB6.out) frm hfr x;have hg8':=b0D hg8 (b0X hb8);have hown8':=hown8.below hb8;have hS8:=(hg8'.block R a6 (fun e=>by simp at e;omega)).trans HS6.out
   have hy8:=(hg8'.block (w.heap.size+1) (by omega) (fun e=>by simp at e;omega)).trans HY6.out;have ho8:=(hg8'.block W5.heap.size (by omega) (fun e=>by simp at e;omega)).trans HO6.out;have hsz8:W5.heap.size<W8.heap.size:=by have:=hg8'.size;omega
   have hrt:=f1J (B:=W5.heap.size) HS.out hSg hglt HB6.out hown8' hg8' HL.out h5;rw [show (((frm+1) % room:Nat):Int)=((frm:Int)+1) % (room:Int) by simp] at hrt;have HRT:=jH hrt;clear hrt a1 a2 a3 a4 a5 a6 c0 c1 c2 c3 c4 fz hb8 hown8 hown8' hg8 hg8' hg6 hsz6;obtain ⟨a4,a5,a6⟩:=a0A jR hS8;have HY8:=jH hy8;have HO8:=jH ho8;clear hS8 hy8 ho8;go_wp2_with fail
   go_region
   refine a0Y ?_;intro W10 hW10;have hW10':∃W,W10=W∧Below (W8.setCell ⟨R,1,none⟩ (.int .i64 (((frm:Int)+1) % (room:Int)))).heap.size (W8.setCell ⟨R,1,none⟩ (.int .i64 (((frm:Int)+1) % (room:Int)))) W:=⟨_,hW10,by repeat (first|exact jR|refine Below.drew ?_)⟩;obtain ⟨W11,rfl,hb10⟩:=hW10';clear hW10;have HRA:=jH (HRT.out.below hb10);have hy10:W10.heap[w.heap.size+1]?=_:=(hb10.block _ (by simp [World.setCell];omega)).trans ((Below.heap_setCell _ _ _ _ (fun e=>by have e':w.heap.size+1=R:=e;omega)).trans HY8.out)
   have ho10:W10.heap[W5.heap.size]?=_:=(hb10.block _ (by simp [World.setCell];omega)).trans ((Below.heap_setCell _ _ _ _ (fun e=>by have e':W5.heap.size=R:=e;omega)).trans HO8.out);clear a4 a5 a6 hb10;obtain ⟨f1,f2,f3⟩:=a0A jR hy10;obtain ⟨f4,f5,f6⟩:=a0A jR ho10;clear hy10 ho10;unfold c0U at f4;go_wp2
   have hra:=HRA.out;refine bodyPost_ret (v:=.tuple #[.agg #[.int .i64 y.tick,.int .i64 y.load,.int .i64 y.want,.int .i64 y.repl,.int .i64 y.why],.bool true]) (by simp [results,Tryz.results270,go_sem,f1,f2,f3]) rfl ?_;refine RAt.says (B:=W5.heap.size) ?_ _;have c1:w.heap.size≤w.heap.size+1:=by omega
   have c2:w.heap.size+1<W5.heap.size:=by omega
   exact ((((hra.set c1 c2).set c1 c2).set c1 c2).set c1 c2).set c1 c2
theorem j1C (R:Nat) (l:List Adv) (room:Nat) (fp:List Nat) (x:Adv) (w:World) (h:c0P w R l room fp) (hroom:room≤4096) :
 Calls Tryz.prog 270 #[.pointer (some ⟨R,0,none⟩),.agg (c0U x).toArray] w (j1S w R (g0B l room x) room fp):=by
 unfold g0B
 split
 · exact e1I R l room fp x w h hroom ‹_›
 · exact d1U R l room fp x w h hroom ‹_›
def m1K (w:World) (H:Nat) (l:List Adv) (room:Nat) (fp:List Nat) (e:Ending) (w':World):Prop :=
 ∃u fp',e=.returned u∧d0R w' H l room fp'∧Upd w w' fp fp'
theorem g1C {w w1 w2:World} {H R:Nat} {l':List Adv} {room:Nat} {fr fr':List Nat} (hH:w.heap[H]?=some (.cells #[.pointer (some ⟨R,0,none⟩)] 324 (0,0))) (hn:H∉fr) (hb:jB w w1) (hr:c0P w2 R l' room fr') (hR:R∈fr') (hu:Upd w1 w2 fr fr') :
 d0R w2 H l' room (H::fr')∧Upd w w2 (H::fr) (H::fr'):=by
 have hlt:=(jL hH);have h1:=(hb.block H hlt).trans hH;have hlt1:=(jL h1);have h2:=(hu.block H hlt1 hn).trans h1;refine ⟨⟨R,fr',h2,hr,fun h=>?_,rfl,hR⟩,(Upd.of_below hb _).trans (hu.mono (fun k hk=>List.mem_cons_of_mem _ hk) (fun k hk=>?_))⟩
 · rcases hu.fresh H h with h|h
   · exact hn h
   · omega
 · rcases List.mem_cons.1 hk with rfl|hk
   · exact .inl (List.mem_cons_self ..)
   · exact (hu.fresh k hk).imp (List.mem_cons_of_mem _) id
theorem v0H (H:Nat) (l:List Adv) (room:Nat) (fp:List Nat) (x:Adv) (w:World) (h:d0R w H l room fp) (hroom:room≤4096) :
 Calls Tryz.prog 221 #[.pointer (some ⟨H,0,none⟩),.agg (c0U x).toArray] w (m1K w H (g0B l room x) room fp):=by
 obtain ⟨R,fr,hH,hR,hn,rfl,hRm⟩:=h;have hlt:=(jL hH);have HH:=jH hH;have HR:=jH hR;clear hH hR;unfold c0U
 go_enter Tryz.func221,Tryz.ntmps221
 go_wp2_with (first
  | (go_at_call 219
     refine a0B ?_;intro W1 hW1;have hb1:jB w W1:=by rw [hW1];exact a0C jR _
     have hx1:W1.heap[w.heap.size]?=some (.cells #[.int .i64 x.tick,.int .i64 x.load,.int .i64 x.want,.int .i64 x.repl,.int .i64 x.why] 44 (0,0)):=by rw [hW1];exact heap_alloc_new _ _
     clear hW1;refine (y0W H R W1 ((hb1.block H hlt).trans HH.out)).mono ?_;rintro e w2 ⟨rfl,hb2⟩;obtain ⟨a1,a2,a3⟩:=a0A hb2 hx1;have HB2:=jH (a0D hb1 hb2);clear hb1 hx1 hb2)
  | (go_at_call 270
     refine a0B ?_;intro W3 hW3;have hb3:jB w W3:=by rw [hW3];exact HB2.out
     clear hW3;refine (j1C R l room fr x W3 (HR.out.below hb3) hroom).mono ?_;rintro e w4 ⟨u,fr4,rfl,hr4,hR4,hu4⟩;have HP:=jH (g1C HH.out hn hb3 hr4 hR4 hu4);have HR4:=jH hr4;clear hr4 hR4 hu4 hb3)
  | (go_at_call 271
     refine (i0Z R _ room fr4 w4 HR4.out).mono ?_;rintro e w5 ⟨rfl,hb5⟩;have HB5:=jH hb5;clear hb5))
 go_ret
 exact ⟨_,_,rfl,HP.out.1.below HB5.out,HP.out.2.trans (Upd.of_below HB5.out _)⟩
structure Nd where
 pol:Pol
 ruled:Bool
 ver:Nat
 smp:List Smp
 past:List Adv
 frz:Bool
def g0P:Pol:=⟨0,0,0,0,0,0⟩
def nd0:Nd:=⟨g0P,false,0,[],[],false⟩
def ndC (x:Nd) (S H:Nat):Array Value:=#[.int .i64 x.pol.mn,.int .i64 x.pol.mx,.int .i64 x.pol.tg,.int .i64 x.pol.tol,.int .i64 x.pol.win,.int .i64 x.pol.hold,.bool x.ruled,.int .i64 (x.ver:Nat),.pointer (some ⟨S,0,none⟩),.pointer (some ⟨H,0,none⟩),.bool x.frz]
def b0G (w:World) (N:Nat) (x:Nd) (rs rh:Nat) (fp:List Nat):Prop :=
 ∃S fs H fh,w.heap[N]?=some (.cells (ndC x S H) 258 (0,0))∧e0S w S x.smp (rs:Nat) fs∧d0R w H x.past rh fh∧N∉fs∧N∉fh∧(∀k∈fs,k∉fh)∧fp=N::(fs++fh)∧b0K x.smp∧x.smp.length≤rs
theorem b0G.kept {w w':World} {N:Nat} {x:Nd} {rs rh:Nat} {fp:List Nat} (h:b0G w N x rs rh fp) (hb:∀r∈fp,w'.heap[r]?=w.heap[r]?):b0G w' N x rs rh fp:=by
 obtain ⟨S,fs,H,fh,h1,h2,h3,h4,h5,h6,rfl,h7⟩:=h;exact ⟨S,fs,H,fh,(hb N (List.mem_cons_self ..)).trans h1,h2.kept (fun r hr=>hb r (List.mem_cons_of_mem _ (List.mem_append_left _ hr))),h3.kept (fun r hr=>hb r (List.mem_cons_of_mem _ (List.mem_append_right _ hr))),h4,h5,h6,rfl,h7⟩
theorem b0G.lt {w:World} {N:Nat} {x:Nd} {rs rh:Nat} {fp:List Nat} (h:b0G w N x rs rh fp):∀r∈fp,r<w.heap.size:=by
 obtain ⟨S,fs,H,fh,h1,h2,h3,h4,h5,h6,rfl,h7⟩:=h;intro r hr
 rcases List.mem_cons.1 hr with rfl|hr
 · exact (jL h1)
 · exact (List.mem_append.1 hr).elim (h2.lt r) (h3.lt r)
theorem b0G.below {w w':World} {N:Nat} {x:Nd} {rs rh:Nat} {fp:List Nat} (h:b0G w N x rs rh fp) (hb:jB w w'):b0G w' N x rs rh fp:=h.kept (fun r hr=>hb.block r (h.lt r hr))
theorem b0G.mem {w:World} {N:Nat} {x:Nd} {rs rh:Nat} {fp:List Nat} (h:b0G w N x rs rh fp):N∈fp:=by
 obtain ⟨S,fs,H,fh,h1,h2,h3,h4,h5,h6,rfl,h7⟩:=h;exact List.mem_cons_self ..
def n0Z (w:World) (x:Nd) (rs rh:Nat) (e:Ending) (w':World):Prop :=
 ∃N fp,e=.returned (.pointer (some ⟨N,0,none⟩))∧b0G w' N x rs rh fp∧(∀k∈fp,w.heap.size≤k)∧jB w w'
def mfp (x:Nd) (fp:List Nat):List Nat:=if x.frz=true then [] else fp
theorem y0T {w w9:World} {S H:Nat} {fs fh:List Nat} {x:Nd} {rs rh:Nat} (hS:e0S w9 S x.smp (rs:Nat) fs) (hH:d0R w9 H x.past rh fh) (hd:∀k∈fs,k∉fh) (h1:∀k∈fs,w.heap.size≤k) (h2:∀k∈fh,w.heap.size≤k) (hb:jB w w9) (hr:b0K x.smp) (hl:x.smp.length≤rs) :
 n0Z w x rs rh (.returned (.pointer (some ⟨w9.heap.size,0,none⟩))) (w9.alloc (.cells (ndC x S H) 258)) :=
 ⟨w9.heap.size,w9.heap.size::(fs++fh),rfl,⟨S,fs,H,fh,heap_alloc_new _ _,hS.below (a0C jR _),hH.below (a0C jR _),fun h=>by have:=hS.lt _ h;omega,fun h=>by have:=hH.lt _ h;omega,hd,rfl,hr,hl⟩,
   fun k hk=>by
    rcases List.mem_cons.1 hk with rfl|hk
    · exact hb.size
    · exact (List.mem_append.1 hk).elim (h1 k) (h2 k),a0C hb _⟩
theorem e0X {w:World} {N:Nat} {x y:Nd} {rs rh:Nat} {fp:List Nat} {i:Nat} {v:Value} (h:b0G w N x rs rh fp) (e:∀S H,(ndC x S H).setIfInBounds i v=ndC y S H) (es:y.smp=x.smp) (ep:y.past=x.past):b0G (w.setCell ⟨N,i,none⟩ v) N y rs rh fp:=by
 obtain ⟨S,fs,H,fh,h1,h2,h3,h4,h5,h6,rfl,h7,h8⟩:=h;exact ⟨S,fs,H,fh,(a0E h1).trans (by rw [e]),by rw [es];exact h2.kept (fun r hr=>Below.heap_setCell _ _ _ _ (fun e=>h4 (by have e':r=N:=e;rw [←e'];exact hr))),by rw [ep];exact h3.kept (fun r hr=>Below.heap_setCell _ _ _ _ (fun e=>h5 (by have e':r=N:=e;rw [←e'];exact hr))),h4,h5,h6,rfl,by rw [es];exact h7,by rw [es];exact h8⟩
def g0N (x:Nd):Nd:={ x with ver:=x.ver+1,frz:=false }
def OwnS (w:World) (x:Nd) (rs rh:Nat) (fp:List Nat) (e:Ending) (w':World):Prop :=
 ∃N fp',e=.returned (.pointer (some ⟨N,0,none⟩))∧b0G w' N (g0N x) rs rh fp'∧Upd w w' (mfp x fp) fp'
theorem p1F {w w9:World} {S H:Nat} {fs fh fp:List Nat} {x:Nd} {rs rh:Nat} (hS:e0S w9 S x.smp (rs:Nat) fs) (hH:d0R w9 H x.past rh fh) (hd:∀k∈fs,k∉fh) (h1:∀k∈fs,w.heap.size≤k) (h2:∀k∈fh,w.heap.size≤k) (hb:jB w w9) (hr:b0K x.smp) (hl:x.smp.length≤rs) (hf:x.frz=true) :
 OwnS w x rs rh fp (.returned (.pointer (some ⟨w9.heap.size,0,none⟩))) (w9.alloc (.cells (ndC (g0N x) S H) 258)):=by
 obtain ⟨N,fp',e,hn,hf',hb'⟩:=y0T (x:=g0N x) hS hH hd h1 h2 hb hr hl;refine ⟨N,fp',e,hn,?_⟩;unfold mfp;rw [hf,if_pos rfl];exact ⟨hb'.os,hb'.tape,hb'.output,hb'.size,fun k hk _=>hb'.block k hk,fun k hk=>.inr (hf' k hk)⟩
theorem e0M (N:Nat) (x:Nd) (rs rh:Nat) (fp:List Nat) (w:World) (h:b0G w N x rs rh fp) :
 Calls Tryz.prog 174 #[.pointer (some ⟨N,0,none⟩)] w (jP w (.bool true)):=by
 obtain ⟨S,fs,H,fh,h1,h2,h3,h4,h5,h6,rfl,h7⟩:=h;have z0:w.cell? ⟨N,8,none⟩=some (.pointer (some ⟨S,0,none⟩)):=by simp only [World.cell?,h1];rfl
 clear h1 h2 h3 h4 h5 h6 h7
 go_enter Tryz.func174,Tryz.ntmps174
 go_wp2
 go_ret
 exact ⟨rfl,jR⟩
theorem g0S (c:Cfg) (rs rh:Nat) (w:World) (hc:h0A c=true) (hrs:c.sa=(rs:Nat)) (hrh:c.hi=(rh:Nat)) (hok:c.ok) :
 Calls Tryz.prog 156 #[n0D c] w (n0Z w nd0 rs rh):=by
 have hb:1≤rs∧rs≤256∧1≤rh∧rh≤64:=by
  unfold h0A at hc;simp only [Bool.and_eq_true,decide_eq_true_eq] at hc
  omega
 have hE:d1J c=0:=by unfold d1J;rw [if_pos hc]
 have HE:=jH hE;obtain ⟨st,sa,lo,hi⟩:=c;dsimp only at hrs hrh;subst hrs hrh;have HNR:=jH (f0A ⟨st,(rs:Nat),lo,(rh:Nat)⟩);clear hc hE;unfold n0D
 go_enter Tryz.func156,Tryz.ntmps156
 go_wp2_with (go_at_call 46
              refine a0B ?_;intro W1 hW1;have hb1:jB w W1:=by rw [hW1];exact a0C jR _
              have hx1:W1.heap[w.heap.size]?=some (.cells #[.int .i64 st,.int .i64 (rs:Nat),.int .i64 lo,.int .i64 (rh:Nat)] 23 (0,0)):=by rw [hW1];exact heap_alloc_new _ _
              clear hW1;refine (HNR.out W1 hok).mono ?_;rw [HE.out];rintro e w2 ⟨rfl,hb2⟩;obtain ⟨a1,a2,a3⟩:=a0A hb2 hx1;have HX:=jH ((hb2.block w.heap.size (jL hx1)).trans hx1);have HBX:=jH (a0D hb1 hb2);clear hb1 hx1 hb2)
 go_region_with ((first
  | (go_at_call 211
     refine a0B ?_;intro W4 hW4;have hbo:jB ws W4:=by rw [hW4];repeat (first|exact jR|refine a0C ?_ _|refine Below.drew ?_)
     have hb4:jB w2 W4:=a0D HB1.out hbo;clear hW4;refine (n0J rh W4 hb.2.2.1 (by omega)).mono ?_;rintro e wh ⟨H,fh,rfl,h1,h2,h3⟩;have hbn:jB w2 wh:=a0D hb4 h3;have h2':∀k∈fh,w2.heap.size≤k:=fun k hk=>by have:=h2 k hk;have:=hb4.size;omega
     obtain ⟨a4,a5,a6⟩:=a0A hbn HX.out;have HS9:=jH (HSE.out.below (a0D hbo h3));have HH9:=jH (h1);have HD9:=jH (show ∀k∈fs,k∉fh from fun k hk hk'=>by have:=h2 k hk';have:=HSE.out.lt k hk;have:=hbo.size;omega);have HF9:=jH (And.intro (show ∀k∈fs,w2.heap.size≤k from HSF.out) (show ∀k∈fh,w2.heap.size≤k from h2'));have HB9:=jH hbn;clear h1 h2 h2' h3 hb4 hbn hbo)
  | (go_at_call 193
     refine a0B ?_;intro W4 hW4;have hbo:jB wh W4:=by rw [hW4];repeat (first|exact jR|refine a0C ?_ _|refine Below.drew ?_)
     have hb4:jB w2 W4:=a0D HB1.out hbo;clear hW4;refine (l0G (rs:Nat) W4 (by omega) (by omega)).mono ?_;rintro e ws ⟨S,fs,rfl,h1,h2,h3⟩;have hbn:jB w2 ws:=a0D hb4 h3;have h2':∀k∈fs,w2.heap.size≤k:=fun k hk=>by have:=h2 k hk;have:=hb4.size;omega
     obtain ⟨a4,a5,a6⟩:=a0A hbn HX.out;have HS9:=jH (h1);have HH9:=jH (HHI.out.below (a0D hbo h3));have HD9:=jH (show ∀k∈fs,k∉fh from fun k hk hk'=>by have:=h2 k hk;have:=HHI.out.lt k hk';have:=hbo.size;omega);have HF9:=jH (And.intro (show ∀k∈fs,w2.heap.size≤k from h2') (show ∀k∈fh,w2.heap.size≤k from HHF.out));have HB9:=jH hbn;clear h1 h2 h2' h3 hb4 hbn hbo)
  | (go_at_call 193
     refine a0B ?_;intro W4 hW4;have hb4:jB w2 W4:=by rw [hW4];repeat (first|exact jR|refine a0C ?_ _|refine Below.drew ?_)
     clear hW4;refine (l0G (rs:Nat) W4 (by omega) (by omega)).mono ?_;rintro e ws ⟨S,fs,rfl,h1,h2,h3⟩;have hbn:jB w2 ws:=a0D hb4 h3;have h2':∀k∈fs,w2.heap.size≤k:=fun k hk=>by have:=h2 k hk;have:=hb4.size;omega
     obtain ⟨a4,a5,a6⟩:=a0A hbn HX.out;have HSE:=jH h1;have HSF:=jH h2';have HB1:=jH hbn;clear h1 h2 h2' h3 hb4 hbn)
  | (go_at_call 211
     refine a0B ?_;intro W4 hW4;have hb4:jB w2 W4:=by rw [hW4];repeat (first|exact jR|refine a0C ?_ _|refine Below.drew ?_)
     clear hW4;refine (n0J rh W4 hb.2.2.1 (by omega)).mono ?_;rintro e wh ⟨H,fh,rfl,h1,h2,h3⟩;have hbn:jB w2 wh:=a0D hb4 h3;have h2':∀k∈fh,w2.heap.size≤k:=fun k hk=>by have:=h2 k hk;have:=hb4.size;omega
     obtain ⟨a4,a5,a6⟩:=a0A hbn HX.out;have HHI:=jH h1;have HHF:=jH h2';have HB1:=jH hbn;clear h1 h2 h2' h3 hb4 hbn)))
 all_goals go_wp2
 all_goals go_ret
 all_goals exact y0T (x:=nd0) HS9.out HH9.out HD9.out (fun k hk=>Nat.le_trans HBX.out.size (HF9.out.1 k hk)) (fun k hk=>Nat.le_trans HBX.out.size (HF9.out.2 k hk)) (a0D HBX.out HB9.out) List.Pairwise.nil (Nat.zero_le _)
theorem q0V (N:Nat) (x:Nd) (rs rh:Nat) (fp:List Nat) (w:World) (h:b0G w N x rs rh fp) (hrs:rs≤256) (hrh:rh≤64) (hv:x.ver≤1000000) :
 Calls Tryz.prog 207 #[.pointer (some ⟨N,0,none⟩)] w (OwnS w x rs rh fp):=by
 have HN:=jH h;have hw:IntKind.i64.wrap ((x.ver:Int)+1)=((x.ver+1:Nat):Int):=by rw [IntKind.wrap_i64];omega
 obtain ⟨S0,f0,H0,g0,h1,h2,h3,h4,h5,h6,hfp,h7,h8⟩:=h;have hlt:=(jL h1);unfold ndC at h1;obtain ⟨z1,z2,z3⟩:=a0A jR h1;have HX:=jH h1;have HSE0:=jH h2;have HHI0:=jH h3;have H7:=jH h7;have hln:x.smp.length≤1000000:=by omega
 clear h1 h2 h3 h7
 cases hf:x.frz with
 | false =>
   rw [hf] at z1;have HF:=jH hf;clear hf
   go_enter Tryz.func207,Tryz.ntmps207
   go_wp2
   go_ret
   refine ⟨N,fp,rfl,e0X (x:=x) (y:=g0N x) HN.out (fun S H=>?_) rfl rfl,?_⟩
   · unfold ndC g0N;rw [HF.out];simp
   · unfold mfp;rw [HF.out,if_neg (by decide)];exact Upd.set N 7 _ fp HN.out.mem
 | true =>
   rw [hf] at z1;have HF:=jH hf;clear hf
   go_enter Tryz.func207,Tryz.ntmps207
   go_wp2_with fail
   go_region_with ((first
    | (go_at_call 256
       refine a0B ?_;intro W4 hW4;have hbo:jB ws W4:=by rw [hW4];repeat (first|exact jR|refine a0C ?_ _|refine Below.drew ?_)
       have hb4:jB w W4:=a0D HB1.out hbo;clear hW4;refine (k0C H0 x.past rh g0 W4 (HHI0.out.below hb4) (by omega)).mono ?_;rintro e wh ⟨H,fh,rfl,h1,h2,h3⟩;have hbn:jB w wh:=a0D hb4 h3;have h2':∀k∈fh,w.heap.size≤k:=fun k hk=>by have:=h2 k hk;have:=hb4.size;omega
       obtain ⟨a4,a5,a6⟩:=a0A hbn HX.out
       try rw [HF.out] at a4
       have HS9:=jH (HSE.out.below (a0D hbo h3));have HH9:=jH (h1);have HD9:=jH (show ∀k∈fs,k∉fh from fun k hk hk'=>by have:=h2 k hk';have:=HSE.out.lt k hk;have:=hbo.size;omega);have HF9:=jH (And.intro (show ∀k∈fs,w.heap.size≤k from HSF.out) (show ∀k∈fh,w.heap.size≤k from h2'));have HB9:=jH hbn;clear h1 h2 h2' h3 hb4 hbn hbo)
    | (go_at_call 255
       refine a0B ?_;intro W4 hW4;have hbo:jB wh W4:=by rw [hW4];repeat (first|exact jR|refine a0C ?_ _|refine Below.drew ?_)
       have hb4:jB w W4:=a0D HB1.out hbo;clear hW4;refine (l0J S0 x.smp (rs:Nat) f0 W4 (HSE0.out.below hb4) hln).mono ?_;rintro e ws ⟨S,fs,rfl,h1,h2,h3⟩;have hbn:jB w ws:=a0D hb4 h3;have h2':∀k∈fs,w.heap.size≤k:=fun k hk=>by have:=h2 k hk;have:=hb4.size;omega
       obtain ⟨a4,a5,a6⟩:=a0A hbn HX.out
       try rw [HF.out] at a4
       have HS9:=jH (h1);have HH9:=jH (HHI.out.below (a0D hbo h3));have HD9:=jH (show ∀k∈fs,k∉fh from fun k hk hk'=>by have:=h2 k hk;have:=HHI.out.lt k hk';have:=hbo.size;omega);have HF9:=jH (And.intro (show ∀k∈fs,w.heap.size≤k from h2') (show ∀k∈fh,w.heap.size≤k from HHF.out));have HB9:=jH hbn;clear h1 h2 h2' h3 hb4 hbn hbo)
    | (go_at_call 255
       refine a0B ?_;intro W4 hW4;have hb4:jB w W4:=by rw [hW4];repeat (first|exact jR|refine a0C ?_ _|refine Below.drew ?_)
       clear hW4;refine (l0J S0 x.smp (rs:Nat) f0 W4 (HSE0.out.below hb4) hln).mono ?_;rintro e ws ⟨S,fs,rfl,h1,h2,h3⟩;have hbn:jB w ws:=a0D hb4 h3;have h2':∀k∈fs,w.heap.size≤k:=fun k hk=>by have:=h2 k hk;have:=hb4.size;omega
       obtain ⟨a4,a5,a6⟩:=a0A hbn HX.out
       try rw [HF.out] at a4
       have HSE:=jH h1;have HSF:=jH h2';have HB1:=jH hbn;clear h1 h2 h2' h3 hb4 hbn)
    | (go_at_call 256
       refine a0B ?_;intro W4 hW4;have hb4:jB w W4:=by rw [hW4];repeat (first|exact jR|refine a0C ?_ _|refine Below.drew ?_)
       clear hW4;refine (k0C H0 x.past rh g0 W4 (HHI0.out.below hb4) (by omega)).mono ?_;rintro e wh ⟨H,fh,rfl,h1,h2,h3⟩;have hbn:jB w wh:=a0D hb4 h3;have h2':∀k∈fh,w.heap.size≤k:=fun k hk=>by have:=h2 k hk;have:=hb4.size;omega
       obtain ⟨a4,a5,a6⟩:=a0A hbn HX.out
       try rw [HF.out] at a4
       have HHI:=jH h1;have HHF:=jH h2';have HB1:=jH hbn;clear h1 h2 h2' h3 hb4 hbn)))
   all_goals go_wp2
   all_goals go_ret
   all_goals exact p1F HS9.out HH9.out HD9.out HF9.out.1 HF9.out.2 HB9.out H7.out h8 HF.out
end
end Go.Proofs.YtmniiodpbebnmaaGreat
