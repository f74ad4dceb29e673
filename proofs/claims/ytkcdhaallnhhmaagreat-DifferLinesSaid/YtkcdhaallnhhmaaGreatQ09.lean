/- Part 9 of the proof: SerPut. -/
import Derived.Test.YtkcdhaallnhhmaaGreatQ04
import Derived.Test.YtkcdhaallnhhmaaGreatQ06
import Derived.Test.YtkcdhaallnhhmaaGreatQ08
namespace Go.Proofs.YtkcdhaallnhhmaaGreat
set_option linter.unusedSimpArgs false
set_option linter.unusedVariables false
set_option linter.unusedSectionVars false
set_option maxRecDepth 100000
set_option maxHeartbeats 16000000
section
open Go.RowKit Go.Lib Go.Sort
theorem ser_step {w w':World} {S:Nat} {v v':Value} {room:Int} {out:List Smp} (hS:w.heap[S]?=some (.cells #[v,.int .i64 room] 251 (0,0))) (hne:v.ownBlock≠some S) (hown:OwnL smpC 118 2 0 w' v' out)
    (hg:w.grownBy w' v.ownBlock) (hb:v'.ownBlock=v.ownBlock∨∀r,v'.ownBlock=some r→w.heap.size≤r) :
    SerIn (w'.setCell ⟨S,0,none⟩ v') S out room (S::v'.ownBlock.toList)∧Upd w (w'.setCell ⟨S,0,none⟩ v') (S::v.ownBlock.toList) (S::v'.ownBlock.toList):=by
  have hSlt:=(jL hS);have hS':w'.heap[S]?=some (.cells #[v,.int .i64 room] 251 (0,0)):=(hg.block S hSlt (fun e=>hne e.symm)).trans hS;have hne':v'.ownBlock≠some S:=fun e=>by
   rcases hb with h|h
   · exact hne (h ▸ e)
   · have:=h S e;omega
  refine ⟨⟨v',v'.ownBlock.toList,setCell_block hS',⟨hown.kept (fun r hr=>Below.heap_setCell _ _ _ _ (fun e=>by have e':r=S:=e;rw [e'] at hr;exact hne' hr)),rfl⟩,by simpa using hne',rfl⟩,?_⟩;refine ⟨hg.os,hg.tape,hg.output,by simp [World.setCell];exact hg.size,fun k hk hn=>?_,fun k hk=>?_⟩
  · simp only [List.mem_cons,Option.mem_toList,not_or] at hn
    exact (Below.heap_setCell _ _ _ _ hn.1).trans (hg.block k hk (fun e=>hn.2 e.symm))
  · rcases List.mem_cons.1 hk with rfl|hk
    · exact .inl (List.mem_cons_self ..)
    · have hk':v'.ownBlock=some k:=by simpa using hk
      rcases hb with h|h
      · exact .inl (List.mem_cons_of_mem _ (by rw [←h];simpa using hk'))
      · exact .inr (h k hk')
def insS (l:List Smp) (x:Smp):List Smp:=l.take (placeS l x.1)++x::l.drop (placeS l x.1)
def hitS (l:List Smp) (x:Smp):Bool:=decide ((l[placeS l x.1]?).map (·.1)=some x.1)
def cutS (room:Int) (m:List Smp):List Smp:=if room<(m.length:Int) then m.drop 1 else m
def putS (l:List Smp) (room:Int) (x:Smp):List Smp :=
 if hitS l x=true then l.set (placeS l x.1) x else cutS room (insS l x)
theorem insS_len (l:List Smp) (x:Smp):(insS l x).length=l.length+1:=by
 have:=placeS_le l x.1;simp [insS];omega
def SerSays (w:World) (S:Nat) (l:List Smp) (room:Int) (fp:List Nat) (v:Value) (e:Ending) (w':World):Prop :=
 ∃fp',e=.returned v∧SerIn w' S l room fp'∧Upd w w' fp fp'
theorem smpRow_set (l:List Smp) (x:Smp):∀p,p<l.length→cellsOfRow smpC (l.set p x)=((cellsOfRow smpC l).set (p * 2) (.int .i64 x.1)).set (p * 2+1) (.int .i64 x.2):=by
 induction l with
 | nil=>intro p hp;simp at hp
 | cons a l ih =>
   intro p hp
   cases p with
   | zero=>rfl
   | succ p =>
     rw [List.set_cons_succ,cellsOfRow_cons,cellsOfRow_cons,ih p (by simpa using hp),show (p+1) * 2=p * 2+2 by omega];rfl
theorem own_set {base:Nat} {w:World} {g c:Nat} {l:List Smp} (h:OwnL smpC 118 2 base w (.slice (some ⟨g,0,none⟩) l.length c) l) (p:Nat) (hp:p<l.length) (x:Smp) :
 OwnL smpC 118 2 base ((w.setCell ⟨g,p * 2,none⟩ (.int .i64 x.1)).setCell ⟨g,p * 2+1,none⟩ (.int .i64 x.2)) (.slice (some ⟨g,0,none⟩) l.length c) (l.set p x)∧w.grownBy ((w.setCell ⟨g,p * 2,none⟩ (.int .i64 x.1)).setCell ⟨g,p * 2+1,none⟩ (.int .i64 x.2)) (some g):=by
 obtain ⟨h1,g1⟩:=World.ownsRow.stored h (p * 2) (.int .i64 x.1);obtain ⟨h2,g2⟩:=World.ownsRow.stored h1 (p * 2+1) (.int .i64 x.2);refine ⟨?_,grownBy_trans g1 g2⟩;unfold OwnL;rw [smpRow_set l x p hp,List.length_set];exact h2
theorem SerSays.later {w W W':World} {S:Nat} {l:List Smp} {room:Int} {fp:List Nat} {v:Value} {e:Ending} (h:SerSays w S l room fp v e W) (hb:jB W W'):SerSays w S l room fp v e W':=by
 obtain ⟨fp',h1,h2,h3⟩:=h;exact ⟨fp',h1,h2.below hb,h3.trans (Upd.of_below hb _)⟩
theorem ser_set {w w2:World} {S g c:Nat} {l:List Smp} {room:Int} {p:Nat} {x:Smp} (hb:jB w w2) (hS:w.heap[S]?=some (.cells #[.slice (some ⟨g,0,none⟩) l.length c,.int .i64 room] 251 (0,0))) (hSg:S≠g)
    (hown:OwnL smpC 118 2 0 w (.slice (some ⟨g,0,none⟩) l.length c) l) (hp:p<l.length) :
    SerSays w S (l.set p x) room (S::(Value.slice (some ⟨g,0,none⟩) l.length c).ownBlock.toList) (.int .i64 0) (.returned (.int .i64 0)) ((w2.setCell ⟨g,p * 2,none⟩ (.int .i64 x.1)).setCell ⟨g,p * 2+1,none⟩ (.int .i64 x.2)):=by
  have hSlt:=(jL hS);obtain ⟨h1,h2⟩:=own_set (hown.below hb) p hp x;have hS2:=(hb.block S hSlt).trans hS;have hSlt2:=(jL hS2);refine ⟨_,rfl,⟨.slice (some ⟨g,0,none⟩) l.length c,_,(h2.block S hSlt2 (fun e=>hSg (by injection e))).trans hS2,⟨h1,rfl⟩,by simpa [Value.ownBlock] using hSg,rfl⟩,?_⟩;refine (Upd.of_below hb _).trans ⟨h2.os,h2.tape,h2.output,h2.size,fun k hk hn=>h2.block k hk (fun e=>hn (by injection e with e;rw [e];simp [Value.ownBlock])),fun _ h=>.inl h⟩
theorem serPut_hit (S:Nat) (l:List Smp) (room:Int) (fp:List Nat) (x:Smp) (w:World) (h:SerIn w S l room fp) (hr:risingS l) (hl:l.length≤300) (hroom:0<room) (hx1:0≤x.1) (hx2:0≤x.2) (hhit:hitS l x=true) :
 Calls Tryz.prog 165 #[.pointer (some ⟨S,0,none⟩),.int .i64 x.1,.int .i64 x.2] w (SerSays w S (l.set (placeS l x.1) x) room fp (.int .i64 0)):=by
 have hp:∃h:placeS l x.1<l.length,(l[placeS l x.1]).1=x.1:=by
  unfold hitS at hhit;rw [decide_eq_true_eq] at hhit
  cases hq:l[placeS l x.1]? with
  | none=>rw [hq] at hhit;cases hhit
  | some y =>
    obtain ⟨h1,rfl⟩:=List.getElem?_eq_some_iff.1 hq;rw [hq] at hhit;exact ⟨h1,by simpa using hhit⟩
 have HPL:=jH (serPlace_any S l room fp x.1 w h hr (by omega));generalize placeS l x.1=p at hp HPL;obtain ⟨hp1,hp2⟩:=hp;have hs0:serE x.1 x.2=0:=by unfold serE;rw [if_neg (by omega),if_neg (by omega)]
 have HS0:=jH hs0;obtain ⟨v,fr,hS,⟨hown,rfl⟩,hnS,rfl⟩:=h;clear hs0 hhit hr
 rcases Go.Joins.ownsRow_forms hown with ⟨rfl,hz⟩|⟨g,c,rfl⟩
 · omega
 · have hSlt:=(jL hS)
   have hSg:S≠g:=by intro e;apply hnS;rw [e];simp [Value.ownBlock]
   obtain ⟨g',o',e',hglt,hc⟩:=(RowIn.own eSmp.len hown:RowIn 2 smpC w _ l).at_ hp1;injection e' with e'
   injection e' with e1 e2
   subst e1 e2;have hc0:=hc 0 _ rfl;have hc1:=hc 1 _ rfl;rw [hp2] at hc0;simp only [Nat.zero_add,Nat.add_zero] at hc0 hc1
   obtain ⟨cur,hgb,_⟩:=own_open hown;have HO:=jH hown;have HS:=jH hS;have HG:=jH hgb;have q0:(0:Int)≤((p:Nat):Int):=by omega
   have q1:((p:Nat):Int)<(l.length:Int):=by omega
   have hroom0:(room == 0)=false:=by simp;omega
   have z0:w.cell? ⟨S,0,none⟩=some (.slice (some ⟨g,0,none⟩) l.length c):=by simp only [World.cell?,hS];rfl
   have z1:w.cell? ⟨S,1,none⟩=some (.int .i64 room):=by simp only [World.cell?,hS];rfl
   clear hc hnS hown hS hgb hp2
   go_enter Tryz.func165,Tryz.ntmps165
   go_wp2_with (first
    | (go_at_call 113;refine (seriesRight_any _ _ _).mono ?_;rw [HS0.out];rintro e w1 ⟨rfl,rfl⟩)
    | (go_at_call 194;refine HPL.out.mono ?_;rintro e w2 ⟨rfl,hb2⟩
       have hc0':=(hb2.cell (p:=⟨g,p * 2,none⟩) hglt).trans hc0;have hc1':=(hb2.cell (p:=⟨g,p * 2+1,none⟩) hglt).trans hc1;have z0':=(hb2.cell (p:=⟨S,0,none⟩) hSlt).trans z0;have fz0:w2.frozen? ⟨g,p * 2,none⟩=false:=plain_cells ((hb2.block g hglt).trans HG.out);have fz1:w2.frozen? ⟨g,p * 2+1,none⟩=false:=plain_cells ((hb2.block g hglt).trans HG.out);have hsz2:=hb2.size;have hg2:g<w2.heap.size:=by omega
       have hS2:S<w2.heap.size:=by omega
       have HB2:=jH hb2))
   go_region
   all_goals go_wp2
   all_goals go_ret
   all_goals exact SerSays.later (ser_set HB2.out HS.out hSg HO.out hp1) (by repeat (first|exact jR|refine balloc ?_ _|refine Below.drew ?_))
theorem serPut_new (S:Nat) (l:List Smp) (room:Int) (fp:List Nat) (x:Smp) (w:World) (h:SerIn w S l room fp) (hr:risingS l) (hl:l.length≤300) (hroom:0<room) (hx1:0≤x.1) (hx2:0≤x.2) (hhit:hitS l x=false) :
 Calls Tryz.prog 165 #[.pointer (some ⟨S,0,none⟩),.int .i64 x.1,.int .i64 x.2] w (SerSays w S (cutS room (insS l x)) room fp (.int .i64 0)):=by
 have hmiss:∀h:placeS l x.1<l.length,(l[placeS l x.1]).1≠x.1:=fun h e=>by
  unfold hitS at hhit;rw [decide_eq_false_iff_not,List.getElem?_eq_getElem h] at hhit;exact hhit (by simp [e])
 have HPL:=jH (serPlace_any S l room fp x.1 w h hr (by omega));have hpl:=placeS_le l x.1;have hil:=insS_len l x;have HIN:=jH (show insS l x=l.take (placeS l x.1)++x::l.drop (placeS l x.1) from rfl);generalize insS l x=m at HIN hil;generalize placeS l x.1=p at hmiss HPL hpl HIN;have hs0:serE x.1 x.2=0:=by unfold serE;rw [if_neg (by omega),if_neg (by omega)]
 have HS0:=jH hs0;obtain ⟨v,fr,hS,⟨hown,rfl⟩,hnS,rfl⟩:=h;clear hs0 hhit hr;obtain ⟨A,c,rfl⟩:=hown.form;have hSlt:=(jL hS);have hR:=(RowIn.own eSmp.len hown:RowIn 2 smpC w _ l);have HO:=jH hown;have HS:=jH hS;have hnS':(Value.slice A l.length c).ownBlock≠some S:=fun e=>hnS (by rw [e];simp)
 have HN:=jH hnS';have q0:(0:Int)≤((p:Nat):Int):=by omega
 have hroom0:(room == 0)=false:=by simp;omega
 have z0:w.cell? ⟨S,0,none⟩=some (.slice A l.length c):=by simp only [World.cell?,hS];rfl
 have z1:w.cell? ⟨S,1,none⟩=some (.int .i64 room):=by simp only [World.cell?,hS];rfl
 have hlt0:∀r,(Value.slice A l.length c).ownBlock=some r→r<w.heap.size:=fun r hr=>(hown.lt hr).2
 have HLT:=jH hlt0;have HIL:=jH hil;clear hnS hown hS hnS' hlt0 hil
 by_cases hplt:p<l.length
 · obtain ⟨g,o,rfl,hglt,hc⟩:=hR.at_ hplt
   have hc0:=hc 0 _ rfl;rw [Nat.add_zero] at hc0;have hne:=hmiss hplt;have q1:((p:Nat):Int)<(l.length:Int):=by omega
   generalize l[p]=y at hc0 hne;have hq:(y.1 == x.1)=false:=by simpa using hne
   clear hc hne hmiss hR
   go_enter Tryz.func165,Tryz.ntmps165
   go_wp2_with (first
    | (go_at_call 113;refine (seriesRight_any _ _ _).mono ?_;rw [HS0.out];rintro e w1 ⟨rfl,rfl⟩)
    | (go_at_call 194;refine HPL.out.mono ?_;rintro e w2 ⟨rfl,hb2⟩
       have hc0':=(hb2.cell (p:=⟨g,o+p * 2,none⟩) hglt).trans hc0;have hg2:g<w2.heap.size:=by have:=hb2.size;omega
       have z0':=(hb2.cell (p:=⟨S,0,none⟩) hSlt).trans z0;have z1':=(hb2.cell (p:=⟨S,1,none⟩) hSlt).trans z1;have hsz2:=hb2.size;have hS2:S<w2.heap.size:=by omega
       have HB2:=jH hb2))
   refine name_world ?_;intro W3 hW3;have hb3:jB w2 W3:=by rw [hW3];exact balloc jR _
   have hx3:W3.heap[w2.heap.size]?=some (.cells #[.int .i64 x.1,.int .i64 x.2] 118 (0,0)):=by rw [hW3];exact heap_alloc_new _ _
   have hbw3:jB w W3:=bthen HB2.out hb3;have hS3:=(hbw3.block S hSlt).trans HS.out;obtain ⟨a1,a2,a3⟩:=box_cells jR hx3;obtain ⟨a4,a5,a6⟩:=box_cells jR hS3;have HS3:=jH hS3;have HBW3:=jH hbw3;clear hW3 hx3 hS3 hbw3 hb3
   go_region_with ((
     go_at_call 195
     refine calls_named ?_;intro W4 hW4;have hb4:jB W3 W4:=by rw [hW4];repeat (first|exact jR|refine balloc ?_ _|refine Below.drew ?_)
     have hB4:W4.heap[W3.heap.size]?=some (.cells #[.int .i64 x.1,.int .i64 x.2] 118 (0,0)):=by rw [hW4];first|exact heap_alloc_new W3.drew _|exact heap_alloc_new W3 _
     clear hW4;have hS4:=(hb4.block S a6).trans HS3.out;have hsz3:=HBW3.out.size;have C:=insert_any 0 _ l p x W3.heap.size W4 ((HO.out.below HBW3.out).below hb4) (by omega) (by omega) hB4 (fun e=>by have:=HLT.out _ e;omega) (Nat.zero_le _);rw [←HIN.out] at C;refine C.mono ?_;rintro e w5 ⟨A5,c5,rfl,hown5,hg5,hblk5⟩;clear C;have hS5:=(hg5.block S (jL hS4) (fun e=>HN.out e.symm)).trans hS4;obtain ⟨e1,e2,e3⟩:=box_cells jR hS5
     have HST:=jH (ser_step hS4 HN.out hown5 hg5 hblk5);have HB4:=jH (bthen HBW3.out hb4);clear hown5 hg5 hblk5 hS5 hS4 hB4 hb4))
   all_goals
     (try go_wp2_with fail)
     refine name_world ?_;intro W6 hW6;have hst:=HST.out;have hW6':∃W,W6=W∧Below (w5.setCell ⟨S,0,none⟩ (.slice A5 m.length c5)).heap.size (w5.setCell ⟨S,0,none⟩ (.slice A5 m.length c5)) W:=⟨_,hW6,by repeat (first|exact jR|refine balloc ?_ _|refine Below.drew ?_)⟩;obtain ⟨W7,rfl,hb6⟩:=hW6';clear hW6;have hser6:=hst.1.below hb6;have hupd6:=((Upd.of_below HB4.out _).trans hst.2).trans (Upd.of_below hb6 _)
     clear hst;obtain ⟨v6,fr6,hS6,⟨hown6,hfr6⟩,hnS6,hfp6⟩:=id hser6;have hv6:v6=.slice A5 m.length c5:=by
      have h1:W6.cell? ⟨S,0,none⟩=some v6:=by simp only [World.cell?,hS6];rfl
      have h2:W6.cell? ⟨S,0,none⟩=some (.slice A5 m.length c5):=by
       rw [hb6.cell (p:=⟨S,0,none⟩) (by simp [World.setCell];exact e3),World.cell?_setCell_same _ _ _ (by rw [e1 0];rfl)]
      rw [h1] at h2;injection h2
     subst hv6;obtain ⟨d1,d2,d3⟩:=box_cells jR hS6;have HSER:=jH hser6;have HUPD:=jH hupd6;have HS6:=jH hS6;have HO6:=jH hown6;have HN6:=jH (show (Value.slice A5 m.length c5).ownBlock≠some S from fun e=>hnS6 (by rw [hfr6,e];simp));clear hser6 hupd6 hS6 hown6 hnS6 hfr6 hfp6 hb6
     by_cases hbig:room<(m.length:Int)
     · have EC:=jH (show cutS room m=m.drop 1 from if_pos hbig)
       go_wp2_with fail
       go_quiet (fail)
       go_wp2_with (first
        | (go_at_call 196
           refine calls_named ?_;intro W8 hW8;have hb8:jB W6 W8:=by rw [hW8];exact below_drewN jR _
           clear hW8;have hS8:=(hb8.block S d3).trans HS6.out;refine (delete_any 0 _ m 1 W8 (HO6.out.below hb8) (by have:=HIL.out;omega) (by have:=HIL.out;omega)).mono ?_;rintro e w9 ⟨A9,c9,rfl,hown9,hg9,hblk9⟩;have hS9:=(hg9.block S (jL hS8) (fun e=>HN6.out e.symm)).trans hS8;obtain ⟨g1,g2,g3⟩:=box_cells jR hS9;have HST9:=jH (ser_step hS8 HN6.out hown9 hg9 hblk9);have HB8:=jH hb8;clear hown9 hg9 hblk9 hS9 hS8 hb8))
       go_ret
       obtain ⟨h1,h2⟩:=HST9.out;rw [EC.out];rw [List.length_drop] at h1 h2;refine ⟨_,rfl,h1,HUPD.out.trans ((Upd.of_below HB8.out _).trans ?_)⟩;exact h2
     · have EC:=jH (show cutS room m=m from if_neg hbig)
       go_wp2_with fail
       go_quiet (fail)
       go_wp2
       go_ret
       rw [EC.out];exact ⟨_,rfl,HSER.out.below (below_drewN jR _),HUPD.out.trans (Upd.of_below (below_drewN jR _) _)⟩
 · have q1:¬((p:Nat):Int)<(l.length:Int):=by omega
   clear hmiss hR
   go_enter Tryz.func165,Tryz.ntmps165
   go_wp2_with (first
    | (go_at_call 113;refine (seriesRight_any _ _ _).mono ?_;rw [HS0.out];rintro e w1 ⟨rfl,rfl⟩)
    | (go_at_call 194;refine HPL.out.mono ?_;rintro e w2 ⟨rfl,hb2⟩
       have z0':=(hb2.cell (p:=⟨S,0,none⟩) hSlt).trans z0;have z1':=(hb2.cell (p:=⟨S,1,none⟩) hSlt).trans z1;have hsz2:=hb2.size;have hS2:S<w2.heap.size:=by omega
       have HB2:=jH hb2))
   refine name_world ?_;intro W3 hW3;have hb3:jB w2 W3:=by rw [hW3];exact balloc jR _
   have hx3:W3.heap[w2.heap.size]?=some (.cells #[.int .i64 x.1,.int .i64 x.2] 118 (0,0)):=by rw [hW3];exact heap_alloc_new _ _
   have hbw3:jB w W3:=bthen HB2.out hb3;have hS3:=(hbw3.block S hSlt).trans HS.out;obtain ⟨a1,a2,a3⟩:=box_cells jR hx3;obtain ⟨a4,a5,a6⟩:=box_cells jR hS3;have HS3:=jH hS3;have HBW3:=jH hbw3;clear hW3 hx3 hS3 hbw3 hb3
   go_region_with ((
     go_at_call 195
     refine calls_named ?_;intro W4 hW4;have hb4:jB W3 W4:=by rw [hW4];repeat (first|exact jR|refine balloc ?_ _|refine Below.drew ?_)
     have hB4:W4.heap[W3.heap.size]?=some (.cells #[.int .i64 x.1,.int .i64 x.2] 118 (0,0)):=by rw [hW4];first|exact heap_alloc_new W3.drew _|exact heap_alloc_new W3 _
     clear hW4;have hS4:=(hb4.block S a6).trans HS3.out;have hsz3:=HBW3.out.size;have C:=insert_any 0 _ l p x W3.heap.size W4 ((HO.out.below HBW3.out).below hb4) (by omega) (by omega) hB4 (fun e=>by have:=HLT.out _ e;omega) (Nat.zero_le _);rw [←HIN.out] at C;refine C.mono ?_;rintro e w5 ⟨A5,c5,rfl,hown5,hg5,hblk5⟩;clear C;have hS5:=(hg5.block S (jL hS4) (fun e=>HN.out e.symm)).trans hS4;obtain ⟨e1,e2,e3⟩:=box_cells jR hS5
     have HST:=jH (ser_step hS4 HN.out hown5 hg5 hblk5);have HB4:=jH (bthen HBW3.out hb4);clear hown5 hg5 hblk5 hS5 hS4 hB4 hb4))
   all_goals
     (try go_wp2_with fail)
     refine name_world ?_;intro W6 hW6;have hst:=HST.out;have hW6':∃W,W6=W∧Below (w5.setCell ⟨S,0,none⟩ (.slice A5 m.length c5)).heap.size (w5.setCell ⟨S,0,none⟩ (.slice A5 m.length c5)) W:=⟨_,hW6,by repeat (first|exact jR|refine balloc ?_ _|refine Below.drew ?_)⟩;obtain ⟨W7,rfl,hb6⟩:=hW6';clear hW6;have hser6:=hst.1.below hb6;have hupd6:=((Upd.of_below HB4.out _).trans hst.2).trans (Upd.of_below hb6 _)
     clear hst;obtain ⟨v6,fr6,hS6,⟨hown6,hfr6⟩,hnS6,hfp6⟩:=id hser6;have hv6:v6=.slice A5 m.length c5:=by
      have h1:W6.cell? ⟨S,0,none⟩=some v6:=by simp only [World.cell?,hS6];rfl
      have h2:W6.cell? ⟨S,0,none⟩=some (.slice A5 m.length c5):=by
       rw [hb6.cell (p:=⟨S,0,none⟩) (by simp [World.setCell];exact e3),World.cell?_setCell_same _ _ _ (by rw [e1 0];rfl)]
      rw [h1] at h2;injection h2
     subst hv6;obtain ⟨d1,d2,d3⟩:=box_cells jR hS6;have HSER:=jH hser6;have HUPD:=jH hupd6;have HS6:=jH hS6;have HO6:=jH hown6;have HN6:=jH (show (Value.slice A5 m.length c5).ownBlock≠some S from fun e=>hnS6 (by rw [hfr6,e];simp));clear hser6 hupd6 hS6 hown6 hnS6 hfr6 hfp6 hb6
     by_cases hbig:room<(m.length:Int)
     · have EC:=jH (show cutS room m=m.drop 1 from if_pos hbig)
       go_wp2_with fail
       go_quiet (fail)
       go_wp2_with (first
        | (go_at_call 196
           refine calls_named ?_;intro W8 hW8;have hb8:jB W6 W8:=by rw [hW8];exact below_drewN jR _
           clear hW8;have hS8:=(hb8.block S d3).trans HS6.out;refine (delete_any 0 _ m 1 W8 (HO6.out.below hb8) (by have:=HIL.out;omega) (by have:=HIL.out;omega)).mono ?_;rintro e w9 ⟨A9,c9,rfl,hown9,hg9,hblk9⟩;have hS9:=(hg9.block S (jL hS8) (fun e=>HN6.out e.symm)).trans hS8;obtain ⟨g1,g2,g3⟩:=box_cells jR hS9;have HST9:=jH (ser_step hS8 HN6.out hown9 hg9 hblk9);have HB8:=jH hb8;clear hown9 hg9 hblk9 hS9 hS8 hb8))
       go_ret
       obtain ⟨h1,h2⟩:=HST9.out;rw [EC.out];rw [List.length_drop] at h1 h2;refine ⟨_,rfl,h1,HUPD.out.trans ((Upd.of_below HB8.out _).trans ?_)⟩;exact h2
     · have EC:=jH (show cutS room m=m from if_neg hbig)
       go_wp2_with fail
       go_quiet (fail)
       go_wp2
       go_ret
       rw [EC.out];exact ⟨_,rfl,HSER.out.below (below_drewN jR _),HUPD.out.trans (Upd.of_below (below_drewN jR _) _)⟩
theorem serPut_any (S:Nat) (l:List Smp) (room:Int) (fp:List Nat) (x:Smp) (w:World) (h:SerIn w S l room fp) (hr:risingS l) (hl:l.length≤300) (hroom:0<room) (hx1:0≤x.1) (hx2:0≤x.2) :
 Calls Tryz.prog 165 #[.pointer (some ⟨S,0,none⟩),.int .i64 x.1,.int .i64 x.2] w (SerSays w S (putS l room x) room fp (.int .i64 0)):=by
 unfold putS
 cases hh:hitS l x with
 | true=>exact serPut_hit S l room fp x w h hr hl hroom hx1 hx2 hh
 | false=>exact serPut_new S l room fp x w h hr hl hroom hx1 hx2 hh
end
end Go.Proofs.YtkcdhaallnhhmaaGreat
