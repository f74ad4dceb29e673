/- Part 5 of the proof. -/
import Derived.Test.YtmniiodpbebnmaaGreatJ04
namespace Go.Proofs.YtmniiodpbebnmaaGreat
set_option linter.unusedSimpArgs false
set_option linter.unusedVariables false
set_option linter.unusedSectionVars false
set_option maxRecDepth 100000
set_option maxHeartbeats 16000000
section
open Go.RowKit Go.Lib Go.Sort
theorem l0S {w w':World} {S:Nat} {v v':Value} {room:Int} {out:List Smp} (hS:w.heap[S]?=some (.cells #[v,.int .i64 room] 270 (0,0))) (hne:v.ownBlock≠some S) (hown:b0Q b0X 111 2 0 w' v' out)
    (hg:w.grownBy w' v.ownBlock) (hb:v'.ownBlock=v.ownBlock∨∀r,v'.ownBlock=some r→w.heap.size≤r) :
    g0S (w'.setCell ⟨S,0,none⟩ v') S out room (S::v'.ownBlock.toList)∧Upd w (w'.setCell ⟨S,0,none⟩ v') (S::v.ownBlock.toList) (S::v'.ownBlock.toList):=by
  have hSlt:=(jL hS);have hS':w'.heap[S]?=some (.cells #[v,.int .i64 room] 270 (0,0)):=(hg.block S hSlt (fun e=>hne e.symm)).trans hS;have hne':v'.ownBlock≠some S:=fun e=>by
   rcases hb with h|h
   · exact hne (h ▸ e)
   · have:=h S e;omega
  refine ⟨⟨v',v'.ownBlock.toList,a0E hS',⟨hown.kept (fun r hr=>Below.heap_setCell _ _ _ _ (fun e=>by have e':r=S:=e;rw [e'] at hr;exact hne' hr)),rfl⟩,by simpa using hne',rfl⟩,?_⟩;refine ⟨hg.os,hg.tape,hg.output,by simp [World.setCell];exact hg.size,fun k hk hn=>?_,fun k hk=>?_⟩
  · simp only [List.mem_cons,Option.mem_toList,not_or] at hn
    exact (Below.heap_setCell _ _ _ _ hn.1).trans (hg.block k hk (fun e=>hn.2 e.symm))
  · rcases List.mem_cons.1 hk with rfl|hk
    · exact .inl (List.mem_cons_self ..)
    · have hk':v'.ownBlock=some k:=by simpa using hk
      rcases hb with h|h
      · exact .inl (List.mem_cons_of_mem _ (by rw [←h];simpa using hk'))
      · exact .inr (h k hk')
def h1Z (l:List Smp) (x:Smp):List Smp:=l.take (a0Q l x.1)++x::l.drop (a0Q l x.1)
def y0Y (l:List Smp) (x:Smp):Bool:=decide ((l[a0Q l x.1]?).map (·.1)=some x.1)
def x0T (room:Int) (m:List Smp):List Smp:=if room<(m.length:Int) then m.drop 1 else m
def i0O (l:List Smp) (room:Int) (x:Smp):List Smp :=
 if y0Y l x=true then l.set (a0Q l x.1) x else x0T room (h1Z l x)
theorem c1E (l:List Smp) (x:Smp):(h1Z l x).length=l.length+1:=by
 have:=e0S l x.1;simp [h1Z];omega
def i0A (w:World) (S:Nat) (l:List Smp) (room:Int) (fp:List Nat) (v:Value) (e:Ending) (w':World):Prop :=
 ∃fp',e=.returned v∧g0S w' S l room fp'∧Upd w w' fp fp'
theorem e1J (l:List Smp) (x:Smp):∀p,p<l.length→a0G b0X (l.set p x)=((a0G b0X l).set (p * 2) (.int .i64 x.1)).set (p * 2+1) (.int .i64 x.2):=by
 induction l with
 | nil=>intro p hp;simp at hp
 | cons a l ih =>
   intro p hp
   cases p with
   | zero=>rfl
   | succ p =>
     rw [List.set_cons_succ,a0Y,a0Y,ih p (by simpa using hp),show (p+1) * 2=p * 2+2 by omega];rfl
theorem t1S {base:Nat} {w:World} {g c:Nat} {l:List Smp} (h:b0Q b0X 111 2 base w (.slice (some ⟨g,0,none⟩) l.length c) l) (p:Nat) (hp:p<l.length) (x:Smp) :
 b0Q b0X 111 2 base ((w.setCell ⟨g,p * 2,none⟩ (.int .i64 x.1)).setCell ⟨g,p * 2+1,none⟩ (.int .i64 x.2)) (.slice (some ⟨g,0,none⟩) l.length c) (l.set p x)∧w.grownBy ((w.setCell ⟨g,p * 2,none⟩ (.int .i64 x.1)).setCell ⟨g,p * 2+1,none⟩ (.int .i64 x.2)) (some g):=by
 obtain ⟨h1,g1⟩:=World.ownsRow.stored h (p * 2) (.int .i64 x.1);obtain ⟨h2,g2⟩:=World.ownsRow.stored h1 (p * 2+1) (.int .i64 x.2);refine ⟨?_,b0L g1 g2⟩;unfold b0Q;rw [e1J l x p hp,List.length_set];exact h2
theorem i0A.later {w W W':World} {S:Nat} {l:List Smp} {room:Int} {fp:List Nat} {v:Value} {e:Ending} (h:i0A w S l room fp v e W) (hb:jB W W'):i0A w S l room fp v e W':=by
 obtain ⟨fp',h1,h2,h3⟩:=h;exact ⟨fp',h1,h2.below hb,h3.trans (Upd.of_below hb _)⟩
theorem s1U {w w2:World} {S g c:Nat} {l:List Smp} {room:Int} {p:Nat} {x:Smp} (hb:jB w w2) (hS:w.heap[S]?=some (.cells #[.slice (some ⟨g,0,none⟩) l.length c,.int .i64 room] 270 (0,0))) (hSg:S≠g)
    (hown:b0Q b0X 111 2 0 w (.slice (some ⟨g,0,none⟩) l.length c) l) (hp:p<l.length) :
    i0A w S (l.set p x) room (S::(Value.slice (some ⟨g,0,none⟩) l.length c).ownBlock.toList) (.int .i64 0) (.returned (.int .i64 0)) ((w2.setCell ⟨g,p * 2,none⟩ (.int .i64 x.1)).setCell ⟨g,p * 2+1,none⟩ (.int .i64 x.2)):=by
  have hSlt:=(jL hS);obtain ⟨h1,h2⟩:=t1S (hown.below hb) p hp x;have hS2:=(hb.block S hSlt).trans hS;have hSlt2:=(jL hS2);refine ⟨_,rfl,⟨.slice (some ⟨g,0,none⟩) l.length c,_,(h2.block S hSlt2 (fun e=>hSg (by injection e))).trans hS2,⟨h1,rfl⟩,by simpa [Value.ownBlock] using hSg,rfl⟩,?_⟩;refine (Upd.of_below hb _).trans ⟨h2.os,h2.tape,h2.output,h2.size,fun k hk hn=>h2.block k hk (fun e=>hn (by injection e with e;rw [e];simp [Value.ownBlock])),fun _ h=>.inl h⟩
theorem h1U (S:Nat) (l:List Smp) (room:Int) (fp:List Nat) (x:Smp) (w:World) (h:g0S w S l room fp) (hr:b0G l) (hl:l.length≤300) (hroom:0<room) (hx1:0≤x.1) (hx2:0≤x.2) (hhit:y0Y l x=true) :
 Calls Tryz.prog 194 #[.pointer (some ⟨S,0,none⟩),.int .i64 x.1,.int .i64 x.2] w (i0A w S (l.set (a0Q l x.1) x) room fp (.int .i64 0)):=by
 have hp:∃h:a0Q l x.1<l.length,(l[a0Q l x.1]).1=x.1:=by
  unfold y0Y at hhit;rw [decide_eq_true_eq] at hhit
  cases hq:l[a0Q l x.1]? with
  | none=>rw [hq] at hhit;cases hhit
  | some y =>
    obtain ⟨h1,rfl⟩:=List.getElem?_eq_some_iff.1 hq;rw [hq] at hhit;exact ⟨h1,by simpa using hhit⟩
 have HPL:=jH (i0V S l room fp x.1 w h hr (by omega));generalize a0Q l x.1=p at hp HPL;obtain ⟨hp1,hp2⟩:=hp;have hs0:g0V x.1 x.2=0:=by unfold g0V;rw [if_neg (by omega),if_neg (by omega)]
 have HS0:=jH hs0;obtain ⟨v,fr,hS,⟨hown,rfl⟩,hnS,rfl⟩:=h;clear hs0 hhit hr
 rcases Go.Joins.ownsRow_forms hown with ⟨rfl,hz⟩|⟨g,c,rfl⟩
 · omega
 · have hSlt:=(jL hS)
   have hSg:S≠g:=by intro e;apply hnS;rw [e];simp [Value.ownBlock]
   obtain ⟨g',o',e',hglt,hc⟩:=(a0O.own d0J.len hown:a0O 2 b0X w _ l).at_ hp1;injection e' with e'
   injection e' with e1 e2
   subst e1 e2;have hc0:=hc 0 _ rfl;have hc1:=hc 1 _ rfl;rw [hp2] at hc0;simp only [Nat.zero_add,Nat.add_zero] at hc0 hc1
   obtain ⟨cur,hgb,_⟩:=h0A hown;have HO:=jH hown;have HS:=jH hS;have HG:=jH hgb;have q0:(0:Int)≤((p:Nat):Int):=by omega
   have q1:((p:Nat):Int)<(l.length:Int):=by omega
   have hroom0:(room == 0)=false:=by simp;omega
   have z0:w.cell? ⟨S,0,none⟩=some (.slice (some ⟨g,0,none⟩) l.length c):=by simp only [World.cell?,hS];rfl
   have z1:w.cell? ⟨S,1,none⟩=some (.int .i64 room):=by simp only [World.cell?,hS];rfl
   clear hc hnS hown hS hgb hp2
   go_enter Tryz.func194,Tryz.ntmps194
   go_wp2_with (first
    | (go_at_call 102;refine (b0I _ _ _).mono ?_;rw [HS0.out];rintro e w1 ⟨rfl,rfl⟩)
    | (go_at_call 232;refine HPL.out.mono ?_;rintro e w2 ⟨rfl,hb2⟩
       have hc0':=(hb2.cell (p:=⟨g,p * 2,none⟩) hglt).trans hc0;have hc1':=(hb2.cell (p:=⟨g,p * 2+1,none⟩) hglt).trans hc1;have z0':=(hb2.cell (p:=⟨S,0,none⟩) hSlt).trans z0;have fz0:w2.frozen? ⟨g,p * 2,none⟩=false:=f0E ((hb2.block g hglt).trans HG.out);have fz1:w2.frozen? ⟨g,p * 2+1,none⟩=false:=f0E ((hb2.block g hglt).trans HG.out);have hsz2:=hb2.size;have hg2:g<w2.heap.size:=by omega
       have hS2:S<w2.heap.size:=by omega
       have HB2:=jH hb2))
   go_region
   all_goals go_wp2
   all_goals go_ret
   all_goals exact i0A.later (s1U HB2.out HS.out hSg HO.out hp1) (by repeat (first|exact jR|refine a0C ?_ _|refine Below.drew ?_))
theorem f1W (S:Nat) (l:List Smp) (room:Int) (fp:List Nat) (x:Smp) (w:World) (h:g0S w S l room fp) (hr:b0G l) (hl:l.length≤300) (hroom:0<room) (hx1:0≤x.1) (hx2:0≤x.2) (hhit:y0Y l x=false) :
 Calls Tryz.prog 194 #[.pointer (some ⟨S,0,none⟩),.int .i64 x.1,.int .i64 x.2] w (i0A w S (x0T room (h1Z l x)) room fp (.int .i64 0)):=by
 have hmiss:∀h:a0Q l x.1<l.length,(l[a0Q l x.1]).1≠x.1:=fun h e=>by
  unfold y0Y at hhit;rw [decide_eq_false_iff_not,List.getElem?_eq_getElem h] at hhit;exact hhit (by simp [e])
 have HPL:=jH (i0V S l room fp x.1 w h hr (by omega));have hpl:=e0S l x.1;have hil:=c1E l x;have HIN:=jH (show h1Z l x=l.take (a0Q l x.1)++x::l.drop (a0Q l x.1) from rfl);generalize h1Z l x=m at HIN hil;generalize a0Q l x.1=p at hmiss HPL hpl HIN;have hs0:g0V x.1 x.2=0:=by unfold g0V;rw [if_neg (by omega),if_neg (by omega)]
 have HS0:=jH hs0;obtain ⟨v,fr,hS,⟨hown,rfl⟩,hnS,rfl⟩:=h;clear hs0 hhit hr;obtain ⟨A,c,rfl⟩:=hown.form;have hSlt:=(jL hS);have hR:=(a0O.own d0J.len hown:a0O 2 b0X w _ l);have HO:=jH hown;have HS:=jH hS;have hnS':(Value.slice A l.length c).ownBlock≠some S:=fun e=>hnS (by rw [e];simp)
 have HN:=jH hnS';have q0:(0:Int)≤((p:Nat):Int):=by omega
 have hroom0:(room == 0)=false:=by simp;omega
 have z0:w.cell? ⟨S,0,none⟩=some (.slice A l.length c):=by simp only [World.cell?,hS];rfl
 have z1:w.cell? ⟨S,1,none⟩=some (.int .i64 room):=by simp only [World.cell?,hS];rfl
 have hlt0:∀r,(Value.slice A l.length c).ownBlock=some r→r<w.heap.size:=fun r hr=>(hown.lt hr).2
 have HLT:=jH hlt0;have HIL:=jH hil;clear hnS hown hS hnS' hlt0 hil
 by_cases hplt:p<l.length
 · obtain ⟨g,o,rfl,hglt,hc⟩:=hR.at_ hplt
   have hc0:=hc 0 _ rfl;rw [Nat.add_zero] at hc0;have hne:=hmiss hplt;have q1:((p:Nat):Int)<(l.length:Int):=by omega
   generalize l[p]=y at hc0 hne;have hq:(y.1 == x.1)=false:=by simpa using hne
   clear hc hne hmiss hR
   go_enter Tryz.func194,Tryz.ntmps194
   go_wp2_with (first
    | (go_at_call 102;refine (b0I _ _ _).mono ?_;rw [HS0.out];rintro e w1 ⟨rfl,rfl⟩)
    | (go_at_call 232;refine HPL.out.mono ?_;rintro e w2 ⟨rfl,hb2⟩
       have hc0':=(hb2.cell (p:=⟨g,o+p * 2,none⟩) hglt).trans hc0;have hg2:g<w2.heap.size:=by have:=hb2.size;omega
       have z0':=(hb2.cell (p:=⟨S,0,none⟩) hSlt).trans z0;have z1':=(hb2.cell (p:=⟨S,1,none⟩) hSlt).trans z1;have hsz2:=hb2.size;have hS2:S<w2.heap.size:=by omega
       have HB2:=jH hb2))
   refine a0I ?_;intro W3 hW3;have hb3:jB w2 W3:=by rw [hW3];exact a0C jR _
   have hx3:W3.heap[w2.heap.size]?=some (.cells #[.int .i64 x.1,.int .i64 x.2] 111 (0,0)):=by rw [hW3];exact heap_alloc_new _ _
   have hbw3:jB w W3:=a0D HB2.out hb3;have hS3:=(hbw3.block S hSlt).trans HS.out;obtain ⟨a1,a2,a3⟩:=a0A jR hx3;obtain ⟨a4,a5,a6⟩:=a0A jR hS3;have HS3:=jH hS3;have HBW3:=jH hbw3;clear hW3 hx3 hS3 hbw3 hb3
   go_region_with ((
     go_at_call 233
     refine a0B ?_;intro W4 hW4;have hb4:jB W3 W4:=by rw [hW4];repeat (first|exact jR|refine a0C ?_ _|refine Below.drew ?_)
     have hB4:W4.heap[W3.heap.size]?=some (.cells #[.int .i64 x.1,.int .i64 x.2] 111 (0,0)):=by rw [hW4];first|exact heap_alloc_new W3.drew _|exact heap_alloc_new W3 _
     clear hW4;have hS4:=(hb4.block S a6).trans HS3.out;have hsz3:=HBW3.out.size;have C:=r0I 0 _ l p x W3.heap.size W4 ((HO.out.below HBW3.out).below hb4) (by omega) (by omega) hB4 (fun e=>by have:=HLT.out _ e;omega) (Nat.zero_le _);rw [←HIN.out] at C;refine C.mono ?_;rintro e w5 ⟨A5,c5,rfl,hown5,hg5,hblk5⟩;clear C;have hS5:=(hg5.block S (jL hS4) (fun e=>HN.out e.symm)).trans hS4;obtain ⟨e1,e2,e3⟩:=a0A jR hS5
     have HST:=jH (l0S hS4 HN.out hown5 hg5 hblk5);have HB4:=jH (a0D HBW3.out hb4);clear hown5 hg5 hblk5 hS5 hS4 hB4 hb4))
   all_goals
     (try go_wp2_with fail)
     refine a0I ?_;intro W6 hW6;have hst:=HST.out;have hW6':∃W,W6=W∧Below (w5.setCell ⟨S,0,none⟩ (.slice A5 m.length c5)).heap.size (w5.setCell ⟨S,0,none⟩ (.slice A5 m.length c5)) W:=⟨_,hW6,by repeat (first|exact jR|refine a0C ?_ _|refine Below.drew ?_)⟩;obtain ⟨W7,rfl,hb6⟩:=hW6';clear hW6;have hser6:=hst.1.below hb6;have hupd6:=((Upd.of_below HB4.out _).trans hst.2).trans (Upd.of_below hb6 _)
     clear hst;obtain ⟨v6,fr6,hS6,⟨hown6,hfr6⟩,hnS6,hfp6⟩:=id hser6;have hv6:v6=.slice A5 m.length c5:=by
      have h1:W6.cell? ⟨S,0,none⟩=some v6:=by simp only [World.cell?,hS6];rfl
      have h2:W6.cell? ⟨S,0,none⟩=some (.slice A5 m.length c5):=by
       rw [hb6.cell (p:=⟨S,0,none⟩) (by simp [World.setCell];exact e3),World.cell?_setCell_same _ _ _ (by rw [e1 0];rfl)]
      rw [h1] at h2;injection h2
     subst hv6;obtain ⟨d1,d2,d3⟩:=a0A jR hS6;have HSER:=jH hser6;have HUPD:=jH hupd6;have HS6:=jH hS6;have HO6:=jH hown6;have HN6:=jH (show (Value.slice A5 m.length c5).ownBlock≠some S from fun e=>hnS6 (by rw [hfr6,e];simp));clear hser6 hupd6 hS6 hown6 hnS6 hfr6 hfp6 hb6
     by_cases hbig:room<(m.length:Int)
     · have EC:=jH (show x0T room m=m.drop 1 from if_pos hbig)
       go_wp2_with fail
       go_quiet (fail)
       go_wp2_with (first
        | (go_at_call 234
           refine a0B ?_;intro W8 hW8;have hb8:jB W6 W8:=by rw [hW8];exact a0F jR _
           clear hW8;have hS8:=(hb8.block S d3).trans HS6.out;refine (m0I 0 _ m 1 W8 (HO6.out.below hb8) (by have:=HIL.out;omega) (by have:=HIL.out;omega)).mono ?_;rintro e w9 ⟨A9,c9,rfl,hown9,hg9,hblk9⟩;have hS9:=(hg9.block S (jL hS8) (fun e=>HN6.out e.symm)).trans hS8;obtain ⟨g1,g2,g3⟩:=a0A jR hS9;have HST9:=jH (l0S hS8 HN6.out hown9 hg9 hblk9);have HB8:=jH hb8;clear hown9 hg9 hblk9 hS9 hS8 hb8))
       go_ret
       obtain ⟨h1,h2⟩:=HST9.out;rw [EC.out];rw [List.length_drop] at h1 h2;refine ⟨_,rfl,h1,HUPD.out.trans ((Upd.of_below HB8.out _).trans ?_)⟩;exact h2
     · have EC:=jH (show x0T room m=m from if_neg hbig)
       go_wp2_with fail
       go_quiet (fail)
       go_wp2
       go_ret
       rw [EC.out];exact ⟨_,rfl,HSER.out.below (a0F jR _),HUPD.out.trans (Upd.of_below (a0F jR _) _)⟩
 · have q1:¬((p:Nat):Int)<(l.length:Int):=by omega
   clear hmiss hR
   go_enter Tryz.func194,Tryz.ntmps194
   go_wp2_with (first
    | (go_at_call 102;refine (b0I _ _ _).mono ?_;rw [HS0.out];rintro e w1 ⟨rfl,rfl⟩)
    | (go_at_call 232;refine HPL.out.mono ?_;rintro e w2 ⟨rfl,hb2⟩
       have z0':=(hb2.cell (p:=⟨S,0,none⟩) hSlt).trans z0;have z1':=(hb2.cell (p:=⟨S,1,none⟩) hSlt).trans z1;have hsz2:=hb2.size;have hS2:S<w2.heap.size:=by omega
       have HB2:=jH hb2))
   refine a0I ?_;intro W3 hW3;have hb3:jB w2 W3:=by rw [hW3];exact a0C jR _
   have hx3:W3.heap[w2.heap.size]?=some (.cells #[.int .i64 x.1,.int .i64 x.2] 111 (0,0)):=by rw [hW3];exact heap_alloc_new _ _
   have hbw3:jB w W3:=a0D HB2.out hb3;have hS3:=(hbw3.block S hSlt).trans HS.out;obtain ⟨a1,a2,a3⟩:=a0A jR hx3;obtain ⟨a4,a5,a6⟩:=a0A jR hS3;have HS3:=jH hS3;have HBW3:=jH hbw3;clear hW3 hx3 hS3 hbw3 hb3
   go_region_with ((
     go_at_call 233
     refine a0B ?_;intro W4 hW4;have hb4:jB W3 W4:=by rw [hW4];repeat (first|exact jR|refine a0C ?_ _|refine Below.drew ?_)
     have hB4:W4.heap[W3.heap.size]?=some (.cells #[.int .i64 x.1,.int .i64 x.2] 111 (0,0)):=by rw [hW4];first|exact heap_alloc_new W3.drew _|exact heap_alloc_new W3 _
     clear hW4;have hS4:=(hb4.block S a6).trans HS3.out;have hsz3:=HBW3.out.size;have C:=r0I 0 _ l p x W3.heap.size W4 ((HO.out.below HBW3.out).below hb4) (by omega) (by omega) hB4 (fun e=>by have:=HLT.out _ e;omega) (Nat.zero_le _);rw [←HIN.out] at C;refine C.mono ?_;rintro e w5 ⟨A5,c5,rfl,hown5,hg5,hblk5⟩;clear C;have hS5:=(hg5.block S (jL hS4) (fun e=>HN.out e.symm)).trans hS4;obtain ⟨e1,e2,e3⟩:=a0A jR hS5
     have HST:=jH (l0S hS4 HN.out hown5 hg5 hblk5);have HB4:=jH (a0D HBW3.out hb4);clear hown5 hg5 hblk5 hS5 hS4 hB4 hb4))
   all_goals
     (try go_wp2_with fail)
     refine a0I ?_;intro W6 hW6;have hst:=HST.out;have hW6':∃W,W6=W∧Below (w5.setCell ⟨S,0,none⟩ (.slice A5 m.length c5)).heap.size (w5.setCell ⟨S,0,none⟩ (.slice A5 m.length c5)) W:=⟨_,hW6,by repeat (first|exact jR|refine a0C ?_ _|refine Below.drew ?_)⟩;obtain ⟨W7,rfl,hb6⟩:=hW6';clear hW6;have hser6:=hst.1.below hb6;have hupd6:=((Upd.of_below HB4.out _).trans hst.2).trans (Upd.of_below hb6 _)
     clear hst;obtain ⟨v6,fr6,hS6,⟨hown6,hfr6⟩,hnS6,hfp6⟩:=id hser6;have hv6:v6=.slice A5 m.length c5:=by
      have h1:W6.cell? ⟨S,0,none⟩=some v6:=by simp only [World.cell?,hS6];rfl
      have h2:W6.cell? ⟨S,0,none⟩=some (.slice A5 m.length c5):=by
       rw [hb6.cell (p:=⟨S,0,none⟩) (by simp [World.setCell];exact e3),World.cell?_setCell_same _ _ _ (by rw [e1 0];rfl)]
      rw [h1] at h2;injection h2
     subst hv6;obtain ⟨d1,d2,d3⟩:=a0A jR hS6;have HSER:=jH hser6;have HUPD:=jH hupd6;have HS6:=jH hS6;have HO6:=jH hown6;have HN6:=jH (show (Value.slice A5 m.length c5).ownBlock≠some S from fun e=>hnS6 (by rw [hfr6,e];simp));clear hser6 hupd6 hS6 hown6 hnS6 hfr6 hfp6 hb6
     by_cases hbig:room<(m.length:Int)
     · have EC:=jH (show x0T room m=m.drop 1 from if_pos hbig)
       go_wp2_with fail
       go_quiet (fail)
       go_wp2_with (first
        | (go_at_call 234
           refine a0B ?_;intro W8 hW8;have hb8:jB W6 W8:=by rw [hW8];exact a0F jR _
           clear hW8;have hS8:=(hb8.block S d3).trans HS6.out;refine (m0I 0 _ m 1 W8 (HO6.out.below hb8) (by have:=HIL.out;omega) (by have:=HIL.out;omega)).mono ?_;rintro e w9 ⟨A9,c9,rfl,hown9,hg9,hblk9⟩;have hS9:=(hg9.block S (jL hS8) (fun e=>HN6.out e.symm)).trans hS8;obtain ⟨g1,g2,g3⟩:=a0A jR hS9;have HST9:=jH (l0S hS8 HN6.out hown9 hg9 hblk9);have HB8:=jH hb8;clear hown9 hg9 hblk9 hS9 hS8 hb8))
       go_ret
       obtain ⟨h1,h2⟩:=HST9.out;rw [EC.out];rw [List.length_drop] at h1 h2;refine ⟨_,rfl,h1,HUPD.out.trans ((Upd.of_below HB8.out _).trans ?_)⟩;exact h2
     · have EC:=jH (show x0T room m=m from if_neg hbig)
       go_wp2_with fail
       go_quiet (fail)
       go_wp2
       go_ret
       rw [EC.out];exact ⟨_,rfl,HSER.out.below (a0F jR _),HUPD.out.trans (Upd.of_below (a0F jR _) _)⟩
theorem h1D (S:Nat) (l:List Smp) (room:Int) (fp:List Nat) (x:Smp) (w:World) (h:g0S w S l room fp) (hr:b0G l) (hl:l.length≤300) (hroom:0<room) (hx1:0≤x.1) (hx2:0≤x.2) :
 Calls Tryz.prog 194 #[.pointer (some ⟨S,0,none⟩),.int .i64 x.1,.int .i64 x.2] w (i0A w S (i0O l room x) room fp (.int .i64 0)):=by
 unfold i0O
 cases hh:y0Y l x with
 | true=>exact h1U S l room fp x w h hr hl hroom hx1 hx2 hh
 | false=>exact f1W S l room fp x w h hr hl hroom hx1 hx2 hh
def r1T (w:World) (l:List Smp) (room:Int) (e:Ending) (w':World):Prop :=
 ∃S fp,e=.returned (.pointer (some ⟨S,0,none⟩))∧g0S w' S l room fp∧(∀k∈fp,w.heap.size≤k)∧jB w w'
theorem r0H (room:Int) (w:World) (h1:1≤room) (h2:room≤256) :
 Calls Tryz.prog 193 #[.int .i64 room] w (r1T w [] room):=by
 have q1:¬room<1:=by omega
 have q2:¬256<room:=by omega
 go_enter Tryz.func193,Tryz.ntmps193
 go_wp2
 go_ret
 refine ⟨w.heap.size,[w.heap.size],rfl,⟨.slice none 0 0,[],heap_alloc_new _ _,m0Y.nil _,by simp,rfl⟩,fun k hk=>by simp at hk;omega,a0C jR _⟩
theorem g0O (S:Nat) (l:List Smp) (room:Int) (fp:List Nat) (w:World) (h:g0S w S l room fp) (hl:l.length≤1000000) :
 Calls Tryz.prog 128 #[.pointer (some ⟨S,0,none⟩)] w (n0C b0X 111 2 w l):=by
 obtain ⟨v,fr,hS,hrow,_,_⟩:=h;have C:=jH (d1Y v l w (hrow.row d0J) hl);have z0:w.cell? ⟨S,0,none⟩=some v:=by simp only [World.cell?,hS];rfl
 clear hS hrow
 go_enter Tryz.func128,Tryz.ntmps128
 go_wp2_with (go_at_call 127;refine C.out.mono ?_;rintro e w2 ⟨A,c,fp,rfl,h1,h2,h3⟩;have H1:=jH h1;have H2:=jH h2;have H3:=jH h3;clear h1 h2 h3)
 go_ret
 exact ⟨A,c,fp,rfl,H1.out,H2.out,H3.out⟩
theorem m0Z (S:Nat) (l:List Smp) (room:Int) (fp:List Nat) (w:World) (h:g0S w S l room fp) (hl:l.length≤1000000) :
 Calls Tryz.prog 255 #[.pointer (some ⟨S,0,none⟩)] w (r1T w l room):=by
 have HS:=jH h;obtain ⟨v,fr,hS,hrow,_,_⟩:=h;have hSlt:=(jL hS);have z1:w.cell? ⟨S,1,none⟩=some (.int .i64 room):=by simp only [World.cell?,hS];rfl
 clear hS hrow
 go_enter Tryz.func255,Tryz.ntmps255
 go_wp2_with fail
 go_region_with ((
   go_at_call 128
   refine a0B ?_;intro W4 hW4;have hb4:jB w W4:=by rw [hW4];repeat (first|exact jR|refine a0C ?_ _|refine Below.drew ?_)
   clear hW4;refine (g0O S l room fp W4 (HS.out.below hb4) hl).mono ?_;rintro e w2 ⟨A,c,fp2,rfl,h1,h2,h3⟩;have hb2:jB w w2:=a0D hb4 h3;have z1':=(hb2.cell (p:=⟨S,1,none⟩) hSlt).trans z1;have hS2:S<w2.heap.size:=by have:=hb2.size;omega
   have h2':∀k∈fp2,w.heap.size≤k:=fun k hk=>by have:=h2 k hk;have:=hb4.size;omega
   have H1:=jH h1;have H2:=jH h2';have H3:=jH hb2;clear h1 h2 h3 hb2 h2' hb4))
 all_goals go_wp2
 all_goals go_ret
 all_goals exact ⟨w2.heap.size,w2.heap.size::fp2,rfl,⟨.slice A l.length c,fp2,heap_alloc_new _ _,H1.out.below (a0C jR _),fun h=>by have:=H1.out.lt _ h;omega,rfl⟩,fun k hk=>by rcases List.mem_cons.1 hk with rfl|hk;exact H3.out.size;exact H2.out k hk,a0C H3.out _⟩
theorem b1F (S:Nat) (l:List Smp) (room:Int) (fp:List Nat) (t:Int) (w:World) (h:g0S w S l room fp) (hr:b0G l) (hl:l.length≤1000000) :
 Calls Tryz.prog 210 #[.pointer (some ⟨S,0,none⟩),.int .i64 t] w (i0A w S (l.drop (a0Q l t)) room fp (.int .i64 (a0Q l t:Nat))):=by
 have HPL:=jH (i0V S l room fp t w h hr (by omega));have hpl:=e0S l t;generalize a0Q l t=p at HPL hpl;obtain ⟨v,fr,hS,⟨hown,rfl⟩,hnS,rfl⟩:=h;have hSlt:=(jL hS);have HO:=jH hown;have HS:=jH hS;have hnS':v.ownBlock≠some S:=fun e=>hnS (by rw [e];simp)
 have HN:=jH hnS';have z0:w.cell? ⟨S,0,none⟩=some v:=by simp only [World.cell?,hS];rfl
 clear hr hnS hown hS hnS'
 go_enter Tryz.func210,Tryz.ntmps210
 go_wp2_with (first
  | (go_at_call 232;refine HPL.out.mono ?_;rintro e w2 ⟨rfl,hb2⟩
     have z0':=(hb2.cell (p:=⟨S,0,none⟩) hSlt).trans z0;have hsz2:=hb2.size;have hS2:S<w2.heap.size:=by omega
     have HB2:=jH hb2)
  | (go_at_call 234
     refine a0B ?_;intro W8 hW8;have hb8:jB w W8:=by rw [hW8];exact HB2.out
     clear hW8;have hS8:=(hb8.block S hSlt).trans HS.out;refine (m0I 0 _ l p W8 (HO.out.below hb8) (by omega) (by omega)).mono ?_;rintro e w9 ⟨A9,c9,rfl,hown9,hg9,hblk9⟩;have hS9:=(hg9.block S (jL hS8) (fun e=>HN.out e.symm)).trans hS8;obtain ⟨g1,g2,g3⟩:=a0A jR hS9;have HST9:=jH (l0S hS8 HN.out hown9 hg9 hblk9);have HB8:=jH hb8;clear hown9 hg9 hblk9 hS9 hS8 hb8))
 go_ret
 obtain ⟨h1,h2⟩:=HST9.out;rw [List.length_drop] at h1 h2;exact ⟨_,rfl,h1,(Upd.of_below HB8.out _).trans h2⟩
def d0C (w:World) (R:Nat) (l:List Adv) (room:Nat) (fp:List Nat):Prop :=
 ∃ v fr raw frm,w.heap[R]?=some (.cells #[v,.int .i64 (frm:Nat),.int .i64 (room:Nat)] 363 (0,0))∧m0Y c0V 44 5 w v raw fr∧R∉fr∧fp=R::fr ∧
   l=raw.drop frm++raw.take frm∧raw.length≤room∧frm<room∧(raw.length<room→frm=0)
theorem d0C.kept {w w':World} {S:Nat} {l:List Adv} {room:Nat} {fp:List Nat} (h:d0C w S l room fp) (hb:∀r∈fp,w'.heap[r]?=w.heap[r]?):d0C w' S l room fp:=by
 obtain ⟨v,fr,raw,frm,h1,h2,h3,rfl,h4⟩:=h;exact ⟨v,fr,raw,frm,(hb S (List.mem_cons_self ..)).trans h1,h2.kept (fun r hr=>hb r (List.mem_cons_of_mem _ hr)),h3,rfl,h4⟩
theorem d0C.lt {w:World} {S:Nat} {l:List Adv} {room:Nat} {fp:List Nat} (h:d0C w S l room fp):∀r∈fp,r<w.heap.size:=by
 obtain ⟨v,fr,raw,frm,h1,h2,h3,rfl,h4⟩:=h;intro r hr
 rcases List.mem_cons.1 hr with rfl|hr
 · exact (jL h1)
 · exact h2.lt r hr
theorem d0C.below {w w':World} {S:Nat} {l:List Adv} {room:Nat} {fp:List Nat} (h:d0C w S l room fp) (hb:jB w w'):d0C w' S l room fp:=h.kept (fun r hr=>hb.block r (h.lt r hr))
theorem d0C.len {w:World} {S:Nat} {l:List Adv} {room:Nat} {fp:List Nat} (h:d0C w S l room fp):l.length≤room:=by
 obtain ⟨v,fr,raw,frm,h1,h2,h3,rfl,rfl,h4,h5,h6⟩:=h
 simp;omega
def e0C (w:World) (H:Nat) (l:List Adv) (room:Nat) (fp:List Nat):Prop :=
 ∃R fr,w.heap[H]?=some (.cells #[.pointer (some ⟨R,0,none⟩)] 324 (0,0))∧d0C w R l room fr∧H∉fr∧fp=H::fr∧R∈fr
theorem e0C.kept {w w':World} {S:Nat} {l:List Adv} {room:Nat} {fp:List Nat} (h:e0C w S l room fp) (hb:∀r∈fp,w'.heap[r]?=w.heap[r]?):e0C w' S l room fp:=by
 obtain ⟨R,fr,h1,h2,h3,rfl,h5⟩:=h;exact ⟨R,fr,(hb S (List.mem_cons_self ..)).trans h1,h2.kept (fun r hr=>hb r (List.mem_cons_of_mem _ hr)),h3,rfl,h5⟩
theorem e0C.lt {w:World} {S:Nat} {l:List Adv} {room:Nat} {fp:List Nat} (h:e0C w S l room fp):∀r∈fp,r<w.heap.size:=by
 obtain ⟨R,fr,h1,h2,h3,rfl,h5⟩:=h;intro r hr
 rcases List.mem_cons.1 hr with rfl|hr
 · exact (jL h1)
 · exact h2.lt r hr
theorem e0C.below {w w':World} {S:Nat} {l:List Adv} {room:Nat} {fp:List Nat} (h:e0C w S l room fp) (hb:jB w w'):e0C w' S l room fp:=h.kept (fun r hr=>hb.block r (h.lt r hr))
theorem e0C.len {w:World} {S:Nat} {l:List Adv} {room:Nat} {fp:List Nat} (h:e0C w S l room fp):l.length≤room:=by
 obtain ⟨R,fr,h1,h2,h3,rfl,h5⟩:=h;exact h2.len
def m1H (w:World) (l:List Adv) (room:Nat) (e:Ending) (w':World):Prop :=
 ∃S fp,e=.returned (.pointer (some ⟨S,0,none⟩))∧d0C w' S l room fp∧S∈fp∧(∀k∈fp,w.heap.size≤k)∧jB w w'
def a1Z (w:World) (l:List Adv) (room:Nat) (e:Ending) (w':World):Prop :=
 ∃S fp,e=.returned (.pointer (some ⟨S,0,none⟩))∧e0C w' S l room fp∧(∀k∈fp,w.heap.size≤k)∧jB w w'
theorem y0S (room:Nat) (w:World) (h1:1≤room) (h2:room≤4096) :
 Calls Tryz.prog 259 #[.int .i64 room] w (m1H w [] room):=by
 have q1:¬(room:Int)<1:=by omega
 have q2:¬4096<(room:Int):=by omega
 go_enter Tryz.func259,Tryz.ntmps259
 go_wp2
 go_ret
 exact ⟨w.heap.size,[w.heap.size],rfl,⟨.slice none 0 0,[],[],0,heap_alloc_new _ _,m0Y.nil _,by simp,rfl,rfl,by simp,by omega,fun _=>rfl⟩,by simp,fun k hk=>by simp at hk;omega,a0C jR _⟩
theorem l1B {w w1:World} {R:Nat} {l:List Adv} {room:Nat} {fp:List Nat} (h:d0C w1 R l room fp) (hR:R∈fp) (hf:∀k∈fp,w.heap.size≤k) (hb:jB w w1) :
 a1Z w l room (.returned (.pointer (some ⟨w1.heap.size,0,none⟩))) (w1.alloc (.cells #[.pointer (some ⟨R,0,none⟩)] 324)) :=
 ⟨w1.heap.size,w1.heap.size::fp,rfl,⟨R,fp,heap_alloc_new _ _,h.below (a0C jR _),fun hh=>by have:=h.lt _ hh;omega,rfl,hR⟩,fun k hk=>by rcases List.mem_cons.1 hk with rfl|hk;exact hb.size;exact hf k hk,a0C hb _⟩
theorem o0S (room:Nat) (w:World) (h1:1≤room) (h2:room≤64) :
 Calls Tryz.prog 211 #[.int .i64 room] w (a1Z w [] room):=by
 have q1:¬(room:Int)<1:=by omega
 have q2:¬64<(room:Int):=by omega
 go_enter Tryz.func211,Tryz.ntmps211
 go_wp2_with (go_at_call 259;refine (y0S room w h1 (by omega)).mono ?_;rintro e w2 ⟨S,fp,rfl,hr,hS,hf,hb⟩;have HH:=jH (l1B hr hS hf hb);clear hr hS hf hb)
 go_ret
 exact HH.out
theorem k0R (R:Nat) (l:List Adv) (room:Nat) (fp:List Nat) (w:World) (h:d0C w R l room fp) :
 Calls Tryz.prog 271 #[.pointer (some ⟨R,0,none⟩)] w (jP w (.int .i64 l.length)):=by
 obtain ⟨v,fr,raw,frm,h1,h2,h3,rfl,rfl,h4,h5,h6⟩:=h;obtain ⟨A,c,rfl⟩:=h2.form;have z0:w.cell? ⟨R,0,none⟩=some (.slice A raw.length c):=by simp only [World.cell?,h1];rfl
 have el:(raw.drop frm++raw.take frm).length=raw.length:=by simp;omega
 rw [el];clear h1 h2 h3 h4 h5 h6 el
 go_enter Tryz.func271,Tryz.ntmps271
 go_wp2
 go_ret
 exact ⟨rfl,jR⟩
theorem b1Y (H R:Nat) (w:World) (h:w.heap[H]?=some (.cells #[.pointer (some ⟨R,0,none⟩)] 324 (0,0))) :
 Calls Tryz.prog 219 #[.pointer (some ⟨H,0,none⟩)] w (jP w (.pointer (some ⟨R,0,none⟩))):=by
 have z0:w.cell? ⟨H,0,none⟩=some (.pointer (some ⟨R,0,none⟩)):=by simp only [World.cell?,h];rfl
 clear h
 go_enter Tryz.func219,Tryz.ntmps219
 go_wp2
 go_ret
 exact ⟨rfl,jR⟩
theorem t0L (R:Nat) (l:List Adv) (room:Nat) (fp:List Nat) (w:World) (h:d0C w R l room fp) (hroom:room≤4096) :
 Calls Tryz.prog 294 #[.pointer (some ⟨R,0,none⟩)] w (m1H w l room):=by
 obtain ⟨v,fr,raw,frm,hS,h2,h3,rfl,rfl,h4,h5,h6⟩:=h;have hSlt:=(jL hS);have hR:=jH (h2.row q0L);have HV:=jH (show m0Y c0V 44 5 w v raw fr from h2);have z0:w.cell? ⟨R,0,none⟩=some v:=by simp only [World.cell?,hS];rfl
 have z1:w.cell? ⟨R,1,none⟩=some (.int .i64 (frm:Nat)):=by simp only [World.cell?,hS];rfl
 have z2:w.cell? ⟨R,2,none⟩=some (.int .i64 (room:Nat)):=by simp only [World.cell?,hS];rfl
 have H6:=jH h6;clear hS h2 h6
 go_enter Tryz.func294,Tryz.ntmps294
 go_wp2_with fail
 go_region_with ((
   go_at_call 137
   refine a0B ?_;intro W4 hW4;have hb4:jB w W4:=by rw [hW4];repeat (first|exact jR|refine a0C ?_ _|refine Below.drew ?_)
   clear hW4;refine (g1P v raw W4 ((HV.out.below hb4).row q0L) (by omega)).mono ?_;rintro e w2 ⟨A,c,fp2,rfl,h1,h2,h3⟩;have hb2:jB w w2:=a0D hb4 h3;have z1':=(hb2.cell (p:=⟨R,1,none⟩) hSlt).trans z1;have z2':=(hb2.cell (p:=⟨R,2,none⟩) hSlt).trans z2;have hS2:R<w2.heap.size:=by have:=hb2.size;omega
   have h2':∀k∈fp2,w.heap.size≤k:=fun k hk=>by have:=h2 k hk;have:=hb4.size;omega
   have H1:=jH h1;have H2:=jH h2';have H3:=jH hb2;clear h1 h2 h3 hb2 h2' hb4))
 all_goals go_wp2
 all_goals go_ret
 all_goals exact ⟨w2.heap.size,w2.heap.size::fp2,rfl,⟨.slice A raw.length c,fp2,raw,frm,heap_alloc_new _ _,H1.out.below (a0C jR _),fun h=>by have:=H1.out.lt _ h;omega,rfl,rfl,h4,h5,H6.out⟩,List.mem_cons_self ..,fun k hk=>by rcases List.mem_cons.1 hk with rfl|hk;exact H3.out.size;exact H2.out k hk,a0C H3.out _⟩
theorem l0T (H:Nat) (l:List Adv) (room:Nat) (fp:List Nat) (w:World) (h:e0C w H l room fp) (hroom:room≤4096) :
 Calls Tryz.prog 256 #[.pointer (some ⟨H,0,none⟩)] w (a1Z w l room):=by
 obtain ⟨R,fr,hS,hR,h3,rfl,hRm⟩:=h;have HR:=jH hR;have z0:w.cell? ⟨H,0,none⟩=some (.pointer (some ⟨R,0,none⟩)):=by simp only [World.cell?,hS];rfl
 clear hS hR
 go_enter Tryz.func256,Tryz.ntmps256
 go_wp2_with (go_at_call 294;refine (t0L R l room fr w HR.out hroom).mono ?_;rintro e w2 ⟨S,fp,rfl,hr,hS,hf,hb⟩;have HH:=jH (l1B hr hS hf hb);clear hr hS hf hb)
 go_ret
 exact HH.out
end
section
theorem a0H {P:Program} {f:Func} {Q:Ending→World→Prop} {e:Exit} {a:Act} {w:World} (h:∀W,W=w→bodyPost P f Q e a W):bodyPost P f Q e a w:=h w rfl
theorem a0T {K:Act→World→Prop} {Q:Exit→Act→World→Prop} {a:Act} {w:World} (h:∀W,W=w→Exit.then K Q Exit.normal a W):Exit.then K Q Exit.normal a w:=h w rfl
end
section
open Go.RowKit Go.Lib Go.Sort
def f0K (l:List Adv) (room:Nat) (x:Adv):List Adv:=(if l.length<room then l else l.drop 1)++[x]
def p1G (w:World) (R:Nat) (l:List Adv) (room:Nat) (fp:List Nat) (e:Ending) (w':World):Prop :=
 ∃u fp',e=.returned u∧d0C w' R l room fp'∧R∈fp'∧Upd w w' fp fp'
def RAt (w w':World) (B R:Nat) (l:List Adv) (room:Nat) (fp:List Nat):Prop :=
 ∃fp',d0C w' R l room fp'∧R∈fp'∧Upd w w' fp fp'∧(∀k∈fp',k<w.heap.size∨B≤k)
theorem RAt.set {w w':World} {B R:Nat} {l:List Adv} {room:Nat} {fp:List Nat} (h:RAt w w' B R l room fp) {b i:Nat} {v:Value} (h1:w.heap.size≤b) (h2:b<B):RAt w (w'.setCell ⟨b,i,none⟩ v) B R l room fp:=by
 obtain ⟨fp',a1,a2,a3,a4⟩:=h;have hne:∀k∈fp',k≠b:=fun k hk=>by have:=a4 k hk;omega
 refine ⟨fp',a1.kept (fun r hr=>Below.heap_setCell _ _ _ _ (hne r hr)),a2,?_,a4⟩;exact ⟨a3.os,a3.tape,a3.output,by simp [World.setCell];exact a3.size,fun k hk hn=>(Below.heap_setCell _ _ _ _ (fun e=>by have e':k=b:=e;omega)).trans (a3.block k hk hn),a3.fresh⟩
theorem RAt.below {w w' W:World} {B R:Nat} {l:List Adv} {room:Nat} {fp:List Nat} (h:RAt w w' B R l room fp) (hb:jB w' W):RAt w W B R l room fp:=by
 obtain ⟨fp',a1,a2,a3,a4⟩:=h;exact ⟨fp',a1.below hb,a2,a3.trans (Upd.of_below hb _),a4⟩
theorem RAt.says {w w':World} {B R:Nat} {l:List Adv} {room:Nat} {fp:List Nat} (h:RAt w w' B R l room fp) (u:Value):p1G w R l room fp (.returned u) w':=by
 obtain ⟨fp',a1,a2,a3,_⟩:=h;exact ⟨u,fp',rfl,a1,a2,a3⟩
theorem m1D {w w5 w3 w':World} {R:Nat} {v v':Value} {frm room:Nat} {out:List Adv} (hS:w.heap[R]?=some (.cells #[v,.int .i64 (frm:Nat),.int .i64 (room:Nat)] 363 (0,0))) (hne:v.ownBlock≠some R) (hv:∀r,v.ownBlock=some r→r<w.heap.size)
    (hb5:jB w w5) (hb35:jB w5 w3) (hown:b0Q c0V 44 5 0 w' v' out) (hg:w3.grownBy w' v.ownBlock) (hb:v'.ownBlock=v.ownBlock∨∀r,v'.ownBlock=some r→w3.heap.size≤r) (h1:out.length≤room) (h2:frm<room) (h3:out.length<room→frm=0) :
    RAt w (w'.setCell ⟨R,0,none⟩ v') w5.heap.size R (out.drop frm++out.take frm) room (R::v.ownBlock.toList):=by
  have hb3:=a0D hb5 hb35;have h53:=hb35.size;have hSlt:=(jL hS);have hS3:=(hb3.block R hSlt).trans hS;have hSlt3:=(jL hS3);have hS':=(hg.block R hSlt3 (fun e=>hne e.symm)).trans hS3;have hne':v'.ownBlock≠some R:=fun e=>by
   rcases hb with h|h
   · exact hne (h ▸ e)
   · have:=h R e;omega
  refine ⟨R::v'.ownBlock.toList,⟨v',v'.ownBlock.toList,out,frm,a0E hS',⟨hown.kept (fun r hr=>Below.heap_setCell _ _ _ _ (fun e=>by have e':r=R:=e;rw [e'] at hr;exact hne' hr)),rfl⟩,by simpa using hne',rfl,rfl,h1,h2,h3⟩,List.mem_cons_self ..,?_,?_⟩
  · refine (Upd.of_below hb3 _).trans ⟨hg.os,hg.tape,hg.output,by simp [World.setCell];exact hg.size,fun k hk hn=>?_,fun k hk=>?_⟩
    · simp only [List.mem_cons,Option.mem_toList,not_or] at hn
      exact (Below.heap_setCell _ _ _ _ hn.1).trans (hg.block k hk (fun e=>hn.2 e.symm))
    · rcases List.mem_cons.1 hk with rfl|hk
      · exact .inl (List.mem_cons_self ..)
      · have hk':v'.ownBlock=some k:=by simpa using hk
        rcases hb with h|h
        · exact .inl (List.mem_cons_of_mem _ (by rw [←h];simpa using hk'))
        · exact .inr (h k hk')
  · intro k hk
    rcases List.mem_cons.1 hk with rfl|hk
    · exact .inl hSlt
    · have hk':v'.ownBlock=some k:=by simpa using hk
      rcases hb with h|h
      · exact .inl (hv k (by rw [←h];exact hk'))
      · exact .inr (Nat.le_trans h53 (h k hk'))
theorem k1Z (R:Nat) (l:List Adv) (room:Nat) (fp:List Nat) (x:Adv) (w:World) (h:d0C w R l room fp) (hroom:room≤4096) (hl:l.length<room) :
 Calls Tryz.prog 270 #[.pointer (some ⟨R,0,none⟩),.agg (c0V x).toArray] w (p1G w R (l++[x]) room fp):=by
 obtain ⟨v,fr,raw,frm,hS,⟨hown,rfl⟩,h3,rfl,rfl,h4,h5,h6⟩:=h;have hlr:raw.length<room:=by simp at hl;omega
 obtain rfl:=h6 hlr;have hSlt:=(jL hS);obtain ⟨A,c,rfl⟩:=hown.form;have hnS':(Value.slice A raw.length c).ownBlock≠some R:=fun e=>h3 (by rw [e];simp)
 have HN:=jH hnS';have HO:=jH hown;have HS:=jH hS;have z0:w.cell? ⟨R,0,none⟩=some (.slice A raw.length c):=by simp only [World.cell?,hS];rfl
 have z2:w.cell? ⟨R,2,none⟩=some (.int .i64 (room:Nat)):=by simp only [World.cell?,hS];rfl
 have q0:((room:Int) == 0)=false:=by simp;omega
 have q1:(raw.length:Int)<(room:Int):=by omega
 have z2':∀o1 o2 o3,(((w.alloc o1).alloc o2).alloc o3).cell? ⟨R,2,none⟩=some (.int .i64 (room:Nat)):=fun o1 o2 o3=>((a0C (a0C (a0C jR _) _) _).cell (p:=⟨R,2,none⟩) hSlt).trans z2
 rw [List.drop_zero,List.take_zero,List.append_nil];clear hS hown h3 hnS' hl h6;unfold c0V
 go_enter Tryz.func270,Tryz.ntmps270
 go_wp2_with fail
 refine a0I ?_;intro W3 hW3;obtain ⟨hx3,hy3,hu3,hsz3,hb3⟩:=p0N w _ _ _ W3 hW3;have hsz:w.heap.size+2<W3.heap.size:=by omega
 clear hW3 hsz3;have hS3:=(hb3.block R hSlt).trans HS.out;obtain ⟨a1,a2,a3⟩:=a0A jR hx3;obtain ⟨a4,a5,a6⟩:=a0A jR hS3;have HB3:=jH hb3;have HY:=jH hy3;have HX:=jH hx3;have HU:=jH hu3;have HS3:=jH hS3;clear hb3 hx3 hy3 hu3 hS3
 go_quiet (fail)
 go_wp2_with fail
 refine a0I ?_;intro W5 hW5;have hb5:jB W3 W5:=by rw [hW5];exact a0F jR _
 have hb5':=a0D HB3.out hb5;have hS5:=(hb5.block R a6).trans HS3.out;have hx5:=(hb5.block _ a3).trans HX.out;have hy5:=(hb5.block _ (by omega)).trans HY.out;have hu5:=(hb5.block _ (by omega)).trans HU.out;have hsz5:w.heap.size+2<W5.heap.size:=by have:=hb5.size;omega
 clear hW5 hb5 a1 a2 a3 a4 a5 a6 hsz HB3 HY HU HS3 HX;obtain ⟨a1,a2,a3⟩:=a0A jR hx5;obtain ⟨a4,a5,a6⟩:=a0A jR hS5;have HB3:=jH hb5';have HY:=jH hy5;have HU:=jH hu5;have HS3:=jH hS5;clear hb5' hy5 hu5 hS5 hx5
 go_region_law ((
   refine d0B q0L (by rfl) (.tmp 34) (.tmp 36) (by rfl) 0 raw [x] _ _ (by rfl) (by rfl) ((HO.out.below HB3.out).below (by repeat (first|exact jR|refine a0C ?_ _|refine Below.drew ?_|refine a0F ?_ _))) (a0O.lit _ x _ _ _ (by first|rfl|simp) rfl) (by simp;omega) (by simp) ?_;intro out4 A4 c4 w4 hout hown4 hg4 hblk4;have hbz:∀W,jB W5 W→W.heap[R]?=some (.cells #[.slice A raw.length c,.int .i64 (0:Nat),.int .i64 (room:Nat)] 363 (0,0)):=fun W h=>(h.block R a6).trans HS3.out
   have hS4:=(hg4.block R (by simp;omega) (fun e=>HN.out e.symm)).trans (hbz _ (by repeat (first|exact jR|refine a0C ?_ _|refine Below.drew ?_|refine a0F ?_ _)));obtain ⟨e1,e2,e3⟩:=a0A jR hS4;have hblt:∀r,(Value.slice A raw.length c).ownBlock=some r→r<w.heap.size:=fun r hr=>(HO.out.lt hr).2
   have hY4:=(hg4.block (w.heap.size+1) (by simp;omega) (fun e=>by have:=hblt _ e.symm;omega)).trans ((Below.block (w:=W5) (B:=W5.heap.size) (by repeat (first|exact jR|refine a0C ?_ _|refine Below.drew ?_|refine a0F ?_ _)) _ (by omega)).trans HY.out);have hU4:=(hg4.block (w.heap.size+1+1) (by simp;omega) (fun e=>by have:=hblt _ e.symm;omega)).trans ((Below.block (w:=W5) (B:=W5.heap.size) (by repeat (first|exact jR|refine a0C ?_ _|refine Below.drew ?_|refine a0F ?_ _)) _ (by omega)).trans HU.out)
   have HY4:=jH hY4;have HU4:=jH hU4;have HOUT:=jH hout;have HXX:=jH (m1D (frm:=0) HS.out HN.out (fun r hr=>(HO.out.lt hr).2) HB3.out (by repeat (first|exact jR|refine a0C ?_ _|refine Below.drew ?_|refine a0F ?_ _)) hown4 hg4 (hblk4.imp id (fun e r hr=>by rw [e] at hr;injection hr with hr;omega)) (by rw [hout];simp;omega) h5 (fun _=>rfl));clear hblt hY4 hU4 hbz hS4 hout hown4 hg4 hblk4))
 all_goals
   refine a0T ?_;intro W6 hW6;have hW6':∃W,W6=W∧Below (w4.setCell ⟨R,0,none⟩ (.slice A4 out4.length c4)).heap.size (w4.setCell ⟨R,0,none⟩ (.slice A4 out4.length c4)) W:=⟨_,hW6,by repeat (first|exact jR|refine a0C ?_ _|refine Below.drew ?_)⟩;obtain ⟨W7,rfl,hb6⟩:=hW6';clear hW6;have HRA:=jH (HXX.out.below hb6);have hY6:W6.heap[w.heap.size+1]?=_:=(hb6.block _ (by simp [World.setCell];exact (jL HY4.out))).trans ((Below.heap_setCell _ _ _ _ (fun e=>by have e':w.heap.size+1=R:=e;omega)).trans HY4.out)
   have hU6:W6.heap[w.heap.size+1+1]?=_:=(hb6.block _ (by simp [World.setCell];exact (jL HU4.out))).trans ((Below.heap_setCell _ _ _ _ (fun e=>by have e':w.heap.size+1+1=R:=e;omega)).trans HU4.out);obtain ⟨f1,f2,f3⟩:=a0A jR hY6;obtain ⟨f4,f5,f6⟩:=a0A jR hU6;clear hb6 hY6 hU6 e1 e2 e3 a1 a2 a3 a4 a5 a6;go_wp2
   have hra:=HRA.out;rw [List.drop_zero,List.take_zero,List.append_nil,HOUT.out] at hra;refine bodyPost_ret (v:=.tuple #[.agg #[.int .i64 0,.int .i64 0,.int .i64 0,.int .i64 0,.int .i64 0],.bool false]) (by simp [results,Tryz.results270,go_sem,f1,f2,f3]) rfl ?_;refine RAt.says (B:=W5.heap.size) ?_ _;have c1:w.heap.size≤w.heap.size+1:=by omega
   have c2:w.heap.size+1<W5.heap.size:=by omega
   exact ((((hra.set c1 c2).set c1 c2).set c1 c2).set c1 c2).set c1 c2
end
end Go.Proofs.YtmniiodpbebnmaaGreat
