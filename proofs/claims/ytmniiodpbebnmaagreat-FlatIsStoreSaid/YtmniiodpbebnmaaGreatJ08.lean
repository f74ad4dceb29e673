/- Part 8 of the proof. -/
import Derived.Test.YtmniiodpbebnmaaGreatJ07
namespace Go.Proofs.YtmniiodpbebnmaaGreat
set_option linter.unusedSimpArgs false
set_option linter.unusedVariables false
set_option linter.unusedSectionVars false
set_option maxRecDepth 100000
set_option maxHeartbeats 16000000
section
open Go.RowKit Go.Lib Go.Sort
def c0P (w:World) (R:Nat) (l:List Adv) (room:Nat) (fp:List Nat):Prop :=
 ∃ v fr raw frm,w.heap[R]?=some (.cells #[v,.int .i64 (frm:Nat),.int .i64 (room:Nat)] 363 (0,0))∧j0P c0U 44 5 w v raw fr∧R∉fr∧fp=R::fr ∧
   l=raw.drop frm++raw.take frm∧raw.length≤room∧frm<room∧(raw.length<room→frm=0)
theorem c0P.kept {w w':World} {S:Nat} {l:List Adv} {room:Nat} {fp:List Nat} (h:c0P w S l room fp) (hb:∀r∈fp,w'.heap[r]?=w.heap[r]?):c0P w' S l room fp:=by
 obtain ⟨v,fr,raw,frm,h1,h2,h3,rfl,h4⟩:=h;exact ⟨v,fr,raw,frm,(hb S (List.mem_cons_self ..)).trans h1,h2.kept (fun r hr=>hb r (List.mem_cons_of_mem _ hr)),h3,rfl,h4⟩
theorem c0P.lt {w:World} {S:Nat} {l:List Adv} {room:Nat} {fp:List Nat} (h:c0P w S l room fp):∀r∈fp,r<w.heap.size:=by
 obtain ⟨v,fr,raw,frm,h1,h2,h3,rfl,h4⟩:=h;intro r hr
 rcases List.mem_cons.1 hr with rfl|hr
 · exact (jL h1)
 · exact h2.lt r hr
theorem c0P.below {w w':World} {S:Nat} {l:List Adv} {room:Nat} {fp:List Nat} (h:c0P w S l room fp) (hb:jB w w'):c0P w' S l room fp:=h.kept (fun r hr=>hb.block r (h.lt r hr))
theorem c0P.len {w:World} {S:Nat} {l:List Adv} {room:Nat} {fp:List Nat} (h:c0P w S l room fp):l.length≤room:=by
 obtain ⟨v,fr,raw,frm,h1,h2,h3,rfl,rfl,h4,h5,h6⟩:=h
 simp;omega
def d0R (w:World) (H:Nat) (l:List Adv) (room:Nat) (fp:List Nat):Prop :=
 ∃R fr,w.heap[H]?=some (.cells #[.pointer (some ⟨R,0,none⟩)] 324 (0,0))∧c0P w R l room fr∧H∉fr∧fp=H::fr∧R∈fr
theorem d0R.kept {w w':World} {S:Nat} {l:List Adv} {room:Nat} {fp:List Nat} (h:d0R w S l room fp) (hb:∀r∈fp,w'.heap[r]?=w.heap[r]?):d0R w' S l room fp:=by
 obtain ⟨R,fr,h1,h2,h3,rfl,h5⟩:=h;exact ⟨R,fr,(hb S (List.mem_cons_self ..)).trans h1,h2.kept (fun r hr=>hb r (List.mem_cons_of_mem _ hr)),h3,rfl,h5⟩
theorem d0R.lt {w:World} {S:Nat} {l:List Adv} {room:Nat} {fp:List Nat} (h:d0R w S l room fp):∀r∈fp,r<w.heap.size:=by
 obtain ⟨R,fr,h1,h2,h3,rfl,h5⟩:=h;intro r hr
 rcases List.mem_cons.1 hr with rfl|hr
 · exact (jL h1)
 · exact h2.lt r hr
theorem d0R.below {w w':World} {S:Nat} {l:List Adv} {room:Nat} {fp:List Nat} (h:d0R w S l room fp) (hb:jB w w'):d0R w' S l room fp:=h.kept (fun r hr=>hb.block r (h.lt r hr))
theorem d0R.len {w:World} {S:Nat} {l:List Adv} {room:Nat} {fp:List Nat} (h:d0R w S l room fp):l.length≤room:=by
 obtain ⟨R,fr,h1,h2,h3,rfl,h5⟩:=h;exact h2.len
def i1T (w:World) (l:List Adv) (room:Nat) (e:Ending) (w':World):Prop :=
 ∃S fp,e=.returned (.pointer (some ⟨S,0,none⟩))∧c0P w' S l room fp∧S∈fp∧(∀k∈fp,w.heap.size≤k)∧jB w w'
def x0H (w:World) (l:List Adv) (room:Nat) (e:Ending) (w':World):Prop :=
 ∃S fp,e=.returned (.pointer (some ⟨S,0,none⟩))∧d0R w' S l room fp∧(∀k∈fp,w.heap.size≤k)∧jB w w'
theorem v0D (room:Nat) (w:World) (h1:1≤room) (h2:room≤4096) :
 Calls Tryz.prog 259 #[.int .i64 room] w (i1T w [] room):=by
 have q1:¬(room:Int)<1:=by omega
 have q2:¬4096<(room:Int):=by omega
 go_enter Tryz.func259,Tryz.ntmps259
 go_wp2
 go_ret
 exact ⟨w.heap.size,[w.heap.size],rfl,⟨.slice none 0 0,[],[],0,heap_alloc_new _ _,j0P.nil _,by simp,rfl,rfl,by simp,by omega,fun _=>rfl⟩,by simp,fun k hk=>by simp at hk;omega,a0C jR _⟩
theorem g1H {w w1:World} {R:Nat} {l:List Adv} {room:Nat} {fp:List Nat} (h:c0P w1 R l room fp) (hR:R∈fp) (hf:∀k∈fp,w.heap.size≤k) (hb:jB w w1) :
 x0H w l room (.returned (.pointer (some ⟨w1.heap.size,0,none⟩))) (w1.alloc (.cells #[.pointer (some ⟨R,0,none⟩)] 324)) :=
 ⟨w1.heap.size,w1.heap.size::fp,rfl,⟨R,fp,heap_alloc_new _ _,h.below (a0C jR _),fun hh=>by have:=h.lt _ hh;omega,rfl,hR⟩,fun k hk=>by rcases List.mem_cons.1 hk with rfl|hk;exact hb.size;exact hf k hk,a0C hb _⟩
theorem n0J (room:Nat) (w:World) (h1:1≤room) (h2:room≤64) :
 Calls Tryz.prog 211 #[.int .i64 room] w (x0H w [] room):=by
 have q1:¬(room:Int)<1:=by omega
 have q2:¬64<(room:Int):=by omega
 go_enter Tryz.func211,Tryz.ntmps211
 go_wp2_with (go_at_call 259;refine (v0D room w h1 (by omega)).mono ?_;rintro e w2 ⟨S,fp,rfl,hr,hS,hf,hb⟩;have HH:=jH (g1H hr hS hf hb);clear hr hS hf hb)
 go_ret
 exact HH.out
theorem i0Z (R:Nat) (l:List Adv) (room:Nat) (fp:List Nat) (w:World) (h:c0P w R l room fp) :
 Calls Tryz.prog 271 #[.pointer (some ⟨R,0,none⟩)] w (jP w (.int .i64 l.length)):=by
 obtain ⟨v,fr,raw,frm,h1,h2,h3,rfl,rfl,h4,h5,h6⟩:=h;obtain ⟨A,c,rfl⟩:=h2.form;have z0:w.cell? ⟨R,0,none⟩=some (.slice A raw.length c):=by simp only [World.cell?,h1];rfl
 have el:(raw.drop frm++raw.take frm).length=raw.length:=by simp;omega
 rw [el];clear h1 h2 h3 h4 h5 h6 el
 go_enter Tryz.func271,Tryz.ntmps271
 go_wp2
 go_ret
 exact ⟨rfl,jR⟩
theorem y0W (H R:Nat) (w:World) (h:w.heap[H]?=some (.cells #[.pointer (some ⟨R,0,none⟩)] 324 (0,0))) :
 Calls Tryz.prog 219 #[.pointer (some ⟨H,0,none⟩)] w (jP w (.pointer (some ⟨R,0,none⟩))):=by
 have z0:w.cell? ⟨H,0,none⟩=some (.pointer (some ⟨R,0,none⟩)):=by simp only [World.cell?,h];rfl
 clear h
 go_enter Tryz.func219,Tryz.ntmps219
 go_wp2
 go_ret
 exact ⟨rfl,jR⟩
theorem q0C (R:Nat) (l:List Adv) (room:Nat) (fp:List Nat) (w:World) (h:c0P w R l room fp) (hroom:room≤4096) :
 Calls Tryz.prog 294 #[.pointer (some ⟨R,0,none⟩)] w (i1T w l room):=by
 obtain ⟨v,fr,raw,frm,hS,h2,h3,rfl,rfl,h4,h5,h6⟩:=h;have hSlt:=(jL hS);have hR:=jH (h2.row p0Q);have HV:=jH (show j0P c0U 44 5 w v raw fr from h2);have z0:w.cell? ⟨R,0,none⟩=some v:=by simp only [World.cell?,hS];rfl
 have z1:w.cell? ⟨R,1,none⟩=some (.int .i64 (frm:Nat)):=by simp only [World.cell?,hS];rfl
 have z2:w.cell? ⟨R,2,none⟩=some (.int .i64 (room:Nat)):=by simp only [World.cell?,hS];rfl
 have H6:=jH h6;clear hS h2 h6
 go_enter Tryz.func294,Tryz.ntmps294
 go_wp2_with fail
 go_region_with ((
   go_at_call 137
   refine a0B ?_;intro W4 hW4;have hb4:jB w W4:=by rw [hW4];repeat (first|exact jR|refine a0C ?_ _|refine Below.drew ?_)
   clear hW4;refine (p0O v raw W4 ((HV.out.below hb4).row p0Q) (by omega)).mono ?_;rintro e w2 ⟨A,c,fp2,rfl,h1,h2,h3⟩;have hb2:jB w w2:=a0D hb4 h3;have z1':=(hb2.cell (p:=⟨R,1,none⟩) hSlt).trans z1;have z2':=(hb2.cell (p:=⟨R,2,none⟩) hSlt).trans z2;have hS2:R<w2.heap.size:=by have:=hb2.size;omega
   have h2':∀k∈fp2,w.heap.size≤k:=fun k hk=>by have:=h2 k hk;have:=hb4.size;omega
   have H1:=jH h1;have H2:=jH h2';have H3:=jH hb2;clear h1 h2 h3 hb2 h2' hb4))
 all_goals go_wp2
 all_goals go_ret
 all_goals exact ⟨w2.heap.size,w2.heap.size::fp2,rfl,⟨.slice A raw.length c,fp2,raw,frm,heap_alloc_new _ _,H1.out.below (a0C jR _),fun h=>by have:=H1.out.lt _ h;omega,rfl,rfl,h4,h5,H6.out⟩,List.mem_cons_self ..,fun k hk=>by rcases List.mem_cons.1 hk with rfl|hk;exact H3.out.size;exact H2.out k hk,a0C H3.out _⟩
theorem k0C (H:Nat) (l:List Adv) (room:Nat) (fp:List Nat) (w:World) (h:d0R w H l room fp) (hroom:room≤4096) :
 Calls Tryz.prog 256 #[.pointer (some ⟨H,0,none⟩)] w (x0H w l room):=by
 obtain ⟨R,fr,hS,hR,h3,rfl,hRm⟩:=h;have HR:=jH hR;have z0:w.cell? ⟨H,0,none⟩=some (.pointer (some ⟨R,0,none⟩)):=by simp only [World.cell?,hS];rfl
 clear hS hR
 go_enter Tryz.func256,Tryz.ntmps256
 go_wp2_with (go_at_call 294;refine (q0C R l room fr w HR.out hroom).mono ?_;rintro e w2 ⟨S,fp,rfl,hr,hS,hf,hb⟩;have HH:=jH (g1H hr hS hf hb);clear hr hS hf hb)
 go_ret
 exact HH.out
end
section
theorem a0H {P:Program} {f:Func} {Q:Ending→World→Prop} {e:Exit} {a:Act} {w:World} (h:∀W,W=w→bodyPost P f Q e a W):bodyPost P f Q e a w:=h w rfl
theorem a0Y {K:Act→World→Prop} {Q:Exit→Act→World→Prop} {a:Act} {w:World} (h:∀W,W=w→Exit.then K Q Exit.normal a W):Exit.then K Q Exit.normal a w:=h w rfl
end
section
open Go.RowKit Go.Lib Go.Sort
def g0B (l:List Adv) (room:Nat) (x:Adv):List Adv:=(if l.length<room then l else l.drop 1)++[x]
def j1S (w:World) (R:Nat) (l:List Adv) (room:Nat) (fp:List Nat) (e:Ending) (w':World):Prop :=
 ∃u fp',e=.returned u∧c0P w' R l room fp'∧R∈fp'∧Upd w w' fp fp'
def RAt (w w':World) (B R:Nat) (l:List Adv) (room:Nat) (fp:List Nat):Prop :=
 ∃fp',c0P w' R l room fp'∧R∈fp'∧Upd w w' fp fp'∧(∀k∈fp',k<w.heap.size∨B≤k)
theorem RAt.set {w w':World} {B R:Nat} {l:List Adv} {room:Nat} {fp:List Nat} (h:RAt w w' B R l room fp) {b i:Nat} {v:Value} (h1:w.heap.size≤b) (h2:b<B):RAt w (w'.setCell ⟨b,i,none⟩ v) B R l room fp:=by
 obtain ⟨fp',a1,a2,a3,a4⟩:=h;have hne:∀k∈fp',k≠b:=fun k hk=>by have:=a4 k hk;omega
 refine ⟨fp',a1.kept (fun r hr=>Below.heap_setCell _ _ _ _ (hne r hr)),a2,?_,a4⟩;exact ⟨a3.os,a3.tape,a3.output,by simp [World.setCell];exact a3.size,fun k hk hn=>(Below.heap_setCell _ _ _ _ (fun e=>by have e':k=b:=e;omega)).trans (a3.block k hk hn),a3.fresh⟩
theorem RAt.below {w w' W:World} {B R:Nat} {l:List Adv} {room:Nat} {fp:List Nat} (h:RAt w w' B R l room fp) (hb:jB w' W):RAt w W B R l room fp:=by
 obtain ⟨fp',a1,a2,a3,a4⟩:=h;exact ⟨fp',a1.below hb,a2,a3.trans (Upd.of_below hb _),a4⟩
theorem RAt.says {w w':World} {B R:Nat} {l:List Adv} {room:Nat} {fp:List Nat} (h:RAt w w' B R l room fp) (u:Value):j1S w R l room fp (.returned u) w':=by
 obtain ⟨fp',a1,a2,a3,_⟩:=h;exact ⟨u,fp',rfl,a1,a2,a3⟩
theorem i1Q {w w5 w3 w':World} {R:Nat} {v v':Value} {frm room:Nat} {out:List Adv} (hS:w.heap[R]?=some (.cells #[v,.int .i64 (frm:Nat),.int .i64 (room:Nat)] 363 (0,0))) (hne:v.ownBlock≠some R) (hv:∀r,v.ownBlock=some r→r<w.heap.size)
    (hb5:jB w w5) (hb35:jB w5 w3) (hown:b0Q c0U 44 5 0 w' v' out) (hg:w3.grownBy w' v.ownBlock) (hb:v'.ownBlock=v.ownBlock∨∀r,v'.ownBlock=some r→w3.heap.size≤r) (h1:out.length≤room) (h2:frm<room) (h3:out.length<room→frm=0) :
    RAt w (w'.setCell ⟨R,0,none⟩ v') w5.heap.size R (out.drop frm++out.take frm) room (R::v.ownBlock.toList):=by
  have hb3:=a0D hb5 hb35;have h53:=hb35.size;have hSlt:=(jL hS);have hS3:=(hb3.block R hSlt).trans hS;have hSlt3:=(jL hS3);have hS':=(hg.block R hSlt3 (fun e=>hne e.symm)).trans hS3;have hne':v'.ownBlock≠some R:=fun e=>by
   rcases hb with h|h
   · exact hne (h ▸ e)
   · have:=h R e;omega
  refine ⟨R::v'.ownBlock.toList,⟨v',v'.ownBlock.toList,out,frm,a0E hS',⟨hown.kept (fun r hr=>Below.heap_setCell _ _ _ _ (fun e=>by have e':r=R:=e;rw [e'] at hr;exact hne' hr)),rfl⟩,by simpa using hne',rfl,rfl,h1,h2,h3⟩,List.mem_cons_self ..,?_,?_⟩
  · refine (Upd.of_below hb3 _).trans ⟨hg.os,hg.tape,hg.output,by simp [World.setCell];exact hg.size,fun k hk hn=>?_,fun k hk=>?_⟩
    · simp only [List.mem_cons,Option.mem_toList,not_or] at hn
      exact (Below.heap_setCell _ _ _ _ hn.1).trans (hg.block k hk (fun e=>hn.2 e.symm))
    · rcases List.mem_cons.1 hk with rfl|hk
      · exact .inl (List.mem_cons_self ..)
      · have hk':v'.ownBlock=some k:=by simpa using hk
        rcases hb with h|h
        · exact .inl (List.mem_cons_of_mem _ (by rw [←h];simpa using hk'))
        · exact .inr (h k hk')
  · intro k hk
    rcases List.mem_cons.1 hk with rfl|hk
    · exact .inl hSlt
    · have hk':v'.ownBlock=some k:=by simpa using hk
      rcases hb with h|h
      · exact .inl (hv k (by rw [←h];exact hk'))
      · exact .inr (Nat.le_trans h53 (h k hk'))
theorem e1I (R:Nat) (l:List Adv) (room:Nat) (fp:List Nat) (x:Adv) (w:World) (h:c0P w R l room fp) (hroom:room≤4096) (hl:l.length<room) :
 Calls Tryz.prog 270 #[.pointer (some ⟨R,0,none⟩),.agg (c0U x).toArray] w (j1S w R (l++[x]) room fp):=by
 obtain ⟨v,fr,raw,frm,hS,⟨hown,rfl⟩,h3,rfl,rfl,h4,h5,h6⟩:=h;have hlr:raw.length<room:=by simp at hl;omega
 obtain rfl:=h6 hlr;have hSlt:=(jL hS);obtain ⟨A,c,rfl⟩:=hown.form;have hnS':(Value.slice A raw.length c).ownBlock≠some R:=fun e=>h3 (by rw [e];simp)
 have HN:=jH hnS';have HO:=jH hown;have HS:=jH hS;have z0:w.cell? ⟨R,0,none⟩=some (.slice A raw.length c):=by simp only [World.cell?,hS];rfl
 have z2:w.cell? ⟨R,2,none⟩=some (.int .i64 (room:Nat)):=by simp only [World.cell?,hS];rfl
 have q0:((room:Int) == 0)=false:=by simp;omega
 have q1:(raw.length:Int)<(room:Int):=by omega
 have z2':∀o1 o2 o3,(((w.alloc o1).alloc o2).alloc o3).cell? ⟨R,2,none⟩=some (.int .i64 (room:Nat)):=fun o1 o2 o3=>((a0C (a0C (a0C jR _) _) _).cell (p:=⟨R,2,none⟩) hSlt).trans z2
 rw [List.drop_zero,List.take_zero,List.append_nil];clear hS hown h3 hnS' hl h6;unfold c0U
 go_enter Tryz.func270,Tryz.ntmps270
 go_wp2_with fail
 refine a0J ?_;intro W3 hW3;obtain ⟨hx3,hy3,hu3,hsz3,hb3⟩:=m0W w _ _ _ W3 hW3;have hsz:w.heap.size+2<W3.heap.size:=by omega
 clear hW3 hsz3;have hS3:=(hb3.block R hSlt).trans HS.out;obtain ⟨a1,a2,a3⟩:=a0A jR hx3;obtain ⟨a4,a5,a6⟩:=a0A jR hS3;have HB3:=jH hb3;have HY:=jH hy3;have HX:=jH hx3;have HU:=jH hu3;have HS3:=jH hS3;clear hb3 hx3 hy3 hu3 hS3
 go_quiet (fail)
 go_wp2_with fail
 refine a0J ?_;intro W5 hW5;have hb5:jB W3 W5:=by rw [hW5];exact a0G jR _
 have hb5':=a0D HB3.out hb5;have hS5:=(hb5.block R a6).trans HS3.out;have hx5:=(hb5.block _ a3).trans HX.out;have hy5:=(hb5.block _ (by omega)).trans HY.out;have hu5:=(hb5.block _ (by omega)).trans HU.out;have hsz5:w.heap.size+2<W5.heap.size:=by have:=hb5.size;omega
 clear hW5 hb5 a1 a2 a3 a4 a5 a6 hsz HB3 HY HU HS3 HX;obtain ⟨a1,a2,a3⟩:=a0A jR hx5;obtain ⟨a4,a5,a6⟩:=a0A jR hS5;have HB3:=jH hb5';have HY:=jH hy5;have HU:=jH hu5;have HS3:=jH hS5;clear hb5' hy5 hu5 hS5 hx5
 go_region_law ((
   refine d0W p0Q (by rfl) (.tmp 34) (.tmp 36) (by rfl) 0 raw [x] _ _ (by rfl) (by rfl) ((HO.out.below HB3.out).below (by repeat (first|exact jR|refine a0C ?_ _|refine Below.drew ?_|refine a0G ?_ _))) (a0Q.lit _ x _ _ _ (by first|rfl|simp) rfl) (by simp;omega) (by simp) ?_;intro out4 A4 c4 w4 hout hown4 hg4 hblk4;have hbz:∀W,jB W5 W→W.heap[R]?=some (.cells #[.slice A raw.length c,.int .i64 (0:Nat),.int .i64 (room:Nat)] 363 (0,0)):=fun W h=>(h.block R a6).trans HS3.out
   have hS4:=(hg4.block R (by simp;omega) (fun e=>HN.out e.symm)).trans (hbz _ (by repeat (first|exact jR|refine a0C ?_ _|refine Below.drew ?_|refine a0G ?_ _)));obtain ⟨e1,e2,e3⟩:=a0A jR hS4;have hblt:∀r,(Value.slice A raw.length c).ownBlock=some r→r<w.heap.size:=fun r hr=>(HO.out.lt hr).2
   have hY4:=(hg4.block (w.heap.size+1) (by simp;omega) (fun e=>by have:=hblt _ e.symm;omega)).trans ((Below.block (w:=W5) (B:=W5.heap.size) (by repeat (first|exact jR|refine a0C ?_ _|refine Below.drew ?_|refine a0G ?_ _)) _ (by omega)).trans HY.out);have hU4:=(hg4.block (w.heap.size+1+1) (by simp;omega) (fun e=>by have:=hblt _ e.symm;omega)).trans ((Below.block (w:=W5) (B:=W5.heap.size) (by repeat (first|exact jR|refine a0C ?_ _|refine Below.drew ?_|refine a0G ?_ _)) _ (by omega)).trans HU.out)
   have HY4:=jH hY4;have HU4:=jH hU4;have HOUT:=jH hout;have HXX:=jH (i1Q (frm:=0) HS.out HN.out (fun r hr=>(HO.out.lt hr).2) HB3.out (by repeat (first|exact jR|refine a0C ?_ _|refine Below.drew ?_|refine a0G ?_ _)) hown4 hg4 (hblk4.imp id (fun e r hr=>by rw [e] at hr;injection hr with hr;omega)) (by rw [hout];simp;omega) h5 (fun _=>rfl));clear hblt hY4 hU4 hbz hS4 hout hown4 hg4 hblk4))
 all_goals
   refine a0Y ?_;intro W6 hW6;have hW6':∃W,W6=W∧Below (w4.setCell ⟨R,0,none⟩ (.slice A4 out4.length c4)).heap.size (w4.setCell ⟨R,0,none⟩ (.slice A4 out4.length c4)) W:=⟨_,hW6,by repeat (first|exact jR|refine a0C ?_ _|refine Below.drew ?_)⟩;obtain ⟨W7,rfl,hb6⟩:=hW6';clear hW6;have HRA:=jH (HXX.out.below hb6);have hY6:W6.heap[w.heap.size+1]?=_:=(hb6.block _ (by simp [World.setCell];exact (jL HY4.out))).trans ((Below.heap_setCell _ _ _ _ (fun e=>by have e':w.heap.size+1=R:=e;omega)).trans HY4.out)
   have hU6:W6.heap[w.heap.size+1+1]?=_:=(hb6.block _ (by simp [World.setCell];exact (jL HU4.out))).trans ((Below.heap_setCell _ _ _ _ (fun e=>by have e':w.heap.size+1+1=R:=e;omega)).trans HU4.out);obtain ⟨f1,f2,f3⟩:=a0A jR hY6;obtain ⟨f4,f5,f6⟩:=a0A jR hU6;clear hb6 hY6 hU6 e1 e2 e3 a1 a2 a3 a4 a5 a6;go_wp2
   have hra:=HRA.out;rw [List.drop_zero,List.take_zero,List.append_nil,HOUT.out] at hra;refine bodyPost_ret (v:=.tuple #[.agg #[.int .i64 0,.int .i64 0,.int .i64 0,.int .i64 0,.int .i64 0],.bool false]) (by simp [results,Tryz.results270,go_sem,f1,f2,f3]) rfl ?_;refine RAt.says (B:=W5.heap.size) ?_ _;have c1:w.heap.size≤w.heap.size+1:=by omega
   have c2:w.heap.size+1<W5.heap.size:=by omega
   exact ((((hra.set c1 c2).set c1 c2).set c1 c2).set c1 c2).set c1 c2
end
end Go.Proofs.YtmniiodpbebnmaaGreat
