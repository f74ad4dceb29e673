/- Part 52 of the proof: DfPlay, DfAw, DfLP. -/
import Derived.Test.YtkcdhaallnhhmaaGreatQ44
import Derived.Test.YtkcdhaallnhhmaaGreatQ49
import Derived.Test.YtkcdhaallnhhmaaGreatQ51
namespace Go.Proofs.YtkcdhaallnhhmaaGreat
set_option linter.unusedSimpArgs false
set_option linter.unusedVariables false
set_option linter.unusedSectionVars false
set_option maxRecDepth 100000
set_option maxHeartbeats 16000000
section
open Go.RowKit Go.Lib
theorem key_nz {s:ByteArray} (h:idS s=true):keyK s≠(0,0):=by
 intro e;unfold keyK at e;rw [if_pos h] at e;simp only [Prod.mk.injEq] at e
 have h0:=atN_key s.data.toList 0 (by decide);rw [e.1,e.2] at h0;have hd:dig s.data.toList 0=0:=by rw [←h0];rfl
 obtain ⟨h1,_,h3⟩:=(idL_iff _).1 h;rw [dig_at _ 0 (by omega)] at hd;have hok:=h3 _ (List.getElem_mem (l:=s.data.toList) (n:=0) (by omega));unfold okB at hok;rw [hd] at hok;exact absurd hok (by decide)
theorem load_bad {c:Cfg} {es:List (SK × It)} {wd:Wd} (h:FlTells c es wd) {s:ByteArray} (hs:idS s=false):loadW wd s=none:=by
 cases hf:loadW wd s with
 | none=>rfl
 | some y =>
   unfold loadW findIt at hf;obtain ⟨p,hp,_⟩:=Option.map_eq_some_iff.1 hf;have h1:=List.mem_of_find?_eq_some hp;have h2:=List.find?_some hp;obtain ⟨t,ht1,ht2⟩:=h.keys p h1;have h3:p.1=keyK s:=by simpa using h2
   have h4:keyK s=(0,0):=by unfold keyK;rw [if_neg (by rw [hs];simp)]
   exact absurd (ht2.trans (h3.trans h4)) (key_nz ht1)
def stepW (c:Cfg) (rs rh:Nat) (wd:Wd) (x:CallD):Wd:=if x.kind=0 then (if (planW wd x.id).2=0 then (noteW c rs rh wd x.id (planW wd x.id).1).1 else wd) else (doW c rs rh wd x).1
def playW (c:Cfg) (rs rh:Nat) (wd:Wd) (l:List CallD):Wd:=l.foldl (stepW c rs rh) wd
theorem playW_drop {c:Cfg} {rs rh:Nat} {wd:Wd} {l:List CallD} {k:Nat} (hk:k<l.length):playW c rs rh wd (l.drop k)=playW c rs rh (stepW c rs rh wd l[k]) (l.drop (k+1)):=by
 rw [List.drop_eq_getElem_cons hk];rfl
def PlaySays (own:List Nat) (w:World) (M L:Nat) (c:Cfg) (rs rh n:Nat) (wd:Wd) (e:Ending) (w':World):Prop :=
 ∃d' x',e=.returned (.agg (wdC c x').toArray)∧FW (fun b=>b∉own) w' M c rs rh n wd d'∧d'.L=L∧WdIn (fun b=>b∉own) w' x'∧absW x'=wd∧Upd w w' [M,L] [M,L]
theorem play_any (own:List Nat) {M L:Nat} (c:Cfg) (rs rh n:Nat) (wd0:Wd) (d0:FlatD) (x0:WdH) (v:Value) (l:List CallD) (w0 w:World) (hF:FW (fun b=>b∉own) w M c rs rh n wd0 d0) (hL0:d0.L=L) (hM:M∈own∧L∈own) (hlt0:∀b∈own,b<w.heap.size) (hx:WdIn (fun b=>b∉own) w x0) (ha0:absW x0=wd0)
    (hv:RowIn 11 callCells w0 v l) (hb0:jB w0 w) (hML0:w0.heap.size≤M∧w0.heap.size≤L) (hok:∀x∈l,x.ok) (hc:CfgOk c rs rh) (hl:l.length≤20) (hn:n≤1000) :
    Calls Tryz.prog 11 #[.pointer (some ⟨M,0,none⟩),.agg (wdC c x0).toArray,v] w (PlaySays own w M L c rs rh (n+l.length) (playW c rs rh wd0 l)):=by
  obtain ⟨A,cp,rfl⟩:=hv.form;have hst:okSt c.st=true:=by have h:=hc.cfg;unfold cfgB at h;simp only [Bool.and_eq_true] at h;exact h.1
  have HST:=jH (And.intro hst (okSt_bd _ hst));have HCC:=jH hc;have HV:=jH hv;have HOK:=jH hok;have HN:=jH (And.intro hl hn);have HOWN:=jH (And.intro hM hlt0);have HB0:=jH (And.intro hb0 hML0);have q9:(l.length:Int)≤20:=by omega
  obtain ⟨ans,hans⟩:∃r,r=playW c rs rh wd0 l:=⟨_,rfl⟩;rw [←hans];have HANS:=jH hans;have HF0:=jH (And.intro hF (And.intro hL0 (And.intro hx ha0)));unfold wdC;clear hF hL0 hx ha0 hv hok hc hl hn hans hst hM hlt0 hb0 hML0
  go_enter Tryz.func11,Tryz.ntmps11
  go_upto_region 1 with fail
  refine name_world ?_;intro W1 hW1;have hd1:jB w W1:=by rw [hW1];exact balloc (balloc jR _) _
  have hbX:W1.heap[w.heap.size]?=some (.cells (wdC c x0).toArray 32 (0,0)):=by rw [hW1];exact box_old _ _ _
  have hbR:W1.heap[w.heap.size+1]?=some (.cells #[.int .i64 0,.int .i64 0,.int .i64 0,.int .i64 0,.slice none 0 0,.slice none 0 0,.int .i64 0,.bool false] 32 (0,0)):=by rw [hW1];exact box_new _ _ _
  have hs1:w.heap.size+1<W1.heap.size:=(jL hbR);have HXW:=jH (show w.heap.size=w.heap.size from rfl);have HP0:=jH (show FlWd (w.heap.size::(w.heap.size+1)::own) W1 M L w.heap.size c rs rh n wd0 d0 x0 by
   have hnew:∀b,b∉own→b<w.heap.size→b∉w.heap.size::(w.heap.size+1)::own:=fun b h1 h2 h3=>by
    rcases List.mem_cons.1 h3 with e|h3
    · omega
    · rcases List.mem_cons.1 h3 with e|h3
      · omega
      · exact h1 h3
   have hsub:∀b,b∉w.heap.size::(w.heap.size+1)::own→b∉own:=fun b h1 h2=>h1 (List.mem_cons_of_mem _ (List.mem_cons_of_mem _ h2))
   have hF:=HF0.out.1;have hML:=HOWN.out.2 M HOWN.out.1.1;have hLL:=HOWN.out.2 L HOWN.out.1.2;refine ⟨⟨hF.at_.keep hd1.size (hd1.block _ hF.at_.lt) (hd1.block _ hF.at_.map.lt) (fun b hb hl=>⟨hd1.block b hl,hnew b hb hl⟩) (fun b hb=>hF.at_.off b (hsub b hb)),hF.ok⟩,HF0.out.2.1,(HF0.out.2.2.1.old.below hd1).imp (fun b hb=>hnew b hb.1 hb.2),HF0.out.2.2.2,hbX,⟨List.mem_cons_of_mem _ (List.mem_cons_of_mem _ HOWN.out.1.1),List.mem_cons_of_mem _ (List.mem_cons_of_mem _ HOWN.out.1.2),List.mem_cons_self ..⟩,⟨by omega,by omega⟩,fun b hb=>?_⟩
   rcases List.mem_cons.1 hb with e|hb
   · omega
   · rcases List.mem_cons.1 hb with e|hb
     · omega
     · have:=HOWN.out.2 b hb;omega)
  have HU0:=jH (Upd.of_below hd1 [M,L]);have HR0:=jH hbR;clear hW1 hd1 hbX hbR hs1
  try go_wp2_with fail
  go_loopg [13] l.length (fun g s13 wr=>∃(k:Nat) (wd:Wd) (d:FlatD) (x:WdH),k≤l.length∧l.length - k≤g∧s13=.int .i64 k∧FlWd (w.heap.size::(w.heap.size+1)::own) wr M L w.heap.size c rs rh (n+k) wd d x∧Hid (Upd w wr [M,L] [M,L])∧Hid (wr.heap[w.heap.size+1]?=some (.cells #[.int .i64 0,.int .i64 0,.int .i64 0,.int .i64 0,.slice none 0 0,.slice none 0 0,.int .i64 0,.bool false] 32 (0,0)))∧Hid (playW c rs rh wd (l.drop k)=ans))
  case atStart=>exact ⟨0,_,d0,x0,Nat.zero_le _,Nat.le_refl _,rfl,HP0.out,HU0,HR0,jH (by rw [HANS.out];rfl)⟩
  case round =>
   obtain ⟨k,wd,d,x,hk,hg,rfl,hp,HU,HR,HA⟩:=hrel;rename World=>wr
   have HP:=jH hp;clear hp HP0 HU0 HR0 HF0;have HXM:=jH (show ¬w.heap.size=M∧¬w.heap.size=L∧¬w.heap.size+1=M∧¬w.heap.size+1=L by have h1:=HOWN.out.2 M HOWN.out.1.1;have h2:=HOWN.out.2 L HOWN.out.1.2;have:=HXW.out;omega)
   by_cases hlt:k<l.length
   · have z1:(k:Int)<(l.length:Int):=by omega
     have z2:(0:Int)≤(k:Int):=by omega
     obtain ⟨b,o,rfl,hbw,hcx⟩:=HV.out.at_ hlt;have hxok:=HOK.out _ (List.getElem_mem hlt);have HAA:=jH ((playW_drop (c:=c) (rs:=rs) (rh:=rh) (wd:=wd) hlt).symm.trans HA.out);clear HA;generalize l[k]=xx at hcx hxok HAA;have HB:=jH (show jB w0 wr from HB0.out.1.trans (HU.out.below HB0.out.1.size (fun r hr=>by
      simp only [List.mem_cons,List.not_mem_nil,or_false] at hr
      rcases hr with rfl|rfl
      · exact HB0.out.2.1
      · exact HB0.out.2.2)))
     have hbb:∀j u,(callCells xx)[j]?=some u→wr.cell? ⟨b,o+k * 11+j,none⟩=some u:=fun j u hu=>(HB.out.cell (p:=⟨b,_,none⟩) hbw).trans (hcx j u hu)
     have HXOK:=jH hxok;have CD:=jH (fun W (hW:jB wr W)=>flDo_any xx (HP.out.below hW).fw (HP.out.below hW).new HCC.out (by have:=HN.out;omega) hxok);have CD2:=jH (fun W (P:Nat→Prop) (hP:∀b,W.heap.size≤b→P b) (hx:WdIn P W x)=>do21_any P c rs rh (n+k) x xx W hP hx HCC.out.room HST.out.1 (by rw [HP.out.abs];exact HP.out.fw.ok) (by have:=HN.out;omega) hxok);have CP:=jH (fun W (hW:jB wr W)=>plan21_any (fun b=>b∉w.heap.size::(w.heap.size+1)::own) c rs rh (n+k) x xx.id W (fun b hb=>HP.out.new b (Nat.le_trans hW.size hb)) (HP.out.wo.below hW) (by have:=HST.out.2;omega) (by rw [HP.out.abs];exact HP.out.fw.ok) (by have h9:=HCC.out.room;have:=h9.r2;have:=h9.h2;omega) HXOK.out.2.1)
     rw [HP.out.abs] at CD2 CP;rw [HP.out.l] at CD;clear hcx hxok;obtain ⟨X1,X2,X3⟩:=box_cells jR HP.out.box;unfold wdC at X1;have hne0:¬w.heap.size=wr.heap.size:=by have:=HP.out.lt w.heap.size HP.out.mem.2.2;omega
     have hne0b:¬wr.heap.size=w.heap.size:=fun h=>hne0 h.symm
     by_cases hk0:xx.kind=0
     · have HAB:=jH (show playW c rs rh (if (planW wd xx.id).2=0 then (noteW c rs rh wd xx.id (planW wd xx.id).1).1 else wd) (l.drop (k+1))=ans from by have h9:=HAA.out;unfold stepW at h9;rw [if_pos hk0] at h9;exact h9)
       have HBAD:=jH (fun (h:idS xx.id=false)=>show (planW wd xx.id).2=5 by unfold planW;rw [load_bad HP.out.fw.at_.tells h]);have CN:=jH (fun (h:idS xx.id=true) W (av:Adv) (P:Nat→Prop) (hP:∀b,W.heap.size≤b→P b) (hf:FW P W M c rs rh (n+k) wd d)=>flNote_any ⟨xx.id,HXOK.out.2.1⟩ av hf hP HCC.out h);have CM:=jH (fun W (av:Adv) (P:Nat→Prop) (hP:∀b,W.heap.size≤b→P b) (hx:WdIn P W x)=>note21_any P c rs rh (n+k) x xx.id av W hP hx HCC.out.room HST.out.1 (by rw [HP.out.abs];exact HP.out.fw.ok) (by have:=HN.out;omega) HXOK.out.2.1)
       rw [HP.out.abs] at CM;rw [HP.out.l] at CN;clear CD CD2 HAA;obtain ⟨pl,hpl⟩:∃r,r=planW wd xx.id:=⟨_,rfl⟩;rw [←hpl] at CP HAB HBAD;clear hpl;obtain ⟨⟨a0,a1,a2,a3,a4⟩,er⟩:=pl;have CM:=jH (fun W=>CM.out W ⟨a0,a1,a2,a3,a4⟩);have CN:=jH (fun h W=>CN.out h W ⟨a0,a1,a2,a3,a4⟩);obtain ⟨nt,hnt⟩:∃r,r=noteW c rs rh wd xx.id ⟨a0,a1,a2,a3,a4⟩:=⟨_,rfl⟩;rw [←hnt] at CM CN;have HAC:=jH (show playW c rs rh (if er=0 then nt.1 else wd) (l.drop (k+1))=ans from by rw [hnt];exact HAB.out)
       clear HAB hnt;obtain ⟨kind,id,tick,val,handle,⟨p0,p1,p2,p3,p4,p5⟩⟩:=xx;dsimp only at hk0;subst hk0;have x0:=hbb 0 _ rfl;have x1:=hbb 1 _ rfl;have x2:=hbb 2 _ rfl;have x3:=hbb 3 _ rfl;have x4:=hbb 4 _ rfl;have x5:=hbb 5 _ rfl;have x6:=hbb 6 _ rfl;have x7:=hbb 7 _ rfl;have x8:=hbb 8 _ rfl;have x9:=hbb 9 _ rfl;have x10:=hbb 10 _ rfl;rw [Nat.add_zero] at x0;dsimp only at x0 x1 x2 x3 x4 x5 x6 x7 x8 x9 x10 CP CM CN HBAD
       unfold advC at CP CM CN;unfold wdC at CP CM;dsimp only at CP CM CN;clear hbb
       go_upto_region 6 with (first
        | (go_at_call 44
           refine calls_named ?_;intro V hV;have hd:jB wr V:=by rw [hV];exact balloc jR _
           have hx1:V.heap[wr.heap.size]?=some (.cells #[.int .i64 0,.string id,.int .i64 tick,.int .i64 val,.int .i64 handle,.int .i64 p0,.int .i64 p1,.int .i64 p2,.int .i64 p3,.int .i64 p4,.int .i64 p5] 69 (0,0)):=by rw [hV];exact heap_alloc_new _ _
           clear hV;refine (CP.out V hd).mono ?_;rintro e u1 ⟨rfl,hb1⟩;have HC1:=jH (jK hb1 hx1);have HB1:=jH (bthen hd hb1);clear hd hx1 hb1 x0 x1 x2 x3 x4 x5 x6 x7 x8 x9 x10 X1 X2 X3))
       refine name_world ?_;intro U hU;have hdU:jB u1 U:=by rw [hU];exact balloc jR _
       have HAD:=jH (show U.heap[u1.heap.size]?=some (.cells #[.int .i64 a0,.int .i64 a1,.int .i64 a2,.int .i64 a3,.int .i64 a4] 74 (0,0)) by rw [hU];exact heap_alloc_new _ _);have HCU:=jH (jK hdU HC1.out);have HBU:=jH (bthen HB1.out hdU);have HPU:=jH (HP.out.below (bthen HB1.out hdU));have HRU:=jH (jK (bthen HB1.out hdU) HR.out);clear hU hdU
       by_cases he:er=0
       · have HID:=jH (show idS id=true by
          cases hi:idS id with
          | true=>rfl
          | false=>have:=HBAD.out hi;omega)
         have HA2:=jH (show playW c rs rh nt.1 (l.drop (k+1))=ans from by have h9:=HAC.out;rw [if_pos he] at h9;exact h9);subst he;obtain ⟨g1,g2,g3⟩:=box_cells jR HCU.out;obtain ⟨y1,y2,y3⟩:=box_cells jR HAD.out;have HLT:=jH (show M<wr.heap.size∧L<wr.heap.size∧w.heap.size<wr.heap.size∧wr.heap.size≤u1.heap.size from ⟨HP.out.lt M HP.out.mem.1,HP.out.lt L HP.out.mem.2.1,HP.out.lt w.heap.size HP.out.mem.2.2,HB1.out.size⟩)
         go_upto_region 8 with (first
          | (go_at_call 45
             refine ((CN.out HID.out) U _ HPU.out.new HPU.out.fw).mono ?_;rintro e u2 ⟨d',rfl,hf,hl9,hu⟩;have HF2:=jH hf;have HL2:=jH hl9;have HU2:=jH ((Upd.of_below HBU.out [M,L]).trans hu);have HC2:=jH (upd_at hu (by have h8:=HLT.out;simp only [List.mem_cons,List.not_mem_nil,or_false];omega) HCU.out);have HD2:=jH (upd_at hu (by have h8:=HLT.out;simp only [List.mem_cons,List.not_mem_nil,or_false];omega) HAD.out)
             have HX2:=jH (upd_at hu (by have h8:=HXM.out;simp only [List.mem_cons,List.not_mem_nil,or_false];omega) HPU.out.box);have HR2:=jH (upd_at hu (by have h8:=HXM.out;simp only [List.mem_cons,List.not_mem_nil,or_false];omega) HRU.out);have HW2:=jH (HPU.out.wo.keepP hu.size (fun b hb hlt=>hu.block b hlt (fun hq=>hb (by simp only [List.mem_cons,List.not_mem_nil,or_false] at hq;rcases hq with rfl|rfl;exact HPU.out.mem.1;exact HPU.out.mem.2.1))))
             have HN2:=jH (show ∀b,u2.heap.size≤b→b∉w.heap.size::(w.heap.size+1)::own from fun b hb=>HPU.out.new b (Nat.le_trans hu.size hb));clear hf hl9 hu g1 g2 g3 y1 y2 y3))
         obtain ⟨g1,g2,g3⟩:=box_cells jR HC2.out;obtain ⟨y1,y2,y3⟩:=box_cells jR HD2.out;obtain ⟨t1,t2,t3⟩:=box_cells jR HX2.out;unfold wdC at t1
         go_wp2_with (first
          | (go_at_call 46
             refine (CM.out u2 _ HN2.out HW2.out).mono ?_;rintro e u3 ⟨x',rfl,hw,ha,hb⟩;unfold wdC;have HW3:=jH hw;have HA3:=jH ha;have HB3:=jH hb;have HX3:=jH (jK hb HX2.out);have HR3:=jH (jK hb HR2.out);clear hw ha hb g1 g2 g3 y1 y2 y3 t1 t2 t3;obtain ⟨t1,t2,t3⟩:=box_cells jR HX3.out;unfold wdC at t1))
         go_roundg (l.length - (k+1))
         case measure=>omega
         case rel =>
          have hu3:=HU2.out.trans (Upd.of_below HB3.out [M,L]);obtain ⟨f1,f2,f3⟩:=HP.out.put hu3 (HF2.out.below HB3.out) HL2.out HW3.out HA3.out rfl;obtain ⟨s1,s2,s3,s4⟩:=stor_at HX3.out (wdC c x') (by simp [wdC]) _ rfl;exact ⟨k+1,nt.1,d',x',hlt,Nat.le_refl _,by go_num,f1,jH (updLater (HU.out.trans hu3) (s4 _ (Nat.le_refl _)) (Nat.le_of_eq s3.symm)),jH ((s2 (w.heap.size+1) (by omega)).trans HR3.out),HA2⟩
       · have HA2:=jH (show playW c rs rh wd (l.drop (k+1))=ans from by have h9:=HAC.out;rw [if_neg he] at h9;exact h9)
         have ze:(er == 0)=false:=by simpa using he
         clear he;go_wp2_with fail
         go_roundg (l.length - (k+1))
         case measure=>omega
         case rel=>exact ⟨k+1,wd,d,x,hlt,Nat.le_refl _,by go_num,⟨HPU.out.fw.mono (by omega),HPU.out.l,HPU.out.wo,HPU.out.abs,HPU.out.box,HPU.out.mem,HPU.out.ne,HPU.out.lt⟩,jH (HU.out.trans (Upd.of_below HBU.out [M,L])),HRU,HA2⟩
     · have HA2:=jH (show playW c rs rh (doW c rs rh wd xx).1 (l.drop (k+1))=ans from by have h9:=HAA.out;unfold stepW at h9;rw [if_neg hk0] at h9;exact h9)
       have zk:(xx.kind == 0)=false:=by simpa using hk0
       have HLT:=jH (show M<wr.heap.size∧L<wr.heap.size∧w.heap.size<wr.heap.size from ⟨HP.out.lt M HP.out.mem.1,HP.out.lt L HP.out.mem.2.1,HP.out.lt w.heap.size HP.out.mem.2.2⟩);clear CP HAA hk0;obtain ⟨r,hr⟩:∃r,r=doW c rs rh wd xx:=⟨_,rfl⟩;rw [←hr] at CD CD2 HA2;clear hr;obtain ⟨kind,id,tick,val,handle,⟨p0,p1,p2,p3,p4,p5⟩⟩:=xx;have x0:=hbb 0 _ rfl;have x1:=hbb 1 _ rfl;have x2:=hbb 2 _ rfl;have x3:=hbb 3 _ rfl
       have x4:=hbb 4 _ rfl;have x5:=hbb 5 _ rfl;have x6:=hbb 6 _ rfl;have x7:=hbb 7 _ rfl;have x8:=hbb 8 _ rfl;have x9:=hbb 9 _ rfl;have x10:=hbb 10 _ rfl;rw [Nat.add_zero] at x0;unfold callV at CD CD2;unfold wdC at CD2;dsimp only at x0 x1 x2 x3 x4 x5 x6 x7 x8 x9 x10 CD CD2 zk;obtain ⟨nw9,rp⟩:=r;unfold repV repC at CD;dsimp only at CD HA2;clear hbb
       go_upto_region 10 with (first
        | (go_at_call 41
           refine calls_named ?_;intro V hV;have hd:jB wr V:=by rw [hV];exact balloc jR _
           have hx1:V.heap[wr.heap.size]?=some (.cells #[.int .i64 kind,.string id,.int .i64 tick,.int .i64 val,.int .i64 handle,.int .i64 p0,.int .i64 p1,.int .i64 p2,.int .i64 p3,.int .i64 p4,.int .i64 p5] 69 (0,0)):=by rw [hV];exact heap_alloc_new _ _
           clear hV;refine (CD.out V hd).mono ?_;rintro e u1 ⟨d',rfl,hfw,hl9,hu⟩;have hu1:=(Upd.of_below hd _).trans hu;have HF1:=jH hfw;have HL1:=jH hl9;have HU1:=jH hu1;have HC1:=jH (upd_at hu (by have h8:=HLT.out;simp only [List.mem_cons,List.not_mem_nil,or_false];omega) hx1);have HX1:=jH (upd_at hu1 (by have h8:=HXM.out;simp only [List.mem_cons,List.not_mem_nil,or_false];omega) HP.out.box);have HR1:=jH (upd_at hu1 (by have h8:=HXM.out;simp only [List.mem_cons,List.not_mem_nil,or_false];omega) HR.out)
           have HW1:=jH (HP.out.wo.keepP hu1.size (fun b hb hlt=>hu1.block b hlt (fun hq=>hb (by simp only [List.mem_cons,List.not_mem_nil,or_false] at hq;rcases hq with rfl|rfl;exact HP.out.mem.1;exact HP.out.mem.2.1))));have HN1:=jH (show ∀b,u1.heap.size≤b→b∉w.heap.size::(w.heap.size+1)::own from fun b hb=>HP.out.new b (Nat.le_trans hu1.size hb));obtain ⟨y1,y2,y3⟩:=box_cells jR HX1.out;unfold wdC at y1
           obtain ⟨g1,g2,g3⟩:=box_cells jR HC1.out;clear hd hx1 hfw hl9 hu hu1 x0 x1 x2 x3 x4 x5 x6 x7 x8 x9 x10 X1 X2 X3))
       go_wp2_with (first
        | (go_at_call 47
           refine (CD2.out u1 _ HN1.out HW1.out).mono ?_;rintro e u2 ⟨x',rfl,hw,ha,hb⟩;unfold wdC;have HW2:=jH hw;have HA3:=jH ha;have HB2:=jH hb;have HX2:=jH (jK hb HX1.out);have HR2:=jH (jK hb HR1.out);clear hw ha hb y1 y2 y3 g1 g2 g3;obtain ⟨y1,y2,y3⟩:=box_cells jR HX2.out;unfold wdC at y1))
       go_roundg (l.length - (k+1))
       case measure=>omega
       case rel =>
        have hu2:=HU1.out.trans (Upd.of_below HB2.out [M,L]);obtain ⟨f1,f2,f3⟩:=HP.out.put hu2 (HF1.out.below HB2.out) HL1.out HW2.out HA3.out rfl;obtain ⟨s1,s2,s3,s4⟩:=stor_at HX2.out (wdC c x') (by simp [wdC]) _ rfl;exact ⟨k+1,nw9,d',x',hlt,Nat.le_refl _,by go_num,f1,jH (updLater (HU.out.trans hu2) (s4 _ (Nat.le_refl _)) (Nat.le_of_eq s3.symm)),jH ((s2 (w.heap.size+1) (by omega)).trans HR2.out),HA2⟩
   · obtain rfl:k=l.length:=by omega
     have z1:¬(l.length:Int)<(l.length:Int):=by omega
     obtain rfl:wd=ans:=by have h9:=HA.out;rw [List.drop_length] at h9;exact h9
     obtain ⟨X1,X2,X3⟩:=box_cells jR HP.out.box;obtain ⟨r1,r2,r3⟩:=box_cells jR HR.out;have hneX:¬w.heap.size+1=w.heap.size:=by omega
     have hneY:¬w.heap.size=w.heap.size+1:=by omega
     unfold wdC at X1;clear HA;go_wp2_with fail
     refine post_named ?_;intro W9 hW9;have hst:=stor_at HR.out (wdC c x) (by simp [wdC]) W9 (by rw [hW9];rfl);obtain ⟨t1,t2,t3,t4⟩:=hst;obtain ⟨c1,c2,c3⟩:=box_cells jR t1;unfold wdC at c1;have hsub:∀b,b∉w.heap.size::(w.heap.size+1)::own→b∉own:=fun b h1 h2=>h1 (List.mem_cons_of_mem _ (List.mem_cons_of_mem _ h2))
     have hX1:∀b,b∉w.heap.size::(w.heap.size+1)::own→b≠w.heap.size+1:=fun b h1 h2=>h1 (by rw [h2];exact List.mem_cons_of_mem _ (List.mem_cons_self ..))
     have hfin:PlaySays own w M L c rs rh (n+l.length) wd (.returned (.agg (wdC c x).toArray)) W9:=by
      refine ⟨d,x,rfl,⟨HP.out.fw.at_.keep (Nat.le_of_eq t3.symm) (t2 M (fun e=>HXM.out.2.2.1 e.symm)) (by rw [HP.out.l];exact t2 L (fun e=>HXM.out.2.2.2 e.symm)) (fun b hb hl=>⟨t2 b (hX1 b hb),hsub b hb⟩) (fun b hb=>?_),HP.out.fw.ok⟩,HP.out.l,(HP.out.wo.keepP (Nat.le_of_eq t3.symm) (fun b hb hl=>t2 b (hX1 b hb))).imp hsub,HP.out.abs,updLater HU.out (t4 _ (by have:=HXW.out;omega)) (Nat.le_of_eq t3.symm)⟩
      rw [HP.out.l];exact ⟨fun e=>hb (by rw [e];exact HOWN.out.1.1),fun e=>hb (by rw [e];exact HOWN.out.1.2)⟩
     clear hW9 t1 t2 t3 t4 X1 X2 X3 r1 r2 r3;exact bodyPost_ret (v:=.agg (wdC c x).toArray) (by unfold wdC;simp [results,Tryz.results11,go_sem,c1]) rfl hfin
end
section
open Go.RowKit Go.Lib
theorem FW.cmp {P:Nat→Prop} {w:World} {M:Nat} {c:Cfg} {rs rh n:Nat} {wd:Wd} {d:FlatD} (h:FW P w M c rs rh n wd d) (hc:CfgOk c rs rh):FlCmp d.es:=by
 refine ⟨?_,fun p hp=>?_,h.small hc⟩
 · have h1:=allW_len h.ok (okSt_bd _ hc.st).2
   rw [h.at_.tells.len hc.st];omega
 · have h1:=h.at_.tells.has.1 p hp
   rcases Nat.lt_or_ge 20 p.1.1.size with h9|h9
   · rw [idS_len _ (.inr h9)] at h1;cases h1
   · omega
theorem FW.leave {P Q:Nat→Prop} {w w':World} {M:Nat} {c:Cfg} {rs rh n:Nat} {wd:Wd} {d:FlatD} {l l':List Nat} (h:FW P w M c rs rh n wd d) (hu:Upd w w' l l') (hM:M∉l) (hL:d.L∉l) (hP:∀b,P b→b∉l):FW P w' M c rs rh n wd d :=
 ⟨h.at_.keep hu.size (hu.block _ h.at_.lt hM) (hu.block _ h.at_.map.lt hL) (fun b hb hlt=>⟨hu.block b hlt (hP b hb),hb⟩) h.at_.off,h.ok⟩
theorem lines_wd {P Q:Nat→Prop} {w:World} {M1 M2:Nat} {c:Cfg} {rs rh n1 n2:Nat} {wa wb:Wd} {d1 d2:FlatD} (h1:FW P w M1 c rs rh n1 wa d1) (h2:FW Q w M2 c rs rh n2 wb d2) (hc:CfgOk c rs rh) (l out:List ByteArray) (hl:SrtB l) (hm:∀s,s∈l ↔ idS s=true∧((loadW wa s).isSome=true∨(loadW wb s).isSome=true)) (ho:linesWd wa wb l=out) :
 Calls Tryz.prog 15 #[.pointer (some ⟨M1,0,none⟩),.pointer (some ⟨M2,0,none⟩)] w (WordsSays w out):=by
 have h:=lines_any h1.at_ h2.at_ (h1.cmp hc) (h2.cmp hc);rw [linesE_wd h1.at_.tells h2.at_.tells l hl hm,ho] at h;exact h
theorem same_wd {P Q:Nat→Prop} {w:World} {M1 M2:Nat} {c:Cfg} {rs rh n1 n2:Nat} {wa wb:Wd} {d1 d2:FlatD} (h1:FW P w M1 c rs rh n1 wa d1) (h2:FW Q w M2 c rs rh n2 wb d2) (hc:CfgOk c rs rh) (l out:List ByteArray) (hl:SrtB l) (hm:∀s,s∈l ↔ idS s=true∧((loadW wa s).isSome=true∨(loadW wb s).isSome=true)) (ho:linesWd wa wb l=out) :
 Calls Tryz.prog 14 #[.pointer (some ⟨M1,0,none⟩),.pointer (some ⟨M2,0,none⟩)] w (jP w (.bool (decide (out.length=0)))):=by
 have h:=same47_any h1.at_ h2.at_ (h1.cmp hc) (h2.cmp hc);rw [linesE_wd h1.at_.tells h2.at_.tells l hl hm,ho] at h;exact h
def cS47:Cfg:=⟨1,2,2,1⟩
theorem cS47_ok:CfgOk cS47 2 1:=⟨by decide,rfl,rfl,⟨by unfold I64 cS47;decide,by unfold I64 cS47;decide,by unfold I64 cS47;decide,by unfold I64 cS47;decide⟩⟩
def sA47:ByteArray:=⟨#[97]⟩
def xA47:CallD:=⟨1,sA47,1,0,0,⟨0,0,0,0,0,0⟩⟩
def xB47:CallD:=⟨1,sA47,2,0,0,⟨0,0,0,0,0,0⟩⟩
theorem i64_s47 {n:Int} (h:0≤n∧n≤100):I64 n:=by unfold I64;omega
theorem xA47_ok:xA47.ok:=⟨i64_s47 (by decide),by decide,i64_s47 (by decide),i64_s47 (by decide),i64_s47 (by decide),⟨i64_s47 (by decide),i64_s47 (by decide),i64_s47 (by decide),i64_s47 (by decide),i64_s47 (by decide),i64_s47 (by decide)⟩⟩
theorem xB47_ok:xB47.ok:=⟨i64_s47 (by decide),by decide,i64_s47 (by decide),i64_s47 (by decide),i64_s47 (by decide),⟨i64_s47 (by decide),i64_s47 (by decide),i64_s47 (by decide),i64_s47 (by decide),i64_s47 (by decide),i64_s47 (by decide)⟩⟩
noncomputable def wA47:Wd:=(doW cS47 2 1 (newW 1) xA47).1
noncomputable def wB47:Wd:=(doW cS47 2 1 wA47 xB47).1
theorem findIt_some {l:List Itm} {k:Ky}:(findIt l k).isSome=true ↔ k∈l.map (·.1):=by
 unfold findIt;rw [Option.isSome_map,List.find?_isSome];simp
theorem load_one {wd:Wd} (h:(allW wd).map (·.1)=[keyK sA47]) {s:ByteArray} (hs:idS s=true):(loadW wd s).isSome=true ↔ s=sA47:=by
 unfold loadW;rw [findIt_some,h,List.mem_singleton];exact ⟨fun e=>keyK_inj hs (by kernel_rfl) e,fun e=>by rw [e]⟩
theorem keysA:(allW wA47).map (·.1)=[keyK sA47]:=by kernel_rfl
theorem keysB:(allW wB47).map (·.1)=[keyK sA47]:=by kernel_rfl
theorem load_no {s:ByteArray}:(loadW (newW 1) s).isSome=true ↔ False:=by
 have:loadW (newW 1) s=none:=rfl;rw [this];simp
theorem memA {s:ByteArray}:s∈[sA47] ↔ idS s=true∧((loadW (newW 1) s).isSome=true∨(loadW wA47 s).isSome=true):=by
 rw [List.mem_singleton]
 constructor
 · rintro rfl
   exact ⟨by kernel_rfl,.inr ((load_one keysA (by kernel_rfl)).2 rfl)⟩
 · rintro ⟨h1,h2|h2⟩
   · exact (load_no.1 h2).elim
   · exact (load_one keysA h1).1 h2
theorem memB {s:ByteArray}:s∈[sA47] ↔ idS s=true∧((loadW wA47 s).isSome=true∨(loadW wB47 s).isSome=true):=by
 rw [List.mem_singleton]
 constructor
 · rintro rfl
   exact ⟨by kernel_rfl,.inr ((load_one keysB (by kernel_rfl)).2 rfl)⟩
 · rintro ⟨h1,h2|h2⟩
   · exact (load_one keysA h1).1 h2
   · exact (load_one keysB h1).1 h2
theorem memN {s:ByteArray}:s∈([]:List ByteArray) ↔ idS s=true∧((loadW (newW 1) s).isSome=true∨(loadW (newW 1) s).isSome=true):=by
 constructor
 · intro h;cases h
 · rintro ⟨h1,h2|h2⟩ <;> exact (load_no.1 h2).elim
theorem linesA:linesWd (newW 1) wA47 [sA47]=[⟨#[43,32,97]⟩]:=by kernel_rfl
theorem linesB:linesWd wA47 wB47 [sA47]=[⟨#[126,32,97,32,115,97,109,112,108,101,115]⟩]:=by kernel_rfl
theorem FW.offT {P:Nat→Prop} {w w':World} {M U L:Nat} {c:Cfg} {rs rh n:Nat} {wd:Wd} {d:FlatD} (h:FW P w M c rs rh n wd d) (hb:jB w w') (hU:w.heap.size≤U) (hL:w.heap.size≤L):FW (OffT P U L) w' M c rs rh n wd d :=
 ⟨h.at_.keep hb.size (hb.block _ h.at_.lt) (hb.block _ h.at_.map.lt) (fun b hP hlt=>⟨hb.block b hlt,hP,by omega,by omega⟩) (fun b hQ=>h.at_.off b hQ.1),h.ok⟩
theorem doA47 {P:Nat→Prop} {w:World} {T:Nat} {d:FlatD} (h:FW P w T cS47 2 1 0 (newW 1) d) (hP:∀b,w.heap.size≤b→P b) :
 ∃rep,Calls Tryz.prog 41 #[.pointer (some ⟨T,0,none⟩),.agg #[.int .i64 1,.string { data:=#[97] },.int .i64 1,.int .i64 0,.int .i64 0,.int .i64 0,.int .i64 0,.int .i64 0,.int .i64 0,.int .i64 0,.int .i64 0]] w (FWSays P w T cS47 2 1 1 d.L rep wA47):=⟨_,flDo_any xA47 h hP cS47_ok (by decide) xA47_ok⟩
theorem doB47 {P:Nat→Prop} {w:World} {T:Nat} {d:FlatD} (h:FW P w T cS47 2 1 1 wA47 d) (hP:∀b,w.heap.size≤b→P b) :
 ∃rep,Calls Tryz.prog 41 #[.pointer (some ⟨T,0,none⟩),.agg #[.int .i64 1,.string { data:=#[97] },.int .i64 2,.int .i64 0,.int .i64 0,.int .i64 0,.int .i64 0,.int .i64 0,.int .i64 0,.int .i64 0,.int .i64 0]] w (FWSays P w T cS47 2 1 2 d.L rep wB47):=⟨_,flDo_any xB47 h hP cS47_ok (by decide) xB47_ok⟩
theorem new47 (W:World):Calls Tryz.prog 10 #[.agg #[.int .i64 1,.int .i64 2,.int .i64 2,.int .i64 1]] W fun e w'=>∃M d,e=.returned (.pointer (some ⟨M,0,none⟩))∧FW (fun b=>b≠M∧b≠d.L) w' M cS47 2 1 0 (newW 1) d∧W.heap.size≤M∧W.heap.size≤d.L∧jB W w':=fw_new cS47 2 1 1 W cS47_ok rfl
theorem small47 (w:World):Calls Tryz.prog 40 #[] w (jP w (.agg #[.int .i64 1,.int .i64 2,.int .i64 2,.int .i64 1])):=by
 go_enter Tryz.func40,Tryz.ntmps40
 go_wp2_with fail
 first
  | (go_ret;exact ⟨rfl,by repeat (first|exact jR|refine balloc ?_ _)⟩)
  | (refine post_named ?_
     intro W9 hW9;have hb9:jB w W9:=by rw [hW9];repeat (first|exact jR|refine Below.setCell ?_ (by simp) _|refine balloc ?_ _)
     exact bodyPost_ret (v:=.agg #[.int .i64 1,.int .i64 2,.int .i64 2,.int .i64 1]) (by simp [results,Tryz.results40,go_sem,hW9]) rfl ⟨rfl,hb9⟩)
theorem awake47_any (w:World):Calls Tryz.prog 8 #[] w (jP w (.bool true)):=by
 go_enter Tryz.func8,Tryz.ntmps8
 go_wp2_with (first
  | (go_at_call 14
     refine calls_named ?_;intro V10 hV;have hb:jB w10 V10:=by rw [hV];repeat (first|exact jR|refine balloc ?_ _)
     clear hV;have hf:=HF010.out.below hb;refine (same_wd hf hf cS47_ok [] [] List.Pairwise.nil (fun s=>memN) rfl).mono ?_;rintro e w11 ⟨he,hb2⟩;have he9:e=.returned (.bool true):=he;subst he9;have HB11:=jH (bthen (bthen HB10.out hb) hb2);clear hb hb2 hf he)
  | (go_at_call 17
     refine calls_named ?_;intro V9 hV;have hb:jB w9 V9:=by rw [hV];repeat (first|exact jR|refine balloc ?_ _)
     have hu:RowIn 1 idC V9 (.slice (some ⟨w9.heap.size,0,none⟩) 1 1) [⟨#[126,32,97,32,115,97,109,112,108,101,115]⟩]:=by rw [hV];exact RowIn.lit (n:=1) (f:=idC) w9 _ _ _ _ (by first|rfl|simp) rfl
     clear hV;refine (texts22_any _ _ [⟨#[126,32,97,32,115,97,109,112,108,101,115]⟩] V9 ((HO9.out.row eId).below hb) hu (by decide)).mono ?_;rintro e w10 ⟨rfl,hb2⟩;have HB10:=jH (bthen (bthen HB9.out hb) hb2);have HF010:=jH ((HF09.out.below hb).below hb2);clear hb hb2 hu)
  | (go_at_call 15
     refine calls_named ?_;intro V8 hV;have hb:jB w8 V8:=by rw [hV];repeat (first|exact jR|refine balloc ?_ _)
     clear hV;refine (lines_wd (HF18.out.below hb) (HF28.out.below hb) cS47_ok [sA47] _ (List.pairwise_singleton _ _) (fun s=>memB) linesB).mono ?_;rintro e w9 ⟨A9,c9,rfl,ho,hb2⟩;have HO9:=jH ho;have HB9:=jH (bthen (bthen HB8.out hb) hb2);have HF09:=jH ((HF08.out.below hb).below hb2);clear hb hb2 ho)
  | (go_at_call 17
     refine calls_named ?_;intro V7 hV;have hb:jB w7 V7:=by rw [hV];repeat (first|exact jR|refine balloc ?_ _)
     have hu:RowIn 1 idC V7 (.slice (some ⟨w7.heap.size,0,none⟩) 1 1) [⟨#[43,32,97]⟩]:=by rw [hV];exact RowIn.lit (n:=1) (f:=idC) w7 _ _ _ _ (by first|rfl|simp) rfl
     clear hV;refine (texts22_any _ _ [⟨#[43,32,97]⟩] V7 ((HO7.out.row eId).below hb) hu (by decide)).mono ?_;rintro e w8 ⟨rfl,hb2⟩;have HB8:=jH (bthen (bthen HB7.out hb) hb2);have HF08:=jH ((HF07.out.below hb).below hb2);have HF18:=jH ((HF17.out.below hb).below hb2);have HF28:=jH ((HF27.out.below hb).below hb2);clear hb hb2 hu)
  | (go_at_call 15
     refine calls_named ?_;intro V6 hV;have hb:jB w6 V6:=by rw [hV];repeat (first|exact jR|refine balloc ?_ _)
     clear hV;refine (lines_wd (HF06.out.below hb) (HF16.out.below hb) cS47_ok [sA47] _ (List.pairwise_singleton _ _) (fun s=>memA) linesA).mono ?_;rintro e w7 ⟨A7,c7,rfl,ho,hb2⟩;have HO7:=jH ho;have HB7:=jH (bthen (bthen HB6.out hb) hb2);have HF07:=jH ((HF06.out.below hb).below hb2);have HF17:=jH ((HF16.out.below hb).below hb2);have HF27:=jH ((HF26.out.below hb).below hb2);clear hb hb2 ho)
  | (go_at_call 41
     refine calls_named ?_;intro V5 hV;have hb:jB w5 V5:=by rw [hV];repeat (first|exact jR|refine balloc ?_ _)
     clear hV;have hn:=HN5.out;have hs:=hb.size;have hoff:∀b,V5.heap.size≤b→OffT (OffT (fun b=>b≠M∧b≠d0.L) T d1.L) U d2.L b:=fun b hb9=>⟨⟨⟨by omega,by omega⟩,by omega,by omega⟩,by omega,by omega⟩
     obtain ⟨rep,hd⟩:=doB47 (HF25.out.below hb) hoff;refine hd.mono ?_;rintro e w6 ⟨d3,rfl,hf,hl,hu⟩;have HF26:=jH hf;have HF16:=jH ((HF15.out.below hb).leave (Q:=fun _=>True) hu (by simp only [List.mem_cons,List.not_mem_nil,or_false];omega) (by rw [HL1.out];simp only [List.mem_cons,List.not_mem_nil,or_false];omega) (fun b hb9=>by have h1:=hb9.2;simp only [List.mem_cons,List.not_mem_nil,or_false];omega))
     have HF06:=jH ((HF05.out.below hb).leave (Q:=fun _=>True) hu (by simp only [List.mem_cons,List.not_mem_nil,or_false];omega) (by simp only [List.mem_cons,List.not_mem_nil,or_false];omega) (fun b hb9=>by have h1:=hb9.2;simp only [List.mem_cons,List.not_mem_nil,or_false];omega));have HB6:=jH ((bthen HB5.out hb).trans (hu.below (bthen HB5.out hb).size (fun r hr=>by simp only [List.mem_cons,List.not_mem_nil,or_false] at hr;omega)))
     clear hn hs hoff hd hf hl hu hb)
  | (go_at_call 13
     refine calls_named ?_;intro V4 hV;have hb:jB w4 V4:=by rw [hV];repeat (first|exact jR|refine balloc ?_ _)
     clear hV;have hn:=HN4.out;have hs:=hb.size;have hf1:=HF14.out.below hb;refine (flTwin_any hf1 (fun b hb9=>⟨⟨by omega,by omega⟩,by omega,by omega⟩) (by rw [hf1.at_.len];exact Nat.le_trans hf1.ok.cuts (by decide))).mono ?_;rintro e w5 ⟨U,d2,rfl,ha,hbb,hU,hL,hb2⟩;have HF15:=jH ha;have HF25:=jH hbb;have HF05:=jH ((HF04.out.below hb).offT hb2 hU hL);have HN5:=jH (show M<w3.heap.size∧d0.L<w3.heap.size∧T<w3.heap.size∧d1.L<w3.heap.size∧w3.heap.size≤U∧w3.heap.size≤d2.L∧w3.heap.size≤w5.heap.size∧U<w5.heap.size∧d2.L<w5.heap.size∧w.heap.size≤M∧w.heap.size≤U∧w.heap.size≤d2.L by
      have h1:=hbb.at_.lt;have h2:=hbb.at_.map.lt;have h3:=hb2.size;omega)
     have HB5:=jH (bthen (bthen HB4.out hb) hb2);clear hn hs hf1 ha hbb hU hL hb hb2)
  | (go_at_call 41
     refine calls_named ?_;intro V3 hV;have hb:jB w3 V3:=by rw [hV];repeat (first|exact jR|refine balloc ?_ _)
     clear hV;have hn:=HN3.out;have hs:=hb.size;have hoff:∀b,V3.heap.size≤b→OffT (fun b=>b≠M∧b≠d0.L) T d1.L b:=fun b hb9=>⟨⟨by omega,by omega⟩,by omega,by omega⟩
     obtain ⟨rep,hd⟩:=doA47 (HF13.out.below hb) hoff;refine hd.mono ?_;rintro e w4 ⟨d1',rfl,hf,hl,hu⟩;have HL1:=jH hl;have HF14:=jH hf;have HF04:=jH ((HF03.out.below hb).leave (Q:=fun _=>True) hu (by simp only [List.mem_cons,List.not_mem_nil,or_false];omega) (by simp only [List.mem_cons,List.not_mem_nil,or_false];omega) (fun b hb9=>by have h1:=hb9.2;simp only [List.mem_cons,List.not_mem_nil,or_false];omega))
     have HB4:=jH ((bthen HB3.out hb).trans (hu.below (bthen HB3.out hb).size (fun r hr=>by simp only [List.mem_cons,List.not_mem_nil,or_false] at hr;omega)));have HN4:=jH (show M<w3.heap.size∧d0.L<w3.heap.size∧T<w3.heap.size∧d1.L<w3.heap.size∧w3.heap.size≤w4.heap.size∧w.heap.size≤M∧w.heap.size≤w3.heap.size by have:=hu.size;omega);clear hn hs hoff hd hf hl hu hb)
  | (go_at_call 13
     refine calls_named ?_;intro V2 hV;have hb:jB w2 V2:=by rw [hV];repeat (first|exact jR|refine balloc ?_ _)
     clear hV;have hn:=HN2.out;have hs:=hb.size;have hf0:=HF02.out.below hb;refine (flTwin_any hf0 (fun b hb9=>⟨by omega,by omega⟩) (by rw [hf0.at_.len];exact Nat.le_trans hf0.ok.cuts (by decide))).mono ?_;rintro e w3 ⟨T,d1,rfl,ha,hbb,hT,hL,hb2⟩;have HF03:=jH ha;have HF13:=jH hbb;have HN3:=jH (show M<w2.heap.size∧d0.L<w2.heap.size∧w2.heap.size≤T∧w2.heap.size≤d1.L∧T<w3.heap.size∧d1.L<w3.heap.size∧w2.heap.size≤w3.heap.size∧w.heap.size≤M∧w.heap.size≤w2.heap.size by
      have h1:=hbb.at_.lt;have h2:=hbb.at_.map.lt;have h3:=hb2.size;omega)
     have HB3:=jH (bthen (bthen HB2.out hb) hb2);clear hn hs hf0 ha hbb hT hL hb hb2)
  | (go_at_call 10
     refine calls_named ?_;intro V1 hV;have hb:jB w1 V1:=by rw [hV];repeat (first|exact jR|refine balloc ?_ _)
     clear hV;refine (new47 V1).mono ?_;rintro e w2 ⟨M,d0,rfl,hf,h1,h2,hb2⟩;have HF02:=jH hf;have HB2:=jH (bthen (bthen HB1.out hb) hb2);have HN2:=jH (show M<w2.heap.size∧d0.L<w2.heap.size∧w.heap.size≤M∧w.heap.size≤w2.heap.size by
      have h3:=hf.at_.lt;have h4:=hf.at_.map.lt;have h5:=(bthen HB1.out hb).size;omega)
     clear hf h1 h2 hb hb2)
  | (go_at_call 40
     refine (small47 w).mono ?_;rintro e w1 ⟨rfl,hb⟩;have HB1:=jH hb;clear hb))
 go_ret
 exact ⟨rfl,HB11.out⟩
end
section
open Go.RowKit Go.Lib
theorem linesL_nil {f:ByteArray→ByteArray} {l:List ByteArray} (h:∀s∈l,(f s).size=0):linesL f l=[]:=by
 unfold linesL;rw [List.filter_eq_nil_iff];intro x hx;obtain ⟨s,hs,rfl⟩:=List.mem_map.1 hx
 simpa using h s hs
theorem partsN_self (x:Nd):partsN x x=[]:=by unfold partsN;simp [partsB]
theorem lineS_self (s:ByteArray) (o:Option Nd):lineS s o o=⟨#[]⟩:=by
 cases o with
 | none =>
   show (if partsN nd0 nd0=[] then (⟨#[]⟩:ByteArray) else ((⟨#[126,32]⟩:ByteArray)++s)++sumW (partsN nd0 nd0))=⟨#[]⟩
   rw [if_pos (partsN_self _)]
 | some y =>
   rw [lineS_both,if_pos (partsN_self _)]
theorem linesE_self {c c2:Cfg} {ea eb:List (SK × It)} {wd:Wd} (h1:FlTells c ea wd) (h2:FlTells c2 eb wd):linesE ea eb=[]:=by
 unfold linesE;refine linesL_nil (fun s hs=>?_);have hi:idS s=true:=by
  rcases idsU_iff.1 hs with h|h
  · exact ((dtells_mem h1).1 h).1
  · exact ((dtells_mem h2).1 h).1
 rw [lineOf_wd h1 h2 hi,lineS_self];rfl
theorem partsN_comm (x y:Nd):partsN x y=partsN y x:=by
 unfold partsN;rw [show decide (x.smp=y.smp)=decide (y.smp=x.smp) from decide_eq_decide.2 eq_comm,show decide (x.ruled=y.ruled)=decide (y.ruled=x.ruled) from decide_eq_decide.2 eq_comm,show decide (x.pol=y.pol)=decide (y.pol=x.pol) from decide_eq_decide.2 eq_comm,show decide (x.past=y.past)=decide (y.past=x.past) from decide_eq_decide.2 eq_comm]
theorem lineS_comm (s:ByteArray) (a b:Option Nd):((lineS s a b).size=0) ↔ ((lineS s b a).size=0):=by
 have h2:(⟨#[45,32]⟩:ByteArray).size=2:=rfl;have h3:(⟨#[43,32]⟩:ByteArray).size=2:=rfl
 cases a with
 | none =>
   cases b with
   | none=>exact Iff.rfl
   | some y =>
     show ((⟨#[43,32]⟩:ByteArray)++s).size=0 ↔ ((⟨#[45,32]⟩:ByteArray)++s).size=0
     rw [bsize_append,bsize_append];omega
 | some x =>
   cases b with
   | none =>
     show ((⟨#[45,32]⟩:ByteArray)++s).size=0 ↔ ((⟨#[43,32]⟩:ByteArray)++s).size=0
     rw [bsize_append,bsize_append];omega
   | some y=>rw [lineS_both,lineS_both,partsN_comm x y]
theorem linesWd_comm (wa wb:Wd) (l:List ByteArray):(linesWd wa wb l).length=(linesWd wb wa l).length:=by
 unfold linesWd linesL
 induction l with
 | nil=>rfl
 | cons s l ih =>
   rw [List.map_cons,List.map_cons];have hc:=lineS_comm s (loadW wa s) (loadW wb s)
   by_cases h:(lineS s (loadW wa s) (loadW wb s)).size=0
   · rw [List.filter_cons_of_neg (by simpa using h),List.filter_cons_of_neg (by simpa using hc.1 h)]
     exact ih
   · rw [List.filter_cons_of_pos (by simpa using h),List.filter_cons_of_pos (by simpa using fun e=>h (hc.2 e))]
     rw [List.length_cons,List.length_cons,ih]
theorem NamedW.bad {S:List ByteArray} {wd:Wd} (h:NamedW S wd) {s:ByteArray} (hs:idS s=false):loadW wd s=none:=by
 cases hf:loadW wd s with
 | none=>rfl
 | some y =>
   unfold loadW findIt at hf;obtain ⟨p,hp,_⟩:=Option.map_eq_some_iff.1 hf;have h1:=List.mem_of_find?_eq_some hp;have h2:=List.find?_some hp;obtain ⟨t,_,ht1,ht2⟩:=h p h1;have h3:p.1=keyK s:=by simpa using h2
   have h4:keyK s=(0,0):=by unfold keyK;rw [if_neg (by rw [hs];simp)]
   exact absurd (ht2.trans (h3.trans h4)) (key_nz ht1)
theorem NamedW.step {S:List ByteArray} {c:Cfg} {rs rh:Nat} {wd:Wd} {x:CallD} (h:NamedW S wd) (hm:x.id∈S):NamedW S (stepW c rs rh wd x):=by
 unfold stepW
 split
 · split
   · cases hi:idS x.id with
     | true=>exact h.note hi hm
     | false =>
       have h1:=h.bad hi;unfold noteW;rw [h1];exact h
   · exact h
 · exact h.do_ hm
theorem NamedW.play {S:List ByteArray} {c:Cfg} {rs rh:Nat}:∀{l:List CallD} {wd:Wd},NamedW S wd→(∀x∈l,x.id∈S)→NamedW S (playW c rs rh wd l)
  | [],_,h,_=>h
  | x::l,wd,h,hm=>by
    show NamedW S (playW c rs rh (stepW c rs rh wd x) l)
    exact NamedW.play (h.step (hm x (List.mem_cons_self ..))) (fun y hy=>hm y (List.mem_cons_of_mem _ hy))
theorem NamedW.has {S:List ByteArray} {wd:Wd} (h:NamedW S wd) {s:ByteArray} (hs:idS s=true) (hl:(loadW wd s).isSome=true):s∈S:=by
 unfold loadW at hl;rw [findIt_some] at hl;obtain ⟨q,hq,e⟩:=List.mem_map.1 hl;obtain ⟨t,h1,h2,h3⟩:=h q hq;have:=keyK_inj h2 hs (h3.trans e);rw [←this];exact h1
theorem idsN_iff {wa wb:Wd} {S:List ByteArray} (ha:NamedW S wa) (hb:NamedW S wb) (s:ByteArray):s∈idsN wa wb S ↔ idS s=true∧((loadW wa s).isSome=true∨(loadW wb s).isSome=true):=by
 rw [idsN_mem]
 constructor
 · rintro ⟨_,h⟩;exact h
 · rintro ⟨h1,h2⟩
   refine ⟨?_,h1,h2⟩
   rcases h2 with h3|h3
   · exact ha.has h1 h3
   · exact hb.has h1 h3
end
end Go.Proofs.YtkcdhaallnhhmaaGreat
