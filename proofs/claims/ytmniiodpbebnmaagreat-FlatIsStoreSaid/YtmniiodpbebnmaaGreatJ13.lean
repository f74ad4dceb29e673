/- Part 13 of the proof. -/
import Derived.Test.YtmniiodpbebnmaaGreatJ12
import Derived.Laws.Cover3
import Derived.Shelf.SlSortCmp.NoneTotal
namespace Go.Proofs.YtmniiodpbebnmaaGreat
set_option linter.unusedSimpArgs false
set_option linter.unusedVariables false
set_option linter.unusedSectionVars false
set_option maxRecDepth 100000
set_option maxHeartbeats 16000000
section
open Go.RowKit Go.Lib Go.Shelf
section
attribute [local go_sem] Oper.semAt_some
theorem l1Q {α:Type} (raw:List α) (frm:Nat) (hf:frm≤raw.length) (i:Nat) (hi:i<raw.length):∃j,j=(frm+i) % raw.length∧j<raw.length∧(raw.drop frm++raw.take frm)[i]?=raw[j]?:=by
 refine ⟨_,rfl,Nat.mod_lt _ (by omega),?_⟩
 by_cases h:frm+i<raw.length
 · rw [Nat.mod_eq_of_lt h,List.getElem?_append_left (by simp;omega),List.getElem?_drop]
 · rw [Nat.mod_eq_sub_mod (by omega),Nat.mod_eq_of_lt (by omega),List.getElem?_append_right (by simp;omega),List.getElem?_take]
   simp only [List.length_drop]
   rw [if_pos (by omega)]
   congr 1
   omega
theorem a1W (R:Nat) (l:List Adv) (room:Nat) (fp:List Nat) (w:World) (h:c0P w R l room fp) (hroom:room≤4096) (i:Nat) (hi:i<l.length) :
 Calls Tryz.prog 302 #[.pointer (some ⟨R,0,none⟩),.int .i64 (i:Nat)] w (jP w (.tuple #[.agg (c0U l[i]).toArray,.bool true])):=by
 have HR:=jH h;obtain ⟨v,fr,raw,frm,hS,hv,h3,rfl,rfl,h4,h5,h6⟩:=h;have hil:i<raw.length:=by simp at hi;omega
 have hfl:frm≤raw.length:=by
  rcases Nat.lt_or_ge raw.length room with h|h
  · rw [h6 h];exact Nat.zero_le _
  · omega
 obtain ⟨j,hj,hjl,hjn⟩:=l1Q raw frm hfl i hil;have hat:=hv.row p0Q;obtain ⟨A,c,rfl⟩:=hv.form;obtain ⟨b,o,rfl,hb,hc⟩:=hat.at_ hjl;have hx:(List.drop frm raw++List.take frm raw)[i]=raw[j]:=by
  rw [List.getElem?_eq_getElem hi,List.getElem?_eq_getElem hjl] at hjn;exact Option.some.inj hjn
 rw [hx];have hc0:=hc 0 _ rfl;have hc1:=hc 1 _ rfl;have hc2:=hc 2 _ rfl;have hc3:=hc 3 _ rfl;have hc4:=hc 4 _ rfl;simp only [Nat.add_zero] at hc0
 generalize raw[j]=x at hc0 hc1 hc2 hc3 hc4;obtain ⟨x0,x1,x2,x3,x4⟩:=x;dsimp only at hc0 hc1 hc2 hc3 hc4;have hRlt:=(jL hS);have el:(raw.drop frm++raw.take frm).length=raw.length:=by simp;omega
 have HEL:=jH el;have HS:=jH hS;have q0:¬(i:Int)<0:=by omega
 have q1:(i:Int)<(raw.length:Int):=by omega
 have q2:¬(raw.length:Int)≤(i:Int):=by omega
 have p1:((frm:Int)+(i:Int)) % (raw.length:Int)=(j:Int):=by rw [hj,Int.natCast_emod];simp
 have p2:(0:Int)≤(frm:Int)+(i:Int):=by omega
 have p6:(frm:Int)+(i:Int)≤100000:=by omega
 have p3:(0:Int)≤(j:Int):=by omega
 have p4:(j:Int)<(raw.length:Int):=by omega
 have p5:((raw.length:Int) == 0)=false:=beq_eq_false_iff_ne.2 (by omega);clear hS hv h3 h4 h5 h6 hi hil hfl hj hjn hat hc hx el hroom;unfold c0U
 go_enter Tryz.func302,Tryz.ntmps302
 go_wp2_with (first
  | (go_at_call 271
     refine a0B ?_;intro W1 hW1;have hb1:jB w W1:=by rw [hW1];exact a0C (a0C jR _) _
     have ho1:W1.heap[w.heap.size]?=some (.cells #[.int .i64 0,.int .i64 0,.int .i64 0,.int .i64 0,.int .i64 0] 44 (0,0)):=by rw [hW1];exact (Below.heap_alloc _ _ _ (by simp)).trans (heap_alloc_new _ _)
     clear hW1;refine (i0Z R _ room _ W1 (HR.out.below hb1)).mono ?_;rw [HEL.out];rintro e w2 ⟨rfl,hb2⟩;have hb12:=a0D hb1 hb2;have hO2:=jK hb2 ho1;obtain ⟨a1,a2,a3⟩:=a0A hb12 HS.out;obtain ⟨a4,a5,a6⟩:=a0A jR hO2;have d0:=(hb12.cell (p:=⟨b,o+j * 5,none⟩) hb).trans hc0;have d1:=(hb12.cell (p:=⟨b,o+j * 5+1,none⟩) hb).trans hc1;have d2:=(hb12.cell (p:=⟨b,o+j * 5+2,none⟩) hb).trans hc2
     have d3:=(hb12.cell (p:=⟨b,o+j * 5+3,none⟩) hb).trans hc3;have d4:=(hb12.cell (p:=⟨b,o+j * 5+4,none⟩) hb).trans hc4;have HB2:=jH hb12;have HO2:=jH hO2;clear hb12 hb1 hb2 ho1 hO2))
 go_region
 all_goals
   go_wp2_with fail
   have hB:=box5 (cs:=#[]) (v0:=.int .i64 x0) (v1:=.int .i64 x1) (v2:=.int .i64 x2) (v3:=.int .i64 x3) (v4:=.int .i64 x4) HO2.out;have hb5:=n1L HB2.out (Nat.le_refl w.heap.size) (.int .i64 x0) (.int .i64 x1) (.int .i64 x2) (.int .i64 x3) (.int .i64 x4);obtain ⟨b1,b2,b3⟩:=a0A (Below.drew jR) hB;exact bodyPost_ret (v:=.tuple #[.agg #[.int .i64 x0,.int .i64 x1,.int .i64 x2,.int .i64 x3,.int .i64 x4],.bool true]) (by simp [results,Tryz.results302,go_sem,b1]) rfl ⟨rfl,hb5.drew⟩
def Kq (n₀ B:Nat) (W W':World):Prop:=Below n₀ W W'∧(B<W.heap.size→W'.heap[B]?=W.heap[B]?)∧KeepsWalks W W'
theorem kq_t {n₀ B:Nat} {X Y Z:World} (h:Kq n₀ B X Y) (k:Kq n₀ B Y Z):Kq n₀ B X Z:=⟨h.1.trans k.1,fun hB=>(k.2.1 (Nat.lt_of_lt_of_le hB h.1.size)).trans (h.2.1 hB),h.2.2.trans k.2.2⟩
theorem kq_b {n₀ B:Nat} {w:World} (hn:n₀≤w.heap.size) (hB:B<w.heap.size) (W:World) (l:Nat) (o o':Obj) (hl:w.heap.size≤l) (h:W.heap[l]?=some o) (hc:o.isCells=false) (hw:o.isWalk=false):Kq n₀ B W (W.putObj l o') :=
 ⟨belowK_b hn W l o o' hl h hc hw,fun _=>World.putObj_heap_other (by omega),walksK_b (w:=w) W l o o' hl h hc hw⟩
abbrev encV (x:Adv):Array Value:=#[.agg #[.int .i64 x.tick,.int .i64 x.load,.int .i64 x.want,.int .i64 x.repl,.int .i64 x.why]]
theorem grown_of {w w':World} (h:jB w w'):w.grownBy w' none:=⟨h.os,h.tape,h.output,h.size,fun k hk _=>h.block k hk⟩
theorem v0P (n:Nat) (hn:1≤n) (l Bn R:Nat) (L:List Adv) (room:Nat) (fp:List Nat) (w:World) (hroom:room≤4096) (J Jx:List Adv→World→Prop) (B0:Nat) (hJ:AbidesFrom B0 J)
    (hY:∀pre x W,J pre W→pre.length<L.length→YieldAt Fence.wide (n - 1) Tryz.prog l (encV x) W fun e W' =>
      (e=.returned (.bool true)∧J (pre++[x]) W'∧Kq w.heap.size Bn W W')∨(e=.returned (.bool false)∧Jx (pre++[x]) W'))
    (hR:c0P w R L room fp) (W:World) (hW:jB w W) {T:TypeId} (hBn:W.heap[Bn]?=some (.cells #[.pointer (some ⟨R,0,none⟩)] T (0,0))) (h0:J [] W) :
    CallsIn Fence.wide n Tryz.prog 301 #[.func (.yield l) #[] #[],.pointer (some ⟨Bn,0,none⟩)] W fun e W'=>(∃v,e=.returned v) ∧
      ((∃ys,ys=L∧J ys W')∨(∃pre,True∧Jx pre W')):=by
  have hlen:=hR.len;have HRI:=jH hR;obtain ⟨b0,b1,b2⟩:=a0A jR hBn;have HBN:=jH hBn;clear hBn hR;refine callsIn_of_wp Tryz.func301 rfl trivial ?_ rfl;simp only [Tryz.ntmps301,List.size_toArray,List.length_cons,List.length_nil,Nat.reduceAdd,Nat.reduceSub,Array.replicate_succ,Array.replicate_zero,List.push_toArray,List.append_toArray,List.nil_append,List.cons_append]
  gi_wp2_with (refine ⟨trivial,?_⟩;gi_at_call 271;refine CallsIn.mono (callsIn_wide.2 (i0Z R L room fp W (HRI.out.below hW))) ?_
               rintro e w1 ⟨rfl,hb1⟩;have hB1:jB w w1:=a0D hW hb1;have hN1:=(hb1.block Bn b2).trans HBN.out;have HN1:=jH hN1;clear hN1;have hJ1:=hJ _ _ _ none h0 (grown_of hb1) (fun r e=>by cases e);clear hb1)
  gi_loopw [8] (fun p wr=>∃k:Nat,p=.int .i64 k∧k≤L.length∧J (L.take k) wr∧jB w wr∧Hid (wr.heap[Bn]?=some (.cells #[.pointer (some ⟨R,0,none⟩)] T (0,0))))
    (fun p wr=>L.length - (intOf p).toNat)
  case atStart=>exact ⟨0,rfl,Nat.zero_le _,by simpa using hJ1,hB1,HN1⟩
  case round =>
   clear hJ1 hB1 b0 b1 b2 h0 hW HN1;obtain ⟨k,rfl,hk,hJs,hB,HN⟩:=hrel;obtain ⟨b0,b1,b2⟩:=a0A jR HN.out
   by_cases hlt:k<L.length
   · have hkl:(k:Int)<(L.length:Int):=by omega
     have HA:=jH (a1W R L room fp wr (HRI.out.below hB) hroom k hlt);have htk:L.take k++[L[k]]=L.take (k+1):=by rw [List.take_succ_eq_append_getElem hlt]
     have HK:=jH htk;generalize L[k]=x at HA HK;clear htk
     gi_wp2_with (refine ⟨trivial,?_⟩;gi_at_call 302;refine CallsIn.mono (callsIn_wide.2 HA.out) ?_
                  rintro e w2 ⟨rfl,hb2⟩;have hB2:jB w w2:=a0D hB hb2;have hN2:=(hb2.block Bn b2).trans HN.out;obtain ⟨b3,b4,b5⟩:=a0A jR hN2;have HN2:=jH hN2;clear hN2;have hJ2:=hJ _ _ _ none hJs (grown_of hb2) (fun r e=>by cases e);have hJ3:=hJ _ _ (w2.alloc (.cells #[.int .i64 x.tick,.int .i64 x.load,.int .i64 x.want,.int .i64 x.repl,.int .i64 x.why] 44)) none hJ2 (World.grownBy_alloc _ _ none) (fun r e=>by cases e)
                  obtain ⟨fn,tmps,assign,body,hy,hR⟩:=hY (L.take k) x _ hJ3 (by simp;omega);unfold c0U;clear hb2 hJ2 hJ3)
     refine hR.mono ?_;have hB3:jB w (w2.alloc (.cells #[.int .i64 x.tick,.int .i64 x.load,.int .i64 x.want,.int .i64 x.repl,.int .i64 x.why] 44)):=hB2.alloc hB2.size _;rintro e W3 (⟨rfl,hJ3,hk3⟩|⟨rfl,hJx3⟩)
     · gi_wp2
       go_roundw
       case rel=>exact ⟨k+1,rfl,hlt,by rw [HK.out] at hJ3;exact hJ3,hB3.trans hk3.1,jH ((hk3.2.1 (by simp;omega)).trans ((Below.heap_alloc _ _ _ b5).trans HN2.out))⟩
       case measure=>simp [intOf];omega
     · gi_wp2
       refine bodyPost_ret (results_none rfl _ _ _) rfl ?_;exact ⟨⟨_,rfl⟩,.inr ⟨_,trivial,hJx3⟩⟩
   · gi_wp2
     go_end0
     refine ⟨⟨_,rfl⟩,.inl ⟨_,rfl,?_⟩⟩;rw [List.take_of_length_le (by omega)] at hJs;exact hJs
theorem a1I (n:Nat) (p:Option Addr) (w:World) :
 CallsIn Fence.wide n Tryz.prog 269 #[.pointer p] w fun e w'=>e=.returned (.func (.func 301) #[] #[.pointer (some ⟨w.heap.size,0,none⟩)])∧w'=w.alloc (.cells #[.pointer p] 293):=by
 refine callsIn_of_wp Tryz.func269 rfl trivial ?_ rfl;simp only [Tryz.ntmps269,List.size_toArray,List.length_cons,List.length_nil,Nat.reduceAdd,Nat.reduceSub,Array.replicate_succ,Array.replicate_zero,List.push_toArray,List.append_toArray,List.nil_append,List.cons_append]
 gi_wp2
 go_ret
 exact ⟨rfl,rfl⟩
theorem q0P (R:Nat) (L:List Adv) (room:Nat) (fp:List Nat) (w W0:World) (Bn:Nat) {T:TypeId} (hroom:room≤4096) (h:c0P w R L room fp) (hb:jB w W0) (hBn:W0.heap[Bn]?=some (.cells #[.pointer (some ⟨R,0,none⟩)] T (0,0))) (m:Nat) (hm:1≤m) :
 SeqStopsK Fence.wide m Tryz.prog 301 #[.pointer (some ⟨Bn,0,none⟩)] encV (Kq w.heap.size Bn) (fun ss=>ss=L) (fun _=>True) L.length W0 :=
 fun l J Jx W hW hJ hJx hY h0=>v0P m hm l Bn R L room fp w hroom J Jx _ hJ hY h W (a0D hb hW) ((hW.block Bn (jL hBn)).trans hBn) h0
def VBox (W:World) (B:Nat) (x:Adv):Prop:=W.heap[B]?=some (.cells #[.int .i64 x.tick,.int .i64 x.load,.int .i64 x.want,.int .i64 x.repl,.int .i64 x.why] 44 (0,0))
theorem VBox.lt {W:World} {B:Nat} {x:Adv} (h:VBox W B x):B<W.heap.size:=(jL h)
theorem m1I (B:Nat) (x:Adv):Own (fun (_:Unit) W=>VBox W B x):=fun s X Y row hs hg hrow =>
 (hg.block B (VBox.lt hs) (fun e'=>by obtain ⟨o,ho,hc⟩:=hrow B e'.symm;rw [show X.heap[B]?=_ from hs] at ho;cases ho;cases hc)).trans hs
theorem e1E {β:Type} (B:Nat) (T:TypeId) (v:Value):Own (fun (_:β) W=>Boxed W B T v):=fun s X Y row hs hg hrow =>
 hs.kept hg (fun e'=>by obtain ⟨o,ho,hc⟩:=hrow B e'.symm;rw [show X.heap[B]?=_ from hs] at ho;cases ho;cases hc)
theorem j1J (x:Adv):∀u∈c0U x,u.oneCell'=true:=by
 intro u hu;simp only [c0U,List.mem_cons,List.not_mem_nil,or_false] at hu
 rcases hu with rfl|rfl|rfl|rfl|rfl <;> rfl
theorem v0E (n:Nat) (hn:2≤n) (R:Nat) (L:List Adv) (room:Nat) (fp:List Nat) (w:World) (hroom:room≤4096) (h:c0P w R L room fp) :
 CallsIn Fence.wide n Tryz.prog 220 #[.pointer (some ⟨R,0,none⟩)] w fun e w'=>∃v,e=.returned v∧b0Q c0U 44 5 w.heap.size w' v L∧jB w w':=by
 have h1:1≤n:=by omega
 have hlen:=h.len;obtain ⟨i0,hi,hz0,hz1,hz2⟩:=info_parts p0Q.hi;have eg:∀args w,(callFunc 301 args).run Tryz.prog w=.ok (.enter 301 args) w:=enters_of Tryz.func301 (by kernel_rfl) rfl;have HR:=jH h;clear h;refine callsIn_of_wp_marks Tryz.func220 rfl trivial ?_ rfl;simp only [Tryz.ntmps220,List.size_toArray,List.length_cons,List.length_nil,Nat.reduceAdd,Nat.reduceSub,Array.replicate_succ,Array.replicate_zero,List.push_toArray,List.append_toArray,List.nil_append,List.cons_append]
 gi_wp2_with (refine ⟨trivial,?_⟩;gi_at_call 269;refine (a1I (n - 1) _ _).mono ?_;rintro e w' ⟨rfl,rfl⟩)
 have bS:=(Boxed.new w 58 (.slice none 0 0)).alloc (.cells #[.pointer (some ⟨R,0,none⟩)] 293);have hB0:jB w ((w.alloc (.cells #[.slice none 0 0] 58)).alloc (.cells #[.pointer (some ⟨R,0,none⟩)] 293)):=a0C (a0C jR _) _;have hsz:((w.alloc (.cells #[.slice none 0 0] 58)).alloc (.cells #[.pointer (some ⟨R,0,none⟩)] 293)).heap.size=w.heap.size+2:=by simp
 have hN0:=heap_alloc_new (w.alloc (.cells #[.slice none 0 0] 58)) (.cells #[.pointer (some ⟨R,0,none⟩)] 293);rw [World.size_alloc] at hN0;have hst:=q0P R L room fp w _ (w.heap.size+1) hroom HR.out hB0 hN0 (n - 1) (by omega);obtain ⟨W0,hW0⟩:∃W0,(w.alloc (.cells #[.slice none 0 0] 58)).alloc (.cells #[.pointer (some ⟨R,0,none⟩)] 293)=W0:=⟨_,rfl⟩;rw [hW0] at bS hB0 hsz hst hN0 ⊢;clear hW0
 refine wpIn_rangeFunc_ownH rfl h1 (gf:=301) (lb:=#[.pointer (some ⟨w.heap.size+1,0,none⟩)]) rfl trivial eg hst kq_t (kq_b (w:=W0) (by omega) (by omega)) jR (fun _=>rfl)
   (fun pre W=>(∃v,Boxed W w.heap.size 58 v∧W.ownsRow w.heap.size 44 5 v pre.length (a0F c0U pre)∧True)∧Boxed W (w.heap.size+1) 293 (.pointer (some ⟨R,0,none⟩))∧jB w W)
   (fun _ _ _=>False)
   (OwnFrom.and (Own.from (holdsRow_own w.heap.size w.heap.size 58 44 5 (fun pre=>pre.length) (fun pre=>a0F c0U pre) (fun _ _=>True)) _) (OwnFrom.and (Own.from (e1E (w.heap.size+1) 293 (.pointer (some ⟨R,0,none⟩))) _) (ownFrom_below (Nat.le_refl _) (by omega))))
   (fun _ _ _ _ _ hs _ _=>hs)
   ⟨⟨_,bS,World.ownsRow_nil _ _ _ _,trivial⟩,hN0,hB0⟩
   (fun x a' W=>∃Bx,w.heap.size<Bx∧VBox W Bx x∧a' = { tmps:=#[.pointer (some ⟨R,0,none⟩),undef,.slice none 0 0,.pointer (some ⟨w.heap.size,0,none⟩),.pointer (some ⟨Bx,0,none⟩),.pointer (some ⟨R,0,none⟩),.func (.func 301) #[] #[.pointer (some ⟨w.heap.size+1,0,none⟩)],.agg #[.int .i64 x.tick,.int .i64 x.load,.int .i64 x.want,.int .i64 x.repl,.int .i64 x.why],undef,undef,undef,undef,undef],defers:=[] })
   (fun x a' _ X Y row hs hg hr=>by obtain ⟨Bx,h1,h2,h3⟩:=hs;exact ⟨Bx,h1,m1I Bx x () X Y row h2 hg (fun r e=>(hr r e).2),h3⟩)
   ?assign ?body ?done ?stop
 case assign =>
  rintro l pre x W K ⟨⟨v,hv,hrow,_⟩,hN,hB⟩ hK;have hs:=hB.size
  gi_wp2
  have hW:jB W (W.alloc (.cells #[.int .i64 x.tick,.int .i64 x.load,.int .i64 x.want,.int .i64 x.repl,.int .i64 x.why] 44)):=(Below.refl _ W).alloc (Nat.le_refl _) _
  exact hK _ _ ((KeepsOthers.alloc _ _).from _) ⟨hW.mono hs,fun hq=>hW.block _ hq,KeepsWalks.alloc _ _⟩
    ⟨⟨v,(hW.block _ hv.lt).trans hv,n0X hrow hW,trivial⟩,(hW.block _ hN.lt).trans hN,hB.trans (hW.mono hs)⟩ ⟨W.heap.size,hv.lt,World.alloc_heap_new W _,rfl⟩
 case body =>
  rintro l pre x a' W hl ⟨r,hr⟩ ⟨⟨v,hv,hrow,_⟩,hN,hB⟩ ⟨Bx,hBx,bX,rfl⟩ hlt;have hc:=hv.cell;have hnr:=hN.not_row (by decide) hrow;have HN:=jH hN;have HNR:=jH hnr;clear hN hnr;have bX':=bX;unfold VBox at bX';obtain ⟨k0,k1,k2⟩:=a0A jR bX';have hs:=hB.size;have hpl:pre.length<1000000:=by omega
  clear bX'
  gi_wp2_with (gi_at_builtin;refine wpListIn_append_own _ rfl _ _ 58 rfl w.heap.size 44 i0 _ 5 40 Tryz.underlying58 hi hz0 hz1 hz2 rfl (by decide) _ _ _ rfl (hrow.alloc _) ⟨W.heap.size,0,none⟩ 1 1 (c0U x) rfl rfl (y0B _ _ _ _ rfl) (j1J x) (by simp only [maxLen];omega) (by omega) (by simp;omega) ?_;intro v' w1 hown' hgrow _;obtain ⟨g',cap',rfl⟩:=ownsRow_succ hown';obtain ⟨hv1,hv2,hr2,hk2,hb2⟩:=hv.appended (by decide) hrow hB.size (Nat.le_refl _) hown' hgrow;have hn1:=(HN.out.alloc _).kept hgrow HNR.out;have HN1:=jH hn1;clear hn1;have hc1:=hv1.cell;have hf1:=hv1.frozen)
  have e1:(pre++[x]).length=pre.length+1:=by simp
  have e2:a0F c0U (pre++[x])=a0F c0U pre++c0U x:=by rw [b0W];simp [a0F]
  have hn2:Boxed _ (w.heap.size+1) 293 (.pointer (some ⟨R,0,none⟩)):=HN1.out.other (B':=w.heap.size) (by omega) (.slice (some ⟨g',0,none⟩) (pre.length+1) cap');exact ⟨hk2.from _,⟨hb2,fun _=>Eq.trans hn2 (Eq.symm HN.out),hk2.walks⟩,⟨_,hv2,by rw [e1,e2];exact hr2,trivial⟩,hn2,hB.trans hb2⟩
 case done =>
  rintro D ys W hD hS ⟨⟨v,hv,hrow,_⟩,_,hB⟩ hK;have hc:=hv.cell
  gi_wp2
  refine ⟨by simp,.inl ⟨_,_,rfl,run_takeDeferred hK,?_⟩⟩;subst hS;exact ⟨_,results_tmp rfl _ _ _,v,rfl,ownsRow_putObj hrow _ hK rfl,hB.trans (belowK_b (w:=w) (Nat.le_refl _) W D _ _ (by omega) hK rfl rfl)⟩
 case stop =>
  rintro D c pre W _ _ h _;exact h.elim
theorem j1N {α:Type} {f:α→List Value} {e:TypeId} {n:Nat} {w w':World} {v:Value} {l:List α} (h:b0Q f e n w.heap.size w' v l) (hb:jB w w'):i0L f e n w l (.returned v) w':=by
 obtain ⟨A,c,rfl⟩:=h.form;exact ⟨A,c,_,rfl,⟨h.lower (Nat.zero_le _),rfl⟩,fun k hk=>(h.lt (by simpa using hk)).1,hb⟩
theorem t0N (R:Nat) (L:List Adv) (room:Nat) (fp:List Nat) (w:World) (hroom:room≤4096) (h:c0P w R L room fp) :
 Calls Tryz.prog 220 #[.pointer (some ⟨R,0,none⟩)] w (i0L c0U 44 5 w L):=by
 refine (callsIn_wide (n:=4)).1 ((v0E 4 (by omega) R L room fp w hroom h).mono ?_);rintro e w' ⟨v,rfl,h1,h2⟩;exact j1N h1 h2
theorem r0M (H:Nat) (L:List Adv) (room:Nat) (fp:List Nat) (w:World) (hroom:room≤64) (h:d0R w H L room fp) :
 Calls Tryz.prog 175 #[.pointer (some ⟨H,0,none⟩)] w (i0L c0U 44 5 w L):=by
 obtain ⟨R,fr,h1,h2,_⟩:=h;have HK:=jH (y0W H R w h1);have HR:=jH h2;clear h1 h2
 go_enter Tryz.func175,Tryz.ntmps175
 go_wp2_with (first
  | (go_at_call 219;refine HK.out.mono ?_;rintro e w2 ⟨rfl,hb2⟩;have HB2:=jH hb2;clear hb2)
  | (go_at_call 220
     refine (t0N R L room fr w2 (by omega) (HR.out.below HB2.out)).mono ?_;rintro e w3 ⟨A,c,fq,rfl,hq,hf,hb3⟩;have HQ:=jH hq;have HF:=jH hf;have HB3:=jH hb3;clear hq hf hb3))
 go_ret
 have hs:=HB2.out.size;exact ⟨A,c,fq,rfl,HQ.out,fun k hk=>Nat.le_trans hs (HF.out k hk),a0D HB2.out HB3.out⟩
theorem l0N (N:Nat) (x:Nd) (rs rh:Nat) (fp:List Nat) (w:World) (h:b0G w N x rs rh fp) (hrh:rh≤64) :
 Calls Tryz.prog 108 #[.pointer (some ⟨N,0,none⟩)] w (i0L c0U 44 5 w x.past):=by
 have HM:=jH (e0M N x rs rh fp w h);obtain ⟨S,fs,H,fh,h1,h2,h3,h4,h5,h6,hfp,h7,h8⟩:=h;unfold ndC at h1;have HS:=jH h3;have H1:=jH h1;clear h1 h2 h3 h4 h5 h6 hfp h7
 go_enter Tryz.func108,Tryz.ntmps108
 go_wp2_with (first
  | (go_at_call 174
     refine HM.out.mono ?_;rintro e w2 ⟨rfl,hb2⟩;obtain ⟨a1,a2,a3⟩:=a0A hb2 H1.out;have HB2:=jH hb2;clear hb2)
  | (go_at_call 175
     refine (r0M H _ _ fh w2 hrh (HS.out.below HB2.out)).mono ?_;rintro e w3 ⟨A,c,fq,rfl,hq,hf,hb3⟩;have HQ:=jH hq;have HF:=jH hf;have HB3:=jH hb3;clear hq hf hb3))
 go_ret
 have hs:=HB2.out.size;exact ⟨A,c,fq,rfl,HQ.out,fun k hk=>Nat.le_trans hs (HF.out k hk),a0D HB2.out HB3.out⟩
theorem o0N (N:Nat) (x:Nd) (rs rh:Nat) (fp:List Nat) (w:World) (h:b0G w N x rs rh fp) :
 Calls Tryz.prog 162 #[.pointer (some ⟨N,0,none⟩)] w (jP w (.bool x.frz)):=by
 have HM:=jH (e0M N x rs rh fp w h);obtain ⟨S,fs,H,fh,h1,_⟩:=h;unfold ndC at h1;have H1:=jH h1;clear h1
 go_enter Tryz.func162,Tryz.ntmps162
 go_wp2_with (first
  | (go_at_call 174
     refine HM.out.mono ?_;rintro e w2 ⟨rfl,hb2⟩;obtain ⟨a1,a2,a3⟩:=a0A hb2 H1.out;have HB2:=jH hb2;clear hb2))
 go_ret
 exact ⟨rfl,HB2.out⟩
theorem box6 {w:World} {B:Nat} {v0 v1 v2 v3 v4 v5:Value} {u0 u1 u2 u3 u4 u5:Value} {T:TypeId} (h:w.heap[B]?=some (.cells #[u0,u1,u2,u3,u4,u5] T (0,0))) :
 ((((((w.setCell ⟨B,0,none⟩ v0).setCell ⟨B,1,none⟩ v1).setCell ⟨B,2,none⟩ v2).setCell ⟨B,3,none⟩ v3).setCell ⟨B,4,none⟩ v4).setCell ⟨B,5,none⟩ v5).heap[B]?=some (.cells #[v0,v1,v2,v3,v4,v5] T (0,0)) :=
 a0E (a0E (a0E (a0E (a0E (a0E h)))))
theorem i0M (N:Nat) (x:Nd) (rs rh:Nat) (fp:List Nat) (w:World) (h:b0G w N x rs rh fp) :
 Calls Tryz.prog 106 #[.pointer (some ⟨N,0,none⟩)] w (jP w (.tuple #[.agg #[.int .i64 x.pol.mn,.int .i64 x.pol.mx,.int .i64 x.pol.tg,.int .i64 x.pol.tol,.int .i64 x.pol.win,.int .i64 x.pol.hold],.bool x.ruled])):=by
 have HN:=jH h;obtain ⟨S,fs,H,fh,h1,_⟩:=h;unfold ndC at h1;have H1:=jH h1;clear h1
 go_enter Tryz.func106,Tryz.ntmps106
 go_wp2_with (first
  | (go_at_call 174
     refine a0B ?_;intro W1 hW1;have hb1:jB w W1:=by rw [hW1];exact a0C jR _
     have ho1:W1.heap[w.heap.size]?=some (.cells #[.int .i64 0,.int .i64 0,.int .i64 0,.int .i64 0,.int .i64 0,.int .i64 0] 35 (0,0)):=by rw [hW1];exact heap_alloc_new _ _
     clear hW1;refine (e0M N x rs rh fp W1 (HN.out.below hb1)).mono ?_;rintro e w2 ⟨rfl,hb2⟩;have hb12:=a0D hb1 hb2;have hO2:=jK hb2 ho1;obtain ⟨a1,a2,a3⟩:=a0A hb12 H1.out;obtain ⟨a4,a5,a6⟩:=a0A jR hO2;have HO2:=jH hO2;have HB2:=jH hb12;clear hb12 hb1 hb2 ho1 hO2))
 go_region
 all_goals
   go_wp2_with fail
   have hB:=box6 (v0:=.int .i64 x.pol.mn) (v1:=.int .i64 x.pol.mx) (v2:=.int .i64 x.pol.tg) (v3:=.int .i64 x.pol.tol) (v4:=.int .i64 x.pol.win) (v5:=.int .i64 x.pol.hold) HO2.out;have hb5:=(n1L HB2.out (Nat.le_refl w.heap.size) (.int .i64 x.pol.mn) (.int .i64 x.pol.mx) (.int .i64 x.pol.tg) (.int .i64 x.pol.tol) (.int .i64 x.pol.win)).setCell (p:=⟨w.heap.size,5,none⟩) (Nat.le_refl _) (.int .i64 x.pol.hold)
   obtain ⟨b1,b2,b3⟩:=a0A (Below.drew jR) hB;exact bodyPost_ret (v:=.tuple #[.agg #[.int .i64 x.pol.mn,.int .i64 x.pol.mx,.int .i64 x.pol.tg,.int .i64 x.pol.tol,.int .i64 x.pol.win,.int .i64 x.pol.hold],.bool x.ruled]) (by simp [results,Tryz.results106,go_sem,b1]) rfl ⟨rfl,hb5.drew⟩
end
end
section
open Go.RowKit Go.Lib

end
section
open Go.RowKit Go.Lib Go.Sort
abbrev NE:=Nat × Nd × List Nat
def neV (b:NE):Value:=.pointer (some ⟨b.1,0,none⟩)
def apart (a b:List Nat):Prop:=∀k∈a,k∉b
def h0V (w:World) (T:Nat) (c:Cfg) (ver:Nat) (es:List (KO × NE)) (rs rh:Nat) (fp:List Nat):Prop :=
 ∃ M,w.heap[T]?=some (.cells #[.map (some M),.int .i64 c.st,.int .i64 c.sa,.int .i64 c.lo,.int .i64 c.hi,.int .i64 (ver:Nat)] 232 (0,0))∧a0V koV neV w M es∧(∀p∈es,b0G w p.2.1 p.2.2.1 rs rh p.2.2.2) ∧
   (∀p∈es,∀q∈es,p.1≠q.1→apart p.2.2.2 q.2.2.2)∧(∀p∈es,T∉p.2.2.2∧M∉p.2.2.2)∧T≠M∧fp=T::M::es.flatMap (fun p=>p.2.2.2)
theorem g0H (T:Nat) (c:Cfg) (ver:Nat) (es:List (KO × NE)) (rs rh:Nat) (fp:List Nat) (w:World) (h:h0V w T c ver es rs rh fp) :
 Calls Tryz.prog 149 #[.pointer (some ⟨T,0,none⟩)] w (jP w (.bool true)):=by
 obtain ⟨M,h1,h2,h3,h4,h5,h6,rfl⟩:=h;have z0:w.cell? ⟨T,0,none⟩=some (.map (some M)):=by simp only [World.cell?,h1];rfl
 have hq:∀W,(binOp .neq 230 (.map (some M)) (.map none)).run Tryz.prog W=.ok (.bool true) W:=fun W=>run_neq_map_nil W _ _ _ (some M) Tryz.underlying230
 clear h1 h2 h3 h4 h5 h6
 go_enter Tryz.func149,Tryz.ntmps149
 go_wp2
 go_ret
 exact ⟨rfl,jR⟩
def g1I (w:World) (c:Cfg) (rs rh:Nat) (e:Ending) (w':World):Prop :=
 ∃T fp,e=.returned (.pointer (some ⟨T,0,none⟩))∧h0V w' T c 0 [] rs rh fp∧(∀k∈fp,w.heap.size≤k)∧jB w w'
theorem q0N (c:Cfg) (rs rh:Nat) (w:World) (hc:h0A c=true) (hok:c.ok) :
 Calls Tryz.prog 79 #[n0D c] w (g1I w c rs rh):=by
 have hE:d1J c=0:=by unfold d1J;rw [if_pos hc]
 have HE:=jH hE;have HNR:=jH (f0A c);obtain ⟨st,sa,lo,hi⟩:=c;have hmm:=@run_makeMap Tryz.prog;clear hc hE;unfold n0D;unfold n0D at HNR
 go_enter Tryz.func79,Tryz.ntmps79
 go_wp2_with (go_at_call 46
              refine a0B ?_;intro W1 hW1;have hb1:jB w W1:=by rw [hW1];exact a0C jR _
              have hx1:W1.heap[w.heap.size]?=some (.cells #[.int .i64 st,.int .i64 sa,.int .i64 lo,.int .i64 hi] 23 (0,0)):=by rw [hW1];exact heap_alloc_new _ _
              clear hW1;refine (HNR.out W1 hok).mono ?_;rw [HE.out];rintro e w2 ⟨rfl,hb2⟩;obtain ⟨a1,a2,a3⟩:=a0A hb2 hx1;have HB:=jH (a0D hb1 hb2);clear hb1 hb2 hx1)
 go_ret
 have hsz:=HB.out.size;refine ⟨w2.heap.size+1,[w2.heap.size+1,w2.heap.size],rfl,⟨w2.heap.size,c0G _ _ _,(a0V.made w2).below (a0C jR _),fun p hp=>by simp at hp,fun p hp=>by simp at hp,fun p hp=>by simp at hp,by omega,rfl⟩,fun k hk=>by simp at hk;omega,a0C (a0C HB.out _) _⟩

def cfg1:Cfg:=⟨1,1,1,1⟩
end
section
open Go.Shelf
def e1S:Go.Shelf.Ren:=⟨fun|6=>167|15=>206|14=>218|28=>253|29=>254|20=>261|21=>262|22=>263|23=>264|24=>265|25=>266|26=>267|27=>268|46=>298|47=>289|48=>290|49=>299|50=>300|57=>308|n=>n,fun|22=>92|24=>74|25=>250|3=>3|39=>233|0=>0|53=>316|55=>72|4=>4|46=>310|45=>309|50=>251|5=>5|9=>9|66=>355|70=>359|76=>370|77=>371|n=>n,fun|n=>n⟩
theorem sortK:Go.Proofs.SlLaysF0.n6 Tryz.prog e1S:={
  mixed:=by kernel_rfl
  f6:=⟨Tryz.f167.name,by decide,Tryz.func167.trans (congrArg some (by kernel_rfl))⟩
  f14:=⟨Tryz.f218.name,by decide,Tryz.func218.trans (congrArg some (by kernel_rfl))⟩
  f15:=Tryz.func206.trans (congrArg some (by kernel_rfl))
  f20:=⟨Tryz.f261.name,by decide,Tryz.func261.trans (congrArg some (by kernel_rfl))⟩
  f21:=⟨Tryz.f262.name,by decide,Tryz.func262.trans (congrArg some (by kernel_rfl))⟩
  f22:=⟨Tryz.f263.name,by decide,Tryz.func263.trans (congrArg some (by kernel_rfl))⟩
  f23:=⟨Tryz.f264.name,by decide,Tryz.func264.trans (congrArg some (by kernel_rfl))⟩
  f24:=⟨Tryz.f265.name,by decide,Tryz.func265.trans (congrArg some (by kernel_rfl))⟩
  f25:=⟨Tryz.f266.name,by decide,Tryz.func266.trans (congrArg some (by kernel_rfl))⟩
  f26:=⟨Tryz.f267.name,by decide,Tryz.func267.trans (congrArg some (by kernel_rfl))⟩
  f27:=⟨Tryz.f268.name,by decide,Tryz.func268.trans (congrArg some (by kernel_rfl))⟩
  f28:=Tryz.func253.trans (congrArg some (by kernel_rfl))
  f29:=Tryz.func254.trans (congrArg some (by kernel_rfl))
  f46:=⟨Tryz.f298.name,by decide,Tryz.func298.trans (congrArg some (by kernel_rfl))⟩
  f47:=Tryz.func289.trans (congrArg some (by kernel_rfl))
  f48:=Tryz.func290.trans (congrArg some (by kernel_rfl))
  f49:=⟨Tryz.f299.name,by decide,Tryz.func299.trans (congrArg some (by kernel_rfl))⟩
  f50:=⟨Tryz.f300.name,by decide,Tryz.func300.trans (congrArg some (by kernel_rfl))⟩
  f57:=⟨Tryz.f308.name,by decide,Tryz.func308.trans (congrArg some (by kernel_rfl))⟩
  t0:=Tryz.underlying0
  a0:=Tryz.isAgg0
  z0:=Tryz.sizeOf0
  v0:=Tryz.zeroValue0
  t3:=Tryz.underlying3
  a3:=Tryz.isAgg3
  z3:=Tryz.sizeOf3
  v3:=Tryz.zeroValue3
  t4:=Tryz.underlying4
  a4:=Tryz.isAgg4
  z4:=Tryz.sizeOf4
  v4:=Tryz.zeroValue4
  t5:=Tryz.underlying5
  a5:=Tryz.isAgg5
  z5:=Tryz.sizeOf5
  v5:=Tryz.zeroValue5
  t9:=Tryz.underlying9
  a9:=Tryz.isAgg9
  z9:=Tryz.sizeOf9
  v9:=Tryz.zeroValue9
  t22:=Tryz.underlying92
  a22:=Tryz.isAgg92
  z22:=Tryz.sizeOf92
  v22:=Tryz.zeroValue92
  t25:=Tryz.underlying250
  a25:=Tryz.isAgg250
  z25:=Tryz.sizeOf250
  v25:=Tryz.zeroValue250
  t39:=Tryz.underlying233
  a39:=Tryz.isAgg233
  z39:=Tryz.sizeOf233
  v39:=Tryz.zeroValue233
  t45:=Tryz.underlying309
  a45:=Tryz.isAgg309
  z45:=Tryz.sizeOf309
  v45:=Tryz.zeroValue309
  t46:=Tryz.underlying310
  a46:=Tryz.isAgg310
  z46:=Tryz.sizeOf310
  v46:=Tryz.zeroValue310
  t50:=Tryz.underlying251
  a50:=Tryz.isAgg251
  z50:=Tryz.sizeOf251
  v50:=Tryz.zeroValue251
  t53:=Tryz.underlying316
  a53:=Tryz.isAgg316
  z53:=Tryz.sizeOf316
  v53:=Tryz.zeroValue316
  t55:=Tryz.underlying72
  a55:=Tryz.isAgg72
  z55:=Tryz.sizeOf72
  v55:=Tryz.zeroValue72
  t66:=Tryz.underlying355
  a66:=Tryz.isAgg355
  z66:=Tryz.sizeOf355
  v66:=Tryz.zeroValue355
  t70:=Tryz.underlying359
  a70:=Tryz.isAgg359
  z70:=Tryz.sizeOf359
  v70:=Tryz.zeroValue359
  t76:=Tryz.underlying370
  a76:=Tryz.isAgg370
  z76:=Tryz.sizeOf370
  v76:=Tryz.zeroValue370
  t77:=Tryz.underlying371
  a77:=Tryz.isAgg371
  z77:=Tryz.sizeOf371
  v77:=Tryz.zeroValue371 }
end
end Go.Proofs.YtmniiodpbebnmaaGreat
