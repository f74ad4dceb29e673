/- Part 24 of the proof: SerRest, FlA, FlM, TrRi. -/
import Derived.Test.YtkcdhaallnhhmaaGreatL21
import Derived.Test.YtkcdhaallnhhmaaGreatL22
import Derived.Test.YtkcdhaallnhhmaaGreatL23
namespace Go.Proofs.YtkcdhaallnhhmaaGreat
set_option linter.unusedSimpArgs false
set_option linter.unusedVariables false
set_option linter.unusedSectionVars false
set_option maxRecDepth 100000
set_option maxHeartbeats 16000000
section
open Go.RowKit Go.Lib Go.Sort
def NewSer (w:World) (l:List Smp) (room:Int) (e:Ending) (w':World):Prop :=
 ∃S fp,e=.returned (.pointer (some ⟨S,0,none⟩))∧SerIn w' S l room fp∧(∀k∈fp,w.heap.size≤k)∧jB w w'
theorem serNew_any (room:Int) (w:World) (h1:1≤room) (h2:room≤256) :
 Calls Tryz.prog 164 #[.int .i64 room] w (NewSer w [] room):=by
 have q1:¬room<1:=by omega
 have q2:¬256<room:=by omega
 go_enter Tryz.func164,Tryz.ntmps164
 go_wp2
 go_ret
 refine ⟨w.heap.size,[w.heap.size],rfl,⟨.slice none 0 0,[],heap_alloc_new _ _,SRow.nil _,by simp,rfl⟩,fun k hk=>by simp at hk;omega,balloc jR _⟩
theorem serList_any (S:Nat) (l:List Smp) (room:Int) (fp:List Nat) (w:World) (h:SerIn w S l room fp) (hl:l.length≤1000000) :
 Calls Tryz.prog 117 #[.pointer (some ⟨S,0,none⟩)] w (CloneS smpC 118 2 w l):=by
 obtain ⟨v,fr,hS,hrow,_,_⟩:=h;have C:=jH (cloneS_any v l w (hrow.row eSmp) hl);have z0:w.cell? ⟨S,0,none⟩=some v:=by simp only [World.cell?,hS];rfl
 clear hS hrow
 go_enter Tryz.func117,Tryz.ntmps117
 go_wp2_with (go_at_call 116;refine C.out.mono ?_;rintro e w2 ⟨A,c,fp,rfl,h1,h2,h3⟩;have H1:=jH h1;have H2:=jH h2;have H3:=jH h3;clear h1 h2 h3)
 go_ret
 exact ⟨A,c,fp,rfl,H1.out,H2.out,H3.out⟩
end
section
open Go.RowKit Go.Lib
theorem flTells_new (c:Cfg) (k:Nat) (hk:(k:Int)=c.st):FlTells c [] (newW k):=by
 have hall:allW (newW k)=[]:=by
  have:=tot_new k;exact List.eq_nil_of_length_eq_zero this
 refine ⟨⟨(fun p hp=>by cases hp),fun s _=>?_⟩,fun p hp=>?_,fun i R hR=>?_,fun R hR=>?_,homeOk_new c k,?_,List.nodup_nil⟩
 · show findIt (allW (newW k)) (keyK s.1)=none
   rw [hall];rfl
 · rw [hall] at hp
   cases hp
 · have:=List.eq_of_mem_replicate (List.mem_of_getElem? hR)
   rw [this];rfl
 · rw [List.eq_of_mem_replicate hR]
   exact List.Pairwise.nil
 · rw [←hk]
   simp [newW]
theorem flNew_ok (c:Cfg) (rs rh k:Nat) (w:World) (hc:c.ok) (hb:cfgE c=0) (hk:(k:Int)=c.st) :
 Calls Tryz.prog 10 #[cfgV c] w fun e w'=>∃M d,e=.returned (.pointer (some ⟨M,0,none⟩))∧FlatAt (fun b=>b≠M∧b≠d.L) w' M c rs rh 0 (newW k) d∧w.heap.size≤M∧w.heap.size≤d.L∧jB w w':=by
 have CR:=jH (fun W=>nodeRight_any c W hc);rw [hb] at CR;have hmm:=@run_makeMap Tryz.prog;have HTL:=jH (flTells_new c k hk);unfold cfgV at CR ⊢;clear hc hb hk
 go_enter Tryz.func10,Tryz.ntmps10
 go_wp2_with (first
  | (go_at_call 43
     refine calls_named ?_;intro W1 hW1;have hb1:jB w W1:=by rw [hW1];exact balloc jR _
     have hx1:W1.heap[w.heap.size]?=some (.cells #[.int .i64 c.st,.int .i64 c.sa,.int .i64 c.lo,.int .i64 c.hi] 23 (0,0)):=by rw [hW1];exact heap_alloc_new _ _
     clear hW1;refine (CR.out W1).mono ?_;rintro e w2 ⟨rfl,hb2⟩;have HB2:=jH (bthen hb1 hb2);obtain ⟨a1,a2,a3⟩:=box_cells hb2 hx1;clear hb1 hb2 hx1))
 refine post_named ?_;intro W9 hW9;have hW9':W9=(w2.alloc (.map #[] 0)).alloc (.cells #[.int .i64 c.st,.int .i64 c.sa,.int .i64 c.lo,.int .i64 c.hi,.map (some w2.heap.size),.slice none 0 0,.int .i64 0,.bool false] 97 (0,0)):=hW9;have hd9:jB w2 W9:=by rw [hW9'];exact balloc (balloc jR _) _
 have hm9:MapIn skV ldV W9 w2.heap.size ([]:List (SK × It)):=by
  rw [hW9'];exact (MapIn.made w2).below (balloc jR _)
 have hc9:W9.heap[w2.heap.size+1]?=some (.cells #[.int .i64 c.st,.int .i64 c.sa,.int .i64 c.lo,.int .i64 c.hi,.map (some w2.heap.size),.slice none 0 0,.int .i64 0,.bool false] 97 (0,0)):=by rw [hW9'];exact box_new _ _ _
 clear hW9 hW9';have hs2:=HB2.out.size;have hf9:FlatAt (fun b=>b≠w2.heap.size+1∧b≠w2.heap.size) W9 (w2.heap.size+1) c rs rh 0 (newW k) ⟨w2.heap.size,[],none,0,[]⟩ :=
  ⟨⟨hc9,hm9,by show w2.heap.size+1≠w2.heap.size;omega,fun b hb=>hb,(fun p hp=>by cases hp),rfl,RowG.nil,(fun i x q hx hq=>by cases hx)⟩,HTL.out⟩
 exact bodyPost_ret (v:=.pointer (some ⟨w2.heap.size+1,0,none⟩)) (by simp [results,Tryz.results10,go_sem]) rfl ⟨w2.heap.size+1,⟨w2.heap.size,[],none,0,[]⟩,rfl,hf9,by omega,hs2,bthen HB2.out hd9⟩
theorem flHome_any (M:Nat) (c:Cfg) {cs:Array Value} {T:TypeId} (id:ByteArray) (w:World) (h:w.heap[M]?=some (.cells cs T (0,0))) (h0:cs[0]?=some (.int .i64 c.st)) (hst:okSt c.st=true) (hm:id.size≤maxLen) :
 Calls Tryz.prog 163 #[.pointer (some ⟨M,0,none⟩),.string id] w (jP w (.int .i64 (routeI (keyK id).1 (keyK id).2 c.st))):=by
 have hbd:=okSt_bd _ hst;obtain ⟨pe,hpe⟩:∃pe:Int,packV id=.tuple #[.agg #[.int .u64 (keyK id).1,.int .u64 (keyK id).2],.int .i64 pe]:=by
  unfold packV keyK
  cases idS id with
  | true=>exact ⟨0,rfl⟩
  | false=>exact ⟨2,rfl⟩
 have CP:=jH (fun W=>show Calls Tryz.prog 108 #[.string id] W (jP W (.tuple #[.agg #[.int .u64 (keyK id).1,.int .u64 (keyK id).2],.int .i64 pe])) from hpe ▸ pack_any id W hm);have hk:=keyK_ok id;have CR:=jH (fun W=>routeOf_any (keyK id).1 (keyK id).2 c.st W hk.1 hk.2 (by unfold I64;omega));generalize keyK id=k at *;have HM:=jH h;have rm:∀U,jB w U→U.cell? ⟨M,0,none⟩=some (.int .i64 c.st):=fun U hU=>((box_cells hU h).1 0).trans h0
 have hlt:M<w.heap.size:=(jL h);clear h h0 hpe hk hbd hst hm
 go_enter Tryz.func163,Tryz.ntmps163
 go_upto_region 2 with (first
  | (go_at_call 108
     refine (CP.out w).mono ?_;rintro e w2 ⟨rfl,hb2⟩;have HB2:=jH hb2;clear hb2))
 refine name_world ?_;intro W hW;have hdW:jB w2 W:=by rw [hW];exact balloc jR _
 have hk9:W.heap[w2.heap.size]?=some (.cells #[.int .u64 k.1,.int .u64 k.2] 130 (0,0)):=by rw [hW];exact heap_alloc_new _ _
 have HB:=jH (bthen HB2.out hdW);have HK:=jH hk9;clear hW hdW hk9;have rk:∀U,jB W U→∀j,U.cell? ⟨w2.heap.size,j,none⟩=(#[.int .u64 k.1,.int .u64 k.2]:Array Value)[j]?:=fun U hU j=>(box_cells hU HK.out).1 j
 have rn:∀U,jB W U→U.cell? ⟨M,0,none⟩=some (.int .i64 c.st):=fun U hU=>rm U (bthen HB.out hU)
 clear rm;have hS00:jB W W:=jR;have hS0:jB W W.drew:=hS00.drew
 go_region_held3 (fun U=>jB W U)
   (first
     | with_reducible exact hS0
     | with_reducible exact hS00
     | with_reducible exact HB5.out)
   (first
     | (go_at_call 193
        refine calls_named ?_;intro V hV;have hd:jB W V:=by rw [hV];first|assumption|exact jR|exact jR.drew
        clear hV;refine (CR.out V).mono ?_;rintro e w5 ⟨rfl,hb5⟩;have HB5:=jH (bthen hd hb5);clear hb5 hd))
 all_goals go_wp2
 all_goals go_ret
 all_goals exact ⟨rfl,bthen HB.out HB5.out⟩
end
section
open Go.RowKit Go.Lib Go.Sort
theorem putS_snoc {l:List Smp} {x:Smp} {room:Int} (hr:risingS (l++[x])) (h:((l.length+1:Nat):Int)≤room):putS l room x=l++[x]:=by
 have hp:placeS l x.1=l.length:=by
  unfold placeS;rw [List.countP_eq_length];intro y hy;have:=(List.pairwise_append.1 hr).2.2 y hy x (by simp);simp
  omega
 unfold putS hitS insS cutS;rw [hp,List.getElem?_eq_none (Nat.le_refl _),List.take_length,List.drop_length];rw [if_neg (by simp)];simp only [List.length_append,List.length_singleton]
 rw [if_neg (by omega)]
def foldS (room:Int) (l:List Smp):List Smp:=l.foldl (fun a x=>putS a room x) []
theorem foldS_snoc (room:Int) (l:List Smp) (x:Smp):foldS room (l++[x])=putS (foldS room l) room x:=by
 unfold foldS;rw [List.foldl_append];rfl
theorem foldS_take (room:Int) (l:List Smp) (k:Nat) (h:k<l.length):foldS room (l.take (k+1))=putS (foldS room (l.take k)) room l[k]:=by
 rw [List.take_succ_eq_append_getElem h,foldS_snoc]
theorem foldS_self (room:Int) (l:List Smp) (hr:risingS l) (hl:(l.length:Int)≤room):∀k,k≤l.length→foldS room (l.take k)=l.take k
  | 0,_=>rfl
  | k+1,h=>by
    rw [foldS_take room l k (by omega),foldS_self room l hr hl k (by omega),List.take_succ_eq_append_getElem (by omega)];refine putS_snoc ?_ ?_
    · rw [←List.take_succ_eq_append_getElem (by omega)]
      exact hr.sublist (List.take_sublist _ _)
    · rw [List.length_take]
      omega
theorem foldS_one (room:Int) (l:List Smp) (x:Smp) (hr:risingS l) (hl:(l.length:Int)≤room):foldS room (l++[x])=putS l room x:=by
 rw [foldS_snoc];have:=foldS_self room l hr hl l.length (Nat.le_refl _);rw [List.take_length] at this;rw [this]
theorem foldS_ok (room:Nat):∀l:List Smp,risingS (foldS (room:Nat) l)∧(foldS (room:Nat) l).length≤room:=by
 intro l
 induction hn:l.length generalizing l with
 | zero =>
   rw [List.eq_nil_of_length_eq_zero hn];exact ⟨List.Pairwise.nil,Nat.zero_le _⟩
 | succ n ih =>
   rcases List.eq_nil_or_concat l with rfl|⟨m,x,rfl⟩
   · cases hn
   · rw [List.concat_eq_append] at hn ⊢
     obtain ⟨a,b⟩:=ih m (by simpa using hn);rw [foldS_snoc];exact ⟨rising_put a _ x,putS_len b x⟩
end
section
open Go.RowKit Go.Lib
open Go.ChangeMaps (setBlock)
abbrev IK:={ n:Int // I64 n }
def ikV (x:IK):Value:=.int .i64 x.1
theorem keysIk:KeysBy Tryz.prog 3 ikV where
 law:=Go.Maps.int_keyed Tryz.underlying3
 key x:=⟨_,Go.Maps.keyOf_int_mk Tryz.underlying3 (by have:=x.2;unfold I64 at this;simp [Lit.wf,IntKind.min,IntKind.max,IntKind.signed,IntKind.bits];omega)⟩
 inj x y h:=by
  simp only [ikV,Value.int.injEq,true_and] at h
  exact Subtype.ext h
def trkV (t:Trk):Value:=.agg (trkC t).toArray
theorem tput_find {α β:Type} [DecidableEq α] (es:List (α × β)) (x y:α) (v:β):findM (putM es x v) y=if y=x then some v else findM es y:=by
 unfold putM
 cases h:hasM es x with
 | false =>
   simp only [Bool.false_eq_true,if_false]
   unfold findM;rw [List.find?_append]
   by_cases hy:y=x
   · subst hy
     rw [if_pos rfl];have:=findM_none h;unfold findM at this;simp only [Option.map_eq_none_iff] at this
     rw [this];simp
   · rw [if_neg hy]
     have:([(x,v)]:List (α × β)).find? (fun p=>decide (p.1=y))=none:=by simp [Ne.symm hy]
     rw [this,Option.or_none]
 | true =>
   simp only [if_true]
   unfold findM
   induction es with
   | nil=>simp [hasM] at h
   | cons p es ih =>
     simp only [List.map_cons]
     by_cases hpx:p.1=x
     · simp only [hpx,if_true]
       by_cases hy:y=x
       · subst hy;simp
       · rw [if_neg hy,List.find?_cons,List.find?_cons]
         simp only [hpx,Ne.symm hy,decide_false,Bool.false_eq_true]
         clear ih h
         induction es with
         | nil=>rfl
         | cons q es ih =>
           simp only [List.map_cons]
           by_cases hqx:q.1=x
           · simp only [hqx,if_true,List.find?_cons,Ne.symm hy,decide_false]
             exact ih
           · simp only [hqx,if_false,List.find?_cons]
             by_cases hqy:q.1=y
             · simp [hqy]
             · simp only [hqy,decide_false];exact ih
     · simp only [hpx,if_false,List.find?_cons]
       by_cases hpy:p.1=y
       · have:¬y=x:=by rw [←hpy];exact hpx
         simp [hpy,this]
       · simp only [hpy,decide_false]
         refine ih ?_;unfold hasM at h ⊢
         simpa [hpx] using h
theorem trk_look {w:World} {L:Nat} {es:List (IK × Trk)} (h:MapIn ikV trkV w L es) (n:Int) (hn:I64 n) (t:Trk) (ht:(findM es ⟨n,hn⟩).getD trk0=t) (W:World) (hW:W.heap[L]?=w.heap[L]?) :
 (Instr.lookup 185 (.map (some L)) (.int .i64 n) false).run Tryz.prog W=.ok (.agg #[.int .i64 t.nth,.int .i64 t.last,.int .u64 (t.hi:Nat),.int .u64 (t.lo:Nat)]) W:=by
 have h1:=MapIn.look (V:=trkV) (h.block hW) keysIk Tryz.underlying185 (Tryz.zeroValue187 W) false ⟨n,hn⟩;have h2:((findM es ⟨n,hn⟩).map trkV).getD (trkV trk0)=trkV t:=by rw [←ht];cases findM es ⟨n,hn⟩ <;> rfl
 exact h1.trans (by rw [if_neg (by simp)];exact congrArg (fun v=>Result.ok v W) h2)
theorem trk_store {w:World} {L:Nat} {es:List (IK × Trk)} (h:MapIn ikV trkV w L es) (n:Int) (hn:I64 n) (t:Trk) :
 ∃o,(Instr.mapUpdate 185 (.map (some L)) (.int .i64 n) (.agg #[.int .i64 t.nth,.int .i64 t.last,.int .u64 (t.hi:Nat),.int .u64 (t.lo:Nat)])).run Tryz.prog w=.ok () (setBlock w L o)∧MapIn ikV trkV (setBlock w L o) L (putM es ⟨n,hn⟩ t) :=
 MapIn.store (V:=trkV) h keysIk Tryz.underlying185 ⟨n,hn⟩ t
structure TrkRel (es:List (IK × Trk)) (S:Int→Trk) (k:Nat):Prop where
 at_:∀x:IK,(findM es x).getD trk0=S x.1
 nth:∀n:Int,0≤(S n).nth∧(S n).nth≤k
theorem TrkRel.new:TrkRel [] (fun _=>trk0) 0:=⟨fun x=>rfl,fun n=>⟨by unfold trk0;simp,by unfold trk0;simp⟩⟩
theorem TrkRel.put {es:List (IK × Trk)} {S:Int→Trk} {k:Nat} (h:TrkRel es S k) (e:EvtD) (hn:I64 e.task):TrkRel (putM es ⟨e.task,hn⟩ (trkN (S e.task) e)) (fun n=>if n=e.task then trkN (S e.task) e else S n) (k+1):=by
 refine ⟨fun x=>?_,fun n=>?_⟩
 · rw [tput_find]
   by_cases hx:x=⟨e.task,hn⟩
   · subst hx;rw [if_pos rfl,if_pos rfl];rfl
   · rw [if_neg hx,if_neg (fun h9=>hx (Subtype.ext h9))]
     exact h.at_ x
 · (try dsimp only)
   split
   · have:=h.nth e.task
     unfold trkN nthK
     (try dsimp only)
     split <;> omega
   · have:=h.nth n
     omega
theorem tri_load_guard {P:Program} {ops:Array Oper} {rest:List Oper} {op:Oper} {a:Act} {w:World} {Q:Exit→Act→World→Prop} (hw:Region.wanted op (yielded ops a.tmps)=true) (ty:TypeId) (x:Operand) (ho:op.op=.load ty x)
    (b o:Nat) (cs:List Value) (hc:∀j v,cs[j]?=some v→w.cell? ⟨b,o+j,none⟩=some v) (hx:a.eval x=.pointer (some ⟨b,o,none⟩)) (d:TypeDesc)
    (hu:P.underlying ty=some d) (hd:d.isRow=true) (hi:(P.info? ty).map (·.size)=some cs.length)
    (h:wpList P ops Q rest (a.put op.dst (.agg cs.toArray)) w):wpList P ops Q (op::rest) a w:=by
  unfold wpList;rw [if_pos hw];exact .inl (wp_load_mid ty x ho b o hx cs d hc hu hd hi h)
theorem tri_setBlock {n:Nat} {w a:World} (h:Below n w a) {d:Nat} (o:Obj) (hd:n≤d):Below n w (setBlock a d o) :=
 ⟨h.os,h.tape,h.output,by rw [setBlock_size];exact h.size,fun k hk=>(setBlock_other (by omega)).trans (h.block k hk)⟩
theorem rightT_drop {S:Int→Trk} {l:List EvtD} {k:Nat} (hk:k<l.length):rightT S (l.drop k)=(decide (0≤l[k].task∧l[k].task<32) && trkB (S l[k].task) l[k] && rightT (fun n=>if n=l[k].task then trkN (S l[k].task) l[k] else S n) (l.drop (k+1))):=by
 rw [List.drop_eq_getElem_cons hk];rfl
theorem tright_any (v:Value) (es:List EvtD) (w:World) (he:RowIn 34 evC w v es) (heok:∀e∈es,e.ok) (hel:es.length≤100) :
 Calls Tryz.prog 75 #[v] w (jP w (.bool (rightT (fun _=>trk0) es))):=by
 obtain ⟨A,cp,rfl,hAc,h0⟩:=id he;clear h0;have hmm:=@run_makeMap Tryz.prog;have HE:=jH he;have HEOK:=jH heok;have q9:(es.length:Int)≤100:=by omega
 obtain ⟨ans,hans⟩:∃r,r=rightT (fun _=>trk0) es:=⟨_,rfl⟩;rw [←hans];have HANS:=jH hans;clear he heok hAc hans hel
 go_enter Tryz.func75,Tryz.ntmps75
 go_wp2_with fail
 clear hmm
 go_loopg [10] es.length (fun g s10 wr=>∃(k:Nat) (m:List (IK × Trk)) (S:Int→Trk),k≤es.length∧es.length - k≤g∧s10=.int .i64 k∧MapIn ikV trkV wr w.heap.size m∧TrkRel m S k∧Hid (rightT S (es.drop k)=ans)∧jB w wr)
 case atStart=>exact ⟨0,[],_,Nat.zero_le _,Nat.le_refl _,rfl,MapIn.made w,TrkRel.new,jH (by rw [HANS.out];rfl),balloc jR _⟩
 case round =>
  obtain ⟨k,m,S,hk,hg,rfl,hm,hrl,HR,hb⟩:=hrel;rename World=>wr
  have HM:=jH hm;have HRL:=jH hrl;have HBr:=jH hb;clear hm hrl hb
  by_cases hlt:k<es.length
  · have z1:(k:Int)<(es.length:Int):=by omega
    have z2:(0:Int)≤(k:Int):=by omega
    obtain ⟨b1,o1,rfl,hb1,hc⟩:=(HE.out.below HBr.out).at_ hlt;have hcl:(evC es[k]).length=34:=rfl;have hone:∀v∈evC es[k],v.oneCell'=true:=evC_one _;have HOK:=jH (HEOK.out _ (List.getElem_mem hlt));have HRR:=jH ((rightT_drop (S:=S) hlt).symm.trans HR.out);clear HR;have g1:(evC es[k])[1]?=some (.int .i64 es[k].task):=rfl;obtain ⟨t,ht⟩:∃t,t=S es[k].task:=⟨_,rfl⟩;have HLK:=jH (fun (W:World) (hW:W.heap[w.heap.size]?=wr.heap[w.heap.size]?)=>trk_look HM.out es[k].task HOK.out.task t (by rw [ht];exact HRL.out.at_ _) W hW)
    have HNT:=jH (show 0≤t.nth∧t.nth≤1000 by have:=HRL.out.nth es[k].task;rw [ht];omega);have HPUT:=jH (HRL.out.put es[k] HOK.out.task);rw [←ht] at HRR HPUT;have CFO:=jH (fun (X:Nat) (W:World) (hX:W.heap[X]?=some (.cells (trkC t).toArray 187 (0,0)))=>follows_any hX HNT.out es[k]);obtain ⟨cs,hcs⟩:∃cs,cs=evC es[k]:=⟨_,rfl⟩;have CFO9:=jH (fun (X:Nat) (W:World) (hX:W.heap[X]?=some (.cells (trkC t).toArray 187 (0,0)))=>show Calls Tryz.prog 111 #[.pointer (some ⟨X,0,none⟩),.agg cs.toArray] W (FolSays W X (trkB t es[k]) (trkN t es[k])) by rw [hcs];exact CFO.out X W hX)
    rw [←hcs] at hc hcl hone g1;obtain ⟨tk,htk⟩:∃r,r=es[k].task:=⟨_,rfl⟩;have HTASK:=jH (show I64 tk by rw [htk];exact HOK.out.task);obtain ⟨b,hbb⟩:∃r,r=trkB t es[k]:=⟨_,rfl⟩;obtain ⟨t2,ht2⟩:∃r,r=trkN t es[k]:=⟨_,rfl⟩;have HPUT2:=jH (show TrkRel (putM m ⟨tk,HTASK.out⟩ t2) (fun n=>if n=tk then t2 else S n) (k+1) by subst htk;rw [ht2];exact HPUT.out);rw [←hbb,←ht2] at CFO9;rw [←hbb,←ht2,←htk] at HRR
    rw [←htk] at g1 HLK;have k1:∀h,cs[1]'h=.int .i64 tk:=fun h=>Option.some.inj ((List.getElem?_eq_getElem h).symm.trans g1)
    have hst:=store_new (P:=Tryz.prog) wr 132 cs 34 hcl (by kernel_rfl) hone;have HC:=jH hc;have HCL:=jH hcl;have hmb:w.heap.size<wr.heap.size:=HM.out.lt;have HMB:=jH hmb;clear hc hone hbb ht2 htk ht g1 CFO HPUT HOK hmb;have HCST:=jH hcs;clear hcs
    go_upto_region 5 with (first
     | (refine wpList_load_list rfl 132 (.tmp 12) rfl b1 (o1+k * 34) cs HC.out (by rfl) _ Tryz.underlying132 (by rfl) (by rw [HCL.out];kernel_rfl) ?_))
    refine name_world ?_;intro W1 hW1;have hbW:jB wr W1:=by rw [hW1];exact balloc jR _
    have HC1:=jH (show W1.heap[wr.heap.size]?=some (.cells cs.toArray 132 (0,0)) by rw [hW1];exact heap_alloc_new _ _);have q1:=HLK.out W1 (hbW.block _ HMB.out);have kk:=(box_cells jR HC1.out).1 1;have k9:W1.cell? ⟨wr.heap.size,1,none⟩=some (.int .i64 tk):=kk.trans (by rw [List.getElem?_toArray,List.getElem?_eq_getElem (by rw [HCL.out];decide),k1]);have HBW1:=jH hbW;obtain ⟨tn,tl,th,tlo⟩:=t;dsimp only at q1
    clear hW1 hbW kk k1 hst hcl
    go_upto_region 6 with fail
    refine name_world ?_;intro W2 hW2;have hb12:jB W1 W2:=by rw [hW2];exact balloc jR _
    have HX2:=jH (show W2.heap[W1.heap.size]?=some (.cells (trkC ⟨tn,tl,th,tlo⟩).toArray 187 (0,0)) by rw [hW2];exact heap_alloc_new _ _);have HC2:=jH (jK hb12 HC1.out);have HBW2:=jH (bthen HBW1.out hb12);have k92:W2.cell? ⟨wr.heap.size,1,none⟩=some (.int .i64 tk):=(hb12.cell (p:=⟨wr.heap.size,_,none⟩) (jL HC1.out)).trans k9;have HWX:=jH (show wr.heap.size<W1.heap.size from (jL HC1.out));clear hW2 hb12 k9 q1
    have HRG:=jH (show ∀j v,cs[j]?=some v→W2.cell? ⟨wr.heap.size,0+j,none⟩=some v from fun j v hj=>by rw [Nat.zero_add,(box_cells jR HC2.out).1 j,List.getElem?_toArray];exact hj)
    by_cases h1:tk<0
    · have HR2:=jH (show false=ans from by have h9:=HRR.out;rw [decide_eq_false (by omega),Bool.false_and,Bool.false_and] at h9;exact h9)
      clear HRR;go_wp2_with fail
      go_ret
      exact ⟨by rw [←HR2.out];rfl,bthen HBr.out HBW2.out⟩
    · by_cases h2:(32:Int)≤tk
      · have HR2:=jH (show false=ans from by have h9:=HRR.out;rw [decide_eq_false (by omega),Bool.false_and,Bool.false_and] at h9;exact h9)
        clear HRR;go_wp2_with fail
        go_ret
        exact ⟨by rw [←HR2.out];rfl,bthen HBr.out HBW2.out⟩
      · have HR2:=jH (show (b && rightT (fun n=>if n=tk then t2 else S n) (es.drop (k+1)))=ans from by have h9:=HRR.out;rw [decide_eq_true (by omega),Bool.true_and] at h9;exact h9)
        clear HRR
        cases b with
        | false =>
          as_aux_lemma =>
           have HR3:=jH (show false=ans from HR2.out)
           go_wp2_with (first
            | (refine tri_load_guard (by rfl) 132 (.tmp 5) rfl wr.heap.size 0 cs HRG.out (by rfl) _ Tryz.underlying132 (by rfl) (by rw [HCL.out];kernel_rfl) ?_)
            | (go_at_call 111
               refine (CFO9.out _ W2 HX2.out).mono ?_;rintro e u ⟨rfl,hx,hu⟩;have HX:=jH hx;have HBU:=jH (HBW2.out.trans (hu.below HBW2.out.size (fun r hr=>by rw [List.mem_singleton.1 hr];exact Nat.le_of_lt HWX.out)));have HCS:=jH ((hu.block _ (jL HC2.out) (by simp only [List.mem_singleton];exact Nat.ne_of_lt HWX.out)).trans HC2.out);clear hx hu))
           go_ret
           exact ⟨by rw [←HR3.out];rfl,bthen HBr.out HBU.out⟩
        | true =>
          as_aux_lemma =>
           have HR3:=jH (show rightT (fun n=>if n=tk then t2 else S n) (es.drop (k+1))=ans from HR2.out)
           go_upto_region 8 with (first
            | (refine tri_load_guard (by rfl) 132 (.tmp 5) rfl wr.heap.size 0 cs HRG.out (by rfl) _ Tryz.underlying132 (by rfl) (by rw [HCL.out];kernel_rfl) ?_)
            | (go_at_call 111
               refine (CFO9.out _ W2 HX2.out).mono ?_;rintro e u ⟨rfl,hx,hu⟩;have HX:=jH hx;have HBU:=jH (HBW2.out.trans (hu.below HBW2.out.size (fun r hr=>by rw [List.mem_singleton.1 hr];exact Nat.le_of_lt HWX.out)));have HCS:=jH ((hu.block _ (jL HC2.out) (by simp only [List.mem_singleton];exact Nat.ne_of_lt HWX.out)).trans HC2.out);clear hx hu))
           have HMU:=jH (HM.out.below HBU.out);obtain ⟨o,hs1,hs2⟩:=trk_store HMU.out tk HTASK.out t2;have HS2:=jH hs2;obtain ⟨y1,y2,y3⟩:=box_cells jR HX.out;have ku:u.cell? ⟨wr.heap.size,1,none⟩=some (.int .i64 tk):=by
            rw [(box_cells jR HCS.out).1 1,←(box_cells jR HC2.out).1 1];exact k92
           unfold trkC at y1;clear hs2 k92;go_wp2_with fail
           go_roundg (es.length - (k+1))
           case measure=>omega
           case rel=>exact ⟨k+1,_,_,hlt,Nat.le_refl _,by go_num,HS2.out,HPUT2.out,HR3,tri_setBlock (bthen HBr.out HBU.out) o (Nat.le_refl _)⟩
  · obtain rfl:k=es.length:=by omega
    have z1:¬(es.length:Int)<(es.length:Int):=by omega
    have HR2:=jH (show true=ans from by have h9:=HR.out;rw [List.drop_length] at h9;exact h9);clear HR;go_wp2_with fail
    go_ret
    exact ⟨by rw [←HR2.out];rfl,HBr.out⟩
end
end Go.Proofs.YtkcdhaallnhhmaaGreat
