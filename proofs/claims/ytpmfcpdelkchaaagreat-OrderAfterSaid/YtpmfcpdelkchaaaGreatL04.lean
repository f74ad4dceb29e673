/- Part 4 of the proof: KeysRead, Fresh, WinP, Series, IdRef, RPush, Node, RefRis, Stripe, Entry, ShClone, Before. -/
import Derived.ArgAppend
import Derived.Lib.SliceRun
import Derived.Laws.Cover3
import Derived.Shelf.SlMaps.Clone
import Derived.Shelf.SlLaysW
import Derived.Test.YtpmfcpdelkchaaaGreatL02
import Derived.Test.YtpmfcpdelkchaaaGreatL03
namespace Go.Proofs.YtpmfcpdelkchaaaGreat
set_option linter.unusedSimpArgs false
set_option linter.unusedVariables false
set_option linter.unusedSectionVars false
set_option maxRecDepth 100000
set_option maxHeartbeats 16000000
section
open Go.RowKit Go.Lib Go.ChangeShapes Go.WideShapes Go.Joins
theorem cl_key:Tryz.prog.cellsOf 95=2:=by kernel_rfl
theorem cl_u64:Tryz.prog.cellsOf 93=1:=by kernel_rfl
theorem u64_of_wf {n:Int} (h:(Lit.int .u64 n).wf=true):∃m:Nat,n=m∧m<18446744073709551616:=by
 have:0≤n∧n≤18446744073709551615:=by simpa [Lit.wf,IntKind.min,IntKind.max,IntKind.signed,IntKind.bits] using h
 exact ⟨n.toNat,by omega,by omega⟩
def keyC (p:Ky):List Value:=[.int .u64 p.1,.int .u64 p.2]
section
variable {H:Type} {enc:TypeId × Value→H} {w:World} {base:Nat} {spare:Nat→Bool} {held:Bool}
theorem field_u64 {fuel:Nat} {t:TypeId} (ht:Tryz.prog.underlying t=some (.int .u64)) (hc:Tryz.prog.cellsOf t=1) {cs:List Value} {xs:List (DataW H × List MemPlace)} {i o:Nat} (hi:i<xs.length) {v:Value} (hv:cs.drop o=v::cs.drop (o+1))
    (h:DataW.trod enc Tryz.prog w base spare held fuel t ((cs.drop o).take (Tryz.prog.cellsOf t))=xs[i]?):∃n:Nat,v=.int .u64 n∧n<18446744073709551616:=by
  rw [hc,hv,List.take_succ_cons,List.take_zero,List.getElem?_eq_getElem hi] at h;obtain ⟨n,hn,_,hw⟩:=DataW.trod_int ht h;simp only [List.cons.injEq,and_true] at hn
  obtain ⟨m,rfl,hm⟩:=u64_of_wf hw;exact ⟨m,hn,hm⟩
theorem key_reads {fuel:Nat} {cs:List Value} {x:DataW H × List MemPlace} (h:DataW.trod enc Tryz.prog w base spare held fuel 95 cs=some x) :
 ∃p:Ky,p.ok∧cs=keyC p:=by
 obtain ⟨xs,n,_,_,hl,hx,hf⟩:=DataW.trod_struct Tryz.underlying95 h;rw [cl_key] at hl
 replace hx:xs.length=2:=hx
 match cs,hl with
 | [a0,a1],_ =>
   obtain ⟨n0,rfl,k0⟩:=field_u64 Tryz.underlying93 cl_u64 (i:=0) (by omega) (o:=0) rfl (hf 0 _ rfl);obtain ⟨n1,rfl,k1⟩:=field_u64 Tryz.underlying93 cl_u64 (i:=1) (by omega) (o:=1) rfl (hf 1 _ rfl);exact ⟨(n0,n1),⟨k0,k1⟩,rfl⟩
end
end
section
open Go.RowKit Go.Lib
section
variable {α:Type} {t e:TypeId} {n bytes:Nat} {z:Value} {f:α→List Value}
def SRow (f:α→List Value) (e:TypeId) (n:Nat) (w:World) (v:Value) (l:List α) (fp:List Nat):Prop:=OwnL f e n 0 w v l∧fp=v.ownBlock.toList
theorem SRow.form {w:World} {v:Value} {l:List α} {fp:List Nat} (h:SRow f e n w v l fp):∃A c,v=.slice A l.length c:=h.1.form
theorem SRow.row (E:EltOf t e n bytes z f) {w:World} {v:Value} {l:List α} {fp:List Nat} (h:SRow f e n w v l fp):RowIn n f w v l:=h.1.row E
theorem SRow.kept {w w':World} {v:Value} {l:List α} {fp:List Nat} (h:SRow f e n w v l fp) (hb:∀r∈fp,w'.heap[r]?=w.heap[r]?):SRow f e n w' v l fp:=by
 obtain ⟨h,rfl⟩:=h;exact ⟨h.kept (fun r hr=>hb r (by rw [hr];simp)),rfl⟩
theorem SRow.lt {w:World} {v:Value} {l:List α} {fp:List Nat} (h:SRow f e n w v l fp):∀r∈fp,r<w.heap.size:=by
 obtain ⟨h,rfl⟩:=h;intro r hr;have:v.ownBlock=some r:=by simpa using hr
 exact (h.lt this).2
theorem SRow.below {w w':World} {v:Value} {l:List α} {fp:List Nat} (h:SRow f e n w v l fp) (hb:jB w w'):SRow f e n w' v l fp:=h.kept (fun r hr=>hb.block r (h.lt r hr))
theorem SRow.nil (w:World):SRow f e n w (.slice none 0 0) ([]:List α) []:=⟨OwnL.nil _ _,rfl⟩
theorem SRow.of (w:World) {v:Value} {l:List α} {base:Nat} (h:OwnL f e n base w v l):SRow f e n w v l v.ownBlock.toList:=⟨h.lower (Nat.zero_le _),rfl⟩
end
structure Upd (w w':World) (fp fp':List Nat):Prop where
 os:w'.os=w.os
 tape:w'.tape=w.tape
 output:w'.output=w.output
 size:w.heap.size≤w'.heap.size
 block:∀k,k<w.heap.size→k∉fp→w'.heap[k]?=w.heap[k]?
 fresh:∀k∈fp',k∈fp∨w.heap.size≤k
theorem Upd.refl (w:World) (fp:List Nat):Upd w w fp fp:=⟨rfl,rfl,rfl,Nat.le_refl _,fun _ _ _=>rfl,fun _ h=>.inl h⟩
theorem Upd.trans {w a b:World} {fp fq fr:List Nat} (h:Upd w a fp fq) (k:Upd a b fq fr):Upd w b fp fr :=
 ⟨k.os.trans h.os,k.tape.trans h.tape,k.output.trans h.output,Nat.le_trans h.size k.size,
   fun i hi hn=>(k.block i (Nat.lt_of_lt_of_le hi h.size) (fun hq=>(h.fresh i hq).elim hn (fun h'=>by omega))).trans (h.block i hi hn),
   fun i hi=>(k.fresh i hi).elim (h.fresh i) (fun h'=>.inr (Nat.le_trans h.size h'))⟩
theorem Upd.of_below {w w':World} (h:jB w w') (fp:List Nat):Upd w w' fp fp:=⟨h.os,h.tape,h.output,h.size,fun k hk _=>h.block k hk,fun _ h=>.inl h⟩
theorem Upd.below {w w':World} {fp fp':List Nat} {B:Nat} (h:Upd w w' fp fp') (hB:B≤w.heap.size) (hf:∀k∈fp,B≤k):Below B w w' :=
 ⟨h.os,h.tape,h.output,h.size,fun k hk=>h.block k (by omega) (fun hk'=>by have:=hf k hk';omega)⟩
theorem Upd.mono {w w':World} {fp fp' fq fq':List Nat} (h:Upd w w' fp fp') (h1:∀k∈fp,k∈fq) (h2:∀k∈fq',k∈fq∨w.heap.size≤k):Upd w w' fq fq' :=
 ⟨h.os,h.tape,h.output,h.size,fun k hk hn=>h.block k hk (fun hk'=>hn (h1 k hk')),h2⟩
def CloneS {α:Type} (f:α→List Value) (e:TypeId) (n:Nat) (w:World) (l:List α) (en:Ending) (w':World):Prop :=
 ∃A c fp,en=.returned (.slice A l.length c)∧SRow f e n w' (.slice A l.length c) l fp∧(∀k∈fp,w.heap.size≤k)∧jB w w'
structure Adv where
 tick:Int
 load:Int
 want:Int
 repl:Int
 why:Int
def adv0:Adv:=⟨0,0,0,0,0⟩
def advC (a:Adv):List Value:=[.int .i64 a.tick,.int .i64 a.load,.int .i64 a.want,.int .i64 a.repl,.int .i64 a.why]
theorem eAdv:EltOf 44 74 5 40 (.agg #[.int .i64 0,.int .i64 0,.int .i64 0,.int .i64 0,.int .i64 0]) advC :=
 ⟨by kernel_rfl,by kernel_rfl,rfl,by decide,by decide,fun _=>rfl,fun x u hu=>by
  simp only [advC,List.mem_cons,List.not_mem_nil,or_false] at hu
  rcases hu with rfl|rfl|rfl|rfl|rfl <;> rfl⟩
theorem cloneS_any (v:Value) (l:List Smp) (w:World) (hv:RowIn 2 smpC w v l) (hl:l.length≤1000000) :
 Calls Tryz.prog 159 #[v] w (CloneS smpC 138 2 w l):=by
 obtain ⟨A,c,rfl⟩:=hv.form
 cases A with
 | none =>
   have h0:l.length=0:=by
    obtain ⟨A1,c1,e1,_,hr⟩:=hv;injection e1 with e1 _ _
    rcases Nat.eq_zero_or_pos l.length with h|h
    · exact h
    · obtain ⟨_,_,hA,_⟩:=hr h;rw [hA] at e1;cases e1
   obtain rfl:l=[]:=List.eq_nil_of_length_eq_zero h0;have hq:∀W,(binOp .eql 43 (.slice none 0 c) (.slice none 0 0)).run Tryz.prog W=.ok (.bool true) W:=fun W=>Lib.run_eql_slice_nil W _ _ none 0 c 0 0 eSmp.ht
   clear hv h0
   go_enter Tryz.func159,Tryz.ntmps159
   go_wp2
   go_ret
   exact ⟨none,0,[],rfl,SRow.nil _,fun k hk=>by simp at hk,jR⟩
 | some ad =>
   have HV:=jH hv;have hq:∀W,(binOp .eql 43 (.slice (some ad) l.length c) (.slice none 0 0)).run Tryz.prog W=.ok (.bool false) W:=fun W=>Lib.run_eql_slice_nil W _ _ (some ad) l.length c 0 0 eSmp.ht
   clear hv
   go_enter Tryz.func159,Tryz.ntmps159
   go_wp2_with (at_builtin;refine wpList_appendL eSmp (by rfl) (s:=.tmp 5) (x:=.tmp 6) (by rfl) w.heap.size [] l _ _ (by rfl) (by rfl) (OwnL.lit0 _ w _ _ rfl (Nat.le_refl _)) (HV.out.below (balloc jR _)) (by simp;omega) (by simp) ?_;intro out A2 c2 w2 hout hown hg _;have HOUT:=jH hout;have HO:=jH hown;have HG:=jH hg;clear hout hown hg)
   go_ret
   have e1:out=l:=by rw [HOUT.out];rfl
   subst e1;exact ⟨A2,c2,_,rfl,SRow.of _ HO.out,fun k hk=>(HO.out.lt (by simpa using hk)).1,(balloc jR _).trans (grown_below HG.out (by simp) (fun r hr=>by have hr':some w.heap.size=some r:=hr;injection hr';omega))⟩
theorem cloneA_any (v:Value) (l:List Adv) (w:World) (hv:RowIn 5 advC w v l) (hl:l.length≤1000000) :
 Calls Tryz.prog 193 #[v] w (CloneS advC 74 5 w l):=by
 obtain ⟨A,c,rfl⟩:=hv.form
 cases A with
 | none =>
   have h0:l.length=0:=by
    obtain ⟨A1,c1,e1,_,hr⟩:=hv;injection e1 with e1 _ _
    rcases Nat.eq_zero_or_pos l.length with h|h
    · exact h
    · obtain ⟨_,_,hA,_⟩:=hr h;rw [hA] at e1;cases e1
   obtain rfl:l=[]:=List.eq_nil_of_length_eq_zero h0;have hq:∀W,(binOp .eql 44 (.slice none 0 c) (.slice none 0 0)).run Tryz.prog W=.ok (.bool true) W:=fun W=>Lib.run_eql_slice_nil W _ _ none 0 c 0 0 eAdv.ht
   clear hv h0
   go_enter Tryz.func193,Tryz.ntmps193
   go_wp2
   go_ret
   exact ⟨none,0,[],rfl,SRow.nil _,fun k hk=>by simp at hk,jR⟩
 | some ad =>
   have HV:=jH hv;have hq:∀W,(binOp .eql 44 (.slice (some ad) l.length c) (.slice none 0 0)).run Tryz.prog W=.ok (.bool false) W:=fun W=>Lib.run_eql_slice_nil W _ _ (some ad) l.length c 0 0 eAdv.ht
   clear hv
   go_enter Tryz.func193,Tryz.ntmps193
   go_wp2_with (at_builtin;refine wpList_appendL eAdv (by rfl) (s:=.tmp 5) (x:=.tmp 6) (by rfl) w.heap.size [] l _ _ (by rfl) (by rfl) (OwnL.lit0 _ w _ _ rfl (Nat.le_refl _)) (HV.out.below (balloc jR _)) (by simp;omega) (by simp) ?_;intro out A2 c2 w2 hout hown hg _;have HOUT:=jH hout;have HO:=jH hown;have HG:=jH hg;clear hout hown hg)
   go_ret
   have e1:out=l:=by rw [HOUT.out];rfl
   subst e1;exact ⟨A2,c2,_,rfl,SRow.of _ HO.out,fun k hk=>(HO.out.lt (by simpa using hk)).1,(balloc jR _).trans (grown_below HG.out (by simp) (fun r hr=>by have hr':some w.heap.size=some r:=hr;injection hr';omega))⟩
end
section
open Go.RowKit Go.Lib
def fromW (til wd:Int):Int:=endsI (endsI (til - wd)+1)
def winC (l:List Smp) (a b:Int):List Smp:=l.filter fun s=>decide (a≤s.1) && decide (s.1≤b)
def valsW (l:List Smp):List Int:=l.map fun s=>max s.2 0
def minL:List Int→Int
  | []=>0
  | n::l=>l.foldl min n
def maxL:List Int→Int
  | []=>0
  | n::l=>l.foldl max n
structure StD where
 cnt:Int
 sum:Int
 least:Int
 most:Int
 mean:Int
def stV (s:StD):Value:=.agg #[.int .i64 s.cnt,.int .i64 s.sum,.int .i64 s.least,.int .i64 s.most,.int .i64 s.mean]
def st0:StD:=⟨0,0,0,0,0⟩
def statN (v:List Int):StD:=if v=[] then st0 else ⟨v.length,sumE v 0,minL v,maxL v,meanN v⟩
def statW (l:List Smp) (til wd:Int):StD:=statN (valsW (winC l (fromW til wd) til))
def smpI (l:List Smp):Prop:=∀s∈l,I64 s.1∧I64 s.2
theorem smpI.cut {l:List Smp} (h:smpI l) (a b:Int):smpI (winC l a b):=fun s hs=>h s (List.mem_filter.1 hs).1
theorem vals_i64 {l:List Smp} (h:smpI l):∀n∈valsW l,0≤n∧n≤9223372036854775807:=fun n hn=>by
 obtain ⟨s,hs,rfl⟩:=List.mem_map.1 hn;have:=(h s hs).2;unfold I64 at this;omega
theorem vals_len (l:List Smp):(valsW l).length=l.length:=by simp [valsW]
theorem cut_len (l:List Smp) (a b:Int):(winC l a b).length≤l.length:=List.length_filter_le _ _
theorem winC_snoc (l:List Smp) (a b:Int) (s:Smp):winC (l++[s]) a b=winC l a b++if a≤s.1∧s.1≤b then [s] else []:=by
 unfold winC;rw [List.filter_append]
 congr 1
 by_cases h1:a≤s.1 <;> by_cases h2:s.1≤b <;> simp [h1,h2]
theorem valsW_snoc (l:List Smp) (s:Smp):valsW (l++[s])=valsW l++[max s.2 0]:=by simp [valsW]
theorem minL_snoc {l:List Int} (h:l≠[]) (n:Int):minL (l++[n])=min (minL l) n:=by
 cases l with
 | nil=>exact absurd rfl h
 | cons a l=>simp [minL,List.foldl_append]
theorem maxL_snoc {l:List Int} (h:l≠[]) (n:Int):maxL (l++[n])=max (maxL l) n:=by
 cases l with
 | nil=>exact absurd rfl h
 | cons a l=>simp [maxL,List.foldl_append]
theorem totN_snoc (l:List Int) (n:Int):totN (l++[n])=totN l+n.toNat:=by rw [totN_append];simp [totN]
def StD.ok (s:StD):Prop:=I64 s.cnt∧I64 s.sum∧I64 s.least∧I64 s.most∧I64 s.mean
theorem ceilI_ok {a b:Int} (h:I64 a):I64 (ceilI a b):=by
 unfold ceilI I64 at *
 split
 · omega
 · rename_i hb
   split
   · have:a.tdiv b = -((-a) / b):=by rw [←Int.neg_neg a,Int.neg_tdiv,Int.tdiv_eq_ediv_of_nonneg (by omega)];simp
     rw [this];have h3:0≤(-a) / b:=Int.ediv_nonneg (by omega) (by omega);have h4:(-a) / b≤-a:=Int.ediv_le_self _ (by omega);omega
   · rw [Int.tdiv_eq_ediv_of_nonneg (by omega)]
     have h3:0≤(a - 1) / b:=Int.ediv_nonneg (by omega) (by omega);have h4:(a - 1) / b≤a - 1:=Int.ediv_le_self _ (by omega);omega
end
section
open Go.RowKit Go.Lib Go.Sort Go.Shelf
def SerIn (w:World) (S:Nat) (l:List Smp) (room:Int) (fp:List Nat):Prop :=
 ∃v fr,w.heap[S]?=some (.cells #[v,.int .i64 room] 292 (0,0))∧SRow smpC 138 2 w v l fr∧S∉fr∧fp=S::fr
theorem SerIn.kept {w w':World} {S:Nat} {l:List Smp} {room:Int} {fp:List Nat} (h:SerIn w S l room fp) (hb:∀r∈fp,w'.heap[r]?=w.heap[r]?):SerIn w' S l room fp:=by
 obtain ⟨v,fr,h1,h2,h3,rfl⟩:=h;exact ⟨v,fr,(hb S (List.mem_cons_self ..)).trans h1,h2.kept (fun r hr=>hb r (List.mem_cons_of_mem _ hr)),h3,rfl⟩
theorem SerIn.lt {w:World} {S:Nat} {l:List Smp} {room:Int} {fp:List Nat} (h:SerIn w S l room fp):∀r∈fp,r<w.heap.size:=by
 obtain ⟨v,fr,h1,h2,h3,rfl⟩:=h;intro r hr
 rcases List.mem_cons.1 hr with rfl|hr
 · exact (jL h1)
 · exact h2.lt r hr
theorem SerIn.below {w w':World} {S:Nat} {l:List Smp} {room:Int} {fp:List Nat} (h:SerIn w S l room fp) (hb:jB w w'):SerIn w' S l room fp:=h.kept (fun r hr=>hb.block r (h.lt r hr))
theorem SerIn.mem {w:World} {S:Nat} {l:List Smp} {room:Int} {fp:List Nat} (h:SerIn w S l room fp):S∈fp:=by
 obtain ⟨_,_,_,_,_,rfl⟩:=h;exact List.mem_cons_self ..
def risingS (l:List Smp):Prop:=l.Pairwise (fun a b=>a.1<b.1)
def placeS (l:List Smp) (t:Int):Nat:=l.countP (fun x=>!decide (t≤x.1))
theorem placeS_le (l:List Smp) (t:Int):placeS l t≤l.length:=List.countP_le_length ..
theorem serPlace_closure (bs bt S g o c n:Nat) (t y:Int) (i:Nat) (W:World) (hi:i<n)
    (h1:W.cell? ⟨bs,0,none⟩=some (.pointer (some ⟨S,0,none⟩))) (h2:W.cell? ⟨bt,0,none⟩=some (.int .i64 t)) (h3:W.cell? ⟨S,0,none⟩=some (.slice (some ⟨g,o,none⟩) n c)) (h4:W.cell? ⟨g,o+i * 2,none⟩=some (.int .i64 y)) :
    Calls Tryz.prog 279 (#[.int .i64 i]++#[.pointer (some ⟨bs,0,none⟩),.pointer (some ⟨bt,0,none⟩)]) W fun e w'=>e=.returned (.bool (decide (t≤y)))∧∃q,w'=W.drewN q:=by
  have hi0:(0:Int)≤(i:Int):=by omega
  have hi1:(i:Int)<(n:Int):=by omega
  go_enter Tryz.func279,Tryz.ntmps279
  go_wp2_with fail
  go_quiet (fail)
  go_wp2
  go_ret
  exact ⟨ret_bool (by first|rfl|simp),_,rfl⟩
theorem two_single (w:World) (x y:Value) (T U:TypeId):∀W,W=(w.alloc (.cells #[x] T)).alloc (.cells #[y] U)→W.heap[w.heap.size]?=some (.cells #[x] T (0,0))∧W.heap[w.heap.size+1]?=some (.cells #[y] U (0,0))∧jB w W∧W.heap.size=w.heap.size+2:=by
 rintro W rfl;exact ⟨box_old _ _ _,box_new _ _ _,balloc (balloc jR _) _,by simp⟩
theorem cell_gd {W:World} {a:Addr} {v:Value} (h:W.cell? a=some v) (hb:a.block<W.heap.size) (m:Nat) (os:Array Obj):(grow (W.drewN m) os).cell? a=some v:=by
 rw [←h];refine World.cell?_of_block ?_;exact Array.getElem?_append_left hb
theorem below_gd (w:World) (q:Nat) (os:Array Obj):jB w (grow (w.drewN q) os):=⟨rfl,rfl,rfl,by simp [grow],fun k hk=>Array.getElem?_append_left hk⟩
theorem serPlace_any (S:Nat) (l:List Smp) (room:Int) (fp:List Nat) (t:Int) (w:World) (h:SerIn w S l room fp) (hr:risingS l) (hl:l.length≤1000000) :
 Calls Tryz.prog 251 #[.pointer (some ⟨S,0,none⟩),.int .i64 t] w (jP w (.int .i64 (placeS l t:Nat))):=by
 obtain ⟨v,fr,hS,hrow,_,_⟩:=h;have hSlt:=(jL hS);obtain ⟨A,c,rfl⟩:=hrow.form;have hR:=hrow.row eSmp;obtain ⟨W,hW⟩:∃W,W=(w.alloc (.cells #[.pointer (some ⟨S,0,none⟩)] 241)).alloc (.cells #[.int .i64 t] 2):=⟨_,rfl⟩;obtain ⟨b1,b2,hbW,hsz⟩:=two_single w _ _ _ _ W hW;have hS1:=(hbW.block S hSlt).trans hS;obtain ⟨k1,k2,k3⟩:=box_cells jR hS1;obtain ⟨k4,k5,k6⟩:=box_cells jR b1;obtain ⟨k7,k8,k9⟩:=box_cells jR b2
 have eg:∀args w,(callFunc 279 args).run Tryz.prog w=.ok (.enter 279 args) w:=enters_of Tryz.func279 (by kernel_rfl) rfl;have hcall:Calls Tryz.prog 278 #[.int .i64 l.length,.func (.func 279) #[] #[.pointer (some ⟨w.heap.size,0,none⟩),.pointer (some ⟨w.heap.size+1,0,none⟩)]] W fun e w'=>e=.returned (.int .i64 (placeS l t:Nat))∧∃q os,w'=grow (W.drewN q) os:=by
  have hS:=Any.sort_Search searchS 279 #[.pointer (some ⟨w.heap.size,0,none⟩),.pointer (some ⟨w.heap.size+1,0,none⟩)] l.length (fun i=>decide (t≤((l.map (·.1)).toArray[i]!))) W eg (by omega)
    (fun m os i hi=>by
      obtain ⟨g,o,rfl,hg,hc⟩:=(hR.below hbW).at_ hi;have hy:(l.map (·.1)).toArray[i]! = l[i].1:=by rw [getElem!_pos _ i (by simpa using hi)];simp
      simp only [hy]
      have:=serPlace_closure w.heap.size (w.heap.size+1) S g o c l.length t l[i].1 i (grow (W.drewN m) os) hi (cell_gd (k4 0) k6 m os) (cell_gd (k7 0) k9 m os) (cell_gd (k1 0) k3 m os) (cell_gd (hc 0 _ rfl) hg m os);exact this.mono fun _ _ ⟨he,q,hq⟩=>⟨he,q,#[],by rw [hq,grow_empty]⟩)
    (fun a b hab hb h=>by
      have ha:a<l.length:=by omega
      have e1:(l.map (·.1)).toArray[a]! = l[a].1:=by rw [getElem!_pos _ a (by simpa using ha)];simp
      have e2:(l.map (·.1)).toArray[b]! = l[b].1:=by rw [getElem!_pos _ b (by simpa using hb)];simp
      simp only [e1,e2,decide_eq_true_eq] at h ⊢
      rcases Nat.lt_or_ge a b with hlt|hge
      · have:=List.pairwise_iff_getElem.1 hr a b ha hb hlt
        omega
      · obtain rfl:a=b:=by omega
        exact h)
  have hlen:l.length=(l.map (·.1)).toArray.size:=by simp
  rw [show (List.range l.length).countP (fun i=>!decide (t≤(l.map (·.1)).toArray[i]!))=placeS l t from by
   rw [hlen,Lib.countP_range (l.map (·.1)).toArray (fun y=>!decide (t≤y))];simp only [placeS,List.countP_map]
   rfl] at hS
  exact hS
 have HC:=jH hcall;have hc0:=k1 0;have hc1:=k4 0;simp only [List.getElem?_toArray,List.getElem?_cons_zero] at hc0 hc1
 clear hcall k1 k4 k7 hS1 hr hrow hR eg
 go_enter Tryz.func251,Tryz.ntmps251
 have q0:w.cell? ⟨S,0,none⟩=some (.slice A l.length c):=by simp only [World.cell?,hS];rfl
 go_wp2_with (go_at_call 278;rw [←hW];refine HC.out.mono ?_;rintro e w1 ⟨rfl,q1,os1,rfl⟩)
 go_ret
 exact ⟨rfl,by rw [←hW];exact bthen hbW (below_gd W _ _)⟩
end
section
open Go.RowKit Go.Lib
def lettersL:List UInt8:=[45,46,48,49,50,51,52,53,54,55,56,57,95,97,98,99,100,101,102,103,104,105,106,107,108,109,110,111,112,113,114,115,116,117,118,119,120,121,122]
theorem letters_code:∀i,i<39→codeB (lettersL.getD i 0)=i+1:=by decide
theorem place_none (c:UInt8) (h:∀j,j<39→lettersL.getD j 0≠c):codeB c=0:=by
 rcases Nat.eq_zero_or_pos (codeB c) with h0|h0
 · exact h0
 · have hle:=codeB_le c
   have e:=letters_code (codeB c - 1) (by omega);refine absurd ?_ (h (codeB c - 1) (by omega));have hok:okB (lettersL.getD (codeB c - 1) 0)=true:=by rw [okB,decide_eq_true_eq];omega
   exact codeB_inj _ _ hok (by omega)
def lettersS:ByteArray:=⟨lettersL.toArray⟩
theorem lettersS_get (k:Nat) (h:k<lettersS.size):lettersS[k]=lettersL.getD k 0:=by
 have h':k<lettersL.length:=h;simp only [List.getD,List.getElem?_eq_getElem h',Option.getD_some]
 rfl
theorem place_any (c:UInt8) (w:World) :
 Calls Tryz.prog 142 #[.int .u8 (c.toNat:Nat)] w fun e w'=>e=.returned (.int .u64 (codeB c:Nat))∧w=w':=by
 go_enter Tryz.func142,Tryz.ntmps142
 go_wp2
 go_loop [3] (fun i=>∃k:Nat,k≤39∧i=.int .i64 k∧∀j,j<k→lettersL.getD j 0≠c) (fun i=>39 - (intOf i).toNat)
 case atStart=>exact ⟨0,by omega,rfl,fun j hj=>absurd hj (by omega)⟩
 case round =>
  obtain ⟨k,hk,rfl,hno⟩:=hrel
  by_cases hlt:k<39
  · have Hno:=jH hno
    have hsz:k<lettersS.size:=hlt;clear hno;go_wp2
    · have hq:(((lettersS[k].toNat:Nat):Int) == ((c.toNat:Nat):Int))=true:=by assumption
      have hq':lettersS[k]=c:=UInt8.toNat_inj.1 (Int.ofNat.inj (beq_iff_eq.1 hq));rw [lettersS_get k hsz] at hq';go_ret
      refine ⟨ret_int ?_,rfl⟩;rw [←hq',letters_code k hlt];rfl
    · have hq:(((lettersS[k].toNat:Nat):Int) == ((c.toNat:Nat):Int))=false:=by assumption
      have hq':lettersS[k]≠c:=fun e=>by
       have:=beq_eq_false_iff_ne.1 hq;exact this (congrArg (fun b:UInt8=>((b.toNat:Nat):Int)) e)
      rw [lettersS_get k hsz] at hq'
      go_round
      case rel =>
       refine ⟨k+1,by omega,by go_num,fun j hj=>?_⟩
       rcases Nat.lt_or_ge j k with h|h
       · exact Hno.out j h
       · obtain rfl:j=k:=by omega
         exact hq'
      case measure=>simp [intOf];omega
  · obtain rfl:k=39:=by omega
    have h0:=place_none c hno;clear hno;go_wp2
    go_ret
    exact ⟨rfl,rfl⟩
theorem id_any (s:ByteArray) (w:World) (hm:s.size≤maxLen) :
 Calls Tryz.prog 100 #[.string s] w fun e w'=>e=.returned (.bool (idS s))∧w=w':=by
 unfold maxLen at hm
 by_cases h1:s.size<1
 · rw [idS_len s (.inl h1)]
   go_enter Tryz.func100,Tryz.ntmps100
   go_wp2
   go_ret
   exact ⟨rfl,rfl⟩
 · by_cases h2:20<s.size
   · rw [idS_len s (.inr h2)]
     go_enter Tryz.func100,Tryz.ntmps100
     go_wp2
     go_ret
     exact ⟨rfl,rfl⟩
   · go_enter Tryz.func100,Tryz.ntmps100
     go_wp2
     go_loop [3] (fun i=>∃k:Nat,k≤s.size∧i=.int .i64 k∧OkTo s k) (fun i=>s.size - (intOf i).toNat)
     case atStart=>exact ⟨0,Nat.zero_le _,rfl,okTo_zero s⟩
     case round =>
      obtain ⟨k,hk,rfl,hok⟩:=hrel
      by_cases hlt:k<s.size
      · cases hb:okB s[k] with
        | true =>
          have hok':=okTo_succ s k hok hlt hb;have hc:((codeB s[k]:Int) == 0)=false:=by simpa [okB] using hb
          have Hok':=jH hok';clear hb hok hok'
          go_wp2_with (go_at_call 142;refine (place_any _ _).mono ?_;rintro e w' ⟨rfl,rfl⟩)
          go_round
          case rel=>exact ⟨k+1,hlt,by go_num,Hok'.out⟩
          case measure=>simp [intOf];omega
        | false =>
          have hf:=idS_bad s k hlt hb;have hc:((codeB s[k]:Int) == 0)=true:=by simpa [okB] using hb
          have Hf:=jH hf;clear hb hok hf
          go_wp2_with (go_at_call 142;refine (place_any _ _).mono ?_;rintro e w' ⟨rfl,rfl⟩)
          go_ret
          rw [Hf.out];exact ⟨rfl,rfl⟩
      · obtain rfl:k=s.size:=by omega
        have hf:=idS_all s (by omega) (by omega) hok;have Hf:=jH hf;clear hf hok;go_wp2
        go_ret
        rw [Hf.out];exact ⟨rfl,rfl⟩
def keyS (s:ByteArray):Value:=keyV (hiN s.data.toList) (loN s.data.toList)
theorem keyN_lt9 (l:List UInt8) (a n:Nat) (h:n≤9):keyN l a n<18014398509481984 :=
 Nat.lt_of_lt_of_le (keyN_lt l a n) (Nat.pow_le_pow_right (n:=64) (j:=9) (by decide) h)
theorem refKey_any (s:ByteArray) (w:World) (hm:s.size≤maxLen) (hid:idS s=true) :
 Calls Tryz.prog 132 #[.string s] w (jP w (keyS s)):=by
 have Hid:=jH hid;unfold keyS keyV;unfold maxLen at hm;obtain ⟨hs1,hs2,_⟩:=idS_okTo s hid;clear hid
 go_enter Tryz.func132,Tryz.ntmps132
 go_wp2_with (go_at_call 100;refine (id_any _ _ hm).mono ?_;rw [Hid.out];rintro e w' ⟨rfl,rfl⟩)
 go_loopw [4,5] (fun i _ w'=>∃k:Nat,k≤20∧i=.int .i64 k∧w'=(w.alloc (.cells #[.int .u64 0,.int .u64 0] 95)).alloc (.cells #[.int .u64 (keyN s.data.toList 0 (min k 10):Nat),.int .u64 (keyN s.data.toList 10 (k - 10):Nat)] 95)) (fun i _ _=>20 - (intOf i).toNat)
 case atStart=>exact ⟨0,by omega,rfl,rfl⟩
 case round =>
  obtain ⟨k,hk,rfl,rfl⟩:=hrel
  by_cases hlt:k<20
  · have d1:=dig_le s.data.toList k
    have hgd:∀h:k<s.size,dig s.data.toList k=codeB (s[k]'h):=fun h=>by rw [dig_at _ _ (by simpa using h)];rfl
    by_cases h10:k<10
    · have hst:keyN s.data.toList 0 (min (k+1) 10)=keyN s.data.toList 0 (min k 10) * 64+dig s.data.toList k:=by
       rw [Nat.min_eq_left (by omega),Nat.min_eq_left (by omega),keyN,Nat.zero_add]
      have n3:=keyN_lt9 s.data.toList 0 (min k 10) (by omega);have e2:k - 10=k+1 - 10:=by omega
      have E2:=jH e2;clear e2
      by_cases hin:k<s.size
      · rw [hgd hin] at hst d1
        have Hst:=jH hst;clear hst hgd
        go_wp2_with (go_at_call 142;refine (place_any _ _).mono ?_;rintro e w' ⟨rfl,rfl⟩)
        go_roundw
        case rel =>
         refine ⟨k+1,by omega,by go_num,?_⟩;rw [Hst.out,E2.out];simp
        case measure=>simp [intOf];omega
      · have hd0:dig s.data.toList k=0:=dig_out _ _ (by simp;omega)
        rw [hd0] at hst;have Hst:=jH hst;clear hst hd0 hgd;go_wp2
        go_roundw
        case rel =>
         refine ⟨k+1,by omega,by go_num,?_⟩;rw [Hst.out,E2.out];simp
        case measure=>simp [intOf];omega
    · have hst:keyN s.data.toList 10 (k+1 - 10)=keyN s.data.toList 10 (k - 10) * 64+dig s.data.toList k:=by
       rw [show k+1 - 10=(k - 10)+1 by omega,keyN,show 10+(k - 10)=k by omega]
      have n3:=keyN_lt9 s.data.toList 10 (k - 10) (by omega);have e2:min k 10=min (k+1) 10:=by omega
      have E2:=jH e2;clear e2
      by_cases hin:k<s.size
      · rw [hgd hin] at hst d1
        have Hst:=jH hst;clear hst hgd
        go_wp2_with (go_at_call 142;refine (place_any _ _).mono ?_;rintro e w' ⟨rfl,rfl⟩)
        go_roundw
        case rel =>
         refine ⟨k+1,by omega,by go_num,?_⟩;rw [Hst.out,E2.out];simp
        case measure=>simp [intOf];omega
      · have hd0:dig s.data.toList k=0:=dig_out _ _ (by simp;omega)
        rw [hd0] at hst;have Hst:=jH hst;clear hst hd0 hgd;go_wp2
        go_roundw
        case rel =>
         refine ⟨k+1,by omega,by go_num,?_⟩;rw [Hst.out,E2.out];simp
        case measure=>simp [intOf];omega
  · obtain rfl:k=20:=by omega
    go_wp2
    exact bodyPost_ret (v:=.agg #[.int .u64 (hiN s.data.toList:Nat),.int .u64 (loN s.data.toList:Nat)]) (by simp [results,Tryz.results132,go_sem];exact ⟨rfl,rfl⟩) rfl
      ⟨rfl,(jR.alloc (Nat.le_refl _) _).alloc (by simp) _⟩
def beforeL:List UInt8→List UInt8→Bool
  | a::l,b::m=>if a=b then beforeL l m else decide (a.toNat<b.toNat)
  | [],_::_=>true
  | _,[]=>false
theorem beforeL_cons (a:UInt8) (l m:List UInt8):beforeL (a::l) (a::m)=beforeL l m:=by simp [beforeL]
theorem beforeL_drop (l m:List UInt8):∀k,k≤l.length→k≤m.length→(∀j,j<k→l[j]?=m[j]?)→beforeL l m=beforeL (l.drop k) (m.drop k):=by
 intro k
 induction k generalizing l m with
 | zero=>intros;rfl
 | succ k ih =>
   intro h1 h2 h
   match l,m,h1,h2 with
   | a::l,b::m,h1,h2 =>
     have h0:=h 0 (by omega);simp at h0
     subst h0;rw [beforeL_cons,List.drop_succ_cons,List.drop_succ_cons];exact ih l m (by simpa using h1) (by simpa using h2) (fun j hj=>by simpa using h (j+1) (by omega))
def beforeS (s t:ByteArray):Bool:=beforeL s.data.toList t.data.toList
def SameTo (s t:ByteArray) (k:Nat):Prop:=∀j,j<k→s.data.toList[j]?=t.data.toList[j]?
theorem sameTo_succ {s t:ByteArray} {k:Nat} (h:SameTo s t k) (h1:k<s.size) (h2:k<t.size) (e:s[k]=t[k]):SameTo s t (k+1):=by
 intro j hj
 rcases Nat.lt_or_ge j k with hl|hl
 · exact h j hl
 · obtain rfl:j=k:=by omega
   rw [List.getElem?_eq_getElem (by simpa using h1),List.getElem?_eq_getElem (by simpa using h2)];exact congrArg some e
theorem before_at {s t:ByteArray} {k:Nat} (h:SameTo s t k) (h1:k<s.size) (h2:k<t.size) (e:s[k]≠t[k]):beforeS s t=decide ((s[k]).toNat<(t[k]).toNat):=by
 have h1':k<s.data.toList.length:=by simpa using h1
 have h2':k<t.data.toList.length:=by simpa using h2
 unfold beforeS;rw [beforeL_drop _ _ k (by omega) (by omega) h,List.drop_eq_getElem_cons h1',List.drop_eq_getElem_cons h2',beforeL];exact if_neg e
theorem before_end {s t:ByteArray} {k:Nat} (h:SameTo s t k) (h1:k≤s.size) (h2:k≤t.size) (e:k=s.size∨k=t.size):beforeS s t=decide (s.size<t.size):=by
 have h1':s.data.toList.length=s.size:=by simp
 have h2':t.data.toList.length=t.size:=by simp
 unfold beforeS;rw [beforeL_drop _ _ k (by omega) (by omega) h]
 rcases e with e|e
 · rw [List.drop_of_length_le (by omega)]
   rcases Nat.lt_or_ge k t.size with hl|hl
   · rw [List.drop_eq_getElem_cons (by omega)]
     simp [beforeL];omega
   · rw [List.drop_of_length_le (by omega)]
     simp [beforeL];omega
 · rw [show t.data.toList.drop k=[] from List.drop_of_length_le (by omega)]
   have hd:decide (s.size<t.size)=false:=by simp;omega
   rw [hd]
   cases s.data.toList.drop k <;> rfl
end
section
open Go.RowKit Go.Lib Go.Sort
def pushL (l:List Adv) (room:Nat) (x:Adv):List Adv:=(if l.length<room then l else l.drop 1)++[x]
end
section
open Go.RowKit Go.Lib Go.Sort
structure Nd where
 pol:Pol
 ruled:Bool
 ver:Nat
 smp:List Smp
 past:List Adv
 frz:Bool
def pol0:Pol:=⟨0,0,0,0,0,0⟩
def nd0:Nd:=⟨pol0,false,0,[],[],false⟩
end
section
open Go.RowKit Go.Lib
theorem keepS {wo a b:World} {n:Nat} {S:World→Prop} {p q r t:Prop} (H:∀W,jB wo W→S W) (h:p∧q∧r∧t∧jB wo a) (k:Below n a b) (e:n=a.heap.size):S b:=by
 subst e;exact H b (bthen h.2.2.2.2 k)
end
section
open Go.RowKit Go.Lib Go.Sort
abbrev NE:=Nat × Nd × List Nat
end
section
open Go.RowKit Go.Lib
abbrev En:=Ky × Nat
end
section
open Go.Shelf
def cloneM_ren:Go.Shelf.Ren:=⟨fun|5=>67|7=>125|n=>n,fun|23=>117|25=>9|3=>50|4=>4|20=>20|n=>n,fun|n=>n⟩
theorem cloneM:Go.Proofs.SlLaysW.n5 Tryz.prog cloneM_ren:={
  mixed:=by kernel_rfl
  f5:=⟨Tryz.f67.name,by decide,Tryz.func67.trans (congrArg some (by kernel_rfl))⟩
  f7:=Tryz.func125.trans (congrArg some (by kernel_rfl))
  t4:=Tryz.underlying4
  a4:=Tryz.isAgg4
  z4:=Tryz.sizeOf4
  v4:=Tryz.zeroValue4
  t20:=Tryz.underlying20
  a20:=Tryz.isAgg20
  z20:=Tryz.sizeOf20
  v20:=Tryz.zeroValue20
  t23:=Tryz.underlying117
  a23:=Tryz.isAgg117
  z23:=Tryz.sizeOf117
  v23:=Tryz.zeroValue117 }
end
section
open Go.RowKit Go.Lib
theorem before_quiet (s t:ByteArray) (w:World) (hs:s.size≤maxLen) (ht:t.size≤maxLen) :
 Calls Tryz.prog 74 #[.string s,.string t] w fun e w'=>e=.returned (.bool (beforeS s t))∧∃n,w'=w.drewN n:=by
 unfold maxLen at hs ht
 go_enter Tryz.func74,Tryz.ntmps74
 go_wp2
 go_loopw [5] (fun i w'=>∃k n:Nat,k≤s.size∧k≤t.size∧i=.int .i64 k∧SameTo s t k∧w'=w.drewN n) (fun i _=>s.size - (intOf i).toNat)
 case atStart=>exact ⟨0,0,by omega,by omega,rfl,fun j hj=>absurd hj (by omega),rfl⟩
 case round =>
  obtain ⟨k,n,hk1,hk2,rfl,hsame,rfl⟩:=hrel
  by_cases hlt1:k<s.size
  · by_cases hlt2:k<t.size
    · by_cases he:s[k]=t[k]
      · have hsame':=sameTo_succ hsame hlt1 hlt2 he
        have Hs:=jH hsame';have hq:(((s[k].toNat:Nat):Int) != ((t[k].toNat:Nat):Int))=false:=by rw [he];simp
        clear hsame hsame' he;go_wp2
        go_quiet (fail)
        go_wp2
        go_roundw
        case rel=>exact ⟨k+1,n+nq,by omega,by omega,by go_num,Hs.out,rfl⟩
        case measure=>simp [intOf];omega
      · have hf:=before_at hsame hlt1 hlt2 he
        have Hf:=jH hf;have hq:(((s[k].toNat:Nat):Int) != ((t[k].toNat:Nat):Int))=true:=by
         rw [bne_iff_ne];intro h;exact he (UInt8.toNat_inj.1 (Int.ofNat.inj h))
        clear hsame hf he;go_wp2
        go_quiet (fail)
        go_wp2
        go_quiet (fail)
        go_wp2
        go_ret
        rw [Hf.out];refine ⟨?_,⟨_,by (try simp only [World.drewN_drewN]);rfl⟩⟩;simp
    · have hf:=before_end hsame hk1 hk2 (.inr (by omega))
      have Hf:=jH hf;clear hsame hf;go_wp2
      go_ret
      rw [Hf.out];refine ⟨?_,⟨_,by (try simp only [World.drewN_drewN]);rfl⟩⟩;simp
  · have hf:=before_end hsame hk1 hk2 (.inl (by omega))
    have Hf:=jH hf;clear hsame hf;go_wp2
    go_ret
    rw [Hf.out];refine ⟨?_,⟨_,by (try simp only [World.drewN_drewN]);rfl⟩⟩;simp
end
end Go.Proofs.YtpmfcpdelkchaaaGreat
