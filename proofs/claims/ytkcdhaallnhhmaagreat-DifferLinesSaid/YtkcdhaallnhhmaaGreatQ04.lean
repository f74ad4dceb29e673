/- Part 4 of the proof: QRefQ, Fresh, WinP, ShSearch, Series, NPost, RefRis, Fnv, ISeq. -/
import Derived.ArgAppend
import Derived.Lib.SliceRun
import Derived.Shelf.SlSorted.Search
import Derived.RangeFuncNested
import Derived.RangeFuncBound
import Derived.RangeFuncCalls
import Derived.RangeFuncLeaves
import Derived.Shelf.Abstract
import Derived.Shelf.RegionOpen
import Derived.OwnWalkIn
import Derived.TacticsInMore
import Derived.LoopNIn
import Derived.LoopIn
import Derived.Maps.AppendAt
import Derived.Test.YtkcdhaallnhhmaaGreatQ02
import Derived.Test.YtkcdhaallnhhmaaGreatQ03
namespace Go.Proofs.YtkcdhaallnhhmaaGreat
set_option linter.unusedSimpArgs false
set_option linter.unusedVariables false
set_option linter.unusedSectionVars false
set_option maxRecDepth 100000
set_option maxHeartbeats 16000000
section
open Go.RowKit Go.Lib
theorem setCell_block {w:World} {B i:Nat} {cs:Array Value} {T:TypeId} {fr:Nat × Nat} {v:Value} (h:w.heap[B]?=some (.cells cs T fr)):(w.setCell ⟨B,i,none⟩ v).heap[B]?=some (.cells (cs.setIfInBounds i v) T fr):=by
 obtain ⟨hlt,hk⟩:=Array.getElem?_eq_some_iff.1 h
 show (w.heap.modify B _)[B]?=_
 rw [Array.getElem?_eq_getElem (by rw [Array.size_modify];exact hlt),Array.getElem_modify_self,hk];simp
end
section
open Go.RowKit Go.Lib
section
variable {α:Type} {t e:TypeId} {n bytes:Nat} {z:Value} {f:α→List Value}
def SRow (f:α→List Value) (e:TypeId) (n:Nat) (w:World) (v:Value) (l:List α) (fp:List Nat):Prop:=OwnL f e n 0 w v l∧fp=v.ownBlock.toList
theorem SRow.form {w:World} {v:Value} {l:List α} {fp:List Nat} (h:SRow f e n w v l fp):∃A c,v=.slice A l.length c:=h.1.form
theorem SRow.row (E:EltOf t e n bytes z f) {w:World} {v:Value} {l:List α} {fp:List Nat} (h:SRow f e n w v l fp):RowIn n f w v l:=h.1.row E
theorem SRow.kept {w w':World} {v:Value} {l:List α} {fp:List Nat} (h:SRow f e n w v l fp) (hb:∀r∈fp,w'.heap[r]?=w.heap[r]?):SRow f e n w' v l fp:=by
 obtain ⟨h,rfl⟩:=h;exact ⟨h.kept (fun r hr=>hb r (by rw [hr];simp)),rfl⟩
theorem SRow.lt {w:World} {v:Value} {l:List α} {fp:List Nat} (h:SRow f e n w v l fp):∀r∈fp,r<w.heap.size:=by
 obtain ⟨h,rfl⟩:=h;intro r hr;have:v.ownBlock=some r:=by simpa using hr
 exact (h.lt this).2
theorem SRow.below {w w':World} {v:Value} {l:List α} {fp:List Nat} (h:SRow f e n w v l fp) (hb:jB w w'):SRow f e n w' v l fp:=h.kept (fun r hr=>hb.block r (h.lt r hr))
theorem SRow.nil (w:World):SRow f e n w (.slice none 0 0) ([]:List α) []:=⟨OwnL.nil _ _,rfl⟩
theorem SRow.of (w:World) {v:Value} {l:List α} {base:Nat} (h:OwnL f e n base w v l):SRow f e n w v l v.ownBlock.toList:=⟨h.lower (Nat.zero_le _),rfl⟩
end
structure Upd (w w':World) (fp fp':List Nat):Prop where
 os:w'.os=w.os
 tape:w'.tape=w.tape
 output:w'.output=w.output
 size:w.heap.size≤w'.heap.size
 block:∀k,k<w.heap.size→k∉fp→w'.heap[k]?=w.heap[k]?
 fresh:∀k∈fp',k∈fp∨w.heap.size≤k
theorem Upd.refl (w:World) (fp:List Nat):Upd w w fp fp:=⟨rfl,rfl,rfl,Nat.le_refl _,fun _ _ _=>rfl,fun _ h=>.inl h⟩
theorem Upd.trans {w a b:World} {fp fq fr:List Nat} (h:Upd w a fp fq) (k:Upd a b fq fr):Upd w b fp fr :=
 ⟨k.os.trans h.os,k.tape.trans h.tape,k.output.trans h.output,Nat.le_trans h.size k.size,
   fun i hi hn=>(k.block i (Nat.lt_of_lt_of_le hi h.size) (fun hq=>(h.fresh i hq).elim hn (fun h'=>by omega))).trans (h.block i hi hn),
   fun i hi=>(k.fresh i hi).elim (h.fresh i) (fun h'=>.inr (Nat.le_trans h.size h'))⟩
theorem Upd.of_below {w w':World} (h:jB w w') (fp:List Nat):Upd w w' fp fp:=⟨h.os,h.tape,h.output,h.size,fun k hk _=>h.block k hk,fun _ h=>.inl h⟩
theorem Upd.below {w w':World} {fp fp':List Nat} {B:Nat} (h:Upd w w' fp fp') (hB:B≤w.heap.size) (hf:∀k∈fp,B≤k):Below B w w' :=
 ⟨h.os,h.tape,h.output,h.size,fun k hk=>h.block k (by omega) (fun hk'=>by have:=hf k hk';omega)⟩
theorem Upd.mono {w w':World} {fp fp' fq fq':List Nat} (h:Upd w w' fp fp') (h1:∀k∈fp,k∈fq) (h2:∀k∈fq',k∈fq∨w.heap.size≤k):Upd w w' fq fq' :=
 ⟨h.os,h.tape,h.output,h.size,fun k hk hn=>h.block k hk (fun hk'=>hn (h1 k hk')),h2⟩
def CloneS {α:Type} (f:α→List Value) (e:TypeId) (n:Nat) (w:World) (l:List α) (en:Ending) (w':World):Prop :=
 ∃A c fp,en=.returned (.slice A l.length c)∧SRow f e n w' (.slice A l.length c) l fp∧(∀k∈fp,w.heap.size≤k)∧jB w w'
structure Adv where
 tick:Int
 load:Int
 want:Int
 repl:Int
 why:Int
def adv0:Adv:=⟨0,0,0,0,0⟩
def advC (a:Adv):List Value:=[.int .i64 a.tick,.int .i64 a.load,.int .i64 a.want,.int .i64 a.repl,.int .i64 a.why]
theorem eAdv:EltOf 44 74 5 40 (.agg #[.int .i64 0,.int .i64 0,.int .i64 0,.int .i64 0,.int .i64 0]) advC :=
 ⟨by kernel_rfl,by kernel_rfl,rfl,by decide,by decide,fun _=>rfl,fun x u hu=>by
  simp only [advC,List.mem_cons,List.not_mem_nil,or_false] at hu
  rcases hu with rfl|rfl|rfl|rfl|rfl <;> rfl⟩
theorem cloneS_any (v:Value) (l:List Smp) (w:World) (hv:RowIn 2 smpC w v l) (hl:l.length≤1000000) :
 Calls Tryz.prog 116 #[v] w (CloneS smpC 118 2 w l):=by
 obtain ⟨A,c,rfl⟩:=hv.form
 cases A with
 | none =>
   have h0:l.length=0:=by
    obtain ⟨A1,c1,e1,_,hr⟩:=hv;injection e1 with e1 _ _
    rcases Nat.eq_zero_or_pos l.length with h|h
    · exact h
    · obtain ⟨_,_,hA,_⟩:=hr h;rw [hA] at e1;cases e1
   obtain rfl:l=[]:=List.eq_nil_of_length_eq_zero h0;have hq:∀W,(binOp .eql 43 (.slice none 0 c) (.slice none 0 0)).run Tryz.prog W=.ok (.bool true) W:=fun W=>Lib.run_eql_slice_nil W _ _ none 0 c 0 0 eSmp.ht
   clear hv h0
   go_enter Tryz.func116,Tryz.ntmps116
   go_wp2
   go_ret
   exact ⟨none,0,[],rfl,SRow.nil _,fun k hk=>by simp at hk,jR⟩
 | some ad =>
   have HV:=jH hv;have hq:∀W,(binOp .eql 43 (.slice (some ad) l.length c) (.slice none 0 0)).run Tryz.prog W=.ok (.bool false) W:=fun W=>Lib.run_eql_slice_nil W _ _ (some ad) l.length c 0 0 eSmp.ht
   clear hv
   go_enter Tryz.func116,Tryz.ntmps116
   go_wp2_with (at_builtin;refine wpList_appendL eSmp (by rfl) (s:=.tmp 5) (x:=.tmp 6) (by rfl) w.heap.size [] l _ _ (by rfl) (by rfl) (OwnL.lit0 _ w _ _ rfl (Nat.le_refl _)) (HV.out.below (balloc jR _)) (by simp;omega) (by simp) ?_;intro out A2 c2 w2 hout hown hg _;have HOUT:=jH hout;have HO:=jH hown;have HG:=jH hg;clear hout hown hg)
   go_ret
   have e1:out=l:=by rw [HOUT.out];rfl
   subst e1;exact ⟨A2,c2,_,rfl,SRow.of _ HO.out,fun k hk=>(HO.out.lt (by simpa using hk)).1,(balloc jR _).trans (grown_below HG.out (by simp) (fun r hr=>by have hr':some w.heap.size=some r:=hr;injection hr';omega))⟩
theorem cloneA_any (v:Value) (l:List Adv) (w:World) (hv:RowIn 5 advC w v l) (hl:l.length≤1000000) :
 Calls Tryz.prog 178 #[v] w (CloneS advC 74 5 w l):=by
 obtain ⟨A,c,rfl⟩:=hv.form
 cases A with
 | none =>
   have h0:l.length=0:=by
    obtain ⟨A1,c1,e1,_,hr⟩:=hv;injection e1 with e1 _ _
    rcases Nat.eq_zero_or_pos l.length with h|h
    · exact h
    · obtain ⟨_,_,hA,_⟩:=hr h;rw [hA] at e1;cases e1
   obtain rfl:l=[]:=List.eq_nil_of_length_eq_zero h0;have hq:∀W,(binOp .eql 44 (.slice none 0 c) (.slice none 0 0)).run Tryz.prog W=.ok (.bool true) W:=fun W=>Lib.run_eql_slice_nil W _ _ none 0 c 0 0 eAdv.ht
   clear hv h0
   go_enter Tryz.func178,Tryz.ntmps178
   go_wp2
   go_ret
   exact ⟨none,0,[],rfl,SRow.nil _,fun k hk=>by simp at hk,jR⟩
 | some ad =>
   have HV:=jH hv;have hq:∀W,(binOp .eql 44 (.slice (some ad) l.length c) (.slice none 0 0)).run Tryz.prog W=.ok (.bool false) W:=fun W=>Lib.run_eql_slice_nil W _ _ (some ad) l.length c 0 0 eAdv.ht
   clear hv
   go_enter Tryz.func178,Tryz.ntmps178
   go_wp2_with (at_builtin;refine wpList_appendL eAdv (by rfl) (s:=.tmp 5) (x:=.tmp 6) (by rfl) w.heap.size [] l _ _ (by rfl) (by rfl) (OwnL.lit0 _ w _ _ rfl (Nat.le_refl _)) (HV.out.below (balloc jR _)) (by simp;omega) (by simp) ?_;intro out A2 c2 w2 hout hown hg _;have HOUT:=jH hout;have HO:=jH hown;have HG:=jH hg;clear hout hown hg)
   go_ret
   have e1:out=l:=by rw [HOUT.out];rfl
   subst e1;exact ⟨A2,c2,_,rfl,SRow.of _ HO.out,fun k hk=>(HO.out.lt (by simpa using hk)).1,(balloc jR _).trans (grown_below HG.out (by simp) (fun r hr=>by have hr':some w.heap.size=some r:=hr;injection hr';omega))⟩
end
section
open Go.RowKit Go.Lib
def fromW (til wd:Int):Int:=endsI (endsI (til - wd)+1)
def winC (l:List Smp) (a b:Int):List Smp:=l.filter fun s=>decide (a≤s.1) && decide (s.1≤b)
def valsW (l:List Smp):List Int:=l.map fun s=>max s.2 0
def minL:List Int→Int
  | []=>0
  | n::l=>l.foldl min n
def maxL:List Int→Int
  | []=>0
  | n::l=>l.foldl max n
structure StD where
 cnt:Int
 sum:Int
 least:Int
 most:Int
 mean:Int
def stV (s:StD):Value:=.agg #[.int .i64 s.cnt,.int .i64 s.sum,.int .i64 s.least,.int .i64 s.most,.int .i64 s.mean]
def st0:StD:=⟨0,0,0,0,0⟩
def statN (v:List Int):StD:=if v=[] then st0 else ⟨v.length,sumE v 0,minL v,maxL v,meanN v⟩
def statW (l:List Smp) (til wd:Int):StD:=statN (valsW (winC l (fromW til wd) til))
def smpI (l:List Smp):Prop:=∀s∈l,I64 s.1∧I64 s.2
theorem smpI.cut {l:List Smp} (h:smpI l) (a b:Int):smpI (winC l a b):=fun s hs=>h s (List.mem_filter.1 hs).1
theorem vals_i64 {l:List Smp} (h:smpI l):∀n∈valsW l,0≤n∧n≤9223372036854775807:=fun n hn=>by
 obtain ⟨s,hs,rfl⟩:=List.mem_map.1 hn;have:=(h s hs).2;unfold I64 at this;omega
theorem vals_len (l:List Smp):(valsW l).length=l.length:=by simp [valsW]
theorem cut_len (l:List Smp) (a b:Int):(winC l a b).length≤l.length:=List.length_filter_le _ _
theorem winC_snoc (l:List Smp) (a b:Int) (s:Smp):winC (l++[s]) a b=winC l a b++if a≤s.1∧s.1≤b then [s] else []:=by
 unfold winC;rw [List.filter_append]
 congr 1
 by_cases h1:a≤s.1 <;> by_cases h2:s.1≤b <;> simp [h1,h2]
theorem valsW_snoc (l:List Smp) (s:Smp):valsW (l++[s])=valsW l++[max s.2 0]:=by simp [valsW]
theorem minL_snoc {l:List Int} (h:l≠[]) (n:Int):minL (l++[n])=min (minL l) n:=by
 cases l with
 | nil=>exact absurd rfl h
 | cons a l=>simp [minL,List.foldl_append]
theorem maxL_snoc {l:List Int} (h:l≠[]) (n:Int):maxL (l++[n])=max (maxL l) n:=by
 cases l with
 | nil=>exact absurd rfl h
 | cons a l=>simp [maxL,List.foldl_append]
theorem totN_snoc (l:List Int) (n:Int):totN (l++[n])=totN l+n.toNat:=by rw [totN_append];simp [totN]
def StD.ok (s:StD):Prop:=I64 s.cnt∧I64 s.sum∧I64 s.least∧I64 s.most∧I64 s.mean
theorem ceilI_ok {a b:Int} (h:I64 a):I64 (ceilI a b):=by
 unfold ceilI I64 at *
 split
 · omega
 · rename_i hb
   split
   · have:a.tdiv b = -((-a) / b):=by rw [←Int.neg_neg a,Int.neg_tdiv,Int.tdiv_eq_ediv_of_nonneg (by omega)];simp
     rw [this];have h3:0≤(-a) / b:=Int.ediv_nonneg (by omega) (by omega);have h4:(-a) / b≤-a:=Int.ediv_le_self _ (by omega);omega
   · rw [Int.tdiv_eq_ediv_of_nonneg (by omega)]
     have h3:0≤(a - 1) / b:=Int.ediv_nonneg (by omega) (by omega);have h4:(a - 1) / b≤a - 1:=Int.ediv_le_self _ (by omega);omega
end
section
open Go.Shelf
def searchS_ren:Go.Shelf.Ren:=⟨fun|16=>220|n=>n,fun|3=>3|35=>150|4=>4|38=>171|n=>n,fun|n=>n⟩
theorem searchS:Go.Proofs.SlLaysO.n16 Tryz.prog searchS_ren:={
  mixed:=by kernel_rfl
  f16:=Tryz.func220.trans (congrArg some (by kernel_rfl))
  t3:=Tryz.underlying3
  a3:=Tryz.isAgg3
  z3:=Tryz.sizeOf3
  v3:=Tryz.zeroValue3
  t4:=Tryz.underlying4
  a4:=Tryz.isAgg4
  z4:=Tryz.sizeOf4
  v4:=Tryz.zeroValue4
  t35:=Tryz.underlying150
  a35:=Tryz.isAgg150
  z35:=Tryz.sizeOf150
  v35:=Tryz.zeroValue150
  t38:=Tryz.underlying171
  a38:=Tryz.isAgg171
  z38:=Tryz.sizeOf171
  v38:=Tryz.zeroValue171 }
end
section
open Go.RowKit Go.Lib Go.Sort Go.Shelf
def SerIn (w:World) (S:Nat) (l:List Smp) (room:Int) (fp:List Nat):Prop :=
 ∃v fr,w.heap[S]?=some (.cells #[v,.int .i64 room] 251 (0,0))∧SRow smpC 118 2 w v l fr∧S∉fr∧fp=S::fr
theorem SerIn.kept {w w':World} {S:Nat} {l:List Smp} {room:Int} {fp:List Nat} (h:SerIn w S l room fp) (hb:∀r∈fp,w'.heap[r]?=w.heap[r]?):SerIn w' S l room fp:=by
 obtain ⟨v,fr,h1,h2,h3,rfl⟩:=h;exact ⟨v,fr,(hb S (List.mem_cons_self ..)).trans h1,h2.kept (fun r hr=>hb r (List.mem_cons_of_mem _ hr)),h3,rfl⟩
theorem SerIn.lt {w:World} {S:Nat} {l:List Smp} {room:Int} {fp:List Nat} (h:SerIn w S l room fp):∀r∈fp,r<w.heap.size:=by
 obtain ⟨v,fr,h1,h2,h3,rfl⟩:=h;intro r hr
 rcases List.mem_cons.1 hr with rfl|hr
 · exact (jL h1)
 · exact h2.lt r hr
theorem SerIn.below {w w':World} {S:Nat} {l:List Smp} {room:Int} {fp:List Nat} (h:SerIn w S l room fp) (hb:jB w w'):SerIn w' S l room fp:=h.kept (fun r hr=>hb.block r (h.lt r hr))
def risingS (l:List Smp):Prop:=l.Pairwise (fun a b=>a.1<b.1)
def placeS (l:List Smp) (t:Int):Nat:=l.countP (fun x=>!decide (t≤x.1))
theorem placeS_le (l:List Smp) (t:Int):placeS l t≤l.length:=List.countP_le_length ..
theorem serPlace_closure (bs bt S g o c n:Nat) (t y:Int) (i:Nat) (W:World) (hi:i<n)
    (h1:W.cell? ⟨bs,0,none⟩=some (.pointer (some ⟨S,0,none⟩))) (h2:W.cell? ⟨bt,0,none⟩=some (.int .i64 t)) (h3:W.cell? ⟨S,0,none⟩=some (.slice (some ⟨g,o,none⟩) n c)) (h4:W.cell? ⟨g,o+i * 2,none⟩=some (.int .i64 y)) :
    Calls Tryz.prog 221 (#[.int .i64 i]++#[.pointer (some ⟨bs,0,none⟩),.pointer (some ⟨bt,0,none⟩)]) W fun e w'=>e=.returned (.bool (decide (t≤y)))∧∃q,w'=W.drewN q:=by
  have hi0:(0:Int)≤(i:Int):=by omega
  have hi1:(i:Int)<(n:Int):=by omega
  go_enter Tryz.func221,Tryz.ntmps221
  go_wp2_with fail
  go_quiet (fail)
  go_wp2
  go_ret
  exact ⟨ret_bool (by first|rfl|simp),_,rfl⟩
theorem two_single (w:World) (x y:Value) (T U:TypeId):∀W,W=(w.alloc (.cells #[x] T)).alloc (.cells #[y] U)→W.heap[w.heap.size]?=some (.cells #[x] T (0,0))∧W.heap[w.heap.size+1]?=some (.cells #[y] U (0,0))∧jB w W∧W.heap.size=w.heap.size+2:=by
 rintro W rfl;exact ⟨box_old _ _ _,box_new _ _ _,balloc (balloc jR _) _,by simp⟩
theorem cell_gd {W:World} {a:Addr} {v:Value} (h:W.cell? a=some v) (hb:a.block<W.heap.size) (m:Nat) (os:Array Obj):(grow (W.drewN m) os).cell? a=some v:=by
 rw [←h];refine World.cell?_of_block ?_;exact Array.getElem?_append_left hb
theorem below_gd (w:World) (q:Nat) (os:Array Obj):jB w (grow (w.drewN q) os):=⟨rfl,rfl,rfl,by simp [grow],fun k hk=>Array.getElem?_append_left hk⟩
theorem serPlace_any (S:Nat) (l:List Smp) (room:Int) (fp:List Nat) (t:Int) (w:World) (h:SerIn w S l room fp) (hr:risingS l) (hl:l.length≤1000000) :
 Calls Tryz.prog 194 #[.pointer (some ⟨S,0,none⟩),.int .i64 t] w (jP w (.int .i64 (placeS l t:Nat))):=by
 obtain ⟨v,fr,hS,hrow,_,_⟩:=h;have hSlt:=(jL hS);obtain ⟨A,c,rfl⟩:=hrow.form;have hR:=hrow.row eSmp;obtain ⟨W,hW⟩:∃W,W=(w.alloc (.cells #[.pointer (some ⟨S,0,none⟩)] 191)).alloc (.cells #[.int .i64 t] 2):=⟨_,rfl⟩;obtain ⟨b1,b2,hbW,hsz⟩:=two_single w _ _ _ _ W hW;have hS1:=(hbW.block S hSlt).trans hS;obtain ⟨k1,k2,k3⟩:=box_cells jR hS1;obtain ⟨k4,k5,k6⟩:=box_cells jR b1;obtain ⟨k7,k8,k9⟩:=box_cells jR b2
 have eg:∀args w,(callFunc 221 args).run Tryz.prog w=.ok (.enter 221 args) w:=enters_of Tryz.func221 (by kernel_rfl) rfl;have hcall:Calls Tryz.prog 220 #[.int .i64 l.length,.func (.func 221) #[] #[.pointer (some ⟨w.heap.size,0,none⟩),.pointer (some ⟨w.heap.size+1,0,none⟩)]] W fun e w'=>e=.returned (.int .i64 (placeS l t:Nat))∧∃q os,w'=grow (W.drewN q) os:=by
  have hS:=Any.sort_Search searchS 221 #[.pointer (some ⟨w.heap.size,0,none⟩),.pointer (some ⟨w.heap.size+1,0,none⟩)] l.length (fun i=>decide (t≤((l.map (·.1)).toArray[i]!))) W eg (by omega)
    (fun m os i hi=>by
      obtain ⟨g,o,rfl,hg,hc⟩:=(hR.below hbW).at_ hi;have hy:(l.map (·.1)).toArray[i]! = l[i].1:=by rw [getElem!_pos _ i (by simpa using hi)];simp
      simp only [hy]
      have:=serPlace_closure w.heap.size (w.heap.size+1) S g o c l.length t l[i].1 i (grow (W.drewN m) os) hi (cell_gd (k4 0) k6 m os) (cell_gd (k7 0) k9 m os) (cell_gd (k1 0) k3 m os) (cell_gd (hc 0 _ rfl) hg m os);exact this.mono fun _ _ ⟨he,q,hq⟩=>⟨he,q,#[],by rw [hq,grow_empty]⟩)
    (fun a b hab hb h=>by
      have ha:a<l.length:=by omega
      have e1:(l.map (·.1)).toArray[a]! = l[a].1:=by rw [getElem!_pos _ a (by simpa using ha)];simp
      have e2:(l.map (·.1)).toArray[b]! = l[b].1:=by rw [getElem!_pos _ b (by simpa using hb)];simp
      simp only [e1,e2,decide_eq_true_eq] at h ⊢
      rcases Nat.lt_or_ge a b with hlt|hge
      · have:=List.pairwise_iff_getElem.1 hr a b ha hb hlt
        omega
      · obtain rfl:a=b:=by omega
        exact h)
  have hlen:l.length=(l.map (·.1)).toArray.size:=by simp
  rw [show (List.range l.length).countP (fun i=>!decide (t≤(l.map (·.1)).toArray[i]!))=placeS l t from by
   rw [hlen,Lib.countP_range (l.map (·.1)).toArray (fun y=>!decide (t≤y))];simp only [placeS,List.countP_map]
   rfl] at hS
  exact hS
 have HC:=jH hcall;have hc0:=k1 0;have hc1:=k4 0;simp only [List.getElem?_toArray,List.getElem?_cons_zero] at hc0 hc1
 clear hcall k1 k4 k7 hS1 hr hrow hR eg
 go_enter Tryz.func194,Tryz.ntmps194
 have q0:w.cell? ⟨S,0,none⟩=some (.slice A l.length c):=by simp only [World.cell?,hS];rfl
 go_wp2_with (go_at_call 220;rw [←hW];refine HC.out.mono ?_;rintro e w1 ⟨rfl,q1,os1,rfl⟩)
 go_ret
 exact ⟨rfl,by rw [←hW];exact bthen hbW (below_gd W _ _)⟩
end
section
theorem post_named {P:Program} {f:Func} {Q:Ending→World→Prop} {e:Exit} {a:Act} {w:World} (h:∀W,W=w→bodyPost P f Q e a W):bodyPost P f Q e a w:=h w rfl
theorem then_named {K:Act→World→Prop} {Q:Exit→Act→World→Prop} {a:Act} {w:World} (h:∀W,W=w→Exit.then K Q Exit.normal a W):Exit.then K Q Exit.normal a w:=h w rfl
end
section
open Go.RowKit Go.Lib
theorem keepS {wo a b:World} {n:Nat} {S:World→Prop} {p q r t:Prop} (H:∀W,jB wo W→S W) (h:p∧q∧r∧t∧jB wo a) (k:Below n a b) (e:n=a.heap.size):S b:=by
 subst e;exact H b (bthen h.2.2.2.2 k)
end
section
open Go.RowKit Go.Lib
def prime64:Nat:=1099511628211
def basis64:Nat:=14695981039346656037
def stepH (h b:Nat):Nat:=(h ^^^ b) * prime64 % 18446744073709551616
def sumL (l:List UInt8):Nat:=l.foldl (fun h b=>stepH h b.toNat) basis64
theorem stepH_lt (h b:Nat):stepH h b<18446744073709551616:=Nat.mod_lt _ (by decide)
theorem foldl_lt (l:List UInt8) (h:Nat) (hh:h<18446744073709551616):l.foldl (fun h b=>stepH h b.toNat) h<18446744073709551616:=by
 induction l generalizing h with
 | nil=>exact hh
 | cons a l ih=>exact ih _ (stepH_lt _ _)
theorem basis_lt:basis64<18446744073709551616:=by unfold basis64;omega
theorem sumL_lt (l:List UInt8):sumL l<18446744073709551616:=by
 unfold sumL;exact foldl_lt l basis64 basis_lt
theorem sumL_snoc (l:List UInt8) (b:UInt8):sumL (l++[b])=stepH (sumL l) b.toNat:=by
 unfold sumL;rw [List.foldl_append,List.foldl_cons,List.foldl_nil]
theorem u64_wrap_mod (n:Nat):IntKind.u64.wrap (n:Int)=((n % 18446744073709551616:Nat):Int):=by
 have h:IntKind.u64.wrap (n:Int)=(n:Int) % 18446744073709551616:=by
  simp only [IntKind.wrap,IntKind.signed,IntKind.bits]
  simp
 rw [h];omega
theorem step_walk (h c:Nat) (hh:h<18446744073709551616) (hc:c<256) :
 IntKind.u64.wrap (bits BinOp.xor IntKind.u64 (h:Int) (c:Int) * 1099511628211)=(stepH h c:Nat):=by
 rw [u64_xor_nat h c hh (by omega)];have e:((h ^^^ c:Nat):Int) * 1099511628211=(((h ^^^ c) * prime64:Nat):Int):=by
  rw [Int.natCast_mul];rfl
 rw [e,u64_wrap_mod];rfl
theorem sum64_any (s:ByteArray) (w:World) (hm:s.size≤maxLen) :
 Calls Tryz.prog 234 #[.string s] w fun e w'=>e=.returned (.int .u64 (sumL s.data.toList:Nat))∧w=w':=by
 have hmm:s.size≤9223372036854775807:=hm
 go_enter Tryz.func234,Tryz.ntmps234
 go_wp2
 go_loop [3,4,7] (fun h _ i=>∃k:Nat,k≤s.size∧i=.int .i64 k∧h=.int .u64 (sumL (s.data.toList.take k):Nat)) (fun _ _ i=>s.size - (intOf i).toNat)
 case atStart=>exact ⟨0,Nat.zero_le _,rfl,rfl⟩
 case round =>
  obtain ⟨k,hk,rfl,rfl⟩:=hrel
  by_cases hlt:k<s.size
  · have hsn:sumL (s.data.toList.take (k+1))=stepH (sumL (s.data.toList.take k)) (s[k]).toNat:=by
     rw [List.take_succ_eq_append_getElem (by simpa using hlt),sumL_snoc];rfl
    have hb:=sumL_lt (s.data.toList.take k);generalize sumL (s.data.toList.take k)=h at hsn hb;have hc:(s[k]).toNat<256:=(s[k]).toNat_lt;have hst:=step_walk h _ hb hc;have Hsn:=jH hsn;have Hst:=jH hst;clear hsn hst;go_wp2
    go_round
    case rel=>exact ⟨k+1,hlt,by go_num,by rw [Hsn.out,Hst.out]⟩
    case measure=>simp [intOf];omega
  · obtain rfl:k=s.size:=by omega
    go_wp2
    go_ret
    refine ⟨ret_int ?_,rfl⟩;rw [List.take_of_length_le (by simp)]
end
section
open Go.RowKit Go.Lib Go.Shelf
attribute [local go_sem] Oper.semAt_some
end
end Go.Proofs.YtkcdhaallnhhmaaGreat
