/- Part 10 of the proof: QRefQ, Sat, WinP, ShSearch, Series, Fnv. -/
import Derived.Test.YtkcdhaallnhhmaaGreatP07
namespace Go.Proofs.YtkcdhaallnhhmaaGreat
set_option linter.unusedSimpArgs false
set_option linter.unusedVariables false
set_option linter.unusedSectionVars false
set_option maxRecDepth 100000
set_option maxHeartbeats 16000000
section
open Go.RowKit Go.Lib
theorem setCell_block {w:World} {B i:Nat} {cs:Array Value} {T:TypeId} {fr:Nat × Nat} {v:Value} (h:w.heap[B]?=some (.cells cs T fr)):(w.setCell ⟨B,i,none⟩ v).heap[B]?=some (.cells (cs.setIfInBounds i v) T fr):=by
 obtain ⟨hlt,hk⟩:=Array.getElem?_eq_some_iff.1 h
 show (w.heap.modify B _)[B]?=_
 rw [Array.getElem?_eq_getElem (by rw [Array.size_modify];exact hlt),Array.getElem_modify_self,hk];simp
end
section
open Go.RowKit Go.Lib
def endsI (n:Int):Int:=if 9223372036854775807<n then 9223372036854775807 else if n < -9223372036854775808 then -9223372036854775808 else n
theorem endsI_i64 (n:Int):I64 (endsI n):=by
 unfold endsI I64
 split
 · omega
 · split <;> omega
def sumE:List Int→Int→Int
  | [],a=>a
  | n::l,a=>sumE l (endsI (a+n))
theorem sumE_i64:∀(l:List Int) (a:Int),I64 a→I64 (sumE l a)
  | [],a,h=>h
  | n::l,a,h=>sumE_i64 l _ (endsI_i64 _)
theorem sumE_snoc:∀(l:List Int) (a n:Int),sumE (l++[n]) a=endsI (sumE l a+n)
  | [],a,n=>rfl
  | m::l,a,n=>sumE_snoc l _ n
def nmC (n:Int):List Value:=[.int .i64 n]
theorem i64_0:I64 0:=by unfold I64;omega
theorem satAdd_any (a b:Int) (w:World) (ha:I64 a) (hb:I64 b) :
 Calls Tryz.prog 202 #[.int .i64 a,.int .i64 b] w fun e w'=>e=.returned (.int .i64 (endsI (a+b)))∧w=w':=by
 obtain ⟨a1,a2⟩:=ha;obtain ⟨b1,b2⟩:=hb
 go_enter Tryz.func202,Tryz.ntmps202
 go_wp2
 all_goals
   go_ret
   refine ⟨ret_int ?_,rfl⟩
   (try unfold wrap64 at *)
   unfold endsI
   repeat' split
   all_goals omega
theorem satBit_any (b:Bool) (w:World) :
 Calls Tryz.prog 228 #[.bool b] w fun e w'=>e=.returned (.int .i64 (if b=true then 1 else 0))∧w=w':=by
 cases b
 all_goals
   go_enter Tryz.func228,Tryz.ntmps228
   go_wp2
   go_ret
   exact ⟨rfl,rfl⟩
theorem sub_ends {a b:Int} (ha:I64 a) (hb:I64 b) (h:b≠-9223372036854775808):endsI (a+IntKind.i64.wrap (-b))=endsI (a - b):=by
 unfold I64 at ha hb;rw [IntKind.wrap_i64]
 congr 1
 omega
theorem sub_end {a:Int} (ha:I64 a) (q:Bool) (hq:q=decide (a<0)):endsI (endsI (a+9223372036854775807)+if q=true then 1 else 0)=endsI (a - -9223372036854775808):=by
 subst hq;unfold I64 at ha
 by_cases h:a<0
 · simp only [h,decide_true,if_true]
   unfold endsI
   repeat' split
   all_goals omega
 · simp only [h,decide_false]
   unfold endsI;simp only [Bool.false_eq_true,if_false]
   repeat' split
   all_goals omega
end
section
open Go.RowKit Go.Lib
def fromW (til wd:Int):Int:=endsI (endsI (til - wd)+1)
def winC (l:List Smp) (a b:Int):List Smp:=l.filter fun s=>decide (a≤s.1) && decide (s.1≤b)
def valsW (l:List Smp):List Int:=l.map fun s=>max s.2 0
def minL:List Int→Int
  | []=>0
  | n::l=>l.foldl min n
def maxL:List Int→Int
  | []=>0
  | n::l=>l.foldl max n
structure StD where
 cnt:Int
 sum:Int
 least:Int
 most:Int
 mean:Int
def stV (s:StD):Value:=.agg #[.int .i64 s.cnt,.int .i64 s.sum,.int .i64 s.least,.int .i64 s.most,.int .i64 s.mean]
def st0:StD:=⟨0,0,0,0,0⟩
def statN (v:List Int):StD:=if v=[] then st0 else ⟨v.length,sumE v 0,minL v,maxL v,meanN v⟩
def statW (l:List Smp) (til wd:Int):StD:=statN (valsW (winC l (fromW til wd) til))
def smpI (l:List Smp):Prop:=∀s∈l,I64 s.1∧I64 s.2
theorem smpI.cut {l:List Smp} (h:smpI l) (a b:Int):smpI (winC l a b):=fun s hs=>h s (List.mem_filter.1 hs).1
theorem vals_i64 {l:List Smp} (h:smpI l):∀n∈valsW l,0≤n∧n≤9223372036854775807:=fun n hn=>by
 obtain ⟨s,hs,rfl⟩:=List.mem_map.1 hn;have:=(h s hs).2;unfold I64 at this;omega
theorem vals_len (l:List Smp):(valsW l).length=l.length:=by simp [valsW]
theorem cut_len (l:List Smp) (a b:Int):(winC l a b).length≤l.length:=List.length_filter_le _ _
theorem winC_snoc (l:List Smp) (a b:Int) (s:Smp):winC (l++[s]) a b=winC l a b++if a≤s.1∧s.1≤b then [s] else []:=by
 unfold winC;rw [List.filter_append]
 congr 1
 by_cases h1:a≤s.1 <;> by_cases h2:s.1≤b <;> simp [h1,h2]
theorem valsW_snoc (l:List Smp) (s:Smp):valsW (l++[s])=valsW l++[max s.2 0]:=by simp [valsW]
theorem minL_snoc {l:List Int} (h:l≠[]) (n:Int):minL (l++[n])=min (minL l) n:=by
 cases l with
 | nil=>exact absurd rfl h
 | cons a l=>simp [minL,List.foldl_append]
theorem maxL_snoc {l:List Int} (h:l≠[]) (n:Int):maxL (l++[n])=max (maxL l) n:=by
 cases l with
 | nil=>exact absurd rfl h
 | cons a l=>simp [maxL,List.foldl_append]
theorem totN_snoc (l:List Int) (n:Int):totN (l++[n])=totN l+n.toNat:=by rw [totN_append];simp [totN]
def StD.ok (s:StD):Prop:=I64 s.cnt∧I64 s.sum∧I64 s.least∧I64 s.most∧I64 s.mean
end
section
open Go.Shelf
def searchS_ren:Go.Shelf.Ren:=⟨fun|16=>220|n=>n,fun|3=>3|35=>150|4=>4|38=>171|n=>n,fun|n=>n⟩
theorem searchS:Go.Proofs.SlLaysO.n16 Tryz.prog searchS_ren:={
  mixed:=by kernel_rfl
  f16:=Tryz.func220.trans (congrArg some (by kernel_rfl))
  t3:=Tryz.underlying3
  a3:=Tryz.isAgg3
  z3:=Tryz.sizeOf3
  v3:=Tryz.zeroValue3
  t4:=Tryz.underlying4
  a4:=Tryz.isAgg4
  z4:=Tryz.sizeOf4
  v4:=Tryz.zeroValue4
  t35:=Tryz.underlying150
  a35:=Tryz.isAgg150
  z35:=Tryz.sizeOf150
  v35:=Tryz.zeroValue150
  t38:=Tryz.underlying171
  a38:=Tryz.isAgg171
  z38:=Tryz.sizeOf171
  v38:=Tryz.zeroValue171 }
end
section
open Go.RowKit Go.Lib Go.Sort Go.Shelf
def SerIn (w:World) (S:Nat) (l:List Smp) (room:Int) (fp:List Nat):Prop :=
 ∃v fr,w.heap[S]?=some (.cells #[v,.int .i64 room] 251 (0,0))∧SRow smpC 118 2 w v l fr∧S∉fr∧fp=S::fr
theorem SerIn.kept {w w':World} {S:Nat} {l:List Smp} {room:Int} {fp:List Nat} (h:SerIn w S l room fp) (hb:∀r∈fp,w'.heap[r]?=w.heap[r]?):SerIn w' S l room fp:=by
 obtain ⟨v,fr,h1,h2,h3,rfl⟩:=h;exact ⟨v,fr,(hb S (List.mem_cons_self ..)).trans h1,h2.kept (fun r hr=>hb r (List.mem_cons_of_mem _ hr)),h3,rfl⟩
theorem SerIn.lt {w:World} {S:Nat} {l:List Smp} {room:Int} {fp:List Nat} (h:SerIn w S l room fp):∀r∈fp,r<w.heap.size:=by
 obtain ⟨v,fr,h1,h2,h3,rfl⟩:=h;intro r hr
 rcases List.mem_cons.1 hr with rfl|hr
 · exact (jL h1)
 · exact h2.lt r hr
theorem SerIn.below {w w':World} {S:Nat} {l:List Smp} {room:Int} {fp:List Nat} (h:SerIn w S l room fp) (hb:jB w w'):SerIn w' S l room fp:=h.kept (fun r hr=>hb.block r (h.lt r hr))
def risingS (l:List Smp):Prop:=l.Pairwise (fun a b=>a.1<b.1)
def placeS (l:List Smp) (t:Int):Nat:=l.countP (fun x=>!decide (t≤x.1))
theorem placeS_le (l:List Smp) (t:Int):placeS l t≤l.length:=List.countP_le_length ..
theorem serPlace_closure (bs bt S g o c n:Nat) (t y:Int) (i:Nat) (W:World) (hi:i<n)
    (h1:W.cell? ⟨bs,0,none⟩=some (.pointer (some ⟨S,0,none⟩))) (h2:W.cell? ⟨bt,0,none⟩=some (.int .i64 t)) (h3:W.cell? ⟨S,0,none⟩=some (.slice (some ⟨g,o,none⟩) n c)) (h4:W.cell? ⟨g,o+i * 2,none⟩=some (.int .i64 y)) :
    Calls Tryz.prog 221 (#[.int .i64 i]++#[.pointer (some ⟨bs,0,none⟩),.pointer (some ⟨bt,0,none⟩)]) W fun e w'=>e=.returned (.bool (decide (t≤y)))∧∃q,w'=W.drewN q:=by
  have hi0:(0:Int)≤(i:Int):=by omega
  have hi1:(i:Int)<(n:Int):=by omega
  go_enter Tryz.func221,Tryz.ntmps221
  go_wp2_with fail
  go_quiet (fail)
  go_wp2
  go_ret
  exact ⟨ret_bool (by first|rfl|simp),_,rfl⟩
theorem two_single (w:World) (x y:Value) (T U:TypeId):∀W,W=(w.alloc (.cells #[x] T)).alloc (.cells #[y] U)→W.heap[w.heap.size]?=some (.cells #[x] T (0,0))∧W.heap[w.heap.size+1]?=some (.cells #[y] U (0,0))∧jB w W∧W.heap.size=w.heap.size+2:=by
 rintro W rfl;exact ⟨box_old _ _ _,box_new _ _ _,balloc (balloc jR _) _,by simp⟩
theorem cell_gd {W:World} {a:Addr} {v:Value} (h:W.cell? a=some v) (hb:a.block<W.heap.size) (m:Nat) (os:Array Obj):(grow (W.drewN m) os).cell? a=some v:=by
 rw [←h];refine World.cell?_of_block ?_;exact Array.getElem?_append_left hb
theorem below_gd (w:World) (q:Nat) (os:Array Obj):jB w (grow (w.drewN q) os):=⟨rfl,rfl,rfl,by simp [grow],fun k hk=>Array.getElem?_append_left hk⟩
theorem serPlace_any (S:Nat) (l:List Smp) (room:Int) (fp:List Nat) (t:Int) (w:World) (h:SerIn w S l room fp) (hr:risingS l) (hl:l.length≤1000000) :
 Calls Tryz.prog 194 #[.pointer (some ⟨S,0,none⟩),.int .i64 t] w (jP w (.int .i64 (placeS l t:Nat))):=by
 obtain ⟨v,fr,hS,hrow,_,_⟩:=h;have hSlt:=(jL hS);obtain ⟨A,c,rfl⟩:=hrow.form;have hR:=hrow.row eSmp;obtain ⟨W,hW⟩:∃W,W=(w.alloc (.cells #[.pointer (some ⟨S,0,none⟩)] 191)).alloc (.cells #[.int .i64 t] 2):=⟨_,rfl⟩;obtain ⟨b1,b2,hbW,hsz⟩:=two_single w _ _ _ _ W hW;have hS1:=(hbW.block S hSlt).trans hS;obtain ⟨k1,k2,k3⟩:=box_cells jR hS1;obtain ⟨k4,k5,k6⟩:=box_cells jR b1;obtain ⟨k7,k8,k9⟩:=box_cells jR b2
 have eg:∀args w,(callFunc 221 args).run Tryz.prog w=.ok (.enter 221 args) w:=enters_of Tryz.func221 (by kernel_rfl) rfl;have hcall:Calls Tryz.prog 220 #[.int .i64 l.length,.func (.func 221) #[] #[.pointer (some ⟨w.heap.size,0,none⟩),.pointer (some ⟨w.heap.size+1,0,none⟩)]] W fun e w'=>e=.returned (.int .i64 (placeS l t:Nat))∧∃q os,w'=grow (W.drewN q) os:=by
  have hS:=Any.sort_Search searchS 221 #[.pointer (some ⟨w.heap.size,0,none⟩),.pointer (some ⟨w.heap.size+1,0,none⟩)] l.length (fun i=>decide (t≤((l.map (·.1)).toArray[i]!))) W eg (by omega)
    (fun m os i hi=>by
      obtain ⟨g,o,rfl,hg,hc⟩:=(hR.below hbW).at_ hi;have hy:(l.map (·.1)).toArray[i]! = l[i].1:=by rw [getElem!_pos _ i (by simpa using hi)];simp
      simp only [hy]
      have:=serPlace_closure w.heap.size (w.heap.size+1) S g o c l.length t l[i].1 i (grow (W.drewN m) os) hi (cell_gd (k4 0) k6 m os) (cell_gd (k7 0) k9 m os) (cell_gd (k1 0) k3 m os) (cell_gd (hc 0 _ rfl) hg m os);exact this.mono fun _ _ ⟨he,q,hq⟩=>⟨he,q,#[],by rw [hq,grow_empty]⟩)
    (fun a b hab hb h=>by
      have ha:a<l.length:=by omega
      have e1:(l.map (·.1)).toArray[a]! = l[a].1:=by rw [getElem!_pos _ a (by simpa using ha)];simp
      have e2:(l.map (·.1)).toArray[b]! = l[b].1:=by rw [getElem!_pos _ b (by simpa using hb)];simp
      simp only [e1,e2,decide_eq_true_eq] at h ⊢
      rcases Nat.lt_or_ge a b with hlt|hge
      · have:=List.pairwise_iff_getElem.1 hr a b ha hb hlt
        omega
      · obtain rfl:a=b:=by omega
        exact h)
  have hlen:l.length=(l.map (·.1)).toArray.size:=by simp
  rw [show (List.range l.length).countP (fun i=>!decide (t≤(l.map (·.1)).toArray[i]!))=placeS l t from by
   rw [hlen,Lib.countP_range (l.map (·.1)).toArray (fun y=>!decide (t≤y))];simp only [placeS,List.countP_map]
   rfl] at hS
  exact hS
 have HC:=jH hcall;have hc0:=k1 0;have hc1:=k4 0;simp only [List.getElem?_toArray,List.getElem?_cons_zero] at hc0 hc1
 clear hcall k1 k4 k7 hS1 hr hrow hR eg
 go_enter Tryz.func194,Tryz.ntmps194
 have q0:w.cell? ⟨S,0,none⟩=some (.slice A l.length c):=by simp only [World.cell?,hS];rfl
 go_wp2_with (go_at_call 220;rw [←hW];refine HC.out.mono ?_;rintro e w1 ⟨rfl,q1,os1,rfl⟩)
 go_ret
 exact ⟨rfl,by rw [←hW];exact bthen hbW (below_gd W _ _)⟩
end
section
open Go.RowKit Go.Lib
def prime64:Nat:=1099511628211
def basis64:Nat:=14695981039346656037
def stepH (h b:Nat):Nat:=(h ^^^ b) * prime64 % 18446744073709551616
def sumL (l:List UInt8):Nat:=l.foldl (fun h b=>stepH h b.toNat) basis64
theorem stepH_lt (h b:Nat):stepH h b<18446744073709551616:=Nat.mod_lt _ (by decide)
theorem foldl_lt (l:List UInt8) (h:Nat) (hh:h<18446744073709551616):l.foldl (fun h b=>stepH h b.toNat) h<18446744073709551616:=by
 induction l generalizing h with
 | nil=>exact hh
 | cons a l ih=>exact ih _ (stepH_lt _ _)
theorem basis_lt:basis64<18446744073709551616:=by unfold basis64;omega
theorem sumL_lt (l:List UInt8):sumL l<18446744073709551616:=by
 unfold sumL;exact foldl_lt l basis64 basis_lt
theorem sumL_snoc (l:List UInt8) (b:UInt8):sumL (l++[b])=stepH (sumL l) b.toNat:=by
 unfold sumL;rw [List.foldl_append,List.foldl_cons,List.foldl_nil]
theorem u64_wrap_mod (n:Nat):IntKind.u64.wrap (n:Int)=((n % 18446744073709551616:Nat):Int):=by
 have h:IntKind.u64.wrap (n:Int)=(n:Int) % 18446744073709551616:=by
  simp only [IntKind.wrap,IntKind.signed,IntKind.bits]
  simp
 rw [h];omega
theorem step_walk (h c:Nat) (hh:h<18446744073709551616) (hc:c<256) :
 IntKind.u64.wrap (bits BinOp.xor IntKind.u64 (h:Int) (c:Int) * 1099511628211)=(stepH h c:Nat):=by
 rw [u64_xor_nat h c hh (by omega)];have e:((h ^^^ c:Nat):Int) * 1099511628211=(((h ^^^ c) * prime64:Nat):Int):=by
  rw [Int.natCast_mul];rfl
 rw [e,u64_wrap_mod];rfl
theorem sum64_any (s:ByteArray) (w:World) (hm:s.size≤maxLen) :
 Calls Tryz.prog 234 #[.string s] w fun e w'=>e=.returned (.int .u64 (sumL s.data.toList:Nat))∧w=w':=by
 have hmm:s.size≤9223372036854775807:=hm
 go_enter Tryz.func234,Tryz.ntmps234
 go_wp2
 go_loop [3,4,7] (fun h _ i=>∃k:Nat,k≤s.size∧i=.int .i64 k∧h=.int .u64 (sumL (s.data.toList.take k):Nat)) (fun _ _ i=>s.size - (intOf i).toNat)
 case atStart=>exact ⟨0,Nat.zero_le _,rfl,rfl⟩
 case round =>
  obtain ⟨k,hk,rfl,rfl⟩:=hrel
  by_cases hlt:k<s.size
  · have hsn:sumL (s.data.toList.take (k+1))=stepH (sumL (s.data.toList.take k)) (s[k]).toNat:=by
     rw [List.take_succ_eq_append_getElem (by simpa using hlt),sumL_snoc];rfl
    have hb:=sumL_lt (s.data.toList.take k);generalize sumL (s.data.toList.take k)=h at hsn hb;have hc:(s[k]).toNat<256:=(s[k]).toNat_lt;have hst:=step_walk h _ hb hc;have Hsn:=jH hsn;have Hst:=jH hst;clear hsn hst;go_wp2
    go_round
    case rel=>exact ⟨k+1,hlt,by go_num,by rw [Hsn.out,Hst.out]⟩
    case measure=>simp [intOf];omega
  · obtain rfl:k=s.size:=by omega
    go_wp2
    go_ret
    refine ⟨ret_int ?_,rfl⟩;rw [List.take_of_length_le (by simp)]
end
end Go.Proofs.YtkcdhaallnhhmaaGreat
