/- Part 4 of the proof: NumP, KeysRead, QState, QRef, Fresh, ShSearch, Series, Node, Fnv, WideP, WinM. -/
import Derived.ArgAppend
import Derived.Lib.SliceRun
import Derived.Shelf.SlSorted.Search
import Derived.Lib.MinMax
import Derived.Deep.DeepCutAuto
import Derived.Test.YtkcdhaallnhhmaaGreatL02
import Derived.Test.YtkcdhaallnhhmaaGreatL03
namespace Go.Proofs.YtkcdhaallnhhmaaGreat
set_option linter.unusedSimpArgs false
set_option linter.unusedVariables false
set_option linter.unusedSectionVars false
set_option maxRecDepth 100000
set_option maxHeartbeats 16000000
section
open Go.RowKit Go.Lib
theorem bit_nat (n i:Nat):(n.testBit i).toNat=n / 2 ^ i % 2:=by
 rw [Nat.testBit_eq_decide_div_mod_eq];have h:=Nat.mod_two_eq_zero_or_one (n / 2 ^ i)
 rcases h with h|h <;> simp [h]
def carN (a b i:Nat):Nat:=(a % 2 ^ i+b % 2 ^ i) / 2 ^ i
theorem carN_zero (a b:Nat):carN a b 0=0:=by simp [carN,Nat.mod_one]
theorem carN_le (a b i:Nat):carN a b i≤1:=by
 unfold carN;have hp:0<2 ^ i:=Nat.two_pow_pos i;have h1:=Nat.mod_lt a hp;have h2:=Nat.mod_lt b hp;have:(a % 2 ^ i+b % 2 ^ i) / 2 ^ i<2:=(Nat.div_lt_iff_lt_mul hp).2 (by omega);omega
theorem carN_succ (a b i:Nat):carN a b (i+1)=(carN a b i+(a.testBit i).toNat+(b.testBit i).toNat) / 2:=by
 unfold carN;rw [Nat.pow_succ,Nat.mod_mul,Nat.mod_mul,←bit_nat,←bit_nat];have hp:0<2 ^ i:=Nat.two_pow_pos i;generalize (a.testBit i).toNat=x;generalize (b.testBit i).toNat=y;rw [←Nat.div_div_eq_div_mul]
 congr 1
 have:a % 2 ^ i+2 ^ i * x+(b % 2 ^ i+2 ^ i * y)=(a % 2 ^ i+b % 2 ^ i)+2 ^ i * (x+y):=by
  rw [Nat.mul_add];omega
 rw [this,Nat.add_mul_div_left _ _ hp];omega
theorem sum_bit (a b i:Nat):(a+b).testBit i=decide ((carN a b i+(a.testBit i).toNat+(b.testBit i).toNat) % 2=1):=by
 rw [Nat.testBit_eq_decide_div_mod_eq,bit_nat,bit_nat];unfold carN;have hp:0<2 ^ i:=Nat.two_pow_pos i;have ha:=Nat.div_add_mod a (2 ^ i);have hb:=Nat.div_add_mod b (2 ^ i);have:(a+b) / 2 ^ i=(a % 2 ^ i+b % 2 ^ i) / 2 ^ i+(a / 2 ^ i+b / 2 ^ i):=by
  have e:a+b=(a % 2 ^ i+b % 2 ^ i)+2 ^ i * (a / 2 ^ i+b / 2 ^ i):=by rw [Nat.mul_add];omega
  rw [e,Nat.add_mul_div_left _ _ hp]
 rw [this]
 congr 1
 apply propext
 omega
theorem carN_end (a b i:Nat) (ha:a<2 ^ i) (hb:b<2 ^ i):carN a b i=(a+b) / 2 ^ i:=by
 unfold carN;rw [Nat.mod_eq_of_lt ha,Nat.mod_eq_of_lt hb]
def bitsL (f:Nat→Bool):List Value:=(List.range 128).map fun j=>Value.bool (f j)
def numV (n:Nat):Value:=.agg (bitsL n.testBit).toArray
theorem bitsL_len (f:Nat→Bool):(bitsL f).length=128:=by simp [bitsL]
theorem bitsL_get (f:Nat→Bool) (j:Nat) (h:j<128):(bitsL f)[j]?=some (.bool (f j)):=by
 simp [bitsL,List.getElem?_map,List.getElem?_range h]
def updB (f:Nat→Bool) (i:Nat) (b:Bool):Nat→Bool:=fun j=>if j=i then b else f j
theorem bitsL_set (f:Nat→Bool) (i:Nat) (b:Bool) (h:i<128):(bitsL f).set i (.bool b)=bitsL (updB f i b):=by
 apply List.ext_getElem?
 intro j
 by_cases hj:j<128
 · rw [List.getElem?_set,bitsL_len,bitsL_get _ _ hj,bitsL_get _ _ hj]
   unfold updB
   by_cases e:i=j
   · subst e;simp [h]
   · rw [if_neg e,if_neg (fun q=>e q.symm)]
 · rw [List.getElem?_eq_none (by simp [bitsL];omega),List.getElem?_eq_none (by simp [bitsL];omega)]
theorem bitsL_ext {f g:Nat→Bool} (h:∀j,j<128→f j=g j):bitsL f=bitsL g:=by
 unfold bitsL
 apply List.map_congr_left
 intro j hj;rw [h j (List.mem_range.1 hj)]
theorem top_bit (n i:Nat):n / 2 ^ i=2 * (n / 2 ^ (i+1))+(n.testBit i).toNat:=by
 rw [bit_nat,Nat.pow_succ,←Nat.div_div_eq_div_mul];omega
def cmpN (a b:Nat):Int:=if a=b then 0 else if a<b then -1 else 1
theorem cmpN_bit {a b i:Nat} (h:a / 2 ^ (i+1)=b / 2 ^ (i+1)) (hd:a.testBit i≠b.testBit i):cmpN a b=if a.testBit i=true then 1 else -1:=by
 have ha:=top_bit a i;have hb:=top_bit b i;unfold cmpN
 cases hx:a.testBit i <;> cases hy:b.testBit i
 · rw [hx,hy] at hd;exact absurd rfl hd
 · rw [hx] at ha;rw [hy] at hb
   have hlt:a / 2 ^ i<b / 2 ^ i:=by simp at ha hb;omega
   have:a<b:=Nat.lt_of_not_le (fun q=>by have:=Nat.div_le_div_right (c:=2 ^ i) q;omega);rw [if_neg (by omega),if_pos this];rfl
 · rw [hx] at ha;rw [hy] at hb
   have hlt:b / 2 ^ i<a / 2 ^ i:=by simp at ha hb;omega
   have:b<a:=Nat.lt_of_not_le (fun q=>by have:=Nat.div_le_div_right (c:=2 ^ i) q;omega);rw [if_neg (by omega),if_neg (by omega)];rfl
 · rw [hx,hy] at hd;exact absurd rfl hd
theorem cmpN_next {a b i:Nat} (h:a / 2 ^ (i+1)=b / 2 ^ (i+1)) (hd:a.testBit i=b.testBit i):a / 2 ^ i=b / 2 ^ i:=by
 rw [top_bit a i,top_bit b i,h,hd]
def totN:List Int→Nat
  | []=>0
  | n::l=>n.toNat+totN l
theorem totN_append:∀a b:List Int,totN (a++b)=totN a+totN b
  | [],b=>by simp [totN]
  | n::a,b=>by simp [totN,totN_append a b];omega
theorem totN_le {l:List Int} (h:∀n∈l,n≤9223372036854775807):totN l≤l.length * 9223372036854775807:=by
 induction l with
 | nil=>simp [totN]
 | cons n l ih =>
   have h1:=h n (by simp);have h2:=ih (fun m hm=>h m (by simp [hm]));simp only [totN,List.length_cons]
   omega
def meanN (l:List Int):Nat:=if l=[] then 0 else (totN l+(l.length - 1)) / l.length
theorem meanN_le {l:List Int} (h:∀n∈l,n≤9223372036854775807):meanN l≤9223372036854775807:=by
 unfold meanN
 split
 · omega
 · rename_i hne
   have hp:0<l.length:=List.length_pos_iff.2 hne;have:=totN_le h
   apply Nat.le_of_lt_succ
   rw [Nat.div_lt_iff_lt_mul hp];rw [Nat.mul_comm] at this;generalize l.length=n at *;have e:(9223372036854775807+1) * n=9223372036854775807 * n+n:=by omega
   rw [e];omega
end
section
open Go.RowKit Go.Lib Go.ChangeShapes Go.WideShapes Go.Joins
theorem cl_key:Tryz.prog.cellsOf 130=2:=by kernel_rfl
theorem cl_u64:Tryz.prog.cellsOf 128=1:=by kernel_rfl
theorem u64_of_wf {n:Int} (h:(Lit.int .u64 n).wf=true):∃m:Nat,n=m∧m<18446744073709551616:=by
 have:0≤n∧n≤18446744073709551615:=by simpa [Lit.wf,IntKind.min,IntKind.max,IntKind.signed,IntKind.bits] using h
 exact ⟨n.toNat,by omega,by omega⟩
def keyC (p:Ky):List Value:=[.int .u64 p.1,.int .u64 p.2]
section
variable {H:Type} {enc:TypeId × Value→H} {w:World} {base:Nat} {spare:Nat→Bool} {held:Bool}
theorem field_u64 {fuel:Nat} {t:TypeId} (ht:Tryz.prog.underlying t=some (.int .u64)) (hc:Tryz.prog.cellsOf t=1) {cs:List Value} {xs:List (DataW H × List MemPlace)} {i o:Nat} (hi:i<xs.length) {v:Value} (hv:cs.drop o=v::cs.drop (o+1))
    (h:DataW.trod enc Tryz.prog w base spare held fuel t ((cs.drop o).take (Tryz.prog.cellsOf t))=xs[i]?):∃n:Nat,v=.int .u64 n∧n<18446744073709551616:=by
  rw [hc,hv,List.take_succ_cons,List.take_zero,List.getElem?_eq_getElem hi] at h;obtain ⟨n,hn,_,hw⟩:=DataW.trod_int ht h;simp only [List.cons.injEq,and_true] at hn
  obtain ⟨m,rfl,hm⟩:=u64_of_wf hw;exact ⟨m,hn,hm⟩
theorem key_reads {fuel:Nat} {cs:List Value} {x:DataW H × List MemPlace} (h:DataW.trod enc Tryz.prog w base spare held fuel 130 cs=some x) :
 ∃p:Ky,p.ok∧cs=keyC p:=by
 obtain ⟨xs,n,_,_,hl,hx,hf⟩:=DataW.trod_struct Tryz.underlying130 h;rw [cl_key] at hl
 replace hx:xs.length=2:=hx
 match cs,hl with
 | [a0,a1],_ =>
   obtain ⟨n0,rfl,k0⟩:=field_u64 Tryz.underlying128 cl_u64 (i:=0) (by omega) (o:=0) rfl (hf 0 _ rfl);obtain ⟨n1,rfl,k1⟩:=field_u64 Tryz.underlying128 cl_u64 (i:=1) (by omega) (o:=1) rfl (hf 1 _ rfl);exact ⟨(n0,n1),⟨k0,k1⟩,rfl⟩
end
end
section
open Go.RowKit Go.Lib
open Go.ChangeMaps (setBlock)
open Go.Maps (Keyed)
abbrev KO:={ p:Ky // p.ok }
theorem setBlock_other {w:World} {d k:Nat} {o:Obj} (h:k≠d):(setBlock w d o).heap[k]?=w.heap[k]?:=by
 simp [setBlock,Array.getElem?_setIfInBounds,Ne.symm h]
theorem setBlock_size {w:World} {d:Nat} {o:Obj}:(setBlock w d o).heap.size=w.heap.size:=by simp [setBlock]
end
section
open Go.RowKit Go.Lib
theorem box_one (w:World) (x:Ky):∀W,W=w.alloc (.cells #[.int .u64 x.1,.int .u64 x.2] 130)→W.cell? ⟨w.heap.size,0,none⟩=some (.int .u64 x.1)∧W.cell? ⟨w.heap.size,1,none⟩=some (.int .u64 x.2)∧W.heap.size=w.heap.size+1∧jB w W:=by
 rintro W rfl;exact ⟨(startA w _ _).1 0,(startA w _ _).1 1,by simp,balloc jR _⟩
end
section
open Go.RowKit Go.Lib
section
variable {α:Type} {t e:TypeId} {n bytes:Nat} {z:Value} {f:α→List Value}
def SRow (f:α→List Value) (e:TypeId) (n:Nat) (w:World) (v:Value) (l:List α) (fp:List Nat):Prop:=OwnL f e n 0 w v l∧fp=v.ownBlock.toList
theorem SRow.form {w:World} {v:Value} {l:List α} {fp:List Nat} (h:SRow f e n w v l fp):∃A c,v=.slice A l.length c:=h.1.form
theorem SRow.row (E:EltOf t e n bytes z f) {w:World} {v:Value} {l:List α} {fp:List Nat} (h:SRow f e n w v l fp):RowIn n f w v l:=h.1.row E
theorem SRow.kept {w w':World} {v:Value} {l:List α} {fp:List Nat} (h:SRow f e n w v l fp) (hb:∀r∈fp,w'.heap[r]?=w.heap[r]?):SRow f e n w' v l fp:=by
 obtain ⟨h,rfl⟩:=h;exact ⟨h.kept (fun r hr=>hb r (by rw [hr];simp)),rfl⟩
theorem SRow.lt {w:World} {v:Value} {l:List α} {fp:List Nat} (h:SRow f e n w v l fp):∀r∈fp,r<w.heap.size:=by
 obtain ⟨h,rfl⟩:=h;intro r hr;have:v.ownBlock=some r:=by simpa using hr
 exact (h.lt this).2
theorem SRow.below {w w':World} {v:Value} {l:List α} {fp:List Nat} (h:SRow f e n w v l fp) (hb:jB w w'):SRow f e n w' v l fp:=h.kept (fun r hr=>hb.block r (h.lt r hr))
theorem SRow.nil (w:World):SRow f e n w (.slice none 0 0) ([]:List α) []:=⟨OwnL.nil _ _,rfl⟩
theorem SRow.of (w:World) {v:Value} {l:List α} {base:Nat} (h:OwnL f e n base w v l):SRow f e n w v l v.ownBlock.toList:=⟨h.lower (Nat.zero_le _),rfl⟩
end
structure Upd (w w':World) (fp fp':List Nat):Prop where
 os:w'.os=w.os
 tape:w'.tape=w.tape
 output:w'.output=w.output
 size:w.heap.size≤w'.heap.size
 block:∀k,k<w.heap.size→k∉fp→w'.heap[k]?=w.heap[k]?
 fresh:∀k∈fp',k∈fp∨w.heap.size≤k
theorem Upd.refl (w:World) (fp:List Nat):Upd w w fp fp:=⟨rfl,rfl,rfl,Nat.le_refl _,fun _ _ _=>rfl,fun _ h=>.inl h⟩
theorem Upd.trans {w a b:World} {fp fq fr:List Nat} (h:Upd w a fp fq) (k:Upd a b fq fr):Upd w b fp fr :=
 ⟨k.os.trans h.os,k.tape.trans h.tape,k.output.trans h.output,Nat.le_trans h.size k.size,
   fun i hi hn=>(k.block i (Nat.lt_of_lt_of_le hi h.size) (fun hq=>(h.fresh i hq).elim hn (fun h'=>by omega))).trans (h.block i hi hn),
   fun i hi=>(k.fresh i hi).elim (h.fresh i) (fun h'=>.inr (Nat.le_trans h.size h'))⟩
theorem Upd.of_below {w w':World} (h:jB w w') (fp:List Nat):Upd w w' fp fp:=⟨h.os,h.tape,h.output,h.size,fun k hk _=>h.block k hk,fun _ h=>.inl h⟩
theorem Upd.below {w w':World} {fp fp':List Nat} {B:Nat} (h:Upd w w' fp fp') (hB:B≤w.heap.size) (hf:∀k∈fp,B≤k):Below B w w' :=
 ⟨h.os,h.tape,h.output,h.size,fun k hk=>h.block k (by omega) (fun hk'=>by have:=hf k hk';omega)⟩
theorem Upd.mono {w w':World} {fp fp' fq fq':List Nat} (h:Upd w w' fp fp') (h1:∀k∈fp,k∈fq) (h2:∀k∈fq',k∈fq∨w.heap.size≤k):Upd w w' fq fq' :=
 ⟨h.os,h.tape,h.output,h.size,fun k hk hn=>h.block k hk (fun hk'=>hn (h1 k hk')),h2⟩
def CloneS {α:Type} (f:α→List Value) (e:TypeId) (n:Nat) (w:World) (l:List α) (en:Ending) (w':World):Prop :=
 ∃A c fp,en=.returned (.slice A l.length c)∧SRow f e n w' (.slice A l.length c) l fp∧(∀k∈fp,w.heap.size≤k)∧jB w w'
structure Adv where
 tick:Int
 load:Int
 want:Int
 repl:Int
 why:Int
def adv0:Adv:=⟨0,0,0,0,0⟩
def advC (a:Adv):List Value:=[.int .i64 a.tick,.int .i64 a.load,.int .i64 a.want,.int .i64 a.repl,.int .i64 a.why]
theorem eAdv:EltOf 44 74 5 40 (.agg #[.int .i64 0,.int .i64 0,.int .i64 0,.int .i64 0,.int .i64 0]) advC :=
 ⟨by kernel_rfl,by kernel_rfl,rfl,by decide,by decide,fun _=>rfl,fun x u hu=>by
  simp only [advC,List.mem_cons,List.not_mem_nil,or_false] at hu
  rcases hu with rfl|rfl|rfl|rfl|rfl <;> rfl⟩
theorem cloneS_any (v:Value) (l:List Smp) (w:World) (hv:RowIn 2 smpC w v l) (hl:l.length≤1000000) :
 Calls Tryz.prog 116 #[v] w (CloneS smpC 118 2 w l):=by
 obtain ⟨A,c,rfl⟩:=hv.form
 cases A with
 | none =>
   have h0:l.length=0:=by
    obtain ⟨A1,c1,e1,_,hr⟩:=hv;injection e1 with e1 _ _
    rcases Nat.eq_zero_or_pos l.length with h|h
    · exact h
    · obtain ⟨_,_,hA,_⟩:=hr h;rw [hA] at e1;cases e1
   obtain rfl:l=[]:=List.eq_nil_of_length_eq_zero h0;have hq:∀W,(binOp .eql 43 (.slice none 0 c) (.slice none 0 0)).run Tryz.prog W=.ok (.bool true) W:=fun W=>Lib.run_eql_slice_nil W _ _ none 0 c 0 0 eSmp.ht
   clear hv h0
   go_enter Tryz.func116,Tryz.ntmps116
   go_wp2
   go_ret
   exact ⟨none,0,[],rfl,SRow.nil _,fun k hk=>by simp at hk,jR⟩
 | some ad =>
   have HV:=jH hv;have hq:∀W,(binOp .eql 43 (.slice (some ad) l.length c) (.slice none 0 0)).run Tryz.prog W=.ok (.bool false) W:=fun W=>Lib.run_eql_slice_nil W _ _ (some ad) l.length c 0 0 eSmp.ht
   clear hv
   go_enter Tryz.func116,Tryz.ntmps116
   go_wp2_with (at_builtin;refine wpList_appendL eSmp (by rfl) (s:=.tmp 5) (x:=.tmp 6) (by rfl) w.heap.size [] l _ _ (by rfl) (by rfl) (OwnL.lit0 _ w _ _ rfl (Nat.le_refl _)) (HV.out.below (balloc jR _)) (by simp;omega) (by simp) ?_;intro out A2 c2 w2 hout hown hg _;have HOUT:=jH hout;have HO:=jH hown;have HG:=jH hg;clear hout hown hg)
   go_ret
   have e1:out=l:=by rw [HOUT.out];rfl
   subst e1;exact ⟨A2,c2,_,rfl,SRow.of _ HO.out,fun k hk=>(HO.out.lt (by simpa using hk)).1,(balloc jR _).trans (grown_below HG.out (by simp) (fun r hr=>by have hr':some w.heap.size=some r:=hr;injection hr';omega))⟩
theorem cloneA_any (v:Value) (l:List Adv) (w:World) (hv:RowIn 5 advC w v l) (hl:l.length≤1000000) :
 Calls Tryz.prog 178 #[v] w (CloneS advC 74 5 w l):=by
 obtain ⟨A,c,rfl⟩:=hv.form
 cases A with
 | none =>
   have h0:l.length=0:=by
    obtain ⟨A1,c1,e1,_,hr⟩:=hv;injection e1 with e1 _ _
    rcases Nat.eq_zero_or_pos l.length with h|h
    · exact h
    · obtain ⟨_,_,hA,_⟩:=hr h;rw [hA] at e1;cases e1
   obtain rfl:l=[]:=List.eq_nil_of_length_eq_zero h0;have hq:∀W,(binOp .eql 44 (.slice none 0 c) (.slice none 0 0)).run Tryz.prog W=.ok (.bool true) W:=fun W=>Lib.run_eql_slice_nil W _ _ none 0 c 0 0 eAdv.ht
   clear hv h0
   go_enter Tryz.func178,Tryz.ntmps178
   go_wp2
   go_ret
   exact ⟨none,0,[],rfl,SRow.nil _,fun k hk=>by simp at hk,jR⟩
 | some ad =>
   have HV:=jH hv;have hq:∀W,(binOp .eql 44 (.slice (some ad) l.length c) (.slice none 0 0)).run Tryz.prog W=.ok (.bool false) W:=fun W=>Lib.run_eql_slice_nil W _ _ (some ad) l.length c 0 0 eAdv.ht
   clear hv
   go_enter Tryz.func178,Tryz.ntmps178
   go_wp2_with (at_builtin;refine wpList_appendL eAdv (by rfl) (s:=.tmp 5) (x:=.tmp 6) (by rfl) w.heap.size [] l _ _ (by rfl) (by rfl) (OwnL.lit0 _ w _ _ rfl (Nat.le_refl _)) (HV.out.below (balloc jR _)) (by simp;omega) (by simp) ?_;intro out A2 c2 w2 hout hown hg _;have HOUT:=jH hout;have HO:=jH hown;have HG:=jH hg;clear hout hown hg)
   go_ret
   have e1:out=l:=by rw [HOUT.out];rfl
   subst e1;exact ⟨A2,c2,_,rfl,SRow.of _ HO.out,fun k hk=>(HO.out.lt (by simpa using hk)).1,(balloc jR _).trans (grown_below HG.out (by simp) (fun r hr=>by have hr':some w.heap.size=some r:=hr;injection hr';omega))⟩
end
section
open Go.Shelf
def searchS_ren:Go.Shelf.Ren:=⟨fun|16=>220|n=>n,fun|3=>3|35=>150|4=>4|38=>171|n=>n,fun|n=>n⟩
theorem searchS:Go.Proofs.SlLaysO.n16 Tryz.prog searchS_ren:={
  mixed:=by kernel_rfl
  f16:=Tryz.func220.trans (congrArg some (by kernel_rfl))
  t3:=Tryz.underlying3
  a3:=Tryz.isAgg3
  z3:=Tryz.sizeOf3
  v3:=Tryz.zeroValue3
  t4:=Tryz.underlying4
  a4:=Tryz.isAgg4
  z4:=Tryz.sizeOf4
  v4:=Tryz.zeroValue4
  t35:=Tryz.underlying150
  a35:=Tryz.isAgg150
  z35:=Tryz.sizeOf150
  v35:=Tryz.zeroValue150
  t38:=Tryz.underlying171
  a38:=Tryz.isAgg171
  z38:=Tryz.sizeOf171
  v38:=Tryz.zeroValue171 }
end
section
open Go.RowKit Go.Lib Go.Sort Go.Shelf
def SerIn (w:World) (S:Nat) (l:List Smp) (room:Int) (fp:List Nat):Prop :=
 ∃v fr,w.heap[S]?=some (.cells #[v,.int .i64 room] 251 (0,0))∧SRow smpC 118 2 w v l fr∧S∉fr∧fp=S::fr
theorem SerIn.kept {w w':World} {S:Nat} {l:List Smp} {room:Int} {fp:List Nat} (h:SerIn w S l room fp) (hb:∀r∈fp,w'.heap[r]?=w.heap[r]?):SerIn w' S l room fp:=by
 obtain ⟨v,fr,h1,h2,h3,rfl⟩:=h;exact ⟨v,fr,(hb S (List.mem_cons_self ..)).trans h1,h2.kept (fun r hr=>hb r (List.mem_cons_of_mem _ hr)),h3,rfl⟩
theorem SerIn.lt {w:World} {S:Nat} {l:List Smp} {room:Int} {fp:List Nat} (h:SerIn w S l room fp):∀r∈fp,r<w.heap.size:=by
 obtain ⟨v,fr,h1,h2,h3,rfl⟩:=h;intro r hr
 rcases List.mem_cons.1 hr with rfl|hr
 · exact (jL h1)
 · exact h2.lt r hr
theorem SerIn.below {w w':World} {S:Nat} {l:List Smp} {room:Int} {fp:List Nat} (h:SerIn w S l room fp) (hb:jB w w'):SerIn w' S l room fp:=h.kept (fun r hr=>hb.block r (h.lt r hr))
def risingS (l:List Smp):Prop:=l.Pairwise (fun a b=>a.1<b.1)
def placeS (l:List Smp) (t:Int):Nat:=l.countP (fun x=>!decide (t≤x.1))
theorem placeS_le (l:List Smp) (t:Int):placeS l t≤l.length:=List.countP_le_length ..
theorem serPlace_closure (bs bt S g o c n:Nat) (t y:Int) (i:Nat) (W:World) (hi:i<n)
    (h1:W.cell? ⟨bs,0,none⟩=some (.pointer (some ⟨S,0,none⟩))) (h2:W.cell? ⟨bt,0,none⟩=some (.int .i64 t)) (h3:W.cell? ⟨S,0,none⟩=some (.slice (some ⟨g,o,none⟩) n c)) (h4:W.cell? ⟨g,o+i * 2,none⟩=some (.int .i64 y)) :
    Calls Tryz.prog 221 (#[.int .i64 i]++#[.pointer (some ⟨bs,0,none⟩),.pointer (some ⟨bt,0,none⟩)]) W fun e w'=>e=.returned (.bool (decide (t≤y)))∧∃q,w'=W.drewN q:=by
  have hi0:(0:Int)≤(i:Int):=by omega
  have hi1:(i:Int)<(n:Int):=by omega
  go_enter Tryz.func221,Tryz.ntmps221
  go_wp2_with fail
  go_quiet (fail)
  go_wp2
  go_ret
  exact ⟨ret_bool (by first|rfl|simp),_,rfl⟩
theorem two_single (w:World) (x y:Value) (T U:TypeId):∀W,W=(w.alloc (.cells #[x] T)).alloc (.cells #[y] U)→W.heap[w.heap.size]?=some (.cells #[x] T (0,0))∧W.heap[w.heap.size+1]?=some (.cells #[y] U (0,0))∧jB w W∧W.heap.size=w.heap.size+2:=by
 rintro W rfl;exact ⟨box_old _ _ _,box_new _ _ _,balloc (balloc jR _) _,by simp⟩
theorem cell_gd {W:World} {a:Addr} {v:Value} (h:W.cell? a=some v) (hb:a.block<W.heap.size) (m:Nat) (os:Array Obj):(grow (W.drewN m) os).cell? a=some v:=by
 rw [←h];refine World.cell?_of_block ?_;exact Array.getElem?_append_left hb
theorem below_gd (w:World) (q:Nat) (os:Array Obj):jB w (grow (w.drewN q) os):=⟨rfl,rfl,rfl,by simp [grow],fun k hk=>Array.getElem?_append_left hk⟩
theorem serPlace_any (S:Nat) (l:List Smp) (room:Int) (fp:List Nat) (t:Int) (w:World) (h:SerIn w S l room fp) (hr:risingS l) (hl:l.length≤1000000) :
 Calls Tryz.prog 194 #[.pointer (some ⟨S,0,none⟩),.int .i64 t] w (jP w (.int .i64 (placeS l t:Nat))):=by
 obtain ⟨v,fr,hS,hrow,_,_⟩:=h;have hSlt:=(jL hS);obtain ⟨A,c,rfl⟩:=hrow.form;have hR:=hrow.row eSmp;obtain ⟨W,hW⟩:∃W,W=(w.alloc (.cells #[.pointer (some ⟨S,0,none⟩)] 191)).alloc (.cells #[.int .i64 t] 2):=⟨_,rfl⟩;obtain ⟨b1,b2,hbW,hsz⟩:=two_single w _ _ _ _ W hW;have hS1:=(hbW.block S hSlt).trans hS;obtain ⟨k1,k2,k3⟩:=box_cells jR hS1;obtain ⟨k4,k5,k6⟩:=box_cells jR b1;obtain ⟨k7,k8,k9⟩:=box_cells jR b2
 have eg:∀args w,(callFunc 221 args).run Tryz.prog w=.ok (.enter 221 args) w:=enters_of Tryz.func221 (by kernel_rfl) rfl;have hcall:Calls Tryz.prog 220 #[.int .i64 l.length,.func (.func 221) #[] #[.pointer (some ⟨w.heap.size,0,none⟩),.pointer (some ⟨w.heap.size+1,0,none⟩)]] W fun e w'=>e=.returned (.int .i64 (placeS l t:Nat))∧∃q os,w'=grow (W.drewN q) os:=by
  have hS:=Any.sort_Search searchS 221 #[.pointer (some ⟨w.heap.size,0,none⟩),.pointer (some ⟨w.heap.size+1,0,none⟩)] l.length (fun i=>decide (t≤((l.map (·.1)).toArray[i]!))) W eg (by omega)
    (fun m os i hi=>by
      obtain ⟨g,o,rfl,hg,hc⟩:=(hR.below hbW).at_ hi;have hy:(l.map (·.1)).toArray[i]! = l[i].1:=by rw [getElem!_pos _ i (by simpa using hi)];simp
      simp only [hy]
      have:=serPlace_closure w.heap.size (w.heap.size+1) S g o c l.length t l[i].1 i (grow (W.drewN m) os) hi (cell_gd (k4 0) k6 m os) (cell_gd (k7 0) k9 m os) (cell_gd (k1 0) k3 m os) (cell_gd (hc 0 _ rfl) hg m os);exact this.mono fun _ _ ⟨he,q,hq⟩=>⟨he,q,#[],by rw [hq,grow_empty]⟩)
    (fun a b hab hb h=>by
      have ha:a<l.length:=by omega
      have e1:(l.map (·.1)).toArray[a]! = l[a].1:=by rw [getElem!_pos _ a (by simpa using ha)];simp
      have e2:(l.map (·.1)).toArray[b]! = l[b].1:=by rw [getElem!_pos _ b (by simpa using hb)];simp
      simp only [e1,e2,decide_eq_true_eq] at h ⊢
      rcases Nat.lt_or_ge a b with hlt|hge
      · have:=List.pairwise_iff_getElem.1 hr a b ha hb hlt
        omega
      · obtain rfl:a=b:=by omega
        exact h)
  have hlen:l.length=(l.map (·.1)).toArray.size:=by simp
  rw [show (List.range l.length).countP (fun i=>!decide (t≤(l.map (·.1)).toArray[i]!))=placeS l t from by
   rw [hlen,Lib.countP_range (l.map (·.1)).toArray (fun y=>!decide (t≤y))];simp only [placeS,List.countP_map]
   rfl] at hS
  exact hS
 have HC:=jH hcall;have hc0:=k1 0;have hc1:=k4 0;simp only [List.getElem?_toArray,List.getElem?_cons_zero] at hc0 hc1
 clear hcall k1 k4 k7 hS1 hr hrow hR eg
 go_enter Tryz.func194,Tryz.ntmps194
 have q0:w.cell? ⟨S,0,none⟩=some (.slice A l.length c):=by simp only [World.cell?,hS];rfl
 go_wp2_with (go_at_call 220;rw [←hW];refine HC.out.mono ?_;rintro e w1 ⟨rfl,q1,os1,rfl⟩)
 go_ret
 exact ⟨rfl,by rw [←hW];exact bthen hbW (below_gd W _ _)⟩
end
section
open Go.RowKit Go.Lib Go.Sort
structure Nd where
 pol:Pol
 ruled:Bool
 ver:Nat
 smp:List Smp
 past:List Adv
 frz:Bool
def pol0:Pol:=⟨0,0,0,0,0,0⟩
def nd0:Nd:=⟨pol0,false,0,[],[],false⟩
end
section
open Go.RowKit Go.Lib
def prime64:Nat:=1099511628211
def basis64:Nat:=14695981039346656037
def stepH (h b:Nat):Nat:=(h ^^^ b) * prime64 % 18446744073709551616
def sumL (l:List UInt8):Nat:=l.foldl (fun h b=>stepH h b.toNat) basis64
theorem stepH_lt (h b:Nat):stepH h b<18446744073709551616:=Nat.mod_lt _ (by decide)
theorem foldl_lt (l:List UInt8) (h:Nat) (hh:h<18446744073709551616):l.foldl (fun h b=>stepH h b.toNat) h<18446744073709551616:=by
 induction l generalizing h with
 | nil=>exact hh
 | cons a l ih=>exact ih _ (stepH_lt _ _)
theorem basis_lt:basis64<18446744073709551616:=by unfold basis64;omega
theorem sumL_lt (l:List UInt8):sumL l<18446744073709551616:=by
 unfold sumL;exact foldl_lt l basis64 basis_lt
theorem sumL_snoc (l:List UInt8) (b:UInt8):sumL (l++[b])=stepH (sumL l) b.toNat:=by
 unfold sumL;rw [List.foldl_append,List.foldl_cons,List.foldl_nil]
theorem u64_wrap_mod (n:Nat):IntKind.u64.wrap (n:Int)=((n % 18446744073709551616:Nat):Int):=by
 have h:IntKind.u64.wrap (n:Int)=(n:Int) % 18446744073709551616:=by
  simp only [IntKind.wrap,IntKind.signed,IntKind.bits]
  simp
 rw [h];omega
theorem step_walk (h c:Nat) (hh:h<18446744073709551616) (hc:c<256) :
 IntKind.u64.wrap (bits BinOp.xor IntKind.u64 (h:Int) (c:Int) * 1099511628211)=(stepH h c:Nat):=by
 rw [u64_xor_nat h c hh (by omega)];have e:((h ^^^ c:Nat):Int) * 1099511628211=(((h ^^^ c) * prime64:Nat):Int):=by
  rw [Int.natCast_mul];rfl
 rw [e,u64_wrap_mod];rfl
theorem sum64_any (s:ByteArray) (w:World) (hm:s.size≤maxLen) :
 Calls Tryz.prog 234 #[.string s] w fun e w'=>e=.returned (.int .u64 (sumL s.data.toList:Nat))∧w=w':=by
 have hmm:s.size≤9223372036854775807:=hm
 go_enter Tryz.func234,Tryz.ntmps234
 go_wp2
 go_loop [3,4,7] (fun h _ i=>∃k:Nat,k≤s.size∧i=.int .i64 k∧h=.int .u64 (sumL (s.data.toList.take k):Nat)) (fun _ _ i=>s.size - (intOf i).toNat)
 case atStart=>exact ⟨0,Nat.zero_le _,rfl,rfl⟩
 case round =>
  obtain ⟨k,hk,rfl,rfl⟩:=hrel
  by_cases hlt:k<s.size
  · have hsn:sumL (s.data.toList.take (k+1))=stepH (sumL (s.data.toList.take k)) (s[k]).toNat:=by
     rw [List.take_succ_eq_append_getElem (by simpa using hlt),sumL_snoc];rfl
    have hb:=sumL_lt (s.data.toList.take k);generalize sumL (s.data.toList.take k)=h at hsn hb;have hc:(s[k]).toNat<256:=(s[k]).toNat_lt;have hst:=step_walk h _ hb hc;have Hsn:=jH hsn;have Hst:=jH hst;clear hsn hst;go_wp2
    go_round
    case rel=>exact ⟨k+1,hlt,by go_num,by rw [Hsn.out,Hst.out]⟩
    case measure=>simp [intOf];omega
  · obtain rfl:k=s.size:=by omega
    go_wp2
    go_ret
    refine ⟨ret_int ?_,rfl⟩;rw [List.take_of_length_le (by simp)]
end
section
open Go.RowKit Go.Lib
def twoV (n:Nat):Value:=.agg #[.int .u64 ((n / 18446744073709551616:Nat):Int),.int .u64 ((n % 18446744073709551616:Nat):Int)]
theorem or_fresh {x k:Nat} (h:2 ^ (k+1) ∣ x):x ||| 2 ^ k=x+2 ^ k:=by
 obtain ⟨a,rfl⟩:=h;exact (Nat.two_pow_add_eq_or_of_lt (Nat.pow_lt_pow_right (by decide) (by omega)) a).symm
def xD (n i:Nat):Nat:=n * 2 ^ i % 340282366920938463463374607431768211456
def aD (n i:Nat):Nat:=n / 2 ^ (128 - i)
def rD (n d i:Nat):Nat:=aD n i % d
def qD (n d i:Nat):Nat:=aD n i / d * 2 ^ (128 - i)
def bD (n i:Nat):Nat:=(n.testBit (127 - i)).toNat
theorem bD_le (n i:Nat):bD n i≤1:=by unfold bD;cases n.testBit (127 - i) <;> simp
theorem aD_succ {n i:Nat} (hi:i<128):aD n (i+1)=2 * aD n i+bD n i:=by
 unfold aD bD;have h:=top_bit n (127 - i);rw [show 127 - i+1=128 - i by omega] at h;rw [show 128 - (i+1)=127 - i by omega];exact h
theorem pow128:(340282366920938463463374607431768211456:Nat)=2 ^ 128:=by decide
theorem xD_bit {n i:Nat} (hi:i<128):xD n i / 170141183460469231731687303715884105728=bD n i:=by
 unfold xD bD;rw [bit_nat];have e:(170141183460469231731687303715884105728:Nat)=2 ^ i * 2 ^ (127 - i):=by rw [←Nat.pow_add,show i+(127 - i)=127 by omega]
 have e2:(340282366920938463463374607431768211456:Nat)=170141183460469231731687303715884105728 * 2:=by decide
 rw [e2,Nat.mod_mul_right_div_self,e,←Nat.div_div_eq_div_mul,Nat.mul_div_cancel _ (Nat.two_pow_pos i)]
theorem xD_succ (n i:Nat):xD n (i+1)=2 * xD n i % 340282366920938463463374607431768211456:=by
 unfold xD;rw [Nat.pow_succ,←Nat.mul_assoc];generalize n * 2 ^ i=y;omega
theorem xD_lt (n i:Nat):xD n i<340282366920938463463374607431768211456:=Nat.mod_lt _ (by decide)
theorem rD_lt {n d i:Nat} (hd:0<d):rD n d i<d:=Nat.mod_lt _ hd
theorem div_low {n d i:Nat} (hi:i<128) (hd:0<d) (h:2 * rD n d i+bD n i<d):rD n d (i+1)=2 * rD n d i+bD n i∧qD n d (i+1)=qD n d i:=by
 unfold rD qD at *;rw [aD_succ hi];have hm:=Nat.div_add_mod (aD n i) d;generalize aD n i / d=k at *;generalize aD n i % d=r at *;have e:2 * aD n i+bD n i=d * (2 * k)+(2 * r+bD n i):=by rw [←hm,Nat.mul_left_comm];omega
 rw [e,Nat.mul_add_mod,Nat.mod_eq_of_lt h,Nat.mul_add_div hd,Nat.div_eq_of_lt h];refine ⟨rfl,?_⟩;rw [show 128 - i=128 - (i+1)+1 by omega,Nat.pow_succ,Nat.add_zero,Nat.mul_comm 2 k,Nat.mul_assoc,Nat.mul_comm 2]
theorem div_high {n d i:Nat} (hi:i<128) (hd:0<d) (h:d≤2 * rD n d i+bD n i):rD n d (i+1)=2 * rD n d i+bD n i - d∧qD n d (i+1)=qD n d i+2 ^ (127 - i):=by
 have hr:=rD_lt (n:=n) (i:=i) hd;have hb:=bD_le n i;unfold rD qD at *;rw [aD_succ hi];have hm:=Nat.div_add_mod (aD n i) d;generalize aD n i / d=k at *;generalize aD n i % d=r at *;have e:2 * aD n i+bD n i=d * (2 * k+1)+(2 * r+bD n i - d):=by
  have e1:d * (2 * k+1)=2 * (d * k)+d:=by rw [Nat.mul_add,Nat.mul_one,Nat.mul_left_comm]
  rw [←hm,e1];omega
 have hlt:2 * r+bD n i - d<d:=by omega
 rw [e,Nat.mul_add_mod,Nat.mod_eq_of_lt hlt,Nat.mul_add_div hd,Nat.div_eq_of_lt hlt];refine ⟨rfl,?_⟩;rw [show 128 - i=128 - (i+1)+1 by omega,Nat.pow_succ,Nat.add_zero,Nat.add_mul,Nat.one_mul,show 128 - (i+1)=127 - i by omega,Nat.mul_comm 2 k,Nat.mul_assoc,Nat.mul_comm 2]
theorem qD_dvd (n d i:Nat):2 ^ (128 - i) ∣ qD n d i:=Nat.dvd_mul_left _ _
theorem qD_zero {n d:Nat} (hn:n<340282366920938463463374607431768211456):qD n d 0=0∧rD n d 0=0∧xD n 0=n:=by
 have h:n / 340282366920938463463374607431768211456=0:=Nat.div_eq_of_lt hn;refine ⟨?_,?_,?_⟩
 · unfold qD aD;rw [Nat.sub_zero,←pow128,h,Nat.zero_div,Nat.zero_mul]
 · unfold rD aD;rw [Nat.sub_zero,←pow128,h,Nat.zero_mod]
 · unfold xD;rw [Nat.pow_zero,Nat.mul_one,Nat.mod_eq_of_lt hn]
theorem qD_end (n d:Nat):qD n d 128=n / d∧rD n d 128=n % d:=by
 unfold qD rD aD;simp
theorem qD_lt {n d i:Nat} (hn:n<340282366920938463463374607431768211456) (hi:i≤128):qD n d i<340282366920938463463374607431768211456:=by
 unfold qD aD;have h1:=Nat.div_le_self (n / 2 ^ (128 - i)) d;have h2:=Nat.mul_le_mul_right (2 ^ (128 - i)) h1;have h3:=Nat.div_mul_le_self n (2 ^ (128 - i));omega
theorem q_hi {n d i:Nat} (hi:i<64) (hn:n<340282366920938463463374607431768211456) :
 (qD n d i+2 ^ (127 - i)) / 18446744073709551616=(qD n d i / 18446744073709551616 ||| 2 ^ (63 - i))∧(qD n d i+2 ^ (127 - i)) % 18446744073709551616=qD n d i % 18446744073709551616:=by
 obtain ⟨m,hm⟩:=qD_dvd n d i;have e1:2 ^ (127 - i)=18446744073709551616 * 2 ^ (63 - i):=by
  rw [show 127 - i=64+(63 - i) by omega,Nat.pow_add]
 have e2:2 ^ (128 - i)=18446744073709551616 * 2 ^ (63 - i+1):=by
  rw [show 128 - i=64+(63 - i+1) by omega,Nat.pow_add]
 have e3:qD n d i / 18446744073709551616=2 ^ (63 - i+1) * m:=by
  rw [hm,e2,Nat.mul_assoc,Nat.mul_div_cancel_left _ (by decide)]
 constructor
 · rw [e3,or_fresh (Nat.dvd_mul_right _ _),hm,e1,e2,Nat.mul_assoc,←Nat.mul_add,Nat.mul_div_cancel_left _ (by decide)]
 · rw [e1,Nat.add_mul_mod_self_left]
theorem q_lo {n d i:Nat} (h64:64≤i) (hi:i<128) :
 (qD n d i+2 ^ (127 - i)) / 18446744073709551616=qD n d i / 18446744073709551616∧(qD n d i+2 ^ (127 - i)) % 18446744073709551616=(qD n d i % 18446744073709551616 ||| 2 ^ (127 - i)):=by
 have hd:2 ^ (128 - i) ∣ qD n d i % 18446744073709551616:=by
  rw [Nat.dvd_mod_iff]
  · exact qD_dvd n d i
  · rw [show (18446744073709551616:Nat)=2 ^ 64 by decide]
    exact Nat.pow_dvd_pow 2 (by omega)
 have ho:(qD n d i % 18446744073709551616 ||| 2 ^ (127 - i))=qD n d i % 18446744073709551616+2 ^ (127 - i):=or_fresh (by rw [show 127 - i+1=128 - i by omega];exact hd);have hlt:qD n d i % 18446744073709551616+2 ^ (127 - i)<18446744073709551616:=by
  obtain ⟨m,hm⟩:=hd;have hx:=Nat.mod_lt (qD n d i) (show 0<18446744073709551616 by decide);have e:18446744073709551616=2 ^ (128 - i) * 2 ^ (i - 64):=by rw [←Nat.pow_add,show 128 - i+(i - 64)=64 by omega]
  have e1:2 ^ (128 - i)=2 * 2 ^ (127 - i):=by rw [show 128 - i=127 - i+1 by omega,Nat.pow_succ,Nat.mul_comm]
  have hp:=Nat.two_pow_pos (127 - i);rw [hm] at hx ⊢;have hm2:m<2 ^ (i - 64):=by
   rw [e] at hx;exact Nat.lt_of_mul_lt_mul_left hx
  have hm3:2 ^ (128 - i) * (m+1)≤2 ^ (128 - i) * 2 ^ (i - 64):=Nat.mul_le_mul_left _ hm2;rw [Nat.mul_add,Nat.mul_one,←e] at hm3;omega
 rw [ho];generalize qD n d i=q at *;generalize 2 ^ (127 - i)=p at *;omega
theorem dbl_words (x:Nat) (hx:x<340282366920938463463374607431768211456) :
 (2 * x % 340282366920938463463374607431768211456) / 18446744073709551616=2 * (x / 18446744073709551616) % 18446744073709551616+x % 18446744073709551616 / 9223372036854775808 ∧
 (2 * x % 340282366920938463463374607431768211456) % 18446744073709551616=2 * (x % 18446744073709551616) % 18446744073709551616∧x / 18446744073709551616 / 9223372036854775808=x / 170141183460469231731687303715884105728:=by
 omega
end
section
open Go.RowKit Go.Lib
theorem tdiv_pos {a b:Int} (ha:0≤a):a.tdiv b=a / b:=Int.tdiv_eq_ediv_of_nonneg ha
end
end Go.Proofs.YtkcdhaallnhhmaaGreat
